/- The contracts of the program's functions. -/
import Derived.Test.YtgicjbeaomjdgaaProg
import Derived.Test.YtgicjbeaomjdgaaFxViewOfU
import Derived.KernelRfl
namespace Go.Proofs.Ytgicjbeaomjdgaa.L
open Go Go.Proofs
set_option linter.unusedVariables false
set_option linter.unusedSimpArgs false
def Int_c (x : Int) : List T := [.s (.int .i64 x)]
theorem Int_c_n : ∀ x, (Int_c x).length = 1 := fun _ => rfl
theorem Int_c_f : ∀ x, (Int_c x).length = 1 ∧ ∀ c ∈ Int_c x, ∃ v, c = T.s v := fun x => ⟨rfl, by simp [Int_c]⟩
theorem Int_c_z : ∀ x, fzL (Int_c x) = Int_c x := fun _ => rfl
def Row_i (x : Row) : List T := [.s (.int .i64 x.Id), .im false (rowsOf Int_c x.Cells)]
theorem Row_i_n : ∀ x, (Row_i x).length = 2 := fun _ => rfl
def RowS_i (x : (List Row)) : List T := [.im false (rowsOf Row_i x)]
theorem RowS_i_n : ∀ x, (RowS_i x).length = 1 := fun _ => rfl
def Cond_c (x : Cond) : List T := [.s (.int .i64 x.Col), .s (.int .i64 x.Op), .s (.int .i64 x.V)]
theorem Cond_c_n : ∀ x, (Cond_c x).length = 3 := fun _ => rfl
theorem Cond_c_f : ∀ x, (Cond_c x).length = 3 ∧ ∀ c ∈ Cond_c x, ∃ v, c = T.s v := fun x => ⟨rfl, by simp [Cond_c]⟩
theorem Cond_c_z : ∀ x, fzL (Cond_c x) = Cond_c x := fun _ => rfl
def Row_o (x : Row) : List T := [.s (.int .i64 x.Id), .ow 3 (rowsOf Int_c x.Cells)]
theorem Row_o_n : ∀ x, (Row_o x).length = 2 := fun _ => rfl
theorem Row_o_z : ∀ x, fzL (Row_o x) = Row_i x := by
  intro x
  simp only [Row_o, Row_i, fzL, T.fz, fr_rows Int_c_z]
def RowS_o (x : (List Row)) : List T := [.ow 66 (rowsOf Row_o x)]
theorem RowS_o_n : ∀ x, (RowS_o x).length = 1 := fun _ => rfl
theorem RowS_o_z : ∀ x, fzL (RowS_o x) = RowS_i x := by
  intro x
  simp only [RowS_o, RowS_i, fzL, T.fz, fr_rows Row_o_z]
def Kid_c (x : Kid) : List T := [.s (.int .i64 x.Id), .s (.int .i64 x.N)]
theorem Kid_c_n : ∀ x, (Kid_c x).length = 2 := fun _ => rfl
theorem Kid_c_f : ∀ x, (Kid_c x).length = 2 ∧ ∀ c ∈ Kid_c x, ∃ v, c = T.s v := fun x => ⟨rfl, by simp [Kid_c]⟩
theorem Kid_c_z : ∀ x, fzL (Kid_c x) = Kid_c x := fun _ => rfl
def tab : List (Nat × Ty) := [(3, Ty.mk false 1 8 0 [] [.int .i64 0] (some .i64) false false false false none),
  (4, Ty.mk false 1 1 0 [] [.bool false] (none) true false false false none),
  (22, Ty.mk false 1 24 3 [] [.slice none 0 0] (none) false false true false none),
  (24, Ty.mk true 1 24 0 [(0, 1)] [.slice none 0 0] (none) false false false false none),
  (25, Ty.mk false 1 24 89 [] [.slice none 0 0] (none) false false true false none),
  (27, Ty.mk true 3 56 0 [(0, 1), (1, 1), (2, 1)] [.slice none 0 0, .int .i64 0, .slice none 0 0] (none) false false false false none),
  (28, Ty.mk false 1 24 98 [] [.slice none 0 0] (none) false false true false none),
  (30, Ty.mk true 9 104 0 [(0, 1), (1, 1), (2, 1), (3, 1), (4, 1), (5, 1), (6, 1), (7, 1), (8, 1)] [.int .i64 0, .slice none 0 0, .int .i64 0, .bool false, .int .i64 0, .slice none 0 0, .bool false, .int .i64 0, .int .i64 0] (none) false false false false none),
  (33, Ty.mk false 1 24 66 [] [.slice none 0 0] (none) false false true false none),
  (35, Ty.mk true 1 24 0 [(0, 1)] [.slice none 0 0] (none) false false false false none),
  (36, Ty.mk false 1 24 33 [] [.slice none 0 0] (none) false false true false none),
  (38, Ty.mk true 3 56 0 [(0, 1), (1, 1), (2, 1)] [.slice none 0 0, .int .i64 0, .slice none 0 0] (none) false false false false none),
  (40, Ty.mk false 1 24 94 [] [.slice none 0 0] (none) false false true false none),
  (42, Ty.mk true 9 104 0 [(0, 1), (1, 1), (2, 1), (3, 1), (4, 1), (5, 1), (6, 1), (7, 1), (8, 1)] [.int .i64 0, .slice none 0 0, .int .i64 0, .bool false, .int .i64 0, .slice none 0 0, .bool false, .int .i64 0, .int .i64 0] (none) false false false false none),
  (51, Ty.mk false 1 24 105 [] [.slice none 0 0] (none) false false true false none),
  (53, Ty.mk true 11 152 0 [(0, 9), (9, 1), (10, 1)] [.int .i64 0, .slice none 0 0, .int .i64 0, .bool false, .int .i64 0, .slice none 0 0, .bool false, .int .i64 0, .int .i64 0, .slice none 0 0, .slice none 0 0] (none) false false false false none),
  (66, Ty.mk true 2 32 0 [(0, 1), (1, 1)] [.int .i64 0, .slice none 0 0] (none) false false false false none),
  (89, Ty.mk false 1 24 109 [] [.slice none 0 0] (none) false false true false none),
  (94, Ty.mk true 3 24 0 [(0, 1), (1, 1), (2, 1)] [.int .i64 0, .int .i64 0, .int .i64 0] (none) false false false false none),
  (98, Ty.mk true 3 24 0 [(0, 1), (1, 1), (2, 1)] [.int .i64 0, .int .i64 0, .int .i64 0] (none) false false false false none),
  (105, Ty.mk true 2 16 0 [(0, 1), (1, 1)] [.int .i64 0, .int .i64 0] (none) false false false false none),
  (109, Ty.mk true 2 32 0 [(0, 1), (1, 1)] [.int .i64 0, .slice none 0 0] (none) false false false false none),
  (115, Ty.mk false 1 8 0 [] [.int .u64 0] (some .u64) false false false false none)]
theorem tab_ok : TabOk Try.prog tab := TabOk.of (l := [(3, false), (4, false), (22, false), (24, false), (25, false), (27, false), (28, false), (30, false), (33, false), (35, false), (36, false), (38, false), (40, false), (42, false), (51, false), (53, false), (66, false), (89, false), (94, false), (98, false), (105, false), (109, false), (115, false)]) (by kernel_rfl)
theorem mixed : Try.prog.follows .mixedOrders = true := by rfl

set_option maxRecDepth 8000 in
theorem laws_eqIntS_ac {a0 : List Int} {a1 : List Int} {r : Bool} (h : laws_eqIntS.f a0 a1 = some r) : AC Try.prog 46 [.v (.im false (rowsOf Int_c a0)), .v (.im false (rowsOf Int_c a1))] [.v (.jk), .v (.jk)] [.v (.s (.bool r))] := by
  unfold laws_eqIntS.f at h
  let ar := Ls.ar; let cm := Ls.cm; let bo := Ls.bo; let sc := Ls.sc; let sa := Ls.sa; let sx := Ls.sx; let ss := Ls.ss; let sl := Ls.sl; let bs := Ls.bs; let sb := Ls.sb; let ln := Ls.ln; let sr := Ls.sr; let ap := Ls.ap; let up := Ls.up; let rp := Ls.rp; let fr := Ls.fr; let ge := Ls.ge; let le := Ls.le; let lt := Ls.lt; let nz := Ls.nz; let mm := Ls.mm; let ma := Ls.ma; let sm := Ls.sm; let fl := Ls.fl; let al := Ls.al; let ci := Ls.ci
  let eInt_c := rowsOf Int_c
  let lenI_Int := @lenI Int
  have hL : (⟨ar, cm, bo, sc, sa, sx, ss, sl, bs, sb, ln, sr, ap, up, rp, fr, ge, le, lt, nz, mm, ma, sm, fl, al, ci⟩ : Lf) = Ls := rfl
  show AC Try.prog 46 [.v (.im false (eInt_c a0)), .v (.im false (eInt_c a1))] _ _
  refine AC.of_run2 tab_ok Try.func46 (by rfl) (by rfl) (by cbv) ⟨by decide, rfl⟩ fun F hP hA => ?_
  have hT : TabOk F.P tab := hP ▸ tab_ok
  have hM : F.P.follows .mixedOrders = true := hP ▸ mixed
  have hC : ∀ {f a o r}, AC Try.prog f a o r → AC F.P f a o r := fun h => hP ▸ h
  refine Run.seq ?_
  refine Run.region hL hT [] (by cbv) ?_ ?_
  · exact hq0
  refine Run.seq ?_
  refine Run.seq ?_
  refine Run.region hL hT [] (by cbv) ?_ ?_
  · exact (hq trivial hq0)
  rw [show ln (eInt_c a0) = lenI_Int a0 from ln_eq Int_c _]
  rw [show ln (eInt_c a1) = lenI_Int a1 from ln_eq Int_c _]
  refine Run.cond (by cbv) (hq0) (fun c1 => ?_) (fun c1 => ?_)
  · have h := if_t c1 h
    refine Run.seq ?_
    refine Run.region hL hT [] (by cbv) ?_ ?_
    · exact hq0
    refine Run.ret ?_
    cases h
    refine ⟨_, _, by cbv, ?_, ?_⟩
    · exact LLe.r
    · exact (ALe.v LLe.r ALe.nil)
  · have h := if_f c1 h
    refine Run.skip ?_
    refine Run.seq ?_
    refine Run.seq ?_
    refine Run.region hL hT [] (by cbv) ?_ ?_
    · exact hq0
    refine Run.block ?_
    refine Run.loop1 (fun (z5 : Int) => ⟨26, 100000, [(0, .t (.im false (eInt_c a0))), (1, .t (.im false (eInt_c a1))), (5, .t (.s (.int .i64 z5)))], []⟩) (x0 := 0) h (Weak.of _ [] hA (by cbv) ?_) (fun _ => rfl) ?_
    · repeat (first | exact hq0 | refine hq (by first | exact True.intro | rfl) ?_)
    · intro k z5 h
      rw [laws_eqIntS.l0] at h
      refine Run.seq ?_
      refine Run.seq ?_
      refine Run.region hL hT [] (by cbv) ?_ ?_
      · exact (hq trivial hq0)
      rw [show ln (eInt_c a0) = lenI_Int a0 from ln_eq Int_c _]
      refine Run.cond (by cbv) (hq0) (fun c6 => ?_) (fun c6 => ?_)
      · have h := if_t c6 h
        refine Run.skip ?_
        refine Run.seq ?_
        refine Run.block ?_
        refine Run.seq ?_
        obtain ⟨x7, h_x7, h⟩ := bnd h
        obtain ⟨x8, h_x8, h⟩ := bnd h
        refine Run.draw hL hT hM [(2, .el [.s (.int .i64 x7)]), (6, .el [.s (.int .i64 x8)])] (by cbv) (by cbv) (by cbv) (by cbv) (by cbv) ?_ ?_
        · exact (hq (get_le h_x7) (hq (get_lt (f := Int_c) h_x7) (hq (get_ge (f := Int_c) h_x7) (hq (get_le h_x8) (hq (get_lt (f := Int_c) h_x8) (hq (get_ge (f := Int_c) h_x8) (hq trivial hq0)))))))
        refine Run.cond (by cbv) (hq0) (fun c9 => ?_) (fun c9 => ?_)
        · have h := if_t c9 h
          refine Run.seq ?_
          refine Run.region hL hT [] (by cbv) ?_ ?_
          · exact hq0
          refine Run.ret ?_
          cases h
          refine ⟨_, _, by cbv, ?_, ?_⟩
          · exact LLe.r
          · exact (ALe.v LLe.r ALe.nil)
        · have h := if_f c9 h
          refine Run.skip ?_
          refine Run.region hL hT [] (by cbv) ?_ ?_
          · exact (hq trivial hq0)
          refine ⟨(ar .add .i64 z5 1), h, Weak.of _ [] hA (by cbv) ?_⟩
          repeat (first | exact hq0 | refine hq (by first | exact True.intro | rfl) ?_)
      · have h := if_f c6 h
        refine Run.exit ?_
        refine Run.seq ?_
        refine Run.region hL hT [] (by cbv) ?_ ?_
        · exact hq0
        refine Run.ret ?_
        cases h
        refine ⟨_, _, by cbv, ?_, ?_⟩
        · exact LLe.r
        · exact (ALe.v LLe.r ALe.nil)

set_option maxRecDepth 8000 in
theorem laws_eqSchema_ac {a0v_Cols : List Int} {a1v_Cols : List Int} {r : Bool} (h : laws_eqSchema.f (Schema.mk a0v_Cols) (Schema.mk a1v_Cols) = some r) : AC Try.prog 43 [.ag [.im false (rowsOf Int_c a0v_Cols)], .ag [.im false (rowsOf Int_c a1v_Cols)]] [.ag [.jk], .ag [.jk]] [.v (.s (.bool r))] := by
  unfold laws_eqSchema.f at h
  let ar := Ls.ar; let cm := Ls.cm; let bo := Ls.bo; let sc := Ls.sc; let sa := Ls.sa; let sx := Ls.sx; let ss := Ls.ss; let sl := Ls.sl; let bs := Ls.bs; let sb := Ls.sb; let ln := Ls.ln; let sr := Ls.sr; let ap := Ls.ap; let up := Ls.up; let rp := Ls.rp; let fr := Ls.fr; let ge := Ls.ge; let le := Ls.le; let lt := Ls.lt; let nz := Ls.nz; let mm := Ls.mm; let ma := Ls.ma; let sm := Ls.sm; let fl := Ls.fl; let al := Ls.al; let ci := Ls.ci
  let eInt_c := rowsOf Int_c
  have hL : (⟨ar, cm, bo, sc, sa, sx, ss, sl, bs, sb, ln, sr, ap, up, rp, fr, ge, le, lt, nz, mm, ma, sm, fl, al, ci⟩ : Lf) = Ls := rfl
  show AC Try.prog 43 [.ag [.im false (eInt_c a0v_Cols)], .ag [.im false (eInt_c a1v_Cols)]] _ _
  refine AC.of_run2 tab_ok Try.func43 (by rfl) (by rfl) (by cbv) ⟨by decide, rfl⟩ fun F hP hA => ?_
  have hT : TabOk F.P tab := hP ▸ tab_ok
  have hM : F.P.follows .mixedOrders = true := hP ▸ mixed
  have hC : ∀ {f a o r}, AC Try.prog f a o r → AC F.P f a o r := fun h => hP ▸ h
  refine Run.seq ?_
  refine Run.region hL hT [] (by cbv) ?_ ?_
  · exact hq0
  refine Run.seq ?_
  refine Run.seq ?_
  obtain ⟨r1, h_r1, h⟩ := bnd h
  refine Run.region hL hT [(4, .call [false, false] [.v (.jk), .v (.jk)] [.v (.s (.bool r1))])] (by cbv) ?_ ?_
  · exact (hq trivial (hq trivial (hq (hC (laws_eqIntS_ac h_r1)) hq0)))
  refine Run.cond (by cbv) (hq0) (fun c2 => ?_) (fun c2 => ?_)
  · have h := if_t c2 h
    refine Run.seq ?_
    refine Run.region hL hT [] (by cbv) ?_ ?_
    · exact hq0
    refine Run.ret ?_
    cases h
    refine ⟨_, _, by cbv, ?_, ?_⟩
    · exact LLe.r
    · exact (ALe.v LLe.r ALe.nil)
  · have h := if_f c2 h
    refine Run.skip ?_
    refine Run.seq ?_
    refine Run.region hL hT [] (by cbv) ?_ ?_
    · exact hq0
    refine Run.ret ?_
    cases h
    refine ⟨_, _, by cbv, ?_, ?_⟩
    · exact LLe.r
    · exact (ALe.v LLe.r ALe.nil)

set_option maxRecDepth 8000 in
theorem laws_eqRow_ac {a0v_Id : Int} {a0v_Cells : List Int} {a1v_Id : Int} {a1v_Cells : List Int} {r : Bool} (h : laws_eqRow.f (Row.mk a0v_Id a0v_Cells) (Row.mk a1v_Id a1v_Cells) = some r) : AC Try.prog 42 [.ag [.s (.int .i64 a0v_Id), .im false (rowsOf Int_c a0v_Cells)], .ag [.s (.int .i64 a1v_Id), .im false (rowsOf Int_c a1v_Cells)]] [.ag [.jk, .jk], .ag [.jk, .jk]] [.v (.s (.bool r))] := by
  unfold laws_eqRow.f at h
  let ar := Ls.ar; let cm := Ls.cm; let bo := Ls.bo; let sc := Ls.sc; let sa := Ls.sa; let sx := Ls.sx; let ss := Ls.ss; let sl := Ls.sl; let bs := Ls.bs; let sb := Ls.sb; let ln := Ls.ln; let sr := Ls.sr; let ap := Ls.ap; let up := Ls.up; let rp := Ls.rp; let fr := Ls.fr; let ge := Ls.ge; let le := Ls.le; let lt := Ls.lt; let nz := Ls.nz; let mm := Ls.mm; let ma := Ls.ma; let sm := Ls.sm; let fl := Ls.fl; let al := Ls.al; let ci := Ls.ci
  let eInt_c := rowsOf Int_c
  have hL : (⟨ar, cm, bo, sc, sa, sx, ss, sl, bs, sb, ln, sr, ap, up, rp, fr, ge, le, lt, nz, mm, ma, sm, fl, al, ci⟩ : Lf) = Ls := rfl
  show AC Try.prog 42 [.ag [.s (.int .i64 a0v_Id), .im false (eInt_c a0v_Cells)], .ag [.s (.int .i64 a1v_Id), .im false (eInt_c a1v_Cells)]] _ _
  refine AC.of_run2 tab_ok Try.func42 (by rfl) (by rfl) (by cbv) ⟨by decide, rfl⟩ fun F hP hA => ?_
  have hT : TabOk F.P tab := hP ▸ tab_ok
  have hM : F.P.follows .mixedOrders = true := hP ▸ mixed
  have hC : ∀ {f a o r}, AC Try.prog f a o r → AC F.P f a o r := fun h => hP ▸ h
  refine Run.seq ?_
  refine Run.region hL hT [] (by cbv) ?_ ?_
  · exact hq0
  refine Run.seq ?_
  refine Run.seq ?_
  refine Run.region hL hT [] (by cbv) ?_ ?_
  · exact (hq trivial (hq trivial (hq trivial hq0)))
  refine Run.cond (by cbv) (hq0) (fun c1 => ?_) (fun c1 => ?_)
  · have h := if_t c1 h
    refine Run.seq ?_
    refine Run.region hL hT [] (by cbv) ?_ ?_
    · exact hq0
    refine Run.ret ?_
    cases h
    refine ⟨_, _, by cbv, ?_, ?_⟩
    · exact LLe.r
    · exact (ALe.v LLe.r ALe.nil)
  · have h := if_f c1 h
    refine Run.skip ?_
    refine Run.seq ?_
    refine Run.seq ?_
    obtain ⟨r2, h_r2, h⟩ := bnd h
    refine Run.region hL hT [(4, .call [false, false] [.v (.jk), .v (.jk)] [.v (.s (.bool r2))])] (by cbv) ?_ ?_
    · exact (hq trivial (hq trivial (hq (hC (laws_eqIntS_ac h_r2)) hq0)))
    refine Run.cond (by cbv) (hq0) (fun c3 => ?_) (fun c3 => ?_)
    · have h := if_t c3 h
      refine Run.seq ?_
      refine Run.region hL hT [] (by cbv) ?_ ?_
      · exact hq0
      refine Run.ret ?_
      cases h
      refine ⟨_, _, by cbv, ?_, ?_⟩
      · exact LLe.r
      · exact (ALe.v LLe.r ALe.nil)
    · have h := if_f c3 h
      refine Run.skip ?_
      refine Run.seq ?_
      refine Run.region hL hT [] (by cbv) ?_ ?_
      · exact hq0
      refine Run.ret ?_
      cases h
      refine ⟨_, _, by cbv, ?_, ?_⟩
      · exact LLe.r
      · exact (ALe.v LLe.r ALe.nil)

set_option maxRecDepth 8000 in
theorem laws_eqRowS_ac {a0 : List Row} {a1 : List Row} {r : Bool} (h : laws_eqRowS.f a0 a1 = some r) : AC Try.prog 11 [.v (.im false (rowsOf Row_i a0)), .v (.im false (rowsOf Row_i a1))] [.v (.jk), .v (.jk)] [.v (.s (.bool r))] := by
  unfold laws_eqRowS.f at h
  let ar := Ls.ar; let cm := Ls.cm; let bo := Ls.bo; let sc := Ls.sc; let sa := Ls.sa; let sx := Ls.sx; let ss := Ls.ss; let sl := Ls.sl; let bs := Ls.bs; let sb := Ls.sb; let ln := Ls.ln; let sr := Ls.sr; let ap := Ls.ap; let up := Ls.up; let rp := Ls.rp; let fr := Ls.fr; let ge := Ls.ge; let le := Ls.le; let lt := Ls.lt; let nz := Ls.nz; let mm := Ls.mm; let ma := Ls.ma; let sm := Ls.sm; let fl := Ls.fl; let al := Ls.al; let ci := Ls.ci
  let eInt_c := rowsOf Int_c
  let eRow_i := rowsOf Row_i
  let lenI_Row := @lenI Row
  have hL : (⟨ar, cm, bo, sc, sa, sx, ss, sl, bs, sb, ln, sr, ap, up, rp, fr, ge, le, lt, nz, mm, ma, sm, fl, al, ci⟩ : Lf) = Ls := rfl
  show AC Try.prog 11 [.v (.im false (eRow_i a0)), .v (.im false (eRow_i a1))] _ _
  refine AC.of_run2 tab_ok Try.func11 (by rfl) (by rfl) (by cbv) ⟨by decide, rfl⟩ fun F hP hA => ?_
  have hT : TabOk F.P tab := hP ▸ tab_ok
  have hM : F.P.follows .mixedOrders = true := hP ▸ mixed
  have hC : ∀ {f a o r}, AC Try.prog f a o r → AC F.P f a o r := fun h => hP ▸ h
  refine Run.seq ?_
  refine Run.region hL hT [] (by cbv) ?_ ?_
  · exact hq0
  refine Run.seq ?_
  refine Run.seq ?_
  refine Run.region hL hT [] (by cbv) ?_ ?_
  · exact (hq trivial hq0)
  rw [show ln (eRow_i a0) = lenI_Row a0 from ln_eq Row_i _]
  rw [show ln (eRow_i a1) = lenI_Row a1 from ln_eq Row_i _]
  refine Run.cond (by cbv) (hq0) (fun c1 => ?_) (fun c1 => ?_)
  · have h := if_t c1 h
    refine Run.seq ?_
    refine Run.region hL hT [] (by cbv) ?_ ?_
    · exact hq0
    refine Run.ret ?_
    cases h
    refine ⟨_, _, by cbv, ?_, ?_⟩
    · exact LLe.r
    · exact (ALe.v LLe.r ALe.nil)
  · have h := if_f c1 h
    refine Run.skip ?_
    refine Run.seq ?_
    refine Run.seq ?_
    refine Run.region hL hT [] (by cbv) ?_ ?_
    · exact hq0
    refine Run.block ?_
    refine Run.loop1 (fun (z5 : Int) => ⟨27, 100000, [(0, .t (.im false (eRow_i a0))), (1, .t (.im false (eRow_i a1))), (5, .t (.s (.int .i64 z5)))], []⟩) (x0 := 0) h (Weak.of _ [] hA (by cbv) ?_) (fun _ => rfl) ?_
    · repeat (first | exact hq0 | refine hq (by first | exact True.intro | rfl) ?_)
    · intro k z5 h
      rw [laws_eqRowS.l0] at h
      refine Run.seq ?_
      refine Run.seq ?_
      refine Run.region hL hT [] (by cbv) ?_ ?_
      · exact (hq trivial hq0)
      rw [show ln (eRow_i a0) = lenI_Row a0 from ln_eq Row_i _]
      refine Run.cond (by cbv) (hq0) (fun c6 => ?_) (fun c6 => ?_)
      · have h := if_t c6 h
        refine Run.skip ?_
        refine Run.seq ?_
        refine Run.block ?_
        refine Run.seq ?_
        obtain ⟨⟨x7v_Id, x7v_Cells⟩, h_x7, h⟩ := bnd h
        obtain ⟨⟨x8v_Id, x8v_Cells⟩, h_x8, h⟩ := bnd h
        obtain ⟨r9, h_r9, h⟩ := bnd h
        refine Run.draw hL hT hM [(2, .el [.s (.int .i64 x7v_Id), .im false (eInt_c x7v_Cells)]), (6, .el [.s (.int .i64 x8v_Id), .im false (eInt_c x8v_Cells)]), (8, .call [false, false] [.ag [.jk, .jk], .ag [.jk, .jk]] [.v (.s (.bool r9))])] (by cbv) (by cbv) (by cbv) (by cbv) (by cbv) ?_ ?_
        · exact (hq (get_le h_x7) (hq (get_lt (f := Row_i) h_x7) (hq (get_ge (f := Row_i) h_x7) (hq (get_le h_x8) (hq (get_lt (f := Row_i) h_x8) (hq (get_ge (f := Row_i) h_x8) (hq (hC (laws_eqRow_ac h_r9)) hq0)))))))
        refine Run.cond (by cbv) (hq0) (fun c10 => ?_) (fun c10 => ?_)
        · have h := if_t c10 h
          refine Run.seq ?_
          refine Run.region hL hT [] (by cbv) ?_ ?_
          · exact hq0
          refine Run.ret ?_
          cases h
          refine ⟨_, _, by cbv, ?_, ?_⟩
          · exact LLe.r
          · exact (ALe.v LLe.r ALe.nil)
        · have h := if_f c10 h
          refine Run.skip ?_
          refine Run.region hL hT [] (by cbv) ?_ ?_
          · exact (hq trivial hq0)
          refine ⟨(ar .add .i64 z5 1), h, Weak.of _ [] hA (by cbv) ?_⟩
          repeat (first | exact hq0 | refine hq (by first | exact True.intro | rfl) ?_)
      · have h := if_f c6 h
        refine Run.exit ?_
        refine Run.seq ?_
        refine Run.region hL hT [] (by cbv) ?_ ?_
        · exact hq0
        refine Run.ret ?_
        cases h
        refine ⟨_, _, by cbv, ?_, ?_⟩
        · exact LLe.r
        · exact (ALe.v LLe.r ALe.nil)

set_option maxRecDepth 8000 in
theorem laws_eqRowSS_ac {a0 : List (List Row)} {a1 : List (List Row)} {r : Bool} (h : laws_eqRowSS.f a0 a1 = some r) : AC Try.prog 44 [.v (.im false (rowsOf RowS_i a0)), .v (.im false (rowsOf RowS_i a1))] [.v (.jk), .v (.jk)] [.v (.s (.bool r))] := by
  unfold laws_eqRowSS.f at h
  let ar := Ls.ar; let cm := Ls.cm; let bo := Ls.bo; let sc := Ls.sc; let sa := Ls.sa; let sx := Ls.sx; let ss := Ls.ss; let sl := Ls.sl; let bs := Ls.bs; let sb := Ls.sb; let ln := Ls.ln; let sr := Ls.sr; let ap := Ls.ap; let up := Ls.up; let rp := Ls.rp; let fr := Ls.fr; let ge := Ls.ge; let le := Ls.le; let lt := Ls.lt; let nz := Ls.nz; let mm := Ls.mm; let ma := Ls.ma; let sm := Ls.sm; let fl := Ls.fl; let al := Ls.al; let ci := Ls.ci
  let eRowS_i := rowsOf RowS_i
  let eRow_i := rowsOf Row_i
  let lenI_RowS := @lenI (List Row)
  have hL : (⟨ar, cm, bo, sc, sa, sx, ss, sl, bs, sb, ln, sr, ap, up, rp, fr, ge, le, lt, nz, mm, ma, sm, fl, al, ci⟩ : Lf) = Ls := rfl
  show AC Try.prog 44 [.v (.im false (eRowS_i a0)), .v (.im false (eRowS_i a1))] _ _
  refine AC.of_run2 tab_ok Try.func44 (by rfl) (by rfl) (by cbv) ⟨by decide, rfl⟩ fun F hP hA => ?_
  have hT : TabOk F.P tab := hP ▸ tab_ok
  have hM : F.P.follows .mixedOrders = true := hP ▸ mixed
  have hC : ∀ {f a o r}, AC Try.prog f a o r → AC F.P f a o r := fun h => hP ▸ h
  refine Run.seq ?_
  refine Run.region hL hT [] (by cbv) ?_ ?_
  · exact hq0
  refine Run.seq ?_
  refine Run.seq ?_
  refine Run.region hL hT [] (by cbv) ?_ ?_
  · exact (hq trivial hq0)
  rw [show ln (eRowS_i a0) = lenI_RowS a0 from ln_eq RowS_i _]
  rw [show ln (eRowS_i a1) = lenI_RowS a1 from ln_eq RowS_i _]
  refine Run.cond (by cbv) (hq0) (fun c1 => ?_) (fun c1 => ?_)
  · have h := if_t c1 h
    refine Run.seq ?_
    refine Run.region hL hT [] (by cbv) ?_ ?_
    · exact hq0
    refine Run.ret ?_
    cases h
    refine ⟨_, _, by cbv, ?_, ?_⟩
    · exact LLe.r
    · exact (ALe.v LLe.r ALe.nil)
  · have h := if_f c1 h
    refine Run.skip ?_
    refine Run.seq ?_
    refine Run.seq ?_
    refine Run.region hL hT [] (by cbv) ?_ ?_
    · exact hq0
    refine Run.block ?_
    refine Run.loop1 (fun (z5 : Int) => ⟨27, 100000, [(0, .t (.im false (eRowS_i a0))), (1, .t (.im false (eRowS_i a1))), (5, .t (.s (.int .i64 z5)))], []⟩) (x0 := 0) h (Weak.of _ [] hA (by cbv) ?_) (fun _ => rfl) ?_
    · repeat (first | exact hq0 | refine hq (by first | exact True.intro | rfl) ?_)
    · intro k z5 h
      rw [laws_eqRowSS.l0] at h
      refine Run.seq ?_
      refine Run.seq ?_
      refine Run.region hL hT [] (by cbv) ?_ ?_
      · exact (hq trivial hq0)
      rw [show ln (eRowS_i a0) = lenI_RowS a0 from ln_eq RowS_i _]
      refine Run.cond (by cbv) (hq0) (fun c6 => ?_) (fun c6 => ?_)
      · have h := if_t c6 h
        refine Run.skip ?_
        refine Run.seq ?_
        refine Run.block ?_
        refine Run.seq ?_
        obtain ⟨x7, h_x7, h⟩ := bnd h
        obtain ⟨x8, h_x8, h⟩ := bnd h
        obtain ⟨r9, h_r9, h⟩ := bnd h
        refine Run.draw hL hT hM [(2, .el [.im false (eRow_i x7)]), (6, .el [.im false (eRow_i x8)]), (8, .call [false, false] [.v (.jk), .v (.jk)] [.v (.s (.bool r9))])] (by cbv) (by cbv) (by cbv) (by cbv) (by cbv) ?_ ?_
        · exact (hq (get_le h_x7) (hq (get_lt (f := RowS_i) h_x7) (hq (get_ge (f := RowS_i) h_x7) (hq (get_le h_x8) (hq (get_lt (f := RowS_i) h_x8) (hq (get_ge (f := RowS_i) h_x8) (hq (hC (laws_eqRowS_ac h_r9)) hq0)))))))
        refine Run.cond (by cbv) (hq0) (fun c10 => ?_) (fun c10 => ?_)
        · have h := if_t c10 h
          refine Run.seq ?_
          refine Run.region hL hT [] (by cbv) ?_ ?_
          · exact hq0
          refine Run.ret ?_
          cases h
          refine ⟨_, _, by cbv, ?_, ?_⟩
          · exact LLe.r
          · exact (ALe.v LLe.r ALe.nil)
        · have h := if_f c10 h
          refine Run.skip ?_
          refine Run.region hL hT [] (by cbv) ?_ ?_
          · exact (hq trivial hq0)
          refine ⟨(ar .add .i64 z5 1), h, Weak.of _ [] hA (by cbv) ?_⟩
          repeat (first | exact hq0 | refine hq (by first | exact True.intro | rfl) ?_)
      · have h := if_f c6 h
        refine Run.exit ?_
        refine Run.seq ?_
        refine Run.region hL hT [] (by cbv) ?_ ?_
        · exact hq0
        refine Run.ret ?_
        cases h
        refine ⟨_, _, by cbv, ?_, ?_⟩
        · exact LLe.r
        · exact (ALe.v LLe.r ALe.nil)

set_option maxRecDepth 8000 in
theorem laws_eqStore_ac {a0v_Schemav_Cols : List Int} {a0v_Version : Int} {a0v_Tables : List (List Row)} {a1v_Schemav_Cols : List Int} {a1v_Version : Int} {a1v_Tables : List (List Row)} {r : Bool} (h : laws_eqStore.f (Store.mk (Schema.mk a0v_Schemav_Cols) a0v_Version a0v_Tables) (Store.mk (Schema.mk a1v_Schemav_Cols) a1v_Version a1v_Tables) = some r) : AC Try.prog 12 [.ag [.im false (rowsOf Int_c a0v_Schemav_Cols), .s (.int .i64 a0v_Version), .im false (rowsOf RowS_i a0v_Tables)], .ag [.im false (rowsOf Int_c a1v_Schemav_Cols), .s (.int .i64 a1v_Version), .im false (rowsOf RowS_i a1v_Tables)]] [.ag [.jk, .jk, .jk], .ag [.jk, .jk, .jk]] [.v (.s (.bool r))] := by
  unfold laws_eqStore.f at h
  let ar := Ls.ar; let cm := Ls.cm; let bo := Ls.bo; let sc := Ls.sc; let sa := Ls.sa; let sx := Ls.sx; let ss := Ls.ss; let sl := Ls.sl; let bs := Ls.bs; let sb := Ls.sb; let ln := Ls.ln; let sr := Ls.sr; let ap := Ls.ap; let up := Ls.up; let rp := Ls.rp; let fr := Ls.fr; let ge := Ls.ge; let le := Ls.le; let lt := Ls.lt; let nz := Ls.nz; let mm := Ls.mm; let ma := Ls.ma; let sm := Ls.sm; let fl := Ls.fl; let al := Ls.al; let ci := Ls.ci
  let eInt_c := rowsOf Int_c
  let eRowS_i := rowsOf RowS_i
  have hL : (⟨ar, cm, bo, sc, sa, sx, ss, sl, bs, sb, ln, sr, ap, up, rp, fr, ge, le, lt, nz, mm, ma, sm, fl, al, ci⟩ : Lf) = Ls := rfl
  show AC Try.prog 12 [.ag [.im false (eInt_c a0v_Schemav_Cols), .s (.int .i64 a0v_Version), .im false (eRowS_i a0v_Tables)], .ag [.im false (eInt_c a1v_Schemav_Cols), .s (.int .i64 a1v_Version), .im false (eRowS_i a1v_Tables)]] _ _
  refine AC.of_run2 tab_ok Try.func12 (by rfl) (by rfl) (by cbv) ⟨by decide, rfl⟩ fun F hP hA => ?_
  have hT : TabOk F.P tab := hP ▸ tab_ok
  have hM : F.P.follows .mixedOrders = true := hP ▸ mixed
  have hC : ∀ {f a o r}, AC Try.prog f a o r → AC F.P f a o r := fun h => hP ▸ h
  refine Run.seq ?_
  refine Run.region hL hT [] (by cbv) ?_ ?_
  · exact hq0
  refine Run.seq ?_
  refine Run.seq ?_
  obtain ⟨r1, h_r1, h⟩ := bnd h
  refine Run.region hL hT [(4, .call [false, false] [.ag [.jk], .ag [.jk]] [.v (.s (.bool r1))])] (by cbv) ?_ ?_
  · exact (hq trivial (hq trivial (hq (hC (laws_eqSchema_ac h_r1)) hq0)))
  refine Run.cond (by cbv) (hq0) (fun c2 => ?_) (fun c2 => ?_)
  · have h := if_t c2 h
    refine Run.seq ?_
    refine Run.region hL hT [] (by cbv) ?_ ?_
    · exact hq0
    refine Run.ret ?_
    cases h
    refine ⟨_, _, by cbv, ?_, ?_⟩
    · exact LLe.r
    · exact (ALe.v LLe.r ALe.nil)
  · have h := if_f c2 h
    refine Run.skip ?_
    refine Run.seq ?_
    refine Run.seq ?_
    refine Run.region hL hT [] (by cbv) ?_ ?_
    · exact (hq trivial (hq trivial (hq trivial hq0)))
    refine Run.cond (by cbv) (hq0) (fun c3 => ?_) (fun c3 => ?_)
    · have h := if_t c3 h
      refine Run.seq ?_
      refine Run.region hL hT [] (by cbv) ?_ ?_
      · exact hq0
      refine Run.ret ?_
      cases h
      refine ⟨_, _, by cbv, ?_, ?_⟩
      · exact LLe.r
      · exact (ALe.v LLe.r ALe.nil)
    · have h := if_f c3 h
      refine Run.skip ?_
      refine Run.seq ?_
      refine Run.seq ?_
      obtain ⟨r4, h_r4, h⟩ := bnd h
      refine Run.region hL hT [(4, .call [false, false] [.v (.jk), .v (.jk)] [.v (.s (.bool r4))])] (by cbv) ?_ ?_
      · exact (hq trivial (hq trivial (hq (hC (laws_eqRowSS_ac h_r4)) hq0)))
      refine Run.cond (by cbv) (hq0) (fun c5 => ?_) (fun c5 => ?_)
      · have h := if_t c5 h
        refine Run.seq ?_
        refine Run.region hL hT [] (by cbv) ?_ ?_
        · exact hq0
        refine Run.ret ?_
        cases h
        refine ⟨_, _, by cbv, ?_, ?_⟩
        · exact LLe.r
        · exact (ALe.v LLe.r ALe.nil)
      · have h := if_f c5 h
        refine Run.skip ?_
        refine Run.seq ?_
        refine Run.region hL hT [] (by cbv) ?_ ?_
        · exact hq0
        refine Run.ret ?_
        cases h
        refine ⟨_, _, by cbv, ?_, ?_⟩
        · exact LLe.r
        · exact (ALe.v LLe.r ALe.nil)

set_option maxRecDepth 8000 in
theorem laws_eqCond_ac {a0v_Col : Int} {a0v_Op : Int} {a0v_V : Int} {a1v_Col : Int} {a1v_Op : Int} {a1v_V : Int} {r : Bool} (h : laws_eqCond.f (Cond.mk a0v_Col a0v_Op a0v_V) (Cond.mk a1v_Col a1v_Op a1v_V) = some r) : AC Try.prog 80 [.ag [.s (.int .i64 a0v_Col), .s (.int .i64 a0v_Op), .s (.int .i64 a0v_V)], .ag [.s (.int .i64 a1v_Col), .s (.int .i64 a1v_Op), .s (.int .i64 a1v_V)]] [.ag [.jk, .jk, .jk], .ag [.jk, .jk, .jk]] [.v (.s (.bool r))] := by
  unfold laws_eqCond.f at h
  let ar := Ls.ar; let cm := Ls.cm; let bo := Ls.bo; let sc := Ls.sc; let sa := Ls.sa; let sx := Ls.sx; let ss := Ls.ss; let sl := Ls.sl; let bs := Ls.bs; let sb := Ls.sb; let ln := Ls.ln; let sr := Ls.sr; let ap := Ls.ap; let up := Ls.up; let rp := Ls.rp; let fr := Ls.fr; let ge := Ls.ge; let le := Ls.le; let lt := Ls.lt; let nz := Ls.nz; let mm := Ls.mm; let ma := Ls.ma; let sm := Ls.sm; let fl := Ls.fl; let al := Ls.al; let ci := Ls.ci
  have hL : (⟨ar, cm, bo, sc, sa, sx, ss, sl, bs, sb, ln, sr, ap, up, rp, fr, ge, le, lt, nz, mm, ma, sm, fl, al, ci⟩ : Lf) = Ls := rfl
  show AC Try.prog 80 [.ag [.s (.int .i64 a0v_Col), .s (.int .i64 a0v_Op), .s (.int .i64 a0v_V)], .ag [.s (.int .i64 a1v_Col), .s (.int .i64 a1v_Op), .s (.int .i64 a1v_V)]] _ _
  refine AC.of_run2 tab_ok Try.func80 (by rfl) (by rfl) (by cbv) ⟨by decide, rfl⟩ fun F hP hA => ?_
  have hT : TabOk F.P tab := hP ▸ tab_ok
  have hM : F.P.follows .mixedOrders = true := hP ▸ mixed
  have hC : ∀ {f a o r}, AC Try.prog f a o r → AC F.P f a o r := fun h => hP ▸ h
  refine Run.seq ?_
  refine Run.region hL hT [] (by cbv) ?_ ?_
  · exact hq0
  refine Run.seq ?_
  refine Run.seq ?_
  refine Run.region hL hT [] (by cbv) ?_ ?_
  · exact (hq trivial (hq trivial (hq trivial hq0)))
  refine Run.cond (by cbv) (hq0) (fun c1 => ?_) (fun c1 => ?_)
  · have h := if_t c1 h
    refine Run.seq ?_
    refine Run.region hL hT [] (by cbv) ?_ ?_
    · exact hq0
    refine Run.ret ?_
    cases h
    refine ⟨_, _, by cbv, ?_, ?_⟩
    · exact LLe.r
    · exact (ALe.v LLe.r ALe.nil)
  · have h := if_f c1 h
    refine Run.skip ?_
    refine Run.seq ?_
    refine Run.seq ?_
    refine Run.region hL hT [] (by cbv) ?_ ?_
    · exact (hq trivial (hq trivial (hq trivial hq0)))
    refine Run.cond (by cbv) (hq0) (fun c2 => ?_) (fun c2 => ?_)
    · have h := if_t c2 h
      refine Run.seq ?_
      refine Run.region hL hT [] (by cbv) ?_ ?_
      · exact hq0
      refine Run.ret ?_
      cases h
      refine ⟨_, _, by cbv, ?_, ?_⟩
      · exact LLe.r
      · exact (ALe.v LLe.r ALe.nil)
    · have h := if_f c2 h
      refine Run.skip ?_
      refine Run.seq ?_
      refine Run.seq ?_
      refine Run.region hL hT [] (by cbv) ?_ ?_
      · exact (hq trivial (hq trivial (hq trivial hq0)))
      refine Run.cond (by cbv) (hq0) (fun c3 => ?_) (fun c3 => ?_)
      · have h := if_t c3 h
        refine Run.seq ?_
        refine Run.region hL hT [] (by cbv) ?_ ?_
        · exact hq0
        refine Run.ret ?_
        cases h
        refine ⟨_, _, by cbv, ?_, ?_⟩
        · exact LLe.r
        · exact (ALe.v LLe.r ALe.nil)
      · have h := if_f c3 h
        refine Run.skip ?_
        refine Run.seq ?_
        refine Run.region hL hT [] (by cbv) ?_ ?_
        · exact hq0
        refine Run.ret ?_
        cases h
        refine ⟨_, _, by cbv, ?_, ?_⟩
        · exact LLe.r
        · exact (ALe.v LLe.r ALe.nil)

set_option maxRecDepth 8000 in
theorem laws_eqCondS_ac {a0 : List Cond} {a1 : List Cond} {r : Bool} (h : laws_eqCondS.f a0 a1 = some r) : AC Try.prog 45 [.v (.im false (rowsOf Cond_c a0)), .v (.im false (rowsOf Cond_c a1))] [.v (.jk), .v (.jk)] [.v (.s (.bool r))] := by
  unfold laws_eqCondS.f at h
  let ar := Ls.ar; let cm := Ls.cm; let bo := Ls.bo; let sc := Ls.sc; let sa := Ls.sa; let sx := Ls.sx; let ss := Ls.ss; let sl := Ls.sl; let bs := Ls.bs; let sb := Ls.sb; let ln := Ls.ln; let sr := Ls.sr; let ap := Ls.ap; let up := Ls.up; let rp := Ls.rp; let fr := Ls.fr; let ge := Ls.ge; let le := Ls.le; let lt := Ls.lt; let nz := Ls.nz; let mm := Ls.mm; let ma := Ls.ma; let sm := Ls.sm; let fl := Ls.fl; let al := Ls.al; let ci := Ls.ci
  let eCond_c := rowsOf Cond_c
  let lenI_Cond := @lenI Cond
  have hL : (⟨ar, cm, bo, sc, sa, sx, ss, sl, bs, sb, ln, sr, ap, up, rp, fr, ge, le, lt, nz, mm, ma, sm, fl, al, ci⟩ : Lf) = Ls := rfl
  show AC Try.prog 45 [.v (.im false (eCond_c a0)), .v (.im false (eCond_c a1))] _ _
  refine AC.of_run2 tab_ok Try.func45 (by rfl) (by rfl) (by cbv) ⟨by decide, rfl⟩ fun F hP hA => ?_
  have hT : TabOk F.P tab := hP ▸ tab_ok
  have hM : F.P.follows .mixedOrders = true := hP ▸ mixed
  have hC : ∀ {f a o r}, AC Try.prog f a o r → AC F.P f a o r := fun h => hP ▸ h
  refine Run.seq ?_
  refine Run.region hL hT [] (by cbv) ?_ ?_
  · exact hq0
  refine Run.seq ?_
  refine Run.seq ?_
  refine Run.region hL hT [] (by cbv) ?_ ?_
  · exact (hq trivial hq0)
  rw [show ln (eCond_c a0) = lenI_Cond a0 from ln_eq Cond_c _]
  rw [show ln (eCond_c a1) = lenI_Cond a1 from ln_eq Cond_c _]
  refine Run.cond (by cbv) (hq0) (fun c1 => ?_) (fun c1 => ?_)
  · have h := if_t c1 h
    refine Run.seq ?_
    refine Run.region hL hT [] (by cbv) ?_ ?_
    · exact hq0
    refine Run.ret ?_
    cases h
    refine ⟨_, _, by cbv, ?_, ?_⟩
    · exact LLe.r
    · exact (ALe.v LLe.r ALe.nil)
  · have h := if_f c1 h
    refine Run.skip ?_
    refine Run.seq ?_
    refine Run.seq ?_
    refine Run.region hL hT [] (by cbv) ?_ ?_
    · exact hq0
    refine Run.block ?_
    refine Run.loop1 (fun (z5 : Int) => ⟨27, 100000, [(0, .t (.im false (eCond_c a0))), (1, .t (.im false (eCond_c a1))), (5, .t (.s (.int .i64 z5)))], []⟩) (x0 := 0) h (Weak.of _ [] hA (by cbv) ?_) (fun _ => rfl) ?_
    · repeat (first | exact hq0 | refine hq (by first | exact True.intro | rfl) ?_)
    · intro k z5 h
      rw [laws_eqCondS.l0] at h
      refine Run.seq ?_
      refine Run.seq ?_
      refine Run.region hL hT [] (by cbv) ?_ ?_
      · exact (hq trivial hq0)
      rw [show ln (eCond_c a0) = lenI_Cond a0 from ln_eq Cond_c _]
      refine Run.cond (by cbv) (hq0) (fun c6 => ?_) (fun c6 => ?_)
      · have h := if_t c6 h
        refine Run.skip ?_
        refine Run.seq ?_
        refine Run.block ?_
        refine Run.seq ?_
        obtain ⟨⟨x7v_Col, x7v_Op, x7v_V⟩, h_x7, h⟩ := bnd h
        obtain ⟨⟨x8v_Col, x8v_Op, x8v_V⟩, h_x8, h⟩ := bnd h
        obtain ⟨r9, h_r9, h⟩ := bnd h
        refine Run.draw hL hT hM [(2, .el [.s (.int .i64 x7v_Col), .s (.int .i64 x7v_Op), .s (.int .i64 x7v_V)]), (6, .el [.s (.int .i64 x8v_Col), .s (.int .i64 x8v_Op), .s (.int .i64 x8v_V)]), (8, .call [false, false] [.ag [.jk, .jk, .jk], .ag [.jk, .jk, .jk]] [.v (.s (.bool r9))])] (by cbv) (by cbv) (by cbv) (by cbv) (by cbv) ?_ ?_
        · exact (hq (get_le h_x7) (hq (get_lt (f := Cond_c) h_x7) (hq (get_ge (f := Cond_c) h_x7) (hq (get_le h_x8) (hq (get_lt (f := Cond_c) h_x8) (hq (get_ge (f := Cond_c) h_x8) (hq (hC (laws_eqCond_ac h_r9)) hq0)))))))
        refine Run.cond (by cbv) (hq0) (fun c10 => ?_) (fun c10 => ?_)
        · have h := if_t c10 h
          refine Run.seq ?_
          refine Run.region hL hT [] (by cbv) ?_ ?_
          · exact hq0
          refine Run.ret ?_
          cases h
          refine ⟨_, _, by cbv, ?_, ?_⟩
          · exact LLe.r
          · exact (ALe.v LLe.r ALe.nil)
        · have h := if_f c10 h
          refine Run.skip ?_
          refine Run.region hL hT [] (by cbv) ?_ ?_
          · exact (hq trivial hq0)
          refine ⟨(ar .add .i64 z5 1), h, Weak.of _ [] hA (by cbv) ?_⟩
          repeat (first | exact hq0 | refine hq (by first | exact True.intro | rfl) ?_)
      · have h := if_f c6 h
        refine Run.exit ?_
        refine Run.seq ?_
        refine Run.region hL hT [] (by cbv) ?_ ?_
        · exact hq0
        refine Run.ret ?_
        cases h
        refine ⟨_, _, by cbv, ?_, ?_⟩
        · exact LLe.r
        · exact (ALe.v LLe.r ALe.nil)

set_option maxRecDepth 8000 in
theorem laws_eqQuery_ac {a0v_Table : Int} {a0v_Where : List Cond} {a0v_Order : Int} {a0v_Down : Bool} {a0v_First : Int} {a0v_Show : List Int} {a0v_Kids : Bool} {a0v_KidTable : Int} {a0v_KidCol : Int} {a1v_Table : Int} {a1v_Where : List Cond} {a1v_Order : Int} {a1v_Down : Bool} {a1v_First : Int} {a1v_Show : List Int} {a1v_Kids : Bool} {a1v_KidTable : Int} {a1v_KidCol : Int} {r : Bool} (h : laws_eqQuery.f (Query.mk a0v_Table a0v_Where a0v_Order a0v_Down a0v_First a0v_Show a0v_Kids a0v_KidTable a0v_KidCol) (Query.mk a1v_Table a1v_Where a1v_Order a1v_Down a1v_First a1v_Show a1v_Kids a1v_KidTable a1v_KidCol) = some r) : AC Try.prog 13 [.ag [.s (.int .i64 a0v_Table), .im false (rowsOf Cond_c a0v_Where), .s (.int .i64 a0v_Order), .s (.bool a0v_Down), .s (.int .i64 a0v_First), .im false (rowsOf Int_c a0v_Show), .s (.bool a0v_Kids), .s (.int .i64 a0v_KidTable), .s (.int .i64 a0v_KidCol)], .ag [.s (.int .i64 a1v_Table), .im false (rowsOf Cond_c a1v_Where), .s (.int .i64 a1v_Order), .s (.bool a1v_Down), .s (.int .i64 a1v_First), .im false (rowsOf Int_c a1v_Show), .s (.bool a1v_Kids), .s (.int .i64 a1v_KidTable), .s (.int .i64 a1v_KidCol)]] [.ag [.jk, .jk, .jk, .jk, .jk, .jk, .jk, .jk, .jk], .ag [.jk, .jk, .jk, .jk, .jk, .jk, .jk, .jk, .jk]] [.v (.s (.bool r))] := by
  unfold laws_eqQuery.f at h
  let ar := Ls.ar; let cm := Ls.cm; let bo := Ls.bo; let sc := Ls.sc; let sa := Ls.sa; let sx := Ls.sx; let ss := Ls.ss; let sl := Ls.sl; let bs := Ls.bs; let sb := Ls.sb; let ln := Ls.ln; let sr := Ls.sr; let ap := Ls.ap; let up := Ls.up; let rp := Ls.rp; let fr := Ls.fr; let ge := Ls.ge; let le := Ls.le; let lt := Ls.lt; let nz := Ls.nz; let mm := Ls.mm; let ma := Ls.ma; let sm := Ls.sm; let fl := Ls.fl; let al := Ls.al; let ci := Ls.ci
  let eCond_c := rowsOf Cond_c
  let eInt_c := rowsOf Int_c
  have hL : (⟨ar, cm, bo, sc, sa, sx, ss, sl, bs, sb, ln, sr, ap, up, rp, fr, ge, le, lt, nz, mm, ma, sm, fl, al, ci⟩ : Lf) = Ls := rfl
  show AC Try.prog 13 [.ag [.s (.int .i64 a0v_Table), .im false (eCond_c a0v_Where), .s (.int .i64 a0v_Order), .s (.bool a0v_Down), .s (.int .i64 a0v_First), .im false (eInt_c a0v_Show), .s (.bool a0v_Kids), .s (.int .i64 a0v_KidTable), .s (.int .i64 a0v_KidCol)], .ag [.s (.int .i64 a1v_Table), .im false (eCond_c a1v_Where), .s (.int .i64 a1v_Order), .s (.bool a1v_Down), .s (.int .i64 a1v_First), .im false (eInt_c a1v_Show), .s (.bool a1v_Kids), .s (.int .i64 a1v_KidTable), .s (.int .i64 a1v_KidCol)]] _ _
  refine AC.of_run2 tab_ok Try.func13 (by rfl) (by rfl) (by cbv) ⟨by decide, rfl⟩ fun F hP hA => ?_
  have hT : TabOk F.P tab := hP ▸ tab_ok
  have hM : F.P.follows .mixedOrders = true := hP ▸ mixed
  have hC : ∀ {f a o r}, AC Try.prog f a o r → AC F.P f a o r := fun h => hP ▸ h
  refine Run.seq ?_
  refine Run.region hL hT [] (by cbv) ?_ ?_
  · exact hq0
  refine Run.seq ?_
  refine Run.seq ?_
  refine Run.region hL hT [] (by cbv) ?_ ?_
  · exact (hq trivial (hq trivial (hq trivial hq0)))
  refine Run.cond (by cbv) (hq0) (fun c1 => ?_) (fun c1 => ?_)
  · have h := if_t c1 h
    refine Run.seq ?_
    refine Run.region hL hT [] (by cbv) ?_ ?_
    · exact hq0
    refine Run.ret ?_
    cases h
    refine ⟨_, _, by cbv, ?_, ?_⟩
    · exact LLe.r
    · exact (ALe.v LLe.r ALe.nil)
  · have h := if_f c1 h
    refine Run.skip ?_
    refine Run.seq ?_
    refine Run.seq ?_
    obtain ⟨r2, h_r2, h⟩ := bnd h
    refine Run.region hL hT [(4, .call [false, false] [.v (.jk), .v (.jk)] [.v (.s (.bool r2))])] (by cbv) ?_ ?_
    · exact (hq trivial (hq trivial (hq (hC (laws_eqCondS_ac h_r2)) hq0)))
    refine Run.cond (by cbv) (hq0) (fun c3 => ?_) (fun c3 => ?_)
    · have h := if_t c3 h
      refine Run.seq ?_
      refine Run.region hL hT [] (by cbv) ?_ ?_
      · exact hq0
      refine Run.ret ?_
      cases h
      refine ⟨_, _, by cbv, ?_, ?_⟩
      · exact LLe.r
      · exact (ALe.v LLe.r ALe.nil)
    · have h := if_f c3 h
      refine Run.skip ?_
      refine Run.seq ?_
      refine Run.seq ?_
      refine Run.region hL hT [] (by cbv) ?_ ?_
      · exact (hq trivial (hq trivial (hq trivial hq0)))
      refine Run.cond (by cbv) (hq0) (fun c4 => ?_) (fun c4 => ?_)
      · have h := if_t c4 h
        refine Run.seq ?_
        refine Run.region hL hT [] (by cbv) ?_ ?_
        · exact hq0
        refine Run.ret ?_
        cases h
        refine ⟨_, _, by cbv, ?_, ?_⟩
        · exact LLe.r
        · exact (ALe.v LLe.r ALe.nil)
      · have h := if_f c4 h
        refine Run.skip ?_
        refine Run.seq ?_
        refine Run.seq ?_
        refine Run.region hL hT [] (by cbv) ?_ ?_
        · exact (hq trivial (hq trivial hq0))
        refine Run.cond (by cbv) (hq0) (fun c5 => ?_) (fun c5 => ?_)
        · have h := if_t c5 h
          refine Run.seq ?_
          refine Run.region hL hT [] (by cbv) ?_ ?_
          · exact hq0
          refine Run.ret ?_
          cases h
          refine ⟨_, _, by cbv, ?_, ?_⟩
          · exact LLe.r
          · exact (ALe.v LLe.r ALe.nil)
        · have h := if_f c5 h
          refine Run.skip ?_
          refine Run.seq ?_
          refine Run.seq ?_
          refine Run.region hL hT [] (by cbv) ?_ ?_
          · exact (hq trivial (hq trivial (hq trivial hq0)))
          refine Run.cond (by cbv) (hq0) (fun c6 => ?_) (fun c6 => ?_)
          · have h := if_t c6 h
            refine Run.seq ?_
            refine Run.region hL hT [] (by cbv) ?_ ?_
            · exact hq0
            refine Run.ret ?_
            cases h
            refine ⟨_, _, by cbv, ?_, ?_⟩
            · exact LLe.r
            · exact (ALe.v LLe.r ALe.nil)
          · have h := if_f c6 h
            refine Run.skip ?_
            refine Run.seq ?_
            refine Run.seq ?_
            obtain ⟨r7, h_r7, h⟩ := bnd h
            refine Run.region hL hT [(4, .call [false, false] [.v (.jk), .v (.jk)] [.v (.s (.bool r7))])] (by cbv) ?_ ?_
            · exact (hq trivial (hq trivial (hq (hC (laws_eqIntS_ac h_r7)) hq0)))
            refine Run.cond (by cbv) (hq0) (fun c8 => ?_) (fun c8 => ?_)
            · have h := if_t c8 h
              refine Run.seq ?_
              refine Run.region hL hT [] (by cbv) ?_ ?_
              · exact hq0
              refine Run.ret ?_
              cases h
              refine ⟨_, _, by cbv, ?_, ?_⟩
              · exact LLe.r
              · exact (ALe.v LLe.r ALe.nil)
            · have h := if_f c8 h
              refine Run.skip ?_
              refine Run.seq ?_
              refine Run.seq ?_
              refine Run.region hL hT [] (by cbv) ?_ ?_
              · exact (hq trivial (hq trivial hq0))
              refine Run.cond (by cbv) (hq0) (fun c9 => ?_) (fun c9 => ?_)
              · have h := if_t c9 h
                refine Run.seq ?_
                refine Run.region hL hT [] (by cbv) ?_ ?_
                · exact hq0
                refine Run.ret ?_
                cases h
                refine ⟨_, _, by cbv, ?_, ?_⟩
                · exact LLe.r
                · exact (ALe.v LLe.r ALe.nil)
              · have h := if_f c9 h
                refine Run.skip ?_
                refine Run.seq ?_
                refine Run.seq ?_
                refine Run.region hL hT [] (by cbv) ?_ ?_
                · exact (hq trivial (hq trivial (hq trivial hq0)))
                refine Run.cond (by cbv) (hq0) (fun c10 => ?_) (fun c10 => ?_)
                · have h := if_t c10 h
                  refine Run.seq ?_
                  refine Run.region hL hT [] (by cbv) ?_ ?_
                  · exact hq0
                  refine Run.ret ?_
                  cases h
                  refine ⟨_, _, by cbv, ?_, ?_⟩
                  · exact LLe.r
                  · exact (ALe.v LLe.r ALe.nil)
                · have h := if_f c10 h
                  refine Run.skip ?_
                  refine Run.seq ?_
                  refine Run.seq ?_
                  refine Run.region hL hT [] (by cbv) ?_ ?_
                  · exact (hq trivial (hq trivial (hq trivial hq0)))
                  refine Run.cond (by cbv) (hq0) (fun c11 => ?_) (fun c11 => ?_)
                  · have h := if_t c11 h
                    refine Run.seq ?_
                    refine Run.region hL hT [] (by cbv) ?_ ?_
                    · exact hq0
                    refine Run.ret ?_
                    cases h
                    refine ⟨_, _, by cbv, ?_, ?_⟩
                    · exact LLe.r
                    · exact (ALe.v LLe.r ALe.nil)
                  · have h := if_f c11 h
                    refine Run.skip ?_
                    refine Run.seq ?_
                    refine Run.region hL hT [] (by cbv) ?_ ?_
                    · exact hq0
                    refine Run.ret ?_
                    cases h
                    refine ⟨_, _, by cbv, ?_, ?_⟩
                    · exact LLe.r
                    · exact (ALe.v LLe.r ALe.nil)

set_option maxRecDepth 8000 in
theorem laws_markIntS_ac {a0 : List Int} {a1 : Int} {r : (List Int) × Int} (h : laws_markIntS.f a0 a1 = some r) : AC Try.prog 50 [.v (.ow 3 (rowsOf Int_c a0)), .v (.s (.int .i64 a1))] [.v (.ow 3 (rowsOf Int_c r.1)), .v (.jk)] [.v (.s (.int .i64 r.2))] := by
  unfold laws_markIntS.f at h
  let ar := Ls.ar; let cm := Ls.cm; let bo := Ls.bo; let sc := Ls.sc; let sa := Ls.sa; let sx := Ls.sx; let ss := Ls.ss; let sl := Ls.sl; let bs := Ls.bs; let sb := Ls.sb; let ln := Ls.ln; let sr := Ls.sr; let ap := Ls.ap; let up := Ls.up; let rp := Ls.rp; let fr := Ls.fr; let ge := Ls.ge; let le := Ls.le; let lt := Ls.lt; let nz := Ls.nz; let mm := Ls.mm; let ma := Ls.ma; let sm := Ls.sm; let fl := Ls.fl; let al := Ls.al; let ci := Ls.ci
  let eInt_c := rowsOf Int_c
  let lenI_Int := @lenI Int
  have hL : (⟨ar, cm, bo, sc, sa, sx, ss, sl, bs, sb, ln, sr, ap, up, rp, fr, ge, le, lt, nz, mm, ma, sm, fl, al, ci⟩ : Lf) = Ls := rfl
  show AC Try.prog 50 [.v (.ow 3 (eInt_c a0)), .v (.s (.int .i64 a1))] _ _
  refine AC.of_run2 tab_ok Try.func50 (by rfl) (by rfl) (by cbv) ⟨by decide, rfl⟩ fun F hP hA => ?_
  have hT : TabOk F.P tab := hP ▸ tab_ok
  have hM : F.P.follows .mixedOrders = true := hP ▸ mixed
  have hC : ∀ {f a o r}, AC Try.prog f a o r → AC F.P f a o r := fun h => hP ▸ h
  refine Run.seq ?_
  refine Run.region hL hT [] (by cbv) ?_ ?_
  · exact hq0
  refine Run.seq ?_
  refine Run.seq ?_
  refine Run.region hL hT [] (by cbv) ?_ ?_
  · exact hq0
  refine Run.block ?_
  refine Run.loop3 (fun (z4 : List Int) (z5 : Int) (z6 : Int) => ⟨19, 100000, [(0, .rf 0), (1, .t (.s (.int .i64 z5))), (5, .t (.s (.int .i64 z6)))], [(0, .row 0 3 1 (eInt_c z4))]⟩) (x0 := a0) (x1 := a1) (x2 := 0) h (Weak.of _ [(0, 0)] hA (by cbv) ?_) (fun _ _ _ => rfl) ?_
  · repeat (first | exact hq0 | refine hq (by first | exact True.intro | rfl) ?_)
  · intro k z4 z5 z6 h
    rw [laws_markIntS.l0] at h
    refine Run.seq ?_
    refine Run.seq ?_
    refine Run.region hL hT [] (by cbv) ?_ ?_
    · exact (hq trivial hq0)
    rw [show ln (eInt_c z4) = lenI_Int z4 from ln_eq Int_c _]
    refine Run.cond (by cbv) (hq0) (fun c7 => ?_) (fun c7 => ?_)
    · have h := if_t c7 h
      refine Run.skip ?_
      refine Run.seq ?_
      refine Run.block ?_
      refine Run.seq ?_
      obtain ⟨x8, h_x8, h⟩ := bnd h
      obtain ⟨l9, h_l9, h⟩ := bnd h
      refine Run.region hL hT [] (by cbv) ?_ ?_
      · exact (hq (get_le h_x8) (hq (get_lt (f := Int_c) h_x8) (hq (get_le h_x8) (hq (get_lt (f := Int_c) h_x8) hq0))))
      refine Run.row (rows := (up (eInt_c z4) z6 0 [.s (.int .i64 z5)])) 0 (eInt_c l9) (by cbv) (sto_le (f := Int_c) h_x8 h_l9 rfl LLe.r) ?_
      refine Run.region hL hT [] (by cbv) ?_ ?_
      · exact (hq trivial hq0)
      refine Run.region hL hT [] (by cbv) ?_ ?_
      · exact (hq trivial hq0)
      refine ⟨l9, (ar .add .i64 z5 1), (ar .add .i64 z6 1), h, Weak.of _ [(0, 0)] hA (by cbv) ?_⟩
      repeat (first | exact hq0 | refine hq (by first | exact True.intro | rfl) ?_)
    · have h := if_f c7 h
      refine Run.exit ?_
      refine Run.seq ?_
      refine Run.region hL hT [] (by cbv) ?_ ?_
      · exact hq0
      refine Run.ret ?_
      cases h
      refine ⟨_, _, by cbv, ?_, ?_⟩
      · exact LLe.r
      · exact (ALe.v LLe.r ALe.nil)

set_option maxRecDepth 8000 in
theorem laws_markSchema_ac {a0v_Cols : List Int} {a1 : Int} {r : Schema × Int} (h : laws_markSchema.f (Schema.mk a0v_Cols) a1 = some r) : AC Try.prog 47 [.ag [.ow 3 (rowsOf Int_c a0v_Cols)], .v (.s (.int .i64 a1))] [.ag [.ow 3 (rowsOf Int_c r.1.Cols)], .v (.jk)] [.v (.s (.int .i64 r.2))] := by
  unfold laws_markSchema.f at h
  let ar := Ls.ar; let cm := Ls.cm; let bo := Ls.bo; let sc := Ls.sc; let sa := Ls.sa; let sx := Ls.sx; let ss := Ls.ss; let sl := Ls.sl; let bs := Ls.bs; let sb := Ls.sb; let ln := Ls.ln; let sr := Ls.sr; let ap := Ls.ap; let up := Ls.up; let rp := Ls.rp; let fr := Ls.fr; let ge := Ls.ge; let le := Ls.le; let lt := Ls.lt; let nz := Ls.nz; let mm := Ls.mm; let ma := Ls.ma; let sm := Ls.sm; let fl := Ls.fl; let al := Ls.al; let ci := Ls.ci
  let eInt_c := rowsOf Int_c
  have hL : (⟨ar, cm, bo, sc, sa, sx, ss, sl, bs, sb, ln, sr, ap, up, rp, fr, ge, le, lt, nz, mm, ma, sm, fl, al, ci⟩ : Lf) = Ls := rfl
  show AC Try.prog 47 [.ag [.ow 3 (eInt_c a0v_Cols)], .v (.s (.int .i64 a1))] _ _
  refine AC.of_run2 tab_ok Try.func47 (by rfl) (by rfl) (by cbv) ⟨by decide, rfl⟩ fun F hP hA => ?_
  have hT : TabOk F.P tab := hP ▸ tab_ok
  have hM : F.P.follows .mixedOrders = true := hP ▸ mixed
  have hC : ∀ {f a o r}, AC Try.prog f a o r → AC F.P f a o r := fun h => hP ▸ h
  refine Run.seq ?_
  refine Run.region hL hT [] (by cbv) ?_ ?_
  · exact hq0
  refine Run.seq ?_
  obtain ⟨⟨r1v_1, r1v_2⟩, h_r1, h⟩ := bnd h
  refine Run.region hL hT [(3, .call [true, false] [.v (.ow 3 (eInt_c r1v_1)), .v (.jk)] [.v (.s (.int .i64 r1v_2))])] (by cbv) ?_ ?_
  · exact (hq trivial (hq (hC (laws_markIntS_ac h_r1)) hq0))
  refine Run.seq ?_
  refine Run.region hL hT [] (by cbv) ?_ ?_
  · exact hq0
  refine Run.ret ?_
  cases h
  refine ⟨_, _, by cbv, ?_, ?_⟩
  · exact LLe.r
  · exact (ALe.v LLe.r ALe.nil)

set_option maxRecDepth 8000 in
theorem laws_markRowS_ac {a0 : List Row} {a1 : Int} {r : (List Row) × Int} (h : laws_markRowS.f a0 a1 = some r) : AC Try.prog 16 [.v (.ow 66 (rowsOf Row_o a0)), .v (.s (.int .i64 a1))] [.v (.ow 66 (rowsOf Row_o r.1)), .v (.jk)] [.v (.s (.int .i64 r.2))] := by
  unfold laws_markRowS.f at h
  let ar := Ls.ar; let cm := Ls.cm; let bo := Ls.bo; let sc := Ls.sc; let sa := Ls.sa; let sx := Ls.sx; let ss := Ls.ss; let sl := Ls.sl; let bs := Ls.bs; let sb := Ls.sb; let ln := Ls.ln; let sr := Ls.sr; let ap := Ls.ap; let up := Ls.up; let rp := Ls.rp; let fr := Ls.fr; let ge := Ls.ge; let le := Ls.le; let lt := Ls.lt; let nz := Ls.nz; let mm := Ls.mm; let ma := Ls.ma; let sm := Ls.sm; let fl := Ls.fl; let al := Ls.al; let ci := Ls.ci
  let eInt_c := rowsOf Int_c
  let eRow_o := rowsOf Row_o
  let lenI_Row := @lenI Row
  have hL : (⟨ar, cm, bo, sc, sa, sx, ss, sl, bs, sb, ln, sr, ap, up, rp, fr, ge, le, lt, nz, mm, ma, sm, fl, al, ci⟩ : Lf) = Ls := rfl
  show AC Try.prog 16 [.v (.ow 66 (eRow_o a0)), .v (.s (.int .i64 a1))] _ _
  refine AC.of_run2 tab_ok Try.func16 (by rfl) (by rfl) (by cbv) ⟨by decide, rfl⟩ fun F hP hA => ?_
  have hT : TabOk F.P tab := hP ▸ tab_ok
  have hM : F.P.follows .mixedOrders = true := hP ▸ mixed
  have hC : ∀ {f a o r}, AC Try.prog f a o r → AC F.P f a o r := fun h => hP ▸ h
  refine Run.seq ?_
  refine Run.region hL hT [] (by cbv) ?_ ?_
  · exact hq0
  refine Run.seq ?_
  refine Run.seq ?_
  refine Run.region hL hT [] (by cbv) ?_ ?_
  · exact hq0
  refine Run.block ?_
  refine Run.loop3 (fun (z4 : List Row) (z5 : Int) (z6 : Int) => ⟨27, 100000, [(0, .rf 0), (1, .t (.s (.int .i64 z5))), (5, .t (.s (.int .i64 z6)))], [(0, .row 0 66 2 (eRow_o z4))]⟩) (x0 := a0) (x1 := a1) (x2 := 0) h (Weak.of _ [(0, 0)] hA (by cbv) ?_) (fun _ _ _ => rfl) ?_
  · repeat (first | exact hq0 | refine hq (by first | exact True.intro | rfl) ?_)
  · intro k z4 z5 z6 h
    rw [laws_markRowS.l0] at h
    refine Run.seq ?_
    refine Run.seq ?_
    refine Run.region hL hT [] (by cbv) ?_ ?_
    · exact (hq trivial hq0)
    rw [show ln (eRow_o z4) = lenI_Row z4 from ln_eq Row_o _]
    refine Run.cond (by cbv) (hq0) (fun c7 => ?_) (fun c7 => ?_)
    · have h := if_t c7 h
      refine Run.skip ?_
      refine Run.seq ?_
      refine Run.block ?_
      refine Run.seq ?_
      obtain ⟨⟨x8v_Id, x8v_Cells⟩, h_x8, h⟩ := bnd h
      obtain ⟨l9, h_l9, h⟩ := bnd h
      refine Run.region hL hT [] (by cbv) ?_ ?_
      · exact (hq (get_le h_x8) (hq (get_lt (f := Row_o) h_x8) (hq (get_le h_x8) (hq (get_lt (f := Row_o) h_x8) hq0))))
      refine Run.row (rows := (up (eRow_o z4) z6 0 [.s (.int .i64 z5)])) 0 (eRow_o l9) (by cbv) (sto_le (f := Row_o) h_x8 h_l9 rfl LLe.r) ?_
      refine Run.seq ?_
      refine Run.region hL hT [] (by cbv) ?_ ?_
      · exact (hq trivial hq0)
      obtain ⟨⟨x10v_Id, x10v_Cells⟩, h_x10, h⟩ := bnd h
      obtain ⟨⟨r11v_1, r11v_2⟩, h_r11, h⟩ := bnd h
      refine Run.weak ?_ (Weak.take (rows := eRow_o l9) (e2 := 3) (r2 := eInt_c x10v_Cells) hT 0 z6 1 115288 1115288 (by cbv) (by cbv) (by cbv) (get_le' h_x10) (get_lt' Row_o h_x10) ((congrArg (fun q => q[1]?) (get_ge (f := Row_o) h_x10)).trans rfl) rfl (up (eRow_o l9) z6 1 [.jk]) rfl)
      refine Run.region hL hT [(4, .lk [.s (.int .i64 x10v_Id), .jk] [(1, 1115288)]), (6, .call [true, false] [.v (.ow 3 (eInt_c r11v_1)), .v (.jk)] [.v (.s (.int .i64 r11v_2))])] (by cbv) ?_ ?_
      · exact (hq (get_le h_x10) (hq (up_lt Row_o h_x10) (hq trivial (hq (get_le h_x10) (hq (up_lt Row_o h_x10) (hq (up_ge Row_o h_x10) (hq (hC (laws_markIntS_ac h_r11)) hq0)))))))
      obtain ⟨l12, h_l12, h⟩ := bnd h
      refine Run.weak ?_ (Weak.back (rows := (up (eRow_o l9) z6 1 [.jk])) (r2 := eInt_c r11v_1) 0 z6 1 115288 1115288 (by cbv) (by cbv) (by cbv) (by cbv) (get_le' h_x10) (up_lt Row_o h_x10) ((congrArg (fun q => q[1]?) (up_at Row_o h_x10)).trans rfl) (up (up (eRow_o l9) z6 1 [.jk]) z6 1 [.ow 3 (eInt_c r11v_1)]) rfl)
      refine Run.weak ?_ (Weak.row (rows := (up (up (eRow_o l9) z6 1 [.jk]) z6 1 [.ow 3 (eInt_c r11v_1)])) 0 (eRow_o l12) (by cbv) (hole_le (f := Row_o) h_x10 h_l12 (ltn (Row_o_n _) (by decide)) rfl LLe.r))
      refine Run.region hL hT [] (by cbv) ?_ ?_
      · exact (hq trivial hq0)
      refine ⟨l12, r11v_2, (ar .add .i64 z6 1), h, Weak.of _ [(0, 0)] hA (by cbv) ?_⟩
      repeat (first | exact hq0 | refine hq (by first | exact True.intro | rfl) ?_)
    · have h := if_f c7 h
      refine Run.exit ?_
      refine Run.seq ?_
      refine Run.region hL hT [] (by cbv) ?_ ?_
      · exact hq0
      refine Run.ret ?_
      cases h
      refine ⟨_, _, by cbv, ?_, ?_⟩
      · exact LLe.r
      · exact (ALe.v LLe.r ALe.nil)

set_option maxRecDepth 8000 in
theorem laws_markRowSS_ac {a0 : List (List Row)} {a1 : Int} {r : (List (List Row)) × Int} (h : laws_markRowSS.f a0 a1 = some r) : AC Try.prog 48 [.v (.ow 33 (rowsOf RowS_o a0)), .v (.s (.int .i64 a1))] [.v (.ow 33 (rowsOf RowS_o r.1)), .v (.jk)] [.v (.s (.int .i64 r.2))] := by
  unfold laws_markRowSS.f at h
  let ar := Ls.ar; let cm := Ls.cm; let bo := Ls.bo; let sc := Ls.sc; let sa := Ls.sa; let sx := Ls.sx; let ss := Ls.ss; let sl := Ls.sl; let bs := Ls.bs; let sb := Ls.sb; let ln := Ls.ln; let sr := Ls.sr; let ap := Ls.ap; let up := Ls.up; let rp := Ls.rp; let fr := Ls.fr; let ge := Ls.ge; let le := Ls.le; let lt := Ls.lt; let nz := Ls.nz; let mm := Ls.mm; let ma := Ls.ma; let sm := Ls.sm; let fl := Ls.fl; let al := Ls.al; let ci := Ls.ci
  let eRowS_o := rowsOf RowS_o
  let eRow_o := rowsOf Row_o
  let lenI_RowS := @lenI (List Row)
  have hL : (⟨ar, cm, bo, sc, sa, sx, ss, sl, bs, sb, ln, sr, ap, up, rp, fr, ge, le, lt, nz, mm, ma, sm, fl, al, ci⟩ : Lf) = Ls := rfl
  show AC Try.prog 48 [.v (.ow 33 (eRowS_o a0)), .v (.s (.int .i64 a1))] _ _
  refine AC.of_run2 tab_ok Try.func48 (by rfl) (by rfl) (by cbv) ⟨by decide, rfl⟩ fun F hP hA => ?_
  have hT : TabOk F.P tab := hP ▸ tab_ok
  have hM : F.P.follows .mixedOrders = true := hP ▸ mixed
  have hC : ∀ {f a o r}, AC Try.prog f a o r → AC F.P f a o r := fun h => hP ▸ h
  refine Run.seq ?_
  refine Run.region hL hT [] (by cbv) ?_ ?_
  · exact hq0
  refine Run.seq ?_
  refine Run.seq ?_
  refine Run.region hL hT [] (by cbv) ?_ ?_
  · exact hq0
  refine Run.block ?_
  refine Run.loop3 (fun (z4 : List (List Row)) (z5 : Int) (z6 : Int) => ⟨19, 100000, [(0, .rf 0), (1, .t (.s (.int .i64 z5))), (5, .t (.s (.int .i64 z6)))], [(0, .row 0 33 1 (eRowS_o z4))]⟩) (x0 := a0) (x1 := a1) (x2 := 0) h (Weak.of _ [(0, 0)] hA (by cbv) ?_) (fun _ _ _ => rfl) ?_
  · repeat (first | exact hq0 | refine hq (by first | exact True.intro | rfl) ?_)
  · intro k z4 z5 z6 h
    rw [laws_markRowSS.l0] at h
    refine Run.seq ?_
    refine Run.seq ?_
    refine Run.region hL hT [] (by cbv) ?_ ?_
    · exact (hq trivial hq0)
    rw [show ln (eRowS_o z4) = lenI_RowS z4 from ln_eq RowS_o _]
    refine Run.cond (by cbv) (hq0) (fun c7 => ?_) (fun c7 => ?_)
    · have h := if_t c7 h
      refine Run.skip ?_
      refine Run.seq ?_
      refine Run.block ?_
      obtain ⟨x8, h_x8, h⟩ := bnd h
      obtain ⟨⟨r9v_1, r9v_2⟩, h_r9, h⟩ := bnd h
      refine Run.weak ?_ (Weak.take (rows := eRowS_o z4) (e2 := 66) (r2 := eRow_o x8) hT 0 z6 0 107096 1107096 (by cbv) (by cbv) (by cbv) (get_le' h_x8) (get_lt' RowS_o h_x8) ((congrArg (fun q => q[0]?) (get_ge (f := RowS_o) h_x8)).trans rfl) rfl (up (eRowS_o z4) z6 0 [.jk]) rfl)
      refine Run.region hL hT [(3, .lk [.jk] [(0, 1107096)]), (5, .call [true, false] [.v (.ow 66 (eRow_o r9v_1)), .v (.jk)] [.v (.s (.int .i64 r9v_2))])] (by cbv) ?_ ?_
      · exact (hq (get_le h_x8) (hq (up_lt RowS_o h_x8) (hq trivial (hq (get_le h_x8) (hq (up_lt RowS_o h_x8) (hq (up_ge RowS_o h_x8) (hq (hC (laws_markRowS_ac h_r9)) hq0)))))))
      obtain ⟨l10, h_l10, h⟩ := bnd h
      refine Run.weak ?_ (Weak.back (rows := (up (eRowS_o z4) z6 0 [.jk])) (r2 := eRow_o r9v_1) 0 z6 0 107096 1107096 (by cbv) (by cbv) (by cbv) (by cbv) (get_le' h_x8) (up_lt RowS_o h_x8) ((congrArg (fun q => q[0]?) (up_at RowS_o h_x8)).trans rfl) (up (up (eRowS_o z4) z6 0 [.jk]) z6 0 [.ow 66 (eRow_o r9v_1)]) rfl)
      refine Run.weak ?_ (Weak.row (rows := (up (up (eRowS_o z4) z6 0 [.jk]) z6 0 [.ow 66 (eRow_o r9v_1)])) 0 (eRowS_o l10) (by cbv) (hole_le (f := RowS_o) h_x8 h_l10 (ltn (RowS_o_n _) (by decide)) rfl LLe.r))
      refine Run.region hL hT [] (by cbv) ?_ ?_
      · exact (hq trivial hq0)
      refine ⟨l10, r9v_2, (ar .add .i64 z6 1), h, Weak.of _ [(0, 0)] hA (by cbv) ?_⟩
      repeat (first | exact hq0 | refine hq (by first | exact True.intro | rfl) ?_)
    · have h := if_f c7 h
      refine Run.exit ?_
      refine Run.seq ?_
      refine Run.region hL hT [] (by cbv) ?_ ?_
      · exact hq0
      refine Run.ret ?_
      cases h
      refine ⟨_, _, by cbv, ?_, ?_⟩
      · exact LLe.r
      · exact (ALe.v LLe.r ALe.nil)

set_option maxRecDepth 8000 in
theorem laws_markStore_ac {a0v_Schemav_Cols : List Int} {a0v_Version : Int} {a0v_Tables : List (List Row)} {a1 : Int} {r : Store × Int} (h : laws_markStore.f (Store.mk (Schema.mk a0v_Schemav_Cols) a0v_Version a0v_Tables) a1 = some r) : AC Try.prog 14 [.ag [.ow 3 (rowsOf Int_c a0v_Schemav_Cols), .s (.int .i64 a0v_Version), .ow 33 (rowsOf RowS_o a0v_Tables)], .v (.s (.int .i64 a1))] [.ag [.ow 3 (rowsOf Int_c r.1.Schema.Cols), .jk, .ow 33 (rowsOf RowS_o r.1.Tables)], .v (.jk)] [.v (.s (.int .i64 r.2))] := by
  unfold laws_markStore.f at h
  let ar := Ls.ar; let cm := Ls.cm; let bo := Ls.bo; let sc := Ls.sc; let sa := Ls.sa; let sx := Ls.sx; let ss := Ls.ss; let sl := Ls.sl; let bs := Ls.bs; let sb := Ls.sb; let ln := Ls.ln; let sr := Ls.sr; let ap := Ls.ap; let up := Ls.up; let rp := Ls.rp; let fr := Ls.fr; let ge := Ls.ge; let le := Ls.le; let lt := Ls.lt; let nz := Ls.nz; let mm := Ls.mm; let ma := Ls.ma; let sm := Ls.sm; let fl := Ls.fl; let al := Ls.al; let ci := Ls.ci
  let eInt_c := rowsOf Int_c
  let eRowS_o := rowsOf RowS_o
  have hL : (⟨ar, cm, bo, sc, sa, sx, ss, sl, bs, sb, ln, sr, ap, up, rp, fr, ge, le, lt, nz, mm, ma, sm, fl, al, ci⟩ : Lf) = Ls := rfl
  show AC Try.prog 14 [.ag [.ow 3 (eInt_c a0v_Schemav_Cols), .s (.int .i64 a0v_Version), .ow 33 (eRowS_o a0v_Tables)], .v (.s (.int .i64 a1))] _ _
  refine AC.of_run2 tab_ok Try.func14 (by rfl) (by rfl) (by cbv) ⟨by decide, rfl⟩ fun F hP hA => ?_
  have hT : TabOk F.P tab := hP ▸ tab_ok
  have hM : F.P.follows .mixedOrders = true := hP ▸ mixed
  have hC : ∀ {f a o r}, AC Try.prog f a o r → AC F.P f a o r := fun h => hP ▸ h
  refine Run.seq ?_
  refine Run.region hL hT [] (by cbv) ?_ ?_
  · exact hq0
  refine Run.seq ?_
  obtain ⟨⟨⟨r1v_1v_Cols⟩, r1v_2⟩, h_r1, h⟩ := bnd h
  refine Run.region hL hT [(3, .call [true, false] [.ag [.ow 3 (eInt_c r1v_1v_Cols)], .v (.jk)] [.v (.s (.int .i64 r1v_2))])] (by cbv) ?_ ?_
  · exact (hq trivial (hq (hC (laws_markSchema_ac h_r1)) hq0))
  refine Run.seq ?_
  obtain ⟨⟨r2v_1, r2v_2⟩, h_r2, h⟩ := bnd h
  refine Run.region hL hT [(3, .call [true, false] [.v (.ow 33 (eRowS_o r2v_1)), .v (.jk)] [.v (.s (.int .i64 r2v_2))])] (by cbv) ?_ ?_
  · exact (hq trivial (hq (hC (laws_markRowSS_ac h_r2)) hq0))
  refine Run.seq ?_
  refine Run.region hL hT [] (by cbv) ?_ ?_
  · exact hq0
  refine Run.ret ?_
  cases h
  refine ⟨_, _, by cbv, ?_, ?_⟩
  · exact LLe.r
  · exact (ALe.v LLe.r ALe.nil)

set_option maxRecDepth 8000 in
theorem laws_markCondS_ac {a0 : List Cond} {a1 : Int} {r : (List Cond) × Int} (h : laws_markCondS.f a0 a1 = some r) : AC Try.prog 49 [.v (.ow 94 (rowsOf Cond_c a0)), .v (.s (.int .i64 a1))] [.v (.ow 94 (rowsOf Cond_c r.1)), .v (.jk)] [.v (.s (.int .i64 r.2))] := by
  unfold laws_markCondS.f at h
  let ar := Ls.ar; let cm := Ls.cm; let bo := Ls.bo; let sc := Ls.sc; let sa := Ls.sa; let sx := Ls.sx; let ss := Ls.ss; let sl := Ls.sl; let bs := Ls.bs; let sb := Ls.sb; let ln := Ls.ln; let sr := Ls.sr; let ap := Ls.ap; let up := Ls.up; let rp := Ls.rp; let fr := Ls.fr; let ge := Ls.ge; let le := Ls.le; let lt := Ls.lt; let nz := Ls.nz; let mm := Ls.mm; let ma := Ls.ma; let sm := Ls.sm; let fl := Ls.fl; let al := Ls.al; let ci := Ls.ci
  let eCond_c := rowsOf Cond_c
  let lenI_Cond := @lenI Cond
  have hL : (⟨ar, cm, bo, sc, sa, sx, ss, sl, bs, sb, ln, sr, ap, up, rp, fr, ge, le, lt, nz, mm, ma, sm, fl, al, ci⟩ : Lf) = Ls := rfl
  show AC Try.prog 49 [.v (.ow 94 (eCond_c a0)), .v (.s (.int .i64 a1))] _ _
  refine AC.of_run2 tab_ok Try.func49 (by rfl) (by rfl) (by cbv) ⟨by decide, rfl⟩ fun F hP hA => ?_
  have hT : TabOk F.P tab := hP ▸ tab_ok
  have hM : F.P.follows .mixedOrders = true := hP ▸ mixed
  have hC : ∀ {f a o r}, AC Try.prog f a o r → AC F.P f a o r := fun h => hP ▸ h
  refine Run.seq ?_
  refine Run.region hL hT [] (by cbv) ?_ ?_
  · exact hq0
  refine Run.seq ?_
  refine Run.seq ?_
  refine Run.region hL hT [] (by cbv) ?_ ?_
  · exact hq0
  refine Run.block ?_
  refine Run.loop3 (fun (z4 : List Cond) (z5 : Int) (z6 : Int) => ⟨34, 100000, [(0, .rf 0), (1, .t (.s (.int .i64 z5))), (5, .t (.s (.int .i64 z6)))], [(0, .row 0 94 3 (eCond_c z4))]⟩) (x0 := a0) (x1 := a1) (x2 := 0) h (Weak.of _ [(0, 0)] hA (by cbv) ?_) (fun _ _ _ => rfl) ?_
  · repeat (first | exact hq0 | refine hq (by first | exact True.intro | rfl) ?_)
  · intro k z4 z5 z6 h
    rw [laws_markCondS.l0] at h
    refine Run.seq ?_
    refine Run.seq ?_
    refine Run.region hL hT [] (by cbv) ?_ ?_
    · exact (hq trivial hq0)
    rw [show ln (eCond_c z4) = lenI_Cond z4 from ln_eq Cond_c _]
    refine Run.cond (by cbv) (hq0) (fun c7 => ?_) (fun c7 => ?_)
    · have h := if_t c7 h
      refine Run.skip ?_
      refine Run.seq ?_
      refine Run.block ?_
      refine Run.seq ?_
      obtain ⟨⟨x8v_Col, x8v_Op, x8v_V⟩, h_x8, h⟩ := bnd h
      obtain ⟨l9, h_l9, h⟩ := bnd h
      refine Run.region hL hT [] (by cbv) ?_ ?_
      · exact (hq (get_le h_x8) (hq (get_lt (f := Cond_c) h_x8) (hq (get_le h_x8) (hq (get_lt (f := Cond_c) h_x8) hq0))))
      refine Run.row (rows := (up (eCond_c z4) z6 0 [.s (.int .i64 z5)])) 0 (eCond_c l9) (by cbv) (sto_le (f := Cond_c) h_x8 h_l9 rfl LLe.r) ?_
      refine Run.seq ?_
      refine Run.region hL hT [] (by cbv) ?_ ?_
      · exact (hq trivial hq0)
      refine Run.seq ?_
      obtain ⟨⟨x10v_Col, x10v_Op, x10v_V⟩, h_x10, h⟩ := bnd h
      obtain ⟨l11, h_l11, h⟩ := bnd h
      refine Run.region hL hT [] (by cbv) ?_ ?_
      · exact (hq (get_le h_x10) (hq (get_lt (f := Cond_c) h_x10) (hq (get_le h_x10) (hq (get_lt (f := Cond_c) h_x10) hq0))))
      refine Run.row (rows := (up (eCond_c l9) z6 1 [.s (.int .i64 (ar .add .i64 z5 1))])) 0 (eCond_c l11) (by cbv) (sto_le (f := Cond_c) h_x10 h_l11 rfl LLe.r) ?_
      refine Run.seq ?_
      refine Run.region hL hT [] (by cbv) ?_ ?_
      · exact (hq trivial hq0)
      refine Run.seq ?_
      obtain ⟨⟨x12v_Col, x12v_Op, x12v_V⟩, h_x12, h⟩ := bnd h
      obtain ⟨l13, h_l13, h⟩ := bnd h
      refine Run.region hL hT [] (by cbv) ?_ ?_
      · exact (hq (get_le h_x12) (hq (get_lt (f := Cond_c) h_x12) (hq (get_le h_x12) (hq (get_lt (f := Cond_c) h_x12) hq0))))
      refine Run.row (rows := (up (eCond_c l11) z6 2 [.s (.int .i64 (ar .add .i64 (ar .add .i64 z5 1) 1))])) 0 (eCond_c l13) (by cbv) (sto_le (f := Cond_c) h_x12 h_l13 rfl LLe.r) ?_
      refine Run.region hL hT [] (by cbv) ?_ ?_
      · exact (hq trivial hq0)
      refine Run.region hL hT [] (by cbv) ?_ ?_
      · exact (hq trivial hq0)
      refine ⟨l13, (ar .add .i64 (ar .add .i64 (ar .add .i64 z5 1) 1) 1), (ar .add .i64 z6 1), h, Weak.of _ [(0, 0)] hA (by cbv) ?_⟩
      repeat (first | exact hq0 | refine hq (by first | exact True.intro | rfl) ?_)
    · have h := if_f c7 h
      refine Run.exit ?_
      refine Run.seq ?_
      refine Run.region hL hT [] (by cbv) ?_ ?_
      · exact hq0
      refine Run.ret ?_
      cases h
      refine ⟨_, _, by cbv, ?_, ?_⟩
      · exact LLe.r
      · exact (ALe.v LLe.r ALe.nil)

set_option maxRecDepth 8000 in
theorem laws_markQuery_ac {a0v_Table : Int} {a0v_Where : List Cond} {a0v_Order : Int} {a0v_Down : Bool} {a0v_First : Int} {a0v_Show : List Int} {a0v_Kids : Bool} {a0v_KidTable : Int} {a0v_KidCol : Int} {a1 : Int} {r : Query × Int} (h : laws_markQuery.f (Query.mk a0v_Table a0v_Where a0v_Order a0v_Down a0v_First a0v_Show a0v_Kids a0v_KidTable a0v_KidCol) a1 = some r) : AC Try.prog 15 [.ag [.s (.int .i64 a0v_Table), .ow 94 (rowsOf Cond_c a0v_Where), .s (.int .i64 a0v_Order), .s (.bool a0v_Down), .s (.int .i64 a0v_First), .ow 3 (rowsOf Int_c a0v_Show), .s (.bool a0v_Kids), .s (.int .i64 a0v_KidTable), .s (.int .i64 a0v_KidCol)], .v (.s (.int .i64 a1))] [.ag [.jk, .ow 94 (rowsOf Cond_c r.1.Where), .jk, .jk, .jk, .ow 3 (rowsOf Int_c r.1.Show), .jk, .jk, .jk], .v (.jk)] [.v (.s (.int .i64 r.2))] := by
  unfold laws_markQuery.f at h
  let ar := Ls.ar; let cm := Ls.cm; let bo := Ls.bo; let sc := Ls.sc; let sa := Ls.sa; let sx := Ls.sx; let ss := Ls.ss; let sl := Ls.sl; let bs := Ls.bs; let sb := Ls.sb; let ln := Ls.ln; let sr := Ls.sr; let ap := Ls.ap; let up := Ls.up; let rp := Ls.rp; let fr := Ls.fr; let ge := Ls.ge; let le := Ls.le; let lt := Ls.lt; let nz := Ls.nz; let mm := Ls.mm; let ma := Ls.ma; let sm := Ls.sm; let fl := Ls.fl; let al := Ls.al; let ci := Ls.ci
  let eCond_c := rowsOf Cond_c
  let eInt_c := rowsOf Int_c
  have hL : (⟨ar, cm, bo, sc, sa, sx, ss, sl, bs, sb, ln, sr, ap, up, rp, fr, ge, le, lt, nz, mm, ma, sm, fl, al, ci⟩ : Lf) = Ls := rfl
  show AC Try.prog 15 [.ag [.s (.int .i64 a0v_Table), .ow 94 (eCond_c a0v_Where), .s (.int .i64 a0v_Order), .s (.bool a0v_Down), .s (.int .i64 a0v_First), .ow 3 (eInt_c a0v_Show), .s (.bool a0v_Kids), .s (.int .i64 a0v_KidTable), .s (.int .i64 a0v_KidCol)], .v (.s (.int .i64 a1))] _ _
  refine AC.of_run2 tab_ok Try.func15 (by rfl) (by rfl) (by cbv) ⟨by decide, rfl⟩ fun F hP hA => ?_
  have hT : TabOk F.P tab := hP ▸ tab_ok
  have hM : F.P.follows .mixedOrders = true := hP ▸ mixed
  have hC : ∀ {f a o r}, AC Try.prog f a o r → AC F.P f a o r := fun h => hP ▸ h
  refine Run.seq ?_
  refine Run.region hL hT [] (by cbv) ?_ ?_
  · exact hq0
  refine Run.seq ?_
  obtain ⟨⟨r1v_1, r1v_2⟩, h_r1, h⟩ := bnd h
  refine Run.region hL hT [(3, .call [true, false] [.v (.ow 94 (eCond_c r1v_1)), .v (.jk)] [.v (.s (.int .i64 r1v_2))])] (by cbv) ?_ ?_
  · exact (hq trivial (hq (hC (laws_markCondS_ac h_r1)) hq0))
  refine Run.seq ?_
  obtain ⟨⟨r2v_1, r2v_2⟩, h_r2, h⟩ := bnd h
  refine Run.region hL hT [(3, .call [true, false] [.v (.ow 3 (eInt_c r2v_1)), .v (.jk)] [.v (.s (.int .i64 r2v_2))])] (by cbv) ?_ ?_
  · exact (hq trivial (hq (hC (laws_markIntS_ac h_r2)) hq0))
  refine Run.seq ?_
  refine Run.region hL hT [] (by cbv) ?_ ?_
  · exact hq0
  refine Run.ret ?_
  cases h
  refine ⟨_, _, by cbv, ?_, ?_⟩
  · exact LLe.r
  · exact (ALe.v LLe.r ALe.nil)

set_option maxRecDepth 8000 in
theorem spec_l1In_ac {a0 : Int} {a1 : Int} {a2 : Int} {r : Bool} (h : spec_l1In.f a0 a1 a2 = some r) : AC Try.prog 62 [.v (.s (.int .i64 a0)), .v (.s (.int .i64 a1)), .v (.s (.int .i64 a2))] [.v (.jk), .v (.jk), .v (.jk)] [.v (.s (.bool r))] := by
  unfold spec_l1In.f at h
  let ar := Ls.ar; let cm := Ls.cm; let bo := Ls.bo; let sc := Ls.sc; let sa := Ls.sa; let sx := Ls.sx; let ss := Ls.ss; let sl := Ls.sl; let bs := Ls.bs; let sb := Ls.sb; let ln := Ls.ln; let sr := Ls.sr; let ap := Ls.ap; let up := Ls.up; let rp := Ls.rp; let fr := Ls.fr; let ge := Ls.ge; let le := Ls.le; let lt := Ls.lt; let nz := Ls.nz; let mm := Ls.mm; let ma := Ls.ma; let sm := Ls.sm; let fl := Ls.fl; let al := Ls.al; let ci := Ls.ci
  have hL : (⟨ar, cm, bo, sc, sa, sx, ss, sl, bs, sb, ln, sr, ap, up, rp, fr, ge, le, lt, nz, mm, ma, sm, fl, al, ci⟩ : Lf) = Ls := rfl
  show AC Try.prog 62 [.v (.s (.int .i64 a0)), .v (.s (.int .i64 a1)), .v (.s (.int .i64 a2))] _ _
  refine AC.of_run2 tab_ok Try.func62 (by rfl) (by rfl) (by cbv) ⟨by decide, rfl⟩ fun F hP hA => ?_
  have hT : TabOk F.P tab := hP ▸ tab_ok
  have hM : F.P.follows .mixedOrders = true := hP ▸ mixed
  have hC : ∀ {f a o r}, AC Try.prog f a o r → AC F.P f a o r := fun h => hP ▸ h
  refine Run.seq ?_
  refine Run.region hL hT [] (by cbv) ?_ ?_
  · exact hq0
  refine Run.seq ?_
  refine Run.region hL hT [] (by cbv) ?_ ?_
  · exact (hq trivial (hq (fun _ => hq0) (hq (fun _ => hq0) (hq (fun g3 => (hq g3 (hq g3 (hq trivial hq0)))) (hq (fun q4 => (hq q4 hq0)) (hq (fun _ => hq0) hq0))))))
  refine Run.ret ?_
  cases h
  refine ⟨_, _, by cbv, ?_, ?_⟩
  · exact LLe.r
  · exact (ALe.v LLe.r ALe.nil)

set_option maxRecDepth 8000 in
theorem spec_SchemaOk_ac {a0v_Cols : List Int} {r : Bool} (h : spec_SchemaOk.f (Schema.mk a0v_Cols) = some r) : AC Try.prog 61 [.ag [.im false (rowsOf Int_c a0v_Cols)]] [.ag [.jk]] [.v (.s (.bool r))] := by
  unfold spec_SchemaOk.f at h
  let ar := Ls.ar; let cm := Ls.cm; let bo := Ls.bo; let sc := Ls.sc; let sa := Ls.sa; let sx := Ls.sx; let ss := Ls.ss; let sl := Ls.sl; let bs := Ls.bs; let sb := Ls.sb; let ln := Ls.ln; let sr := Ls.sr; let ap := Ls.ap; let up := Ls.up; let rp := Ls.rp; let fr := Ls.fr; let ge := Ls.ge; let le := Ls.le; let lt := Ls.lt; let nz := Ls.nz; let mm := Ls.mm; let ma := Ls.ma; let sm := Ls.sm; let fl := Ls.fl; let al := Ls.al; let ci := Ls.ci
  let eInt_c := rowsOf Int_c
  let lenI_Int := @lenI Int
  have hL : (⟨ar, cm, bo, sc, sa, sx, ss, sl, bs, sb, ln, sr, ap, up, rp, fr, ge, le, lt, nz, mm, ma, sm, fl, al, ci⟩ : Lf) = Ls := rfl
  show AC Try.prog 61 [.ag [.im false (eInt_c a0v_Cols)]] _ _
  refine AC.of_run2 tab_ok Try.func61 (by rfl) (by rfl) (by cbv) ⟨by decide, rfl⟩ fun F hP hA => ?_
  have hT : TabOk F.P tab := hP ▸ tab_ok
  have hM : F.P.follows .mixedOrders = true := hP ▸ mixed
  have hC : ∀ {f a o r}, AC Try.prog f a o r → AC F.P f a o r := fun h => hP ▸ h
  refine Run.seq ?_
  refine Run.region hL hT [] (by cbv) ?_ ?_
  · exact hq0
  obtain ⟨K2, h_K2, h⟩ := joinE h
  refine Run.join1 K2 (r := r) (fun (y1 : Unit) => ⟨22, 100000, [(1, .pt 1 0 0)], [(1, .box 35 [.t (.im false (eInt_c a0v_Cols))])]⟩) ?_ ?_
  · skip
    refine Run.seq ?_
    refine Run.region hL hT [] (by cbv) ?_ ?_
    · exact hq0
    refine Run.block ?_
    refine Run.loop1 (fun (z5 : Int) => ⟨22, 100000, [(1, .pt 1 0 0), (3, .t (.s (.int .i64 z5)))], [(1, .box 35 [.t (.im false (eInt_c a0v_Cols))])]⟩) (x0 := 0) h (Weak.of _ [(1, 0)] hA (by cbv) ?_) (fun _ => rfl) ?_
    · repeat (first | exact hq0 | refine hq (by first | exact True.intro | rfl) ?_)
    · intro k z5 h
      rw [spec_SchemaOk.l0] at h
      refine Run.seq ?_
      refine Run.seq ?_
      refine Run.region hL hT [] (by cbv) ?_ ?_
      · exact (hq trivial (hq trivial hq0))
      rw [show ln (eInt_c a0v_Cols) = lenI_Int a0v_Cols from ln_eq Int_c _]
      refine Run.cond (by cbv) (hq0) (fun c6 => ?_) (fun c6 => ?_)
      · have h := if_t c6 h
        refine Run.skip ?_
        refine Run.seq ?_
        refine Run.block ?_
        refine Run.seq ?_
        obtain ⟨x7, h_x7, h⟩ := bnd h
        obtain ⟨r8, h_r8, h⟩ := bnd h
        refine Run.region hL hT [(3, .el [.s (.int .i64 x7)]), (5, .call [false, false, false] [.v (.jk), .v (.jk), .v (.jk)] [.v (.s (.bool r8))])] (by cbv) ?_ ?_
        · exact (hq trivial (hq (get_le h_x7) (hq (get_lt (f := Int_c) h_x7) (hq (get_ge (f := Int_c) h_x7) (hq (hC (spec_l1In_ac h_r8)) hq0)))))
        refine Run.cond (by cbv) (hq0) (fun c9 => ?_) (fun c9 => ?_)
        · have h := if_t c9 h
          refine Run.seq ?_
          refine Run.region hL hT [] (by cbv) ?_ ?_
          · exact hq0
          refine Run.ret ?_
          cases h
          refine ⟨_, _, by cbv, ?_, ?_⟩
          · exact LLe.r
          · exact (ALe.v LLe.r ALe.nil)
        · have h := if_f c9 h
          refine Run.skip ?_
          refine Run.region hL hT [] (by cbv) ?_ ?_
          · exact (hq trivial hq0)
          refine ⟨(ar .add .i64 z5 1), h, Weak.of _ [(1, 1)] hA (by cbv) ?_⟩
          repeat (first | exact hq0 | refine hq (by first | exact True.intro | rfl) ?_)
      · have h := if_f c6 h
        refine Run.exit ?_
        refine ⟨(), h, Weak.of _ [(1, 1)] hA (by cbv) ?_⟩
        repeat (first | exact hq0 | refine hq (by first | exact True.intro | rfl) ?_)
  · intro y1 h
    rw [h_K2] at h
    refine Run.seq ?_
    obtain ⟨r10, h_r10, h⟩ := bnd h
    refine Run.region hL hT [(3, .call [false, false, false] [.v (.jk), .v (.jk), .v (.jk)] [.v (.s (.bool r10))])] (by cbv) ?_ ?_
    · exact (hq trivial (hq (by rw [show ln (eInt_c a0v_Cols) = lenI_Int a0v_Cols from ln_eq Int_c _]; exact (hC (spec_l1In_ac h_r10))) hq0))
    rw [show ln (eInt_c a0v_Cols) = lenI_Int a0v_Cols from ln_eq Int_c _]
    refine Run.ret ?_
    cases h
    refine ⟨_, _, by cbv, ?_, ?_⟩
    · exact LLe.r
    · exact (ALe.v LLe.r ALe.nil)

set_option maxRecDepth 8000 in
theorem spec_RowOk_ac {a0v_Cols : List Int} {a1 : Int} {a2v_Id : Int} {a2v_Cells : List Int} {r : Bool} (h : spec_RowOk.f (Schema.mk a0v_Cols) a1 (Row.mk a2v_Id a2v_Cells) = some r) : AC Try.prog 86 [.ag [.im false (rowsOf Int_c a0v_Cols)], .v (.s (.int .i64 a1)), .ag [.s (.int .i64 a2v_Id), .im false (rowsOf Int_c a2v_Cells)]] [.ag [.jk], .v (.jk), .ag [.jk, .jk]] [.v (.s (.bool r))] := by
  unfold spec_RowOk.f at h
  let ar := Ls.ar; let cm := Ls.cm; let bo := Ls.bo; let sc := Ls.sc; let sa := Ls.sa; let sx := Ls.sx; let ss := Ls.ss; let sl := Ls.sl; let bs := Ls.bs; let sb := Ls.sb; let ln := Ls.ln; let sr := Ls.sr; let ap := Ls.ap; let up := Ls.up; let rp := Ls.rp; let fr := Ls.fr; let ge := Ls.ge; let le := Ls.le; let lt := Ls.lt; let nz := Ls.nz; let mm := Ls.mm; let ma := Ls.ma; let sm := Ls.sm; let fl := Ls.fl; let al := Ls.al; let ci := Ls.ci
  let eInt_c := rowsOf Int_c
  let lenI_Int := @lenI Int
  have hL : (⟨ar, cm, bo, sc, sa, sx, ss, sl, bs, sb, ln, sr, ap, up, rp, fr, ge, le, lt, nz, mm, ma, sm, fl, al, ci⟩ : Lf) = Ls := rfl
  show AC Try.prog 86 [.ag [.im false (eInt_c a0v_Cols)], .v (.s (.int .i64 a1)), .ag [.s (.int .i64 a2v_Id), .im false (eInt_c a2v_Cells)]] _ _
  refine AC.of_run2 tab_ok Try.func86 (by rfl) (by rfl) (by cbv) ⟨by decide, rfl⟩ fun F hP hA => ?_
  have hT : TabOk F.P tab := hP ▸ tab_ok
  have hM : F.P.follows .mixedOrders = true := hP ▸ mixed
  have hC : ∀ {f a o r}, AC Try.prog f a o r → AC F.P f a o r := fun h => hP ▸ h
  refine Run.seq ?_
  refine Run.region hL hT [] (by cbv) ?_ ?_
  · exact hq0
  refine Run.seq ?_
  refine Run.seq ?_
  obtain ⟨r1, h_r1, h⟩ := bnd h
  obtain ⟨r2, h_r2, h⟩ := bnd h
  obtain ⟨r3, h_r3, h⟩ := bnd h
  obtain ⟨x4, h_x4, h⟩ := bnd h
  refine Run.draw hL hT hM [(1, .call [false] [.ag [.jk]] [.v (.s (.bool r1))]), (9, .call [false, false, false] [.v (.jk), .v (.jk), .v (.jk)] [.v (.s (.bool r2))]), (15, .call [false, false, false] [.v (.jk), .v (.jk), .v (.jk)] [.v (.s (.bool r3))]), (25, .el [.s (.int .i64 x4)])] (by cbv) (by cbv) (by cbv) (by cbv) (by cbv) ?_ ?_
  · exact (hq trivial (hq (hC (spec_SchemaOk_ac h_r1)) (hq (fun _ => hq0) (hq (fun _ => hq0) (hq (fun g7 => (hq g7 (hq trivial hq0))) (hq (fun g8 => (hq g8 hq0)) (hq (fun g9 => (hq g9 (hq trivial hq0))) (hq (fun g10 => (hq g10 (hq g10 (hq (by rw [show ln (eInt_c a0v_Cols) = lenI_Int a0v_Cols from ln_eq Int_c _]; exact (hC (spec_l1In_ac (gd_t h_r2 g10)))) hq0)))) (hq (fun g11 => (hq g11 hq0)) (hq (fun _ => hq0) (hq (fun q13 => (hq (bo_m q13) hq0)) (hq (fun _ => hq0) (hq (fun g15 => (hq g15 (hq trivial hq0))) (hq (fun g16 => (hq g16 (hq (hC (spec_l1In_ac (gd_t h_r3 g16))) hq0))) (hq (fun g17 => (hq g17 hq0)) (hq (fun _ => hq0) (hq (fun q19 => (hq (bo_m q19) hq0)) (hq (fun _ => hq0) (hq (fun g21 => (hq g21 (hq trivial hq0))) (hq (fun g22 => (hq g22 hq0)) (hq (fun _ => hq0) (hq (fun g24 => (hq g24 (hq trivial hq0))) (hq (fun _ => hq0) (hq (fun g26 => (hq g26 (hq g26 (hq (get_le (gd_t h_x4 g26)) (hq (get_lt (f := Int_c) (gd_t h_x4 g26)) (hq (get_ge (f := Int_c) (gd_t h_x4 g26)) hq0)))))) (hq (fun g27 => (hq g27 hq0)) (hq (fun g28 => (hq g28 (hq g28 (hq trivial hq0)))) (hq (fun _ => hq0) (hq (fun q30 => (hq (bo_m q30) hq0)) hq0))))))))))))))))))))))))))))
  rw [show ln (eInt_c a0v_Cols) = lenI_Int a0v_Cols from ln_eq Int_c _]
  rw [show ln (eInt_c a2v_Cells) = lenI_Int a2v_Cells from ln_eq Int_c _]
  refine Run.cond (by cbv) (hq0) (fun c31 => ?_) (fun c31 => ?_)
  · have h := if_t c31 h
    refine Run.seq ?_
    refine Run.region hL hT [] (by cbv) ?_ ?_
    · exact hq0
    refine Run.ret ?_
    cases h
    refine ⟨_, _, by cbv, ?_, ?_⟩
    · exact LLe.r
    · exact (ALe.v LLe.r ALe.nil)
  · have h := if_f c31 h
    refine Run.skip ?_
    refine Run.seq ?_
    refine Run.seq ?_
    refine Run.region hL hT [] (by cbv) ?_ ?_
    · exact hq0
    refine Run.block ?_
    refine Run.loop1 (fun (z35 : Int) => ⟨51, 100000, [(5, .pt 1 0 0), (7, .t (.s (.int .i64 z35)))], [(1, .box 66 [.t (.s (.int .i64 a2v_Id)), .t (.im false (eInt_c a2v_Cells))])]⟩) (x0 := 0) h (Weak.of _ [(1, 1)] hA (by cbv) ?_) (fun _ => rfl) ?_
    · repeat (first | exact hq0 | refine hq (by first | exact True.intro | rfl) ?_)
    · intro k z35 h
      rw [spec_RowOk.l0] at h
      refine Run.seq ?_
      refine Run.seq ?_
      refine Run.region hL hT [] (by cbv) ?_ ?_
      · exact (hq trivial (hq trivial hq0))
      rw [show ln (eInt_c a2v_Cells) = lenI_Int a2v_Cells from ln_eq Int_c _]
      refine Run.cond (by cbv) (hq0) (fun c36 => ?_) (fun c36 => ?_)
      · have h := if_t c36 h
        refine Run.skip ?_
        refine Run.seq ?_
        refine Run.block ?_
        refine Run.seq ?_
        obtain ⟨x37, h_x37, h⟩ := bnd h
        obtain ⟨r38, h_r38, h⟩ := bnd h
        refine Run.region hL hT [(3, .el [.s (.int .i64 x37)]), (5, .call [false, false, false] [.v (.jk), .v (.jk), .v (.jk)] [.v (.s (.bool r38))])] (by cbv) ?_ ?_
        · exact (hq trivial (hq (get_le h_x37) (hq (get_lt (f := Int_c) h_x37) (hq (get_ge (f := Int_c) h_x37) (hq (hC (spec_l1In_ac h_r38)) hq0)))))
        refine Run.cond (by cbv) (hq0) (fun c39 => ?_) (fun c39 => ?_)
        · have h := if_t c39 h
          refine Run.seq ?_
          refine Run.region hL hT [] (by cbv) ?_ ?_
          · exact hq0
          refine Run.ret ?_
          cases h
          refine ⟨_, _, by cbv, ?_, ?_⟩
          · exact LLe.r
          · exact (ALe.v LLe.r ALe.nil)
        · have h := if_f c39 h
          refine Run.skip ?_
          refine Run.region hL hT [] (by cbv) ?_ ?_
          · exact (hq trivial hq0)
          refine ⟨(ar .add .i64 z35 1), h, Weak.of _ [(1, 1)] hA (by cbv) ?_⟩
          repeat (first | exact hq0 | refine hq (by first | exact True.intro | rfl) ?_)
      · have h := if_f c36 h
        refine Run.exit ?_
        refine Run.seq ?_
        refine Run.region hL hT [] (by cbv) ?_ ?_
        · exact hq0
        refine Run.ret ?_
        cases h
        refine ⟨_, _, by cbv, ?_, ?_⟩
        · exact LLe.r
        · exact (ALe.v LLe.r ALe.nil)

set_option maxRecDepth 8000 in
theorem spec_RowsOk_ac {a0v_Cols : List Int} {a1 : Int} {a2 : List Row} {r : Bool} (h : spec_RowsOk.f (Schema.mk a0v_Cols) a1 a2 = some r) : AC Try.prog 63 [.ag [.im false (rowsOf Int_c a0v_Cols)], .v (.s (.int .i64 a1)), .v (.im false (rowsOf Row_i a2))] [.ag [.jk], .v (.jk), .v (.jk)] [.v (.s (.bool r))] := by
  unfold spec_RowsOk.f at h
  let ar := Ls.ar; let cm := Ls.cm; let bo := Ls.bo; let sc := Ls.sc; let sa := Ls.sa; let sx := Ls.sx; let ss := Ls.ss; let sl := Ls.sl; let bs := Ls.bs; let sb := Ls.sb; let ln := Ls.ln; let sr := Ls.sr; let ap := Ls.ap; let up := Ls.up; let rp := Ls.rp; let fr := Ls.fr; let ge := Ls.ge; let le := Ls.le; let lt := Ls.lt; let nz := Ls.nz; let mm := Ls.mm; let ma := Ls.ma; let sm := Ls.sm; let fl := Ls.fl; let al := Ls.al; let ci := Ls.ci
  let eInt_c := rowsOf Int_c
  let eRow_i := rowsOf Row_i
  let lenI_Int := @lenI Int
  let lenI_Row := @lenI Row
  have hL : (⟨ar, cm, bo, sc, sa, sx, ss, sl, bs, sb, ln, sr, ap, up, rp, fr, ge, le, lt, nz, mm, ma, sm, fl, al, ci⟩ : Lf) = Ls := rfl
  show AC Try.prog 63 [.ag [.im false (eInt_c a0v_Cols)], .v (.s (.int .i64 a1)), .v (.im false (eRow_i a2))] _ _
  refine AC.of_run2 tab_ok Try.func63 (by rfl) (by rfl) (by cbv) ⟨by decide, rfl⟩ fun F hP hA => ?_
  have hT : TabOk F.P tab := hP ▸ tab_ok
  have hM : F.P.follows .mixedOrders = true := hP ▸ mixed
  have hC : ∀ {f a o r}, AC Try.prog f a o r → AC F.P f a o r := fun h => hP ▸ h
  refine Run.seq ?_
  refine Run.region hL hT [] (by cbv) ?_ ?_
  · exact hq0
  obtain ⟨K2, h_K2, h⟩ := joinE h
  refine Run.join1 K2 (r := r) (fun (y1 : Unit) => ⟨55, 100000, [(1, .t (.s (.int .i64 a1))), (2, .t (.im false (eRow_i a2))), (3, .pt 1 0 0)], [(1, .box 35 [.t (.im false (eInt_c a0v_Cols))])]⟩) ?_ ?_
  · skip
    refine Run.seq ?_
    refine Run.region hL hT [] (by cbv) ?_ ?_
    · exact hq0
    refine Run.block ?_
    refine Run.loop1 (fun (z7 : Int) => ⟨55, 100000, [(1, .t (.s (.int .i64 a1))), (2, .t (.im false (eRow_i a2))), (3, .pt 1 0 0), (7, .t (.s (.int .i64 z7)))], [(1, .box 35 [.t (.im false (eInt_c a0v_Cols))])]⟩) (x0 := 0) h (Weak.of _ [(1, 0)] hA (by cbv) ?_) (fun _ => rfl) ?_
    · repeat (first | exact hq0 | refine hq (by first | exact True.intro | rfl) ?_)
    · intro k z7 h
      rw [spec_RowsOk.l0] at h
      refine Run.seq ?_
      refine Run.seq ?_
      refine Run.region hL hT [] (by cbv) ?_ ?_
      · exact (hq trivial hq0)
      rw [show ln (eRow_i a2) = lenI_Row a2 from ln_eq Row_i _]
      refine Run.cond (by cbv) (hq0) (fun c8 => ?_) (fun c8 => ?_)
      · have h := if_t c8 h
        refine Run.skip ?_
        refine Run.seq ?_
        refine Run.block ?_
        refine Run.seq ?_
        obtain ⟨⟨x9v_Id, x9v_Cells⟩, h_x9, h⟩ := bnd h
        obtain ⟨r10, h_r10, h⟩ := bnd h
        obtain ⟨⟨x11v_Id, x11v_Cells⟩, h_x11, h⟩ := bnd h
        refine Run.draw hL hT hM [(4, .el [.s (.int .i64 x9v_Id), .im false (eInt_c x9v_Cells)]), (6, .call [false, false, false] [.ag [.jk], .v (.jk), .ag [.jk, .jk]] [.v (.s (.bool r10))]), (15, .el [.s (.int .i64 x11v_Id), .im false (eInt_c x11v_Cells)]), (20, .el [.s (.int .i64 x9v_Id), .im false (eInt_c x9v_Cells)])] (by cbv) (by cbv) (by cbv) (by cbv) (by cbv) ?_ ?_
        · exact (hq trivial (hq (get_le h_x9) (hq (get_lt (f := Row_i) h_x9) (hq (get_ge (f := Row_i) h_x9) (hq (hC (spec_RowOk_ac h_r10)) (hq (fun _ => hq0) (hq (fun g13 => (hq g13 (hq trivial hq0))) (hq (fun g14 => (hq g14 hq0)) (hq (fun _ => hq0) (hq (fun _ => hq0) (hq (fun g17 => (hq g17 (hq trivial hq0))) (hq (fun g18 => (hq g18 (hq g18 (hq (get_le (gd_t h_x11 g18)) (hq (get_lt (f := Row_i) (gd_t h_x11 g18)) (hq (get_ge (f := Row_i) (gd_t h_x11 g18)) hq0)))))) (hq (fun g19 => (hq g19 hq0)) (hq (fun g20 => (hq g20 hq0)) (hq (fun _ => hq0) (hq (fun _ => hq0) (hq (fun g23 => (hq g23 (hq g23 (hq (get_le h_x9) (hq (get_lt (f := Row_i) h_x9) (hq (get_ge (f := Row_i) h_x9) hq0)))))) (hq (fun g24 => (hq g24 hq0)) (hq (fun g25 => (hq g25 hq0)) (hq (fun g26 => (hq g26 (hq g26 (hq trivial hq0)))) (hq (fun g27 => (hq g27 (hq (fun q28 => (hq (bo_a g27 q28) hq0)) (hq (fun _ => hq0) hq0)))) (hq (fun _ => hq0) (hq (fun q31 => (hq (bo_m q31) hq0)) hq0)))))))))))))))))))))))
        refine Run.cond (by cbv) (hq0) (fun c32 => ?_) (fun c32 => ?_)
        · have h := if_t c32 h
          refine Run.seq ?_
          refine Run.region hL hT [] (by cbv) ?_ ?_
          · exact hq0
          refine Run.ret ?_
          cases h
          refine ⟨_, _, by cbv, ?_, ?_⟩
          · exact LLe.r
          · exact (ALe.v LLe.r ALe.nil)
        · have h := if_f c32 h
          refine Run.skip ?_
          refine Run.region hL hT [] (by cbv) ?_ ?_
          · exact (hq trivial hq0)
          refine ⟨(ar .add .i64 z7 1), h, Weak.of _ [(1, 1)] hA (by cbv) ?_⟩
          repeat (first | exact hq0 | refine hq (by first | exact True.intro | rfl) ?_)
      · have h := if_f c8 h
        refine Run.exit ?_
        refine ⟨(), h, Weak.of _ [(1, 1)] hA (by cbv) ?_⟩
        repeat (first | exact hq0 | refine hq (by first | exact True.intro | rfl) ?_)
  · intro y1 h
    rw [h_K2] at h
    refine Run.seq ?_
    obtain ⟨r33, h_r33, h⟩ := bnd h
    obtain ⟨r34, h_r34, h⟩ := bnd h
    refine Run.region hL hT [(1, .call [false] [.ag [.jk]] [.v (.s (.bool r33))]), (8, .call [false, false, false] [.v (.jk), .v (.jk), .v (.jk)] [.v (.s (.bool r34))])] (by cbv) ?_ ?_
    · exact (hq trivial (hq (hC (spec_SchemaOk_ac h_r33)) (hq (fun _ => hq0) (hq (fun _ => hq0) (hq (fun g37 => (hq g37 (hq trivial hq0))) (hq (fun g38 => (hq g38 hq0)) (hq (fun g39 => (hq g39 (hq trivial hq0))) (hq (fun g40 => (hq g40 (hq g40 (hq (by rw [show ln (eInt_c a0v_Cols) = lenI_Int a0v_Cols from ln_eq Int_c _]; exact (hC (spec_l1In_ac (gd_t h_r34 g40)))) hq0)))) (hq (fun q41 => (hq q41 hq0)) (hq (fun _ => hq0) (hq (fun _ => hq0) (hq (fun g44 => (hq g44 hq0)) (hq (fun g45 => (hq g45 (hq trivial hq0))) (hq (fun q46 => (hq q46 hq0)) (hq (fun _ => hq0) hq0)))))))))))))))
    rw [show ln (eInt_c a0v_Cols) = lenI_Int a0v_Cols from ln_eq Int_c _]
    rw [show ln (eRow_i a2) = lenI_Row a2 from ln_eq Row_i _]
    refine Run.ret ?_
    cases h
    refine ⟨_, _, by cbv, ?_, ?_⟩
    · exact LLe.r
    · exact (ALe.v LLe.r ALe.nil)

set_option maxRecDepth 8000 in
theorem spec_StoreOk_ac {a0v_Schemav_Cols : List Int} {a0v_Version : Int} {a0v_Tables : List (List Row)} {r : Bool} (h : spec_StoreOk.f (Store.mk (Schema.mk a0v_Schemav_Cols) a0v_Version a0v_Tables) = some r) : AC Try.prog 27 [.ag [.im false (rowsOf Int_c a0v_Schemav_Cols), .s (.int .i64 a0v_Version), .im false (rowsOf RowS_i a0v_Tables)]] [.ag [.jk, .jk, .jk]] [.v (.s (.bool r))] := by
  unfold spec_StoreOk.f at h
  let ar := Ls.ar; let cm := Ls.cm; let bo := Ls.bo; let sc := Ls.sc; let sa := Ls.sa; let sx := Ls.sx; let ss := Ls.ss; let sl := Ls.sl; let bs := Ls.bs; let sb := Ls.sb; let ln := Ls.ln; let sr := Ls.sr; let ap := Ls.ap; let up := Ls.up; let rp := Ls.rp; let fr := Ls.fr; let ge := Ls.ge; let le := Ls.le; let lt := Ls.lt; let nz := Ls.nz; let mm := Ls.mm; let ma := Ls.ma; let sm := Ls.sm; let fl := Ls.fl; let al := Ls.al; let ci := Ls.ci
  let eInt_c := rowsOf Int_c
  let eRowS_i := rowsOf RowS_i
  let eRow_i := rowsOf Row_i
  let lenI_Int := @lenI Int
  let lenI_RowS := @lenI (List Row)
  have hL : (⟨ar, cm, bo, sc, sa, sx, ss, sl, bs, sb, ln, sr, ap, up, rp, fr, ge, le, lt, nz, mm, ma, sm, fl, al, ci⟩ : Lf) = Ls := rfl
  show AC Try.prog 27 [.ag [.im false (eInt_c a0v_Schemav_Cols), .s (.int .i64 a0v_Version), .im false (eRowS_i a0v_Tables)]] _ _
  refine AC.of_run2 tab_ok Try.func27 (by rfl) (by rfl) (by cbv) ⟨by decide, rfl⟩ fun F hP hA => ?_
  have hT : TabOk F.P tab := hP ▸ tab_ok
  have hM : F.P.follows .mixedOrders = true := hP ▸ mixed
  have hC : ∀ {f a o r}, AC Try.prog f a o r → AC F.P f a o r := fun h => hP ▸ h
  refine Run.seq ?_
  refine Run.region hL hT [] (by cbv) ?_ ?_
  · exact hq0
  refine Run.seq ?_
  refine Run.seq ?_
  obtain ⟨r1, h_r1, h⟩ := bnd h
  obtain ⟨r2, h_r2, h⟩ := bnd h
  refine Run.region hL hT [(2, .call [false] [.ag [.jk]] [.v (.s (.bool r1))]), (7, .call [false, false, false] [.v (.jk), .v (.jk), .v (.jk)] [.v (.s (.bool r2))])] (by cbv) ?_ ?_
  · exact (hq trivial (hq (hC (spec_SchemaOk_ac h_r1)) (hq (fun _ => hq0) (hq (fun g4 => (hq g4 (hq trivial hq0))) (hq (fun g5 => (hq g5 (hq (hC (spec_l1In_ac (gd_t h_r2 g5))) hq0))) (hq (fun g6 => (hq g6 hq0)) (hq (fun _ => hq0) (hq (fun q8 => (hq (bo_m q8) hq0)) (hq (fun _ => hq0) (hq (fun g10 => (hq g10 (hq trivial hq0))) (hq (fun g11 => (hq g11 hq0)) (hq (fun _ => hq0) (hq (fun g13 => (hq g13 hq0)) (hq (fun g14 => (hq g14 (hq trivial hq0))) (hq (fun g15 => (hq g15 hq0)) (hq (fun g16 => (hq g16 (hq g16 (hq trivial hq0)))) (hq (fun _ => hq0) (hq (fun q18 => (hq (bo_m q18) hq0)) hq0))))))))))))))))))
  rw [show ln (eInt_c a0v_Schemav_Cols) = lenI_Int a0v_Schemav_Cols from ln_eq Int_c _]
  rw [show ln (eRowS_i a0v_Tables) = lenI_RowS a0v_Tables from ln_eq RowS_i _]
  refine Run.cond (by cbv) (hq0) (fun c19 => ?_) (fun c19 => ?_)
  · have h := if_t c19 h
    refine Run.seq ?_
    refine Run.region hL hT [] (by cbv) ?_ ?_
    · exact hq0
    refine Run.ret ?_
    cases h
    refine ⟨_, _, by cbv, ?_, ?_⟩
    · exact LLe.r
    · exact (ALe.v LLe.r ALe.nil)
  · have h := if_f c19 h
    refine Run.skip ?_
    refine Run.seq ?_
    refine Run.seq ?_
    refine Run.region hL hT [] (by cbv) ?_ ?_
    · exact hq0
    refine Run.block ?_
    refine Run.loop1 (fun (z24 : Int) => ⟨41, 100000, [(1, .pt 1 0 0), (3, .t (.s (.int .i64 z24)))], [(1, .box 38 [.t (.im false (eInt_c a0v_Schemav_Cols)), .t (.s (.int .i64 a0v_Version)), .t (.im false (eRowS_i a0v_Tables))])]⟩) (x0 := 0) h (Weak.of _ [(1, 0)] hA (by cbv) ?_) (fun _ => rfl) ?_
    · repeat (first | exact hq0 | refine hq (by first | exact True.intro | rfl) ?_)
    · intro k z24 h
      rw [spec_StoreOk.l0] at h
      refine Run.seq ?_
      refine Run.seq ?_
      refine Run.region hL hT [] (by cbv) ?_ ?_
      · exact (hq trivial (hq trivial hq0))
      rw [show ln (eRowS_i a0v_Tables) = lenI_RowS a0v_Tables from ln_eq RowS_i _]
      refine Run.cond (by cbv) (hq0) (fun c25 => ?_) (fun c25 => ?_)
      · have h := if_t c25 h
        refine Run.skip ?_
        refine Run.seq ?_
        refine Run.block ?_
        refine Run.seq ?_
        obtain ⟨x26, h_x26, h⟩ := bnd h
        obtain ⟨r27, h_r27, h⟩ := bnd h
        refine Run.draw hL hT hM [(6, .el [.im false (eRow_i x26)]), (8, .call [false, false, false] [.ag [.jk], .v (.jk), .v (.jk)] [.v (.s (.bool r27))])] (by cbv) (by cbv) (by cbv) (by cbv) (by cbv) ?_ ?_
        · exact (hq trivial (hq trivial (hq (get_le h_x26) (hq (get_lt (f := RowS_i) h_x26) (hq (get_ge (f := RowS_i) h_x26) (hq (hC (spec_RowsOk_ac h_r27)) hq0))))))
        refine Run.cond (by cbv) (hq0) (fun c28 => ?_) (fun c28 => ?_)
        · have h := if_t c28 h
          refine Run.seq ?_
          refine Run.region hL hT [] (by cbv) ?_ ?_
          · exact hq0
          refine Run.ret ?_
          cases h
          refine ⟨_, _, by cbv, ?_, ?_⟩
          · exact LLe.r
          · exact (ALe.v LLe.r ALe.nil)
        · have h := if_f c28 h
          refine Run.skip ?_
          refine Run.region hL hT [] (by cbv) ?_ ?_
          · exact (hq trivial hq0)
          refine ⟨(ar .add .i64 z24 1), h, Weak.of _ [(1, 1)] hA (by cbv) ?_⟩
          repeat (first | exact hq0 | refine hq (by first | exact True.intro | rfl) ?_)
      · have h := if_f c25 h
        refine Run.exit ?_
        refine Run.seq ?_
        refine Run.region hL hT [] (by cbv) ?_ ?_
        · exact hq0
        refine Run.ret ?_
        cases h
        refine ⟨_, _, by cbv, ?_, ?_⟩
        · exact LLe.r
        · exact (ALe.v LLe.r ALe.nil)

set_option maxRecDepth 8000 in
theorem spec_QueryOk_ac {a0v_Cols : List Int} {a1v_Table : Int} {a1v_Where : List Cond} {a1v_Order : Int} {a1v_Down : Bool} {a1v_First : Int} {a1v_Show : List Int} {a1v_Kids : Bool} {a1v_KidTable : Int} {a1v_KidCol : Int} {r : Bool} (h : spec_QueryOk.f (Schema.mk a0v_Cols) (Query.mk a1v_Table a1v_Where a1v_Order a1v_Down a1v_First a1v_Show a1v_Kids a1v_KidTable a1v_KidCol) = some r) : AC Try.prog 28 [.ag [.im false (rowsOf Int_c a0v_Cols)], .ag [.s (.int .i64 a1v_Table), .im false (rowsOf Cond_c a1v_Where), .s (.int .i64 a1v_Order), .s (.bool a1v_Down), .s (.int .i64 a1v_First), .im false (rowsOf Int_c a1v_Show), .s (.bool a1v_Kids), .s (.int .i64 a1v_KidTable), .s (.int .i64 a1v_KidCol)]] [.ag [.jk], .ag [.jk, .jk, .jk, .jk, .jk, .jk, .jk, .jk, .jk]] [.v (.s (.bool r))] := by
  unfold spec_QueryOk.f at h
  let ar := Ls.ar; let cm := Ls.cm; let bo := Ls.bo; let sc := Ls.sc; let sa := Ls.sa; let sx := Ls.sx; let ss := Ls.ss; let sl := Ls.sl; let bs := Ls.bs; let sb := Ls.sb; let ln := Ls.ln; let sr := Ls.sr; let ap := Ls.ap; let up := Ls.up; let rp := Ls.rp; let fr := Ls.fr; let ge := Ls.ge; let le := Ls.le; let lt := Ls.lt; let nz := Ls.nz; let mm := Ls.mm; let ma := Ls.ma; let sm := Ls.sm; let fl := Ls.fl; let al := Ls.al; let ci := Ls.ci
  let eCond_c := rowsOf Cond_c
  let eInt_c := rowsOf Int_c
  let lenI_Cond := @lenI Cond
  let lenI_Int := @lenI Int
  have hL : (⟨ar, cm, bo, sc, sa, sx, ss, sl, bs, sb, ln, sr, ap, up, rp, fr, ge, le, lt, nz, mm, ma, sm, fl, al, ci⟩ : Lf) = Ls := rfl
  show AC Try.prog 28 [.ag [.im false (eInt_c a0v_Cols)], .ag [.s (.int .i64 a1v_Table), .im false (eCond_c a1v_Where), .s (.int .i64 a1v_Order), .s (.bool a1v_Down), .s (.int .i64 a1v_First), .im false (eInt_c a1v_Show), .s (.bool a1v_Kids), .s (.int .i64 a1v_KidTable), .s (.int .i64 a1v_KidCol)]] _ _
  refine AC.of_run2 tab_ok Try.func28 (by rfl) (by rfl) (by cbv) ⟨by decide, rfl⟩ fun F hP hA => ?_
  have hT : TabOk F.P tab := hP ▸ tab_ok
  have hM : F.P.follows .mixedOrders = true := hP ▸ mixed
  have hC : ∀ {f a o r}, AC Try.prog f a o r → AC F.P f a o r := fun h => hP ▸ h
  refine Run.seq ?_
  refine Run.region hL hT [] (by cbv) ?_ ?_
  · exact hq0
  refine Run.seq ?_
  refine Run.seq ?_
  obtain ⟨r1, h_r1, h⟩ := bnd h
  obtain ⟨r2, h_r2, h⟩ := bnd h
  refine Run.region hL hT [(1, .call [false] [.ag [.jk]] [.v (.s (.bool r1))]), (10, .call [false, false, false] [.v (.jk), .v (.jk), .v (.jk)] [.v (.s (.bool r2))])] (by cbv) ?_ ?_
  · exact (hq trivial (hq (hC (spec_SchemaOk_ac h_r1)) (hq (fun _ => hq0) (hq (fun g4 => (hq g4 (hq trivial hq0))) (hq (fun _ => hq0) (hq (fun g6 => (hq g6 (hq trivial hq0))) (hq (fun g7 => (hq g7 hq0)) (hq (fun g8 => (hq g8 (hq trivial hq0))) (hq (fun g9 => (hq g9 (hq g9 (hq (by rw [show ln (eInt_c a0v_Cols) = lenI_Int a0v_Cols from ln_eq Int_c _]; exact (hC (spec_l1In_ac (gd_t h_r2 g9)))) hq0)))) (hq (fun g10 => (hq g10 hq0)) (hq (fun _ => hq0) (hq (fun q12 => (hq (bo_m q12) hq0)) (hq (fun _ => hq0) (hq (fun g14 => (hq g14 (hq trivial hq0))) (hq (fun g15 => (hq g15 hq0)) (hq (fun g16 => (hq g16 (hq trivial hq0))) (hq (fun _ => hq0) (hq (fun q18 => (hq (bo_m q18) hq0)) hq0))))))))))))))))))
  rw [show ln (eCond_c a1v_Where) = lenI_Cond a1v_Where from ln_eq Cond_c _]
  rw [show ln (eInt_c a0v_Cols) = lenI_Int a0v_Cols from ln_eq Int_c _]
  refine Run.cond (by cbv) (hq0) (fun c19 => ?_) (fun c19 => ?_)
  · have h := if_t c19 h
    refine Run.seq ?_
    refine Run.region hL hT [] (by cbv) ?_ ?_
    · exact hq0
    refine Run.ret ?_
    cases h
    refine ⟨_, _, by cbv, ?_, ?_⟩
    · exact LLe.r
    · exact (ALe.v LLe.r ALe.nil)
  · have h := if_f c19 h
    refine Run.skip ?_
    refine Run.seq ?_
    obtain ⟨x20, h_x20, h⟩ := bnd h
    refine Run.region hL hT [(4, .el [.s (.int .i64 x20)])] (by cbv) ?_ ?_
    · exact (hq trivial (hq trivial (hq (get_le h_x20) (hq (get_lt (f := Int_c) h_x20) (hq (get_ge (f := Int_c) h_x20) hq0)))))
    obtain ⟨K22, h_K22, h⟩ := joinE h
    refine Run.join1 K22 (r := r) (fun (y21 : Unit) => ⟨148, 100000, [(2, .pt 1 0 0), (3, .pt 2 0 0), (5, .t (.s (.int .i64 x20)))], [(1, .box 35 [.t (.im false (eInt_c a0v_Cols))]), (2, .box 42 [.t (.s (.int .i64 a1v_Table)), .t (.im false (eCond_c a1v_Where)), .t (.s (.int .i64 a1v_Order)), .t (.s (.bool a1v_Down)), .t (.s (.int .i64 a1v_First)), .t (.im false (eInt_c a1v_Show)), .t (.s (.bool a1v_Kids)), .t (.s (.int .i64 a1v_KidTable)), .t (.s (.int .i64 a1v_KidCol))])]⟩) ?_ ?_
    · skip
      refine Run.seq ?_
      refine Run.region hL hT [] (by cbv) ?_ ?_
      · exact hq0
      refine Run.block ?_
      refine Run.loop1 (fun (z35 : Int) => ⟨148, 100000, [(2, .pt 1 0 0), (3, .pt 2 0 0), (5, .t (.s (.int .i64 x20))), (6, .t (.s (.int .i64 z35)))], [(1, .box 35 [.t (.im false (eInt_c a0v_Cols))]), (2, .box 42 [.t (.s (.int .i64 a1v_Table)), .t (.im false (eCond_c a1v_Where)), .t (.s (.int .i64 a1v_Order)), .t (.s (.bool a1v_Down)), .t (.s (.int .i64 a1v_First)), .t (.im false (eInt_c a1v_Show)), .t (.s (.bool a1v_Kids)), .t (.s (.int .i64 a1v_KidTable)), .t (.s (.int .i64 a1v_KidCol))])]⟩) (x0 := 0) h (Weak.of _ [(1, 0), (2, 1)] hA (by cbv) ?_) (fun _ => rfl) ?_
      · repeat (first | exact hq0 | refine hq (by first | exact True.intro | rfl) ?_)
      · intro k z35 h
        rw [spec_QueryOk.l0] at h
        refine Run.seq ?_
        refine Run.seq ?_
        refine Run.region hL hT [] (by cbv) ?_ ?_
        · exact (hq trivial (hq trivial hq0))
        rw [show ln (eCond_c a1v_Where) = lenI_Cond a1v_Where from ln_eq Cond_c _]
        refine Run.cond (by cbv) (hq0) (fun c36 => ?_) (fun c36 => ?_)
        · have h := if_t c36 h
          refine Run.skip ?_
          refine Run.seq ?_
          refine Run.block ?_
          refine Run.seq ?_
          obtain ⟨⟨x37v_Col, x37v_Op, x37v_V⟩, h_x37, h⟩ := bnd h
          refine Run.region hL hT [(3, .el [.s (.int .i64 x37v_Col), .s (.int .i64 x37v_Op), .s (.int .i64 x37v_V)])] (by cbv) ?_ ?_
          · exact (hq trivial (hq (get_le h_x37) (hq (get_lt (f := Cond_c) h_x37) (hq (get_ge (f := Cond_c) h_x37) (hq trivial hq0)))))
          refine Run.seq ?_
          obtain ⟨r38, h_r38, h⟩ := bnd h
          obtain ⟨r39, h_r39, h⟩ := bnd h
          obtain ⟨r40, h_r40, h⟩ := bnd h
          refine Run.region hL hT [(4, .call [false, false, false] [.v (.jk), .v (.jk), .v (.jk)] [.v (.s (.bool r38))]), (9, .call [false, false, false] [.v (.jk), .v (.jk), .v (.jk)] [.v (.s (.bool r39))]), (15, .call [false, false, false] [.v (.jk), .v (.jk), .v (.jk)] [.v (.s (.bool r40))])] (by cbv) ?_ ?_
          · exact (hq trivial (hq trivial (hq (hC (spec_l1In_ac h_r38)) (hq (fun _ => hq0) (hq (fun g42 => (hq g42 (hq trivial hq0))) (hq (fun g43 => (hq g43 (hq (hC (spec_l1In_ac (gd_t h_r39 g43))) hq0))) (hq (fun g44 => (hq g44 hq0)) (hq (fun _ => hq0) (hq (fun q46 => (hq (bo_m q46) hq0)) (hq (fun _ => hq0) (hq (fun g48 => (hq g48 (hq trivial hq0))) (hq (fun g49 => (hq g49 (hq (hC (spec_l1In_ac (gd_t h_r40 g49))) hq0))) (hq (fun g50 => (hq g50 hq0)) (hq (fun _ => hq0) (hq (fun q52 => (hq (bo_m q52) hq0)) hq0)))))))))))))))
          refine Run.cond (by cbv) (hq0) (fun c53 => ?_) (fun c53 => ?_)
          · have h := if_t c53 h
            refine Run.seq ?_
            refine Run.region hL hT [] (by cbv) ?_ ?_
            · exact hq0
            refine Run.ret ?_
            cases h
            refine ⟨_, _, by cbv, ?_, ?_⟩
            · exact LLe.r
            · exact (ALe.v LLe.r ALe.nil)
          · have h := if_f c53 h
            refine Run.skip ?_
            refine Run.region hL hT [] (by cbv) ?_ ?_
            · exact (hq trivial hq0)
            refine ⟨(ar .add .i64 z35 1), h, Weak.of _ [(1, 1), (2, 2)] hA (by cbv) ?_⟩
            repeat (first | exact hq0 | refine hq (by first | exact True.intro | rfl) ?_)
        · have h := if_f c36 h
          refine Run.exit ?_
          refine ⟨(), h, Weak.of _ [(1, 1), (2, 2)] hA (by cbv) ?_⟩
          repeat (first | exact hq0 | refine hq (by first | exact True.intro | rfl) ?_)
    · intro y21 h
      rw [h_K22] at h
      obtain ⟨K55, h_K55, h⟩ := joinE h
      refine Run.join1 K55 (r := r) (fun (y54 : Unit) => ⟨148, 100000, [(2, .pt 1 0 0), (3, .pt 2 0 0), (5, .t (.s (.int .i64 x20)))], [(1, .box 35 [.t (.im false (eInt_c a0v_Cols))]), (2, .box 42 [.t (.s (.int .i64 a1v_Table)), .t (.im false (eCond_c a1v_Where)), .t (.s (.int .i64 a1v_Order)), .t (.s (.bool a1v_Down)), .t (.s (.int .i64 a1v_First)), .t (.im false (eInt_c a1v_Show)), .t (.s (.bool a1v_Kids)), .t (.s (.int .i64 a1v_KidTable)), .t (.s (.int .i64 a1v_KidCol))])]⟩) ?_ ?_
      · skip
        refine Run.seq ?_
        refine Run.region hL hT [] (by cbv) ?_ ?_
        · exact hq0
        refine Run.block ?_
        refine Run.loop1 (fun (z68 : Int) => ⟨148, 100000, [(2, .pt 1 0 0), (3, .pt 2 0 0), (5, .t (.s (.int .i64 x20))), (8, .t (.s (.int .i64 z68)))], [(1, .box 35 [.t (.im false (eInt_c a0v_Cols))]), (2, .box 42 [.t (.s (.int .i64 a1v_Table)), .t (.im false (eCond_c a1v_Where)), .t (.s (.int .i64 a1v_Order)), .t (.s (.bool a1v_Down)), .t (.s (.int .i64 a1v_First)), .t (.im false (eInt_c a1v_Show)), .t (.s (.bool a1v_Kids)), .t (.s (.int .i64 a1v_KidTable)), .t (.s (.int .i64 a1v_KidCol))])]⟩) (x0 := 0) h (Weak.of _ [(1, 1), (2, 2)] hA (by cbv) ?_) (fun _ => rfl) ?_
        · repeat (first | exact hq0 | refine hq (by first | exact True.intro | rfl) ?_)
        · intro k z68 h
          rw [spec_QueryOk.l1] at h
          refine Run.seq ?_
          refine Run.seq ?_
          refine Run.region hL hT [] (by cbv) ?_ ?_
          · exact (hq trivial (hq trivial hq0))
          rw [show ln (eInt_c a1v_Show) = lenI_Int a1v_Show from ln_eq Int_c _]
          refine Run.cond (by cbv) (hq0) (fun c69 => ?_) (fun c69 => ?_)
          · have h := if_t c69 h
            refine Run.skip ?_
            refine Run.seq ?_
            refine Run.block ?_
            refine Run.seq ?_
            obtain ⟨x70, h_x70, h⟩ := bnd h
            obtain ⟨r71, h_r71, h⟩ := bnd h
            obtain ⟨x72, h_x72, h⟩ := bnd h
            refine Run.draw hL hT hM [(3, .el [.s (.int .i64 x70)]), (7, .call [false, false, false] [.v (.jk), .v (.jk), .v (.jk)] [.v (.s (.bool r71))]), (17, .el [.s (.int .i64 x72)]), (22, .el [.s (.int .i64 x70)])] (by cbv) (by cbv) (by cbv) (by cbv) (by cbv) ?_ ?_
            · exact (hq trivial (hq (get_le h_x70) (hq (get_lt (f := Int_c) h_x70) (hq (get_ge (f := Int_c) h_x70) (hq trivial (hq (hC (spec_l1In_ac h_r71)) (hq (fun _ => hq0) (hq (fun g74 => (hq g74 (hq trivial hq0))) (hq (fun g75 => (hq g75 hq0)) (hq (fun _ => hq0) (hq (fun g77 => (hq g77 (hq trivial hq0))) (hq (fun _ => hq0) (hq (fun g79 => (hq g79 (hq trivial hq0))) (hq (fun g80 => (hq g80 (hq g80 (hq (get_le (gd_t h_x72 g80)) (hq (get_lt (f := Int_c) (gd_t h_x72 g80)) (hq (get_ge (f := Int_c) (gd_t h_x72 g80)) hq0)))))) (hq (fun g81 => (hq g81 hq0)) (hq (fun _ => hq0) (hq (fun g83 => (hq g83 (hq trivial hq0))) (hq (fun _ => hq0) (hq (fun g85 => (hq g85 (hq g85 (hq (get_le h_x70) (hq (get_lt (f := Int_c) h_x70) (hq (get_ge (f := Int_c) h_x70) hq0)))))) (hq (fun g86 => (hq g86 hq0)) (hq (fun g87 => (hq g87 (hq g87 (hq trivial hq0)))) (hq (fun g88 => (hq g88 (hq (fun q89 => (hq (bo_a g88 q89) hq0)) (hq (fun _ => hq0) hq0)))) (hq (fun _ => hq0) (hq (fun q92 => (hq (bo_m q92) hq0)) hq0))))))))))))))))))))))))
            refine Run.cond (by cbv) (hq0) (fun c93 => ?_) (fun c93 => ?_)
            · have h := if_t c93 h
              refine Run.seq ?_
              refine Run.region hL hT [] (by cbv) ?_ ?_
              · exact hq0
              refine Run.ret ?_
              cases h
              refine ⟨_, _, by cbv, ?_, ?_⟩
              · exact LLe.r
              · exact (ALe.v LLe.r ALe.nil)
            · have h := if_f c93 h
              refine Run.skip ?_
              refine Run.region hL hT [] (by cbv) ?_ ?_
              · exact (hq trivial hq0)
              refine ⟨(ar .add .i64 z68 1), h, Weak.of _ [(1, 1), (2, 2)] hA (by cbv) ?_⟩
              repeat (first | exact hq0 | refine hq (by first | exact True.intro | rfl) ?_)
          · have h := if_f c69 h
            refine Run.exit ?_
            refine ⟨(), h, Weak.of _ [(1, 1), (2, 2)] hA (by cbv) ?_⟩
            repeat (first | exact hq0 | refine hq (by first | exact True.intro | rfl) ?_)
      · intro y54 h
        rw [h_K55] at h
        refine Run.seq ?_
        refine Run.seq ?_
        obtain ⟨r94, h_r94, h⟩ := bnd h
        obtain ⟨r95, h_r95, h⟩ := bnd h
        refine Run.region hL hT [(3, .call [false, false, false] [.v (.jk), .v (.jk), .v (.jk)] [.v (.s (.bool r94))]), (8, .call [false, false, false] [.v (.jk), .v (.jk), .v (.jk)] [.v (.s (.bool r95))])] (by cbv) ?_ ?_
        · exact (hq trivial (hq (hC (spec_l1In_ac h_r94)) (hq (fun _ => hq0) (hq (fun g97 => (hq g97 (hq trivial hq0))) (hq (fun g98 => (hq g98 (hq (hC (spec_l1In_ac (gd_t h_r95 g98))) hq0))) (hq (fun g99 => (hq g99 hq0)) (hq (fun _ => hq0) (hq (fun q101 => (hq (bo_m q101) hq0)) (hq (fun _ => hq0) (hq (fun g103 => (hq g103 (hq trivial hq0))) (hq (fun g104 => (hq g104 (hq trivial hq0))) (hq (fun g105 => (hq g105 hq0)) (hq (fun _ => hq0) (hq (fun g107 => (hq g107 (hq trivial hq0))) (hq (fun g108 => (hq g108 (hq (fun q109 => (hq (bo_a g108 q109) hq0)) (hq (fun _ => hq0) hq0)))) (hq (fun _ => hq0) (hq (fun q112 => (hq (bo_m q112) hq0)) hq0)))))))))))))))))
        refine Run.cond (by cbv) (hq0) (fun c113 => ?_) (fun c113 => ?_)
        · have h := if_t c113 h
          refine Run.seq ?_
          refine Run.region hL hT [] (by cbv) ?_ ?_
          · exact hq0
          refine Run.ret ?_
          cases h
          refine ⟨_, _, by cbv, ?_, ?_⟩
          · exact LLe.r
          · exact (ALe.v LLe.r ALe.nil)
        · have h := if_f c113 h
          refine Run.skip ?_
          refine Run.seq ?_
          refine Run.seq ?_
          refine Run.region hL hT [] (by cbv) ?_ ?_
          · exact (hq trivial hq0)
          refine Run.cond (by cbv) (hq0) (fun c114 => ?_) (fun c114 => ?_)
          · have h := if_t c114 h
            refine Run.seq ?_
            refine Run.region hL hT [] (by cbv) ?_ ?_
            · exact (hq trivial (hq trivial (hq (fun _ => hq0) (hq (fun g116 => (hq g116 (hq trivial hq0))) (hq (fun g117 => (hq g117 (hq trivial hq0))) (hq (fun q118 => (hq q118 hq0)) (hq (fun _ => hq0) hq0)))))))
            refine Run.ret ?_
            cases h
            refine ⟨_, _, by cbv, ?_, ?_⟩
            · exact LLe.r
            · exact (ALe.v LLe.r ALe.nil)
          · have h := if_f c114 h
            refine Run.skip ?_
            refine Run.seq ?_
            obtain ⟨r120, h_r120, h⟩ := bnd h
            obtain ⟨x121, h_x121, h⟩ := bnd h
            obtain ⟨r122, h_r122, h⟩ := bnd h
            refine Run.draw hL hT hM [(6, .call [false, false, false] [.v (.jk), .v (.jk), .v (.jk)] [.v (.s (.bool r120))]), (14, .el [.s (.int .i64 x121)]), (17, .call [false, false, false] [.v (.jk), .v (.jk), .v (.jk)] [.v (.s (.bool r122))])] (by cbv) (by cbv) (by cbv) (by cbv) (by cbv) ?_ ?_
            · exact (hq trivial (hq trivial (hq trivial (hq (by rw [show ln (eInt_c a0v_Cols) = lenI_Int a0v_Cols from ln_eq Int_c _]; exact (hC (spec_l1In_ac h_r120))) (hq (fun _ => hq0) (hq (fun g124 => (hq g124 (hq trivial hq0))) (hq (fun _ => hq0) (hq (fun g126 => (hq g126 (hq trivial hq0))) (hq (fun _ => hq0) (hq (fun g128 => (hq g128 (hq trivial hq0))) (hq (fun g129 => (hq g129 (hq g129 (hq (get_le (gd_t h_x121 g129)) (hq (get_lt (f := Int_c) (gd_t h_x121 g129)) (hq (get_ge (f := Int_c) (gd_t h_x121 g129)) hq0)))))) (hq (fun g130 => (hq g130 hq0)) (hq (fun g131 => (hq g131 (hq trivial hq0))) (hq (fun g132 => (hq g132 (hq g132 (hq (hC (spec_l1In_ac (gd_t h_r122 g132))) hq0)))) (hq (fun q133 => (hq q133 hq0)) (hq (fun _ => hq0) hq0))))))))))))))))
            rw [show ln (eInt_c a0v_Cols) = lenI_Int a0v_Cols from ln_eq Int_c _]
            refine Run.ret ?_
            cases h
            refine ⟨_, _, by cbv, ?_, ?_⟩
            · exact LLe.r
            · exact (ALe.v LLe.r ALe.nil)

set_option maxRecDepth 8000 in
theorem spec_l9Copy_ac {a0v_Table : Int} {a0v_Where : List Cond} {a0v_Order : Int} {a0v_Down : Bool} {a0v_First : Int} {a0v_Show : List Int} {a0v_Kids : Bool} {a0v_KidTable : Int} {a0v_KidCol : Int} {r : Query} (h : spec_l9Copy.f (Query.mk a0v_Table a0v_Where a0v_Order a0v_Down a0v_First a0v_Show a0v_Kids a0v_KidTable a0v_KidCol) = some r) : AC Try.prog 52 [.ag [.s (.int .i64 a0v_Table), .im false (rowsOf Cond_c a0v_Where), .s (.int .i64 a0v_Order), .s (.bool a0v_Down), .s (.int .i64 a0v_First), .im false (rowsOf Int_c a0v_Show), .s (.bool a0v_Kids), .s (.int .i64 a0v_KidTable), .s (.int .i64 a0v_KidCol)]] [.ag [.jk, .jk, .jk, .jk, .jk, .jk, .jk, .jk, .jk]] [.ag [.s (.int .i64 r.Table), .ow 94 (rowsOf Cond_c r.Where), .s (.int .i64 r.Order), .s (.bool r.Down), .s (.int .i64 r.First), .ow 3 (rowsOf Int_c r.Show), .s (.bool r.Kids), .s (.int .i64 r.KidTable), .s (.int .i64 r.KidCol)]] := by
  unfold spec_l9Copy.f at h
  let ar := Ls.ar; let cm := Ls.cm; let bo := Ls.bo; let sc := Ls.sc; let sa := Ls.sa; let sx := Ls.sx; let ss := Ls.ss; let sl := Ls.sl; let bs := Ls.bs; let sb := Ls.sb; let ln := Ls.ln; let sr := Ls.sr; let ap := Ls.ap; let up := Ls.up; let rp := Ls.rp; let fr := Ls.fr; let ge := Ls.ge; let le := Ls.le; let lt := Ls.lt; let nz := Ls.nz; let mm := Ls.mm; let ma := Ls.ma; let sm := Ls.sm; let fl := Ls.fl; let al := Ls.al; let ci := Ls.ci
  let eCond_c := rowsOf Cond_c
  let eInt_c := rowsOf Int_c
  have hL : (⟨ar, cm, bo, sc, sa, sx, ss, sl, bs, sb, ln, sr, ap, up, rp, fr, ge, le, lt, nz, mm, ma, sm, fl, al, ci⟩ : Lf) = Ls := rfl
  show AC Try.prog 52 [.ag [.s (.int .i64 a0v_Table), .im false (eCond_c a0v_Where), .s (.int .i64 a0v_Order), .s (.bool a0v_Down), .s (.int .i64 a0v_First), .im false (eInt_c a0v_Show), .s (.bool a0v_Kids), .s (.int .i64 a0v_KidTable), .s (.int .i64 a0v_KidCol)]] _ _
  refine AC.of_run2 tab_ok Try.func52 (by rfl) (by rfl) (by cbv) ⟨by decide, rfl⟩ fun F hP hA => ?_
  have hT : TabOk F.P tab := hP ▸ tab_ok
  have hM : F.P.follows .mixedOrders = true := hP ▸ mixed
  have hC : ∀ {f a o r}, AC Try.prog f a o r → AC F.P f a o r := fun h => hP ▸ h
  refine Run.seq ?_
  refine Run.region hL hT [] (by cbv) ?_ ?_
  · exact hq0
  refine Run.seq ?_
  obtain ⟨l1, h_l1, h⟩ := bnd h
  refine Run.region hL hT [] (by cbv) ?_ ?_
  · exact (hq trivial (hq (fl_row Cond_c_f _) (hq (app_mb (P := Try.prog) (f := Cond_c) RLe.r RLe.r h_l1) (hq trivial hq0))))
  refine Run.row (rows := (ap ([]) ((eCond_c a0v_Where)))) 4099 (eCond_c l1) (by cbv) (app_le (f := Cond_c) RLe.r RLe.r h_l1) ?_
  refine Run.seq ?_
  obtain ⟨l2, h_l2, h⟩ := bnd h
  refine Run.region hL hT [] (by cbv) ?_ ?_
  · exact (hq trivial (hq (fl_row Int_c_f _) (hq (app_mb (P := Try.prog) (f := Int_c) RLe.r RLe.r h_l2) (hq trivial hq0))))
  refine Run.row (rows := (ap ([]) ((eInt_c a0v_Show)))) 8195 (eInt_c l2) (by cbv) (app_le (f := Int_c) RLe.r RLe.r h_l2) ?_
  refine Run.seq ?_
  refine Run.region hL hT [] (by cbv) ?_ ?_
  · exact (hq trivial (hq trivial hq0))
  refine Run.ret ?_
  cases h
  refine ⟨_, _, by cbv, ?_, ?_⟩
  · exact LLe.r
  · exact (ALe.ag rfl LLe.r ALe.nil)

set_option maxRecDepth 8000 in
theorem spec_KidPut_ac {a0 : List Kid} {a1 : Int} {a2 : Int} {r : (List Kid)} (h : spec_KidPut.f a0 a1 a2 = some r) : AC Try.prog 53 [.v (.im false (rowsOf Kid_c a0)), .v (.s (.int .i64 a1)), .v (.s (.int .i64 a2))] [.v (.jk), .v (.jk), .v (.jk)] [.v (.ow 105 (rowsOf Kid_c r))] := by
  unfold spec_KidPut.f at h
  let ar := Ls.ar; let cm := Ls.cm; let bo := Ls.bo; let sc := Ls.sc; let sa := Ls.sa; let sx := Ls.sx; let ss := Ls.ss; let sl := Ls.sl; let bs := Ls.bs; let sb := Ls.sb; let ln := Ls.ln; let sr := Ls.sr; let ap := Ls.ap; let up := Ls.up; let rp := Ls.rp; let fr := Ls.fr; let ge := Ls.ge; let le := Ls.le; let lt := Ls.lt; let nz := Ls.nz; let mm := Ls.mm; let ma := Ls.ma; let sm := Ls.sm; let fl := Ls.fl; let al := Ls.al; let ci := Ls.ci
  let eKid_c := rowsOf Kid_c
  let lenI_Kid := @lenI Kid
  have hL : (⟨ar, cm, bo, sc, sa, sx, ss, sl, bs, sb, ln, sr, ap, up, rp, fr, ge, le, lt, nz, mm, ma, sm, fl, al, ci⟩ : Lf) = Ls := rfl
  show AC Try.prog 53 [.v (.im false (eKid_c a0)), .v (.s (.int .i64 a1)), .v (.s (.int .i64 a2))] _ _
  refine AC.of_run2 tab_ok Try.func53 (by rfl) (by rfl) (by cbv) ⟨by decide, rfl⟩ fun F hP hA => ?_
  have hT : TabOk F.P tab := hP ▸ tab_ok
  have hM : F.P.follows .mixedOrders = true := hP ▸ mixed
  have hC : ∀ {f a o r}, AC Try.prog f a o r → AC F.P f a o r := fun h => hP ▸ h
  refine Run.seq ?_
  refine Run.region hL hT [] (by cbv) ?_ ?_
  · exact hq0
  refine Run.seq ?_
  refine Run.region hL hT [] (by cbv) ?_ ?_
  · exact hq0
  refine Run.seq ?_
  refine Run.region hL hT [] (by cbv) ?_ ?_
  · exact hq0
  obtain ⟨K3, h_K3, h⟩ := joinE h
  refine Run.join2 K3 (r := r) (fun (y1 : List Kid) (y2 : Bool) => ⟨69, 100000, [(1, .t (.s (.int .i64 a1))), (2, .t (.s (.int .i64 a2))), (7, .rf 1), (8, .t (.s (.bool y2)))], [(1, .row 0 105 2 (eKid_c y1))]⟩) ?_ ?_
  · skip
    refine Run.seq ?_
    refine Run.region hL hT [] (by cbv) ?_ ?_
    · exact hq0
    refine Run.block ?_
    refine Run.loop3 (fun (z10 : List Kid) (z11 : Bool) (z12 : Int) => ⟨69, 100000, [(0, .t (.im false (eKid_c a0))), (1, .t (.s (.int .i64 a1))), (2, .t (.s (.int .i64 a2))), (7, .rf 1), (8, .t (.s (.bool z11))), (9, .t (.s (.int .i64 z12)))], [(1, .row 0 105 2 (eKid_c z10))]⟩) (x0 := []) (x1 := false) (x2 := 0) h (Weak.of _ [(1, 4096)] hA (by cbv) ?_) (fun _ _ _ => rfl) ?_
    · repeat (first | exact hq0 | refine hq (by first | exact True.intro | rfl) ?_)
    · intro k z10 z11 z12 h
      rw [spec_KidPut.l0] at h
      refine Run.seq ?_
      refine Run.seq ?_
      refine Run.region hL hT [] (by cbv) ?_ ?_
      · exact (hq trivial hq0)
      rw [show ln (eKid_c a0) = lenI_Kid a0 from ln_eq Kid_c _]
      refine Run.cond (by cbv) (hq0) (fun c13 => ?_) (fun c13 => ?_)
      · have h := if_t c13 h
        refine Run.skip ?_
        refine Run.seq ?_
        refine Run.block ?_
        refine Run.seq ?_
        obtain ⟨⟨x14v_Id, x14v_N⟩, h_x14, h⟩ := bnd h
        refine Run.region hL hT [(2, .el [.s (.int .i64 x14v_Id), .s (.int .i64 x14v_N)])] (by cbv) ?_ ?_
        · exact (hq (get_le h_x14) (hq (get_lt (f := Kid_c) h_x14) (hq (get_ge (f := Kid_c) h_x14) (hq trivial hq0))))
        refine Run.seq ?_
        refine Run.seq ?_
        refine Run.region hL hT [] (by cbv) ?_ ?_
        · exact (hq (fun _ => hq0) (hq (fun g16 => (hq g16 (hq trivial hq0))) (hq (fun _ => hq0) (hq (fun g18 => (hq g18 (hq g18 (hq trivial hq0)))) (hq (fun q19 => (hq q19 hq0)) (hq (fun _ => hq0) hq0))))))
        refine Run.cond (by cbv) (hq0) (fun c21 => ?_) (fun c21 => ?_)
        · have h := if_t c21 h
          refine Run.seq ?_
          refine Run.region hL hT [] (by cbv) ?_ ?_
          · exact hq0
          obtain ⟨K23, h_K23, h⟩ := joinE h
          refine Run.join1 K23 (r := r) (fun (y22 : Int) => ⟨69, 100000, [(0, .t (.im false (eKid_c a0))), (1, .t (.s (.int .i64 a1))), (2, .t (.s (.int .i64 a2))), (7, .rf 1), (9, .t (.s (.int .i64 z12))), (10, .pt 2 0 0), (11, .t (.s (.int .i64 y22)))], [(1, .row 0 105 2 (eKid_c z10)), (2, .box 105 [.t (.s (.int .i64 x14v_Id)), .t (.s (.int .i64 x14v_N))])]⟩) ?_ ?_
          · skip
            refine Run.seq ?_
            refine Run.region hL hT [] (by cbv) ?_ ?_
            · exact (hq trivial (hq trivial hq0))
            refine Run.cond (by cbv) (hq0) (fun c24 => ?_) (fun c24 => ?_)
            · have h := if_t c24 h
              refine Run.region hL hT [] (by cbv) ?_ ?_
              · exact (hq trivial (hq trivial hq0))
              refine ⟨(ar .add .i64 x14v_N a2), h, Weak.of _ [(1, 1), (2, 104100)] hA (by cbv) ?_⟩
              repeat (first | exact hq0 | refine hq (by first | exact True.intro | rfl) ?_)
            · have h := if_f c24 h
              refine Run.skip ?_
              refine ⟨a2, h, Weak.of _ [(1, 1), (2, 104100)] hA (by cbv) ?_⟩
              repeat (first | exact hq0 | refine hq (by first | exact True.intro | rfl) ?_)
          · intro y22 h
            rw [h_K23] at h
            obtain ⟨K26, h_K26, h⟩ := joinE h
            refine Run.join1 K26 (r := r) (fun (y25 : List Kid) => ⟨69, 100000, [(0, .t (.im false (eKid_c a0))), (1, .t (.s (.int .i64 a1))), (2, .t (.s (.int .i64 a2))), (7, .rf 1), (9, .t (.s (.int .i64 z12))), (10, .pt 2 0 0)], [(1, .row 0 105 2 (eKid_c y25)), (2, .box 105 [.t (.s (.int .i64 x14v_Id)), .t (.s (.int .i64 x14v_N))])]⟩) ?_ ?_
            · skip
              refine Run.seq ?_
              refine Run.region hL hT [] (by cbv) ?_ ?_
              · exact (hq trivial hq0)
              refine Run.cond (by cbv) (hq0) (fun c27 => ?_) (fun c27 => ?_)
              · have h := if_t c27 h
                obtain ⟨l28, h_l28, h⟩ := bnd h
                obtain ⟨l29, h_l29, h⟩ := bnd h
                refine Run.region hL hT [] (by cbv) ?_ ?_
                · exact (hq (app_mb (P := Try.prog) (f := Kid_c) RLe.r (some_le (f := Kid_c) h_l28 (RLe.cons rfl LLe.r RLe.nil)) h_l29) hq0)
                refine ⟨l29, h, (Weak.row (rows := (ap (eKid_c z10) ([[.s (.int .i64 a1), .s (.int .i64 y22)]]))) 104101 (eKid_c l29) (by cbv) (app_le (f := Kid_c) RLe.r (some_le (f := Kid_c) h_l28 (RLe.cons rfl LLe.r RLe.nil)) h_l29)).trans (Weak.of _ [(1, 104101), (2, 2)] hA (by cbv) ?_)⟩
                repeat (first | exact hq0 | refine hq (by first | exact True.intro | rfl) ?_)
              · have h := if_f c27 h
                refine Run.skip ?_
                refine ⟨z10, h, Weak.of _ [(1, 1), (2, 2)] hA (by cbv) ?_⟩
                repeat (first | exact hq0 | refine hq (by first | exact True.intro | rfl) ?_)
            · intro y25 h
              rw [h_K26] at h
              refine Run.seq ?_
              refine Run.region hL hT [] (by cbv) ?_ ?_
              · exact hq0
              refine Run.seq ?_
              refine Run.region hL hT [] (by cbv) ?_ ?_
              · exact (hq trivial (hq trivial hq0))
              refine Run.cond (by cbv) (hq0) (fun c30 => ?_) (fun c30 => ?_)
              · have h := if_t c30 h
                refine Run.exit ?_
                refine Run.region hL hT [] (by cbv) ?_ ?_
                · exact (hq trivial hq0)
                refine ⟨y25, true, (ar .add .i64 z12 1), h, Weak.of _ [(1, 1)] hA (by cbv) ?_⟩
                repeat (first | exact hq0 | refine hq (by first | exact True.intro | rfl) ?_)
              · have h := if_f c30 h
                refine Run.skip ?_
                obtain ⟨l31, h_l31, h⟩ := bnd h
                obtain ⟨l32, h_l32, h⟩ := bnd h
                refine Run.region hL hT [] (by cbv) ?_ ?_
                · exact (hq trivial (hq (app_mb (P := Try.prog) (f := Kid_c) RLe.r (some_le (f := Kid_c) h_l31 (RLe.cons rfl LLe.r RLe.nil)) h_l32) hq0))
                refine Run.row (rows := (ap (eKid_c y25) ([[.s (.int .i64 x14v_Id), .s (.int .i64 x14v_N)]]))) 108195 (eKid_c l32) (by cbv) (app_le (f := Kid_c) RLe.r (some_le (f := Kid_c) h_l31 (RLe.cons rfl LLe.r RLe.nil)) h_l32) ?_
                refine Run.region hL hT [] (by cbv) ?_ ?_
                · exact (hq trivial hq0)
                refine ⟨l32, true, (ar .add .i64 z12 1), h, Weak.of _ [(1, 108195)] hA (by cbv) ?_⟩
                repeat (first | exact hq0 | refine hq (by first | exact True.intro | rfl) ?_)
        · have h := if_f c21 h
          refine Run.skip ?_
          obtain ⟨l33, h_l33, h⟩ := bnd h
          obtain ⟨l34, h_l34, h⟩ := bnd h
          refine Run.region hL hT [] (by cbv) ?_ ?_
          · exact (hq trivial (hq (app_mb (P := Try.prog) (f := Kid_c) RLe.r (some_le (f := Kid_c) h_l33 (RLe.cons rfl LLe.r RLe.nil)) h_l34) hq0))
          refine Run.row (rows := (ap (eKid_c z10) ([[.s (.int .i64 x14v_Id), .s (.int .i64 x14v_N)]]))) 112291 (eKid_c l34) (by cbv) (app_le (f := Kid_c) RLe.r (some_le (f := Kid_c) h_l33 (RLe.cons rfl LLe.r RLe.nil)) h_l34) ?_
          refine Run.region hL hT [] (by cbv) ?_ ?_
          · exact (hq trivial hq0)
          refine ⟨l34, z11, (ar .add .i64 z12 1), h, Weak.of _ [(1, 112291)] hA (by cbv) ?_⟩
          repeat (first | exact hq0 | refine hq (by first | exact True.intro | rfl) ?_)
      · have h := if_f c13 h
        refine Run.exit ?_
        refine ⟨z10, z11, h, Weak.of _ [(1, 1)] hA (by cbv) ?_⟩
        repeat (first | exact hq0 | refine hq (by first | exact True.intro | rfl) ?_)
  · intro y1 y2 h
    rw [h_K3] at h
    refine Run.seq ?_
    refine Run.seq ?_
    refine Run.region hL hT [] (by cbv) ?_ ?_
    · exact (hq (fun _ => hq0) (hq (fun g36 => (hq g36 (hq trivial hq0))) (hq (fun q37 => (hq q37 hq0)) (hq (fun _ => hq0) hq0))))
    refine Run.cond (by cbv) (hq0) (fun c39 => ?_) (fun c39 => ?_)
    · have h := if_t c39 h
      obtain ⟨l40, h_l40, h⟩ := bnd h
      obtain ⟨l41, h_l41, h⟩ := bnd h
      refine Run.region hL hT [] (by cbv) ?_ ?_
      · exact (hq (app_mb (P := Try.prog) (f := Kid_c) RLe.r (some_le (f := Kid_c) h_l40 (RLe.cons rfl LLe.r RLe.nil)) h_l41) hq0)
      refine Run.row (rows := (ap (eKid_c y1) ([[.s (.int .i64 a1), .s (.int .i64 a2)]]))) 104101 (eKid_c l41) (by cbv) (app_le (f := Kid_c) RLe.r (some_le (f := Kid_c) h_l40 (RLe.cons rfl LLe.r RLe.nil)) h_l41) ?_
      refine Run.seq ?_
      refine Run.region hL hT [] (by cbv) ?_ ?_
      · exact hq0
      refine Run.ret ?_
      cases h
      refine ⟨_, _, by cbv, ?_, ?_⟩
      · exact LLe.r
      · exact (ALe.v LLe.r ALe.nil)
    · have h := if_f c39 h
      refine Run.skip ?_
      refine Run.seq ?_
      refine Run.region hL hT [] (by cbv) ?_ ?_
      · exact hq0
      refine Run.ret ?_
      cases h
      refine ⟨_, _, by cbv, ?_, ?_⟩
      · exact LLe.r
      · exact (ALe.v LLe.r ALe.nil)

set_option maxRecDepth 8000 in
theorem spec_l9Holds_ac {a0v_Col : Int} {a0v_Op : Int} {a0v_V : Int} {a1v_Id : Int} {a1v_Cells : List Int} {r : Bool} (h : spec_l9Holds.f (Cond.mk a0v_Col a0v_Op a0v_V) (Row.mk a1v_Id a1v_Cells) = some r) : AC Try.prog 64 [.ag [.s (.int .i64 a0v_Col), .s (.int .i64 a0v_Op), .s (.int .i64 a0v_V)], .ag [.s (.int .i64 a1v_Id), .im false (rowsOf Int_c a1v_Cells)]] [.ag [.jk, .jk, .jk], .ag [.jk, .jk]] [.v (.s (.bool r))] := by
  unfold spec_l9Holds.f at h
  let ar := Ls.ar; let cm := Ls.cm; let bo := Ls.bo; let sc := Ls.sc; let sa := Ls.sa; let sx := Ls.sx; let ss := Ls.ss; let sl := Ls.sl; let bs := Ls.bs; let sb := Ls.sb; let ln := Ls.ln; let sr := Ls.sr; let ap := Ls.ap; let up := Ls.up; let rp := Ls.rp; let fr := Ls.fr; let ge := Ls.ge; let le := Ls.le; let lt := Ls.lt; let nz := Ls.nz; let mm := Ls.mm; let ma := Ls.ma; let sm := Ls.sm; let fl := Ls.fl; let al := Ls.al; let ci := Ls.ci
  let eInt_c := rowsOf Int_c
  let lenI_Int := @lenI Int
  have hL : (⟨ar, cm, bo, sc, sa, sx, ss, sl, bs, sb, ln, sr, ap, up, rp, fr, ge, le, lt, nz, mm, ma, sm, fl, al, ci⟩ : Lf) = Ls := rfl
  show AC Try.prog 64 [.ag [.s (.int .i64 a0v_Col), .s (.int .i64 a0v_Op), .s (.int .i64 a0v_V)], .ag [.s (.int .i64 a1v_Id), .im false (eInt_c a1v_Cells)]] _ _
  refine AC.of_run2 tab_ok Try.func64 (by rfl) (by rfl) (by cbv) ⟨by decide, rfl⟩ fun F hP hA => ?_
  have hT : TabOk F.P tab := hP ▸ tab_ok
  have hM : F.P.follows .mixedOrders = true := hP ▸ mixed
  have hC : ∀ {f a o r}, AC Try.prog f a o r → AC F.P f a o r := fun h => hP ▸ h
  refine Run.seq ?_
  refine Run.region hL hT [] (by cbv) ?_ ?_
  · exact hq0
  refine Run.seq ?_
  refine Run.seq ?_
  obtain ⟨r1, h_r1, h⟩ := bnd h
  refine Run.region hL hT [(6, .call [false, false, false] [.v (.jk), .v (.jk), .v (.jk)] [.v (.s (.bool r1))])] (by cbv) ?_ ?_
  · exact (hq trivial (hq trivial (hq trivial (hq (by rw [show ln (eInt_c a1v_Cells) = lenI_Int a1v_Cells from ln_eq Int_c _]; exact (hC (spec_l1In_ac h_r1))) hq0))))
  rw [show ln (eInt_c a1v_Cells) = lenI_Int a1v_Cells from ln_eq Int_c _]
  refine Run.cond (by cbv) (hq0) (fun c2 => ?_) (fun c2 => ?_)
  · have h := if_t c2 h
    refine Run.seq ?_
    refine Run.region hL hT [] (by cbv) ?_ ?_
    · exact hq0
    refine Run.ret ?_
    cases h
    refine ⟨_, _, by cbv, ?_, ?_⟩
    · exact LLe.r
    · exact (ALe.v LLe.r ALe.nil)
  · have h := if_f c2 h
    refine Run.skip ?_
    refine Run.seq ?_
    obtain ⟨x3, h_x3, h⟩ := bnd h
    refine Run.region hL hT [(4, .el [.s (.int .i64 x3)])] (by cbv) ?_ ?_
    · exact (hq trivial (hq trivial (hq (get_le h_x3) (hq (get_lt (f := Int_c) h_x3) (hq (get_ge (f := Int_c) h_x3) hq0)))))
    refine Run.seq ?_
    refine Run.seq ?_
    refine Run.region hL hT [] (by cbv) ?_ ?_
    · exact (hq trivial hq0)
    refine Run.block ?_
    refine Run.seq ?_
    refine Run.region hL hT [] (by cbv) ?_ ?_
    · exact (hq trivial hq0)
    refine Run.cond (by cbv) (hq0) (fun c4 => ?_) (fun c4 => ?_)
    · have h := if_t c4 h
      refine Run.seq ?_
      refine Run.region hL hT [] (by cbv) ?_ ?_
      · exact (hq trivial (hq trivial hq0))
      refine Run.ret ?_
      cases h
      refine ⟨_, _, by cbv, ?_, ?_⟩
      · exact LLe.r
      · exact (ALe.v LLe.r ALe.nil)
    · have h := if_f c4 h
      refine Run.seq ?_
      refine Run.region hL hT [] (by cbv) ?_ ?_
      · exact (hq trivial hq0)
      refine Run.cond (by cbv) (hq0) (fun c5 => ?_) (fun c5 => ?_)
      · have h := if_t c5 h
        refine Run.seq ?_
        refine Run.region hL hT [] (by cbv) ?_ ?_
        · exact (hq trivial (hq trivial hq0))
        refine Run.ret ?_
        cases h
        refine ⟨_, _, by cbv, ?_, ?_⟩
        · exact LLe.r
        · exact (ALe.v LLe.r ALe.nil)
      · have h := if_f c5 h
        refine Run.seq ?_
        refine Run.region hL hT [] (by cbv) ?_ ?_
        · exact (hq trivial hq0)
        refine Run.cond (by cbv) (hq0) (fun c6 => ?_) (fun c6 => ?_)
        · have h := if_t c6 h
          refine Run.seq ?_
          refine Run.region hL hT [] (by cbv) ?_ ?_
          · exact (hq trivial (hq trivial hq0))
          refine Run.ret ?_
          cases h
          refine ⟨_, _, by cbv, ?_, ?_⟩
          · exact LLe.r
          · exact (ALe.v LLe.r ALe.nil)
        · have h := if_f c6 h
          refine Run.seq ?_
          refine Run.region hL hT [] (by cbv) ?_ ?_
          · exact (hq trivial hq0)
          refine Run.cond (by cbv) (hq0) (fun c7 => ?_) (fun c7 => ?_)
          · have h := if_t c7 h
            refine Run.seq ?_
            refine Run.region hL hT [] (by cbv) ?_ ?_
            · exact (hq trivial (hq trivial hq0))
            refine Run.ret ?_
            cases h
            refine ⟨_, _, by cbv, ?_, ?_⟩
            · exact LLe.r
            · exact (ALe.v LLe.r ALe.nil)
          · have h := if_f c7 h
            refine Run.skip ?_
            refine Run.seq ?_
            refine Run.region hL hT [] (by cbv) ?_ ?_
            · exact hq0
            refine Run.ret ?_
            cases h
            refine ⟨_, _, by cbv, ?_, ?_⟩
            · exact LLe.r
            · exact (ALe.v LLe.r ALe.nil)

set_option maxRecDepth 8000 in
theorem spec_Matches_ac {a0v_Table : Int} {a0v_Where : List Cond} {a0v_Order : Int} {a0v_Down : Bool} {a0v_First : Int} {a0v_Show : List Int} {a0v_Kids : Bool} {a0v_KidTable : Int} {a0v_KidCol : Int} {a1v_Id : Int} {a1v_Cells : List Int} {r : Bool} (h : spec_Matches.f (Query.mk a0v_Table a0v_Where a0v_Order a0v_Down a0v_First a0v_Show a0v_Kids a0v_KidTable a0v_KidCol) (Row.mk a1v_Id a1v_Cells) = some r) : AC Try.prog 29 [.ag [.s (.int .i64 a0v_Table), .im false (rowsOf Cond_c a0v_Where), .s (.int .i64 a0v_Order), .s (.bool a0v_Down), .s (.int .i64 a0v_First), .im false (rowsOf Int_c a0v_Show), .s (.bool a0v_Kids), .s (.int .i64 a0v_KidTable), .s (.int .i64 a0v_KidCol)], .ag [.s (.int .i64 a1v_Id), .im false (rowsOf Int_c a1v_Cells)]] [.ag [.jk, .jk, .jk, .jk, .jk, .jk, .jk, .jk, .jk], .ag [.jk, .jk]] [.v (.s (.bool r))] := by
  unfold spec_Matches.f at h
  let ar := Ls.ar; let cm := Ls.cm; let bo := Ls.bo; let sc := Ls.sc; let sa := Ls.sa; let sx := Ls.sx; let ss := Ls.ss; let sl := Ls.sl; let bs := Ls.bs; let sb := Ls.sb; let ln := Ls.ln; let sr := Ls.sr; let ap := Ls.ap; let up := Ls.up; let rp := Ls.rp; let fr := Ls.fr; let ge := Ls.ge; let le := Ls.le; let lt := Ls.lt; let nz := Ls.nz; let mm := Ls.mm; let ma := Ls.ma; let sm := Ls.sm; let fl := Ls.fl; let al := Ls.al; let ci := Ls.ci
  let eCond_c := rowsOf Cond_c
  let eInt_c := rowsOf Int_c
  let lenI_Cond := @lenI Cond
  have hL : (⟨ar, cm, bo, sc, sa, sx, ss, sl, bs, sb, ln, sr, ap, up, rp, fr, ge, le, lt, nz, mm, ma, sm, fl, al, ci⟩ : Lf) = Ls := rfl
  show AC Try.prog 29 [.ag [.s (.int .i64 a0v_Table), .im false (eCond_c a0v_Where), .s (.int .i64 a0v_Order), .s (.bool a0v_Down), .s (.int .i64 a0v_First), .im false (eInt_c a0v_Show), .s (.bool a0v_Kids), .s (.int .i64 a0v_KidTable), .s (.int .i64 a0v_KidCol)], .ag [.s (.int .i64 a1v_Id), .im false (eInt_c a1v_Cells)]] _ _
  refine AC.of_run2 tab_ok Try.func29 (by rfl) (by rfl) (by cbv) ⟨by decide, rfl⟩ fun F hP hA => ?_
  have hT : TabOk F.P tab := hP ▸ tab_ok
  have hM : F.P.follows .mixedOrders = true := hP ▸ mixed
  have hC : ∀ {f a o r}, AC Try.prog f a o r → AC F.P f a o r := fun h => hP ▸ h
  refine Run.seq ?_
  refine Run.region hL hT [] (by cbv) ?_ ?_
  · exact hq0
  refine Run.seq ?_
  refine Run.seq ?_
  refine Run.region hL hT [] (by cbv) ?_ ?_
  · exact hq0
  refine Run.block ?_
  refine Run.loop1 (fun (z13 : Int) => ⟨21, 100000, [(2, .pt 1 0 0), (3, .pt 2 0 0), (5, .t (.s (.int .i64 z13)))], [(1, .box 42 [.t (.s (.int .i64 a0v_Table)), .t (.im false (eCond_c a0v_Where)), .t (.s (.int .i64 a0v_Order)), .t (.s (.bool a0v_Down)), .t (.s (.int .i64 a0v_First)), .t (.im false (eInt_c a0v_Show)), .t (.s (.bool a0v_Kids)), .t (.s (.int .i64 a0v_KidTable)), .t (.s (.int .i64 a0v_KidCol))]), (2, .box 66 [.t (.s (.int .i64 a1v_Id)), .t (.im false (eInt_c a1v_Cells))])]⟩) (x0 := 0) h (Weak.of _ [(1, 0), (2, 1)] hA (by cbv) ?_) (fun _ => rfl) ?_
  · repeat (first | exact hq0 | refine hq (by first | exact True.intro | rfl) ?_)
  · intro k z13 h
    rw [spec_Matches.l0] at h
    refine Run.seq ?_
    refine Run.seq ?_
    refine Run.region hL hT [] (by cbv) ?_ ?_
    · exact (hq trivial (hq trivial hq0))
    rw [show ln (eCond_c a0v_Where) = lenI_Cond a0v_Where from ln_eq Cond_c _]
    refine Run.cond (by cbv) (hq0) (fun c14 => ?_) (fun c14 => ?_)
    · have h := if_t c14 h
      refine Run.skip ?_
      refine Run.seq ?_
      refine Run.block ?_
      refine Run.seq ?_
      obtain ⟨⟨x15v_Col, x15v_Op, x15v_V⟩, h_x15, h⟩ := bnd h
      obtain ⟨r16, h_r16, h⟩ := bnd h
      refine Run.draw hL hT hM [(3, .el [.s (.int .i64 x15v_Col), .s (.int .i64 x15v_Op), .s (.int .i64 x15v_V)]), (6, .call [false, false] [.ag [.jk, .jk, .jk], .ag [.jk, .jk]] [.v (.s (.bool r16))])] (by cbv) (by cbv) (by cbv) (by cbv) (by cbv) ?_ ?_
      · exact (hq trivial (hq (get_le h_x15) (hq (get_lt (f := Cond_c) h_x15) (hq (get_ge (f := Cond_c) h_x15) (hq trivial (hq (hC (spec_l9Holds_ac h_r16)) hq0))))))
      refine Run.cond (by cbv) (hq0) (fun c17 => ?_) (fun c17 => ?_)
      · have h := if_t c17 h
        refine Run.seq ?_
        refine Run.region hL hT [] (by cbv) ?_ ?_
        · exact hq0
        refine Run.ret ?_
        cases h
        refine ⟨_, _, by cbv, ?_, ?_⟩
        · exact LLe.r
        · exact (ALe.v LLe.r ALe.nil)
      · have h := if_f c17 h
        refine Run.skip ?_
        refine Run.region hL hT [] (by cbv) ?_ ?_
        · exact (hq trivial hq0)
        refine ⟨(ar .add .i64 z13 1), h, Weak.of _ [(1, 1), (2, 2)] hA (by cbv) ?_⟩
        repeat (first | exact hq0 | refine hq (by first | exact True.intro | rfl) ?_)
    · have h := if_f c14 h
      refine Run.exit ?_
      refine Run.seq ?_
      refine Run.region hL hT [] (by cbv) ?_ ?_
      · exact hq0
      refine Run.ret ?_
      cases h
      refine ⟨_, _, by cbv, ?_, ?_⟩
      · exact LLe.r
      · exact (ALe.v LLe.r ALe.nil)

set_option maxRecDepth 8000 in
theorem spec_l9Cell_ac {a0v_Id : Int} {a0v_Cells : List Int} {a1 : Int} {r : Int} (h : spec_l9Cell.f (Row.mk a0v_Id a0v_Cells) a1 = some r) : AC Try.prog 87 [.ag [.s (.int .i64 a0v_Id), .im false (rowsOf Int_c a0v_Cells)], .v (.s (.int .i64 a1))] [.ag [.jk, .jk], .v (.jk)] [.v (.s (.int .i64 r))] := by
  unfold spec_l9Cell.f at h
  let ar := Ls.ar; let cm := Ls.cm; let bo := Ls.bo; let sc := Ls.sc; let sa := Ls.sa; let sx := Ls.sx; let ss := Ls.ss; let sl := Ls.sl; let bs := Ls.bs; let sb := Ls.sb; let ln := Ls.ln; let sr := Ls.sr; let ap := Ls.ap; let up := Ls.up; let rp := Ls.rp; let fr := Ls.fr; let ge := Ls.ge; let le := Ls.le; let lt := Ls.lt; let nz := Ls.nz; let mm := Ls.mm; let ma := Ls.ma; let sm := Ls.sm; let fl := Ls.fl; let al := Ls.al; let ci := Ls.ci
  let eInt_c := rowsOf Int_c
  let lenI_Int := @lenI Int
  have hL : (⟨ar, cm, bo, sc, sa, sx, ss, sl, bs, sb, ln, sr, ap, up, rp, fr, ge, le, lt, nz, mm, ma, sm, fl, al, ci⟩ : Lf) = Ls := rfl
  show AC Try.prog 87 [.ag [.s (.int .i64 a0v_Id), .im false (eInt_c a0v_Cells)], .v (.s (.int .i64 a1))] _ _
  refine AC.of_run2 tab_ok Try.func87 (by rfl) (by rfl) (by cbv) ⟨by decide, rfl⟩ fun F hP hA => ?_
  have hT : TabOk F.P tab := hP ▸ tab_ok
  have hM : F.P.follows .mixedOrders = true := hP ▸ mixed
  have hC : ∀ {f a o r}, AC Try.prog f a o r → AC F.P f a o r := fun h => hP ▸ h
  refine Run.seq ?_
  refine Run.region hL hT [] (by cbv) ?_ ?_
  · exact hq0
  refine Run.seq ?_
  refine Run.seq ?_
  obtain ⟨r1, h_r1, h⟩ := bnd h
  refine Run.region hL hT [(5, .call [false, false, false] [.v (.jk), .v (.jk), .v (.jk)] [.v (.s (.bool r1))])] (by cbv) ?_ ?_
  · exact (hq trivial (hq trivial (hq (by rw [show ln (eInt_c a0v_Cells) = lenI_Int a0v_Cells from ln_eq Int_c _]; exact (hC (spec_l1In_ac h_r1))) hq0)))
  rw [show ln (eInt_c a0v_Cells) = lenI_Int a0v_Cells from ln_eq Int_c _]
  refine Run.cond (by cbv) (hq0) (fun c2 => ?_) (fun c2 => ?_)
  · have h := if_t c2 h
    refine Run.seq ?_
    refine Run.region hL hT [] (by cbv) ?_ ?_
    · exact hq0
    refine Run.ret ?_
    cases h
    refine ⟨_, _, by cbv, ?_, ?_⟩
    · exact LLe.r
    · exact (ALe.v LLe.r ALe.nil)
  · have h := if_f c2 h
    refine Run.skip ?_
    refine Run.seq ?_
    obtain ⟨x3, h_x3, h⟩ := bnd h
    refine Run.region hL hT [(3, .el [.s (.int .i64 x3)])] (by cbv) ?_ ?_
    · exact (hq trivial (hq (get_le h_x3) (hq (get_lt (f := Int_c) h_x3) (hq (get_ge (f := Int_c) h_x3) hq0))))
    refine Run.ret ?_
    cases h
    refine ⟨_, _, by cbv, ?_, ?_⟩
    · exact LLe.r
    · exact (ALe.v LLe.r ALe.nil)

set_option maxRecDepth 8000 in
theorem spec_Ahead_ac {a0v_Table : Int} {a0v_Where : List Cond} {a0v_Order : Int} {a0v_Down : Bool} {a0v_First : Int} {a0v_Show : List Int} {a0v_Kids : Bool} {a0v_KidTable : Int} {a0v_KidCol : Int} {a1v_Id : Int} {a1v_Cells : List Int} {a2v_Id : Int} {a2v_Cells : List Int} {r : Bool} (h : spec_Ahead.f (Query.mk a0v_Table a0v_Where a0v_Order a0v_Down a0v_First a0v_Show a0v_Kids a0v_KidTable a0v_KidCol) (Row.mk a1v_Id a1v_Cells) (Row.mk a2v_Id a2v_Cells) = some r) : AC Try.prog 65 [.ag [.s (.int .i64 a0v_Table), .im false (rowsOf Cond_c a0v_Where), .s (.int .i64 a0v_Order), .s (.bool a0v_Down), .s (.int .i64 a0v_First), .im false (rowsOf Int_c a0v_Show), .s (.bool a0v_Kids), .s (.int .i64 a0v_KidTable), .s (.int .i64 a0v_KidCol)], .ag [.s (.int .i64 a1v_Id), .im false (rowsOf Int_c a1v_Cells)], .ag [.s (.int .i64 a2v_Id), .im false (rowsOf Int_c a2v_Cells)]] [.ag [.jk, .jk, .jk, .jk, .jk, .jk, .jk, .jk, .jk], .ag [.jk, .jk], .ag [.jk, .jk]] [.v (.s (.bool r))] := by
  unfold spec_Ahead.f at h
  let ar := Ls.ar; let cm := Ls.cm; let bo := Ls.bo; let sc := Ls.sc; let sa := Ls.sa; let sx := Ls.sx; let ss := Ls.ss; let sl := Ls.sl; let bs := Ls.bs; let sb := Ls.sb; let ln := Ls.ln; let sr := Ls.sr; let ap := Ls.ap; let up := Ls.up; let rp := Ls.rp; let fr := Ls.fr; let ge := Ls.ge; let le := Ls.le; let lt := Ls.lt; let nz := Ls.nz; let mm := Ls.mm; let ma := Ls.ma; let sm := Ls.sm; let fl := Ls.fl; let al := Ls.al; let ci := Ls.ci
  let eCond_c := rowsOf Cond_c
  let eInt_c := rowsOf Int_c
  have hL : (⟨ar, cm, bo, sc, sa, sx, ss, sl, bs, sb, ln, sr, ap, up, rp, fr, ge, le, lt, nz, mm, ma, sm, fl, al, ci⟩ : Lf) = Ls := rfl
  show AC Try.prog 65 [.ag [.s (.int .i64 a0v_Table), .im false (eCond_c a0v_Where), .s (.int .i64 a0v_Order), .s (.bool a0v_Down), .s (.int .i64 a0v_First), .im false (eInt_c a0v_Show), .s (.bool a0v_Kids), .s (.int .i64 a0v_KidTable), .s (.int .i64 a0v_KidCol)], .ag [.s (.int .i64 a1v_Id), .im false (eInt_c a1v_Cells)], .ag [.s (.int .i64 a2v_Id), .im false (eInt_c a2v_Cells)]] _ _
  refine AC.of_run2 tab_ok Try.func65 (by rfl) (by rfl) (by cbv) ⟨by decide, rfl⟩ fun F hP hA => ?_
  have hT : TabOk F.P tab := hP ▸ tab_ok
  have hM : F.P.follows .mixedOrders = true := hP ▸ mixed
  have hC : ∀ {f a o r}, AC Try.prog f a o r → AC F.P f a o r := fun h => hP ▸ h
  refine Run.seq ?_
  refine Run.region hL hT [] (by cbv) ?_ ?_
  · exact hq0
  refine Run.seq ?_
  refine Run.seq ?_
  refine Run.region hL hT [] (by cbv) ?_ ?_
  · exact (hq trivial (hq trivial hq0))
  refine Run.cond (by cbv) (hq0) (fun c1 => ?_) (fun c1 => ?_)
  · have h := if_t c1 h
    refine Run.seq ?_
    obtain ⟨r2, h_r2, h⟩ := bnd h
    obtain ⟨r3, h_r3, h⟩ := bnd h
    refine Run.draw hL hT hM [(4, .call [false, false] [.ag [.jk, .jk], .v (.jk)] [.v (.s (.int .i64 r2))]), (9, .call [false, false] [.ag [.jk, .jk], .v (.jk)] [.v (.s (.int .i64 r3))])] (by cbv) (by cbv) (by cbv) (by cbv) (by cbv) ?_ ?_
    · exact (hq trivial (hq trivial (hq trivial (hq (hC (spec_l9Cell_ac h_r2)) (hq trivial (hq trivial (hq trivial (hq (hC (spec_l9Cell_ac h_r3)) hq0))))))))
    refine Run.seq ?_
    refine Run.region hL hT [] (by cbv) ?_ ?_
    · exact (hq trivial hq0)
    refine Run.cond (by cbv) (hq0) (fun c4 => ?_) (fun c4 => ?_)
    · have h := if_t c4 h
      refine Run.seq ?_
      refine Run.region hL hT [] (by cbv) ?_ ?_
      · exact (hq trivial (hq trivial hq0))
      refine Run.ret ?_
      cases h
      refine ⟨_, _, by cbv, ?_, ?_⟩
      · exact LLe.r
      · exact (ALe.v LLe.r ALe.nil)
    · have h := if_f c4 h
      refine Run.skip ?_
      refine Run.seq ?_
      refine Run.region hL hT [] (by cbv) ?_ ?_
      · exact (hq trivial (hq trivial (hq trivial hq0)))
      refine Run.ret ?_
      cases h
      refine ⟨_, _, by cbv, ?_, ?_⟩
      · exact LLe.r
      · exact (ALe.v LLe.r ALe.nil)
  · have h := if_f c1 h
    refine Run.skip ?_
    refine Run.seq ?_
    refine Run.region hL hT [] (by cbv) ?_ ?_
    · exact (hq trivial (hq trivial (hq trivial hq0)))
    refine Run.ret ?_
    cases h
    refine ⟨_, _, by cbv, ?_, ?_⟩
    · exact LLe.r
    · exact (ALe.v LLe.r ALe.nil)

set_option maxRecDepth 8000 in
theorem spec_l6Copy_ac {a0v_Id : Int} {a0v_Cells : List Int} {r : Row} (h : spec_l6Copy.f (Row.mk a0v_Id a0v_Cells) = some r) : AC Try.prog 66 [.ag [.s (.int .i64 a0v_Id), .im false (rowsOf Int_c a0v_Cells)]] [.ag [.jk, .jk]] [.ag [.s (.int .i64 r.Id), .ow 3 (rowsOf Int_c r.Cells)]] := by
  unfold spec_l6Copy.f at h
  let ar := Ls.ar; let cm := Ls.cm; let bo := Ls.bo; let sc := Ls.sc; let sa := Ls.sa; let sx := Ls.sx; let ss := Ls.ss; let sl := Ls.sl; let bs := Ls.bs; let sb := Ls.sb; let ln := Ls.ln; let sr := Ls.sr; let ap := Ls.ap; let up := Ls.up; let rp := Ls.rp; let fr := Ls.fr; let ge := Ls.ge; let le := Ls.le; let lt := Ls.lt; let nz := Ls.nz; let mm := Ls.mm; let ma := Ls.ma; let sm := Ls.sm; let fl := Ls.fl; let al := Ls.al; let ci := Ls.ci
  let eInt_c := rowsOf Int_c
  have hL : (⟨ar, cm, bo, sc, sa, sx, ss, sl, bs, sb, ln, sr, ap, up, rp, fr, ge, le, lt, nz, mm, ma, sm, fl, al, ci⟩ : Lf) = Ls := rfl
  show AC Try.prog 66 [.ag [.s (.int .i64 a0v_Id), .im false (eInt_c a0v_Cells)]] _ _
  refine AC.of_run2 tab_ok Try.func66 (by rfl) (by rfl) (by cbv) ⟨by decide, rfl⟩ fun F hP hA => ?_
  have hT : TabOk F.P tab := hP ▸ tab_ok
  have hM : F.P.follows .mixedOrders = true := hP ▸ mixed
  have hC : ∀ {f a o r}, AC Try.prog f a o r → AC F.P f a o r := fun h => hP ▸ h
  refine Run.seq ?_
  refine Run.region hL hT [] (by cbv) ?_ ?_
  · exact hq0
  refine Run.seq ?_
  obtain ⟨l1, h_l1, h⟩ := bnd h
  refine Run.draw hL hT hM [] (by cbv) (by cbv) (by cbv) (by cbv) (by cbv) ?_ ?_
  · exact (hq trivial (hq trivial (hq (fl_row Int_c_f _) (hq (app_mb (P := Try.prog) (f := Int_c) RLe.r RLe.r h_l1) (hq trivial hq0)))))
  refine Run.row (rows := (ap ([]) ((eInt_c a0v_Cells)))) 4101 (eInt_c l1) (by cbv) (app_le (f := Int_c) RLe.r RLe.r h_l1) ?_
  refine Run.ret ?_
  cases h
  refine ⟨_, _, by cbv, ?_, ?_⟩
  · exact LLe.r
  · exact (ALe.ag rfl LLe.r ALe.nil)

set_option maxRecDepth 8000 in
theorem spec_l11Put_ac {a0v_Table : Int} {a0v_Where : List Cond} {a0v_Order : Int} {a0v_Down : Bool} {a0v_First : Int} {a0v_Show : List Int} {a0v_Kids : Bool} {a0v_KidTable : Int} {a0v_KidCol : Int} {a1 : List Row} {a2v_Id : Int} {a2v_Cells : List Int} {r : (List Row)} (h : spec_l11Put.f (Query.mk a0v_Table a0v_Where a0v_Order a0v_Down a0v_First a0v_Show a0v_Kids a0v_KidTable a0v_KidCol) a1 (Row.mk a2v_Id a2v_Cells) = some r) : AC Try.prog 30 [.ag [.s (.int .i64 a0v_Table), .im false (rowsOf Cond_c a0v_Where), .s (.int .i64 a0v_Order), .s (.bool a0v_Down), .s (.int .i64 a0v_First), .im false (rowsOf Int_c a0v_Show), .s (.bool a0v_Kids), .s (.int .i64 a0v_KidTable), .s (.int .i64 a0v_KidCol)], .v (.ow 66 (rowsOf Row_o a1)), .ag [.s (.int .i64 a2v_Id), .im false (rowsOf Int_c a2v_Cells)]] [.ag [.jk, .jk, .jk, .jk, .jk, .jk, .jk, .jk, .jk], .v (.jk), .ag [.jk, .jk]] [.v (.ow 66 (rowsOf Row_o r))] := by
  unfold spec_l11Put.f at h
  let ar := Ls.ar; let cm := Ls.cm; let bo := Ls.bo; let sc := Ls.sc; let sa := Ls.sa; let sx := Ls.sx; let ss := Ls.ss; let sl := Ls.sl; let bs := Ls.bs; let sb := Ls.sb; let ln := Ls.ln; let sr := Ls.sr; let ap := Ls.ap; let up := Ls.up; let rp := Ls.rp; let fr := Ls.fr; let ge := Ls.ge; let le := Ls.le; let lt := Ls.lt; let nz := Ls.nz; let mm := Ls.mm; let ma := Ls.ma; let sm := Ls.sm; let fl := Ls.fl; let al := Ls.al; let ci := Ls.ci
  let eCond_c := rowsOf Cond_c
  let eInt_c := rowsOf Int_c
  let eRow_o := rowsOf Row_o
  let lenI_Row := @lenI Row
  let jp := jpR
  have hL : (⟨ar, cm, bo, sc, sa, sx, ss, sl, bs, sb, ln, sr, ap, up, rp, fr, ge, le, lt, nz, mm, ma, sm, fl, al, ci⟩ : Lf) = Ls := rfl
  show AC Try.prog 30 [.ag [.s (.int .i64 a0v_Table), .im false (eCond_c a0v_Where), .s (.int .i64 a0v_Order), .s (.bool a0v_Down), .s (.int .i64 a0v_First), .im false (eInt_c a0v_Show), .s (.bool a0v_Kids), .s (.int .i64 a0v_KidTable), .s (.int .i64 a0v_KidCol)], .v (.ow 66 (eRow_o a1)), .ag [.s (.int .i64 a2v_Id), .im false (eInt_c a2v_Cells)]] _ _
  refine AC.of_run2 tab_ok Try.func30 (by rfl) (by rfl) (by cbv) ⟨by decide, rfl⟩ fun F hP hA => ?_
  have hT : TabOk F.P tab := hP ▸ tab_ok
  have hM : F.P.follows .mixedOrders = true := hP ▸ mixed
  have hC : ∀ {f a o r}, AC Try.prog f a o r → AC F.P f a o r := fun h => hP ▸ h
  refine Run.seq ?_
  refine Run.region hL hT [] (by cbv) ?_ ?_
  · exact hq0
  refine Run.seq ?_
  refine Run.region hL hT [] (by cbv) ?_ ?_
  · exact hq0
  refine Run.seq ?_
  refine Run.region hL hT [] (by cbv) ?_ ?_
  · exact hq0
  obtain ⟨K4, h_K4, h⟩ := joinE h
  refine Run.join3 K4 (r := r) (fun (y1 : List Row) (y2 : Bool) (y3 : Int) => ⟨48, 100000, [(5, .pt 1 0 0), (7, .rf 2), (8, .t (.s (.bool y2)))], [(0, .row 0 66 2 ((jp y3 (eRow_o a1)))), (1, .box 66 [.t (.s (.int .i64 a2v_Id)), .t (.im false (eInt_c a2v_Cells))]), (2, .row 0 66 2 (eRow_o y1))]⟩) ?_ ?_
  · skip
    refine Run.seq ?_
    refine Run.region hL hT [] (by cbv) ?_ ?_
    · exact hq0
    refine Run.block ?_
    refine Run.loop3 (fun (z20 : List Row) (z21 : Bool) (z22 : Int) => ⟨48, 100000, [(1, .rf 0), (3, .pt 1 0 0), (5, .pt 2 0 0), (7, .rf 3), (8, .t (.s (.bool z21))), (9, .t (.s (.int .i64 z22)))], [(0, .row 0 66 2 ((jp z22 (eRow_o a1)))), (1, .box 42 [.t (.s (.int .i64 a0v_Table)), .t (.im false (eCond_c a0v_Where)), .t (.s (.int .i64 a0v_Order)), .t (.s (.bool a0v_Down)), .t (.s (.int .i64 a0v_First)), .t (.im false (eInt_c a0v_Show)), .t (.s (.bool a0v_Kids)), .t (.s (.int .i64 a0v_KidTable)), .t (.s (.int .i64 a0v_KidCol))]), (2, .box 66 [.t (.s (.int .i64 a2v_Id)), .t (.im false (eInt_c a2v_Cells))]), (3, .row 0 66 2 (eRow_o z20))]⟩) (x0 := []) (x1 := false) (x2 := 0) h ((Weak.row (rows := eRow_o a1) 0 (jp 0 (eRow_o a1)) (by cbv) (RLe.eq (jp_0 _).symm)).trans (Weak.of _ [(0, 0), (1, 1), (2, 2), (3, 4097)] hA (by cbv) ?_)) (fun _ _ _ => rfl) ?_
    · repeat (first | exact hq0 | refine hq (by first | exact True.intro | rfl) ?_)
    · intro k z20 z21 z22 h
      rw [spec_l11Put.l0] at h
      refine Run.seq ?_
      refine Run.seq ?_
      refine Run.region hL hT [] (by cbv) ?_ ?_
      · exact (hq trivial hq0)
      rw [show ln (jp z22 (eRow_o a1)) = lenI_Row a1 from jp_ln (f := Row_o) _ _]
      refine Run.cond (by cbv) (hq0) (fun c23 => ?_) (fun c23 => ?_)
      · have h := if_t c23 h
        refine Run.skip ?_
        refine Run.seq ?_
        refine Run.block ?_
        refine Run.seq ?_
        refine Run.seq ?_
        obtain ⟨⟨x24v_Id, x24v_Cells⟩, h_x24, h⟩ := bnd h
        obtain ⟨r25, h_r25, h⟩ := bnd h
        refine Run.draw hL hT hM [(8, .el [.s (.int .i64 x24v_Id), .ow 3 (eInt_c x24v_Cells)]), (9, .call [false, false, false] [.ag [.jk, .jk, .jk, .jk, .jk, .jk, .jk, .jk, .jk], .ag [.jk, .jk], .ag [.jk, .jk]] [.v (.s (.bool r25))])] (by cbv) (by cbv) (by cbv) (by cbv) (by cbv) ?_ ?_
        · exact (hq (fun g26 => (hq trivial hq0)) (hq (fun g27 => (hq trivial hq0)) (hq (fun _ => hq0) (hq (fun _ => hq0) (hq (fun g30 => (hq g30 (hq g30 (hq (get_le (gd_t h_x24 g30)) (hq (jp_lt (f := Row_o) (gd_t h_x24 g30)) hq0))))) (hq (fun g31 => (hq g31 (hq (get_le (gd_t h_x24 g31)) (hq (jp_lt (f := Row_o) (gd_t h_x24 g31)) (hq (jp_ge (f := Row_o) (gd_t h_x24 g31)) hq0))))) (hq (fun g32 => (hq g32 (hq g32 (hq g32 (hq (hC (AC.args (spec_Ahead_ac (gd_t h_r25 g32)) (ALe.ag rfl LLe.r (ALe.ag rfl LLe.r (ALe.ag rfl (LLe.c (LLe.cons (LLe.im (RLe.eq (fr_row Int_c_z _))) LLe.nil)) ALe.nil))))) hq0))))) (hq (fun q33 => (hq q33 hq0)) (hq (fun _ => hq0) hq0)))))))))
        refine Run.cond (by cbv) (hq0) (fun c35 => ?_) (fun c35 => ?_)
        · have h := if_t c35 h
          refine Run.seq ?_
          obtain ⟨⟨r36v_Id, r36v_Cells⟩, h_r36, h⟩ := bnd h
          obtain ⟨l37, h_l37, h⟩ := bnd h
          obtain ⟨l38, h_l38, h⟩ := bnd h
          refine Run.region hL hT [(2, .call [false] [.ag [.jk, .jk]] [.ag [.s (.int .i64 r36v_Id), .ow 3 (eInt_c r36v_Cells)]])] (by cbv) ?_ ?_
          · exact (hq trivial (hq (hC (spec_l6Copy_ac h_r36)) (hq (app_mb (P := Try.prog) (f := Row_o) RLe.r (some_le (f := Row_o) h_l37 (RLe.cons rfl LLe.r RLe.nil)) h_l38) hq0)))
          refine Run.row (rows := (ap (eRow_o z20) ([[.s (.int .i64 r36v_Id), .ow 3 (eInt_c r36v_Cells)]]))) 108196 (eRow_o l38) (by cbv) (app_le (f := Row_o) RLe.r (some_le (f := Row_o) h_l37 (RLe.cons rfl LLe.r RLe.nil)) h_l38) ?_
          refine Run.region hL hT [] (by cbv) ?_ ?_
          · exact hq0
          obtain ⟨⟨x39v_Id, x39v_Cells⟩, h_x39, h⟩ := bnd h
          obtain ⟨u40, h_u40, h⟩ := bnd h
          obtain ⟨l41, h_l41, h⟩ := bnd h
          obtain ⟨l42, h_l42, h⟩ := bnd h
          refine Run.weak ?_ (Weak.take (rows := (jp z22 (eRow_o a1))) (e2 := 3) (r2 := eInt_c x39v_Cells) hT 0 z22 1 119384 1119384 (by cbv) (by cbv) (by cbv) (get_le' h_x39) (jp_lt' Row_o h_x39) ((congrArg (fun q => q[1]?) (jp_ge (f := Row_o) h_x39)).trans rfl) rfl (up (jp z22 (eRow_o a1)) z22 1 [.jk]) rfl)
          refine Run.region hL hT [(4, .lk [.s (.int .i64 x39v_Id), .jk] [(1, 1119384)])] (by cbv) ?_ ?_
          · exact (hq (get_le h_x39) (hq (jpu_lt Row_o h_x39) (hq trivial (hq (get_le h_x39) (hq (jpu_lt Row_o h_x39) (hq (jpu_ge Row_o h_x39) (hq (app_mb (P := Try.prog) (f := Row_o) RLe.r (some_le (f := Row_o) h_l41 (RLe.cons rfl LLe.r RLe.nil)) h_l42) hq0)))))))
          refine Run.weak ?_ (Weak.row (rows := (up (jp z22 (eRow_o a1)) z22 1 [.jk])) 0 (jp (ar .add .i64 z22 1) (eRow_o a1)) (by cbv) (jp_step (f := Row_o) h_x39 h_u40 (ltn (Row_o_n _) (by decide))))
          refine Run.row (rows := (ap (eRow_o l38) ([[.s (.int .i64 x39v_Id), .ow 3 (eInt_c x39v_Cells)]]))) 116390 (eRow_o l42) (by cbv) (app_le (f := Row_o) RLe.r (some_le (f := Row_o) h_l41 (RLe.cons rfl LLe.r RLe.nil)) h_l42) ?_
          refine Run.region hL hT [] (by cbv) ?_ ?_
          · exact (hq trivial hq0)
          refine ⟨l42, true, (ar .add .i64 z22 1), h, Weak.of _ [(0, 0), (1, 1), (2, 2), (3, 116390)] hA (by cbv) ?_⟩
          repeat (first | exact hq0 | refine hq (by first | exact True.intro | rfl) ?_)
        · have h := if_f c35 h
          refine Run.skip ?_
          obtain ⟨⟨x43v_Id, x43v_Cells⟩, h_x43, h⟩ := bnd h
          obtain ⟨u44, h_u44, h⟩ := bnd h
          obtain ⟨l45, h_l45, h⟩ := bnd h
          obtain ⟨l46, h_l46, h⟩ := bnd h
          refine Run.weak ?_ (Weak.take (rows := (jp z22 (eRow_o a1))) (e2 := 3) (r2 := eInt_c x43v_Cells) hT 0 z22 1 111192 1111192 (by cbv) (by cbv) (by cbv) (get_le' h_x43) (jp_lt' Row_o h_x43) ((congrArg (fun q => q[1]?) (jp_ge (f := Row_o) h_x43)).trans rfl) rfl (up (jp z22 (eRow_o a1)) z22 1 [.jk]) rfl)
          refine Run.region hL hT [(4, .lk [.s (.int .i64 x43v_Id), .jk] [(1, 1111192)])] (by cbv) ?_ ?_
          · exact (hq (get_le h_x43) (hq (jpu_lt Row_o h_x43) (hq trivial (hq (get_le h_x43) (hq (jpu_lt Row_o h_x43) (hq (jpu_ge Row_o h_x43) (hq (app_mb (P := Try.prog) (f := Row_o) RLe.r (some_le (f := Row_o) h_l45 (RLe.cons rfl LLe.r RLe.nil)) h_l46) hq0)))))))
          refine Run.weak ?_ (Weak.row (rows := (up (jp z22 (eRow_o a1)) z22 1 [.jk])) 0 (jp (ar .add .i64 z22 1) (eRow_o a1)) (by cbv) (jp_step (f := Row_o) h_x43 h_u44 (ltn (Row_o_n _) (by decide))))
          refine Run.row (rows := (ap (eRow_o z20) ([[.s (.int .i64 x43v_Id), .ow 3 (eInt_c x43v_Cells)]]))) 108198 (eRow_o l46) (by cbv) (app_le (f := Row_o) RLe.r (some_le (f := Row_o) h_l45 (RLe.cons rfl LLe.r RLe.nil)) h_l46) ?_
          refine Run.region hL hT [] (by cbv) ?_ ?_
          · exact (hq trivial hq0)
          refine ⟨l46, z21, (ar .add .i64 z22 1), h, Weak.of _ [(0, 0), (1, 1), (2, 2), (3, 108198)] hA (by cbv) ?_⟩
          repeat (first | exact hq0 | refine hq (by first | exact True.intro | rfl) ?_)
      · have h := if_f c23 h
        refine Run.exit ?_
        refine ⟨z20, z21, z22, h, Weak.of _ [(0, 0), (1, 2), (2, 3)] hA (by cbv) ?_⟩
        repeat (first | exact hq0 | refine hq (by first | exact True.intro | rfl) ?_)
  · intro y1 y2 y3 h
    rw [h_K4] at h
    refine Run.seq ?_
    refine Run.seq ?_
    refine Run.region hL hT [] (by cbv) ?_ ?_
    · exact hq0
    refine Run.cond (by cbv) (hq0) (fun c47 => ?_) (fun c47 => ?_)
    · have h := if_t c47 h
      obtain ⟨⟨r48v_Id, r48v_Cells⟩, h_r48, h⟩ := bnd h
      obtain ⟨l49, h_l49, h⟩ := bnd h
      obtain ⟨l50, h_l50, h⟩ := bnd h
      refine Run.region hL hT [(2, .call [false] [.ag [.jk, .jk]] [.ag [.s (.int .i64 r48v_Id), .ow 3 (eInt_c r48v_Cells)]])] (by cbv) ?_ ?_
      · exact (hq trivial (hq (hC (spec_l6Copy_ac h_r48)) (hq (app_mb (P := Try.prog) (f := Row_o) RLe.r (some_le (f := Row_o) h_l49 (RLe.cons rfl LLe.r RLe.nil)) h_l50) hq0)))
      refine Run.row (rows := (ap (eRow_o y1) ([[.s (.int .i64 r48v_Id), .ow 3 (eInt_c r48v_Cells)]]))) 104100 (eRow_o l50) (by cbv) (app_le (f := Row_o) RLe.r (some_le (f := Row_o) h_l49 (RLe.cons rfl LLe.r RLe.nil)) h_l50) ?_
      refine Run.seq ?_
      refine Run.region hL hT [] (by cbv) ?_ ?_
      · exact hq0
      refine Run.ret ?_
      cases h
      refine ⟨_, _, by cbv, ?_, ?_⟩
      · exact (LLe.c (LLe.c (LLe.c (LLe.c (LLe.c (LLe.c (LLe.c (LLe.c (LLe.c (LLe.cons LLe.jk (LLe.c (LLe.c LLe.nil))))))))))))
      · exact (ALe.v LLe.r ALe.nil)
    · have h := if_f c47 h
      refine Run.skip ?_
      refine Run.seq ?_
      refine Run.region hL hT [] (by cbv) ?_ ?_
      · exact hq0
      refine Run.ret ?_
      cases h
      refine ⟨_, _, by cbv, ?_, ?_⟩
      · exact (LLe.c (LLe.c (LLe.c (LLe.c (LLe.c (LLe.c (LLe.c (LLe.c (LLe.c (LLe.cons LLe.jk (LLe.c (LLe.c LLe.nil))))))))))))
      · exact (ALe.v LLe.r ALe.nil)

set_option maxRecDepth 8000 in
theorem spec_RowsFor_ac {a0v_Schemav_Cols : List Int} {a0v_Version : Int} {a0v_Tables : List (List Row)} {a1v_Table : Int} {a1v_Where : List Cond} {a1v_Order : Int} {a1v_Down : Bool} {a1v_First : Int} {a1v_Show : List Int} {a1v_Kids : Bool} {a1v_KidTable : Int} {a1v_KidCol : Int} {r : (List Row)} (h : spec_RowsFor.f (Store.mk (Schema.mk a0v_Schemav_Cols) a0v_Version a0v_Tables) (Query.mk a1v_Table a1v_Where a1v_Order a1v_Down a1v_First a1v_Show a1v_Kids a1v_KidTable a1v_KidCol) = some r) : AC Try.prog 7 [.ag [.im false (rowsOf Int_c a0v_Schemav_Cols), .s (.int .i64 a0v_Version), .im false (rowsOf RowS_i a0v_Tables)], .ag [.s (.int .i64 a1v_Table), .im false (rowsOf Cond_c a1v_Where), .s (.int .i64 a1v_Order), .s (.bool a1v_Down), .s (.int .i64 a1v_First), .im false (rowsOf Int_c a1v_Show), .s (.bool a1v_Kids), .s (.int .i64 a1v_KidTable), .s (.int .i64 a1v_KidCol)]] [.ag [.jk, .jk, .jk], .ag [.jk, .jk, .jk, .jk, .jk, .jk, .jk, .jk, .jk]] [.v (.ow 66 (rowsOf Row_o r))] := by
  unfold spec_RowsFor.f at h
  let ar := Ls.ar; let cm := Ls.cm; let bo := Ls.bo; let sc := Ls.sc; let sa := Ls.sa; let sx := Ls.sx; let ss := Ls.ss; let sl := Ls.sl; let bs := Ls.bs; let sb := Ls.sb; let ln := Ls.ln; let sr := Ls.sr; let ap := Ls.ap; let up := Ls.up; let rp := Ls.rp; let fr := Ls.fr; let ge := Ls.ge; let le := Ls.le; let lt := Ls.lt; let nz := Ls.nz; let mm := Ls.mm; let ma := Ls.ma; let sm := Ls.sm; let fl := Ls.fl; let al := Ls.al; let ci := Ls.ci
  let eCond_c := rowsOf Cond_c
  let eInt_c := rowsOf Int_c
  let eRowS_i := rowsOf RowS_i
  let eRow_i := rowsOf Row_i
  let eRow_o := rowsOf Row_o
  let lenI_Row := @lenI Row
  have hL : (⟨ar, cm, bo, sc, sa, sx, ss, sl, bs, sb, ln, sr, ap, up, rp, fr, ge, le, lt, nz, mm, ma, sm, fl, al, ci⟩ : Lf) = Ls := rfl
  show AC Try.prog 7 [.ag [.im false (eInt_c a0v_Schemav_Cols), .s (.int .i64 a0v_Version), .im false (eRowS_i a0v_Tables)], .ag [.s (.int .i64 a1v_Table), .im false (eCond_c a1v_Where), .s (.int .i64 a1v_Order), .s (.bool a1v_Down), .s (.int .i64 a1v_First), .im false (eInt_c a1v_Show), .s (.bool a1v_Kids), .s (.int .i64 a1v_KidTable), .s (.int .i64 a1v_KidCol)]] _ _
  refine AC.of_run2 tab_ok Try.func7 (by rfl) (by rfl) (by cbv) ⟨by decide, rfl⟩ fun F hP hA => ?_
  have hT : TabOk F.P tab := hP ▸ tab_ok
  have hM : F.P.follows .mixedOrders = true := hP ▸ mixed
  have hC : ∀ {f a o r}, AC Try.prog f a o r → AC F.P f a o r := fun h => hP ▸ h
  refine Run.seq ?_
  refine Run.region hL hT [] (by cbv) ?_ ?_
  · exact hq0
  refine Run.seq ?_
  refine Run.region hL hT [] (by cbv) ?_ ?_
  · exact hq0
  refine Run.seq ?_
  refine Run.seq ?_
  obtain ⟨r1, h_r1, h⟩ := bnd h
  obtain ⟨r2, h_r2, h⟩ := bnd h
  refine Run.region hL hT [(1, .call [false] [.ag [.jk, .jk, .jk]] [.v (.s (.bool r1))]), (7, .call [false, false] [.ag [.jk], .ag [.jk, .jk, .jk, .jk, .jk, .jk, .jk, .jk, .jk]] [.v (.s (.bool r2))])] (by cbv) ?_ ?_
  · exact (hq trivial (hq (hC (spec_StoreOk_ac h_r1)) (hq (fun _ => hq0) (hq (fun g4 => (hq g4 (hq trivial hq0))) (hq (fun g5 => (hq trivial hq0)) (hq (fun g6 => (hq g6 (hq g6 (hq (hC (spec_QueryOk_ac (gd_t h_r2 g6))) hq0)))) (hq (fun g7 => (hq g7 hq0)) (hq (fun _ => hq0) (hq (fun q9 => (hq (bo_m q9) hq0)) hq0)))))))))
  refine Run.cond (by cbv) (hq0) (fun c10 => ?_) (fun c10 => ?_)
  · have h := if_t c10 h
    refine Run.seq ?_
    refine Run.region hL hT [] (by cbv) ?_ ?_
    · exact hq0
    refine Run.ret ?_
    cases h
    refine ⟨_, _, by cbv, ?_, ?_⟩
    · exact LLe.r
    · exact (ALe.v LLe.r ALe.nil)
  · have h := if_f c10 h
    refine Run.skip ?_
    refine Run.seq ?_
    obtain ⟨x11, h_x11, h⟩ := bnd h
    refine Run.region hL hT [(4, .el [.im false (eRow_i x11)])] (by cbv) ?_ ?_
    · exact (hq trivial (hq trivial (hq (get_le h_x11) (hq (get_lt (f := RowS_i) h_x11) (hq (get_ge (f := RowS_i) h_x11) hq0)))))
    refine Run.seq ?_
    refine Run.seq ?_
    refine Run.region hL hT [] (by cbv) ?_ ?_
    · exact hq0
    refine Run.block ?_
    refine Run.loop2 (fun (z24 : List Row) (z25 : Int) => ⟨46, 100000, [(3, .pt 1 0 0), (5, .rf 2), (6, .t (.im false (eRow_i x11))), (7, .t (.s (.int .i64 z25)))], [(1, .box 42 [.t (.s (.int .i64 a1v_Table)), .t (.im false (eCond_c a1v_Where)), .t (.s (.int .i64 a1v_Order)), .t (.s (.bool a1v_Down)), .t (.s (.int .i64 a1v_First)), .t (.im false (eInt_c a1v_Show)), .t (.s (.bool a1v_Kids)), .t (.s (.int .i64 a1v_KidTable)), .t (.s (.int .i64 a1v_KidCol))]), (2, .row 0 66 2 (eRow_o z24))]⟩) (x0 := []) (x1 := 0) h (Weak.of _ [(1, 1), (2, 4096)] hA (by cbv) ?_) (fun _ _ => rfl) ?_
    · repeat (first | exact hq0 | refine hq (by first | exact True.intro | rfl) ?_)
    · intro k z24 z25 h
      rw [spec_RowsFor.l0] at h
      refine Run.seq ?_
      refine Run.seq ?_
      refine Run.region hL hT [] (by cbv) ?_ ?_
      · exact (hq trivial hq0)
      rw [show ln (eRow_i x11) = lenI_Row x11 from ln_eq Row_i _]
      refine Run.cond (by cbv) (hq0) (fun c26 => ?_) (fun c26 => ?_)
      · have h := if_t c26 h
        refine Run.skip ?_
        refine Run.seq ?_
        refine Run.block ?_
        refine Run.seq ?_
        obtain ⟨⟨x27v_Id, x27v_Cells⟩, h_x27, h⟩ := bnd h
        obtain ⟨r28, h_r28, h⟩ := bnd h
        refine Run.draw hL hT hM [(3, .el [.s (.int .i64 x27v_Id), .im false (eInt_c x27v_Cells)]), (5, .call [false, false] [.ag [.jk, .jk, .jk, .jk, .jk, .jk, .jk, .jk, .jk], .ag [.jk, .jk]] [.v (.s (.bool r28))])] (by cbv) (by cbv) (by cbv) (by cbv) (by cbv) ?_ ?_
        · exact (hq trivial (hq (get_le h_x27) (hq (get_lt (f := Row_i) h_x27) (hq (get_ge (f := Row_i) h_x27) (hq (hC (spec_Matches_ac h_r28)) hq0)))))
        refine Run.cond (by cbv) (hq0) (fun c29 => ?_) (fun c29 => ?_)
        · have h := if_t c29 h
          obtain ⟨r30, h_r30, h⟩ := bnd h
          refine Run.draw hL hT hM [(4, .el [.s (.int .i64 x27v_Id), .im false (eInt_c x27v_Cells)]), (6, .call [false, true, false] [.ag [.jk, .jk, .jk, .jk, .jk, .jk, .jk, .jk, .jk], .v (.jk), .ag [.jk, .jk]] [.v (.ow 66 (eRow_o r30))])] (by cbv) (by cbv) (by cbv) (by cbv) (by cbv) ?_ ?_
          · exact (hq trivial (hq (get_le h_x27) (hq (get_lt (f := Row_i) h_x27) (hq (get_ge (f := Row_i) h_x27) (hq (hC (spec_l11Put_ac h_r30)) hq0)))))
          refine Run.region hL hT [] (by cbv) ?_ ?_
          · exact (hq trivial hq0)
          refine ⟨r30, (ar .add .i64 z25 1), h, Weak.of _ [(1, 1), (2, 108198)] hA (by cbv) ?_⟩
          repeat (first | exact hq0 | refine hq (by first | exact True.intro | rfl) ?_)
        · have h := if_f c29 h
          refine Run.skip ?_
          refine Run.region hL hT [] (by cbv) ?_ ?_
          · exact (hq trivial hq0)
          refine ⟨z24, (ar .add .i64 z25 1), h, Weak.of _ [(1, 1), (2, 2)] hA (by cbv) ?_⟩
          repeat (first | exact hq0 | refine hq (by first | exact True.intro | rfl) ?_)
      · have h := if_f c26 h
        refine Run.exit ?_
        refine Run.seq ?_
        refine Run.region hL hT [] (by cbv) ?_ ?_
        · exact hq0
        refine Run.ret ?_
        cases h
        refine ⟨_, _, by cbv, ?_, ?_⟩
        · exact LLe.r
        · exact (ALe.v LLe.r ALe.nil)

set_option maxRecDepth 8000 in
theorem spec_ViewOf_ac {a0v_Schemav_Cols : List Int} {a0v_Version : Int} {a0v_Tables : List (List Row)} {a1v_Table : Int} {a1v_Where : List Cond} {a1v_Order : Int} {a1v_Down : Bool} {a1v_First : Int} {a1v_Show : List Int} {a1v_Kids : Bool} {a1v_KidTable : Int} {a1v_KidCol : Int} {r : View × Bool} (h : spec_ViewOf.f (Store.mk (Schema.mk a0v_Schemav_Cols) a0v_Version a0v_Tables) (Query.mk a1v_Table a1v_Where a1v_Order a1v_Down a1v_First a1v_Show a1v_Kids a1v_KidTable a1v_KidCol) = some r) : AC Try.prog 18 [.ag [.im false (rowsOf Int_c a0v_Schemav_Cols), .s (.int .i64 a0v_Version), .im false (rowsOf RowS_i a0v_Tables)], .ag [.s (.int .i64 a1v_Table), .im false (rowsOf Cond_c a1v_Where), .s (.int .i64 a1v_Order), .s (.bool a1v_Down), .s (.int .i64 a1v_First), .im false (rowsOf Int_c a1v_Show), .s (.bool a1v_Kids), .s (.int .i64 a1v_KidTable), .s (.int .i64 a1v_KidCol)]] [.ag [.jk, .jk, .jk], .ag [.jk, .jk, .jk, .jk, .jk, .jk, .jk, .jk, .jk]] [.ag [.s (.int .i64 r.1.Q.Table), .ow 94 (rowsOf Cond_c r.1.Q.Where), .s (.int .i64 r.1.Q.Order), .s (.bool r.1.Q.Down), .s (.int .i64 r.1.Q.First), .ow 3 (rowsOf Int_c r.1.Q.Show), .s (.bool r.1.Q.Kids), .s (.int .i64 r.1.Q.KidTable), .s (.int .i64 r.1.Q.KidCol), .ow 66 (rowsOf Row_o r.1.Rows), .ow 105 (rowsOf Kid_c r.1.Kids)], .v (.s (.bool r.2))] := by
  unfold spec_ViewOf.f at h
  let ar := Ls.ar; let cm := Ls.cm; let bo := Ls.bo; let sc := Ls.sc; let sa := Ls.sa; let sx := Ls.sx; let ss := Ls.ss; let sl := Ls.sl; let bs := Ls.bs; let sb := Ls.sb; let ln := Ls.ln; let sr := Ls.sr; let ap := Ls.ap; let up := Ls.up; let rp := Ls.rp; let fr := Ls.fr; let ge := Ls.ge; let le := Ls.le; let lt := Ls.lt; let nz := Ls.nz; let mm := Ls.mm; let ma := Ls.ma; let sm := Ls.sm; let fl := Ls.fl; let al := Ls.al; let ci := Ls.ci
  let eCond_c := rowsOf Cond_c
  let eInt_c := rowsOf Int_c
  let eKid_c := rowsOf Kid_c
  let eRowS_i := rowsOf RowS_i
  let eRow_i := rowsOf Row_i
  let eRow_o := rowsOf Row_o
  let lenI_Row := @lenI Row
  have hL : (⟨ar, cm, bo, sc, sa, sx, ss, sl, bs, sb, ln, sr, ap, up, rp, fr, ge, le, lt, nz, mm, ma, sm, fl, al, ci⟩ : Lf) = Ls := rfl
  show AC Try.prog 18 [.ag [.im false (eInt_c a0v_Schemav_Cols), .s (.int .i64 a0v_Version), .im false (eRowS_i a0v_Tables)], .ag [.s (.int .i64 a1v_Table), .im false (eCond_c a1v_Where), .s (.int .i64 a1v_Order), .s (.bool a1v_Down), .s (.int .i64 a1v_First), .im false (eInt_c a1v_Show), .s (.bool a1v_Kids), .s (.int .i64 a1v_KidTable), .s (.int .i64 a1v_KidCol)]] _ _
  refine AC.of_run2 tab_ok Try.func18 (by rfl) (by rfl) (by cbv) ⟨by decide, rfl⟩ fun F hP hA => ?_
  have hT : TabOk F.P tab := hP ▸ tab_ok
  have hM : F.P.follows .mixedOrders = true := hP ▸ mixed
  have hC : ∀ {f a o r}, AC Try.prog f a o r → AC F.P f a o r := fun h => hP ▸ h
  refine Run.seq ?_
  refine Run.region hL hT [] (by cbv) ?_ ?_
  · exact hq0
  refine Run.seq ?_
  refine Run.seq ?_
  obtain ⟨r1, h_r1, h⟩ := bnd h
  obtain ⟨r2, h_r2, h⟩ := bnd h
  refine Run.region hL hT [(1, .call [false] [.ag [.jk, .jk, .jk]] [.v (.s (.bool r1))]), (7, .call [false, false] [.ag [.jk], .ag [.jk, .jk, .jk, .jk, .jk, .jk, .jk, .jk, .jk]] [.v (.s (.bool r2))])] (by cbv) ?_ ?_
  · exact (hq trivial (hq (hC (spec_StoreOk_ac h_r1)) (hq (fun _ => hq0) (hq (fun g4 => (hq g4 (hq trivial hq0))) (hq (fun g5 => (hq trivial hq0)) (hq (fun g6 => (hq g6 (hq g6 (hq (hC (spec_QueryOk_ac (gd_t h_r2 g6))) hq0)))) (hq (fun g7 => (hq g7 hq0)) (hq (fun _ => hq0) (hq (fun q9 => (hq (bo_m q9) hq0)) hq0)))))))))
  refine Run.cond (by cbv) (hq0) (fun c10 => ?_) (fun c10 => ?_)
  · have h := if_t c10 h
    refine Run.seq ?_
    refine Run.region hL hT [] (by cbv) ?_ ?_
    · exact (hq trivial hq0)
    refine Run.ret ?_
    cases h
    refine ⟨_, _, by cbv, ?_, ?_⟩
    · exact LLe.r
    · exact (ALe.ag rfl (LLe.c (LLe.cons LLe.nilO (LLe.c (LLe.c (LLe.c (LLe.cons LLe.nilO (LLe.c (LLe.c (LLe.c (LLe.cons LLe.nilO (LLe.cons LLe.nilO LLe.nil))))))))))) (ALe.v LLe.r ALe.nil))
  · have h := if_f c10 h
    refine Run.skip ?_
    refine Run.seq ?_
    obtain ⟨⟨r11v_Table, r11v_Where, r11v_Order, r11v_Down, r11v_First, r11v_Show, r11v_Kids, r11v_KidTable, r11v_KidCol⟩, h_r11, h⟩ := bnd h
    obtain ⟨r12, h_r12, h⟩ := bnd h
    refine Run.draw hL hT hM [(1, .call [false] [.ag [.jk, .jk, .jk, .jk, .jk, .jk, .jk, .jk, .jk]] [.ag [.s (.int .i64 r11v_Table), .ow 94 (eCond_c r11v_Where), .s (.int .i64 r11v_Order), .s (.bool r11v_Down), .s (.int .i64 r11v_First), .ow 3 (eInt_c r11v_Show), .s (.bool r11v_Kids), .s (.int .i64 r11v_KidTable), .s (.int .i64 r11v_KidCol)]]), (4, .call [false, false] [.ag [.jk, .jk, .jk], .ag [.jk, .jk, .jk, .jk, .jk, .jk, .jk, .jk, .jk]] [.v (.ow 66 (eRow_o r12))])] (by cbv) (by cbv) (by cbv) (by cbv) (by cbv) ?_ ?_
    · exact (hq trivial (hq (hC (spec_l9Copy_ac h_r11)) (hq trivial (hq trivial (hq (hC (spec_RowsFor_ac h_r12)) (hq trivial hq0))))))
    refine Run.seq ?_
    obtain ⟨x13, h_x13, h⟩ := bnd h
    refine Run.region hL hT [(4, .el [.im false (eRow_i x13)])] (by cbv) ?_ ?_
    · exact (hq trivial (hq trivial (hq (get_le h_x13) (hq (get_lt (f := RowS_i) h_x13) (hq (get_ge (f := RowS_i) h_x13) hq0)))))
    refine Run.seq ?_
    refine Run.seq ?_
    refine Run.region hL hT [] (by cbv) ?_ ?_
    · exact hq0
    refine Run.block ?_
    refine Run.loop2 (fun (z71 : List Kid) (z72 : Int) => ⟨56, 100000, [(3, .pt 1 0 0), (4, .pt 2 0 0), (6, .pt 3 0 0), (7, .t (.im false (eRow_i x13))), (8, .t (.s (.int .i64 z72)))], [(1, .box 42 [.t (.s (.int .i64 a1v_Table)), .t (.im false (eCond_c a1v_Where)), .t (.s (.int .i64 a1v_Order)), .t (.s (.bool a1v_Down)), .t (.s (.int .i64 a1v_First)), .t (.im false (eInt_c a1v_Show)), .t (.s (.bool a1v_Kids)), .t (.s (.int .i64 a1v_KidTable)), .t (.s (.int .i64 a1v_KidCol))]), (2, .box 53 [.t (.s (.int .i64 0)), .t (.s (.slice none 0 0)), .t (.s (.int .i64 0)), .t (.s (.bool false)), .t (.s (.int .i64 0)), .t (.s (.slice none 0 0)), .t (.s (.bool false)), .t (.s (.int .i64 0)), .t (.s (.int .i64 0)), .t (.s (.slice none 0 0)), .t (.s (.slice none 0 0))]), (3, .box 53 [.t (.s (.int .i64 r11v_Table)), .rf 4, .t (.s (.int .i64 r11v_Order)), .t (.s (.bool r11v_Down)), .t (.s (.int .i64 r11v_First)), .rf 5, .t (.s (.bool r11v_Kids)), .t (.s (.int .i64 r11v_KidTable)), .t (.s (.int .i64 r11v_KidCol)), .rf 6, .rf 7]), (4, .row 0 94 3 (eCond_c r11v_Where)), (5, .row 0 3 1 (eInt_c r11v_Show)), (6, .row 0 66 2 (eRow_o r12)), (7, .row 0 105 2 (eKid_c z71))]⟩) (x0 := []) (x1 := 0) h ((Weak.nilB (l := [.t (.s (.int .i64 r11v_Table)), .rf 8193, .t (.s (.int .i64 r11v_Order)), .t (.s (.bool r11v_Down)), .t (.s (.int .i64 r11v_First)), .rf 8449, .t (.s (.bool r11v_Kids)), .t (.s (.int .i64 r11v_KidTable)), .t (.s (.int .i64 r11v_KidCol)), .rf 8196]) hT 8198 10 21480 105 rfl (by cbv) (by cbv) (by cbv)).trans (Weak.of _ [(1, 1), (2, 2), (3, 8198), (4, 8193), (5, 8449), (6, 8196), (7, 21480)] hA (by cbv) ?_)) (fun _ _ => rfl) ?_
    · repeat (first | exact hq0 | refine hq (by first | exact True.intro | rfl) ?_)
    · intro k z71 z72 h
      rw [spec_ViewOf.l0] at h
      refine Run.seq ?_
      refine Run.seq ?_
      refine Run.region hL hT [] (by cbv) ?_ ?_
      · exact (hq trivial (hq (fun _ => hq0) (hq (fun g74 => (by have g74C := g74; rw [show ln (eRow_i x13) = lenI_Row x13 from ln_eq Row_i _] at g74C; exact (hq g74 (hq trivial hq0)))) (hq (fun q75 => (by have q75C := q75; rw [show ln (eRow_i x13) = lenI_Row x13 from ln_eq Row_i _] at q75C; exact (hq q75 hq0))) (hq (fun _ => hq0) hq0)))))
      rw [show ln (eRow_i x13) = lenI_Row x13 from ln_eq Row_i _]
      refine Run.cond (by cbv) (hq0) (fun c77 => ?_) (fun c77 => ?_)
      · have h := if_t c77 h
        refine Run.skip ?_
        refine Run.seq ?_
        refine Run.block ?_
        obtain ⟨⟨x78v_Id, x78v_Cells⟩, h_x78, h⟩ := bnd h
        obtain ⟨x79, h_x79, h⟩ := bnd h
        obtain ⟨r80, h_r80, h⟩ := bnd h
        refine Run.draw hL hT hM [(4, .el [.s (.int .i64 x78v_Id), .im false (eInt_c x78v_Cells)]), (9, .el [.s (.int .i64 x79)]), (11, .call [false, false, false] [.v (.jk), .v (.jk), .v (.jk)] [.v (.ow 105 (eKid_c r80))])] (by cbv) (by cbv) (by cbv) (by cbv) (by cbv) ?_ ?_
        · exact (hq trivial (hq (get_le h_x78) (hq (get_lt (f := Row_i) h_x78) (hq (get_ge (f := Row_i) h_x78) (hq trivial (hq (get_le h_x79) (hq (get_lt (f := Int_c) h_x79) (hq (get_ge (f := Int_c) h_x79) (hq (hC (AC.args (spec_KidPut_ac h_r80) (ALe.v (LLe.im (RLe.eq (fr_row Kid_c_z _))) (ALe.v LLe.r (ALe.v LLe.r ALe.nil))))) (hq trivial hq0))))))))))
        refine Run.region hL hT [] (by cbv) ?_ ?_
        · exact (hq trivial hq0)
        refine ⟨r80, (ar .add .i64 z72 1), h, Weak.of _ [(1, 1), (2, 2), (3, 3), (4, 4), (5, 5), (6, 6), (7, 104107)] hA (by cbv) ?_⟩
        repeat (first | exact hq0 | refine hq (by first | exact True.intro | rfl) ?_)
      · have h := if_f c77 h
        refine Run.exit ?_
        refine Run.seq ?_
        refine Run.region hL hT [] (by cbv) ?_ ?_
        · exact (hq trivial (hq trivial hq0))
        refine Run.ret ?_
        cases h
        refine ⟨_, _, by cbv, ?_, ?_⟩
        · exact LLe.r
        · exact (ALe.ag rfl LLe.r (ALe.v LLe.r ALe.nil))

set_option maxRecDepth 8000 in
theorem impl_within_ac {a0 : Int} {a1 : Int} {a2 : Int} {r : Bool} (h : impl_within.f a0 a1 a2 = some r) : AC Try.prog 73 [.v (.s (.int .i64 a0)), .v (.s (.int .i64 a1)), .v (.s (.int .i64 a2))] [.v (.jk), .v (.jk), .v (.jk)] [.v (.s (.bool r))] := by
  unfold impl_within.f at h
  let ar := Ls.ar; let cm := Ls.cm; let bo := Ls.bo; let sc := Ls.sc; let sa := Ls.sa; let sx := Ls.sx; let ss := Ls.ss; let sl := Ls.sl; let bs := Ls.bs; let sb := Ls.sb; let ln := Ls.ln; let sr := Ls.sr; let ap := Ls.ap; let up := Ls.up; let rp := Ls.rp; let fr := Ls.fr; let ge := Ls.ge; let le := Ls.le; let lt := Ls.lt; let nz := Ls.nz; let mm := Ls.mm; let ma := Ls.ma; let sm := Ls.sm; let fl := Ls.fl; let al := Ls.al; let ci := Ls.ci
  have hL : (⟨ar, cm, bo, sc, sa, sx, ss, sl, bs, sb, ln, sr, ap, up, rp, fr, ge, le, lt, nz, mm, ma, sm, fl, al, ci⟩ : Lf) = Ls := rfl
  show AC Try.prog 73 [.v (.s (.int .i64 a0)), .v (.s (.int .i64 a1)), .v (.s (.int .i64 a2))] _ _
  refine AC.of_run2 tab_ok Try.func73 (by rfl) (by rfl) (by cbv) ⟨by decide, rfl⟩ fun F hP hA => ?_
  have hT : TabOk F.P tab := hP ▸ tab_ok
  have hM : F.P.follows .mixedOrders = true := hP ▸ mixed
  have hC : ∀ {f a o r}, AC Try.prog f a o r → AC F.P f a o r := fun h => hP ▸ h
  refine Run.seq ?_
  refine Run.region hL hT [] (by cbv) ?_ ?_
  · exact hq0
  refine Run.seq ?_
  refine Run.region hL hT [] (by cbv) ?_ ?_
  · exact (hq trivial (hq (fun _ => hq0) (hq (fun _ => hq0) (hq (fun g3 => (hq g3 (hq g3 (hq trivial hq0)))) (hq (fun q4 => (hq q4 hq0)) (hq (fun _ => hq0) hq0))))))
  refine Run.ret ?_
  cases h
  refine ⟨_, _, by cbv, ?_, ?_⟩
  · exact LLe.r
  · exact (ALe.v LLe.r ALe.nil)

set_option maxRecDepth 8000 in
theorem impl_SchemaOk_ac {a0v_Cols : List Int} {r : Bool} (h : impl_SchemaOk.f (Schema.mk a0v_Cols) = some r) : AC Try.prog 69 [.ag [.im false (rowsOf Int_c a0v_Cols)]] [.ag [.jk]] [.v (.s (.bool r))] := by
  unfold impl_SchemaOk.f at h
  let ar := Ls.ar; let cm := Ls.cm; let bo := Ls.bo; let sc := Ls.sc; let sa := Ls.sa; let sx := Ls.sx; let ss := Ls.ss; let sl := Ls.sl; let bs := Ls.bs; let sb := Ls.sb; let ln := Ls.ln; let sr := Ls.sr; let ap := Ls.ap; let up := Ls.up; let rp := Ls.rp; let fr := Ls.fr; let ge := Ls.ge; let le := Ls.le; let lt := Ls.lt; let nz := Ls.nz; let mm := Ls.mm; let ma := Ls.ma; let sm := Ls.sm; let fl := Ls.fl; let al := Ls.al; let ci := Ls.ci
  let eInt_c := rowsOf Int_c
  let lenI_Int := @lenI Int
  have hL : (⟨ar, cm, bo, sc, sa, sx, ss, sl, bs, sb, ln, sr, ap, up, rp, fr, ge, le, lt, nz, mm, ma, sm, fl, al, ci⟩ : Lf) = Ls := rfl
  show AC Try.prog 69 [.ag [.im false (eInt_c a0v_Cols)]] _ _
  refine AC.of_run2 tab_ok Try.func69 (by rfl) (by rfl) (by cbv) ⟨by decide, rfl⟩ fun F hP hA => ?_
  have hT : TabOk F.P tab := hP ▸ tab_ok
  have hM : F.P.follows .mixedOrders = true := hP ▸ mixed
  have hC : ∀ {f a o r}, AC Try.prog f a o r → AC F.P f a o r := fun h => hP ▸ h
  refine Run.seq ?_
  refine Run.region hL hT [] (by cbv) ?_ ?_
  · exact hq0
  obtain ⟨K2, h_K2, h⟩ := joinE h
  refine Run.join1 K2 (r := r) (fun (y1 : Unit) => ⟨20, 100000, [(1, .pt 1 0 0)], [(1, .box 35 [.t (.im false (eInt_c a0v_Cols))])]⟩) ?_ ?_
  · skip
    refine Run.seq ?_
    refine Run.region hL hT [] (by cbv) ?_ ?_
    · exact (hq trivial hq0)
    rw [show ln (eInt_c a0v_Cols) = lenI_Int a0v_Cols from ln_eq Int_c _]
    refine Run.block ?_
    refine Run.loop1 (fun (z7 : Int) => ⟨20, 100000, [(1, .pt 1 0 0), (6, .t (.im false (eInt_c a0v_Cols))), (7, .t (.s (.int .i64 (lenI_Int a0v_Cols)))), (8, .t (.s (.int .i64 z7)))], [(1, .box 35 [.t (.im false (eInt_c a0v_Cols))])]⟩) (x0 := 0) h (Weak.of _ [(1, 0)] hA (by cbv) ?_) (fun _ => rfl) ?_
    · repeat (first | exact hq0 | refine hq (by first | exact True.intro | rfl) ?_)
    · intro k z7 h
      rw [impl_SchemaOk.l0] at h
      refine Run.seq ?_
      refine Run.region hL hT [] (by cbv) ?_ ?_
      · exact (hq trivial hq0)
      refine Run.seq ?_
      refine Run.cond (by cbv) (hq0) (fun c8 => ?_) (fun c8 => ?_)
      · have h := if_t c8 h
        refine Run.skip ?_
        refine Run.seq ?_
        refine Run.block ?_
        refine Run.seq ?_
        obtain ⟨x9, h_x9, h⟩ := bnd h
        refine Run.region hL hT [(0, .el [.s (.int .i64 x9)])] (by cbv) ?_ ?_
        · exact (hq (get_le h_x9) (hq (get_lt (f := Int_c) h_x9) (hq (get_ge (f := Int_c) h_x9) hq0)))
        refine Run.seq ?_
        obtain ⟨r10, h_r10, h⟩ := bnd h
        refine Run.region hL hT [(1, .call [false, false, false] [.v (.jk), .v (.jk), .v (.jk)] [.v (.s (.bool r10))])] (by cbv) ?_ ?_
        · exact (hq (hC (impl_within_ac h_r10)) hq0)
        refine Run.cond (by cbv) (hq0) (fun c11 => ?_) (fun c11 => ?_)
        · have h := if_t c11 h
          refine Run.seq ?_
          refine Run.region hL hT [] (by cbv) ?_ ?_
          · exact hq0
          refine Run.ret ?_
          cases h
          refine ⟨_, _, by cbv, ?_, ?_⟩
          · exact LLe.r
          · exact (ALe.v LLe.r ALe.nil)
        · have h := if_f c11 h
          refine Run.skip ?_
          refine Run.region hL hT [] (by cbv) ?_ ?_
          · exact (hq trivial hq0)
          refine ⟨(ar .add .i64 z7 1), h, Weak.of _ [(1, 1)] hA (by cbv) ?_⟩
          repeat (first | exact hq0 | refine hq (by first | exact True.intro | rfl) ?_)
      · have h := if_f c8 h
        refine Run.exit ?_
        refine ⟨(), h, Weak.of _ [(1, 1)] hA (by cbv) ?_⟩
        repeat (first | exact hq0 | refine hq (by first | exact True.intro | rfl) ?_)
  · intro y1 h
    rw [h_K2] at h
    refine Run.seq ?_
    obtain ⟨r12, h_r12, h⟩ := bnd h
    refine Run.region hL hT [(3, .call [false, false, false] [.v (.jk), .v (.jk), .v (.jk)] [.v (.s (.bool r12))])] (by cbv) ?_ ?_
    · exact (hq trivial (hq (by rw [show ln (eInt_c a0v_Cols) = lenI_Int a0v_Cols from ln_eq Int_c _]; exact (hC (impl_within_ac h_r12))) hq0))
    rw [show ln (eInt_c a0v_Cols) = lenI_Int a0v_Cols from ln_eq Int_c _]
    refine Run.ret ?_
    cases h
    refine ⟨_, _, by cbv, ?_, ?_⟩
    · exact LLe.r
    · exact (ALe.v LLe.r ALe.nil)

set_option maxRecDepth 8000 in
theorem impl_isVersion_ac {a0 : Int} {r : Bool} (h : impl_isVersion.f a0 = some r) : AC Try.prog 70 [.v (.s (.int .i64 a0))] [.v (.jk)] [.v (.s (.bool r))] := by
  unfold impl_isVersion.f at h
  let ar := Ls.ar; let cm := Ls.cm; let bo := Ls.bo; let sc := Ls.sc; let sa := Ls.sa; let sx := Ls.sx; let ss := Ls.ss; let sl := Ls.sl; let bs := Ls.bs; let sb := Ls.sb; let ln := Ls.ln; let sr := Ls.sr; let ap := Ls.ap; let up := Ls.up; let rp := Ls.rp; let fr := Ls.fr; let ge := Ls.ge; let le := Ls.le; let lt := Ls.lt; let nz := Ls.nz; let mm := Ls.mm; let ma := Ls.ma; let sm := Ls.sm; let fl := Ls.fl; let al := Ls.al; let ci := Ls.ci
  have hL : (⟨ar, cm, bo, sc, sa, sx, ss, sl, bs, sb, ln, sr, ap, up, rp, fr, ge, le, lt, nz, mm, ma, sm, fl, al, ci⟩ : Lf) = Ls := rfl
  show AC Try.prog 70 [.v (.s (.int .i64 a0))] _ _
  refine AC.of_run2 tab_ok Try.func70 (by rfl) (by rfl) (by cbv) ⟨by decide, rfl⟩ fun F hP hA => ?_
  have hT : TabOk F.P tab := hP ▸ tab_ok
  have hM : F.P.follows .mixedOrders = true := hP ▸ mixed
  have hC : ∀ {f a o r}, AC Try.prog f a o r → AC F.P f a o r := fun h => hP ▸ h
  refine Run.seq ?_
  refine Run.region hL hT [] (by cbv) ?_ ?_
  · exact hq0
  refine Run.seq ?_
  obtain ⟨r1, h_r1, h⟩ := bnd h
  refine Run.region hL hT [(1, .call [false, false, false] [.v (.jk), .v (.jk), .v (.jk)] [.v (.s (.bool r1))])] (by cbv) ?_ ?_
  · exact (hq (hC (impl_within_ac h_r1)) hq0)
  refine Run.ret ?_
  cases h
  refine ⟨_, _, by cbv, ?_, ?_⟩
  · exact LLe.r
  · exact (ALe.v LLe.r ALe.nil)

set_option maxRecDepth 8000 in
theorem impl_hasTable_ac {a0v_Cols : List Int} {a1 : Int} {r : Bool} (h : impl_hasTable.f (Schema.mk a0v_Cols) a1 = some r) : AC Try.prog 72 [.ag [.im false (rowsOf Int_c a0v_Cols)], .v (.s (.int .i64 a1))] [.ag [.jk], .v (.jk)] [.v (.s (.bool r))] := by
  unfold impl_hasTable.f at h
  let ar := Ls.ar; let cm := Ls.cm; let bo := Ls.bo; let sc := Ls.sc; let sa := Ls.sa; let sx := Ls.sx; let ss := Ls.ss; let sl := Ls.sl; let bs := Ls.bs; let sb := Ls.sb; let ln := Ls.ln; let sr := Ls.sr; let ap := Ls.ap; let up := Ls.up; let rp := Ls.rp; let fr := Ls.fr; let ge := Ls.ge; let le := Ls.le; let lt := Ls.lt; let nz := Ls.nz; let mm := Ls.mm; let ma := Ls.ma; let sm := Ls.sm; let fl := Ls.fl; let al := Ls.al; let ci := Ls.ci
  let eInt_c := rowsOf Int_c
  let lenI_Int := @lenI Int
  have hL : (⟨ar, cm, bo, sc, sa, sx, ss, sl, bs, sb, ln, sr, ap, up, rp, fr, ge, le, lt, nz, mm, ma, sm, fl, al, ci⟩ : Lf) = Ls := rfl
  show AC Try.prog 72 [.ag [.im false (eInt_c a0v_Cols)], .v (.s (.int .i64 a1))] _ _
  refine AC.of_run2 tab_ok Try.func72 (by rfl) (by rfl) (by cbv) ⟨by decide, rfl⟩ fun F hP hA => ?_
  have hT : TabOk F.P tab := hP ▸ tab_ok
  have hM : F.P.follows .mixedOrders = true := hP ▸ mixed
  have hC : ∀ {f a o r}, AC Try.prog f a o r → AC F.P f a o r := fun h => hP ▸ h
  refine Run.seq ?_
  refine Run.region hL hT [] (by cbv) ?_ ?_
  · exact hq0
  refine Run.seq ?_
  obtain ⟨r1, h_r1, h⟩ := bnd h
  refine Run.region hL hT [(5, .call [false, false, false] [.v (.jk), .v (.jk), .v (.jk)] [.v (.s (.bool r1))])] (by cbv) ?_ ?_
  · exact (hq trivial (hq trivial (hq (by rw [show ln (eInt_c a0v_Cols) = lenI_Int a0v_Cols from ln_eq Int_c _]; exact (hC (impl_within_ac h_r1))) hq0)))
  rw [show ln (eInt_c a0v_Cols) = lenI_Int a0v_Cols from ln_eq Int_c _]
  refine Run.ret ?_
  cases h
  refine ⟨_, _, by cbv, ?_, ?_⟩
  · exact LLe.r
  · exact (ALe.v LLe.r ALe.nil)

set_option maxRecDepth 8000 in
theorem impl_isNum_ac {a0 : Int} {r : Bool} (h : impl_isNum.f a0 = some r) : AC Try.prog 74 [.v (.s (.int .i64 a0))] [.v (.jk)] [.v (.s (.bool r))] := by
  unfold impl_isNum.f at h
  let ar := Ls.ar; let cm := Ls.cm; let bo := Ls.bo; let sc := Ls.sc; let sa := Ls.sa; let sx := Ls.sx; let ss := Ls.ss; let sl := Ls.sl; let bs := Ls.bs; let sb := Ls.sb; let ln := Ls.ln; let sr := Ls.sr; let ap := Ls.ap; let up := Ls.up; let rp := Ls.rp; let fr := Ls.fr; let ge := Ls.ge; let le := Ls.le; let lt := Ls.lt; let nz := Ls.nz; let mm := Ls.mm; let ma := Ls.ma; let sm := Ls.sm; let fl := Ls.fl; let al := Ls.al; let ci := Ls.ci
  have hL : (⟨ar, cm, bo, sc, sa, sx, ss, sl, bs, sb, ln, sr, ap, up, rp, fr, ge, le, lt, nz, mm, ma, sm, fl, al, ci⟩ : Lf) = Ls := rfl
  show AC Try.prog 74 [.v (.s (.int .i64 a0))] _ _
  refine AC.of_run2 tab_ok Try.func74 (by rfl) (by rfl) (by cbv) ⟨by decide, rfl⟩ fun F hP hA => ?_
  have hT : TabOk F.P tab := hP ▸ tab_ok
  have hM : F.P.follows .mixedOrders = true := hP ▸ mixed
  have hC : ∀ {f a o r}, AC Try.prog f a o r → AC F.P f a o r := fun h => hP ▸ h
  refine Run.seq ?_
  refine Run.region hL hT [] (by cbv) ?_ ?_
  · exact hq0
  refine Run.seq ?_
  obtain ⟨r1, h_r1, h⟩ := bnd h
  refine Run.region hL hT [(1, .call [false, false, false] [.v (.jk), .v (.jk), .v (.jk)] [.v (.s (.bool r1))])] (by cbv) ?_ ?_
  · exact (hq (hC (impl_within_ac h_r1)) hq0)
  refine Run.ret ?_
  cases h
  refine ⟨_, _, by cbv, ?_, ?_⟩
  · exact LLe.r
  · exact (ALe.v LLe.r ALe.nil)

set_option maxRecDepth 8000 in
theorem impl_RowOk_ac {a0v_Cols : List Int} {a1 : Int} {a2v_Id : Int} {a2v_Cells : List Int} {r : Bool} (h : impl_RowOk.f (Schema.mk a0v_Cols) a1 (Row.mk a2v_Id a2v_Cells) = some r) : AC Try.prog 89 [.ag [.im false (rowsOf Int_c a0v_Cols)], .v (.s (.int .i64 a1)), .ag [.s (.int .i64 a2v_Id), .im false (rowsOf Int_c a2v_Cells)]] [.ag [.jk], .v (.jk), .ag [.jk, .jk]] [.v (.s (.bool r))] := by
  unfold impl_RowOk.f at h
  let ar := Ls.ar; let cm := Ls.cm; let bo := Ls.bo; let sc := Ls.sc; let sa := Ls.sa; let sx := Ls.sx; let ss := Ls.ss; let sl := Ls.sl; let bs := Ls.bs; let sb := Ls.sb; let ln := Ls.ln; let sr := Ls.sr; let ap := Ls.ap; let up := Ls.up; let rp := Ls.rp; let fr := Ls.fr; let ge := Ls.ge; let le := Ls.le; let lt := Ls.lt; let nz := Ls.nz; let mm := Ls.mm; let ma := Ls.ma; let sm := Ls.sm; let fl := Ls.fl; let al := Ls.al; let ci := Ls.ci
  let eInt_c := rowsOf Int_c
  let lenI_Int := @lenI Int
  have hL : (⟨ar, cm, bo, sc, sa, sx, ss, sl, bs, sb, ln, sr, ap, up, rp, fr, ge, le, lt, nz, mm, ma, sm, fl, al, ci⟩ : Lf) = Ls := rfl
  show AC Try.prog 89 [.ag [.im false (eInt_c a0v_Cols)], .v (.s (.int .i64 a1)), .ag [.s (.int .i64 a2v_Id), .im false (eInt_c a2v_Cells)]] _ _
  refine AC.of_run2 tab_ok Try.func89 (by rfl) (by rfl) (by cbv) ⟨by decide, rfl⟩ fun F hP hA => ?_
  have hT : TabOk F.P tab := hP ▸ tab_ok
  have hM : F.P.follows .mixedOrders = true := hP ▸ mixed
  have hC : ∀ {f a o r}, AC Try.prog f a o r → AC F.P f a o r := fun h => hP ▸ h
  refine Run.seq ?_
  refine Run.region hL hT [] (by cbv) ?_ ?_
  · exact hq0
  obtain ⟨K2, h_K2, h⟩ := joinE h
  refine Run.join1 K2 (r := r) (fun (y1 : Unit) => ⟨43, 100000, [(1, .t (.s (.int .i64 a1))), (3, .pt 1 0 0), (5, .pt 2 0 0)], [(1, .box 35 [.t (.im false (eInt_c a0v_Cols))]), (2, .box 66 [.t (.s (.int .i64 a2v_Id)), .t (.im false (eInt_c a2v_Cells))])]⟩) ?_ ?_
  · skip
    refine Run.seq ?_
    refine Run.region hL hT [] (by cbv) ?_ ?_
    · exact (hq trivial hq0)
    rw [show ln (eInt_c a2v_Cells) = lenI_Int a2v_Cells from ln_eq Int_c _]
    refine Run.block ?_
    refine Run.loop1 (fun (z10 : Int) => ⟨43, 100000, [(1, .t (.s (.int .i64 a1))), (3, .pt 1 0 0), (5, .pt 2 0 0), (10, .t (.im false (eInt_c a2v_Cells))), (11, .t (.s (.int .i64 (lenI_Int a2v_Cells)))), (12, .t (.s (.int .i64 z10)))], [(1, .box 35 [.t (.im false (eInt_c a0v_Cols))]), (2, .box 66 [.t (.s (.int .i64 a2v_Id)), .t (.im false (eInt_c a2v_Cells))])]⟩) (x0 := 0) h (Weak.of _ [(1, 0), (2, 1)] hA (by cbv) ?_) (fun _ => rfl) ?_
    · repeat (first | exact hq0 | refine hq (by first | exact True.intro | rfl) ?_)
    · intro k z10 h
      rw [impl_RowOk.l0] at h
      refine Run.seq ?_
      refine Run.region hL hT [] (by cbv) ?_ ?_
      · exact (hq trivial hq0)
      refine Run.seq ?_
      refine Run.cond (by cbv) (hq0) (fun c11 => ?_) (fun c11 => ?_)
      · have h := if_t c11 h
        refine Run.skip ?_
        refine Run.seq ?_
        refine Run.block ?_
        refine Run.seq ?_
        obtain ⟨x12, h_x12, h⟩ := bnd h
        refine Run.region hL hT [(0, .el [.s (.int .i64 x12)])] (by cbv) ?_ ?_
        · exact (hq (get_le h_x12) (hq (get_lt (f := Int_c) h_x12) (hq (get_ge (f := Int_c) h_x12) hq0)))
        refine Run.seq ?_
        obtain ⟨r13, h_r13, h⟩ := bnd h
        refine Run.region hL hT [(1, .call [false] [.v (.jk)] [.v (.s (.bool r13))])] (by cbv) ?_ ?_
        · exact (hq (hC (impl_isNum_ac h_r13)) hq0)
        refine Run.cond (by cbv) (hq0) (fun c14 => ?_) (fun c14 => ?_)
        · have h := if_t c14 h
          refine Run.seq ?_
          refine Run.region hL hT [] (by cbv) ?_ ?_
          · exact hq0
          refine Run.ret ?_
          cases h
          refine ⟨_, _, by cbv, ?_, ?_⟩
          · exact LLe.r
          · exact (ALe.v LLe.r ALe.nil)
        · have h := if_f c14 h
          refine Run.skip ?_
          refine Run.region hL hT [] (by cbv) ?_ ?_
          · exact (hq trivial hq0)
          refine ⟨(ar .add .i64 z10 1), h, Weak.of _ [(1, 1), (2, 2)] hA (by cbv) ?_⟩
          repeat (first | exact hq0 | refine hq (by first | exact True.intro | rfl) ?_)
      · have h := if_f c11 h
        refine Run.exit ?_
        refine ⟨(), h, Weak.of _ [(1, 1), (2, 2)] hA (by cbv) ?_⟩
        repeat (first | exact hq0 | refine hq (by first | exact True.intro | rfl) ?_)
  · intro y1 h
    rw [h_K2] at h
    refine Run.seq ?_
    obtain ⟨r15, h_r15, h⟩ := bnd h
    obtain ⟨r16, h_r16, h⟩ := bnd h
    obtain ⟨x17, h_x17, h⟩ := bnd h
    obtain ⟨r18, h_r18, h⟩ := bnd h
    refine Run.draw hL hT hM [(1, .call [false] [.ag [.jk]] [.v (.s (.bool r15))]), (5, .call [false, false] [.ag [.jk], .v (.jk)] [.v (.s (.bool r16))]), (14, .el [.s (.int .i64 x17)]), (21, .call [false, false, false] [.v (.jk), .v (.jk), .v (.jk)] [.v (.s (.bool r18))])] (by cbv) (by cbv) (by cbv) (by cbv) (by cbv) ?_ ?_
    · exact (hq trivial (hq (hC (impl_SchemaOk_ac h_r15)) (hq (fun g19 => (hq trivial hq0)) (hq (fun _ => hq0) (hq (fun g21 => (hq g21 (hq g21 (hq (hC (impl_hasTable_ac (gd_t h_r16 g21))) hq0)))) (hq (fun q22 => (hq q22 hq0)) (hq (fun _ => hq0) (hq (fun _ => hq0) (hq (fun g25 => (hq g25 (hq trivial hq0))) (hq (fun g26 => (hq g26 hq0)) (hq (fun _ => hq0) (hq (fun g28 => (hq g28 (hq trivial hq0))) (hq (fun _ => hq0) (hq (fun g30 => (hq g30 (hq g30 (hq (get_le (gd_t h_x17 g30)) (hq (get_lt (f := Int_c) (gd_t h_x17 g30)) (hq (get_ge (f := Int_c) (gd_t h_x17 g30)) hq0)))))) (hq (fun g31 => (hq g31 hq0)) (hq (fun g32 => (hq g32 (hq g32 (hq trivial hq0)))) (hq (fun q33 => (hq q33 hq0)) (hq (fun _ => hq0) (hq (fun _ => hq0) (hq (fun g36 => (by have g36C := g36; rw [show ln (eInt_c a2v_Cells) = lenI_Int a2v_Cells from ln_eq Int_c _] at g36C; exact (hq g36 (hq trivial hq0)))) (hq (fun g37 => (by have g37C := g37; rw [show ln (eInt_c a2v_Cells) = lenI_Int a2v_Cells from ln_eq Int_c _] at g37C; exact (hq g37 (hq (hC (impl_within_ac (gd_t h_r18 g37C))) hq0)))) (hq (fun q38 => (by have q38C := q38; rw [show ln (eInt_c a2v_Cells) = lenI_Int a2v_Cells from ln_eq Int_c _] at q38C; exact (hq q38 hq0))) (hq (fun _ => hq0) hq0)))))))))))))))))))))))
    rw [show ln (eInt_c a2v_Cells) = lenI_Int a2v_Cells from ln_eq Int_c _]
    refine Run.ret ?_
    cases h
    refine ⟨_, _, by cbv, ?_, ?_⟩
    · exact LLe.r
    · exact (ALe.v LLe.r ALe.nil)

set_option maxRecDepth 8000 in
theorem impl_RowsOk_ac {a0v_Cols : List Int} {a1 : Int} {a2 : List Row} {r : Bool} (h : impl_RowsOk.f (Schema.mk a0v_Cols) a1 a2 = some r) : AC Try.prog 71 [.ag [.im false (rowsOf Int_c a0v_Cols)], .v (.s (.int .i64 a1)), .v (.im false (rowsOf Row_i a2))] [.ag [.jk], .v (.jk), .v (.jk)] [.v (.s (.bool r))] := by
  unfold impl_RowsOk.f at h
  let ar := Ls.ar; let cm := Ls.cm; let bo := Ls.bo; let sc := Ls.sc; let sa := Ls.sa; let sx := Ls.sx; let ss := Ls.ss; let sl := Ls.sl; let bs := Ls.bs; let sb := Ls.sb; let ln := Ls.ln; let sr := Ls.sr; let ap := Ls.ap; let up := Ls.up; let rp := Ls.rp; let fr := Ls.fr; let ge := Ls.ge; let le := Ls.le; let lt := Ls.lt; let nz := Ls.nz; let mm := Ls.mm; let ma := Ls.ma; let sm := Ls.sm; let fl := Ls.fl; let al := Ls.al; let ci := Ls.ci
  let eInt_c := rowsOf Int_c
  let eRow_i := rowsOf Row_i
  let lenI_Row := @lenI Row
  have hL : (⟨ar, cm, bo, sc, sa, sx, ss, sl, bs, sb, ln, sr, ap, up, rp, fr, ge, le, lt, nz, mm, ma, sm, fl, al, ci⟩ : Lf) = Ls := rfl
  show AC Try.prog 71 [.ag [.im false (eInt_c a0v_Cols)], .v (.s (.int .i64 a1)), .v (.im false (eRow_i a2))] _ _
  refine AC.of_run2 tab_ok Try.func71 (by rfl) (by rfl) (by cbv) ⟨by decide, rfl⟩ fun F hP hA => ?_
  have hT : TabOk F.P tab := hP ▸ tab_ok
  have hM : F.P.follows .mixedOrders = true := hP ▸ mixed
  have hC : ∀ {f a o r}, AC Try.prog f a o r → AC F.P f a o r := fun h => hP ▸ h
  refine Run.seq ?_
  refine Run.region hL hT [] (by cbv) ?_ ?_
  · exact hq0
  obtain ⟨K2, h_K2, h⟩ := joinE h
  refine Run.join1 K2 (r := r) (fun (y1 : Unit) => ⟨49, 100000, [(1, .t (.s (.int .i64 a1))), (2, .t (.im false (eRow_i a2))), (3, .pt 1 0 0)], [(1, .box 35 [.t (.im false (eInt_c a0v_Cols))])]⟩) ?_ ?_
  · skip
    refine Run.seq ?_
    refine Run.region hL hT [] (by cbv) ?_ ?_
    · exact hq0
    rw [show ln (eRow_i a2) = lenI_Row a2 from ln_eq Row_i _]
    refine Run.block ?_
    refine Run.loop1 (fun (z9 : Int) => ⟨49, 100000, [(1, .t (.s (.int .i64 a1))), (2, .t (.im false (eRow_i a2))), (3, .pt 1 0 0), (9, .t (.im false (eRow_i a2))), (10, .t (.s (.int .i64 (lenI_Row a2)))), (11, .t (.s (.int .i64 z9)))], [(1, .box 35 [.t (.im false (eInt_c a0v_Cols))])]⟩) (x0 := 0) h (Weak.of _ [(1, 0)] hA (by cbv) ?_) (fun _ => rfl) ?_
    · repeat (first | exact hq0 | refine hq (by first | exact True.intro | rfl) ?_)
    · intro k z9 h
      rw [impl_RowsOk.l0] at h
      refine Run.seq ?_
      refine Run.region hL hT [] (by cbv) ?_ ?_
      · exact (hq trivial hq0)
      refine Run.seq ?_
      refine Run.cond (by cbv) (hq0) (fun c10 => ?_) (fun c10 => ?_)
      · have h := if_t c10 h
        refine Run.skip ?_
        refine Run.seq ?_
        refine Run.block ?_
        refine Run.seq ?_
        obtain ⟨⟨x11v_Id, x11v_Cells⟩, h_x11, h⟩ := bnd h
        refine Run.region hL hT [(1, .el [.s (.int .i64 x11v_Id), .im false (eInt_c x11v_Cells)])] (by cbv) ?_ ?_
        · exact (hq (get_le h_x11) (hq (get_lt (f := Row_i) h_x11) (hq (get_ge (f := Row_i) h_x11) (hq trivial hq0))))
        refine Run.seq ?_
        obtain ⟨r12, h_r12, h⟩ := bnd h
        obtain ⟨⟨x13v_Id, x13v_Cells⟩, h_x13, h⟩ := bnd h
        refine Run.draw hL hT hM [(3, .call [false, false, false] [.ag [.jk], .v (.jk), .ag [.jk, .jk]] [.v (.s (.bool r12))]), (12, .el [.s (.int .i64 x13v_Id), .im false (eInt_c x13v_Cells)])] (by cbv) (by cbv) (by cbv) (by cbv) (by cbv) ?_ ?_
        · exact (hq trivial (hq trivial (hq (hC (impl_RowOk_ac h_r12)) (hq (fun _ => hq0) (hq (fun g15 => (hq g15 (hq trivial hq0))) (hq (fun g16 => (hq g16 hq0)) (hq (fun _ => hq0) (hq (fun _ => hq0) (hq (fun g19 => (hq g19 (hq trivial hq0))) (hq (fun g20 => (hq g20 (hq g20 (hq (get_le (gd_t h_x13 g20)) (hq (get_lt (f := Row_i) (gd_t h_x13 g20)) (hq (get_ge (f := Row_i) (gd_t h_x13 g20)) hq0)))))) (hq (fun g21 => (hq g21 hq0)) (hq (fun g22 => (hq g22 hq0)) (hq (fun _ => hq0) (hq (fun g24 => (hq g24 (hq trivial hq0))) (hq (fun g25 => (hq g25 (hq g25 (hq trivial hq0)))) (hq (fun g26 => (hq g26 (hq (fun q27 => (hq (bo_a g26 q27) hq0)) (hq (fun _ => hq0) hq0)))) (hq (fun _ => hq0) (hq (fun q30 => (hq (bo_m q30) hq0)) hq0))))))))))))))))))
        refine Run.cond (by cbv) (hq0) (fun c31 => ?_) (fun c31 => ?_)
        · have h := if_t c31 h
          refine Run.seq ?_
          refine Run.region hL hT [] (by cbv) ?_ ?_
          · exact hq0
          refine Run.ret ?_
          cases h
          refine ⟨_, _, by cbv, ?_, ?_⟩
          · exact LLe.r
          · exact (ALe.v LLe.r ALe.nil)
        · have h := if_f c31 h
          refine Run.skip ?_
          refine Run.region hL hT [] (by cbv) ?_ ?_
          · exact (hq trivial hq0)
          refine ⟨(ar .add .i64 z9 1), h, Weak.of _ [(1, 1)] hA (by cbv) ?_⟩
          repeat (first | exact hq0 | refine hq (by first | exact True.intro | rfl) ?_)
      · have h := if_f c10 h
        refine Run.exit ?_
        refine ⟨(), h, Weak.of _ [(1, 1)] hA (by cbv) ?_⟩
        repeat (first | exact hq0 | refine hq (by first | exact True.intro | rfl) ?_)
  · intro y1 h
    rw [h_K2] at h
    refine Run.seq ?_
    obtain ⟨r32, h_r32, h⟩ := bnd h
    obtain ⟨r33, h_r33, h⟩ := bnd h
    refine Run.region hL hT [(1, .call [false] [.ag [.jk]] [.v (.s (.bool r32))]), (5, .call [false, false] [.ag [.jk], .v (.jk)] [.v (.s (.bool r33))])] (by cbv) ?_ ?_
    · exact (hq trivial (hq (hC (impl_SchemaOk_ac h_r32)) (hq (fun g34 => (hq trivial hq0)) (hq (fun _ => hq0) (hq (fun g36 => (hq g36 (hq g36 (hq (hC (impl_hasTable_ac (gd_t h_r33 g36))) hq0)))) (hq (fun q37 => (hq q37 hq0)) (hq (fun _ => hq0) (hq (fun _ => hq0) (hq (fun g40 => (hq g40 hq0)) (hq (fun g41 => (hq g41 (hq trivial hq0))) (hq (fun q42 => (hq q42 hq0)) (hq (fun _ => hq0) hq0))))))))))))
    rw [show ln (eRow_i a2) = lenI_Row a2 from ln_eq Row_i _]
    refine Run.ret ?_
    cases h
    refine ⟨_, _, by cbv, ?_, ?_⟩
    · exact LLe.r
    · exact (ALe.v LLe.r ALe.nil)

set_option maxRecDepth 8000 in
theorem impl_StoreOk_ac {a0v_Schemav_Cols : List Int} {a0v_Version : Int} {a0v_Tables : List (List Row)} {r : Bool} (h : impl_StoreOk.f (Store.mk (Schema.mk a0v_Schemav_Cols) a0v_Version a0v_Tables) = some r) : AC Try.prog 35 [.ag [.im false (rowsOf Int_c a0v_Schemav_Cols), .s (.int .i64 a0v_Version), .im false (rowsOf RowS_i a0v_Tables)]] [.ag [.jk, .jk, .jk]] [.v (.s (.bool r))] := by
  unfold impl_StoreOk.f at h
  let ar := Ls.ar; let cm := Ls.cm; let bo := Ls.bo; let sc := Ls.sc; let sa := Ls.sa; let sx := Ls.sx; let ss := Ls.ss; let sl := Ls.sl; let bs := Ls.bs; let sb := Ls.sb; let ln := Ls.ln; let sr := Ls.sr; let ap := Ls.ap; let up := Ls.up; let rp := Ls.rp; let fr := Ls.fr; let ge := Ls.ge; let le := Ls.le; let lt := Ls.lt; let nz := Ls.nz; let mm := Ls.mm; let ma := Ls.ma; let sm := Ls.sm; let fl := Ls.fl; let al := Ls.al; let ci := Ls.ci
  let eInt_c := rowsOf Int_c
  let eRowS_i := rowsOf RowS_i
  let eRow_i := rowsOf Row_i
  let lenI_Int := @lenI Int
  let lenI_RowS := @lenI (List Row)
  have hL : (⟨ar, cm, bo, sc, sa, sx, ss, sl, bs, sb, ln, sr, ap, up, rp, fr, ge, le, lt, nz, mm, ma, sm, fl, al, ci⟩ : Lf) = Ls := rfl
  show AC Try.prog 35 [.ag [.im false (eInt_c a0v_Schemav_Cols), .s (.int .i64 a0v_Version), .im false (eRowS_i a0v_Tables)]] _ _
  refine AC.of_run2 tab_ok Try.func35 (by rfl) (by rfl) (by cbv) ⟨by decide, rfl⟩ fun F hP hA => ?_
  have hT : TabOk F.P tab := hP ▸ tab_ok
  have hM : F.P.follows .mixedOrders = true := hP ▸ mixed
  have hC : ∀ {f a o r}, AC Try.prog f a o r → AC F.P f a o r := fun h => hP ▸ h
  refine Run.seq ?_
  refine Run.region hL hT [] (by cbv) ?_ ?_
  · exact hq0
  refine Run.seq ?_
  refine Run.seq ?_
  obtain ⟨r1, h_r1, h⟩ := bnd h
  obtain ⟨r2, h_r2, h⟩ := bnd h
  refine Run.region hL hT [(2, .call [false] [.ag [.jk]] [.v (.s (.bool r1))]), (7, .call [false] [.v (.jk)] [.v (.s (.bool r2))])] (by cbv) ?_ ?_
  · exact (hq trivial (hq (hC (impl_SchemaOk_ac h_r1)) (hq (fun _ => hq0) (hq (fun g4 => (hq g4 (hq trivial hq0))) (hq (fun g5 => (hq g5 (hq (hC (impl_isVersion_ac (gd_t h_r2 g5))) hq0))) (hq (fun g6 => (hq g6 hq0)) (hq (fun _ => hq0) (hq (fun q8 => (hq (bo_m q8) hq0)) (hq (fun _ => hq0) (hq (fun g10 => (hq g10 (hq trivial hq0))) (hq (fun g11 => (hq g11 hq0)) (hq (fun _ => hq0) (hq (fun g13 => (hq g13 hq0)) (hq (fun g14 => (hq g14 (hq trivial hq0))) (hq (fun g15 => (hq g15 hq0)) (hq (fun g16 => (hq g16 (hq g16 (hq trivial hq0)))) (hq (fun _ => hq0) (hq (fun q18 => (hq (bo_m q18) hq0)) hq0))))))))))))))))))
  rw [show ln (eInt_c a0v_Schemav_Cols) = lenI_Int a0v_Schemav_Cols from ln_eq Int_c _]
  rw [show ln (eRowS_i a0v_Tables) = lenI_RowS a0v_Tables from ln_eq RowS_i _]
  refine Run.cond (by cbv) (hq0) (fun c19 => ?_) (fun c19 => ?_)
  · have h := if_t c19 h
    refine Run.seq ?_
    refine Run.region hL hT [] (by cbv) ?_ ?_
    · exact hq0
    refine Run.ret ?_
    cases h
    refine ⟨_, _, by cbv, ?_, ?_⟩
    · exact LLe.r
    · exact (ALe.v LLe.r ALe.nil)
  · have h := if_f c19 h
    refine Run.skip ?_
    refine Run.seq ?_
    refine Run.seq ?_
    refine Run.region hL hT [] (by cbv) ?_ ?_
    · exact (hq trivial hq0)
    rw [show ln (eRowS_i a0v_Tables) = lenI_RowS a0v_Tables from ln_eq RowS_i _]
    refine Run.block ?_
    refine Run.loop1 (fun (z26 : Int) => ⟨40, 100000, [(1, .pt 1 0 0), (26, .t (.im false (eRowS_i a0v_Tables))), (27, .t (.s (.int .i64 (lenI_RowS a0v_Tables)))), (28, .t (.s (.int .i64 z26)))], [(1, .box 38 [.t (.im false (eInt_c a0v_Schemav_Cols)), .t (.s (.int .i64 a0v_Version)), .t (.im false (eRowS_i a0v_Tables))])]⟩) (x0 := 0) h (Weak.of _ [(1, 0)] hA (by cbv) ?_) (fun _ => rfl) ?_
    · repeat (first | exact hq0 | refine hq (by first | exact True.intro | rfl) ?_)
    · intro k z26 h
      rw [impl_StoreOk.l0] at h
      refine Run.seq ?_
      refine Run.region hL hT [] (by cbv) ?_ ?_
      · exact (hq trivial hq0)
      refine Run.seq ?_
      refine Run.cond (by cbv) (hq0) (fun c27 => ?_) (fun c27 => ?_)
      · have h := if_t c27 h
        refine Run.skip ?_
        refine Run.seq ?_
        refine Run.block ?_
        refine Run.seq ?_
        obtain ⟨x28, h_x28, h⟩ := bnd h
        refine Run.region hL hT [(1, .el [.im false (eRow_i x28)])] (by cbv) ?_ ?_
        · exact (hq (get_le h_x28) (hq (get_lt (f := RowS_i) h_x28) (hq (get_ge (f := RowS_i) h_x28) hq0)))
        refine Run.seq ?_
        obtain ⟨r29, h_r29, h⟩ := bnd h
        refine Run.region hL hT [(4, .call [false, false, false] [.ag [.jk], .v (.jk), .v (.jk)] [.v (.s (.bool r29))])] (by cbv) ?_ ?_
        · exact (hq trivial (hq (hC (impl_RowsOk_ac h_r29)) hq0))
        refine Run.cond (by cbv) (hq0) (fun c30 => ?_) (fun c30 => ?_)
        · have h := if_t c30 h
          refine Run.seq ?_
          refine Run.region hL hT [] (by cbv) ?_ ?_
          · exact hq0
          refine Run.ret ?_
          cases h
          refine ⟨_, _, by cbv, ?_, ?_⟩
          · exact LLe.r
          · exact (ALe.v LLe.r ALe.nil)
        · have h := if_f c30 h
          refine Run.skip ?_
          refine Run.region hL hT [] (by cbv) ?_ ?_
          · exact (hq trivial hq0)
          refine ⟨(ar .add .i64 z26 1), h, Weak.of _ [(1, 1)] hA (by cbv) ?_⟩
          repeat (first | exact hq0 | refine hq (by first | exact True.intro | rfl) ?_)
      · have h := if_f c27 h
        refine Run.exit ?_
        refine Run.seq ?_
        refine Run.region hL hT [] (by cbv) ?_ ?_
        · exact hq0
        refine Run.ret ?_
        cases h
        refine ⟨_, _, by cbv, ?_, ?_⟩
        · exact LLe.r
        · exact (ALe.v LLe.r ALe.nil)

set_option maxRecDepth 8000 in
theorem impl_kidsFit_ac {a0v_Cols : List Int} {a1v_Table : Int} {a1v_Where : List Cond} {a1v_Order : Int} {a1v_Down : Bool} {a1v_First : Int} {a1v_Show : List Int} {a1v_Kids : Bool} {a1v_KidTable : Int} {a1v_KidCol : Int} {r : Bool} (h : impl_kidsFit.f (Schema.mk a0v_Cols) (Query.mk a1v_Table a1v_Where a1v_Order a1v_Down a1v_First a1v_Show a1v_Kids a1v_KidTable a1v_KidCol) = some r) : AC Try.prog 75 [.ag [.im false (rowsOf Int_c a0v_Cols)], .ag [.s (.int .i64 a1v_Table), .im false (rowsOf Cond_c a1v_Where), .s (.int .i64 a1v_Order), .s (.bool a1v_Down), .s (.int .i64 a1v_First), .im false (rowsOf Int_c a1v_Show), .s (.bool a1v_Kids), .s (.int .i64 a1v_KidTable), .s (.int .i64 a1v_KidCol)]] [.ag [.jk], .ag [.jk, .jk, .jk, .jk, .jk, .jk, .jk, .jk, .jk]] [.v (.s (.bool r))] := by
  unfold impl_kidsFit.f at h
  let ar := Ls.ar; let cm := Ls.cm; let bo := Ls.bo; let sc := Ls.sc; let sa := Ls.sa; let sx := Ls.sx; let ss := Ls.ss; let sl := Ls.sl; let bs := Ls.bs; let sb := Ls.sb; let ln := Ls.ln; let sr := Ls.sr; let ap := Ls.ap; let up := Ls.up; let rp := Ls.rp; let fr := Ls.fr; let ge := Ls.ge; let le := Ls.le; let lt := Ls.lt; let nz := Ls.nz; let mm := Ls.mm; let ma := Ls.ma; let sm := Ls.sm; let fl := Ls.fl; let al := Ls.al; let ci := Ls.ci
  let eCond_c := rowsOf Cond_c
  let eInt_c := rowsOf Int_c
  have hL : (⟨ar, cm, bo, sc, sa, sx, ss, sl, bs, sb, ln, sr, ap, up, rp, fr, ge, le, lt, nz, mm, ma, sm, fl, al, ci⟩ : Lf) = Ls := rfl
  show AC Try.prog 75 [.ag [.im false (eInt_c a0v_Cols)], .ag [.s (.int .i64 a1v_Table), .im false (eCond_c a1v_Where), .s (.int .i64 a1v_Order), .s (.bool a1v_Down), .s (.int .i64 a1v_First), .im false (eInt_c a1v_Show), .s (.bool a1v_Kids), .s (.int .i64 a1v_KidTable), .s (.int .i64 a1v_KidCol)]] _ _
  refine AC.of_run2 tab_ok Try.func75 (by rfl) (by rfl) (by cbv) ⟨by decide, rfl⟩ fun F hP hA => ?_
  have hT : TabOk F.P tab := hP ▸ tab_ok
  have hM : F.P.follows .mixedOrders = true := hP ▸ mixed
  have hC : ∀ {f a o r}, AC Try.prog f a o r → AC F.P f a o r := fun h => hP ▸ h
  refine Run.seq ?_
  refine Run.region hL hT [] (by cbv) ?_ ?_
  · exact hq0
  refine Run.seq ?_
  refine Run.seq ?_
  refine Run.region hL hT [] (by cbv) ?_ ?_
  · exact (hq trivial hq0)
  refine Run.cond (by cbv) (hq0) (fun c1 => ?_) (fun c1 => ?_)
  · have h := if_t c1 h
    refine Run.seq ?_
    refine Run.region hL hT [] (by cbv) ?_ ?_
    · exact (hq trivial (hq trivial (hq (fun _ => hq0) (hq (fun g3 => (hq g3 (hq trivial hq0))) (hq (fun g4 => (hq g4 (hq trivial hq0))) (hq (fun q5 => (hq q5 hq0)) (hq (fun _ => hq0) hq0)))))))
    refine Run.ret ?_
    cases h
    refine ⟨_, _, by cbv, ?_, ?_⟩
    · exact LLe.r
    · exact (ALe.v LLe.r ALe.nil)
  · have h := if_f c1 h
    refine Run.skip ?_
    refine Run.seq ?_
    obtain ⟨r7, h_r7, h⟩ := bnd h
    obtain ⟨x8, h_x8, h⟩ := bnd h
    obtain ⟨r9, h_r9, h⟩ := bnd h
    refine Run.draw hL hT hM [(3, .call [false, false] [.ag [.jk], .v (.jk)] [.v (.s (.bool r7))]), (11, .el [.s (.int .i64 x8)]), (14, .call [false, false, false] [.v (.jk), .v (.jk), .v (.jk)] [.v (.s (.bool r9))])] (by cbv) (by cbv) (by cbv) (by cbv) (by cbv) ?_ ?_
    · exact (hq trivial (hq trivial (hq (hC (impl_hasTable_ac h_r7)) (hq (fun _ => hq0) (hq (fun g11 => (hq g11 (hq trivial hq0))) (hq (fun _ => hq0) (hq (fun g13 => (hq g13 (hq trivial hq0))) (hq (fun _ => hq0) (hq (fun g15 => (hq g15 (hq trivial hq0))) (hq (fun g16 => (hq g16 (hq g16 (hq (get_le (gd_t h_x8 g16)) (hq (get_lt (f := Int_c) (gd_t h_x8 g16)) (hq (get_ge (f := Int_c) (gd_t h_x8 g16)) hq0)))))) (hq (fun g17 => (hq g17 hq0)) (hq (fun g18 => (hq g18 (hq trivial hq0))) (hq (fun g19 => (hq g19 (hq g19 (hq (hC (impl_within_ac (gd_t h_r9 g19))) hq0)))) (hq (fun q20 => (hq q20 hq0)) (hq (fun _ => hq0) hq0)))))))))))))))
    refine Run.ret ?_
    cases h
    refine ⟨_, _, by cbv, ?_, ?_⟩
    · exact LLe.r
    · exact (ALe.v LLe.r ALe.nil)

set_option maxRecDepth 8000 in
theorem impl_QueryOk_ac {a0v_Cols : List Int} {a1v_Table : Int} {a1v_Where : List Cond} {a1v_Order : Int} {a1v_Down : Bool} {a1v_First : Int} {a1v_Show : List Int} {a1v_Kids : Bool} {a1v_KidTable : Int} {a1v_KidCol : Int} {r : Bool} (h : impl_QueryOk.f (Schema.mk a0v_Cols) (Query.mk a1v_Table a1v_Where a1v_Order a1v_Down a1v_First a1v_Show a1v_Kids a1v_KidTable a1v_KidCol) = some r) : AC Try.prog 36 [.ag [.im false (rowsOf Int_c a0v_Cols)], .ag [.s (.int .i64 a1v_Table), .im false (rowsOf Cond_c a1v_Where), .s (.int .i64 a1v_Order), .s (.bool a1v_Down), .s (.int .i64 a1v_First), .im false (rowsOf Int_c a1v_Show), .s (.bool a1v_Kids), .s (.int .i64 a1v_KidTable), .s (.int .i64 a1v_KidCol)]] [.ag [.jk], .ag [.jk, .jk, .jk, .jk, .jk, .jk, .jk, .jk, .jk]] [.v (.s (.bool r))] := by
  unfold impl_QueryOk.f at h
  let ar := Ls.ar; let cm := Ls.cm; let bo := Ls.bo; let sc := Ls.sc; let sa := Ls.sa; let sx := Ls.sx; let ss := Ls.ss; let sl := Ls.sl; let bs := Ls.bs; let sb := Ls.sb; let ln := Ls.ln; let sr := Ls.sr; let ap := Ls.ap; let up := Ls.up; let rp := Ls.rp; let fr := Ls.fr; let ge := Ls.ge; let le := Ls.le; let lt := Ls.lt; let nz := Ls.nz; let mm := Ls.mm; let ma := Ls.ma; let sm := Ls.sm; let fl := Ls.fl; let al := Ls.al; let ci := Ls.ci
  let eCond_c := rowsOf Cond_c
  let eInt_c := rowsOf Int_c
  let lenI_Cond := @lenI Cond
  let lenI_Int := @lenI Int
  have hL : (⟨ar, cm, bo, sc, sa, sx, ss, sl, bs, sb, ln, sr, ap, up, rp, fr, ge, le, lt, nz, mm, ma, sm, fl, al, ci⟩ : Lf) = Ls := rfl
  show AC Try.prog 36 [.ag [.im false (eInt_c a0v_Cols)], .ag [.s (.int .i64 a1v_Table), .im false (eCond_c a1v_Where), .s (.int .i64 a1v_Order), .s (.bool a1v_Down), .s (.int .i64 a1v_First), .im false (eInt_c a1v_Show), .s (.bool a1v_Kids), .s (.int .i64 a1v_KidTable), .s (.int .i64 a1v_KidCol)]] _ _
  refine AC.of_run2 tab_ok Try.func36 (by rfl) (by rfl) (by cbv) ⟨by decide, rfl⟩ fun F hP hA => ?_
  have hT : TabOk F.P tab := hP ▸ tab_ok
  have hM : F.P.follows .mixedOrders = true := hP ▸ mixed
  have hC : ∀ {f a o r}, AC Try.prog f a o r → AC F.P f a o r := fun h => hP ▸ h
  refine Run.seq ?_
  refine Run.region hL hT [] (by cbv) ?_ ?_
  · exact hq0
  refine Run.seq ?_
  refine Run.seq ?_
  obtain ⟨r1, h_r1, h⟩ := bnd h
  obtain ⟨r2, h_r2, h⟩ := bnd h
  refine Run.region hL hT [(1, .call [false] [.ag [.jk]] [.v (.s (.bool r1))]), (7, .call [false, false] [.ag [.jk], .v (.jk)] [.v (.s (.bool r2))])] (by cbv) ?_ ?_
  · exact (hq trivial (hq (hC (impl_SchemaOk_ac h_r1)) (hq (fun g3 => (hq trivial hq0)) (hq (fun _ => hq0) (hq (fun g5 => (hq g5 (hq trivial hq0))) (hq (fun g6 => (hq g6 (hq g6 (hq (hC (impl_hasTable_ac (gd_t h_r2 g6))) hq0)))) (hq (fun g7 => (hq g7 hq0)) (hq (fun _ => hq0) (hq (fun q9 => (hq (bo_m q9) hq0)) hq0)))))))))
  refine Run.cond (by cbv) (hq0) (fun c10 => ?_) (fun c10 => ?_)
  · have h := if_t c10 h
    refine Run.seq ?_
    refine Run.region hL hT [] (by cbv) ?_ ?_
    · exact hq0
    refine Run.ret ?_
    cases h
    refine ⟨_, _, by cbv, ?_, ?_⟩
    · exact LLe.r
    · exact (ALe.v LLe.r ALe.nil)
  · have h := if_f c10 h
    refine Run.skip ?_
    refine Run.seq ?_
    obtain ⟨x11, h_x11, h⟩ := bnd h
    refine Run.region hL hT [(4, .el [.s (.int .i64 x11)])] (by cbv) ?_ ?_
    · exact (hq trivial (hq trivial (hq (get_le h_x11) (hq (get_lt (f := Int_c) h_x11) (hq (get_ge (f := Int_c) h_x11) hq0)))))
    obtain ⟨K13, h_K13, h⟩ := joinE h
    refine Run.join1 K13 (r := r) (fun (y12 : Unit) => ⟨112, 100000, [(2, .pt 1 0 0), (3, .pt 2 0 0), (5, .t (.s (.int .i64 x11)))], [(1, .box 35 [.t (.im false (eInt_c a0v_Cols))]), (2, .box 42 [.t (.s (.int .i64 a1v_Table)), .t (.im false (eCond_c a1v_Where)), .t (.s (.int .i64 a1v_Order)), .t (.s (.bool a1v_Down)), .t (.s (.int .i64 a1v_First)), .t (.im false (eInt_c a1v_Show)), .t (.s (.bool a1v_Kids)), .t (.s (.int .i64 a1v_KidTable)), .t (.s (.int .i64 a1v_KidCol))])]⟩) ?_ ?_
    · skip
      refine Run.seq ?_
      refine Run.region hL hT [] (by cbv) ?_ ?_
      · exact (hq trivial hq0)
      rw [show ln (eCond_c a1v_Where) = lenI_Cond a1v_Where from ln_eq Cond_c _]
      refine Run.block ?_
      refine Run.loop1 (fun (z28 : Int) => ⟨112, 100000, [(2, .pt 1 0 0), (3, .pt 2 0 0), (5, .t (.s (.int .i64 x11))), (28, .t (.im false (eCond_c a1v_Where))), (29, .t (.s (.int .i64 (lenI_Cond a1v_Where)))), (30, .t (.s (.int .i64 z28)))], [(1, .box 35 [.t (.im false (eInt_c a0v_Cols))]), (2, .box 42 [.t (.s (.int .i64 a1v_Table)), .t (.im false (eCond_c a1v_Where)), .t (.s (.int .i64 a1v_Order)), .t (.s (.bool a1v_Down)), .t (.s (.int .i64 a1v_First)), .t (.im false (eInt_c a1v_Show)), .t (.s (.bool a1v_Kids)), .t (.s (.int .i64 a1v_KidTable)), .t (.s (.int .i64 a1v_KidCol))])]⟩) (x0 := 0) h (Weak.of _ [(1, 0), (2, 1)] hA (by cbv) ?_) (fun _ => rfl) ?_
      · repeat (first | exact hq0 | refine hq (by first | exact True.intro | rfl) ?_)
      · intro k z28 h
        rw [impl_QueryOk.l0] at h
        refine Run.seq ?_
        refine Run.region hL hT [] (by cbv) ?_ ?_
        · exact (hq trivial hq0)
        refine Run.seq ?_
        refine Run.cond (by cbv) (hq0) (fun c29 => ?_) (fun c29 => ?_)
        · have h := if_t c29 h
          refine Run.skip ?_
          refine Run.seq ?_
          refine Run.block ?_
          refine Run.seq ?_
          obtain ⟨⟨x30v_Col, x30v_Op, x30v_V⟩, h_x30, h⟩ := bnd h
          refine Run.region hL hT [(0, .el [.s (.int .i64 x30v_Col), .s (.int .i64 x30v_Op), .s (.int .i64 x30v_V)])] (by cbv) ?_ ?_
          · exact (hq (get_le h_x30) (hq (get_lt (f := Cond_c) h_x30) (hq (get_ge (f := Cond_c) h_x30) (hq trivial hq0))))
          refine Run.seq ?_
          obtain ⟨r31, h_r31, h⟩ := bnd h
          obtain ⟨r32, h_r32, h⟩ := bnd h
          obtain ⟨r33, h_r33, h⟩ := bnd h
          refine Run.region hL hT [(4, .call [false, false, false] [.v (.jk), .v (.jk), .v (.jk)] [.v (.s (.bool r31))]), (9, .call [false, false, false] [.v (.jk), .v (.jk), .v (.jk)] [.v (.s (.bool r32))]), (15, .call [false] [.v (.jk)] [.v (.s (.bool r33))])] (by cbv) ?_ ?_
          · exact (hq trivial (hq trivial (hq (hC (impl_within_ac h_r31)) (hq (fun _ => hq0) (hq (fun g35 => (hq g35 (hq trivial hq0))) (hq (fun g36 => (hq g36 (hq (hC (impl_within_ac (gd_t h_r32 g36))) hq0))) (hq (fun g37 => (hq g37 hq0)) (hq (fun _ => hq0) (hq (fun q39 => (hq (bo_m q39) hq0)) (hq (fun _ => hq0) (hq (fun g41 => (hq g41 (hq trivial hq0))) (hq (fun g42 => (hq g42 (hq (hC (impl_isNum_ac (gd_t h_r33 g42))) hq0))) (hq (fun g43 => (hq g43 hq0)) (hq (fun _ => hq0) (hq (fun q45 => (hq (bo_m q45) hq0)) hq0)))))))))))))))
          refine Run.cond (by cbv) (hq0) (fun c46 => ?_) (fun c46 => ?_)
          · have h := if_t c46 h
            refine Run.seq ?_
            refine Run.region hL hT [] (by cbv) ?_ ?_
            · exact hq0
            refine Run.ret ?_
            cases h
            refine ⟨_, _, by cbv, ?_, ?_⟩
            · exact LLe.r
            · exact (ALe.v LLe.r ALe.nil)
          · have h := if_f c46 h
            refine Run.skip ?_
            refine Run.region hL hT [] (by cbv) ?_ ?_
            · exact (hq trivial hq0)
            refine ⟨(ar .add .i64 z28 1), h, Weak.of _ [(1, 1), (2, 2)] hA (by cbv) ?_⟩
            repeat (first | exact hq0 | refine hq (by first | exact True.intro | rfl) ?_)
        · have h := if_f c29 h
          refine Run.exit ?_
          refine ⟨(), h, Weak.of _ [(1, 1), (2, 2)] hA (by cbv) ?_⟩
          repeat (first | exact hq0 | refine hq (by first | exact True.intro | rfl) ?_)
    · intro y12 h
      rw [h_K13] at h
      obtain ⟨K48, h_K48, h⟩ := joinE h
      refine Run.join1 K48 (r := r) (fun (y47 : Unit) => ⟨112, 100000, [(2, .pt 1 0 0), (3, .pt 2 0 0), (5, .t (.s (.int .i64 x11)))], [(1, .box 35 [.t (.im false (eInt_c a0v_Cols))]), (2, .box 42 [.t (.s (.int .i64 a1v_Table)), .t (.im false (eCond_c a1v_Where)), .t (.s (.int .i64 a1v_Order)), .t (.s (.bool a1v_Down)), .t (.s (.int .i64 a1v_First)), .t (.im false (eInt_c a1v_Show)), .t (.s (.bool a1v_Kids)), .t (.s (.int .i64 a1v_KidTable)), .t (.s (.int .i64 a1v_KidCol))])]⟩) ?_ ?_
      · skip
        refine Run.seq ?_
        refine Run.region hL hT [] (by cbv) ?_ ?_
        · exact (hq trivial hq0)
        rw [show ln (eInt_c a1v_Show) = lenI_Int a1v_Show from ln_eq Int_c _]
        refine Run.block ?_
        refine Run.loop1 (fun (z63 : Int) => ⟨112, 100000, [(2, .pt 1 0 0), (3, .pt 2 0 0), (5, .t (.s (.int .i64 x11))), (54, .t (.im false (eInt_c a1v_Show))), (55, .t (.s (.int .i64 (lenI_Int a1v_Show)))), (56, .t (.s (.int .i64 z63)))], [(1, .box 35 [.t (.im false (eInt_c a0v_Cols))]), (2, .box 42 [.t (.s (.int .i64 a1v_Table)), .t (.im false (eCond_c a1v_Where)), .t (.s (.int .i64 a1v_Order)), .t (.s (.bool a1v_Down)), .t (.s (.int .i64 a1v_First)), .t (.im false (eInt_c a1v_Show)), .t (.s (.bool a1v_Kids)), .t (.s (.int .i64 a1v_KidTable)), .t (.s (.int .i64 a1v_KidCol))])]⟩) (x0 := 0) h (Weak.of _ [(1, 1), (2, 2)] hA (by cbv) ?_) (fun _ => rfl) ?_
        · repeat (first | exact hq0 | refine hq (by first | exact True.intro | rfl) ?_)
        · intro k z63 h
          rw [impl_QueryOk.l1] at h
          refine Run.seq ?_
          refine Run.region hL hT [] (by cbv) ?_ ?_
          · exact (hq trivial hq0)
          refine Run.seq ?_
          refine Run.cond (by cbv) (hq0) (fun c64 => ?_) (fun c64 => ?_)
          · have h := if_t c64 h
            refine Run.skip ?_
            refine Run.seq ?_
            refine Run.block ?_
            refine Run.seq ?_
            obtain ⟨x65, h_x65, h⟩ := bnd h
            refine Run.region hL hT [(1, .el [.s (.int .i64 x65)])] (by cbv) ?_ ?_
            · exact (hq (get_le h_x65) (hq (get_lt (f := Int_c) h_x65) (hq (get_ge (f := Int_c) h_x65) hq0)))
            refine Run.seq ?_
            obtain ⟨r66, h_r66, h⟩ := bnd h
            obtain ⟨x67, h_x67, h⟩ := bnd h
            refine Run.region hL hT [(3, .call [false, false, false] [.v (.jk), .v (.jk), .v (.jk)] [.v (.s (.bool r66))]), (13, .el [.s (.int .i64 x67)])] (by cbv) ?_ ?_
            · exact (hq trivial (hq (hC (impl_within_ac h_r66)) (hq (fun _ => hq0) (hq (fun g69 => (hq g69 (hq trivial hq0))) (hq (fun g70 => (hq g70 hq0)) (hq (fun _ => hq0) (hq (fun g72 => (hq g72 (hq trivial hq0))) (hq (fun _ => hq0) (hq (fun g74 => (hq g74 (hq trivial hq0))) (hq (fun g75 => (hq g75 (hq g75 (hq (get_le (gd_t h_x67 g75)) (hq (get_lt (f := Int_c) (gd_t h_x67 g75)) (hq (get_ge (f := Int_c) (gd_t h_x67 g75)) hq0)))))) (hq (fun g76 => (hq g76 hq0)) (hq (fun _ => hq0) (hq (fun g78 => (hq g78 (hq g78 (hq trivial hq0)))) (hq (fun g79 => (hq g79 (hq (fun q80 => (hq (bo_a g79 q80) hq0)) (hq (fun _ => hq0) hq0)))) (hq (fun _ => hq0) (hq (fun q83 => (hq (bo_m q83) hq0)) hq0))))))))))))))))
            refine Run.cond (by cbv) (hq0) (fun c84 => ?_) (fun c84 => ?_)
            · have h := if_t c84 h
              refine Run.seq ?_
              refine Run.region hL hT [] (by cbv) ?_ ?_
              · exact hq0
              refine Run.ret ?_
              cases h
              refine ⟨_, _, by cbv, ?_, ?_⟩
              · exact LLe.r
              · exact (ALe.v LLe.r ALe.nil)
            · have h := if_f c84 h
              refine Run.skip ?_
              refine Run.region hL hT [] (by cbv) ?_ ?_
              · exact (hq trivial hq0)
              refine ⟨(ar .add .i64 z63 1), h, Weak.of _ [(1, 1), (2, 2)] hA (by cbv) ?_⟩
              repeat (first | exact hq0 | refine hq (by first | exact True.intro | rfl) ?_)
          · have h := if_f c64 h
            refine Run.exit ?_
            refine ⟨(), h, Weak.of _ [(1, 1), (2, 2)] hA (by cbv) ?_⟩
            repeat (first | exact hq0 | refine hq (by first | exact True.intro | rfl) ?_)
      · intro y47 h
        rw [h_K48] at h
        refine Run.seq ?_
        obtain ⟨r85, h_r85, h⟩ := bnd h
        refine Run.region hL hT [(3, .call [false, false, false] [.v (.jk), .v (.jk), .v (.jk)] [.v (.s (.bool r85))])] (by cbv) ?_ ?_
        · exact (hq trivial (hq (hC (impl_within_ac h_r85)) (hq (fun _ => hq0) (hq (fun g87 => (hq g87 (hq trivial hq0))) (hq (fun g88 => (hq g88 hq0)) (hq (fun g89 => (hq g89 hq0)) (hq (fun _ => hq0) (hq (fun g91 => (hq g91 (hq trivial hq0))) (hq (fun g92 => (hq g92 (hq trivial hq0))) (hq (fun g93 => (hq g93 (hq (fun _ => hq0) (hq (fun q95 => (hq (bo_a g93 (bo_m q95)) hq0)) hq0)))) (hq (fun q96 => (hq q96 hq0)) (hq (fun _ => hq0) hq0))))))))))))
        refine Run.seq ?_
        obtain ⟨r98, h_r98, h⟩ := bnd h
        obtain ⟨r99, h_r99, h⟩ := bnd h
        refine Run.region hL hT [(10, .call [false, false, false] [.v (.jk), .v (.jk), .v (.jk)] [.v (.s (.bool r98))]), (15, .call [false, false] [.ag [.jk], .ag [.jk, .jk, .jk, .jk, .jk, .jk, .jk, .jk, .jk]] [.v (.s (.bool r99))])] (by cbv) ?_ ?_
        · exact (hq trivial (hq trivial (hq (fun _ => hq0) (hq (fun q101 => (by have q101C := q101; rw [show ln (eCond_c a1v_Where) = lenI_Cond a1v_Where from ln_eq Cond_c _] at q101C; exact (hq q101 hq0))) (hq (fun _ => hq0) (hq (fun _ => hq0) (hq (fun g104 => (by have g104C := g104; rw [show ln (eCond_c a1v_Where) = lenI_Cond a1v_Where from ln_eq Cond_c _] at g104C; exact (hq g104 (hq trivial hq0)))) (hq (fun g105 => (by have g105C := g105; rw [show ln (eCond_c a1v_Where) = lenI_Cond a1v_Where from ln_eq Cond_c _] at g105C; exact (hq g105 (hq (hC (impl_within_ac (gd_t h_r98 g105C))) hq0)))) (hq (fun q106 => (by have q106C := q106; rw [show ln (eCond_c a1v_Where) = lenI_Cond a1v_Where from ln_eq Cond_c _] at q106C; exact (hq q106 hq0))) (hq (fun _ => hq0) (hq (fun g108 => (by have g108C := g108; rw [show ln (eCond_c a1v_Where) = lenI_Cond a1v_Where from ln_eq Cond_c _] at g108C; exact (hq trivial hq0))) (hq (fun g109 => (by have g109C := g109; rw [show ln (eCond_c a1v_Where) = lenI_Cond a1v_Where from ln_eq Cond_c _] at g109C; exact (hq trivial hq0))) (hq (fun g110 => (by have g110C := g110; rw [show ln (eCond_c a1v_Where) = lenI_Cond a1v_Where from ln_eq Cond_c _] at g110C; exact (hq g110 (hq g110 (hq (hC (impl_kidsFit_ac (gd_t h_r99 g110C))) hq0))))) (hq (fun q111 => (by have q111C := q111; rw [show ln (eCond_c a1v_Where) = lenI_Cond a1v_Where from ln_eq Cond_c _] at q111C; exact (hq q111 hq0))) (hq (fun _ => hq0) hq0)))))))))))))))
        rw [show ln (eCond_c a1v_Where) = lenI_Cond a1v_Where from ln_eq Cond_c _]
        refine Run.ret ?_
        cases h
        refine ⟨_, _, by cbv, ?_, ?_⟩
        · exact LLe.r
        · exact (ALe.v LLe.r ALe.nil)

set_option maxRecDepth 8000 in
theorem impl_holds_ac {a0v_Col : Int} {a0v_Op : Int} {a0v_V : Int} {a1v_Id : Int} {a1v_Cells : List Int} {r : Bool} (h : impl_holds.f (Cond.mk a0v_Col a0v_Op a0v_V) (Row.mk a1v_Id a1v_Cells) = some r) : AC Try.prog 76 [.ag [.s (.int .i64 a0v_Col), .s (.int .i64 a0v_Op), .s (.int .i64 a0v_V)], .ag [.s (.int .i64 a1v_Id), .im false (rowsOf Int_c a1v_Cells)]] [.ag [.jk, .jk, .jk], .ag [.jk, .jk]] [.v (.s (.bool r))] := by
  unfold impl_holds.f at h
  let ar := Ls.ar; let cm := Ls.cm; let bo := Ls.bo; let sc := Ls.sc; let sa := Ls.sa; let sx := Ls.sx; let ss := Ls.ss; let sl := Ls.sl; let bs := Ls.bs; let sb := Ls.sb; let ln := Ls.ln; let sr := Ls.sr; let ap := Ls.ap; let up := Ls.up; let rp := Ls.rp; let fr := Ls.fr; let ge := Ls.ge; let le := Ls.le; let lt := Ls.lt; let nz := Ls.nz; let mm := Ls.mm; let ma := Ls.ma; let sm := Ls.sm; let fl := Ls.fl; let al := Ls.al; let ci := Ls.ci
  let eInt_c := rowsOf Int_c
  let lenI_Int := @lenI Int
  have hL : (⟨ar, cm, bo, sc, sa, sx, ss, sl, bs, sb, ln, sr, ap, up, rp, fr, ge, le, lt, nz, mm, ma, sm, fl, al, ci⟩ : Lf) = Ls := rfl
  show AC Try.prog 76 [.ag [.s (.int .i64 a0v_Col), .s (.int .i64 a0v_Op), .s (.int .i64 a0v_V)], .ag [.s (.int .i64 a1v_Id), .im false (eInt_c a1v_Cells)]] _ _
  refine AC.of_run2 tab_ok Try.func76 (by rfl) (by rfl) (by cbv) ⟨by decide, rfl⟩ fun F hP hA => ?_
  have hT : TabOk F.P tab := hP ▸ tab_ok
  have hM : F.P.follows .mixedOrders = true := hP ▸ mixed
  have hC : ∀ {f a o r}, AC Try.prog f a o r → AC F.P f a o r := fun h => hP ▸ h
  refine Run.seq ?_
  refine Run.region hL hT [] (by cbv) ?_ ?_
  · exact hq0
  refine Run.seq ?_
  refine Run.seq ?_
  obtain ⟨r1, h_r1, h⟩ := bnd h
  refine Run.region hL hT [(6, .call [false, false, false] [.v (.jk), .v (.jk), .v (.jk)] [.v (.s (.bool r1))])] (by cbv) ?_ ?_
  · exact (hq trivial (hq trivial (hq trivial (hq (by rw [show ln (eInt_c a1v_Cells) = lenI_Int a1v_Cells from ln_eq Int_c _]; exact (hC (impl_within_ac h_r1))) hq0))))
  rw [show ln (eInt_c a1v_Cells) = lenI_Int a1v_Cells from ln_eq Int_c _]
  refine Run.cond (by cbv) (hq0) (fun c2 => ?_) (fun c2 => ?_)
  · have h := if_t c2 h
    refine Run.seq ?_
    refine Run.region hL hT [] (by cbv) ?_ ?_
    · exact hq0
    refine Run.ret ?_
    cases h
    refine ⟨_, _, by cbv, ?_, ?_⟩
    · exact LLe.r
    · exact (ALe.v LLe.r ALe.nil)
  · have h := if_f c2 h
    refine Run.skip ?_
    refine Run.seq ?_
    obtain ⟨x3, h_x3, h⟩ := bnd h
    refine Run.region hL hT [(4, .el [.s (.int .i64 x3)])] (by cbv) ?_ ?_
    · exact (hq trivial (hq trivial (hq (get_le h_x3) (hq (get_lt (f := Int_c) h_x3) (hq (get_ge (f := Int_c) h_x3) hq0)))))
    refine Run.seq ?_
    refine Run.seq ?_
    refine Run.region hL hT [] (by cbv) ?_ ?_
    · exact (hq trivial hq0)
    refine Run.block ?_
    refine Run.seq ?_
    refine Run.region hL hT [] (by cbv) ?_ ?_
    · exact (hq trivial hq0)
    refine Run.cond (by cbv) (hq0) (fun c4 => ?_) (fun c4 => ?_)
    · have h := if_t c4 h
      refine Run.seq ?_
      refine Run.region hL hT [] (by cbv) ?_ ?_
      · exact (hq trivial (hq trivial hq0))
      refine Run.ret ?_
      cases h
      refine ⟨_, _, by cbv, ?_, ?_⟩
      · exact LLe.r
      · exact (ALe.v LLe.r ALe.nil)
    · have h := if_f c4 h
      refine Run.seq ?_
      refine Run.region hL hT [] (by cbv) ?_ ?_
      · exact (hq trivial hq0)
      refine Run.cond (by cbv) (hq0) (fun c5 => ?_) (fun c5 => ?_)
      · have h := if_t c5 h
        refine Run.seq ?_
        refine Run.region hL hT [] (by cbv) ?_ ?_
        · exact (hq trivial (hq trivial hq0))
        refine Run.ret ?_
        cases h
        refine ⟨_, _, by cbv, ?_, ?_⟩
        · exact LLe.r
        · exact (ALe.v LLe.r ALe.nil)
      · have h := if_f c5 h
        refine Run.seq ?_
        refine Run.region hL hT [] (by cbv) ?_ ?_
        · exact (hq trivial hq0)
        refine Run.cond (by cbv) (hq0) (fun c6 => ?_) (fun c6 => ?_)
        · have h := if_t c6 h
          refine Run.seq ?_
          refine Run.region hL hT [] (by cbv) ?_ ?_
          · exact (hq trivial (hq trivial hq0))
          refine Run.ret ?_
          cases h
          refine ⟨_, _, by cbv, ?_, ?_⟩
          · exact LLe.r
          · exact (ALe.v LLe.r ALe.nil)
        · have h := if_f c6 h
          refine Run.skip ?_
          refine Run.seq ?_
          refine Run.region hL hT [] (by cbv) ?_ ?_
          · exact (hq trivial (hq trivial (hq (fun _ => hq0) (hq (fun _ => hq0) (hq (fun g9 => (hq g9 (hq trivial hq0))) (hq (fun g10 => (hq g10 (hq g10 (hq trivial hq0)))) (hq (fun q11 => (hq q11 hq0)) (hq (fun _ => hq0) hq0))))))))
          refine Run.ret ?_
          cases h
          refine ⟨_, _, by cbv, ?_, ?_⟩
          · exact LLe.r
          · exact (ALe.v LLe.r ALe.nil)

set_option maxRecDepth 8000 in
theorem impl_Matches_ac {a0v_Table : Int} {a0v_Where : List Cond} {a0v_Order : Int} {a0v_Down : Bool} {a0v_First : Int} {a0v_Show : List Int} {a0v_Kids : Bool} {a0v_KidTable : Int} {a0v_KidCol : Int} {a1v_Id : Int} {a1v_Cells : List Int} {r : Bool} (h : impl_Matches.f (Query.mk a0v_Table a0v_Where a0v_Order a0v_Down a0v_First a0v_Show a0v_Kids a0v_KidTable a0v_KidCol) (Row.mk a1v_Id a1v_Cells) = some r) : AC Try.prog 37 [.ag [.s (.int .i64 a0v_Table), .im false (rowsOf Cond_c a0v_Where), .s (.int .i64 a0v_Order), .s (.bool a0v_Down), .s (.int .i64 a0v_First), .im false (rowsOf Int_c a0v_Show), .s (.bool a0v_Kids), .s (.int .i64 a0v_KidTable), .s (.int .i64 a0v_KidCol)], .ag [.s (.int .i64 a1v_Id), .im false (rowsOf Int_c a1v_Cells)]] [.ag [.jk, .jk, .jk, .jk, .jk, .jk, .jk, .jk, .jk], .ag [.jk, .jk]] [.v (.s (.bool r))] := by
  unfold impl_Matches.f at h
  let ar := Ls.ar; let cm := Ls.cm; let bo := Ls.bo; let sc := Ls.sc; let sa := Ls.sa; let sx := Ls.sx; let ss := Ls.ss; let sl := Ls.sl; let bs := Ls.bs; let sb := Ls.sb; let ln := Ls.ln; let sr := Ls.sr; let ap := Ls.ap; let up := Ls.up; let rp := Ls.rp; let fr := Ls.fr; let ge := Ls.ge; let le := Ls.le; let lt := Ls.lt; let nz := Ls.nz; let mm := Ls.mm; let ma := Ls.ma; let sm := Ls.sm; let fl := Ls.fl; let al := Ls.al; let ci := Ls.ci
  let eCond_c := rowsOf Cond_c
  let eInt_c := rowsOf Int_c
  let lenI_Cond := @lenI Cond
  have hL : (⟨ar, cm, bo, sc, sa, sx, ss, sl, bs, sb, ln, sr, ap, up, rp, fr, ge, le, lt, nz, mm, ma, sm, fl, al, ci⟩ : Lf) = Ls := rfl
  show AC Try.prog 37 [.ag [.s (.int .i64 a0v_Table), .im false (eCond_c a0v_Where), .s (.int .i64 a0v_Order), .s (.bool a0v_Down), .s (.int .i64 a0v_First), .im false (eInt_c a0v_Show), .s (.bool a0v_Kids), .s (.int .i64 a0v_KidTable), .s (.int .i64 a0v_KidCol)], .ag [.s (.int .i64 a1v_Id), .im false (eInt_c a1v_Cells)]] _ _
  refine AC.of_run2 tab_ok Try.func37 (by rfl) (by rfl) (by cbv) ⟨by decide, rfl⟩ fun F hP hA => ?_
  have hT : TabOk F.P tab := hP ▸ tab_ok
  have hM : F.P.follows .mixedOrders = true := hP ▸ mixed
  have hC : ∀ {f a o r}, AC Try.prog f a o r → AC F.P f a o r := fun h => hP ▸ h
  refine Run.seq ?_
  refine Run.region hL hT [] (by cbv) ?_ ?_
  · exact hq0
  refine Run.seq ?_
  refine Run.seq ?_
  refine Run.region hL hT [] (by cbv) ?_ ?_
  · exact (hq trivial hq0)
  rw [show ln (eCond_c a0v_Where) = lenI_Cond a0v_Where from ln_eq Cond_c _]
  refine Run.block ?_
  refine Run.loop1 (fun (z6 : Int) => ⟨19, 100000, [(3, .pt 1 0 0), (8, .t (.im false (eCond_c a0v_Where))), (9, .t (.s (.int .i64 (lenI_Cond a0v_Where)))), (10, .t (.s (.int .i64 z6)))], [(1, .box 66 [.t (.s (.int .i64 a1v_Id)), .t (.im false (eInt_c a1v_Cells))])]⟩) (x0 := 0) h (Weak.of _ [(1, 1)] hA (by cbv) ?_) (fun _ => rfl) ?_
  · repeat (first | exact hq0 | refine hq (by first | exact True.intro | rfl) ?_)
  · intro k z6 h
    rw [impl_Matches.l0] at h
    refine Run.seq ?_
    refine Run.region hL hT [] (by cbv) ?_ ?_
    · exact (hq trivial hq0)
    refine Run.seq ?_
    refine Run.cond (by cbv) (hq0) (fun c7 => ?_) (fun c7 => ?_)
    · have h := if_t c7 h
      refine Run.skip ?_
      refine Run.seq ?_
      refine Run.block ?_
      refine Run.seq ?_
      obtain ⟨⟨x8v_Col, x8v_Op, x8v_V⟩, h_x8, h⟩ := bnd h
      refine Run.region hL hT [(0, .el [.s (.int .i64 x8v_Col), .s (.int .i64 x8v_Op), .s (.int .i64 x8v_V)])] (by cbv) ?_ ?_
      · exact (hq (get_le h_x8) (hq (get_lt (f := Cond_c) h_x8) (hq (get_ge (f := Cond_c) h_x8) (hq trivial hq0))))
      refine Run.seq ?_
      obtain ⟨r9, h_r9, h⟩ := bnd h
      refine Run.region hL hT [(2, .call [false, false] [.ag [.jk, .jk, .jk], .ag [.jk, .jk]] [.v (.s (.bool r9))])] (by cbv) ?_ ?_
      · exact (hq trivial (hq trivial (hq (hC (impl_holds_ac h_r9)) hq0)))
      refine Run.cond (by cbv) (hq0) (fun c10 => ?_) (fun c10 => ?_)
      · have h := if_t c10 h
        refine Run.seq ?_
        refine Run.region hL hT [] (by cbv) ?_ ?_
        · exact hq0
        refine Run.ret ?_
        cases h
        refine ⟨_, _, by cbv, ?_, ?_⟩
        · exact LLe.r
        · exact (ALe.v LLe.r ALe.nil)
      · have h := if_f c10 h
        refine Run.skip ?_
        refine Run.region hL hT [] (by cbv) ?_ ?_
        · exact (hq trivial hq0)
        refine ⟨(ar .add .i64 z6 1), h, Weak.of _ [(1, 1)] hA (by cbv) ?_⟩
        repeat (first | exact hq0 | refine hq (by first | exact True.intro | rfl) ?_)
    · have h := if_f c7 h
      refine Run.exit ?_
      refine Run.seq ?_
      refine Run.region hL hT [] (by cbv) ?_ ?_
      · exact hq0
      refine Run.ret ?_
      cases h
      refine ⟨_, _, by cbv, ?_, ?_⟩
      · exact LLe.r
      · exact (ALe.v LLe.r ALe.nil)

set_option maxRecDepth 8000 in
theorem impl_copyInts_ac {a0 : List Int} {r : (List Int)} (h : impl_copyInts.f a0 = some r) : AC Try.prog 77 [.v (.im false (rowsOf Int_c a0))] [.v (.jk)] [.v (.ow 3 (rowsOf Int_c r))] := by
  unfold impl_copyInts.f at h
  let ar := Ls.ar; let cm := Ls.cm; let bo := Ls.bo; let sc := Ls.sc; let sa := Ls.sa; let sx := Ls.sx; let ss := Ls.ss; let sl := Ls.sl; let bs := Ls.bs; let sb := Ls.sb; let ln := Ls.ln; let sr := Ls.sr; let ap := Ls.ap; let up := Ls.up; let rp := Ls.rp; let fr := Ls.fr; let ge := Ls.ge; let le := Ls.le; let lt := Ls.lt; let nz := Ls.nz; let mm := Ls.mm; let ma := Ls.ma; let sm := Ls.sm; let fl := Ls.fl; let al := Ls.al; let ci := Ls.ci
  let eInt_c := rowsOf Int_c
  have hL : (⟨ar, cm, bo, sc, sa, sx, ss, sl, bs, sb, ln, sr, ap, up, rp, fr, ge, le, lt, nz, mm, ma, sm, fl, al, ci⟩ : Lf) = Ls := rfl
  show AC Try.prog 77 [.v (.im false (eInt_c a0))] _ _
  refine AC.of_run2 tab_ok Try.func77 (by rfl) (by rfl) (by cbv) ⟨by decide, rfl⟩ fun F hP hA => ?_
  have hT : TabOk F.P tab := hP ▸ tab_ok
  have hM : F.P.follows .mixedOrders = true := hP ▸ mixed
  have hC : ∀ {f a o r}, AC Try.prog f a o r → AC F.P f a o r := fun h => hP ▸ h
  refine Run.seq ?_
  refine Run.region hL hT [] (by cbv) ?_ ?_
  · exact hq0
  refine Run.seq ?_
  obtain ⟨l1, h_l1, h⟩ := bnd h
  refine Run.region hL hT [] (by cbv) ?_ ?_
  · exact (hq (fl_row Int_c_f _) (hq (app_mb (P := Try.prog) (f := Int_c) RLe.r RLe.r h_l1) hq0))
  refine Run.row (rows := (ap ([]) ((eInt_c a0)))) 4098 (eInt_c l1) (by cbv) (app_le (f := Int_c) RLe.r RLe.r h_l1) ?_
  refine Run.ret ?_
  cases h
  refine ⟨_, _, by cbv, ?_, ?_⟩
  · exact LLe.r
  · exact (ALe.v LLe.r ALe.nil)

set_option maxRecDepth 8000 in
theorem impl_copyRow_ac {a0v_Id : Int} {a0v_Cells : List Int} {r : Row} (h : impl_copyRow.f (Row.mk a0v_Id a0v_Cells) = some r) : AC Try.prog 38 [.ag [.s (.int .i64 a0v_Id), .im false (rowsOf Int_c a0v_Cells)]] [.ag [.jk, .jk]] [.ag [.s (.int .i64 r.Id), .ow 3 (rowsOf Int_c r.Cells)]] := by
  unfold impl_copyRow.f at h
  let ar := Ls.ar; let cm := Ls.cm; let bo := Ls.bo; let sc := Ls.sc; let sa := Ls.sa; let sx := Ls.sx; let ss := Ls.ss; let sl := Ls.sl; let bs := Ls.bs; let sb := Ls.sb; let ln := Ls.ln; let sr := Ls.sr; let ap := Ls.ap; let up := Ls.up; let rp := Ls.rp; let fr := Ls.fr; let ge := Ls.ge; let le := Ls.le; let lt := Ls.lt; let nz := Ls.nz; let mm := Ls.mm; let ma := Ls.ma; let sm := Ls.sm; let fl := Ls.fl; let al := Ls.al; let ci := Ls.ci
  let eInt_c := rowsOf Int_c
  have hL : (⟨ar, cm, bo, sc, sa, sx, ss, sl, bs, sb, ln, sr, ap, up, rp, fr, ge, le, lt, nz, mm, ma, sm, fl, al, ci⟩ : Lf) = Ls := rfl
  show AC Try.prog 38 [.ag [.s (.int .i64 a0v_Id), .im false (eInt_c a0v_Cells)]] _ _
  refine AC.of_run2 tab_ok Try.func38 (by rfl) (by rfl) (by cbv) ⟨by decide, rfl⟩ fun F hP hA => ?_
  have hT : TabOk F.P tab := hP ▸ tab_ok
  have hM : F.P.follows .mixedOrders = true := hP ▸ mixed
  have hC : ∀ {f a o r}, AC Try.prog f a o r → AC F.P f a o r := fun h => hP ▸ h
  refine Run.seq ?_
  refine Run.region hL hT [] (by cbv) ?_ ?_
  · exact hq0
  refine Run.seq ?_
  obtain ⟨r1, h_r1, h⟩ := bnd h
  refine Run.draw hL hT hM [(4, .call [false] [.v (.jk)] [.v (.ow 3 (eInt_c r1))])] (by cbv) (by cbv) (by cbv) (by cbv) (by cbv) ?_ ?_
  · exact (hq trivial (hq trivial (hq (hC (impl_copyInts_ac h_r1)) (hq trivial hq0))))
  refine Run.ret ?_
  cases h
  refine ⟨_, _, by cbv, ?_, ?_⟩
  · exact LLe.r
  · exact (ALe.ag rfl LLe.r ALe.nil)

set_option maxRecDepth 8000 in
theorem impl_cellOf_ac {a0v_Id : Int} {a0v_Cells : List Int} {a1 : Int} {r : Int} (h : impl_cellOf.f (Row.mk a0v_Id a0v_Cells) a1 = some r) : AC Try.prog 79 [.ag [.s (.int .i64 a0v_Id), .im false (rowsOf Int_c a0v_Cells)], .v (.s (.int .i64 a1))] [.ag [.jk, .jk], .v (.jk)] [.v (.s (.int .i64 r))] := by
  unfold impl_cellOf.f at h
  let ar := Ls.ar; let cm := Ls.cm; let bo := Ls.bo; let sc := Ls.sc; let sa := Ls.sa; let sx := Ls.sx; let ss := Ls.ss; let sl := Ls.sl; let bs := Ls.bs; let sb := Ls.sb; let ln := Ls.ln; let sr := Ls.sr; let ap := Ls.ap; let up := Ls.up; let rp := Ls.rp; let fr := Ls.fr; let ge := Ls.ge; let le := Ls.le; let lt := Ls.lt; let nz := Ls.nz; let mm := Ls.mm; let ma := Ls.ma; let sm := Ls.sm; let fl := Ls.fl; let al := Ls.al; let ci := Ls.ci
  let eInt_c := rowsOf Int_c
  let lenI_Int := @lenI Int
  have hL : (⟨ar, cm, bo, sc, sa, sx, ss, sl, bs, sb, ln, sr, ap, up, rp, fr, ge, le, lt, nz, mm, ma, sm, fl, al, ci⟩ : Lf) = Ls := rfl
  show AC Try.prog 79 [.ag [.s (.int .i64 a0v_Id), .im false (eInt_c a0v_Cells)], .v (.s (.int .i64 a1))] _ _
  refine AC.of_run2 tab_ok Try.func79 (by rfl) (by rfl) (by cbv) ⟨by decide, rfl⟩ fun F hP hA => ?_
  have hT : TabOk F.P tab := hP ▸ tab_ok
  have hM : F.P.follows .mixedOrders = true := hP ▸ mixed
  have hC : ∀ {f a o r}, AC Try.prog f a o r → AC F.P f a o r := fun h => hP ▸ h
  refine Run.seq ?_
  refine Run.region hL hT [] (by cbv) ?_ ?_
  · exact hq0
  refine Run.seq ?_
  refine Run.seq ?_
  obtain ⟨r1, h_r1, h⟩ := bnd h
  refine Run.region hL hT [(5, .call [false, false, false] [.v (.jk), .v (.jk), .v (.jk)] [.v (.s (.bool r1))])] (by cbv) ?_ ?_
  · exact (hq trivial (hq trivial (hq (by rw [show ln (eInt_c a0v_Cells) = lenI_Int a0v_Cells from ln_eq Int_c _]; exact (hC (impl_within_ac h_r1))) hq0)))
  rw [show ln (eInt_c a0v_Cells) = lenI_Int a0v_Cells from ln_eq Int_c _]
  refine Run.cond (by cbv) (hq0) (fun c2 => ?_) (fun c2 => ?_)
  · have h := if_t c2 h
    refine Run.seq ?_
    refine Run.region hL hT [] (by cbv) ?_ ?_
    · exact hq0
    refine Run.ret ?_
    cases h
    refine ⟨_, _, by cbv, ?_, ?_⟩
    · exact LLe.r
    · exact (ALe.v LLe.r ALe.nil)
  · have h := if_f c2 h
    refine Run.skip ?_
    refine Run.seq ?_
    obtain ⟨x3, h_x3, h⟩ := bnd h
    refine Run.region hL hT [(3, .el [.s (.int .i64 x3)])] (by cbv) ?_ ?_
    · exact (hq trivial (hq (get_le h_x3) (hq (get_lt (f := Int_c) h_x3) (hq (get_ge (f := Int_c) h_x3) hq0))))
    refine Run.ret ?_
    cases h
    refine ⟨_, _, by cbv, ?_, ?_⟩
    · exact LLe.r
    · exact (ALe.v LLe.r ALe.nil)

set_option maxRecDepth 8000 in
theorem impl_Ahead_ac {a0v_Table : Int} {a0v_Where : List Cond} {a0v_Order : Int} {a0v_Down : Bool} {a0v_First : Int} {a0v_Show : List Int} {a0v_Kids : Bool} {a0v_KidTable : Int} {a0v_KidCol : Int} {a1v_Id : Int} {a1v_Cells : List Int} {a2v_Id : Int} {a2v_Cells : List Int} {r : Bool} (h : impl_Ahead.f (Query.mk a0v_Table a0v_Where a0v_Order a0v_Down a0v_First a0v_Show a0v_Kids a0v_KidTable a0v_KidCol) (Row.mk a1v_Id a1v_Cells) (Row.mk a2v_Id a2v_Cells) = some r) : AC Try.prog 41 [.ag [.s (.int .i64 a0v_Table), .im false (rowsOf Cond_c a0v_Where), .s (.int .i64 a0v_Order), .s (.bool a0v_Down), .s (.int .i64 a0v_First), .im false (rowsOf Int_c a0v_Show), .s (.bool a0v_Kids), .s (.int .i64 a0v_KidTable), .s (.int .i64 a0v_KidCol)], .ag [.s (.int .i64 a1v_Id), .im false (rowsOf Int_c a1v_Cells)], .ag [.s (.int .i64 a2v_Id), .im false (rowsOf Int_c a2v_Cells)]] [.ag [.jk, .jk, .jk, .jk, .jk, .jk, .jk, .jk, .jk], .ag [.jk, .jk], .ag [.jk, .jk]] [.v (.s (.bool r))] := by
  unfold impl_Ahead.f at h
  let ar := Ls.ar; let cm := Ls.cm; let bo := Ls.bo; let sc := Ls.sc; let sa := Ls.sa; let sx := Ls.sx; let ss := Ls.ss; let sl := Ls.sl; let bs := Ls.bs; let sb := Ls.sb; let ln := Ls.ln; let sr := Ls.sr; let ap := Ls.ap; let up := Ls.up; let rp := Ls.rp; let fr := Ls.fr; let ge := Ls.ge; let le := Ls.le; let lt := Ls.lt; let nz := Ls.nz; let mm := Ls.mm; let ma := Ls.ma; let sm := Ls.sm; let fl := Ls.fl; let al := Ls.al; let ci := Ls.ci
  let eCond_c := rowsOf Cond_c
  let eInt_c := rowsOf Int_c
  have hL : (⟨ar, cm, bo, sc, sa, sx, ss, sl, bs, sb, ln, sr, ap, up, rp, fr, ge, le, lt, nz, mm, ma, sm, fl, al, ci⟩ : Lf) = Ls := rfl
  show AC Try.prog 41 [.ag [.s (.int .i64 a0v_Table), .im false (eCond_c a0v_Where), .s (.int .i64 a0v_Order), .s (.bool a0v_Down), .s (.int .i64 a0v_First), .im false (eInt_c a0v_Show), .s (.bool a0v_Kids), .s (.int .i64 a0v_KidTable), .s (.int .i64 a0v_KidCol)], .ag [.s (.int .i64 a1v_Id), .im false (eInt_c a1v_Cells)], .ag [.s (.int .i64 a2v_Id), .im false (eInt_c a2v_Cells)]] _ _
  refine AC.of_run2 tab_ok Try.func41 (by rfl) (by rfl) (by cbv) ⟨by decide, rfl⟩ fun F hP hA => ?_
  have hT : TabOk F.P tab := hP ▸ tab_ok
  have hM : F.P.follows .mixedOrders = true := hP ▸ mixed
  have hC : ∀ {f a o r}, AC Try.prog f a o r → AC F.P f a o r := fun h => hP ▸ h
  refine Run.seq ?_
  refine Run.region hL hT [] (by cbv) ?_ ?_
  · exact hq0
  refine Run.seq ?_
  refine Run.seq ?_
  refine Run.region hL hT [] (by cbv) ?_ ?_
  · exact (hq trivial (hq trivial hq0))
  refine Run.cond (by cbv) (hq0) (fun c1 => ?_) (fun c1 => ?_)
  · have h := if_t c1 h
    refine Run.seq ?_
    refine Run.region hL hT [] (by cbv) ?_ ?_
    · exact (hq trivial (hq trivial (hq trivial hq0)))
    refine Run.ret ?_
    cases h
    refine ⟨_, _, by cbv, ?_, ?_⟩
    · exact LLe.r
    · exact (ALe.v LLe.r ALe.nil)
  · have h := if_f c1 h
    refine Run.skip ?_
    refine Run.seq ?_
    obtain ⟨r2, h_r2, h⟩ := bnd h
    obtain ⟨r3, h_r3, h⟩ := bnd h
    refine Run.draw hL hT hM [(4, .call [false, false] [.ag [.jk, .jk], .v (.jk)] [.v (.s (.int .i64 r2))]), (9, .call [false, false] [.ag [.jk, .jk], .v (.jk)] [.v (.s (.int .i64 r3))])] (by cbv) (by cbv) (by cbv) (by cbv) (by cbv) ?_ ?_
    · exact (hq trivial (hq trivial (hq trivial (hq (hC (impl_cellOf_ac h_r2)) (hq trivial (hq trivial (hq trivial (hq (hC (impl_cellOf_ac h_r3)) hq0))))))))
    refine Run.seq ?_
    refine Run.block ?_
    refine Run.seq ?_
    refine Run.region hL hT [] (by cbv) ?_ ?_
    · exact (hq trivial hq0)
    refine Run.cond (by cbv) (hq0) (fun c4 => ?_) (fun c4 => ?_)
    · have h := if_t c4 h
      refine Run.seq ?_
      refine Run.region hL hT [] (by cbv) ?_ ?_
      · exact (hq trivial (hq trivial (hq trivial hq0)))
      refine Run.ret ?_
      cases h
      refine ⟨_, _, by cbv, ?_, ?_⟩
      · exact LLe.r
      · exact (ALe.v LLe.r ALe.nil)
    · have h := if_f c4 h
      refine Run.seq ?_
      refine Run.region hL hT [] (by cbv) ?_ ?_
      · exact (hq trivial hq0)
      refine Run.cond (by cbv) (hq0) (fun c5 => ?_) (fun c5 => ?_)
      · have h := if_t c5 h
        refine Run.seq ?_
        refine Run.region hL hT [] (by cbv) ?_ ?_
        · exact (hq trivial hq0)
        refine Run.ret ?_
        cases h
        refine ⟨_, _, by cbv, ?_, ?_⟩
        · exact LLe.r
        · exact (ALe.v LLe.r ALe.nil)
      · have h := if_f c5 h
        refine Run.skip ?_
        refine Run.seq ?_
        refine Run.region hL hT [] (by cbv) ?_ ?_
        · exact (hq trivial hq0)
        refine Run.ret ?_
        cases h
        refine ⟨_, _, by cbv, ?_, ?_⟩
        · exact LLe.r
        · exact (ALe.v LLe.r ALe.nil)

set_option maxRecDepth 8000 in
theorem impl_RowsFor_1_ac {a0v_Id : Int} {a0v_Cells : List Int} {a1v_Id : Int} {a1v_Cells : List Int} {a2v_Table : Int} {a2v_Where : List Cond} {a2v_Order : Int} {a2v_Down : Bool} {a2v_First : Int} {a2v_Show : List Int} {a2v_Kids : Bool} {a2v_KidTable : Int} {a2v_KidCol : Int} {r : Int} (h : impl_RowsFor_1.f (Row.mk a0v_Id a0v_Cells) (Row.mk a1v_Id a1v_Cells) (Query.mk a2v_Table a2v_Where a2v_Order a2v_Down a2v_First a2v_Show a2v_Kids a2v_KidTable a2v_KidCol) = some r) : AC Try.prog 40 [.ag [.s (.int .i64 a0v_Id), .im false (rowsOf Int_c a0v_Cells)], .ag [.s (.int .i64 a1v_Id), .im false (rowsOf Int_c a1v_Cells)], .v (.ip [.s (.int .i64 a2v_Table), .im false (rowsOf Cond_c a2v_Where), .s (.int .i64 a2v_Order), .s (.bool a2v_Down), .s (.int .i64 a2v_First), .im false (rowsOf Int_c a2v_Show), .s (.bool a2v_Kids), .s (.int .i64 a2v_KidTable), .s (.int .i64 a2v_KidCol)])] [.ag [.jk, .jk], .ag [.jk, .jk], .v (.jk)] [.v (.s (.int .i64 r))] := by
  unfold impl_RowsFor_1.f at h
  let ar := Ls.ar; let cm := Ls.cm; let bo := Ls.bo; let sc := Ls.sc; let sa := Ls.sa; let sx := Ls.sx; let ss := Ls.ss; let sl := Ls.sl; let bs := Ls.bs; let sb := Ls.sb; let ln := Ls.ln; let sr := Ls.sr; let ap := Ls.ap; let up := Ls.up; let rp := Ls.rp; let fr := Ls.fr; let ge := Ls.ge; let le := Ls.le; let lt := Ls.lt; let nz := Ls.nz; let mm := Ls.mm; let ma := Ls.ma; let sm := Ls.sm; let fl := Ls.fl; let al := Ls.al; let ci := Ls.ci
  let eCond_c := rowsOf Cond_c
  let eInt_c := rowsOf Int_c
  have hL : (⟨ar, cm, bo, sc, sa, sx, ss, sl, bs, sb, ln, sr, ap, up, rp, fr, ge, le, lt, nz, mm, ma, sm, fl, al, ci⟩ : Lf) = Ls := rfl
  show AC Try.prog 40 [.ag [.s (.int .i64 a0v_Id), .im false (eInt_c a0v_Cells)], .ag [.s (.int .i64 a1v_Id), .im false (eInt_c a1v_Cells)], .v (.ip [.s (.int .i64 a2v_Table), .im false (eCond_c a2v_Where), .s (.int .i64 a2v_Order), .s (.bool a2v_Down), .s (.int .i64 a2v_First), .im false (eInt_c a2v_Show), .s (.bool a2v_Kids), .s (.int .i64 a2v_KidTable), .s (.int .i64 a2v_KidCol)])] _ _
  refine AC.of_run2 tab_ok Try.func40 (by rfl) (by rfl) (by cbv) ⟨by decide, rfl⟩ fun F hP hA => ?_
  have hT : TabOk F.P tab := hP ▸ tab_ok
  have hM : F.P.follows .mixedOrders = true := hP ▸ mixed
  have hC : ∀ {f a o r}, AC Try.prog f a o r → AC F.P f a o r := fun h => hP ▸ h
  refine Run.seq ?_
  refine Run.region hL hT [] (by cbv) ?_ ?_
  · exact hq0
  refine Run.seq ?_
  refine Run.seq ?_
  obtain ⟨r1, h_r1, h⟩ := bnd h
  refine Run.region hL hT [(3, .call [false, false, false] [.ag [.jk, .jk, .jk, .jk, .jk, .jk, .jk, .jk, .jk], .ag [.jk, .jk], .ag [.jk, .jk]] [.v (.s (.bool r1))])] (by cbv) ?_ ?_
  · exact (hq trivial (hq trivial (hq (hC (impl_Ahead_ac h_r1)) hq0)))
  refine Run.cond (by cbv) (hq0) (fun c2 => ?_) (fun c2 => ?_)
  · have h := if_t c2 h
    refine Run.seq ?_
    refine Run.region hL hT [] (by cbv) ?_ ?_
    · exact hq0
    refine Run.ret ?_
    cases h
    refine ⟨_, _, by cbv, ?_, ?_⟩
    · exact LLe.r
    · exact (ALe.v LLe.r ALe.nil)
  · have h := if_f c2 h
    refine Run.skip ?_
    refine Run.seq ?_
    refine Run.region hL hT [] (by cbv) ?_ ?_
    · exact hq0
    refine Run.ret ?_
    cases h
    refine ⟨_, _, by cbv, ?_, ?_⟩
    · exact LLe.r
    · exact (ALe.v LLe.r ALe.nil)


end Go.Proofs.Ytgicjbeaomjdgaa.L
