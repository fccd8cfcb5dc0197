/- The contracts of the program's functions. -/
import Derived.Test.YtbjbfcfekmdfmaaProg
import Derived.Test.YtbjbfcfekmdfmaaFnRecordPutU
import Derived.KernelRfl
namespace Go.Proofs.Ytbjbfcfekmdfmaa.L
open Go Go.Proofs
set_option linter.unusedVariables false
set_option linter.unusedSimpArgs false
def u8_c (x : Int) : List T := [.s (.int .u8 x)]
theorem u8_c_n : ∀ x, (u8_c x).length = 1 := fun _ => rfl
theorem u8_c_f : ∀ x, (u8_c x).length = 1 ∧ ∀ c ∈ u8_c x, ∃ v, c = T.s v := fun x => ⟨rfl, by simp [u8_c]⟩
theorem u8_c_z : ∀ x, fzL (u8_c x) = u8_c x := fun _ => rfl
def Int_c (x : Int) : List T := [.s (.int .i64 x)]
theorem Int_c_n : ∀ x, (Int_c x).length = 1 := fun _ => rfl
theorem Int_c_f : ∀ x, (Int_c x).length = 1 ∧ ∀ c ∈ Int_c x, ∃ v, c = T.s v := fun x => ⟨rfl, by simp [Int_c]⟩
theorem Int_c_z : ∀ x, fzL (Int_c x) = Int_c x := fun _ => rfl
def Row_i (x : Row) : List T := [.s (.int .i64 x.Id), .im false (rowsOf Int_c x.Cells)]
theorem Row_i_n : ∀ x, (Row_i x).length = 2 := fun _ => rfl
def RowS_i (x : (List Row)) : List T := [.im false (rowsOf Row_i x)]
theorem RowS_i_n : ∀ x, (RowS_i x).length = 1 := fun _ => rfl
def Change_i (x : Change) : List T := [.s (.int .i64 x.Table), .s (.bool x.Had), .s (.bool x.Has), .s (.int .i64 x.Old.Id), .im false (rowsOf Int_c x.Old.Cells), .s (.int .i64 x.New.Id), .im false (rowsOf Int_c x.New.Cells)]
theorem Change_i_n : ∀ x, (Change_i x).length = 7 := fun _ => rfl
def ChangeS_i (x : (List Change)) : List T := [.im false (rowsOf Change_i x)]
theorem ChangeS_i_n : ∀ x, (ChangeS_i x).length = 1 := fun _ => rfl
def Row_o (x : Row) : List T := [.s (.int .i64 x.Id), .ow 3 (rowsOf Int_c x.Cells)]
theorem Row_o_n : ∀ x, (Row_o x).length = 2 := fun _ => rfl
theorem Row_o_z : ∀ x, fzL (Row_o x) = Row_i x := by
  intro x
  simp only [Row_o, Row_i, fzL, T.fz, fr_rows Int_c_z]
def RowS_o (x : (List Row)) : List T := [.ow 38 (rowsOf Row_o x)]
theorem RowS_o_n : ∀ x, (RowS_o x).length = 1 := fun _ => rfl
theorem RowS_o_z : ∀ x, fzL (RowS_o x) = RowS_i x := by
  intro x
  simp only [RowS_o, RowS_i, fzL, T.fz, fr_rows Row_o_z]
def Change_o (x : Change) : List T := [.s (.int .i64 x.Table), .s (.bool x.Had), .s (.bool x.Has), .s (.int .i64 x.Old.Id), .ow 3 (rowsOf Int_c x.Old.Cells), .s (.int .i64 x.New.Id), .ow 3 (rowsOf Int_c x.New.Cells)]
theorem Change_o_n : ∀ x, (Change_o x).length = 7 := fun _ => rfl
theorem Change_o_z : ∀ x, fzL (Change_o x) = Change_i x := by
  intro x
  simp only [Change_o, Change_i, fzL, T.fz, fr_rows Int_c_z, fr_rows Int_c_z]
def ChangeS_o (x : (List Change)) : List T := [.ow 40 (rowsOf Change_o x)]
theorem ChangeS_o_n : ∀ x, (ChangeS_o x).length = 1 := fun _ => rfl
theorem ChangeS_o_z : ∀ x, fzL (ChangeS_o x) = ChangeS_i x := by
  intro x
  simp only [ChangeS_o, ChangeS_i, fzL, T.fz, fr_rows Change_o_z]
def Mut_i (x : Mut) : List T := [.s (.int .i64 x.Kind), .s (.int .i64 x.Table), .s (.int .i64 x.Row.Id), .im false (rowsOf Int_c x.Row.Cells)]
theorem Mut_i_n : ∀ x, (Mut_i x).length = 4 := fun _ => rfl
def Mut_o (x : Mut) : List T := [.s (.int .i64 x.Kind), .s (.int .i64 x.Table), .s (.int .i64 x.Row.Id), .ow 3 (rowsOf Int_c x.Row.Cells)]
theorem Mut_o_n : ∀ x, (Mut_o x).length = 4 := fun _ => rfl
theorem Mut_o_z : ∀ x, fzL (Mut_o x) = Mut_i x := by
  intro x
  simp only [Mut_o, Mut_i, fzL, T.fz, fr_rows Int_c_z]
def Change_k (x : Change) : List T := [.s (.int .i64 x.Table), .s (.bool x.Had), .s (.bool x.Has), .s (.int .i64 x.Old.Id), .im true (rowsOf Int_c x.Old.Cells), .s (.int .i64 x.New.Id), .im true (rowsOf Int_c x.New.Cells)]
theorem Change_k_n : ∀ x, (Change_k x).length = 7 := fun _ => rfl
theorem Change_k_z : ∀ x, fzL (Change_k x) = Change_i x := fun _ => rfl
theorem Change_o_kp : ∀ x, kpL (Change_o x) = Change_k x := by
  intro x
  simp only [Change_o, Change_k, kpL, List.map_cons, List.map_nil, kpT, fr_rows Int_c_z, fr_rows Int_c_z]
def tab : List (Nat × Ty) := [(3, Ty.mk false 1 8 0 [] [.int .i64 0] (some .i64) false false false false none),
  (4, Ty.mk false 1 1 0 [] [.bool false] (none) true false false false none),
  (5, Ty.mk false 1 1 0 [] [.int .u8 0] (some .u8) false false false false none),
  (22, Ty.mk false 1 24 5 [] [.slice none 0 0] (none) false false true false none),
  (24, Ty.mk false 1 24 3 [] [.slice none 0 0] (none) false false true false none),
  (26, Ty.mk true 1 24 0 [(0, 1)] [.slice none 0 0] (none) false false false false none),
  (27, Ty.mk false 1 24 72 [] [.slice none 0 0] (none) false false true false none),
  (29, Ty.mk true 3 56 0 [(0, 1), (1, 1), (2, 1)] [.slice none 0 0, .int .i64 0, .slice none 0 0] (none) false false false false none),
  (30, Ty.mk false 1 24 40 [] [.slice none 0 0] (none) false false true false none),
  (38, Ty.mk true 2 32 0 [(0, 1), (1, 1)] [.int .i64 0, .slice none 0 0] (none) false false false false none),
  (40, Ty.mk true 7 80 0 [(0, 1), (1, 1), (2, 1), (3, 2), (5, 2)] [.int .i64 0, .bool false, .bool false, .int .i64 0, .slice none 0 0, .int .i64 0, .slice none 0 0] (none) false false false false none),
  (47, Ty.mk false 1 24 30 [] [.slice none 0 0] (none) false false true false none),
  (49, Ty.mk true 4 80 0 [(0, 3), (3, 1)] [.slice none 0 0, .int .i64 0, .slice none 0 0, .slice none 0 0] (none) false false false false none),
  (62, Ty.mk false 1 8 0 [] [.pointer none] (none) false false false false none),
  (72, Ty.mk false 1 24 38 [] [.slice none 0 0] (none) false false true false none),
  (78, Ty.mk true 4 48 0 [(0, 1), (1, 1), (2, 2)] [.int .i64 0, .int .i64 0, .int .i64 0, .slice none 0 0] (none) false false false false none),
  (88, Ty.mk true 3 40 0 [(0, 1), (1, 1), (2, 1)] [.slice none 0 0, .int .i64 0, .int .i64 0] (none) false false false false none),
  (94, Ty.mk false 1 24 78 [] [.slice none 0 0] (none) false false true false none)]
theorem tab_ok : TabOk Try.prog tab := TabOk.of (l := [(3, false), (4, false), (5, false), (22, false), (24, false), (26, false), (27, false), (29, false), (30, false), (38, false), (40, false), (47, false), (49, false), (62, false), (72, false), (78, false), (88, false), (94, false)]) (by kernel_rfl)
theorem mixed : Try.prog.follows .mixedOrders = true := by rfl

set_option maxRecDepth 8000 in
theorem laws_sameInts_ac {a0 : List Int} {a1 : List Int} {r : Bool} (h : laws_sameInts.f a0 a1 = some r) : AC Try.prog 45 [.v (.im false (rowsOf Int_c a0)), .v (.im false (rowsOf Int_c a1))] [.v (.jk), .v (.jk)] [.v (.s (.bool r))] := by
  unfold laws_sameInts.f at h
  let ar := Ls.ar; let cm := Ls.cm; let bo := Ls.bo; let sc := Ls.sc; let sa := Ls.sa; let sx := Ls.sx; let ss := Ls.ss; let sl := Ls.sl; let bs := Ls.bs; let sb := Ls.sb; let ln := Ls.ln; let sr := Ls.sr; let ap := Ls.ap; let up := Ls.up; let rp := Ls.rp; let fr := Ls.fr; let ge := Ls.ge; let le := Ls.le; let lt := Ls.lt; let nz := Ls.nz; let mm := Ls.mm; let ma := Ls.ma; let sm := Ls.sm; let fl := Ls.fl; let al := Ls.al; let ci := Ls.ci
  let eInt_c := rowsOf Int_c
  let lenI_Int := @lenI Int
  have hL : (⟨ar, cm, bo, sc, sa, sx, ss, sl, bs, sb, ln, sr, ap, up, rp, fr, ge, le, lt, nz, mm, ma, sm, fl, al, ci⟩ : Lf) = Ls := rfl
  show AC Try.prog 45 [.v (.im false (eInt_c a0)), .v (.im false (eInt_c a1))] _ _
  refine AC.of_run2 tab_ok Try.func45 (by rfl) (by rfl) (by cbv) ⟨by decide, rfl⟩ fun F hP hA => ?_
  have hT : TabOk F.P tab := hP ▸ tab_ok
  have hM : F.P.follows .mixedOrders = true := hP ▸ mixed
  have hC : ∀ {f a o r}, AC Try.prog f a o r → AC F.P f a o r := fun h => hP ▸ h
  refine Run.seq ?_
  refine Run.region hL hT [] (by cbv) ?_ ?_
  · exact hq0
  refine Run.seq ?_
  refine Run.seq ?_
  refine Run.region hL hT [] (by cbv) ?_ ?_
  · exact (hq trivial hq0)
  rw [show ln (eInt_c a0) = lenI_Int a0 from ln_eq Int_c _]
  rw [show ln (eInt_c a1) = lenI_Int a1 from ln_eq Int_c _]
  refine Run.cond (by cbv) (hq0) (fun c1 => ?_) (fun c1 => ?_)
  · have h := if_t c1 h
    refine Run.seq ?_
    refine Run.region hL hT [] (by cbv) ?_ ?_
    · exact hq0
    refine Run.ret ?_
    cases h
    refine ⟨_, _, by cbv, ?_, ?_⟩
    · exact LLe.r
    · exact (ALe.v LLe.r ALe.nil)
  · have h := if_f c1 h
    refine Run.skip ?_
    refine Run.seq ?_
    refine Run.seq ?_
    refine Run.region hL hT [] (by cbv) ?_ ?_
    · exact hq0
    refine Run.block ?_
    refine Run.loop1 (fun (z5 : Int) => ⟨26, 100000, [(0, .t (.im false (eInt_c a0))), (1, .t (.im false (eInt_c a1))), (5, .t (.s (.int .i64 z5)))], []⟩) (x0 := 0) h (Weak.of _ [] hA (by cbv) ?_) (fun _ => rfl) ?_
    · repeat (first | exact hq0 | refine hq (by first | exact True.intro | rfl) ?_)
    · intro k z5 h
      rw [laws_sameInts.l0] at h
      refine Run.seq ?_
      refine Run.seq ?_
      refine Run.region hL hT [] (by cbv) ?_ ?_
      · exact (hq trivial hq0)
      rw [show ln (eInt_c a0) = lenI_Int a0 from ln_eq Int_c _]
      refine Run.cond (by cbv) (hq0) (fun c6 => ?_) (fun c6 => ?_)
      · have h := if_t c6 h
        refine Run.skip ?_
        refine Run.seq ?_
        refine Run.block ?_
        refine Run.seq ?_
        obtain ⟨x7, h_x7, h⟩ := bnd h
        obtain ⟨x8, h_x8, h⟩ := bnd h
        refine Run.draw hL hT hM [(2, .el [.s (.int .i64 x7)]), (6, .el [.s (.int .i64 x8)])] (by cbv) (by cbv) (by cbv) (by cbv) (by cbv) ?_ ?_
        · exact (hq (get_le h_x7) (hq (get_lt (f := Int_c) h_x7) (hq (get_ge (f := Int_c) h_x7) (hq (get_le h_x8) (hq (get_lt (f := Int_c) h_x8) (hq (get_ge (f := Int_c) h_x8) (hq trivial hq0)))))))
        refine Run.cond (by cbv) (hq0) (fun c9 => ?_) (fun c9 => ?_)
        · have h := if_t c9 h
          refine Run.seq ?_
          refine Run.region hL hT [] (by cbv) ?_ ?_
          · exact hq0
          refine Run.ret ?_
          cases h
          refine ⟨_, _, by cbv, ?_, ?_⟩
          · exact LLe.r
          · exact (ALe.v LLe.r ALe.nil)
        · have h := if_f c9 h
          refine Run.skip ?_
          refine Run.region hL hT [] (by cbv) ?_ ?_
          · exact (hq trivial hq0)
          refine ⟨(ar .add .i64 z5 1), h, Weak.of _ [] hA (by cbv) ?_⟩
          repeat (first | exact hq0 | refine hq (by first | exact True.intro | rfl) ?_)
      · have h := if_f c6 h
        refine Run.exit ?_
        refine Run.seq ?_
        refine Run.region hL hT [] (by cbv) ?_ ?_
        · exact hq0
        refine Run.ret ?_
        cases h
        refine ⟨_, _, by cbv, ?_, ?_⟩
        · exact LLe.r
        · exact (ALe.v LLe.r ALe.nil)

set_option maxRecDepth 8000 in
theorem laws_sameStore_ac {a0v_Schemav_Cols : List Int} {a0v_Version : Int} {a0v_Tables : List (List Row)} {a1v_Schemav_Cols : List Int} {a1v_Version : Int} {a1v_Tables : List (List Row)} {r : Bool} (h : laws_sameStore.f (Store.mk (Schema.mk a0v_Schemav_Cols) a0v_Version a0v_Tables) (Store.mk (Schema.mk a1v_Schemav_Cols) a1v_Version a1v_Tables) = some r) : AC Try.prog 11 [.ag [.im false (rowsOf Int_c a0v_Schemav_Cols), .s (.int .i64 a0v_Version), .im false (rowsOf RowS_i a0v_Tables)], .ag [.im false (rowsOf Int_c a1v_Schemav_Cols), .s (.int .i64 a1v_Version), .im false (rowsOf RowS_i a1v_Tables)]] [.ag [.jk, .jk, .jk], .ag [.jk, .jk, .jk]] [.v (.s (.bool r))] := by
  unfold laws_sameStore.f at h
  let ar := Ls.ar; let cm := Ls.cm; let bo := Ls.bo; let sc := Ls.sc; let sa := Ls.sa; let sx := Ls.sx; let ss := Ls.ss; let sl := Ls.sl; let bs := Ls.bs; let sb := Ls.sb; let ln := Ls.ln; let sr := Ls.sr; let ap := Ls.ap; let up := Ls.up; let rp := Ls.rp; let fr := Ls.fr; let ge := Ls.ge; let le := Ls.le; let lt := Ls.lt; let nz := Ls.nz; let mm := Ls.mm; let ma := Ls.ma; let sm := Ls.sm; let fl := Ls.fl; let al := Ls.al; let ci := Ls.ci
  let eInt_c := rowsOf Int_c
  let eRowS_i := rowsOf RowS_i
  let eRow_i := rowsOf Row_i
  let lenI_Row := @lenI Row
  let lenI_RowS := @lenI (List Row)
  have hL : (⟨ar, cm, bo, sc, sa, sx, ss, sl, bs, sb, ln, sr, ap, up, rp, fr, ge, le, lt, nz, mm, ma, sm, fl, al, ci⟩ : Lf) = Ls := rfl
  show AC Try.prog 11 [.ag [.im false (eInt_c a0v_Schemav_Cols), .s (.int .i64 a0v_Version), .im false (eRowS_i a0v_Tables)], .ag [.im false (eInt_c a1v_Schemav_Cols), .s (.int .i64 a1v_Version), .im false (eRowS_i a1v_Tables)]] _ _
  refine AC.of_run2 tab_ok Try.func11 (by rfl) (by rfl) (by cbv) ⟨by decide, rfl⟩ fun F hP hA => ?_
  have hT : TabOk F.P tab := hP ▸ tab_ok
  have hM : F.P.follows .mixedOrders = true := hP ▸ mixed
  have hC : ∀ {f a o r}, AC Try.prog f a o r → AC F.P f a o r := fun h => hP ▸ h
  refine Run.seq ?_
  refine Run.region hL hT [] (by cbv) ?_ ?_
  · exact hq0
  refine Run.seq ?_
  refine Run.seq ?_
  obtain ⟨r1, h_r1, h⟩ := bnd h
  refine Run.region hL hT [(21, .call [false, false] [.v (.jk), .v (.jk)] [.v (.s (.bool r1))])] (by cbv) ?_ ?_
  · exact (hq trivial (hq trivial (hq trivial (hq (fun _ => hq0) (hq (fun g3 => (hq g3 (hq trivial hq0))) (hq (fun g4 => (hq g4 hq0)) (hq (fun _ => hq0) (hq (fun g6 => (hq g6 (hq trivial hq0))) (hq (fun g7 => (hq g7 hq0)) (hq (fun g8 => (hq g8 (hq g8 (hq trivial hq0)))) (hq (fun _ => hq0) (hq (fun q10 => (hq (bo_m q10) hq0)) (hq (fun _ => hq0) (hq (fun g12 => (by have g12C := g12; rw [show ln (eRowS_i a0v_Tables) = lenI_RowS a0v_Tables from ln_eq RowS_i _, show ln (eRowS_i a1v_Tables) = lenI_RowS a1v_Tables from ln_eq RowS_i _] at g12C; exact (hq g12 hq0))) (hq (fun g13 => (by have g13C := g13; rw [show ln (eRowS_i a0v_Tables) = lenI_RowS a0v_Tables from ln_eq RowS_i _, show ln (eRowS_i a1v_Tables) = lenI_RowS a1v_Tables from ln_eq RowS_i _] at g13C; exact (hq g13 (hq trivial hq0)))) (hq (fun _ => hq0) (hq (fun g15 => (by have g15C := g15; rw [show ln (eRowS_i a0v_Tables) = lenI_RowS a0v_Tables from ln_eq RowS_i _, show ln (eRowS_i a1v_Tables) = lenI_RowS a1v_Tables from ln_eq RowS_i _] at g15C; exact (hq g15 hq0))) (hq (fun g16 => (by have g16C := g16; rw [show ln (eRowS_i a0v_Tables) = lenI_RowS a0v_Tables from ln_eq RowS_i _, show ln (eRowS_i a1v_Tables) = lenI_RowS a1v_Tables from ln_eq RowS_i _] at g16C; exact (hq g16 (hq trivial hq0)))) (hq (fun g17 => (by have g17C := g17; rw [show ln (eRowS_i a0v_Tables) = lenI_RowS a0v_Tables from ln_eq RowS_i _, show ln (eRowS_i a1v_Tables) = lenI_RowS a1v_Tables from ln_eq RowS_i _] at g17C; exact (hq g17 (hq g17 (hq (hC (laws_sameInts_ac (gd_t h_r1 g17C))) hq0))))) (hq (fun g18 => (by have g18C := g18; rw [show ln (eRowS_i a0v_Tables) = lenI_RowS a0v_Tables from ln_eq RowS_i _, show ln (eRowS_i a1v_Tables) = lenI_RowS a1v_Tables from ln_eq RowS_i _] at g18C; exact (hq g18 hq0))) (hq (fun _ => hq0) (hq (fun q20 => (by have q20C := q20; rw [show ln (eRowS_i a0v_Tables) = lenI_RowS a0v_Tables from ln_eq RowS_i _, show ln (eRowS_i a1v_Tables) = lenI_RowS a1v_Tables from ln_eq RowS_i _] at q20C; exact (hq (bo_m q20) hq0))) hq0))))))))))))))))))))))
  rw [show ln (eRowS_i a0v_Tables) = lenI_RowS a0v_Tables from ln_eq RowS_i _]
  rw [show ln (eRowS_i a1v_Tables) = lenI_RowS a1v_Tables from ln_eq RowS_i _]
  refine Run.cond (by cbv) (hq0) (fun c21 => ?_) (fun c21 => ?_)
  · have h := if_t c21 h
    refine Run.seq ?_
    refine Run.region hL hT [] (by cbv) ?_ ?_
    · exact hq0
    refine Run.ret ?_
    cases h
    refine ⟨_, _, by cbv, ?_, ?_⟩
    · exact LLe.r
    · exact (ALe.v LLe.r ALe.nil)
  · have h := if_f c21 h
    refine Run.skip ?_
    refine Run.seq ?_
    refine Run.seq ?_
    refine Run.region hL hT [] (by cbv) ?_ ?_
    · exact hq0
    refine Run.block ?_
    refine Run.loop1 (fun (z29 : Int) => ⟨102, 100000, [(2, .pt 1 0 0), (3, .pt 2 0 0), (5, .t (.s (.int .i64 z29)))], [(1, .box 29 [.t (.im false (eInt_c a0v_Schemav_Cols)), .t (.s (.int .i64 a0v_Version)), .t (.im false (eRowS_i a0v_Tables))]), (2, .box 29 [.t (.im false (eInt_c a1v_Schemav_Cols)), .t (.s (.int .i64 a1v_Version)), .t (.im false (eRowS_i a1v_Tables))])]⟩) (x0 := 0) h (Weak.of _ [(1, 0), (2, 1)] hA (by cbv) ?_) (fun _ => rfl) ?_
    · repeat (first | exact hq0 | refine hq (by first | exact True.intro | rfl) ?_)
    · intro k z29 h
      rw [laws_sameStore.l0] at h
      refine Run.seq ?_
      refine Run.seq ?_
      refine Run.region hL hT [] (by cbv) ?_ ?_
      · exact (hq trivial (hq trivial hq0))
      rw [show ln (eRowS_i a0v_Tables) = lenI_RowS a0v_Tables from ln_eq RowS_i _]
      refine Run.cond (by cbv) (hq0) (fun c30 => ?_) (fun c30 => ?_)
      · have h := if_t c30 h
        refine Run.skip ?_
        obtain ⟨K32, h_K32, h⟩ := joinE h
        refine Run.join1 K32 (r := r) (fun (y31 : Unit) => ⟨102, 100000, [(2, .pt 1 0 0), (3, .pt 2 0 0), (5, .t (.s (.int .i64 z29)))], [(1, .box 29 [.t (.im false (eInt_c a0v_Schemav_Cols)), .t (.s (.int .i64 a0v_Version)), .t (.im false (eRowS_i a0v_Tables))]), (2, .box 29 [.t (.im false (eInt_c a1v_Schemav_Cols)), .t (.s (.int .i64 a1v_Version)), .t (.im false (eRowS_i a1v_Tables))])]⟩) ?_ ?_
        · skip
          refine Run.block ?_
          refine Run.seq ?_
          refine Run.seq ?_
          obtain ⟨x33, h_x33, h⟩ := bnd h
          obtain ⟨x34, h_x34, h⟩ := bnd h
          refine Run.draw hL hT hM [(3, .el [.im false (eRow_i x33)]), (9, .el [.im false (eRow_i x34)])] (by cbv) (by cbv) (by cbv) (by cbv) (by cbv) ?_ ?_
          · exact (hq trivial (hq (get_le h_x33) (hq (get_lt (f := RowS_i) h_x33) (hq (get_ge (f := RowS_i) h_x33) (hq trivial (hq (get_le h_x34) (hq (get_lt (f := RowS_i) h_x34) (hq (get_ge (f := RowS_i) h_x34) (hq trivial hq0)))))))))
          rw [show ln (eRow_i x33) = lenI_Row x33 from ln_eq Row_i _]
          rw [show ln (eRow_i x34) = lenI_Row x34 from ln_eq Row_i _]
          refine Run.cond (by cbv) (hq0) (fun c35 => ?_) (fun c35 => ?_)
          · have h := if_t c35 h
            refine Run.seq ?_
            refine Run.region hL hT [] (by cbv) ?_ ?_
            · exact hq0
            refine Run.ret ?_
            cases h
            refine ⟨_, _, by cbv, ?_, ?_⟩
            · exact LLe.r
            · exact (ALe.v LLe.r ALe.nil)
          · have h := if_f c35 h
            refine Run.skip ?_
            refine Run.seq ?_
            refine Run.region hL hT [] (by cbv) ?_ ?_
            · exact hq0
            refine Run.block ?_
            refine Run.loop1 (fun (z44 : Int) => ⟨102, 100000, [(2, .pt 1 0 0), (3, .pt 2 0 0), (5, .t (.s (.int .i64 z29))), (6, .t (.s (.int .i64 z44)))], [(1, .box 29 [.t (.im false (eInt_c a0v_Schemav_Cols)), .t (.s (.int .i64 a0v_Version)), .t (.im false (eRowS_i a0v_Tables))]), (2, .box 29 [.t (.im false (eInt_c a1v_Schemav_Cols)), .t (.s (.int .i64 a1v_Version)), .t (.im false (eRowS_i a1v_Tables))])]⟩) (x0 := 0) h (Weak.of _ [(1, 1), (2, 2)] hA (by cbv) ?_) (fun _ => rfl) ?_
            · repeat (first | exact hq0 | refine hq (by first | exact True.intro | rfl) ?_)
            · intro k z44 h
              rw [laws_sameStore.l1] at h
              refine Run.seq ?_
              refine Run.seq ?_
              obtain ⟨x45, h_x45, h⟩ := bnd h
              refine Run.region hL hT [(4, .el [.im false (eRow_i x45)])] (by cbv) ?_ ?_
              · exact (hq trivial (hq (get_le h_x45) (hq (get_lt (f := RowS_i) h_x45) (hq (get_ge (f := RowS_i) h_x45) (hq trivial hq0)))))
              rw [show ln (eRow_i x45) = lenI_Row x45 from ln_eq Row_i _]
              refine Run.cond (by cbv) (hq0) (fun c46 => ?_) (fun c46 => ?_)
              · have h := if_t c46 h
                refine Run.skip ?_
                refine Run.seq ?_
                refine Run.block ?_
                refine Run.seq ?_
                obtain ⟨⟨x47v_Id, x47v_Cells⟩, h_x47, h⟩ := bnd h
                obtain ⟨x48, h_x48, h⟩ := bnd h
                obtain ⟨⟨x49v_Id, x49v_Cells⟩, h_x49, h⟩ := bnd h
                obtain ⟨r50, h_r50, h⟩ := bnd h
                refine Run.draw hL hT hM [(3, .el [.im false (eRow_i x45)]), (6, .el [.s (.int .i64 x47v_Id), .im false (eInt_c x47v_Cells)]), (12, .el [.im false (eRow_i x48)]), (15, .el [.s (.int .i64 x49v_Id), .im false (eInt_c x49v_Cells)]), (23, .el [.im false (eRow_i x45)]), (26, .el [.s (.int .i64 x47v_Id), .im false (eInt_c x47v_Cells)]), (32, .el [.im false (eRow_i x48)]), (35, .el [.s (.int .i64 x49v_Id), .im false (eInt_c x49v_Cells)]), (38, .call [false, false] [.v (.jk), .v (.jk)] [.v (.s (.bool r50))])] (by cbv) (by cbv) (by cbv) (by cbv) (by cbv) ?_ ?_
                · exact (hq trivial (hq (get_le h_x45) (hq (get_lt (f := RowS_i) h_x45) (hq (get_ge (f := RowS_i) h_x45) (hq (get_le h_x47) (hq (get_lt (f := Row_i) h_x47) (hq (get_ge (f := Row_i) h_x47) (hq trivial (hq (get_le h_x48) (hq (get_lt (f := RowS_i) h_x48) (hq (get_ge (f := RowS_i) h_x48) (hq (get_le h_x49) (hq (get_lt (f := Row_i) h_x49) (hq (get_ge (f := Row_i) h_x49) (hq trivial (hq (fun _ => hq0) (hq (fun g52 => (hq g52 (hq trivial hq0))) (hq (fun _ => hq0) (hq (fun g54 => (hq g54 (hq g54 (hq (get_le h_x45) (hq (get_lt (f := RowS_i) h_x45) (hq (get_ge (f := RowS_i) h_x45) hq0)))))) (hq (fun g55 => (hq g55 hq0)) (hq (fun _ => hq0) (hq (fun g57 => (hq g57 (hq g57 (hq (get_le h_x47) (hq (get_lt (f := Row_i) h_x47) (hq (get_ge (f := Row_i) h_x47) hq0)))))) (hq (fun g58 => (hq g58 hq0)) (hq (fun g59 => (hq g59 hq0)) (hq (fun _ => hq0) (hq (fun g61 => (hq g61 (hq trivial hq0))) (hq (fun _ => hq0) (hq (fun g63 => (hq g63 (hq g63 (hq (get_le h_x48) (hq (get_lt (f := RowS_i) h_x48) (hq (get_ge (f := RowS_i) h_x48) hq0)))))) (hq (fun g64 => (hq g64 hq0)) (hq (fun _ => hq0) (hq (fun g66 => (hq g66 (hq g66 (hq (get_le h_x49) (hq (get_lt (f := Row_i) h_x49) (hq (get_ge (f := Row_i) h_x49) hq0)))))) (hq (fun g67 => (hq g67 hq0)) (hq (fun g68 => (hq g68 hq0)) (hq (fun g69 => (hq g69 (hq g69 (hq (hC (laws_sameInts_ac (gd_t h_r50 g69))) hq0)))) (hq (fun g70 => (hq g70 hq0)) (hq (fun _ => hq0) (hq (fun q72 => (hq (bo_m q72) hq0)) hq0)))))))))))))))))))))))))))))))))))))
                refine Run.cond (by cbv) (hq0) (fun c73 => ?_) (fun c73 => ?_)
                · have h := if_t c73 h
                  refine Run.seq ?_
                  refine Run.region hL hT [] (by cbv) ?_ ?_
                  · exact hq0
                  refine Run.ret ?_
                  cases h
                  refine ⟨_, _, by cbv, ?_, ?_⟩
                  · exact LLe.r
                  · exact (ALe.v LLe.r ALe.nil)
                · have h := if_f c73 h
                  refine Run.skip ?_
                  refine Run.region hL hT [] (by cbv) ?_ ?_
                  · exact (hq trivial hq0)
                  refine ⟨(ar .add .i64 z44 1), h, Weak.of _ [(1, 1), (2, 2)] hA (by cbv) ?_⟩
                  repeat (first | exact hq0 | refine hq (by first | exact True.intro | rfl) ?_)
              · have h := if_f c46 h
                refine Run.exit ?_
                refine ⟨(), h, Weak.of _ [(1, 1), (2, 2)] hA (by cbv) ?_⟩
                repeat (first | exact hq0 | refine hq (by first | exact True.intro | rfl) ?_)
        · intro y31 h
          rw [h_K32] at h
          refine Run.region hL hT [] (by cbv) ?_ ?_
          · exact (hq trivial hq0)
          refine ⟨(ar .add .i64 z29 1), h, Weak.of _ [(1, 1), (2, 2)] hA (by cbv) ?_⟩
          repeat (first | exact hq0 | refine hq (by first | exact True.intro | rfl) ?_)
      · have h := if_f c30 h
        refine Run.exit ?_
        refine Run.seq ?_
        refine Run.region hL hT [] (by cbv) ?_ ?_
        · exact hq0
        refine Run.ret ?_
        cases h
        refine ⟨_, _, by cbv, ?_, ?_⟩
        · exact LLe.r
        · exact (ALe.v LLe.r ALe.nil)

set_option maxRecDepth 8000 in
theorem impl_within_ac {a0 : Int} {a1 : Int} {a2 : Int} {r : Bool} (h : impl_within.f a0 a1 a2 = some r) : AC Try.prog 37 [.v (.s (.int .i64 a0)), .v (.s (.int .i64 a1)), .v (.s (.int .i64 a2))] [.v (.jk), .v (.jk), .v (.jk)] [.v (.s (.bool r))] := by
  unfold impl_within.f at h
  let ar := Ls.ar; let cm := Ls.cm; let bo := Ls.bo; let sc := Ls.sc; let sa := Ls.sa; let sx := Ls.sx; let ss := Ls.ss; let sl := Ls.sl; let bs := Ls.bs; let sb := Ls.sb; let ln := Ls.ln; let sr := Ls.sr; let ap := Ls.ap; let up := Ls.up; let rp := Ls.rp; let fr := Ls.fr; let ge := Ls.ge; let le := Ls.le; let lt := Ls.lt; let nz := Ls.nz; let mm := Ls.mm; let ma := Ls.ma; let sm := Ls.sm; let fl := Ls.fl; let al := Ls.al; let ci := Ls.ci
  have hL : (⟨ar, cm, bo, sc, sa, sx, ss, sl, bs, sb, ln, sr, ap, up, rp, fr, ge, le, lt, nz, mm, ma, sm, fl, al, ci⟩ : Lf) = Ls := rfl
  show AC Try.prog 37 [.v (.s (.int .i64 a0)), .v (.s (.int .i64 a1)), .v (.s (.int .i64 a2))] _ _
  refine AC.of_run2 tab_ok Try.func37 (by rfl) (by rfl) (by cbv) ⟨by decide, rfl⟩ fun F hP hA => ?_
  have hT : TabOk F.P tab := hP ▸ tab_ok
  have hM : F.P.follows .mixedOrders = true := hP ▸ mixed
  have hC : ∀ {f a o r}, AC Try.prog f a o r → AC F.P f a o r := fun h => hP ▸ h
  refine Run.seq ?_
  refine Run.region hL hT [] (by cbv) ?_ ?_
  · exact hq0
  refine Run.seq ?_
  refine Run.region hL hT [] (by cbv) ?_ ?_
  · exact (hq trivial (hq (fun _ => hq0) (hq (fun _ => hq0) (hq (fun g3 => (hq g3 (hq g3 (hq trivial hq0)))) (hq (fun q4 => (hq q4 hq0)) (hq (fun _ => hq0) hq0))))))
  refine Run.ret ?_
  cases h
  refine ⟨_, _, by cbv, ?_, ?_⟩
  · exact LLe.r
  · exact (ALe.v LLe.r ALe.nil)

set_option maxRecDepth 8000 in
theorem impl_SchemaOk_ac {a0v_Cols : List Int} {r : Bool} (h : impl_SchemaOk.f (Schema.mk a0v_Cols) = some r) : AC Try.prog 46 [.ag [.im false (rowsOf Int_c a0v_Cols)]] [.ag [.jk]] [.v (.s (.bool r))] := by
  unfold impl_SchemaOk.f at h
  let ar := Ls.ar; let cm := Ls.cm; let bo := Ls.bo; let sc := Ls.sc; let sa := Ls.sa; let sx := Ls.sx; let ss := Ls.ss; let sl := Ls.sl; let bs := Ls.bs; let sb := Ls.sb; let ln := Ls.ln; let sr := Ls.sr; let ap := Ls.ap; let up := Ls.up; let rp := Ls.rp; let fr := Ls.fr; let ge := Ls.ge; let le := Ls.le; let lt := Ls.lt; let nz := Ls.nz; let mm := Ls.mm; let ma := Ls.ma; let sm := Ls.sm; let fl := Ls.fl; let al := Ls.al; let ci := Ls.ci
  let eInt_c := rowsOf Int_c
  let lenI_Int := @lenI Int
  have hL : (⟨ar, cm, bo, sc, sa, sx, ss, sl, bs, sb, ln, sr, ap, up, rp, fr, ge, le, lt, nz, mm, ma, sm, fl, al, ci⟩ : Lf) = Ls := rfl
  show AC Try.prog 46 [.ag [.im false (eInt_c a0v_Cols)]] _ _
  refine AC.of_run2 tab_ok Try.func46 (by rfl) (by rfl) (by cbv) ⟨by decide, rfl⟩ fun F hP hA => ?_
  have hT : TabOk F.P tab := hP ▸ tab_ok
  have hM : F.P.follows .mixedOrders = true := hP ▸ mixed
  have hC : ∀ {f a o r}, AC Try.prog f a o r → AC F.P f a o r := fun h => hP ▸ h
  refine Run.seq ?_
  refine Run.region hL hT [] (by cbv) ?_ ?_
  · exact hq0
  obtain ⟨K2, h_K2, h⟩ := joinE h
  refine Run.join1 K2 (r := r) (fun (y1 : Unit) => ⟨20, 100000, [(1, .pt 1 0 0)], [(1, .box 26 [.t (.im false (eInt_c a0v_Cols))])]⟩) ?_ ?_
  · skip
    refine Run.seq ?_
    refine Run.region hL hT [] (by cbv) ?_ ?_
    · exact (hq trivial hq0)
    rw [show ln (eInt_c a0v_Cols) = lenI_Int a0v_Cols from ln_eq Int_c _]
    refine Run.block ?_
    refine Run.loop1 (fun (z7 : Int) => ⟨20, 100000, [(1, .pt 1 0 0), (6, .t (.im false (eInt_c a0v_Cols))), (7, .t (.s (.int .i64 (lenI_Int a0v_Cols)))), (8, .t (.s (.int .i64 z7)))], [(1, .box 26 [.t (.im false (eInt_c a0v_Cols))])]⟩) (x0 := 0) h (Weak.of _ [(1, 0)] hA (by cbv) ?_) (fun _ => rfl) ?_
    · repeat (first | exact hq0 | refine hq (by first | exact True.intro | rfl) ?_)
    · intro k z7 h
      rw [impl_SchemaOk.l0] at h
      refine Run.seq ?_
      refine Run.region hL hT [] (by cbv) ?_ ?_
      · exact (hq trivial hq0)
      refine Run.seq ?_
      refine Run.cond (by cbv) (hq0) (fun c8 => ?_) (fun c8 => ?_)
      · have h := if_t c8 h
        refine Run.skip ?_
        refine Run.seq ?_
        refine Run.block ?_
        refine Run.seq ?_
        obtain ⟨x9, h_x9, h⟩ := bnd h
        refine Run.region hL hT [(0, .el [.s (.int .i64 x9)])] (by cbv) ?_ ?_
        · exact (hq (get_le h_x9) (hq (get_lt (f := Int_c) h_x9) (hq (get_ge (f := Int_c) h_x9) hq0)))
        refine Run.seq ?_
        obtain ⟨r10, h_r10, h⟩ := bnd h
        refine Run.region hL hT [(1, .call [false, false, false] [.v (.jk), .v (.jk), .v (.jk)] [.v (.s (.bool r10))])] (by cbv) ?_ ?_
        · exact (hq (hC (impl_within_ac h_r10)) hq0)
        refine Run.cond (by cbv) (hq0) (fun c11 => ?_) (fun c11 => ?_)
        · have h := if_t c11 h
          refine Run.seq ?_
          refine Run.region hL hT [] (by cbv) ?_ ?_
          · exact hq0
          refine Run.ret ?_
          cases h
          refine ⟨_, _, by cbv, ?_, ?_⟩
          · exact LLe.r
          · exact (ALe.v LLe.r ALe.nil)
        · have h := if_f c11 h
          refine Run.skip ?_
          refine Run.region hL hT [] (by cbv) ?_ ?_
          · exact (hq trivial hq0)
          refine ⟨(ar .add .i64 z7 1), h, Weak.of _ [(1, 1)] hA (by cbv) ?_⟩
          repeat (first | exact hq0 | refine hq (by first | exact True.intro | rfl) ?_)
      · have h := if_f c8 h
        refine Run.exit ?_
        refine ⟨(), h, Weak.of _ [(1, 1)] hA (by cbv) ?_⟩
        repeat (first | exact hq0 | refine hq (by first | exact True.intro | rfl) ?_)
  · intro y1 h
    rw [h_K2] at h
    refine Run.seq ?_
    obtain ⟨r12, h_r12, h⟩ := bnd h
    refine Run.region hL hT [(3, .call [false, false, false] [.v (.jk), .v (.jk), .v (.jk)] [.v (.s (.bool r12))])] (by cbv) ?_ ?_
    · exact (hq trivial (hq (by rw [show ln (eInt_c a0v_Cols) = lenI_Int a0v_Cols from ln_eq Int_c _]; exact (hC (impl_within_ac h_r12))) hq0))
    rw [show ln (eInt_c a0v_Cols) = lenI_Int a0v_Cols from ln_eq Int_c _]
    refine Run.ret ?_
    cases h
    refine ⟨_, _, by cbv, ?_, ?_⟩
    · exact LLe.r
    · exact (ALe.v LLe.r ALe.nil)

set_option maxRecDepth 8000 in
theorem impl_isVersion_ac {a0 : Int} {r : Bool} (h : impl_isVersion.f a0 = some r) : AC Try.prog 47 [.v (.s (.int .i64 a0))] [.v (.jk)] [.v (.s (.bool r))] := by
  unfold impl_isVersion.f at h
  let ar := Ls.ar; let cm := Ls.cm; let bo := Ls.bo; let sc := Ls.sc; let sa := Ls.sa; let sx := Ls.sx; let ss := Ls.ss; let sl := Ls.sl; let bs := Ls.bs; let sb := Ls.sb; let ln := Ls.ln; let sr := Ls.sr; let ap := Ls.ap; let up := Ls.up; let rp := Ls.rp; let fr := Ls.fr; let ge := Ls.ge; let le := Ls.le; let lt := Ls.lt; let nz := Ls.nz; let mm := Ls.mm; let ma := Ls.ma; let sm := Ls.sm; let fl := Ls.fl; let al := Ls.al; let ci := Ls.ci
  have hL : (⟨ar, cm, bo, sc, sa, sx, ss, sl, bs, sb, ln, sr, ap, up, rp, fr, ge, le, lt, nz, mm, ma, sm, fl, al, ci⟩ : Lf) = Ls := rfl
  show AC Try.prog 47 [.v (.s (.int .i64 a0))] _ _
  refine AC.of_run2 tab_ok Try.func47 (by rfl) (by rfl) (by cbv) ⟨by decide, rfl⟩ fun F hP hA => ?_
  have hT : TabOk F.P tab := hP ▸ tab_ok
  have hM : F.P.follows .mixedOrders = true := hP ▸ mixed
  have hC : ∀ {f a o r}, AC Try.prog f a o r → AC F.P f a o r := fun h => hP ▸ h
  refine Run.seq ?_
  refine Run.region hL hT [] (by cbv) ?_ ?_
  · exact hq0
  refine Run.seq ?_
  obtain ⟨r1, h_r1, h⟩ := bnd h
  refine Run.region hL hT [(1, .call [false, false, false] [.v (.jk), .v (.jk), .v (.jk)] [.v (.s (.bool r1))])] (by cbv) ?_ ?_
  · exact (hq (hC (impl_within_ac h_r1)) hq0)
  refine Run.ret ?_
  cases h
  refine ⟨_, _, by cbv, ?_, ?_⟩
  · exact LLe.r
  · exact (ALe.v LLe.r ALe.nil)

set_option maxRecDepth 8000 in
theorem impl_hasTable_ac {a0v_Cols : List Int} {a1 : Int} {r : Bool} (h : impl_hasTable.f (Schema.mk a0v_Cols) a1 = some r) : AC Try.prog 73 [.ag [.im false (rowsOf Int_c a0v_Cols)], .v (.s (.int .i64 a1))] [.ag [.jk], .v (.jk)] [.v (.s (.bool r))] := by
  unfold impl_hasTable.f at h
  let ar := Ls.ar; let cm := Ls.cm; let bo := Ls.bo; let sc := Ls.sc; let sa := Ls.sa; let sx := Ls.sx; let ss := Ls.ss; let sl := Ls.sl; let bs := Ls.bs; let sb := Ls.sb; let ln := Ls.ln; let sr := Ls.sr; let ap := Ls.ap; let up := Ls.up; let rp := Ls.rp; let fr := Ls.fr; let ge := Ls.ge; let le := Ls.le; let lt := Ls.lt; let nz := Ls.nz; let mm := Ls.mm; let ma := Ls.ma; let sm := Ls.sm; let fl := Ls.fl; let al := Ls.al; let ci := Ls.ci
  let eInt_c := rowsOf Int_c
  let lenI_Int := @lenI Int
  have hL : (⟨ar, cm, bo, sc, sa, sx, ss, sl, bs, sb, ln, sr, ap, up, rp, fr, ge, le, lt, nz, mm, ma, sm, fl, al, ci⟩ : Lf) = Ls := rfl
  show AC Try.prog 73 [.ag [.im false (eInt_c a0v_Cols)], .v (.s (.int .i64 a1))] _ _
  refine AC.of_run2 tab_ok Try.func73 (by rfl) (by rfl) (by cbv) ⟨by decide, rfl⟩ fun F hP hA => ?_
  have hT : TabOk F.P tab := hP ▸ tab_ok
  have hM : F.P.follows .mixedOrders = true := hP ▸ mixed
  have hC : ∀ {f a o r}, AC Try.prog f a o r → AC F.P f a o r := fun h => hP ▸ h
  refine Run.seq ?_
  refine Run.region hL hT [] (by cbv) ?_ ?_
  · exact hq0
  refine Run.seq ?_
  obtain ⟨r1, h_r1, h⟩ := bnd h
  refine Run.region hL hT [(5, .call [false, false, false] [.v (.jk), .v (.jk), .v (.jk)] [.v (.s (.bool r1))])] (by cbv) ?_ ?_
  · exact (hq trivial (hq trivial (hq (by rw [show ln (eInt_c a0v_Cols) = lenI_Int a0v_Cols from ln_eq Int_c _]; exact (hC (impl_within_ac h_r1))) hq0)))
  rw [show ln (eInt_c a0v_Cols) = lenI_Int a0v_Cols from ln_eq Int_c _]
  refine Run.ret ?_
  cases h
  refine ⟨_, _, by cbv, ?_, ?_⟩
  · exact LLe.r
  · exact (ALe.v LLe.r ALe.nil)

set_option maxRecDepth 8000 in
theorem impl_isNum_ac {a0 : Int} {r : Bool} (h : impl_isNum.f a0 = some r) : AC Try.prog 96 [.v (.s (.int .i64 a0))] [.v (.jk)] [.v (.s (.bool r))] := by
  unfold impl_isNum.f at h
  let ar := Ls.ar; let cm := Ls.cm; let bo := Ls.bo; let sc := Ls.sc; let sa := Ls.sa; let sx := Ls.sx; let ss := Ls.ss; let sl := Ls.sl; let bs := Ls.bs; let sb := Ls.sb; let ln := Ls.ln; let sr := Ls.sr; let ap := Ls.ap; let up := Ls.up; let rp := Ls.rp; let fr := Ls.fr; let ge := Ls.ge; let le := Ls.le; let lt := Ls.lt; let nz := Ls.nz; let mm := Ls.mm; let ma := Ls.ma; let sm := Ls.sm; let fl := Ls.fl; let al := Ls.al; let ci := Ls.ci
  have hL : (⟨ar, cm, bo, sc, sa, sx, ss, sl, bs, sb, ln, sr, ap, up, rp, fr, ge, le, lt, nz, mm, ma, sm, fl, al, ci⟩ : Lf) = Ls := rfl
  show AC Try.prog 96 [.v (.s (.int .i64 a0))] _ _
  refine AC.of_run2 tab_ok Try.func96 (by rfl) (by rfl) (by cbv) ⟨by decide, rfl⟩ fun F hP hA => ?_
  have hT : TabOk F.P tab := hP ▸ tab_ok
  have hM : F.P.follows .mixedOrders = true := hP ▸ mixed
  have hC : ∀ {f a o r}, AC Try.prog f a o r → AC F.P f a o r := fun h => hP ▸ h
  refine Run.seq ?_
  refine Run.region hL hT [] (by cbv) ?_ ?_
  · exact hq0
  refine Run.seq ?_
  obtain ⟨r1, h_r1, h⟩ := bnd h
  refine Run.region hL hT [(1, .call [false, false, false] [.v (.jk), .v (.jk), .v (.jk)] [.v (.s (.bool r1))])] (by cbv) ?_ ?_
  · exact (hq (hC (impl_within_ac h_r1)) hq0)
  refine Run.ret ?_
  cases h
  refine ⟨_, _, by cbv, ?_, ?_⟩
  · exact LLe.r
  · exact (ALe.v LLe.r ALe.nil)

set_option maxRecDepth 8000 in
theorem impl_RowOk_ac {a0v_Cols : List Int} {a1 : Int} {a2v_Id : Int} {a2v_Cells : List Int} {r : Bool} (h : impl_RowOk.f (Schema.mk a0v_Cols) a1 (Row.mk a2v_Id a2v_Cells) = some r) : AC Try.prog 71 [.ag [.im false (rowsOf Int_c a0v_Cols)], .v (.s (.int .i64 a1)), .ag [.s (.int .i64 a2v_Id), .im false (rowsOf Int_c a2v_Cells)]] [.ag [.jk], .v (.jk), .ag [.jk, .jk]] [.v (.s (.bool r))] := by
  unfold impl_RowOk.f at h
  let ar := Ls.ar; let cm := Ls.cm; let bo := Ls.bo; let sc := Ls.sc; let sa := Ls.sa; let sx := Ls.sx; let ss := Ls.ss; let sl := Ls.sl; let bs := Ls.bs; let sb := Ls.sb; let ln := Ls.ln; let sr := Ls.sr; let ap := Ls.ap; let up := Ls.up; let rp := Ls.rp; let fr := Ls.fr; let ge := Ls.ge; let le := Ls.le; let lt := Ls.lt; let nz := Ls.nz; let mm := Ls.mm; let ma := Ls.ma; let sm := Ls.sm; let fl := Ls.fl; let al := Ls.al; let ci := Ls.ci
  let eInt_c := rowsOf Int_c
  let lenI_Int := @lenI Int
  have hL : (⟨ar, cm, bo, sc, sa, sx, ss, sl, bs, sb, ln, sr, ap, up, rp, fr, ge, le, lt, nz, mm, ma, sm, fl, al, ci⟩ : Lf) = Ls := rfl
  show AC Try.prog 71 [.ag [.im false (eInt_c a0v_Cols)], .v (.s (.int .i64 a1)), .ag [.s (.int .i64 a2v_Id), .im false (eInt_c a2v_Cells)]] _ _
  refine AC.of_run2 tab_ok Try.func71 (by rfl) (by rfl) (by cbv) ⟨by decide, rfl⟩ fun F hP hA => ?_
  have hT : TabOk F.P tab := hP ▸ tab_ok
  have hM : F.P.follows .mixedOrders = true := hP ▸ mixed
  have hC : ∀ {f a o r}, AC Try.prog f a o r → AC F.P f a o r := fun h => hP ▸ h
  refine Run.seq ?_
  refine Run.region hL hT [] (by cbv) ?_ ?_
  · exact hq0
  obtain ⟨K2, h_K2, h⟩ := joinE h
  refine Run.join1 K2 (r := r) (fun (y1 : Unit) => ⟨43, 100000, [(1, .t (.s (.int .i64 a1))), (3, .pt 1 0 0), (5, .pt 2 0 0)], [(1, .box 26 [.t (.im false (eInt_c a0v_Cols))]), (2, .box 38 [.t (.s (.int .i64 a2v_Id)), .t (.im false (eInt_c a2v_Cells))])]⟩) ?_ ?_
  · skip
    refine Run.seq ?_
    refine Run.region hL hT [] (by cbv) ?_ ?_
    · exact (hq trivial hq0)
    rw [show ln (eInt_c a2v_Cells) = lenI_Int a2v_Cells from ln_eq Int_c _]
    refine Run.block ?_
    refine Run.loop1 (fun (z10 : Int) => ⟨43, 100000, [(1, .t (.s (.int .i64 a1))), (3, .pt 1 0 0), (5, .pt 2 0 0), (10, .t (.im false (eInt_c a2v_Cells))), (11, .t (.s (.int .i64 (lenI_Int a2v_Cells)))), (12, .t (.s (.int .i64 z10)))], [(1, .box 26 [.t (.im false (eInt_c a0v_Cols))]), (2, .box 38 [.t (.s (.int .i64 a2v_Id)), .t (.im false (eInt_c a2v_Cells))])]⟩) (x0 := 0) h (Weak.of _ [(1, 0), (2, 1)] hA (by cbv) ?_) (fun _ => rfl) ?_
    · repeat (first | exact hq0 | refine hq (by first | exact True.intro | rfl) ?_)
    · intro k z10 h
      rw [impl_RowOk.l0] at h
      refine Run.seq ?_
      refine Run.region hL hT [] (by cbv) ?_ ?_
      · exact (hq trivial hq0)
      refine Run.seq ?_
      refine Run.cond (by cbv) (hq0) (fun c11 => ?_) (fun c11 => ?_)
      · have h := if_t c11 h
        refine Run.skip ?_
        refine Run.seq ?_
        refine Run.block ?_
        refine Run.seq ?_
        obtain ⟨x12, h_x12, h⟩ := bnd h
        refine Run.region hL hT [(0, .el [.s (.int .i64 x12)])] (by cbv) ?_ ?_
        · exact (hq (get_le h_x12) (hq (get_lt (f := Int_c) h_x12) (hq (get_ge (f := Int_c) h_x12) hq0)))
        refine Run.seq ?_
        obtain ⟨r13, h_r13, h⟩ := bnd h
        refine Run.region hL hT [(1, .call [false] [.v (.jk)] [.v (.s (.bool r13))])] (by cbv) ?_ ?_
        · exact (hq (hC (impl_isNum_ac h_r13)) hq0)
        refine Run.cond (by cbv) (hq0) (fun c14 => ?_) (fun c14 => ?_)
        · have h := if_t c14 h
          refine Run.seq ?_
          refine Run.region hL hT [] (by cbv) ?_ ?_
          · exact hq0
          refine Run.ret ?_
          cases h
          refine ⟨_, _, by cbv, ?_, ?_⟩
          · exact LLe.r
          · exact (ALe.v LLe.r ALe.nil)
        · have h := if_f c14 h
          refine Run.skip ?_
          refine Run.region hL hT [] (by cbv) ?_ ?_
          · exact (hq trivial hq0)
          refine ⟨(ar .add .i64 z10 1), h, Weak.of _ [(1, 1), (2, 2)] hA (by cbv) ?_⟩
          repeat (first | exact hq0 | refine hq (by first | exact True.intro | rfl) ?_)
      · have h := if_f c11 h
        refine Run.exit ?_
        refine ⟨(), h, Weak.of _ [(1, 1), (2, 2)] hA (by cbv) ?_⟩
        repeat (first | exact hq0 | refine hq (by first | exact True.intro | rfl) ?_)
  · intro y1 h
    rw [h_K2] at h
    refine Run.seq ?_
    obtain ⟨r15, h_r15, h⟩ := bnd h
    obtain ⟨r16, h_r16, h⟩ := bnd h
    obtain ⟨x17, h_x17, h⟩ := bnd h
    obtain ⟨r18, h_r18, h⟩ := bnd h
    refine Run.draw hL hT hM [(1, .call [false] [.ag [.jk]] [.v (.s (.bool r15))]), (5, .call [false, false] [.ag [.jk], .v (.jk)] [.v (.s (.bool r16))]), (14, .el [.s (.int .i64 x17)]), (21, .call [false, false, false] [.v (.jk), .v (.jk), .v (.jk)] [.v (.s (.bool r18))])] (by cbv) (by cbv) (by cbv) (by cbv) (by cbv) ?_ ?_
    · exact (hq trivial (hq (hC (impl_SchemaOk_ac h_r15)) (hq (fun g19 => (hq trivial hq0)) (hq (fun _ => hq0) (hq (fun g21 => (hq g21 (hq g21 (hq (hC (impl_hasTable_ac (gd_t h_r16 g21))) hq0)))) (hq (fun q22 => (hq q22 hq0)) (hq (fun _ => hq0) (hq (fun _ => hq0) (hq (fun g25 => (hq g25 (hq trivial hq0))) (hq (fun g26 => (hq g26 hq0)) (hq (fun _ => hq0) (hq (fun g28 => (hq g28 (hq trivial hq0))) (hq (fun _ => hq0) (hq (fun g30 => (hq g30 (hq g30 (hq (get_le (gd_t h_x17 g30)) (hq (get_lt (f := Int_c) (gd_t h_x17 g30)) (hq (get_ge (f := Int_c) (gd_t h_x17 g30)) hq0)))))) (hq (fun g31 => (hq g31 hq0)) (hq (fun g32 => (hq g32 (hq g32 (hq trivial hq0)))) (hq (fun q33 => (hq q33 hq0)) (hq (fun _ => hq0) (hq (fun _ => hq0) (hq (fun g36 => (by have g36C := g36; rw [show ln (eInt_c a2v_Cells) = lenI_Int a2v_Cells from ln_eq Int_c _] at g36C; exact (hq g36 (hq trivial hq0)))) (hq (fun g37 => (by have g37C := g37; rw [show ln (eInt_c a2v_Cells) = lenI_Int a2v_Cells from ln_eq Int_c _] at g37C; exact (hq g37 (hq (hC (impl_within_ac (gd_t h_r18 g37C))) hq0)))) (hq (fun q38 => (by have q38C := q38; rw [show ln (eInt_c a2v_Cells) = lenI_Int a2v_Cells from ln_eq Int_c _] at q38C; exact (hq q38 hq0))) (hq (fun _ => hq0) hq0)))))))))))))))))))))))
    rw [show ln (eInt_c a2v_Cells) = lenI_Int a2v_Cells from ln_eq Int_c _]
    refine Run.ret ?_
    cases h
    refine ⟨_, _, by cbv, ?_, ?_⟩
    · exact LLe.r
    · exact (ALe.v LLe.r ALe.nil)

set_option maxRecDepth 8000 in
theorem impl_RowsOk_ac {a0v_Cols : List Int} {a1 : Int} {a2 : List Row} {r : Bool} (h : impl_RowsOk.f (Schema.mk a0v_Cols) a1 a2 = some r) : AC Try.prog 48 [.ag [.im false (rowsOf Int_c a0v_Cols)], .v (.s (.int .i64 a1)), .v (.im false (rowsOf Row_i a2))] [.ag [.jk], .v (.jk), .v (.jk)] [.v (.s (.bool r))] := by
  unfold impl_RowsOk.f at h
  let ar := Ls.ar; let cm := Ls.cm; let bo := Ls.bo; let sc := Ls.sc; let sa := Ls.sa; let sx := Ls.sx; let ss := Ls.ss; let sl := Ls.sl; let bs := Ls.bs; let sb := Ls.sb; let ln := Ls.ln; let sr := Ls.sr; let ap := Ls.ap; let up := Ls.up; let rp := Ls.rp; let fr := Ls.fr; let ge := Ls.ge; let le := Ls.le; let lt := Ls.lt; let nz := Ls.nz; let mm := Ls.mm; let ma := Ls.ma; let sm := Ls.sm; let fl := Ls.fl; let al := Ls.al; let ci := Ls.ci
  let eInt_c := rowsOf Int_c
  let eRow_i := rowsOf Row_i
  let lenI_Row := @lenI Row
  have hL : (⟨ar, cm, bo, sc, sa, sx, ss, sl, bs, sb, ln, sr, ap, up, rp, fr, ge, le, lt, nz, mm, ma, sm, fl, al, ci⟩ : Lf) = Ls := rfl
  show AC Try.prog 48 [.ag [.im false (eInt_c a0v_Cols)], .v (.s (.int .i64 a1)), .v (.im false (eRow_i a2))] _ _
  refine AC.of_run2 tab_ok Try.func48 (by rfl) (by rfl) (by cbv) ⟨by decide, rfl⟩ fun F hP hA => ?_
  have hT : TabOk F.P tab := hP ▸ tab_ok
  have hM : F.P.follows .mixedOrders = true := hP ▸ mixed
  have hC : ∀ {f a o r}, AC Try.prog f a o r → AC F.P f a o r := fun h => hP ▸ h
  refine Run.seq ?_
  refine Run.region hL hT [] (by cbv) ?_ ?_
  · exact hq0
  obtain ⟨K2, h_K2, h⟩ := joinE h
  refine Run.join1 K2 (r := r) (fun (y1 : Unit) => ⟨49, 100000, [(1, .t (.s (.int .i64 a1))), (2, .t (.im false (eRow_i a2))), (3, .pt 1 0 0)], [(1, .box 26 [.t (.im false (eInt_c a0v_Cols))])]⟩) ?_ ?_
  · skip
    refine Run.seq ?_
    refine Run.region hL hT [] (by cbv) ?_ ?_
    · exact hq0
    rw [show ln (eRow_i a2) = lenI_Row a2 from ln_eq Row_i _]
    refine Run.block ?_
    refine Run.loop1 (fun (z9 : Int) => ⟨49, 100000, [(1, .t (.s (.int .i64 a1))), (2, .t (.im false (eRow_i a2))), (3, .pt 1 0 0), (9, .t (.im false (eRow_i a2))), (10, .t (.s (.int .i64 (lenI_Row a2)))), (11, .t (.s (.int .i64 z9)))], [(1, .box 26 [.t (.im false (eInt_c a0v_Cols))])]⟩) (x0 := 0) h (Weak.of _ [(1, 0)] hA (by cbv) ?_) (fun _ => rfl) ?_
    · repeat (first | exact hq0 | refine hq (by first | exact True.intro | rfl) ?_)
    · intro k z9 h
      rw [impl_RowsOk.l0] at h
      refine Run.seq ?_
      refine Run.region hL hT [] (by cbv) ?_ ?_
      · exact (hq trivial hq0)
      refine Run.seq ?_
      refine Run.cond (by cbv) (hq0) (fun c10 => ?_) (fun c10 => ?_)
      · have h := if_t c10 h
        refine Run.skip ?_
        refine Run.seq ?_
        refine Run.block ?_
        refine Run.seq ?_
        obtain ⟨⟨x11v_Id, x11v_Cells⟩, h_x11, h⟩ := bnd h
        refine Run.region hL hT [(1, .el [.s (.int .i64 x11v_Id), .im false (eInt_c x11v_Cells)])] (by cbv) ?_ ?_
        · exact (hq (get_le h_x11) (hq (get_lt (f := Row_i) h_x11) (hq (get_ge (f := Row_i) h_x11) (hq trivial hq0))))
        refine Run.seq ?_
        obtain ⟨r12, h_r12, h⟩ := bnd h
        obtain ⟨⟨x13v_Id, x13v_Cells⟩, h_x13, h⟩ := bnd h
        refine Run.draw hL hT hM [(3, .call [false, false, false] [.ag [.jk], .v (.jk), .ag [.jk, .jk]] [.v (.s (.bool r12))]), (12, .el [.s (.int .i64 x13v_Id), .im false (eInt_c x13v_Cells)])] (by cbv) (by cbv) (by cbv) (by cbv) (by cbv) ?_ ?_
        · exact (hq trivial (hq trivial (hq (hC (impl_RowOk_ac h_r12)) (hq (fun _ => hq0) (hq (fun g15 => (hq g15 (hq trivial hq0))) (hq (fun g16 => (hq g16 hq0)) (hq (fun _ => hq0) (hq (fun _ => hq0) (hq (fun g19 => (hq g19 (hq trivial hq0))) (hq (fun g20 => (hq g20 (hq g20 (hq (get_le (gd_t h_x13 g20)) (hq (get_lt (f := Row_i) (gd_t h_x13 g20)) (hq (get_ge (f := Row_i) (gd_t h_x13 g20)) hq0)))))) (hq (fun g21 => (hq g21 hq0)) (hq (fun g22 => (hq g22 hq0)) (hq (fun _ => hq0) (hq (fun g24 => (hq g24 (hq trivial hq0))) (hq (fun g25 => (hq g25 (hq g25 (hq trivial hq0)))) (hq (fun g26 => (hq g26 (hq (fun q27 => (hq (bo_a g26 q27) hq0)) (hq (fun _ => hq0) hq0)))) (hq (fun _ => hq0) (hq (fun q30 => (hq (bo_m q30) hq0)) hq0))))))))))))))))))
        refine Run.cond (by cbv) (hq0) (fun c31 => ?_) (fun c31 => ?_)
        · have h := if_t c31 h
          refine Run.seq ?_
          refine Run.region hL hT [] (by cbv) ?_ ?_
          · exact hq0
          refine Run.ret ?_
          cases h
          refine ⟨_, _, by cbv, ?_, ?_⟩
          · exact LLe.r
          · exact (ALe.v LLe.r ALe.nil)
        · have h := if_f c31 h
          refine Run.skip ?_
          refine Run.region hL hT [] (by cbv) ?_ ?_
          · exact (hq trivial hq0)
          refine ⟨(ar .add .i64 z9 1), h, Weak.of _ [(1, 1)] hA (by cbv) ?_⟩
          repeat (first | exact hq0 | refine hq (by first | exact True.intro | rfl) ?_)
      · have h := if_f c10 h
        refine Run.exit ?_
        refine ⟨(), h, Weak.of _ [(1, 1)] hA (by cbv) ?_⟩
        repeat (first | exact hq0 | refine hq (by first | exact True.intro | rfl) ?_)
  · intro y1 h
    rw [h_K2] at h
    refine Run.seq ?_
    obtain ⟨r32, h_r32, h⟩ := bnd h
    obtain ⟨r33, h_r33, h⟩ := bnd h
    refine Run.region hL hT [(1, .call [false] [.ag [.jk]] [.v (.s (.bool r32))]), (5, .call [false, false] [.ag [.jk], .v (.jk)] [.v (.s (.bool r33))])] (by cbv) ?_ ?_
    · exact (hq trivial (hq (hC (impl_SchemaOk_ac h_r32)) (hq (fun g34 => (hq trivial hq0)) (hq (fun _ => hq0) (hq (fun g36 => (hq g36 (hq g36 (hq (hC (impl_hasTable_ac (gd_t h_r33 g36))) hq0)))) (hq (fun q37 => (hq q37 hq0)) (hq (fun _ => hq0) (hq (fun _ => hq0) (hq (fun g40 => (hq g40 hq0)) (hq (fun g41 => (hq g41 (hq trivial hq0))) (hq (fun q42 => (hq q42 hq0)) (hq (fun _ => hq0) hq0))))))))))))
    rw [show ln (eRow_i a2) = lenI_Row a2 from ln_eq Row_i _]
    refine Run.ret ?_
    cases h
    refine ⟨_, _, by cbv, ?_, ?_⟩
    · exact LLe.r
    · exact (ALe.v LLe.r ALe.nil)

set_option maxRecDepth 8000 in
theorem impl_StoreOk_ac {a0v_Schemav_Cols : List Int} {a0v_Version : Int} {a0v_Tables : List (List Row)} {r : Bool} (h : impl_StoreOk.f (Store.mk (Schema.mk a0v_Schemav_Cols) a0v_Version a0v_Tables) = some r) : AC Try.prog 12 [.ag [.im false (rowsOf Int_c a0v_Schemav_Cols), .s (.int .i64 a0v_Version), .im false (rowsOf RowS_i a0v_Tables)]] [.ag [.jk, .jk, .jk]] [.v (.s (.bool r))] := by
  unfold impl_StoreOk.f at h
  let ar := Ls.ar; let cm := Ls.cm; let bo := Ls.bo; let sc := Ls.sc; let sa := Ls.sa; let sx := Ls.sx; let ss := Ls.ss; let sl := Ls.sl; let bs := Ls.bs; let sb := Ls.sb; let ln := Ls.ln; let sr := Ls.sr; let ap := Ls.ap; let up := Ls.up; let rp := Ls.rp; let fr := Ls.fr; let ge := Ls.ge; let le := Ls.le; let lt := Ls.lt; let nz := Ls.nz; let mm := Ls.mm; let ma := Ls.ma; let sm := Ls.sm; let fl := Ls.fl; let al := Ls.al; let ci := Ls.ci
  let eInt_c := rowsOf Int_c
  let eRowS_i := rowsOf RowS_i
  let eRow_i := rowsOf Row_i
  let lenI_Int := @lenI Int
  let lenI_RowS := @lenI (List Row)
  have hL : (⟨ar, cm, bo, sc, sa, sx, ss, sl, bs, sb, ln, sr, ap, up, rp, fr, ge, le, lt, nz, mm, ma, sm, fl, al, ci⟩ : Lf) = Ls := rfl
  show AC Try.prog 12 [.ag [.im false (eInt_c a0v_Schemav_Cols), .s (.int .i64 a0v_Version), .im false (eRowS_i a0v_Tables)]] _ _
  refine AC.of_run2 tab_ok Try.func12 (by rfl) (by rfl) (by cbv) ⟨by decide, rfl⟩ fun F hP hA => ?_
  have hT : TabOk F.P tab := hP ▸ tab_ok
  have hM : F.P.follows .mixedOrders = true := hP ▸ mixed
  have hC : ∀ {f a o r}, AC Try.prog f a o r → AC F.P f a o r := fun h => hP ▸ h
  refine Run.seq ?_
  refine Run.region hL hT [] (by cbv) ?_ ?_
  · exact hq0
  refine Run.seq ?_
  refine Run.seq ?_
  obtain ⟨r1, h_r1, h⟩ := bnd h
  obtain ⟨r2, h_r2, h⟩ := bnd h
  refine Run.region hL hT [(2, .call [false] [.ag [.jk]] [.v (.s (.bool r1))]), (7, .call [false] [.v (.jk)] [.v (.s (.bool r2))])] (by cbv) ?_ ?_
  · exact (hq trivial (hq (hC (impl_SchemaOk_ac h_r1)) (hq (fun _ => hq0) (hq (fun g4 => (hq g4 (hq trivial hq0))) (hq (fun g5 => (hq g5 (hq (hC (impl_isVersion_ac (gd_t h_r2 g5))) hq0))) (hq (fun g6 => (hq g6 hq0)) (hq (fun _ => hq0) (hq (fun q8 => (hq (bo_m q8) hq0)) (hq (fun _ => hq0) (hq (fun g10 => (hq g10 (hq trivial hq0))) (hq (fun g11 => (hq g11 hq0)) (hq (fun _ => hq0) (hq (fun g13 => (hq g13 hq0)) (hq (fun g14 => (hq g14 (hq trivial hq0))) (hq (fun g15 => (hq g15 hq0)) (hq (fun g16 => (hq g16 (hq g16 (hq trivial hq0)))) (hq (fun _ => hq0) (hq (fun q18 => (hq (bo_m q18) hq0)) hq0))))))))))))))))))
  rw [show ln (eInt_c a0v_Schemav_Cols) = lenI_Int a0v_Schemav_Cols from ln_eq Int_c _]
  rw [show ln (eRowS_i a0v_Tables) = lenI_RowS a0v_Tables from ln_eq RowS_i _]
  refine Run.cond (by cbv) (hq0) (fun c19 => ?_) (fun c19 => ?_)
  · have h := if_t c19 h
    refine Run.seq ?_
    refine Run.region hL hT [] (by cbv) ?_ ?_
    · exact hq0
    refine Run.ret ?_
    cases h
    refine ⟨_, _, by cbv, ?_, ?_⟩
    · exact LLe.r
    · exact (ALe.v LLe.r ALe.nil)
  · have h := if_f c19 h
    refine Run.skip ?_
    refine Run.seq ?_
    refine Run.seq ?_
    refine Run.region hL hT [] (by cbv) ?_ ?_
    · exact (hq trivial hq0)
    rw [show ln (eRowS_i a0v_Tables) = lenI_RowS a0v_Tables from ln_eq RowS_i _]
    refine Run.block ?_
    refine Run.loop1 (fun (z26 : Int) => ⟨40, 100000, [(1, .pt 1 0 0), (26, .t (.im false (eRowS_i a0v_Tables))), (27, .t (.s (.int .i64 (lenI_RowS a0v_Tables)))), (28, .t (.s (.int .i64 z26)))], [(1, .box 29 [.t (.im false (eInt_c a0v_Schemav_Cols)), .t (.s (.int .i64 a0v_Version)), .t (.im false (eRowS_i a0v_Tables))])]⟩) (x0 := 0) h (Weak.of _ [(1, 0)] hA (by cbv) ?_) (fun _ => rfl) ?_
    · repeat (first | exact hq0 | refine hq (by first | exact True.intro | rfl) ?_)
    · intro k z26 h
      rw [impl_StoreOk.l0] at h
      refine Run.seq ?_
      refine Run.region hL hT [] (by cbv) ?_ ?_
      · exact (hq trivial hq0)
      refine Run.seq ?_
      refine Run.cond (by cbv) (hq0) (fun c27 => ?_) (fun c27 => ?_)
      · have h := if_t c27 h
        refine Run.skip ?_
        refine Run.seq ?_
        refine Run.block ?_
        refine Run.seq ?_
        obtain ⟨x28, h_x28, h⟩ := bnd h
        refine Run.region hL hT [(1, .el [.im false (eRow_i x28)])] (by cbv) ?_ ?_
        · exact (hq (get_le h_x28) (hq (get_lt (f := RowS_i) h_x28) (hq (get_ge (f := RowS_i) h_x28) hq0)))
        refine Run.seq ?_
        obtain ⟨r29, h_r29, h⟩ := bnd h
        refine Run.region hL hT [(4, .call [false, false, false] [.ag [.jk], .v (.jk), .v (.jk)] [.v (.s (.bool r29))])] (by cbv) ?_ ?_
        · exact (hq trivial (hq (hC (impl_RowsOk_ac h_r29)) hq0))
        refine Run.cond (by cbv) (hq0) (fun c30 => ?_) (fun c30 => ?_)
        · have h := if_t c30 h
          refine Run.seq ?_
          refine Run.region hL hT [] (by cbv) ?_ ?_
          · exact hq0
          refine Run.ret ?_
          cases h
          refine ⟨_, _, by cbv, ?_, ?_⟩
          · exact LLe.r
          · exact (ALe.v LLe.r ALe.nil)
        · have h := if_f c30 h
          refine Run.skip ?_
          refine Run.region hL hT [] (by cbv) ?_ ?_
          · exact (hq trivial hq0)
          refine ⟨(ar .add .i64 z26 1), h, Weak.of _ [(1, 1)] hA (by cbv) ?_⟩
          repeat (first | exact hq0 | refine hq (by first | exact True.intro | rfl) ?_)
      · have h := if_f c27 h
        refine Run.exit ?_
        refine Run.seq ?_
        refine Run.region hL hT [] (by cbv) ?_ ?_
        · exact hq0
        refine Run.ret ?_
        cases h
        refine ⟨_, _, by cbv, ?_, ?_⟩
        · exact LLe.r
        · exact (ALe.v LLe.r ALe.nil)

set_option maxRecDepth 8000 in
theorem impl_copyInts_ac {a0 : List Int} {r : (List Int)} (h : impl_copyInts.f a0 = some r) : AC Try.prog 53 [.v (.im false (rowsOf Int_c a0))] [.v (.jk)] [.v (.ow 3 (rowsOf Int_c r))] := by
  unfold impl_copyInts.f at h
  let ar := Ls.ar; let cm := Ls.cm; let bo := Ls.bo; let sc := Ls.sc; let sa := Ls.sa; let sx := Ls.sx; let ss := Ls.ss; let sl := Ls.sl; let bs := Ls.bs; let sb := Ls.sb; let ln := Ls.ln; let sr := Ls.sr; let ap := Ls.ap; let up := Ls.up; let rp := Ls.rp; let fr := Ls.fr; let ge := Ls.ge; let le := Ls.le; let lt := Ls.lt; let nz := Ls.nz; let mm := Ls.mm; let ma := Ls.ma; let sm := Ls.sm; let fl := Ls.fl; let al := Ls.al; let ci := Ls.ci
  let eInt_c := rowsOf Int_c
  have hL : (⟨ar, cm, bo, sc, sa, sx, ss, sl, bs, sb, ln, sr, ap, up, rp, fr, ge, le, lt, nz, mm, ma, sm, fl, al, ci⟩ : Lf) = Ls := rfl
  show AC Try.prog 53 [.v (.im false (eInt_c a0))] _ _
  refine AC.of_run2 tab_ok Try.func53 (by rfl) (by rfl) (by cbv) ⟨by decide, rfl⟩ fun F hP hA => ?_
  have hT : TabOk F.P tab := hP ▸ tab_ok
  have hM : F.P.follows .mixedOrders = true := hP ▸ mixed
  have hC : ∀ {f a o r}, AC Try.prog f a o r → AC F.P f a o r := fun h => hP ▸ h
  refine Run.seq ?_
  refine Run.region hL hT [] (by cbv) ?_ ?_
  · exact hq0
  refine Run.seq ?_
  obtain ⟨l1, h_l1, h⟩ := bnd h
  refine Run.region hL hT [] (by cbv) ?_ ?_
  · exact (hq (fl_row Int_c_f _) (hq (app_mb (P := Try.prog) (f := Int_c) RLe.r RLe.r h_l1) hq0))
  refine Run.row (rows := (ap ([]) ((eInt_c a0)))) 4098 (eInt_c l1) (by cbv) (app_le (f := Int_c) RLe.r RLe.r h_l1) ?_
  refine Run.ret ?_
  cases h
  refine ⟨_, _, by cbv, ?_, ?_⟩
  · exact LLe.r
  · exact (ALe.v LLe.r ALe.nil)

set_option maxRecDepth 8000 in
theorem impl_copyRow_ac {a0v_Id : Int} {a0v_Cells : List Int} {r : Row} (h : impl_copyRow.f (Row.mk a0v_Id a0v_Cells) = some r) : AC Try.prog 95 [.ag [.s (.int .i64 a0v_Id), .im false (rowsOf Int_c a0v_Cells)]] [.ag [.jk, .jk]] [.ag [.s (.int .i64 r.Id), .ow 3 (rowsOf Int_c r.Cells)]] := by
  unfold impl_copyRow.f at h
  let ar := Ls.ar; let cm := Ls.cm; let bo := Ls.bo; let sc := Ls.sc; let sa := Ls.sa; let sx := Ls.sx; let ss := Ls.ss; let sl := Ls.sl; let bs := Ls.bs; let sb := Ls.sb; let ln := Ls.ln; let sr := Ls.sr; let ap := Ls.ap; let up := Ls.up; let rp := Ls.rp; let fr := Ls.fr; let ge := Ls.ge; let le := Ls.le; let lt := Ls.lt; let nz := Ls.nz; let mm := Ls.mm; let ma := Ls.ma; let sm := Ls.sm; let fl := Ls.fl; let al := Ls.al; let ci := Ls.ci
  let eInt_c := rowsOf Int_c
  have hL : (⟨ar, cm, bo, sc, sa, sx, ss, sl, bs, sb, ln, sr, ap, up, rp, fr, ge, le, lt, nz, mm, ma, sm, fl, al, ci⟩ : Lf) = Ls := rfl
  show AC Try.prog 95 [.ag [.s (.int .i64 a0v_Id), .im false (eInt_c a0v_Cells)]] _ _
  refine AC.of_run2 tab_ok Try.func95 (by rfl) (by rfl) (by cbv) ⟨by decide, rfl⟩ fun F hP hA => ?_
  have hT : TabOk F.P tab := hP ▸ tab_ok
  have hM : F.P.follows .mixedOrders = true := hP ▸ mixed
  have hC : ∀ {f a o r}, AC Try.prog f a o r → AC F.P f a o r := fun h => hP ▸ h
  refine Run.seq ?_
  refine Run.region hL hT [] (by cbv) ?_ ?_
  · exact hq0
  refine Run.seq ?_
  obtain ⟨r1, h_r1, h⟩ := bnd h
  refine Run.draw hL hT hM [(4, .call [false] [.v (.jk)] [.v (.ow 3 (eInt_c r1))])] (by cbv) (by cbv) (by cbv) (by cbv) (by cbv) ?_ ?_
  · exact (hq trivial (hq trivial (hq (hC (impl_copyInts_ac h_r1)) (hq trivial hq0))))
  refine Run.ret ?_
  cases h
  refine ⟨_, _, by cbv, ?_, ?_⟩
  · exact LLe.r
  · exact (ALe.ag rfl LLe.r ALe.nil)

set_option maxRecDepth 8000 in
theorem impl_copyRows_ac {a0 : List Row} {r : (List Row)} (h : impl_copyRows.f a0 = some r) : AC Try.prog 70 [.v (.im false (rowsOf Row_i a0))] [.v (.jk)] [.v (.ow 38 (rowsOf Row_o r))] := by
  unfold impl_copyRows.f at h
  let ar := Ls.ar; let cm := Ls.cm; let bo := Ls.bo; let sc := Ls.sc; let sa := Ls.sa; let sx := Ls.sx; let ss := Ls.ss; let sl := Ls.sl; let bs := Ls.bs; let sb := Ls.sb; let ln := Ls.ln; let sr := Ls.sr; let ap := Ls.ap; let up := Ls.up; let rp := Ls.rp; let fr := Ls.fr; let ge := Ls.ge; let le := Ls.le; let lt := Ls.lt; let nz := Ls.nz; let mm := Ls.mm; let ma := Ls.ma; let sm := Ls.sm; let fl := Ls.fl; let al := Ls.al; let ci := Ls.ci
  let eInt_c := rowsOf Int_c
  let eRow_i := rowsOf Row_i
  let eRow_o := rowsOf Row_o
  let lenI_Row := @lenI Row
  have hL : (⟨ar, cm, bo, sc, sa, sx, ss, sl, bs, sb, ln, sr, ap, up, rp, fr, ge, le, lt, nz, mm, ma, sm, fl, al, ci⟩ : Lf) = Ls := rfl
  show AC Try.prog 70 [.v (.im false (eRow_i a0))] _ _
  refine AC.of_run2 tab_ok Try.func70 (by rfl) (by rfl) (by cbv) ⟨by decide, rfl⟩ fun F hP hA => ?_
  have hT : TabOk F.P tab := hP ▸ tab_ok
  have hM : F.P.follows .mixedOrders = true := hP ▸ mixed
  have hC : ∀ {f a o r}, AC Try.prog f a o r → AC F.P f a o r := fun h => hP ▸ h
  refine Run.seq ?_
  refine Run.region hL hT [] (by cbv) ?_ ?_
  · exact hq0
  refine Run.seq ?_
  refine Run.region hL hT [] (by cbv) ?_ ?_
  · exact hq0
  refine Run.seq ?_
  refine Run.seq ?_
  refine Run.region hL hT [] (by cbv) ?_ ?_
  · exact hq0
  rw [show ln (eRow_i a0) = lenI_Row a0 from ln_eq Row_i _]
  refine Run.block ?_
  refine Run.loop2 (fun (z5 : List Row) (z6 : Int) => ⟨20, 100000, [(3, .rf 1), (7, .t (.im false (eRow_i a0))), (8, .t (.s (.int .i64 (lenI_Row a0)))), (9, .t (.s (.int .i64 z6)))], [(1, .row 0 38 2 (eRow_o z5))]⟩) (x0 := []) (x1 := 0) h (Weak.of _ [(1, 4096)] hA (by cbv) ?_) (fun _ _ => rfl) ?_
  · repeat (first | exact hq0 | refine hq (by first | exact True.intro | rfl) ?_)
  · intro k z5 z6 h
    rw [impl_copyRows.l0] at h
    refine Run.seq ?_
    refine Run.region hL hT [] (by cbv) ?_ ?_
    · exact (hq trivial hq0)
    refine Run.seq ?_
    refine Run.cond (by cbv) (hq0) (fun c7 => ?_) (fun c7 => ?_)
    · have h := if_t c7 h
      refine Run.skip ?_
      refine Run.seq ?_
      refine Run.block ?_
      refine Run.seq ?_
      obtain ⟨⟨x8v_Id, x8v_Cells⟩, h_x8, h⟩ := bnd h
      refine Run.region hL hT [(0, .el [.s (.int .i64 x8v_Id), .im false (eInt_c x8v_Cells)])] (by cbv) ?_ ?_
      · exact (hq (get_le h_x8) (hq (get_lt (f := Row_i) h_x8) (hq (get_ge (f := Row_i) h_x8) (hq trivial hq0))))
      obtain ⟨⟨r9v_Id, r9v_Cells⟩, h_r9, h⟩ := bnd h
      obtain ⟨l10, h_l10, h⟩ := bnd h
      obtain ⟨l11, h_l11, h⟩ := bnd h
      refine Run.region hL hT [(2, .call [false] [.ag [.jk, .jk]] [.ag [.s (.int .i64 r9v_Id), .ow 3 (eInt_c r9v_Cells)]])] (by cbv) ?_ ?_
      · exact (hq trivial (hq (hC (impl_copyRow_ac h_r9)) (hq (app_mb (P := Try.prog) (f := Row_o) RLe.r (some_le (f := Row_o) h_l10 (RLe.cons rfl LLe.r RLe.nil)) h_l11) hq0)))
      refine Run.row (rows := (ap (eRow_o z5) ([[.s (.int .i64 r9v_Id), .ow 3 (eInt_c r9v_Cells)]]))) 108196 (eRow_o l11) (by cbv) (app_le (f := Row_o) RLe.r (some_le (f := Row_o) h_l10 (RLe.cons rfl LLe.r RLe.nil)) h_l11) ?_
      refine Run.region hL hT [] (by cbv) ?_ ?_
      · exact (hq trivial hq0)
      refine ⟨l11, (ar .add .i64 z6 1), h, Weak.of _ [(1, 108196)] hA (by cbv) ?_⟩
      repeat (first | exact hq0 | refine hq (by first | exact True.intro | rfl) ?_)
    · have h := if_f c7 h
      refine Run.exit ?_
      refine Run.seq ?_
      refine Run.region hL hT [] (by cbv) ?_ ?_
      · exact hq0
      refine Run.ret ?_
      cases h
      refine ⟨_, _, by cbv, ?_, ?_⟩
      · exact LLe.r
      · exact (ALe.v LLe.r ALe.nil)

set_option maxRecDepth 8000 in
theorem impl_copyStore_ac {a0v_Schemav_Cols : List Int} {a0v_Version : Int} {a0v_Tables : List (List Row)} {r : Store} (h : impl_copyStore.f (Store.mk (Schema.mk a0v_Schemav_Cols) a0v_Version a0v_Tables) = some r) : AC Try.prog 38 [.ag [.im false (rowsOf Int_c a0v_Schemav_Cols), .s (.int .i64 a0v_Version), .im false (rowsOf RowS_i a0v_Tables)]] [.ag [.jk, .jk, .jk]] [.ag [.ow 3 (rowsOf Int_c r.Schema.Cols), .s (.int .i64 r.Version), .ow 72 (rowsOf RowS_o r.Tables)]] := by
  unfold impl_copyStore.f at h
  let ar := Ls.ar; let cm := Ls.cm; let bo := Ls.bo; let sc := Ls.sc; let sa := Ls.sa; let sx := Ls.sx; let ss := Ls.ss; let sl := Ls.sl; let bs := Ls.bs; let sb := Ls.sb; let ln := Ls.ln; let sr := Ls.sr; let ap := Ls.ap; let up := Ls.up; let rp := Ls.rp; let fr := Ls.fr; let ge := Ls.ge; let le := Ls.le; let lt := Ls.lt; let nz := Ls.nz; let mm := Ls.mm; let ma := Ls.ma; let sm := Ls.sm; let fl := Ls.fl; let al := Ls.al; let ci := Ls.ci
  let eInt_c := rowsOf Int_c
  let eRowS_i := rowsOf RowS_i
  let eRowS_o := rowsOf RowS_o
  let eRow_i := rowsOf Row_i
  let eRow_o := rowsOf Row_o
  let lenI_RowS := @lenI (List Row)
  have hL : (⟨ar, cm, bo, sc, sa, sx, ss, sl, bs, sb, ln, sr, ap, up, rp, fr, ge, le, lt, nz, mm, ma, sm, fl, al, ci⟩ : Lf) = Ls := rfl
  show AC Try.prog 38 [.ag [.im false (eInt_c a0v_Schemav_Cols), .s (.int .i64 a0v_Version), .im false (eRowS_i a0v_Tables)]] _ _
  refine AC.of_run2 tab_ok Try.func38 (by rfl) (by rfl) (by cbv) ⟨by decide, rfl⟩ fun F hP hA => ?_
  have hT : TabOk F.P tab := hP ▸ tab_ok
  have hM : F.P.follows .mixedOrders = true := hP ▸ mixed
  have hC : ∀ {f a o r}, AC Try.prog f a o r → AC F.P f a o r := fun h => hP ▸ h
  refine Run.seq ?_
  refine Run.region hL hT [] (by cbv) ?_ ?_
  · exact hq0
  refine Run.seq ?_
  obtain ⟨r1, h_r1, h⟩ := bnd h
  refine Run.draw hL hT hM [(3, .call [false] [.v (.jk)] [.v (.ow 3 (eInt_c r1))])] (by cbv) (by cbv) (by cbv) (by cbv) (by cbv) ?_ ?_
  · exact (hq trivial (hq (hC (impl_copyInts_ac h_r1)) (hq trivial (hq trivial hq0))))
  refine Run.seq ?_
  refine Run.seq ?_
  refine Run.region hL hT [] (by cbv) ?_ ?_
  · exact (hq trivial hq0)
  rw [show ln (eRowS_i a0v_Tables) = lenI_RowS a0v_Tables from ln_eq RowS_i _]
  refine Run.block ?_
  refine Run.loop2 (fun (z15 : List (List Row)) (z16 : Int) => ⟨30, 100000, [(2, .pt 1 0 0), (3, .pt 2 0 0), (15, .t (.im false (eRowS_i a0v_Tables))), (16, .t (.s (.int .i64 (lenI_RowS a0v_Tables)))), (17, .t (.s (.int .i64 z16)))], [(1, .box 29 [.t (.s (.slice none 0 0)), .t (.s (.int .i64 0)), .t (.s (.slice none 0 0))]), (2, .box 29 [.rf 3, .t (.s (.int .i64 a0v_Version)), .rf 4]), (3, .row 0 3 1 (eInt_c r1)), (4, .row 0 72 1 (eRowS_o z15))]⟩) (x0 := []) (x1 := 0) h ((Weak.nilB (l := [.rf 4099, .t (.s (.int .i64 a0v_Version))]) hT 4104 2 13288 72 rfl (by cbv) (by cbv) (by cbv)).trans (Weak.of _ [(1, 1), (2, 4104), (3, 4099), (4, 13288)] hA (by cbv) ?_)) (fun _ _ => rfl) ?_
  · repeat (first | exact hq0 | refine hq (by first | exact True.intro | rfl) ?_)
  · intro k z15 z16 h
    rw [impl_copyStore.l0] at h
    refine Run.seq ?_
    refine Run.region hL hT [] (by cbv) ?_ ?_
    · exact (hq trivial hq0)
    refine Run.seq ?_
    refine Run.cond (by cbv) (hq0) (fun c17 => ?_) (fun c17 => ?_)
    · have h := if_t c17 h
      refine Run.skip ?_
      refine Run.seq ?_
      refine Run.block ?_
      refine Run.seq ?_
      obtain ⟨x18, h_x18, h⟩ := bnd h
      refine Run.region hL hT [(0, .el [.im false (eRow_i x18)])] (by cbv) ?_ ?_
      · exact (hq (get_le h_x18) (hq (get_lt (f := RowS_i) h_x18) (hq (get_ge (f := RowS_i) h_x18) hq0)))
      obtain ⟨r19, h_r19, h⟩ := bnd h
      obtain ⟨l20, h_l20, h⟩ := bnd h
      obtain ⟨l21, h_l21, h⟩ := bnd h
      refine Run.draw hL hT hM [(3, .call [false] [.v (.jk)] [.v (.ow 38 (eRow_o r19))])] (by cbv) (by cbv) (by cbv) (by cbv) (by cbv) ?_ ?_
      · exact (hq trivial (hq (hC (impl_copyRows_ac h_r19)) (hq (app_mb (P := Try.prog) (f := RowS_o) RLe.r (some_le (f := RowS_o) h_l20 (RLe.cons rfl LLe.r RLe.nil)) h_l21) (hq trivial hq0))))
      refine Run.row (rows := (ap (eRowS_o z15) ([[.ow 38 (eRow_o r19)]]))) 108197 (eRowS_o l21) (by cbv) (app_le (f := RowS_o) RLe.r (some_le (f := RowS_o) h_l20 (RLe.cons rfl LLe.r RLe.nil)) h_l21) ?_
      refine Run.region hL hT [] (by cbv) ?_ ?_
      · exact (hq trivial hq0)
      refine ⟨l21, (ar .add .i64 z16 1), h, Weak.of _ [(1, 1), (2, 2), (3, 3), (4, 108197)] hA (by cbv) ?_⟩
      repeat (first | exact hq0 | refine hq (by first | exact True.intro | rfl) ?_)
    · have h := if_f c17 h
      refine Run.exit ?_
      refine Run.seq ?_
      refine Run.region hL hT [] (by cbv) ?_ ?_
      · exact (hq trivial (hq trivial hq0))
      refine Run.ret ?_
      cases h
      refine ⟨_, _, by cbv, ?_, ?_⟩
      · exact LLe.r
      · exact (ALe.ag rfl LLe.r ALe.nil)

set_option maxRecDepth 8000 in
theorem impl_noRow_ac {a0v_Id : Int} {a0v_Cells : List Int} {r : Bool} (h : impl_noRow.f (Row.mk a0v_Id a0v_Cells) = some r) : AC Try.prog 72 [.ag [.s (.int .i64 a0v_Id), .im false (rowsOf Int_c a0v_Cells)]] [.ag [.jk, .jk]] [.v (.s (.bool r))] := by
  unfold impl_noRow.f at h
  let ar := Ls.ar; let cm := Ls.cm; let bo := Ls.bo; let sc := Ls.sc; let sa := Ls.sa; let sx := Ls.sx; let ss := Ls.ss; let sl := Ls.sl; let bs := Ls.bs; let sb := Ls.sb; let ln := Ls.ln; let sr := Ls.sr; let ap := Ls.ap; let up := Ls.up; let rp := Ls.rp; let fr := Ls.fr; let ge := Ls.ge; let le := Ls.le; let lt := Ls.lt; let nz := Ls.nz; let mm := Ls.mm; let ma := Ls.ma; let sm := Ls.sm; let fl := Ls.fl; let al := Ls.al; let ci := Ls.ci
  let eInt_c := rowsOf Int_c
  let lenI_Int := @lenI Int
  have hL : (⟨ar, cm, bo, sc, sa, sx, ss, sl, bs, sb, ln, sr, ap, up, rp, fr, ge, le, lt, nz, mm, ma, sm, fl, al, ci⟩ : Lf) = Ls := rfl
  show AC Try.prog 72 [.ag [.s (.int .i64 a0v_Id), .im false (eInt_c a0v_Cells)]] _ _
  refine AC.of_run2 tab_ok Try.func72 (by rfl) (by rfl) (by cbv) ⟨by decide, rfl⟩ fun F hP hA => ?_
  have hT : TabOk F.P tab := hP ▸ tab_ok
  have hM : F.P.follows .mixedOrders = true := hP ▸ mixed
  have hC : ∀ {f a o r}, AC Try.prog f a o r → AC F.P f a o r := fun h => hP ▸ h
  refine Run.seq ?_
  refine Run.region hL hT [] (by cbv) ?_ ?_
  · exact hq0
  refine Run.seq ?_
  refine Run.region hL hT [] (by cbv) ?_ ?_
  · exact (hq trivial (hq trivial (hq (fun _ => hq0) (hq (fun g2 => (hq g2 (hq trivial hq0))) (hq (fun g3 => (hq g3 hq0)) (hq (fun g4 => (hq g4 (hq trivial hq0))) (hq (fun q5 => (hq q5 hq0)) (hq (fun _ => hq0) hq0))))))))
  rw [show ln (eInt_c a0v_Cells) = lenI_Int a0v_Cells from ln_eq Int_c _]
  refine Run.ret ?_
  cases h
  refine ⟨_, _, by cbv, ?_, ?_⟩
  · exact LLe.r
  · exact (ALe.v LLe.r ALe.nil)

set_option maxRecDepth 8000 in
theorem impl_changeFits_ac {a0v_Cols : List Int} {a1v_Table : Int} {a1v_Had : Bool} {a1v_Has : Bool} {a1v_Oldv_Id : Int} {a1v_Oldv_Cells : List Int} {a1v_Newv_Id : Int} {a1v_Newv_Cells : List Int} {r : Bool} (h : impl_changeFits.f (Schema.mk a0v_Cols) (Change.mk a1v_Table a1v_Had a1v_Has (Row.mk a1v_Oldv_Id a1v_Oldv_Cells) (Row.mk a1v_Newv_Id a1v_Newv_Cells)) = some r) : AC Try.prog 39 [.ag [.im false (rowsOf Int_c a0v_Cols)], .ag [.s (.int .i64 a1v_Table), .s (.bool a1v_Had), .s (.bool a1v_Has), .s (.int .i64 a1v_Oldv_Id), .im false (rowsOf Int_c a1v_Oldv_Cells), .s (.int .i64 a1v_Newv_Id), .im false (rowsOf Int_c a1v_Newv_Cells)]] [.ag [.jk], .ag [.jk, .jk, .jk, .jk, .jk, .jk, .jk]] [.v (.s (.bool r))] := by
  unfold impl_changeFits.f at h
  let ar := Ls.ar; let cm := Ls.cm; let bo := Ls.bo; let sc := Ls.sc; let sa := Ls.sa; let sx := Ls.sx; let ss := Ls.ss; let sl := Ls.sl; let bs := Ls.bs; let sb := Ls.sb; let ln := Ls.ln; let sr := Ls.sr; let ap := Ls.ap; let up := Ls.up; let rp := Ls.rp; let fr := Ls.fr; let ge := Ls.ge; let le := Ls.le; let lt := Ls.lt; let nz := Ls.nz; let mm := Ls.mm; let ma := Ls.ma; let sm := Ls.sm; let fl := Ls.fl; let al := Ls.al; let ci := Ls.ci
  let eInt_c := rowsOf Int_c
  have hL : (⟨ar, cm, bo, sc, sa, sx, ss, sl, bs, sb, ln, sr, ap, up, rp, fr, ge, le, lt, nz, mm, ma, sm, fl, al, ci⟩ : Lf) = Ls := rfl
  show AC Try.prog 39 [.ag [.im false (eInt_c a0v_Cols)], .ag [.s (.int .i64 a1v_Table), .s (.bool a1v_Had), .s (.bool a1v_Has), .s (.int .i64 a1v_Oldv_Id), .im false (eInt_c a1v_Oldv_Cells), .s (.int .i64 a1v_Newv_Id), .im false (eInt_c a1v_Newv_Cells)]] _ _
  refine AC.of_run2 tab_ok Try.func39 (by rfl) (by rfl) (by cbv) ⟨by decide, rfl⟩ fun F hP hA => ?_
  have hT : TabOk F.P tab := hP ▸ tab_ok
  have hM : F.P.follows .mixedOrders = true := hP ▸ mixed
  have hC : ∀ {f a o r}, AC Try.prog f a o r → AC F.P f a o r := fun h => hP ▸ h
  refine Run.seq ?_
  refine Run.region hL hT [] (by cbv) ?_ ?_
  · exact hq0
  refine Run.seq ?_
  obtain ⟨r1, h_r1, h⟩ := bnd h
  obtain ⟨r2, h_r2, h⟩ := bnd h
  refine Run.region hL hT [(8, .call [false, false, false] [.ag [.jk], .v (.jk), .ag [.jk, .jk]] [.v (.s (.bool r1))]), (17, .call [false] [.ag [.jk, .jk]] [.v (.s (.bool r2))])] (by cbv) ?_ ?_
  · exact (hq trivial (hq (fun g3 => (hq trivial hq0)) (hq (fun _ => hq0) (hq (fun g5 => (hq g5 (hq trivial hq0))) (hq (fun _ => hq0) (hq (fun g7 => (hq g7 (hq trivial hq0))) (hq (fun g8 => (hq g8 (hq g8 (hq g8 (hq (hC (impl_RowOk_ac (gd_t h_r1 g8))) hq0))))) (hq (fun q9 => (hq q9 hq0)) (hq (fun _ => hq0) (hq (fun _ => hq0) (hq (fun g12 => (hq g12 (hq trivial hq0))) (hq (fun g13 => (hq g13 hq0)) (hq (fun g14 => (hq g14 hq0)) (hq (fun _ => hq0) (hq (fun g16 => (hq g16 (hq trivial hq0))) (hq (fun g17 => (hq g17 (hq (hC (impl_noRow_ac (gd_t h_r2 g17))) hq0))) (hq (fun g18 => (hq g18 (hq (fun q19 => (hq (bo_a g18 q19) hq0)) (hq (fun _ => hq0) hq0)))) (hq (fun _ => hq0) (hq (fun q22 => (hq (bo_m q22) hq0)) hq0)))))))))))))))))))
  refine Run.seq ?_
  obtain ⟨r23, h_r23, h⟩ := bnd h
  obtain ⟨r24, h_r24, h⟩ := bnd h
  refine Run.region hL hT [(8, .call [false, false, false] [.ag [.jk], .v (.jk), .ag [.jk, .jk]] [.v (.s (.bool r23))]), (17, .call [false] [.ag [.jk, .jk]] [.v (.s (.bool r24))])] (by cbv) ?_ ?_
  · exact (hq trivial (hq (fun g25 => (hq trivial hq0)) (hq (fun _ => hq0) (hq (fun g27 => (hq g27 (hq trivial hq0))) (hq (fun _ => hq0) (hq (fun g29 => (hq g29 (hq trivial hq0))) (hq (fun g30 => (hq g30 (hq g30 (hq g30 (hq (hC (impl_RowOk_ac (gd_t h_r23 g30))) hq0))))) (hq (fun q31 => (hq q31 hq0)) (hq (fun _ => hq0) (hq (fun _ => hq0) (hq (fun g34 => (hq g34 (hq trivial hq0))) (hq (fun g35 => (hq g35 hq0)) (hq (fun g36 => (hq g36 hq0)) (hq (fun _ => hq0) (hq (fun g38 => (hq g38 (hq trivial hq0))) (hq (fun g39 => (hq g39 (hq (hC (impl_noRow_ac (gd_t h_r24 g39))) hq0))) (hq (fun g40 => (hq g40 (hq (fun q41 => (hq (bo_a g40 q41) hq0)) (hq (fun _ => hq0) hq0)))) (hq (fun _ => hq0) (hq (fun q44 => (hq (bo_m q44) hq0)) hq0)))))))))))))))))))
  refine Run.seq ?_
  obtain ⟨r45, h_r45, h⟩ := bnd h
  refine Run.region hL hT [(10, .call [false, false] [.ag [.jk], .v (.jk)] [.v (.s (.bool r45))])] (by cbv) ?_ ?_
  · exact (hq trivial (hq (fun _ => hq0) (hq (fun g47 => (hq g47 (hq trivial hq0))) (hq (fun _ => hq0) (hq (fun q49 => (hq (bo_m q49) hq0)) (hq (fun g50 => (hq trivial hq0)) (hq (fun _ => hq0) (hq (fun g52 => (hq g52 (hq trivial hq0))) (hq (fun g53 => (hq g53 (hq g53 (hq (hC (impl_hasTable_ac (gd_t h_r45 g53))) hq0)))) (hq (fun q54 => (hq q54 hq0)) (hq (fun _ => hq0) (hq (fun _ => hq0) (hq (fun q57 => (hq q57 hq0)) (hq (fun _ => hq0) (hq (fun _ => hq0) (hq (fun q60 => (hq q60 hq0)) (hq (fun _ => hq0) hq0)))))))))))))))))
  refine Run.ret ?_
  cases h
  refine ⟨_, _, by cbv, ?_, ?_⟩
  · exact LLe.r
  · exact (ALe.v LLe.r ALe.nil)

set_option maxRecDepth 8000 in
theorem impl_RowAt_1_ac {a0v_Id : Int} {a0v_Cells : List Int} {a1 : Int} {r : Bool} (h : impl_RowAt_1.f (Row.mk a0v_Id a0v_Cells) a1 = some r) : AC Try.prog 98 [.ag [.s (.int .i64 a0v_Id), .im false (rowsOf Int_c a0v_Cells)], .v (.ip [.s (.int .i64 a1)])] [.ag [.jk, .jk], .v (.jk)] [.v (.s (.bool r))] := by
  unfold impl_RowAt_1.f at h
  let ar := Ls.ar; let cm := Ls.cm; let bo := Ls.bo; let sc := Ls.sc; let sa := Ls.sa; let sx := Ls.sx; let ss := Ls.ss; let sl := Ls.sl; let bs := Ls.bs; let sb := Ls.sb; let ln := Ls.ln; let sr := Ls.sr; let ap := Ls.ap; let up := Ls.up; let rp := Ls.rp; let fr := Ls.fr; let ge := Ls.ge; let le := Ls.le; let lt := Ls.lt; let nz := Ls.nz; let mm := Ls.mm; let ma := Ls.ma; let sm := Ls.sm; let fl := Ls.fl; let al := Ls.al; let ci := Ls.ci
  let eInt_c := rowsOf Int_c
  have hL : (⟨ar, cm, bo, sc, sa, sx, ss, sl, bs, sb, ln, sr, ap, up, rp, fr, ge, le, lt, nz, mm, ma, sm, fl, al, ci⟩ : Lf) = Ls := rfl
  show AC Try.prog 98 [.ag [.s (.int .i64 a0v_Id), .im false (eInt_c a0v_Cells)], .v (.ip [.s (.int .i64 a1)])] _ _
  refine AC.of_run2 tab_ok Try.func98 (by rfl) (by rfl) (by cbv) ⟨by decide, rfl⟩ fun F hP hA => ?_
  have hT : TabOk F.P tab := hP ▸ tab_ok
  have hM : F.P.follows .mixedOrders = true := hP ▸ mixed
  have hC : ∀ {f a o r}, AC Try.prog f a o r → AC F.P f a o r := fun h => hP ▸ h
  refine Run.seq ?_
  refine Run.region hL hT [] (by cbv) ?_ ?_
  · exact hq0
  refine Run.seq ?_
  refine Run.region hL hT [] (by cbv) ?_ ?_
  · exact (hq trivial (hq trivial hq0))
  refine Run.ret ?_
  cases h
  refine ⟨_, _, by cbv, ?_, ?_⟩
  · exact LLe.r
  · exact (ALe.v LLe.r ALe.nil)

set_option maxRecDepth 8000 in
theorem slices_IndexFunc_impl_Row__impl_RowAt_1_ac {a0 : List Row} {a1c0 : Int} {r : Int} (h : slices_IndexFunc_impl_Row__impl_RowAt_1.f a0 a1c0 = some r) : AC Try.prog 97 [.v (.im false (rowsOf Row_i a0)), .v (.fn 98 [.ip [.s (.int .i64 a1c0)]])] [.v (.jk), .v (.jk)] [.v (.s (.int .i64 r))] := by
  unfold slices_IndexFunc_impl_Row__impl_RowAt_1.f at h
  let ar := Ls.ar; let cm := Ls.cm; let bo := Ls.bo; let sc := Ls.sc; let sa := Ls.sa; let sx := Ls.sx; let ss := Ls.ss; let sl := Ls.sl; let bs := Ls.bs; let sb := Ls.sb; let ln := Ls.ln; let sr := Ls.sr; let ap := Ls.ap; let up := Ls.up; let rp := Ls.rp; let fr := Ls.fr; let ge := Ls.ge; let le := Ls.le; let lt := Ls.lt; let nz := Ls.nz; let mm := Ls.mm; let ma := Ls.ma; let sm := Ls.sm; let fl := Ls.fl; let al := Ls.al; let ci := Ls.ci
  let eInt_c := rowsOf Int_c
  let eRow_i := rowsOf Row_i
  let lenI_Row := @lenI Row
  have hL : (⟨ar, cm, bo, sc, sa, sx, ss, sl, bs, sb, ln, sr, ap, up, rp, fr, ge, le, lt, nz, mm, ma, sm, fl, al, ci⟩ : Lf) = Ls := rfl
  show AC Try.prog 97 [.v (.im false (eRow_i a0)), .v (.fn 98 [.ip [.s (.int .i64 a1c0)]])] _ _
  refine AC.of_run2 tab_ok Try.func97 (by rfl) (by rfl) (by cbv) ⟨by decide, rfl⟩ fun F hP hA => ?_
  have hT : TabOk F.P tab := hP ▸ tab_ok
  have hM : F.P.follows .mixedOrders = true := hP ▸ mixed
  have hC : ∀ {f a o r}, AC Try.prog f a o r → AC F.P f a o r := fun h => hP ▸ h
  refine Run.weak ?_ (Weak.fnT 1 (by cbv))
  refine Run.seq ?_
  refine Run.region hL hT [] (by cbv) ?_ ?_
  · exact hq0
  refine Run.seq ?_
  refine Run.seq ?_
  refine Run.region hL hT [] (by cbv) ?_ ?_
  · exact hq0
  rw [show ln (eRow_i a0) = lenI_Row a0 from ln_eq Row_i _]
  refine Run.block ?_
  refine Run.loop1 (fun (z5 : Int) => ⟨19, 100000, [(0, .t (.im false (eRow_i a0))), (1, .fn 98 [.t (.ip [.s (.int .i64 a1c0)])]), (7, .t (.s (.int .i64 (lenI_Row a0)))), (8, .t (.s (.int .i64 z5)))], []⟩) (x0 := 0) h (Weak.of _ [] hA (by cbv) ?_) (fun _ => rfl) ?_
  · repeat (first | exact hq0 | refine hq (by first | exact True.intro | rfl) ?_)
  · intro k z5 h
    rw [slices_IndexFunc_impl_Row__impl_RowAt_1.l0] at h
    refine Run.seq ?_
    refine Run.region hL hT [] (by cbv) ?_ ?_
    · exact (hq trivial hq0)
    refine Run.seq ?_
    refine Run.cond (by cbv) (hq0) (fun c6 => ?_) (fun c6 => ?_)
    · have h := if_t c6 h
      refine Run.skip ?_
      refine Run.seq ?_
      refine Run.block ?_
      refine Run.seq ?_
      refine Run.region hL hT [] (by cbv) ?_ ?_
      · exact hq0
      refine Run.seq ?_
      obtain ⟨⟨x7v_Id, x7v_Cells⟩, h_x7, h⟩ := bnd h
      obtain ⟨r8, h_r8, h⟩ := bnd h
      refine Run.region hL hT [(3, .el [.s (.int .i64 x7v_Id), .im false (eInt_c x7v_Cells)]), (5, .call [false] [.ag [.jk, .jk], .v (.jk)] [.v (.s (.bool r8))])] (by cbv) ?_ ?_
      · exact (hq (get_le h_x7) (hq (get_lt (f := Row_i) h_x7) (hq (get_ge (f := Row_i) h_x7) (hq (hC (impl_RowAt_1_ac h_r8)) hq0))))
      refine Run.cond (by cbv) (hq0) (fun c9 => ?_) (fun c9 => ?_)
      · have h := if_t c9 h
        refine Run.seq ?_
        refine Run.region hL hT [] (by cbv) ?_ ?_
        · exact hq0
        refine Run.ret ?_
        cases h
        refine ⟨_, _, by cbv, ?_, ?_⟩
        · exact LLe.r
        · exact (ALe.v LLe.r ALe.nil)
      · have h := if_f c9 h
        refine Run.skip ?_
        refine Run.region hL hT [] (by cbv) ?_ ?_
        · exact (hq trivial hq0)
        refine ⟨(ar .add .i64 z5 1), h, Weak.of _ [] hA (by cbv) ?_⟩
        repeat (first | exact hq0 | refine hq (by first | exact True.intro | rfl) ?_)
    · have h := if_f c6 h
      refine Run.exit ?_
      refine Run.seq ?_
      refine Run.region hL hT [] (by cbv) ?_ ?_
      · exact hq0
      refine Run.ret ?_
      cases h
      refine ⟨_, _, by cbv, ?_, ?_⟩
      · exact LLe.r
      · exact (ALe.v LLe.r ALe.nil)

set_option maxRecDepth 8000 in
theorem impl_RowAt_ac {a0 : List Row} {a1 : Int} {r : Int} (h : impl_RowAt.f a0 a1 = some r) : AC Try.prog 74 [.v (.im false (rowsOf Row_i a0)), .v (.s (.int .i64 a1))] [.v (.jk), .v (.jk)] [.v (.s (.int .i64 r))] := by
  unfold impl_RowAt.f at h
  let ar := Ls.ar; let cm := Ls.cm; let bo := Ls.bo; let sc := Ls.sc; let sa := Ls.sa; let sx := Ls.sx; let ss := Ls.ss; let sl := Ls.sl; let bs := Ls.bs; let sb := Ls.sb; let ln := Ls.ln; let sr := Ls.sr; let ap := Ls.ap; let up := Ls.up; let rp := Ls.rp; let fr := Ls.fr; let ge := Ls.ge; let le := Ls.le; let lt := Ls.lt; let nz := Ls.nz; let mm := Ls.mm; let ma := Ls.ma; let sm := Ls.sm; let fl := Ls.fl; let al := Ls.al; let ci := Ls.ci
  let eRow_i := rowsOf Row_i
  have hL : (⟨ar, cm, bo, sc, sa, sx, ss, sl, bs, sb, ln, sr, ap, up, rp, fr, ge, le, lt, nz, mm, ma, sm, fl, al, ci⟩ : Lf) = Ls := rfl
  show AC Try.prog 74 [.v (.im false (eRow_i a0)), .v (.s (.int .i64 a1))] _ _
  refine AC.of_run2 tab_ok Try.func74 (by rfl) (by rfl) (by cbv) ⟨by decide, rfl⟩ fun F hP hA => ?_
  have hT : TabOk F.P tab := hP ▸ tab_ok
  have hM : F.P.follows .mixedOrders = true := hP ▸ mixed
  have hC : ∀ {f a o r}, AC Try.prog f a o r → AC F.P f a o r := fun h => hP ▸ h
  refine Run.seq ?_
  refine Run.region hL hT [] (by cbv) ?_ ?_
  · exact hq0
  refine Run.seq ?_
  obtain ⟨r1, h_r1, h⟩ := bnd h
  refine Run.region hL hT [(2, .call [false, false] [.v (.jk), .v (.jk)] [.v (.s (.int .i64 r1))])] (by cbv) ?_ ?_
  · exact (hq (hC (slices_IndexFunc_impl_Row__impl_RowAt_1_ac h_r1)) hq0)
  refine Run.ret ?_
  cases h
  refine ⟨_, _, by cbv, ?_, ?_⟩
  · exact LLe.r
  · exact (ALe.v LLe.r ALe.nil)

set_option maxRecDepth 8000 in
theorem slices_Equal_int_ac {a0 : List Int} {a1 : List Int} {r : Bool} (h : slices_Equal_int.f a0 a1 = some r) : AC Try.prog 99 [.v (.im false (rowsOf Int_c a0)), .v (.im false (rowsOf Int_c a1))] [.v (.jk), .v (.jk)] [.v (.s (.bool r))] := by
  unfold slices_Equal_int.f at h
  let ar := Ls.ar; let cm := Ls.cm; let bo := Ls.bo; let sc := Ls.sc; let sa := Ls.sa; let sx := Ls.sx; let ss := Ls.ss; let sl := Ls.sl; let bs := Ls.bs; let sb := Ls.sb; let ln := Ls.ln; let sr := Ls.sr; let ap := Ls.ap; let up := Ls.up; let rp := Ls.rp; let fr := Ls.fr; let ge := Ls.ge; let le := Ls.le; let lt := Ls.lt; let nz := Ls.nz; let mm := Ls.mm; let ma := Ls.ma; let sm := Ls.sm; let fl := Ls.fl; let al := Ls.al; let ci := Ls.ci
  let eInt_c := rowsOf Int_c
  let lenI_Int := @lenI Int
  have hL : (⟨ar, cm, bo, sc, sa, sx, ss, sl, bs, sb, ln, sr, ap, up, rp, fr, ge, le, lt, nz, mm, ma, sm, fl, al, ci⟩ : Lf) = Ls := rfl
  show AC Try.prog 99 [.v (.im false (eInt_c a0)), .v (.im false (eInt_c a1))] _ _
  refine AC.of_run2 tab_ok Try.func99 (by rfl) (by rfl) (by cbv) ⟨by decide, rfl⟩ fun F hP hA => ?_
  have hT : TabOk F.P tab := hP ▸ tab_ok
  have hM : F.P.follows .mixedOrders = true := hP ▸ mixed
  have hC : ∀ {f a o r}, AC Try.prog f a o r → AC F.P f a o r := fun h => hP ▸ h
  refine Run.seq ?_
  refine Run.region hL hT [] (by cbv) ?_ ?_
  · exact hq0
  refine Run.seq ?_
  refine Run.seq ?_
  refine Run.region hL hT [] (by cbv) ?_ ?_
  · exact (hq trivial hq0)
  rw [show ln (eInt_c a0) = lenI_Int a0 from ln_eq Int_c _]
  rw [show ln (eInt_c a1) = lenI_Int a1 from ln_eq Int_c _]
  refine Run.cond (by cbv) (hq0) (fun c1 => ?_) (fun c1 => ?_)
  · have h := if_t c1 h
    refine Run.seq ?_
    refine Run.region hL hT [] (by cbv) ?_ ?_
    · exact hq0
    refine Run.ret ?_
    cases h
    refine ⟨_, _, by cbv, ?_, ?_⟩
    · exact LLe.r
    · exact (ALe.v LLe.r ALe.nil)
  · have h := if_f c1 h
    refine Run.skip ?_
    refine Run.seq ?_
    refine Run.seq ?_
    refine Run.region hL hT [] (by cbv) ?_ ?_
    · exact hq0
    rw [show ln (eInt_c a0) = lenI_Int a0 from ln_eq Int_c _]
    refine Run.block ?_
    refine Run.loop1 (fun (z6 : Int) => ⟨26, 100000, [(0, .t (.im false (eInt_c a0))), (1, .t (.im false (eInt_c a1))), (12, .t (.s (.int .i64 (lenI_Int a0)))), (13, .t (.s (.int .i64 z6)))], []⟩) (x0 := 0) h (Weak.of _ [] hA (by cbv) ?_) (fun _ => rfl) ?_
    · repeat (first | exact hq0 | refine hq (by first | exact True.intro | rfl) ?_)
    · intro k z6 h
      rw [slices_Equal_int.l0] at h
      refine Run.seq ?_
      refine Run.region hL hT [] (by cbv) ?_ ?_
      · exact (hq trivial hq0)
      refine Run.seq ?_
      refine Run.cond (by cbv) (hq0) (fun c7 => ?_) (fun c7 => ?_)
      · have h := if_t c7 h
        refine Run.skip ?_
        refine Run.seq ?_
        refine Run.block ?_
        refine Run.seq ?_
        refine Run.region hL hT [] (by cbv) ?_ ?_
        · exact hq0
        refine Run.seq ?_
        obtain ⟨x8, h_x8, h⟩ := bnd h
        obtain ⟨x9, h_x9, h⟩ := bnd h
        refine Run.draw hL hT hM [(2, .el [.s (.int .i64 x8)]), (6, .el [.s (.int .i64 x9)])] (by cbv) (by cbv) (by cbv) (by cbv) (by cbv) ?_ ?_
        · exact (hq (get_le h_x8) (hq (get_lt (f := Int_c) h_x8) (hq (get_ge (f := Int_c) h_x8) (hq (get_le h_x9) (hq (get_lt (f := Int_c) h_x9) (hq (get_ge (f := Int_c) h_x9) (hq trivial hq0)))))))
        refine Run.cond (by cbv) (hq0) (fun c10 => ?_) (fun c10 => ?_)
        · have h := if_t c10 h
          refine Run.seq ?_
          refine Run.region hL hT [] (by cbv) ?_ ?_
          · exact hq0
          refine Run.ret ?_
          cases h
          refine ⟨_, _, by cbv, ?_, ?_⟩
          · exact LLe.r
          · exact (ALe.v LLe.r ALe.nil)
        · have h := if_f c10 h
          refine Run.skip ?_
          refine Run.region hL hT [] (by cbv) ?_ ?_
          · exact (hq trivial hq0)
          refine ⟨(ar .add .i64 z6 1), h, Weak.of _ [] hA (by cbv) ?_⟩
          repeat (first | exact hq0 | refine hq (by first | exact True.intro | rfl) ?_)
      · have h := if_f c7 h
        refine Run.exit ?_
        refine Run.seq ?_
        refine Run.region hL hT [] (by cbv) ?_ ?_
        · exact hq0
        refine Run.ret ?_
        cases h
        refine ⟨_, _, by cbv, ?_, ?_⟩
        · exact LLe.r
        · exact (ALe.v LLe.r ALe.nil)

set_option maxRecDepth 8000 in
theorem impl_RowSame_ac {a0v_Id : Int} {a0v_Cells : List Int} {a1v_Id : Int} {a1v_Cells : List Int} {r : Bool} (h : impl_RowSame.f (Row.mk a0v_Id a0v_Cells) (Row.mk a1v_Id a1v_Cells) = some r) : AC Try.prog 75 [.ag [.s (.int .i64 a0v_Id), .im false (rowsOf Int_c a0v_Cells)], .ag [.s (.int .i64 a1v_Id), .im false (rowsOf Int_c a1v_Cells)]] [.ag [.jk, .jk], .ag [.jk, .jk]] [.v (.s (.bool r))] := by
  unfold impl_RowSame.f at h
  let ar := Ls.ar; let cm := Ls.cm; let bo := Ls.bo; let sc := Ls.sc; let sa := Ls.sa; let sx := Ls.sx; let ss := Ls.ss; let sl := Ls.sl; let bs := Ls.bs; let sb := Ls.sb; let ln := Ls.ln; let sr := Ls.sr; let ap := Ls.ap; let up := Ls.up; let rp := Ls.rp; let fr := Ls.fr; let ge := Ls.ge; let le := Ls.le; let lt := Ls.lt; let nz := Ls.nz; let mm := Ls.mm; let ma := Ls.ma; let sm := Ls.sm; let fl := Ls.fl; let al := Ls.al; let ci := Ls.ci
  let eInt_c := rowsOf Int_c
  have hL : (⟨ar, cm, bo, sc, sa, sx, ss, sl, bs, sb, ln, sr, ap, up, rp, fr, ge, le, lt, nz, mm, ma, sm, fl, al, ci⟩ : Lf) = Ls := rfl
  show AC Try.prog 75 [.ag [.s (.int .i64 a0v_Id), .im false (eInt_c a0v_Cells)], .ag [.s (.int .i64 a1v_Id), .im false (eInt_c a1v_Cells)]] _ _
  refine AC.of_run2 tab_ok Try.func75 (by rfl) (by rfl) (by cbv) ⟨by decide, rfl⟩ fun F hP hA => ?_
  have hT : TabOk F.P tab := hP ▸ tab_ok
  have hM : F.P.follows .mixedOrders = true := hP ▸ mixed
  have hC : ∀ {f a o r}, AC Try.prog f a o r → AC F.P f a o r := fun h => hP ▸ h
  refine Run.seq ?_
  refine Run.region hL hT [] (by cbv) ?_ ?_
  · exact hq0
  refine Run.seq ?_
  obtain ⟨r1, h_r1, h⟩ := bnd h
  refine Run.region hL hT [(10, .call [false, false] [.v (.jk), .v (.jk)] [.v (.s (.bool r1))])] (by cbv) ?_ ?_
  · exact (hq trivial (hq trivial (hq trivial (hq (fun _ => hq0) (hq (fun g3 => (hq g3 (hq trivial hq0))) (hq (fun _ => hq0) (hq (fun g5 => (hq g5 (hq trivial hq0))) (hq (fun g6 => (hq g6 (hq g6 (hq (hC (slices_Equal_int_ac (gd_t h_r1 g6))) hq0)))) (hq (fun q7 => (hq q7 hq0)) (hq (fun _ => hq0) hq0))))))))))
  refine Run.ret ?_
  cases h
  refine ⟨_, _, by cbv, ?_, ?_⟩
  · exact LLe.r
  · exact (ALe.v LLe.r ALe.nil)

set_option maxRecDepth 8000 in
theorem slices_Delete_impl_Row_ac {a0 : List Row} {a1 a2 : Int} {r : List Row} (h : slices_Delete_impl_Row.f a0 a1 a2 = some r) : AC Try.prog 100 [.v (.ow 38 (rowsOf Row_o a0)), .v (.s (.int .i64 a1)), .v (.s (.int .i64 a2))] [.v .jk, .v .jk, .v .jk] [.v (.ow 38 (rowsOf Row_o r))] := by
  unfold slices_Delete_impl_Row.f delO at h
  split at h
  · rename_i hc
    obtain ⟨c0, c1, c2⟩ := hc
    obtain ⟨i, rfl⟩ : ∃ k : Nat, a1 = k := ⟨a1.toNat, by omega⟩
    obtain ⟨j, rfl⟩ : ∃ k : Nat, a2 = k := ⟨a2.toNat, by omega⟩
    simp only [Option.some.injEq] at h
    subst h
    have hr : rowsOf Row_o (a0.take ((i : Nat) : Int).toNat ++ a0.drop ((j : Nat) : Int).toNat) = (rowsOf Row_o a0).take i ++ (rowsOf Row_o a0).drop j := by simp [rowsOf, List.map_take, List.map_drop]
    rw [hr]
    have hl := rowsOf_len Row_o a0
    generalize rowsOf Row_o a0 = R at *
    obtain ⟨D3, hD3⟩ : ∃ D, D = R.take i ++ R.drop j := ⟨_, rfl⟩
    rw [← hD3]
    have c1 : i ≤ j := by omega
    have c2 : j ≤ R.length := by omega
    have hlR : Ls.ln R = (R.length : Int) := rfl
    let ar := Ls.ar; let cm := Ls.cm; let bo := Ls.bo; let sc := Ls.sc; let sa := Ls.sa; let sx := Ls.sx; let ss := Ls.ss; let sl := Ls.sl; let bs := Ls.bs; let sb := Ls.sb; let ln := Ls.ln; let sr := Ls.sr; let ap := Ls.ap; let up := Ls.up; let rp := Ls.rp; let fr := Ls.fr; let ge := Ls.ge; let le := Ls.le; let lt := Ls.lt; let nz := Ls.nz; let mm := Ls.mm; let ma := Ls.ma; let sm := Ls.sm; let fl := Ls.fl; let al := Ls.al; let ci := Ls.ci
    have hL : (⟨ar, cm, bo, sc, sa, sx, ss, sl, bs, sb, ln, sr, ap, up, rp, fr, ge, le, lt, nz, mm, ma, sm, fl, al, ci⟩ : Lf) = Ls := rfl
    refine AC.of_run2 tab_ok Try.func100 (by rfl) (by rfl) (by cbv) ⟨by decide, rfl⟩ fun F hP hA => ?_
    have hT : TabOk F.P tab := hP ▸ tab_ok
    have hM : F.P.follows .mixedOrders = true := hP ▸ mixed
    refine Run.seq ?_
    refine Run.region hL hT [] (by cbv) ?_ ?_
    · exact hq0
    refine Run.seq ?_
    refine Run.region hL hT [(5, .hd [0] .u [])] (by cbv) ?_ ?_
    · exact hq (hand_slice3r (hT 72 _ rfl) rfl (hT 38 _ rfl) (by omega) (by omega) (by show (j : Int) ≤ (R.length : Int); omega) (Int.le_refl _)) hq0
    refine Run.seq ?_
    refine Run.seq ?_
    refine Run.region hL hT [] (by cbv) ?_ ?_
    · exact hq trivial hq0
    refine Run.cond (by cbv) hq0 (fun c => ?_) (fun c => ?_)
    · have e : (i : Int) = j := of_decide_eq_true c
      obtain rfl : i = j := by omega
      rw [List.take_append_drop] at hD3
      subst hD3
      refine Run.seq ?_
      refine Run.region hL hT [] (by cbv) ?_ ?_
      · exact hq0
      refine Run.weak ?_ (Weak.mv (v := .rf 0) 0 900000 6 (by cbv) (by cbv) (by cbv) (by cbv))
      refine Run.ret ?_
      refine ⟨_, _, by cbv, ?_, ?_⟩
      · exact LLe.r
      · exact ALe.r
    have e : ¬ (i : Int) = j := of_decide_eq_false c
    have c1 : i < j := by omega
    obtain ⟨D1, hD1⟩ : ∃ D, D = delR R i j R.length 2 := ⟨_, rfl⟩
    obtain ⟨D2, hD2⟩ : ∃ D, D = delR D1 (i + (R.length - j)) D1.length D1.length 2 := ⟨_, rfl⟩
    have hl1 : D1.length = R.length := by rw [hD1]; exact delR_len (by omega) (by omega) (Nat.le_refl _)
    have hl2 : D2.take (i + (R.length - j)) = D3 := by rw [hD3]; rw [hD2, hl1, hD1]; exact delR_take2 (by omega) (by omega)
    have hj1 := hand_append_in (P := F.P) (x := .tmp 22) (y := .tmp 25) (id := 0) (ver := 0) (hT 72 _ rfl) rfl (hT 38 _ rfl) (h := R.length) (rows := R) c1 c2 (Nat.le_refl _) (rfl : ((i + (R.length - j) : Nat) : Int) = _)
    rw [← hD1] at hj1
    obtain ⟨ki, hki⟩ : ∃ k : Int, k = ((i + (R.length - j) : Nat) : Int) := ⟨_, rfl⟩
    rw [← hki] at hj1
    refine Run.skip ?_
    refine Run.seq ?_
    refine Run.region hL hT [] (by cbv) ?_ ?_
    · exact hq0
    refine Run.seq ?_
    refine Run.draw hL hT hM [(6, .hd [0] (.sb 0 0 ki) [(0, .row 1 38 2 D1)])] (by cbv) (by cbv) (by cbv) (by cbv) (by cbv) ?_ ?_
    · exact hq (Int.le_refl _) (hq (by show (0 : Int) ≤ (i : Int); omega) (hq (by show (i : Int) ≤ (R.length : Int); omega) (hq (by show (0 : Int) ≤ (j : Int); omega) (hq (by show (j : Int) ≤ (R.length : Int); omega) (hq (Int.le_refl _) (hq hj1 hq0))))))
    refine Run.seq ?_
    refine Run.region hL hT [(2, .hd [0] (.t (.s (.int .i64 ki))) []), (4, .hd [0] (.sb 0 ki (ln R)) []), (5, .hd [0] .u [(0, .row 2 38 2 D2)])] (by cbv) ?_ ?_
    · have hj2 := hand_clear (P := F.P) (x := .tmp 31) (id := 0) (ver := 1) (hT 72 _ rfl) rfl (hT 38 _ rfl) (by simp) (b0 := i + (R.length - j)) (b1 := R.length) (rows := D1) (by omega) (by omega)
      rw [← hD2, ← hki] at hj2
      exact hq (hand_len (hT 72 _ rfl) rfl (by omega)) (hq (hand_slice (hT 72 _ rfl) rfl (hT 38 _ rfl) (l := ki) (hh := R.length) rfl (.inr ⟨_, _, rfl, rfl⟩) (.inr ⟨_, _, rfl, rfl⟩) (by omega) (by omega) (by show (0 : Int) + (R.length : Int) ≤ (D1.length : Int); omega) (by omega) (by show (R.length : Int) = _; omega)) (hq hj2 hq0))
    refine Run.seq ?_
    refine Run.region hL hT [] (by cbv) ?_ ?_
    · exact hq0
    refine Run.weak ?_ (Weak.shrink 0 900000 6 (by cbv) (by cbv) (by cbv) (by cbv) hki _ hl2)
    refine Run.ret ?_
    refine ⟨_, _, by cbv, ?_, ?_⟩
    · exact LLe.r
    · exact ALe.r
  · cases h

set_option maxRecDepth 8000 in
theorem impl_RowDrop_ac {a0 : List Row} {a1 : Int} {r : (List Row)} (h : impl_RowDrop.f a0 a1 = some r) : AC Try.prog 76 [.v (.im false (rowsOf Row_i a0)), .v (.s (.int .i64 a1))] [.v (.jk), .v (.jk)] [.v (.ow 38 (rowsOf Row_o r))] := by
  unfold impl_RowDrop.f at h
  let ar := Ls.ar; let cm := Ls.cm; let bo := Ls.bo; let sc := Ls.sc; let sa := Ls.sa; let sx := Ls.sx; let ss := Ls.ss; let sl := Ls.sl; let bs := Ls.bs; let sb := Ls.sb; let ln := Ls.ln; let sr := Ls.sr; let ap := Ls.ap; let up := Ls.up; let rp := Ls.rp; let fr := Ls.fr; let ge := Ls.ge; let le := Ls.le; let lt := Ls.lt; let nz := Ls.nz; let mm := Ls.mm; let ma := Ls.ma; let sm := Ls.sm; let fl := Ls.fl; let al := Ls.al; let ci := Ls.ci
  let eRow_i := rowsOf Row_i
  let eRow_o := rowsOf Row_o
  have hL : (⟨ar, cm, bo, sc, sa, sx, ss, sl, bs, sb, ln, sr, ap, up, rp, fr, ge, le, lt, nz, mm, ma, sm, fl, al, ci⟩ : Lf) = Ls := rfl
  show AC Try.prog 76 [.v (.im false (eRow_i a0)), .v (.s (.int .i64 a1))] _ _
  refine AC.of_run2 tab_ok Try.func76 (by rfl) (by rfl) (by cbv) ⟨by decide, rfl⟩ fun F hP hA => ?_
  have hT : TabOk F.P tab := hP ▸ tab_ok
  have hM : F.P.follows .mixedOrders = true := hP ▸ mixed
  have hC : ∀ {f a o r}, AC Try.prog f a o r → AC F.P f a o r := fun h => hP ▸ h
  refine Run.seq ?_
  refine Run.region hL hT [] (by cbv) ?_ ?_
  · exact hq0
  refine Run.seq ?_
  obtain ⟨r1, h_r1, h⟩ := bnd h
  refine Run.region hL hT [(1, .call [false] [.v (.jk)] [.v (.ow 38 (eRow_o r1))])] (by cbv) ?_ ?_
  · exact (hq (hC (impl_copyRows_ac h_r1)) hq0)
  refine Run.seq ?_
  obtain ⟨r2, h_r2, h⟩ := bnd h
  refine Run.region hL hT [(2, .call [false, false] [.v (.jk), .v (.jk)] [.v (.s (.int .i64 r2))])] (by cbv) ?_ ?_
  · exact (hq (hC (impl_RowAt_ac h_r2)) hq0)
  refine Run.seq ?_
  refine Run.seq ?_
  refine Run.region hL hT [] (by cbv) ?_ ?_
  · exact (hq trivial hq0)
  refine Run.cond (by cbv) (hq0) (fun c3 => ?_) (fun c3 => ?_)
  · have h := if_t c3 h
    obtain ⟨r4, h_r4, h⟩ := bnd h
    refine Run.region hL hT [(4, .call [true, false, false] [.v (.jk), .v (.jk), .v (.jk)] [.v (.ow 38 (eRow_o r4))])] (by cbv) ?_ ?_
    · exact (hq trivial (hq (hC (slices_Delete_impl_Row_ac h_r4)) hq0))
    refine Run.seq ?_
    refine Run.region hL hT [] (by cbv) ?_ ?_
    · exact hq0
    refine Run.ret ?_
    cases h
    refine ⟨_, _, by cbv, ?_, ?_⟩
    · exact LLe.r
    · exact (ALe.v LLe.r ALe.nil)
  · have h := if_f c3 h
    refine Run.skip ?_
    refine Run.seq ?_
    refine Run.region hL hT [] (by cbv) ?_ ?_
    · exact hq0
    refine Run.ret ?_
    cases h
    refine ⟨_, _, by cbv, ?_, ?_⟩
    · exact LLe.r
    · exact (ALe.v LLe.r ALe.nil)

set_option maxHeartbeats 4000000 in
set_option maxRecDepth 100000 in
theorem slices_Insert_impl_Row_end0 (w : World) (g2 c2 : Nat)
  (v' : Value) (w' : World) (hrun : (Builtin.append_ #[72, 72] 72 #[.slice none 0 0, .slice (some ⟨g2, 0, none⟩) 1 c2]).run Try.prog w = .ok v' w') :
  Calls Try.prog 102 #[.slice none 0 0, .int .i64 0, .slice (some ⟨g2, 0, none⟩) 1 c2] w fun ex w2 => ex = .returned v' ∧ w2 = w' := by
  go_enter Try.func102, Try.ntmps102
  go_wp2_with (at_builtin; refine wpList_run rfl (exec_append rfl rfl rfl hrun) ?_)
  all_goals go_ret
  all_goals exact ⟨rfl, rfl⟩

set_option maxHeartbeats 4000000 in
set_option maxRecDepth 100000 in
theorem slices_Insert_impl_Row_end (w : World) (g c g2 c2 n : Nat) (hnc : n ≤ c)
  (v' : Value) (w' : World) (hrun : (Builtin.append_ #[72, 72] 72 #[.slice (some ⟨g, 0, none⟩) n c, .slice (some ⟨g2, 0, none⟩) 1 c2]).run Try.prog w = .ok v' w') :
  Calls Try.prog 102 #[.slice (some ⟨g, 0, none⟩) n c, .int .i64 n, .slice (some ⟨g2, 0, none⟩) 1 c2] w fun ex w2 => ex = .returned v' ∧ w2 = w' := by
  go_enter Try.func102, Try.ntmps102
  go_wp2_with (at_builtin; refine wpList_run rfl (exec_append rfl rfl rfl hrun) ?_)
  all_goals go_ret
  all_goals exact ⟨rfl, rfl⟩

set_option maxHeartbeats 4000000 in
set_option maxRecDepth 100000 in
theorem slices_Insert_impl_Row_in (w : World) (g c g2 c2 n i : Nat) (cur cur2 A B : Array Value) (hi : i < n) (hroom : n + 1 ≤ c) (hc63 : c ≤ maxLen) (hne : g2 ≠ g) (hg : w.heap[g]? = some (.cells cur 38 (0, 0))) (hcs : cur.size = c * 2) (hg2 : w.heap[g2]? = some (.cells cur2 38 (0, 0)))
  (hcp1 : ∀ ty dc sc, (Builtin.copy_ #[72, 72] ty #[.slice (some ⟨g, (i + 1) * 2, none⟩) (n + 1 - (i + 1)) dc, .slice (some ⟨g, i * 2, none⟩) (n + 1 - i) sc]).run Try.prog w.drew = .ok (goInt (n - i : Nat)) (w.drew.setRow g A))
  (hcp2 : ∀ ty dc, (Builtin.copy_ #[72, 72] ty #[.slice (some ⟨g, i * 2, none⟩) (n + 1 - i) dc, .slice (some ⟨g2, 0, none⟩) 1 c2]).run Try.prog (w.drew.setRow g A) = .ok (goInt (1 : Nat)) ((w.drew.setRow g A).setRow g B)) :
  Calls Try.prog 102 #[.slice (some ⟨g, 0, none⟩) n c, .int .i64 i, .slice (some ⟨g2, 0, none⟩) 1 c2] w fun ex w2 => ex = .returned (.slice (some ⟨g, 0, none⟩) (n + 1) c) ∧ w2 = (w.drew.setRow g A).setRow g B := by
  have mixed := mixed
  have TE : TyOk Try.prog 38 _ := tab_ok 38 _ rfl
  have TS : TyOk Try.prog 72 _ := tab_ok 72 _ rfl
  obtain ⟨ti, hti, htz, htb, _⟩ := TE.info
  have u92 := TS.isS rfl
  have hz1 : ¬ ((1 : Int) = 0) := by omega
  have hz2 : ¬ ((i : Int) = (n : Int)) := by omega
  have hw1 : IntKind.i64.wrap ((i : Int) + (1 : Int)) = (i : Int) + (1 : Int) := by unfold maxLen at hc63; rw [IntKind.wrap_i64]; omega
  have hw2 : IntKind.i64.wrap ((n : Int) + (1 : Int)) = (n : Int) + (1 : Int) := by unfold maxLen at hc63; rw [IntKind.wrap_i64]; omega
  have hb1 : (0 : Int) ≤ (i : Int) + (1 : Int) := by omega
  have hin : i ≤ n := by omega
  have htn : ((i : Int) + (1 : Int)).toNat = i + 1 := by omega
  have hb2 : ¬ (c = i + 1) := by omega
  have hb3 : (i : Int) ≤ (n : Int) + (1 : Int) := by omega
  have hb4 : ¬ (c = i) := by omega
  have hov : ∀ lb cb o, (callFunc 105 #[.slice (some ⟨g2, 0, none⟩) 1 c2, .slice (some ⟨g, o, none⟩) lb cb]).run Try.prog w = .ok (.value (.bool false)) w := fun lb cb o => by
    rw [run_callFunc_extern Try.func105 (by kernel_rfl) (by kernel_rfl) (by kernel_rfl) (e := Extern.SlicesOverlaps.overlaps #[72, 72] #[4]) (by kernel_rfl),
      Lib.run_overlaps_apart w 72 4 38 u92 2 (fun w => by simp [sizeOf, typeInfo, hti, htz]) ⟨g2, 0, none⟩ ⟨g, o, none⟩ 1 c2 lb cb hne 38 38 cur2.size cur.size (by simp [World.shape?, hg2]) (by simp [World.shape?, hg]) (by omega) (by simp [World.frozen?, hg2]) (by simp [World.frozen?, hg2])]
    rfl
  go_enter Try.func102, Try.ntmps102
  go_wp2_with (simp only [hov])
  go_region_law_o (refine step_run rfl (exec_copy rfl (by simp [Act.eval, Act.put]; rfl) (by simp [Act.eval, Act.put]; rfl) (hcp1 _ _ _)) ?_)
  go_wp2_with (at_builtin; refine wpList_run rfl (exec_copy rfl rfl rfl (hcp2 _ _)) ?_)
  go_ret
  exact ⟨rfl, rfl⟩

set_option maxHeartbeats 4000000 in
set_option maxRecDepth 100000 in
theorem slices_Insert_impl_Row_grow (w : World) (g c g2 c2 n i G : Nat) (R A B : Array Value) (hi : i < n) (hnc : n ≤ c) (hroom : c < n + 1) (hc63 : n + 1 ≤ maxLen) (hG : n + 1 ≤ G) (hGm : G ≤ maxLen)
  (hrz : ∀ ty, (Builtin.append_ #[72, 3] ty #[.slice (some ⟨g, 0, none⟩) i c, .int .i64 ((n : Int) + 1 - i)]).run Try.prog w = .ok (.slice (some ⟨w.heap.size, 0, none⟩) (n + 1) G) (w.drew.alloc (.cells R 38)))
  (hcp2 : ∀ ty dc, (Builtin.copy_ #[72, 72] ty #[.slice (some ⟨w.heap.size, i * 2, none⟩) (n + 1 - i) dc, .slice (some ⟨g2, 0, none⟩) 1 c2]).run Try.prog (w.alloc (.cells R 38)).drew = .ok (goInt (1 : Nat)) ((w.alloc (.cells R 38)).drew.setRow w.heap.size A))
  (hcp1 : ∀ ty dc sc, (Builtin.copy_ #[72, 72] ty #[.slice (some ⟨w.heap.size, (i + 1) * 2, none⟩) (n + 1 - (i + 1)) dc, .slice (some ⟨g, i * 2, none⟩) (n - i) sc]).run Try.prog ((w.alloc (.cells R 38)).drew.setRow w.heap.size A).drew = .ok (goInt (n - i : Nat)) (((w.alloc (.cells R 38)).drew.setRow w.heap.size A).drew.setRow w.heap.size B)) :
  Calls Try.prog 102 #[.slice (some ⟨g, 0, none⟩) n c, .int .i64 i, .slice (some ⟨g2, 0, none⟩) 1 c2] w fun ex w2 => ex = .returned (.slice (some ⟨w.heap.size, 0, none⟩) (n + 1) G) ∧ w2 = ((w.alloc (.cells R 38)).drew.setRow w.heap.size A).drew.setRow w.heap.size B := by
  have mixed := mixed
  have hz1 : ¬ ((1 : Int) = 0) := by omega
  have hz2 : ¬ ((i : Int) = (n : Int)) := by omega
  have hz3 : (c : Int) < (n : Int) + (1 : Int) := by omega
  have hw1 : IntKind.i64.wrap ((i : Int) + (1 : Int)) = (i : Int) + (1 : Int) := by unfold maxLen at hc63; rw [IntKind.wrap_i64]; omega
  have hw2 : IntKind.i64.wrap ((n : Int) + (1 : Int)) = (n : Int) + (1 : Int) := by unfold maxLen at hc63; rw [IntKind.wrap_i64]; omega
  have hw3 : IntKind.i64.wrap ((n : Int) + (1 : Int) - (i : Int)) = (n : Int) + (1 : Int) - (i : Int) := by unfold maxLen at hc63; rw [IntKind.wrap_i64]; omega
  have hb1 : (0 : Int) ≤ (i : Int) + (1 : Int) := by omega
  have hin : i ≤ n := by omega
  have htn : ((i : Int) + (1 : Int)).toNat = i + 1 := by omega
  have hGi : ¬ (G = i) := by omega
  have hGim : ¬ (G = i + 1) := by omega
  have hci : ¬ (c = i) := by omega
  have hb3 : (i : Int) ≤ (n : Int) := by omega
  go_enter Try.func102, Try.ntmps102
  go_wp2_with (first
    | (at_builtin; refine wpList_run rfl (exec_append rfl rfl rfl (hrz _)) ?_)
    | (at_builtin; refine wpList_run rfl (exec_copy rfl rfl rfl (hcp2 _ _)) ?_))
  go_region_law_o (refine step_run rfl (exec_copy rfl (by simp [Act.eval, Act.put]; rfl) (by simp [Act.eval, Act.put]; rfl) (hcp1 _ _ _)) ?_)
  go_wp2
  go_ret
  exact ⟨rfl, rfl⟩
theorem slices_Insert_impl_Row_roads : Roads Try.prog 102 72 38 2 3 where
  end0 := fun w g2 c2 v' w' h => slices_Insert_impl_Row_end0 w g2 c2 v' w' h
  end1 := fun w g c g2 c2 n v' w' hnc h => slices_Insert_impl_Row_end w g c g2 c2 n hnc v' w' h
  inn := fun w g c g2 c2 n i cur cur2 A B h1 h2 h3 h4 h5 h6 h7 h8 h9 => slices_Insert_impl_Row_in w g c g2 c2 n i cur cur2 A B h1 h2 h3 h4 h5 h6 h7 h8 h9
  grow := fun w g c g2 c2 n i G R A B h1 h2 h3 h4 h5 h6 h7 h8 h9 => slices_Insert_impl_Row_grow w g c g2 c2 n i G R A B h1 h2 h3 h4 h5 h6 h7 h8 h9
theorem slices_Insert_impl_Row_ac {a0 a2 : List Row} {a1 : Int} {r : List Row} (h : slices_Insert_impl_Row.f a0 a1 a2 = some r) : AC Try.prog 102 [.v (.ow 38 (rowsOf Row_o a0)), .v (.s (.int .i64 a1)), .v (.ow 38 (rowsOf Row_o a2))] [.v .jk, .v .jk, .v .jk] [.v (.ow 38 (rowsOf Row_o r))] := by
  unfold slices_Insert_impl_Row.f insO at h
  split at h
  · rename_i hc
    obtain ⟨h1, c0, c1, c2, c3⟩ := hc
    obtain ⟨i, rfl⟩ : ∃ k : Nat, a1 = k := ⟨a1.toNat, by omega⟩
    obtain ⟨x, rfl⟩ := List.length_eq_one_iff.1 h1
    simp only [Option.some.injEq] at h
    subst h
    have hr : rowsOf Row_o (a0.take ((i : Nat) : Int).toNat ++ [x] ++ a0.drop ((i : Nat) : Int).toNat) = (rowsOf Row_o a0).take i ++ [Row_o x] ++ (rowsOf Row_o a0).drop i := by simp [rowsOf, List.map_take, List.map_drop]
    rw [hr]
    have hl := rowsOf_len Row_o a0
    simp only [List.length_singleton] at c2 c3
    exact AC.of_ins ⟨_, Try.func102, by rfl, by rfl⟩ (cellsOf_ty (tab_ok 38 _ rfl)) (slices_Insert_impl_Row_roads.raw (tab_ok 72 _ rfl) rfl (tab_ok 38 _ rfl) (by simp) (underlying_int (tab_ok 3 _ rfl) rfl)) (by omega) (by rw [hl]; show (a0.length + 1) * 32 ≤ _; omega) (by omega)
  · cases h


set_option maxRecDepth 8000 in
theorem impl_RowPut_1_ac {a0v_Id : Int} {a0v_Cells : List Int} {a1v_Id : Int} {a1v_Cells : List Int} {r : Bool} (h : impl_RowPut_1.f (Row.mk a0v_Id a0v_Cells) (Row.mk a1v_Id a1v_Cells) = some r) : AC Try.prog 101 [.ag [.s (.int .i64 a0v_Id), .im false (rowsOf Int_c a0v_Cells)], .v (.ip [.s (.int .i64 a1v_Id), .im false (rowsOf Int_c a1v_Cells)])] [.ag [.jk, .jk], .v (.jk)] [.v (.s (.bool r))] := by
  unfold impl_RowPut_1.f at h
  let ar := Ls.ar; let cm := Ls.cm; let bo := Ls.bo; let sc := Ls.sc; let sa := Ls.sa; let sx := Ls.sx; let ss := Ls.ss; let sl := Ls.sl; let bs := Ls.bs; let sb := Ls.sb; let ln := Ls.ln; let sr := Ls.sr; let ap := Ls.ap; let up := Ls.up; let rp := Ls.rp; let fr := Ls.fr; let ge := Ls.ge; let le := Ls.le; let lt := Ls.lt; let nz := Ls.nz; let mm := Ls.mm; let ma := Ls.ma; let sm := Ls.sm; let fl := Ls.fl; let al := Ls.al; let ci := Ls.ci
  let eInt_c := rowsOf Int_c
  have hL : (⟨ar, cm, bo, sc, sa, sx, ss, sl, bs, sb, ln, sr, ap, up, rp, fr, ge, le, lt, nz, mm, ma, sm, fl, al, ci⟩ : Lf) = Ls := rfl
  show AC Try.prog 101 [.ag [.s (.int .i64 a0v_Id), .im false (eInt_c a0v_Cells)], .v (.ip [.s (.int .i64 a1v_Id), .im false (eInt_c a1v_Cells)])] _ _
  refine AC.of_run2 tab_ok Try.func101 (by rfl) (by rfl) (by cbv) ⟨by decide, rfl⟩ fun F hP hA => ?_
  have hT : TabOk F.P tab := hP ▸ tab_ok
  have hM : F.P.follows .mixedOrders = true := hP ▸ mixed
  have hC : ∀ {f a o r}, AC Try.prog f a o r → AC F.P f a o r := fun h => hP ▸ h
  refine Run.seq ?_
  refine Run.region hL hT [] (by cbv) ?_ ?_
  · exact hq0
  refine Run.seq ?_
  refine Run.region hL hT [] (by cbv) ?_ ?_
  · exact (hq trivial (hq trivial hq0))
  refine Run.ret ?_
  cases h
  refine ⟨_, _, by cbv, ?_, ?_⟩
  · exact LLe.r
  · exact (ALe.v LLe.r ALe.nil)

set_option maxRecDepth 8000 in
theorem slices_IndexFunc_impl_Row__impl_RowPut_1_ac {a0 : List Row} {a1c0v_Id : Int} {a1c0v_Cells : List Int} {r : Int} (h : slices_IndexFunc_impl_Row__impl_RowPut_1.f a0 (Row.mk a1c0v_Id a1c0v_Cells) = some r) : AC Try.prog 97 [.v (.im false (rowsOf Row_i a0)), .v (.fn 101 [.ip [.s (.int .i64 a1c0v_Id), .im false (rowsOf Int_c a1c0v_Cells)]])] [.v (.jk), .v (.jk)] [.v (.s (.int .i64 r))] := by
  unfold slices_IndexFunc_impl_Row__impl_RowPut_1.f at h
  let ar := Ls.ar; let cm := Ls.cm; let bo := Ls.bo; let sc := Ls.sc; let sa := Ls.sa; let sx := Ls.sx; let ss := Ls.ss; let sl := Ls.sl; let bs := Ls.bs; let sb := Ls.sb; let ln := Ls.ln; let sr := Ls.sr; let ap := Ls.ap; let up := Ls.up; let rp := Ls.rp; let fr := Ls.fr; let ge := Ls.ge; let le := Ls.le; let lt := Ls.lt; let nz := Ls.nz; let mm := Ls.mm; let ma := Ls.ma; let sm := Ls.sm; let fl := Ls.fl; let al := Ls.al; let ci := Ls.ci
  let eInt_c := rowsOf Int_c
  let eRow_i := rowsOf Row_i
  let lenI_Row := @lenI Row
  have hL : (⟨ar, cm, bo, sc, sa, sx, ss, sl, bs, sb, ln, sr, ap, up, rp, fr, ge, le, lt, nz, mm, ma, sm, fl, al, ci⟩ : Lf) = Ls := rfl
  show AC Try.prog 97 [.v (.im false (eRow_i a0)), .v (.fn 101 [.ip [.s (.int .i64 a1c0v_Id), .im false (eInt_c a1c0v_Cells)]])] _ _
  refine AC.of_run2 tab_ok Try.func97 (by rfl) (by rfl) (by cbv) ⟨by decide, rfl⟩ fun F hP hA => ?_
  have hT : TabOk F.P tab := hP ▸ tab_ok
  have hM : F.P.follows .mixedOrders = true := hP ▸ mixed
  have hC : ∀ {f a o r}, AC Try.prog f a o r → AC F.P f a o r := fun h => hP ▸ h
  refine Run.weak ?_ (Weak.fnT 1 (by cbv))
  refine Run.seq ?_
  refine Run.region hL hT [] (by cbv) ?_ ?_
  · exact hq0
  refine Run.seq ?_
  refine Run.seq ?_
  refine Run.region hL hT [] (by cbv) ?_ ?_
  · exact hq0
  rw [show ln (eRow_i a0) = lenI_Row a0 from ln_eq Row_i _]
  refine Run.block ?_
  refine Run.loop1 (fun (z6 : Int) => ⟨19, 100000, [(0, .t (.im false (eRow_i a0))), (1, .fn 101 [.t (.ip [.s (.int .i64 a1c0v_Id), .im false (eInt_c a1c0v_Cells)])]), (7, .t (.s (.int .i64 (lenI_Row a0)))), (8, .t (.s (.int .i64 z6)))], []⟩) (x0 := 0) h (Weak.of _ [] hA (by cbv) ?_) (fun _ => rfl) ?_
  · repeat (first | exact hq0 | refine hq (by first | exact True.intro | rfl) ?_)
  · intro k z6 h
    rw [slices_IndexFunc_impl_Row__impl_RowPut_1.l0] at h
    refine Run.seq ?_
    refine Run.region hL hT [] (by cbv) ?_ ?_
    · exact (hq trivial hq0)
    refine Run.seq ?_
    refine Run.cond (by cbv) (hq0) (fun c7 => ?_) (fun c7 => ?_)
    · have h := if_t c7 h
      refine Run.skip ?_
      refine Run.seq ?_
      refine Run.block ?_
      refine Run.seq ?_
      refine Run.region hL hT [] (by cbv) ?_ ?_
      · exact hq0
      refine Run.seq ?_
      obtain ⟨⟨x8v_Id, x8v_Cells⟩, h_x8, h⟩ := bnd h
      obtain ⟨r9, h_r9, h⟩ := bnd h
      refine Run.region hL hT [(3, .el [.s (.int .i64 x8v_Id), .im false (eInt_c x8v_Cells)]), (5, .call [false] [.ag [.jk, .jk], .v (.jk)] [.v (.s (.bool r9))])] (by cbv) ?_ ?_
      · exact (hq (get_le h_x8) (hq (get_lt (f := Row_i) h_x8) (hq (get_ge (f := Row_i) h_x8) (hq (hC (impl_RowPut_1_ac h_r9)) hq0))))
      refine Run.cond (by cbv) (hq0) (fun c10 => ?_) (fun c10 => ?_)
      · have h := if_t c10 h
        refine Run.seq ?_
        refine Run.region hL hT [] (by cbv) ?_ ?_
        · exact hq0
        refine Run.ret ?_
        cases h
        refine ⟨_, _, by cbv, ?_, ?_⟩
        · exact LLe.r
        · exact (ALe.v LLe.r ALe.nil)
      · have h := if_f c10 h
        refine Run.skip ?_
        refine Run.region hL hT [] (by cbv) ?_ ?_
        · exact (hq trivial hq0)
        refine ⟨(ar .add .i64 z6 1), h, Weak.of _ [] hA (by cbv) ?_⟩
        repeat (first | exact hq0 | refine hq (by first | exact True.intro | rfl) ?_)
    · have h := if_f c7 h
      refine Run.exit ?_
      refine Run.seq ?_
      refine Run.region hL hT [] (by cbv) ?_ ?_
      · exact hq0
      refine Run.ret ?_
      cases h
      refine ⟨_, _, by cbv, ?_, ?_⟩
      · exact LLe.r
      · exact (ALe.v LLe.r ALe.nil)

set_option maxRecDepth 8000 in
theorem impl_RowPut_ac {a0 : List Row} {a1v_Id : Int} {a1v_Cells : List Int} {r : (List Row)} (h : impl_RowPut.f a0 (Row.mk a1v_Id a1v_Cells) = some r) : AC Try.prog 77 [.v (.im false (rowsOf Row_i a0)), .ag [.s (.int .i64 a1v_Id), .im false (rowsOf Int_c a1v_Cells)]] [.v (.jk), .ag [.jk, .jk]] [.v (.ow 38 (rowsOf Row_o r))] := by
  unfold impl_RowPut.f at h
  let ar := Ls.ar; let cm := Ls.cm; let bo := Ls.bo; let sc := Ls.sc; let sa := Ls.sa; let sx := Ls.sx; let ss := Ls.ss; let sl := Ls.sl; let bs := Ls.bs; let sb := Ls.sb; let ln := Ls.ln; let sr := Ls.sr; let ap := Ls.ap; let up := Ls.up; let rp := Ls.rp; let fr := Ls.fr; let ge := Ls.ge; let le := Ls.le; let lt := Ls.lt; let nz := Ls.nz; let mm := Ls.mm; let ma := Ls.ma; let sm := Ls.sm; let fl := Ls.fl; let al := Ls.al; let ci := Ls.ci
  let eInt_c := rowsOf Int_c
  let eRow_i := rowsOf Row_i
  let eRow_o := rowsOf Row_o
  let lenI_Row := @lenI Row
  have hL : (⟨ar, cm, bo, sc, sa, sx, ss, sl, bs, sb, ln, sr, ap, up, rp, fr, ge, le, lt, nz, mm, ma, sm, fl, al, ci⟩ : Lf) = Ls := rfl
  show AC Try.prog 77 [.v (.im false (eRow_i a0)), .ag [.s (.int .i64 a1v_Id), .im false (eInt_c a1v_Cells)]] _ _
  refine AC.of_run2 tab_ok Try.func77 (by rfl) (by rfl) (by cbv) ⟨by decide, rfl⟩ fun F hP hA => ?_
  have hT : TabOk F.P tab := hP ▸ tab_ok
  have hM : F.P.follows .mixedOrders = true := hP ▸ mixed
  have hC : ∀ {f a o r}, AC Try.prog f a o r → AC F.P f a o r := fun h => hP ▸ h
  refine Run.seq ?_
  refine Run.region hL hT [] (by cbv) ?_ ?_
  · exact hq0
  refine Run.seq ?_
  obtain ⟨r1, h_r1, h⟩ := bnd h
  refine Run.region hL hT [(1, .call [false] [.v (.jk)] [.v (.ow 38 (eRow_o r1))])] (by cbv) ?_ ?_
  · exact (hq (hC (impl_copyRows_ac h_r1)) hq0)
  refine Run.seq ?_
  obtain ⟨r2, h_r2, h⟩ := bnd h
  refine Run.region hL hT [(3, .call [false, false] [.v (.jk), .v (.jk)] [.v (.s (.int .i64 r2))])] (by cbv) ?_ ?_
  · exact (hq trivial (hq (hC (impl_RowAt_ac h_r2)) hq0))
  refine Run.seq ?_
  refine Run.seq ?_
  refine Run.region hL hT [] (by cbv) ?_ ?_
  · exact (hq trivial hq0)
  refine Run.cond (by cbv) (hq0) (fun c3 => ?_) (fun c3 => ?_)
  · have h := if_t c3 h
    refine Run.seq ?_
    obtain ⟨⟨r4v_Id, r4v_Cells⟩, h_r4, h⟩ := bnd h
    obtain ⟨⟨x5v_Id, x5v_Cells⟩, h_x5, h⟩ := bnd h
    obtain ⟨l6, h_l6, h⟩ := bnd h
    refine Run.region hL hT [(3, .call [false] [.ag [.jk, .jk]] [.ag [.s (.int .i64 r4v_Id), .ow 3 (eInt_c r4v_Cells)]])] (by cbv) ?_ ?_
    · exact (hq trivial (hq (hC (impl_copyRow_ac h_r4)) (hq (get_le h_x5) (hq (get_lt (f := Row_o) h_x5) (hq (get_le h_x5) (hq (get_lt (f := Row_o) h_x5) hq0))))))
    refine Run.row (rows := (up (eRow_o r1) r2 0 [.s (.int .i64 r4v_Id), .ow 3 (eInt_c r4v_Cells)])) 4097 (eRow_o l6) (by cbv) (sto_le (f := Row_o) h_x5 h_l6 rfl LLe.r) ?_
    refine Run.seq ?_
    refine Run.region hL hT [] (by cbv) ?_ ?_
    · exact hq0
    refine Run.ret ?_
    cases h
    refine ⟨_, _, by cbv, ?_, ?_⟩
    · exact LLe.r
    · exact (ALe.v LLe.r ALe.nil)
  · have h := if_f c3 h
    refine Run.skip ?_
    refine Run.seq ?_
    obtain ⟨r7, h_r7, h⟩ := bnd h
    refine Run.region hL hT [(2, .call [false, false] [.v (.jk), .v (.jk)] [.v (.s (.int .i64 r7))])] (by cbv) ?_ ?_
    · exact (hq (hC (slices_IndexFunc_impl_Row__impl_RowPut_1_ac h_r7)) hq0)
    obtain ⟨K9, h_K9, h⟩ := joinE h
    refine Run.join1 K9 (r := r) (fun (y8 : Int) => ⟨34, 100000, [(3, .pt 1 0 0), (5, .rf 2), (6, .t (.s (.int .i64 y8)))], [(1, .box 38 [.t (.s (.int .i64 a1v_Id)), .t (.im false (eInt_c a1v_Cells))]), (2, .row 0 38 2 (eRow_o r1))]⟩) ?_ ?_
    · skip
      refine Run.seq ?_
      refine Run.region hL hT [] (by cbv) ?_ ?_
      · exact (hq trivial hq0)
      refine Run.cond (by cbv) (hq0) (fun c10 => ?_) (fun c10 => ?_)
      · have h := if_t c10 h
        refine Run.region hL hT [] (by cbv) ?_ ?_
        · exact hq0
        rw [show ln (eRow_i a0) = lenI_Row a0 from ln_eq Row_i _]
        refine ⟨(lenI_Row a0), h, Weak.of _ [(1, 0), (2, 4097)] hA (by cbv) ?_⟩
        repeat (first | exact hq0 | refine hq (by first | exact True.intro | rfl) ?_)
      · have h := if_f c10 h
        refine Run.skip ?_
        refine ⟨r7, h, Weak.of _ [(1, 0), (2, 4097)] hA (by cbv) ?_⟩
        repeat (first | exact hq0 | refine hq (by first | exact True.intro | rfl) ?_)
    · intro y8 h
      rw [h_K9] at h
      refine Run.seq ?_
      obtain ⟨⟨r11v_Id, r11v_Cells⟩, h_r11, h⟩ := bnd h
      obtain ⟨l12, h_l12, h⟩ := bnd h
      obtain ⟨r13, h_r13, h⟩ := bnd h
      refine Run.region hL hT [(3, .call [false] [.ag [.jk, .jk]] [.ag [.s (.int .i64 r11v_Id), .ow 3 (eInt_c r11v_Cells)]]), (5, .call [true, false, true] [.v (.jk), .v (.jk), .v (.jk)] [.v (.ow 38 (eRow_o r13))])] (by cbv) ?_ ?_
      · exact (hq trivial (hq (hC (impl_copyRow_ac h_r11)) (hq (hC (AC.args (slices_Insert_impl_Row_ac h_r13) (ALe.v LLe.r (ALe.v LLe.r (ALe.v (LLe.ow (some_le (f := Row_o) h_l12 (RLe.cons rfl LLe.r RLe.nil))) ALe.nil))))) hq0)))
      refine Run.ret ?_
      cases h
      refine ⟨_, _, by cbv, ?_, ?_⟩
      · exact LLe.r
      · exact (ALe.v LLe.r ALe.nil)

set_option maxRecDepth 8000 in
theorem impl_swapped_ac {a0v_Schemav_Cols : List Int} {a0v_Version : Int} {a0v_Tables : List (List Row)} {a1 : Int} {a2 : Bool} {a3v_Id : Int} {a3v_Cells : List Int} {a4 : Bool} {a5v_Id : Int} {a5v_Cells : List Int} {r : Store × Bool} (h : impl_swapped.f (Store.mk (Schema.mk a0v_Schemav_Cols) a0v_Version a0v_Tables) a1 a2 (Row.mk a3v_Id a3v_Cells) a4 (Row.mk a5v_Id a5v_Cells) = some r) : AC Try.prog 40 [.ag [.im false (rowsOf Int_c a0v_Schemav_Cols), .s (.int .i64 a0v_Version), .im false (rowsOf RowS_i a0v_Tables)], .v (.s (.int .i64 a1)), .v (.s (.bool a2)), .ag [.s (.int .i64 a3v_Id), .im false (rowsOf Int_c a3v_Cells)], .v (.s (.bool a4)), .ag [.s (.int .i64 a5v_Id), .im false (rowsOf Int_c a5v_Cells)]] [.ag [.jk, .jk, .jk], .v (.jk), .v (.jk), .ag [.jk, .jk], .v (.jk), .ag [.jk, .jk]] [.ag [.ow 3 (rowsOf Int_c r.1.Schema.Cols), .s (.int .i64 r.1.Version), .ow 72 (rowsOf RowS_o r.1.Tables)], .v (.s (.bool r.2))] := by
  unfold impl_swapped.f at h
  let ar := Ls.ar; let cm := Ls.cm; let bo := Ls.bo; let sc := Ls.sc; let sa := Ls.sa; let sx := Ls.sx; let ss := Ls.ss; let sl := Ls.sl; let bs := Ls.bs; let sb := Ls.sb; let ln := Ls.ln; let sr := Ls.sr; let ap := Ls.ap; let up := Ls.up; let rp := Ls.rp; let fr := Ls.fr; let ge := Ls.ge; let le := Ls.le; let lt := Ls.lt; let nz := Ls.nz; let mm := Ls.mm; let ma := Ls.ma; let sm := Ls.sm; let fl := Ls.fl; let al := Ls.al; let ci := Ls.ci
  let eInt_c := rowsOf Int_c
  let eRowS_i := rowsOf RowS_i
  let eRowS_o := rowsOf RowS_o
  let eRow_o := rowsOf Row_o
  have hL : (⟨ar, cm, bo, sc, sa, sx, ss, sl, bs, sb, ln, sr, ap, up, rp, fr, ge, le, lt, nz, mm, ma, sm, fl, al, ci⟩ : Lf) = Ls := rfl
  show AC Try.prog 40 [.ag [.im false (eInt_c a0v_Schemav_Cols), .s (.int .i64 a0v_Version), .im false (eRowS_i a0v_Tables)], .v (.s (.int .i64 a1)), .v (.s (.bool a2)), .ag [.s (.int .i64 a3v_Id), .im false (eInt_c a3v_Cells)], .v (.s (.bool a4)), .ag [.s (.int .i64 a5v_Id), .im false (eInt_c a5v_Cells)]] _ _
  refine AC.of_run2 tab_ok Try.func40 (by rfl) (by rfl) (by cbv) ⟨by decide, rfl⟩ fun F hP hA => ?_
  have hT : TabOk F.P tab := hP ▸ tab_ok
  have hM : F.P.follows .mixedOrders = true := hP ▸ mixed
  have hC : ∀ {f a o r}, AC Try.prog f a o r → AC F.P f a o r := fun h => hP ▸ h
  refine Run.seq ?_
  refine Run.region hL hT [] (by cbv) ?_ ?_
  · exact hq0
  refine Run.seq ?_
  obtain ⟨⟨⟨r1v_Schemav_Cols⟩, r1v_Version, r1v_Tables⟩, h_r1, h⟩ := bnd h
  refine Run.region hL hT [(1, .call [false] [.ag [.jk, .jk, .jk]] [.ag [.ow 3 (eInt_c r1v_Schemav_Cols), .s (.int .i64 r1v_Version), .ow 72 (eRowS_o r1v_Tables)]])] (by cbv) ?_ ?_
  · exact (hq trivial (hq (hC (impl_copyStore_ac h_r1)) (hq trivial hq0)))
  refine Run.seq ?_
  refine Run.seq ?_
  obtain ⟨r2, h_r2, h⟩ := bnd h
  refine Run.region hL hT [(3, .call [false, false] [.ag [.jk], .v (.jk)] [.v (.s (.bool r2))])] (by cbv) ?_ ?_
  · exact (hq trivial (hq (hC (impl_hasTable_ac h_r2)) hq0))
  refine Run.cond (by cbv) (hq0) (fun c3 => ?_) (fun c3 => ?_)
  · have h := if_t c3 h
    refine Run.seq ?_
    refine Run.region hL hT [] (by cbv) ?_ ?_
    · exact (hq trivial hq0)
    refine Run.ret ?_
    cases h
    refine ⟨_, _, by cbv, ?_, ?_⟩
    · exact LLe.r
    · exact (ALe.ag rfl (LLe.cons LLe.nilO (LLe.c (LLe.cons LLe.nilO LLe.nil))) (ALe.v LLe.r ALe.nil))
  · have h := if_f c3 h
    refine Run.skip ?_
    refine Run.seq ?_
    obtain ⟨x4, h_x4, h⟩ := bnd h
    refine Run.weak ?_ (Weak.take (rows := eRowS_o r1v_Tables) (e2 := 38) (r2 := eRow_o x4) hT 4353 a1 0 15288 1015288 (by cbv) (by cbv) (by cbv) (get_le' h_x4) (get_lt' RowS_o h_x4) ((congrArg (fun q => q[0]?) (get_ge (f := RowS_o) h_x4)).trans rfl) rfl (up (eRowS_o r1v_Tables) a1 0 [.jk]) rfl)
    refine Run.region hL hT [(4, .lk [.jk] [(0, 1015288)])] (by cbv) ?_ ?_
    · exact (hq trivial (hq (get_le h_x4) (hq (up_lt RowS_o h_x4) (hq trivial (hq (get_le h_x4) (hq (up_lt RowS_o h_x4) (hq (up_ge RowS_o h_x4) hq0)))))))
    refine Run.seq ?_
    refine Run.seq ?_
    refine Run.region hL hT [] (by cbv) ?_ ?_
    · exact hq0
    refine Run.cond (by cbv) (hq0) (fun c5 => ?_) (fun c5 => ?_)
    · have h := if_t c5 h
      refine Run.seq ?_
      obtain ⟨r6, h_r6, h⟩ := bnd h
      refine Run.region hL hT [(3, .call [false, false] [.v (.jk), .v (.jk)] [.v (.s (.int .i64 r6))])] (by cbv) ?_ ?_
      · exact (hq trivial (hq (hC (AC.args (impl_RowAt_ac h_r6) (ALe.v (LLe.im (RLe.eq (fr_row Row_o_z _))) (ALe.v LLe.r ALe.nil)))) hq0))
      refine Run.seq ?_
      refine Run.seq ?_
      obtain ⟨⟨x7v_Id, x7v_Cells⟩, h_x7, h⟩ := bnd h
      obtain ⟨r8, h_r8, h⟩ := bnd h
      refine Run.draw hL hT hM [(6, .el [.s (.int .i64 x7v_Id), .ow 3 (eInt_c x7v_Cells)]), (8, .call [false, false] [.ag [.jk, .jk], .ag [.jk, .jk]] [.v (.s (.bool r8))])] (by cbv) (by cbv) (by cbv) (by cbv) (by cbv) ?_ ?_
      · exact (hq trivial (hq (fun _ => hq0) (hq (fun _ => hq0) (hq (fun g11 => (hq g11 (hq g11 (hq (get_le (gd_t h_x7 g11)) (hq (get_lt (f := Row_o) (gd_t h_x7 g11)) hq0))))) (hq (fun g12 => (hq g12 (hq (get_le (gd_t h_x7 g12)) (hq (get_lt (f := Row_o) (gd_t h_x7 g12)) (hq (get_ge (f := Row_o) (gd_t h_x7 g12)) hq0))))) (hq (fun g13 => (hq trivial hq0)) (hq (fun g14 => (hq g14 (hq g14 (hq (hC (AC.args (impl_RowSame_ac (gd_t h_r8 g14)) (ALe.ag rfl (LLe.c (LLe.cons (LLe.im (RLe.eq (fr_row Int_c_z _))) LLe.nil)) (ALe.ag rfl LLe.r ALe.nil)))) hq0)))) (hq (fun g15 => (hq g15 hq0)) (hq (fun _ => hq0) (hq (fun q17 => (hq (bo_m q17) hq0)) hq0))))))))))
      refine Run.cond (by cbv) (hq0) (fun c18 => ?_) (fun c18 => ?_)
      · have h := if_t c18 h
        refine Run.seq ?_
        refine Run.region hL hT [] (by cbv) ?_ ?_
        · exact (hq trivial hq0)
        refine Run.ret ?_
        cases h
        refine ⟨_, _, by cbv, ?_, ?_⟩
        · exact LLe.r
        · exact (ALe.ag rfl (LLe.cons LLe.nilO (LLe.c (LLe.cons LLe.nilO LLe.nil))) (ALe.v LLe.r ALe.nil))
      · have h := if_f c18 h
        refine Run.skip ?_
        obtain ⟨r19, h_r19, h⟩ := bnd h
        refine Run.region hL hT [(3, .call [false, false] [.v (.jk), .v (.jk)] [.v (.ow 38 (eRow_o r19))])] (by cbv) ?_ ?_
        · exact (hq trivial (hq (hC (AC.args (impl_RowDrop_ac h_r19) (ALe.v (LLe.im (RLe.eq (fr_row Row_o_z _))) (ALe.v LLe.r ALe.nil)))) hq0))
        refine Run.seq ?_
        refine Run.seq ?_
        refine Run.region hL hT [] (by cbv) ?_ ?_
        · exact hq0
        refine Run.cond (by cbv) (hq0) (fun c20 => ?_) (fun c20 => ?_)
        · have h := if_t c20 h
          refine Run.seq ?_
          refine Run.seq ?_
          obtain ⟨r21, h_r21, h⟩ := bnd h
          refine Run.region hL hT [(3, .call [false, false] [.v (.jk), .v (.jk)] [.v (.s (.int .i64 r21))])] (by cbv) ?_ ?_
          · exact (hq trivial (hq (hC (AC.args (impl_RowAt_ac h_r21) (ALe.v (LLe.im (RLe.eq (fr_row Row_o_z _))) (ALe.v LLe.r ALe.nil)))) (hq trivial hq0)))
          refine Run.cond (by cbv) (hq0) (fun c22 => ?_) (fun c22 => ?_)
          · have h := if_t c22 h
            refine Run.seq ?_
            refine Run.region hL hT [] (by cbv) ?_ ?_
            · exact (hq trivial hq0)
            refine Run.ret ?_
            cases h
            refine ⟨_, _, by cbv, ?_, ?_⟩
            · exact LLe.r
            · exact (ALe.ag rfl (LLe.cons LLe.nilO (LLe.c (LLe.cons LLe.nilO LLe.nil))) (ALe.v LLe.r ALe.nil))
          · have h := if_f c22 h
            refine Run.skip ?_
            obtain ⟨r23, h_r23, h⟩ := bnd h
            refine Run.region hL hT [(2, .call [false, false] [.v (.jk), .ag [.jk, .jk]] [.v (.ow 38 (eRow_o r23))])] (by cbv) ?_ ?_
            · exact (hq trivial (hq (hC (AC.args (impl_RowPut_ac h_r23) (ALe.v (LLe.im (RLe.eq (fr_row Row_o_z _))) (ALe.ag rfl LLe.r ALe.nil)))) hq0))
            refine Run.seq ?_
            obtain ⟨l24, h_l24, h⟩ := bnd h
            refine Run.region hL hT [] (by cbv) ?_ ?_
            · exact (hq trivial (hq (get_le h_x4) (hq (up_lt RowS_o h_x4) (hq (get_le h_x4) (hq (up_lt RowS_o h_x4) hq0)))))
            refine Run.row (rows := (up (up (eRowS_o r1v_Tables) a1 0 [.jk]) a1 0 [.ow 38 (eRow_o r23)])) 4353 (eRowS_o l24) (by cbv) (hole_le (f := RowS_o) h_x4 h_l24 (ltn (RowS_o_n _) (by decide)) rfl LLe.r) ?_
            refine Run.seq ?_
            obtain ⟨r25, h_r25, h⟩ := bnd h
            refine Run.draw hL hT hM [(2, .call [false] [.ag [.jk, .jk, .jk]] [.v (.s (.bool r25))])] (by cbv) (by cbv) (by cbv) (by cbv) (by cbv) ?_ ?_
            · exact (hq trivial (hq trivial (hq (hC (AC.args (impl_StoreOk_ac h_r25) (ALe.ag rfl (LLe.cons (LLe.im (RLe.eq (fr_row Int_c_z _))) (LLe.c (LLe.cons (LLe.im (RLe.eq (fr_row RowS_o_z _))) LLe.nil))) ALe.nil))) (hq trivial hq0))))
            refine Run.ret ?_
            cases h
            refine ⟨_, _, by cbv, ?_, ?_⟩
            · exact LLe.r
            · exact (ALe.ag rfl LLe.r (ALe.v LLe.r ALe.nil))
        · have h := if_f c20 h
          refine Run.skip ?_
          refine Run.seq ?_
          obtain ⟨l26, h_l26, h⟩ := bnd h
          refine Run.region hL hT [] (by cbv) ?_ ?_
          · exact (hq trivial (hq (get_le h_x4) (hq (up_lt RowS_o h_x4) (hq (get_le h_x4) (hq (up_lt RowS_o h_x4) hq0)))))
          refine Run.row (rows := (up (up (eRowS_o r1v_Tables) a1 0 [.jk]) a1 0 [.ow 38 (eRow_o r19)])) 4353 (eRowS_o l26) (by cbv) (hole_le (f := RowS_o) h_x4 h_l26 (ltn (RowS_o_n _) (by decide)) rfl LLe.r) ?_
          refine Run.seq ?_
          obtain ⟨r27, h_r27, h⟩ := bnd h
          refine Run.draw hL hT hM [(2, .call [false] [.ag [.jk, .jk, .jk]] [.v (.s (.bool r27))])] (by cbv) (by cbv) (by cbv) (by cbv) (by cbv) ?_ ?_
          · exact (hq trivial (hq trivial (hq (hC (AC.args (impl_StoreOk_ac h_r27) (ALe.ag rfl (LLe.cons (LLe.im (RLe.eq (fr_row Int_c_z _))) (LLe.c (LLe.cons (LLe.im (RLe.eq (fr_row RowS_o_z _))) LLe.nil))) ALe.nil))) (hq trivial hq0))))
          refine Run.ret ?_
          cases h
          refine ⟨_, _, by cbv, ?_, ?_⟩
          · exact LLe.r
          · exact (ALe.ag rfl LLe.r (ALe.v LLe.r ALe.nil))
    · have h := if_f c5 h
      refine Run.skip ?_
      refine Run.seq ?_
      refine Run.seq ?_
      refine Run.region hL hT [] (by cbv) ?_ ?_
      · exact hq0
      refine Run.cond (by cbv) (hq0) (fun c28 => ?_) (fun c28 => ?_)
      · have h := if_t c28 h
        refine Run.seq ?_
        refine Run.seq ?_
        obtain ⟨r29, h_r29, h⟩ := bnd h
        refine Run.region hL hT [(3, .call [false, false] [.v (.jk), .v (.jk)] [.v (.s (.int .i64 r29))])] (by cbv) ?_ ?_
        · exact (hq trivial (hq (hC (AC.args (impl_RowAt_ac h_r29) (ALe.v (LLe.im (RLe.eq (fr_row Row_o_z _))) (ALe.v LLe.r ALe.nil)))) (hq trivial hq0)))
        refine Run.cond (by cbv) (hq0) (fun c30 => ?_) (fun c30 => ?_)
        · have h := if_t c30 h
          refine Run.seq ?_
          refine Run.region hL hT [] (by cbv) ?_ ?_
          · exact (hq trivial hq0)
          refine Run.ret ?_
          cases h
          refine ⟨_, _, by cbv, ?_, ?_⟩
          · exact LLe.r
          · exact (ALe.ag rfl (LLe.cons LLe.nilO (LLe.c (LLe.cons LLe.nilO LLe.nil))) (ALe.v LLe.r ALe.nil))
        · have h := if_f c30 h
          refine Run.skip ?_
          obtain ⟨r31, h_r31, h⟩ := bnd h
          refine Run.region hL hT [(2, .call [false, false] [.v (.jk), .ag [.jk, .jk]] [.v (.ow 38 (eRow_o r31))])] (by cbv) ?_ ?_
          · exact (hq trivial (hq (hC (AC.args (impl_RowPut_ac h_r31) (ALe.v (LLe.im (RLe.eq (fr_row Row_o_z _))) (ALe.ag rfl LLe.r ALe.nil)))) hq0))
          refine Run.seq ?_
          obtain ⟨l32, h_l32, h⟩ := bnd h
          refine Run.region hL hT [] (by cbv) ?_ ?_
          · exact (hq trivial (hq (get_le h_x4) (hq (up_lt RowS_o h_x4) (hq (get_le h_x4) (hq (up_lt RowS_o h_x4) hq0)))))
          refine Run.row (rows := (up (up (eRowS_o r1v_Tables) a1 0 [.jk]) a1 0 [.ow 38 (eRow_o r31)])) 4353 (eRowS_o l32) (by cbv) (hole_le (f := RowS_o) h_x4 h_l32 (ltn (RowS_o_n _) (by decide)) rfl LLe.r) ?_
          refine Run.seq ?_
          obtain ⟨r33, h_r33, h⟩ := bnd h
          refine Run.draw hL hT hM [(2, .call [false] [.ag [.jk, .jk, .jk]] [.v (.s (.bool r33))])] (by cbv) (by cbv) (by cbv) (by cbv) (by cbv) ?_ ?_
          · exact (hq trivial (hq trivial (hq (hC (AC.args (impl_StoreOk_ac h_r33) (ALe.ag rfl (LLe.cons (LLe.im (RLe.eq (fr_row Int_c_z _))) (LLe.c (LLe.cons (LLe.im (RLe.eq (fr_row RowS_o_z _))) LLe.nil))) ALe.nil))) (hq trivial hq0))))
          refine Run.ret ?_
          cases h
          refine ⟨_, _, by cbv, ?_, ?_⟩
          · exact LLe.r
          · exact (ALe.ag rfl LLe.r (ALe.v LLe.r ALe.nil))
      · have h := if_f c28 h
        refine Run.skip ?_
        refine Run.seq ?_
        obtain ⟨l34, h_l34, h⟩ := bnd h
        refine Run.region hL hT [] (by cbv) ?_ ?_
        · exact (hq trivial (hq (get_le h_x4) (hq (up_lt RowS_o h_x4) (hq (get_le h_x4) (hq (up_lt RowS_o h_x4) hq0)))))
        refine Run.row (rows := (up (up (eRowS_o r1v_Tables) a1 0 [.jk]) a1 0 [.ow 38 (eRow_o x4)])) 4353 (eRowS_o l34) (by cbv) (hole_le (f := RowS_o) h_x4 h_l34 (ltn (RowS_o_n _) (by decide)) rfl LLe.r) ?_
        refine Run.seq ?_
        obtain ⟨r35, h_r35, h⟩ := bnd h
        refine Run.draw hL hT hM [(2, .call [false] [.ag [.jk, .jk, .jk]] [.v (.s (.bool r35))])] (by cbv) (by cbv) (by cbv) (by cbv) (by cbv) ?_ ?_
        · exact (hq trivial (hq trivial (hq (hC (AC.args (impl_StoreOk_ac h_r35) (ALe.ag rfl (LLe.cons (LLe.im (RLe.eq (fr_row Int_c_z _))) (LLe.c (LLe.cons (LLe.im (RLe.eq (fr_row RowS_o_z _))) LLe.nil))) ALe.nil))) (hq trivial hq0))))
        refine Run.ret ?_
        cases h
        refine ⟨_, _, by cbv, ?_, ?_⟩
        · exact LLe.r
        · exact (ALe.ag rfl LLe.r (ALe.v LLe.r ALe.nil))

set_option maxRecDepth 8000 in
theorem impl_Forward_ac {a0v_Schemav_Cols : List Int} {a0v_Version : Int} {a0v_Tables : List (List Row)} {a1 : List Change} {r : Store × Bool} (h : impl_Forward.f (Store.mk (Schema.mk a0v_Schemav_Cols) a0v_Version a0v_Tables) a1 = some r) : AC Try.prog 9 [.ag [.im false (rowsOf Int_c a0v_Schemav_Cols), .s (.int .i64 a0v_Version), .im false (rowsOf RowS_i a0v_Tables)], .v (.im false (rowsOf Change_i a1))] [.ag [.jk, .jk, .jk], .v (.jk)] [.ag [.ow 3 (rowsOf Int_c r.1.Schema.Cols), .s (.int .i64 r.1.Version), .ow 72 (rowsOf RowS_o r.1.Tables)], .v (.s (.bool r.2))] := by
  unfold impl_Forward.f at h
  let ar := Ls.ar; let cm := Ls.cm; let bo := Ls.bo; let sc := Ls.sc; let sa := Ls.sa; let sx := Ls.sx; let ss := Ls.ss; let sl := Ls.sl; let bs := Ls.bs; let sb := Ls.sb; let ln := Ls.ln; let sr := Ls.sr; let ap := Ls.ap; let up := Ls.up; let rp := Ls.rp; let fr := Ls.fr; let ge := Ls.ge; let le := Ls.le; let lt := Ls.lt; let nz := Ls.nz; let mm := Ls.mm; let ma := Ls.ma; let sm := Ls.sm; let fl := Ls.fl; let al := Ls.al; let ci := Ls.ci
  let eChange_i := rowsOf Change_i
  let eInt_c := rowsOf Int_c
  let eRowS_i := rowsOf RowS_i
  let eRowS_o := rowsOf RowS_o
  let lenI_Change := @lenI Change
  have hL : (⟨ar, cm, bo, sc, sa, sx, ss, sl, bs, sb, ln, sr, ap, up, rp, fr, ge, le, lt, nz, mm, ma, sm, fl, al, ci⟩ : Lf) = Ls := rfl
  show AC Try.prog 9 [.ag [.im false (eInt_c a0v_Schemav_Cols), .s (.int .i64 a0v_Version), .im false (eRowS_i a0v_Tables)], .v (.im false (eChange_i a1))] _ _
  refine AC.of_run2 tab_ok Try.func9 (by rfl) (by rfl) (by cbv) ⟨by decide, rfl⟩ fun F hP hA => ?_
  have hT : TabOk F.P tab := hP ▸ tab_ok
  have hM : F.P.follows .mixedOrders = true := hP ▸ mixed
  have hC : ∀ {f a o r}, AC Try.prog f a o r → AC F.P f a o r := fun h => hP ▸ h
  refine Run.seq ?_
  refine Run.region hL hT [] (by cbv) ?_ ?_
  · exact hq0
  refine Run.seq ?_
  refine Run.seq ?_
  obtain ⟨r1, h_r1, h⟩ := bnd h
  obtain ⟨r2, h_r2, h⟩ := bnd h
  refine Run.region hL hT [(1, .call [false] [.ag [.jk, .jk, .jk]] [.v (.s (.bool r1))]), (6, .call [false, false, false] [.v (.jk), .v (.jk), .v (.jk)] [.v (.s (.bool r2))])] (by cbv) ?_ ?_
  · exact (hq trivial (hq (hC (impl_StoreOk_ac h_r1)) (hq (fun _ => hq0) (hq (fun g4 => (hq g4 hq0)) (hq (fun g5 => (hq g5 (hq (by rw [show ln (eChange_i a1) = lenI_Change a1 from ln_eq Change_i _]; exact (hC (impl_within_ac (gd_t h_r2 g5)))) hq0))) (hq (fun g6 => (hq g6 hq0)) (hq (fun _ => hq0) (hq (fun q8 => (hq (bo_m q8) hq0)) (hq (fun _ => hq0) (hq (fun g10 => (hq g10 (hq trivial hq0))) (hq (fun g11 => (hq g11 (hq trivial hq0))) (hq (fun _ => hq0) (hq (fun q13 => (hq (bo_m q13) hq0)) hq0)))))))))))))
  rw [show ln (eChange_i a1) = lenI_Change a1 from ln_eq Change_i _]
  refine Run.cond (by cbv) (hq0) (fun c14 => ?_) (fun c14 => ?_)
  · have h := if_t c14 h
    refine Run.seq ?_
    refine Run.region hL hT [] (by cbv) ?_ ?_
    · exact (hq trivial hq0)
    refine Run.ret ?_
    cases h
    refine ⟨_, _, by cbv, ?_, ?_⟩
    · exact LLe.r
    · exact (ALe.ag rfl (LLe.cons LLe.nilO (LLe.c (LLe.cons LLe.nilO LLe.nil))) (ALe.v LLe.r ALe.nil))
  · have h := if_f c14 h
    refine Run.skip ?_
    refine Run.seq ?_
    obtain ⟨⟨⟨r15v_Schemav_Cols⟩, r15v_Version, r15v_Tables⟩, h_r15, h⟩ := bnd h
    refine Run.region hL hT [(1, .call [false] [.ag [.jk, .jk, .jk]] [.ag [.ow 3 (eInt_c r15v_Schemav_Cols), .s (.int .i64 r15v_Version), .ow 72 (eRowS_o r15v_Tables)]])] (by cbv) ?_ ?_
    · exact (hq trivial (hq (hC (impl_copyStore_ac h_r15)) (hq trivial hq0)))
    refine Run.seq ?_
    refine Run.seq ?_
    refine Run.region hL hT [] (by cbv) ?_ ?_
    · exact hq0
    rw [show ln (eChange_i a1) = lenI_Change a1 from ln_eq Change_i _]
    refine Run.block ?_
    refine Run.loop4 (fun (z26 : List Int) (z27 : Int) (z28 : List (List Row)) (z29 : Int) => ⟨65, 100000, [(2, .pt 1 0 0), (4, .pt 2 0 0), (6, .pt 3 0 0), (28, .t (.im false (eChange_i a1))), (29, .t (.s (.int .i64 (lenI_Change a1)))), (30, .t (.s (.int .i64 z29)))], [(1, .box 29 [.t (.im false (eInt_c a0v_Schemav_Cols)), .t (.s (.int .i64 a0v_Version)), .t (.im false (eRowS_i a0v_Tables))]), (2, .box 29 [.t (.s (.slice none 0 0)), .t (.s (.int .i64 0)), .t (.s (.slice none 0 0))]), (3, .box 29 [.rf 4, .t (.s (.int .i64 z27)), .rf 5]), (4, .row 0 3 1 (eInt_c z26)), (5, .row 0 72 1 (eRowS_o z28))]⟩) (x0 := r15v_Schemav_Cols) (x1 := r15v_Version) (x2 := r15v_Tables) (x3 := 0) h (Weak.of _ [(1, 0), (2, 1), (3, 8194), (4, 8193), (5, 8449)] hA (by cbv) ?_) (fun _ _ _ _ => rfl) ?_
    · repeat (first | exact hq0 | refine hq (by first | exact True.intro | rfl) ?_)
    · intro k z26 z27 z28 z29 h
      rw [impl_Forward.l0] at h
      refine Run.seq ?_
      refine Run.region hL hT [] (by cbv) ?_ ?_
      · exact (hq trivial hq0)
      refine Run.seq ?_
      refine Run.cond (by cbv) (hq0) (fun c30 => ?_) (fun c30 => ?_)
      · have h := if_t c30 h
        refine Run.skip ?_
        refine Run.seq ?_
        refine Run.block ?_
        refine Run.seq ?_
        obtain ⟨⟨x31v_Table, x31v_Had, x31v_Has, ⟨x31v_Oldv_Id, x31v_Oldv_Cells⟩, ⟨x31v_Newv_Id, x31v_Newv_Cells⟩⟩, h_x31, h⟩ := bnd h
        refine Run.region hL hT [(0, .el [.s (.int .i64 x31v_Table), .s (.bool x31v_Had), .s (.bool x31v_Has), .s (.int .i64 x31v_Oldv_Id), .im false (eInt_c x31v_Oldv_Cells), .s (.int .i64 x31v_Newv_Id), .im false (eInt_c x31v_Newv_Cells)])] (by cbv) ?_ ?_
        · exact (hq (get_le h_x31) (hq (get_lt (f := Change_i) h_x31) (hq (get_ge (f := Change_i) h_x31) (hq trivial hq0))))
        refine Run.seq ?_
        refine Run.seq ?_
        obtain ⟨r32, h_r32, h⟩ := bnd h
        refine Run.region hL hT [(3, .call [false, false] [.ag [.jk], .ag [.jk, .jk, .jk, .jk, .jk, .jk, .jk]] [.v (.s (.bool r32))])] (by cbv) ?_ ?_
        · exact (hq trivial (hq trivial (hq (hC (impl_changeFits_ac h_r32)) hq0)))
        refine Run.cond (by cbv) (hq0) (fun c33 => ?_) (fun c33 => ?_)
        · have h := if_t c33 h
          refine Run.seq ?_
          refine Run.region hL hT [] (by cbv) ?_ ?_
          · exact (hq trivial hq0)
          refine Run.ret ?_
          cases h
          refine ⟨_, _, by cbv, ?_, ?_⟩
          · exact LLe.r
          · exact (ALe.ag rfl (LLe.cons LLe.nilO (LLe.c (LLe.cons LLe.nilO LLe.nil))) (ALe.v LLe.r ALe.nil))
        · have h := if_f c33 h
          refine Run.skip ?_
          refine Run.seq ?_
          obtain ⟨⟨⟨⟨r34v_1v_Schemav_Cols⟩, r34v_1v_Version, r34v_1v_Tables⟩, r34v_2⟩, h_r34, h⟩ := bnd h
          refine Run.region hL hT [(11, .call [false, false, false, false, false, false] [.ag [.jk, .jk, .jk], .v (.jk), .v (.jk), .ag [.jk, .jk], .v (.jk), .ag [.jk, .jk]] [.ag [.ow 3 (eInt_c r34v_1v_Schemav_Cols), .s (.int .i64 r34v_1v_Version), .ow 72 (eRowS_o r34v_1v_Tables)], .v (.s (.bool r34v_2))])] (by cbv) ?_ ?_
          · exact (hq trivial (hq trivial (hq trivial (hq trivial (hq trivial (hq trivial (hq (hC (AC.args (impl_swapped_ac h_r34) (ALe.ag rfl (LLe.cons (LLe.im (RLe.eq (fr_row Int_c_z _))) (LLe.c (LLe.cons (LLe.im (RLe.eq (fr_row RowS_o_z _))) LLe.nil))) (ALe.v LLe.r (ALe.v LLe.r (ALe.ag rfl LLe.r (ALe.v LLe.r (ALe.ag rfl LLe.r ALe.nil)))))))) (hq trivial hq0))))))))
          refine Run.seq ?_
          refine Run.seq ?_
          refine Run.region hL hT [] (by cbv) ?_ ?_
          · exact hq0
          refine Run.cond (by cbv) (hq0) (fun c35 => ?_) (fun c35 => ?_)
          · have h := if_t c35 h
            refine Run.seq ?_
            refine Run.region hL hT [] (by cbv) ?_ ?_
            · exact (hq trivial hq0)
            refine Run.ret ?_
            cases h
            refine ⟨_, _, by cbv, ?_, ?_⟩
            · exact LLe.r
            · exact (ALe.ag rfl (LLe.cons LLe.nilO (LLe.c (LLe.cons LLe.nilO LLe.nil))) (ALe.v LLe.r ALe.nil))
          · have h := if_f c35 h
            refine Run.skip ?_
            refine Run.region hL hT [] (by cbv) ?_ ?_
            · exact (hq trivial (hq trivial hq0))
            refine Run.region hL hT [] (by cbv) ?_ ?_
            · exact (hq trivial hq0)
            refine ⟨r34v_1v_Schemav_Cols, r34v_1v_Version, r34v_1v_Tables, (ar .add .i64 z29 1), h, Weak.of _ [(1, 1), (2, 2), (3, 3), (4, 112299), (5, 112555)] hA (by cbv) ?_⟩
            repeat (first | exact hq0 | refine hq (by first | exact True.intro | rfl) ?_)
      · have h := if_f c30 h
        refine Run.exit ?_
        refine Run.seq ?_
        refine Run.region hL hT [] (by cbv) ?_ ?_
        · exact (hq trivial (hq trivial (hq trivial hq0)))
        refine Run.seq ?_
        refine Run.region hL hT [] (by cbv) ?_ ?_
        · exact (hq trivial (hq trivial hq0))
        refine Run.ret ?_
        cases h
        refine ⟨_, _, by cbv, ?_, ?_⟩
        · exact LLe.r
        · exact (ALe.ag rfl LLe.r (ALe.v LLe.r ALe.nil))

set_option maxRecDepth 8000 in
theorem impl_after_ac {a0v_Firstv_Schemav_Cols : List Int} {a0v_Firstv_Version : Int} {a0v_Firstv_Tables : List (List Row)} {a0v_Steps : List (List Change)} {a1 : Int} {r : Store × Bool} (h : impl_after.f (Record.mk (Store.mk (Schema.mk a0v_Firstv_Schemav_Cols) a0v_Firstv_Version a0v_Firstv_Tables) a0v_Steps) a1 = some r) : AC Try.prog 56 [.ag [.im false (rowsOf Int_c a0v_Firstv_Schemav_Cols), .s (.int .i64 a0v_Firstv_Version), .im false (rowsOf RowS_i a0v_Firstv_Tables), .im false (rowsOf ChangeS_i a0v_Steps)], .v (.s (.int .i64 a1))] [.ag [.jk, .jk, .jk, .jk], .v (.jk)] [.ag [.ow 3 (rowsOf Int_c r.1.Schema.Cols), .s (.int .i64 r.1.Version), .ow 72 (rowsOf RowS_o r.1.Tables)], .v (.s (.bool r.2))] := by
  unfold impl_after.f at h
  let ar := Ls.ar; let cm := Ls.cm; let bo := Ls.bo; let sc := Ls.sc; let sa := Ls.sa; let sx := Ls.sx; let ss := Ls.ss; let sl := Ls.sl; let bs := Ls.bs; let sb := Ls.sb; let ln := Ls.ln; let sr := Ls.sr; let ap := Ls.ap; let up := Ls.up; let rp := Ls.rp; let fr := Ls.fr; let ge := Ls.ge; let le := Ls.le; let lt := Ls.lt; let nz := Ls.nz; let mm := Ls.mm; let ma := Ls.ma; let sm := Ls.sm; let fl := Ls.fl; let al := Ls.al; let ci := Ls.ci
  let eChangeS_i := rowsOf ChangeS_i
  let eChange_i := rowsOf Change_i
  let eInt_c := rowsOf Int_c
  let eRowS_i := rowsOf RowS_i
  let eRowS_o := rowsOf RowS_o
  let lenI_ChangeS := @lenI (List Change)
  have hL : (⟨ar, cm, bo, sc, sa, sx, ss, sl, bs, sb, ln, sr, ap, up, rp, fr, ge, le, lt, nz, mm, ma, sm, fl, al, ci⟩ : Lf) = Ls := rfl
  show AC Try.prog 56 [.ag [.im false (eInt_c a0v_Firstv_Schemav_Cols), .s (.int .i64 a0v_Firstv_Version), .im false (eRowS_i a0v_Firstv_Tables), .im false (eChangeS_i a0v_Steps)], .v (.s (.int .i64 a1))] _ _
  refine AC.of_run2 tab_ok Try.func56 (by rfl) (by rfl) (by cbv) ⟨by decide, rfl⟩ fun F hP hA => ?_
  have hT : TabOk F.P tab := hP ▸ tab_ok
  have hM : F.P.follows .mixedOrders = true := hP ▸ mixed
  have hC : ∀ {f a o r}, AC Try.prog f a o r → AC F.P f a o r := fun h => hP ▸ h
  refine Run.seq ?_
  refine Run.region hL hT [] (by cbv) ?_ ?_
  · exact hq0
  refine Run.seq ?_
  obtain ⟨⟨⟨r1v_Schemav_Cols⟩, r1v_Version, r1v_Tables⟩, h_r1, h⟩ := bnd h
  refine Run.region hL hT [(2, .call [false] [.ag [.jk, .jk, .jk]] [.ag [.ow 3 (eInt_c r1v_Schemav_Cols), .s (.int .i64 r1v_Version), .ow 72 (eRowS_o r1v_Tables)]])] (by cbv) ?_ ?_
  · exact (hq trivial (hq (hC (impl_copyStore_ac h_r1)) (hq trivial hq0)))
  refine Run.seq ?_
  refine Run.seq ?_
  obtain ⟨r2, h_r2, h⟩ := bnd h
  refine Run.region hL hT [(1, .call [false] [.ag [.jk, .jk, .jk]] [.v (.s (.bool r2))])] (by cbv) ?_ ?_
  · exact (hq trivial (hq (hC (AC.args (impl_StoreOk_ac h_r2) (ALe.ag rfl (LLe.cons (LLe.im (RLe.eq (fr_row Int_c_z _))) (LLe.c (LLe.cons (LLe.im (RLe.eq (fr_row RowS_o_z _))) LLe.nil))) ALe.nil))) hq0))
  refine Run.cond (by cbv) (hq0) (fun c3 => ?_) (fun c3 => ?_)
  · have h := if_t c3 h
    refine Run.seq ?_
    refine Run.region hL hT [] (by cbv) ?_ ?_
    · exact (hq trivial hq0)
    refine Run.ret ?_
    cases h
    refine ⟨_, _, by cbv, ?_, ?_⟩
    · exact LLe.r
    · exact (ALe.ag rfl (LLe.cons LLe.nilO (LLe.c (LLe.cons LLe.nilO LLe.nil))) (ALe.v LLe.r ALe.nil))
  · have h := if_f c3 h
    refine Run.skip ?_
    refine Run.seq ?_
    refine Run.seq ?_
    obtain ⟨l4, h_l4, h⟩ := bnd h
    refine Run.region hL hT [] (by cbv) ?_ ?_
    · exact (hq trivial (hq (cut_0 h_l4) (hq (cut_1 h_l4) (hq (cut_2 (f := ChangeS_i) h_l4) (hq (al_row ChangeS_i_n _) hq0)))))
    rw [show sr (eChangeS_i a0v_Steps) 0 a1 = eChangeS_i l4 from cut_sr ChangeS_i h_l4]
    rw [show ln (eChangeS_i l4) = lenI_ChangeS l4 from ln_eq ChangeS_i _]
    refine Run.block ?_
    refine Run.loop4 (fun (z12 : List Int) (z13 : Int) (z14 : List (List Row)) (z15 : Int) => ⟨39, 100000, [(4, .pt 1 0 0), (6, .pt 2 0 0), (21, .t (.im false (eChangeS_i l4))), (22, .t (.s (.int .i64 (lenI_ChangeS l4)))), (23, .t (.s (.int .i64 z15)))], [(1, .box 29 [.t (.s (.slice none 0 0)), .t (.s (.int .i64 0)), .t (.s (.slice none 0 0))]), (2, .box 29 [.rf 3, .t (.s (.int .i64 z13)), .rf 4]), (3, .row 0 3 1 (eInt_c z12)), (4, .row 0 72 1 (eRowS_o z14))]⟩) (x0 := r1v_Schemav_Cols) (x1 := r1v_Version) (x2 := r1v_Tables) (x3 := 0) h (Weak.of _ [(1, 1), (2, 4099), (3, 4098), (4, 4354)] hA (by cbv) ?_) (fun _ _ _ _ => rfl) ?_
    · repeat (first | exact hq0 | refine hq (by first | exact True.intro | rfl) ?_)
    · intro k z12 z13 z14 z15 h
      rw [impl_after.l0] at h
      refine Run.seq ?_
      refine Run.region hL hT [] (by cbv) ?_ ?_
      · exact (hq trivial hq0)
      refine Run.seq ?_
      refine Run.cond (by cbv) (hq0) (fun c16 => ?_) (fun c16 => ?_)
      · have h := if_t c16 h
        refine Run.skip ?_
        refine Run.seq ?_
        refine Run.block ?_
        refine Run.seq ?_
        obtain ⟨x17, h_x17, h⟩ := bnd h
        refine Run.region hL hT [(0, .el [.im false (eChange_i x17)])] (by cbv) ?_ ?_
        · exact (hq (get_le h_x17) (hq (get_lt (f := ChangeS_i) h_x17) (hq (get_ge (f := ChangeS_i) h_x17) hq0)))
        refine Run.seq ?_
        obtain ⟨⟨⟨⟨r18v_1v_Schemav_Cols⟩, r18v_1v_Version, r18v_1v_Tables⟩, r18v_2⟩, h_r18, h⟩ := bnd h
        refine Run.region hL hT [(2, .call [false, false] [.ag [.jk, .jk, .jk], .v (.jk)] [.ag [.ow 3 (eInt_c r18v_1v_Schemav_Cols), .s (.int .i64 r18v_1v_Version), .ow 72 (eRowS_o r18v_1v_Tables)], .v (.s (.bool r18v_2))])] (by cbv) ?_ ?_
        · exact (hq trivial (hq (hC (AC.args (impl_Forward_ac h_r18) (ALe.ag rfl (LLe.cons (LLe.im (RLe.eq (fr_row Int_c_z _))) (LLe.c (LLe.cons (LLe.im (RLe.eq (fr_row RowS_o_z _))) LLe.nil))) (ALe.v LLe.r ALe.nil)))) (hq trivial hq0)))
        refine Run.seq ?_
        refine Run.seq ?_
        refine Run.region hL hT [] (by cbv) ?_ ?_
        · exact hq0
        refine Run.cond (by cbv) (hq0) (fun c19 => ?_) (fun c19 => ?_)
        · have h := if_t c19 h
          refine Run.seq ?_
          refine Run.region hL hT [] (by cbv) ?_ ?_
          · exact (hq trivial hq0)
          refine Run.ret ?_
          cases h
          refine ⟨_, _, by cbv, ?_, ?_⟩
          · exact LLe.r
          · exact (ALe.ag rfl (LLe.cons LLe.nilO (LLe.c (LLe.cons LLe.nilO LLe.nil))) (ALe.v LLe.r ALe.nil))
        · have h := if_f c19 h
          refine Run.skip ?_
          refine Run.region hL hT [] (by cbv) ?_ ?_
          · exact (hq trivial (hq trivial hq0))
          refine Run.region hL hT [] (by cbv) ?_ ?_
          · exact (hq trivial hq0)
          refine ⟨r18v_1v_Schemav_Cols, r18v_1v_Version, r18v_1v_Tables, (ar .add .i64 z15 1), h, Weak.of _ [(1, 1), (2, 2), (3, 108194), (4, 108450)] hA (by cbv) ?_⟩
          repeat (first | exact hq0 | refine hq (by first | exact True.intro | rfl) ?_)
      · have h := if_f c16 h
        refine Run.exit ?_
        refine Run.seq ?_
        refine Run.region hL hT [] (by cbv) ?_ ?_
        · exact (hq trivial (hq trivial hq0))
        refine Run.ret ?_
        cases h
        refine ⟨_, _, by cbv, ?_, ?_⟩
        · exact LLe.r
        · exact (ALe.ag rfl LLe.r (ALe.v LLe.r ALe.nil))

set_option maxRecDepth 8000 in
theorem impl_RecordOk_ac {a0v_Firstv_Schemav_Cols : List Int} {a0v_Firstv_Version : Int} {a0v_Firstv_Tables : List (List Row)} {a0v_Steps : List (List Change)} {r : Bool} (h : impl_RecordOk.f (Record.mk (Store.mk (Schema.mk a0v_Firstv_Schemav_Cols) a0v_Firstv_Version a0v_Firstv_Tables) a0v_Steps) = some r) : AC Try.prog 26 [.ag [.im false (rowsOf Int_c a0v_Firstv_Schemav_Cols), .s (.int .i64 a0v_Firstv_Version), .im false (rowsOf RowS_i a0v_Firstv_Tables), .im false (rowsOf ChangeS_i a0v_Steps)]] [.ag [.jk, .jk, .jk, .jk]] [.v (.s (.bool r))] := by
  unfold impl_RecordOk.f at h
  let ar := Ls.ar; let cm := Ls.cm; let bo := Ls.bo; let sc := Ls.sc; let sa := Ls.sa; let sx := Ls.sx; let ss := Ls.ss; let sl := Ls.sl; let bs := Ls.bs; let sb := Ls.sb; let ln := Ls.ln; let sr := Ls.sr; let ap := Ls.ap; let up := Ls.up; let rp := Ls.rp; let fr := Ls.fr; let ge := Ls.ge; let le := Ls.le; let lt := Ls.lt; let nz := Ls.nz; let mm := Ls.mm; let ma := Ls.ma; let sm := Ls.sm; let fl := Ls.fl; let al := Ls.al; let ci := Ls.ci
  let eChangeS_i := rowsOf ChangeS_i
  let eInt_c := rowsOf Int_c
  let eRowS_i := rowsOf RowS_i
  let eRowS_o := rowsOf RowS_o
  let lenI_ChangeS := @lenI (List Change)
  have hL : (⟨ar, cm, bo, sc, sa, sx, ss, sl, bs, sb, ln, sr, ap, up, rp, fr, ge, le, lt, nz, mm, ma, sm, fl, al, ci⟩ : Lf) = Ls := rfl
  show AC Try.prog 26 [.ag [.im false (eInt_c a0v_Firstv_Schemav_Cols), .s (.int .i64 a0v_Firstv_Version), .im false (eRowS_i a0v_Firstv_Tables), .im false (eChangeS_i a0v_Steps)]] _ _
  refine AC.of_run2 tab_ok Try.func26 (by rfl) (by rfl) (by cbv) ⟨by decide, rfl⟩ fun F hP hA => ?_
  have hT : TabOk F.P tab := hP ▸ tab_ok
  have hM : F.P.follows .mixedOrders = true := hP ▸ mixed
  have hC : ∀ {f a o r}, AC Try.prog f a o r → AC F.P f a o r := fun h => hP ▸ h
  refine Run.seq ?_
  refine Run.region hL hT [] (by cbv) ?_ ?_
  · exact hq0
  refine Run.seq ?_
  refine Run.seq ?_
  refine Run.region hL hT [] (by cbv) ?_ ?_
  · exact (hq trivial (hq trivial hq0))
  rw [show ln (eChangeS_i a0v_Steps) = lenI_ChangeS a0v_Steps from ln_eq ChangeS_i _]
  refine Run.cond (by cbv) (hq0) (fun c1 => ?_) (fun c1 => ?_)
  · have h := if_t c1 h
    refine Run.seq ?_
    refine Run.region hL hT [] (by cbv) ?_ ?_
    · exact hq0
    refine Run.ret ?_
    cases h
    refine ⟨_, _, by cbv, ?_, ?_⟩
    · exact LLe.r
    · exact (ALe.v LLe.r ALe.nil)
  · have h := if_f c1 h
    refine Run.skip ?_
    refine Run.seq ?_
    obtain ⟨⟨⟨⟨r2v_1v_Schemav_Cols⟩, r2v_1v_Version, r2v_1v_Tables⟩, r2v_2⟩, h_r2, h⟩ := bnd h
    refine Run.region hL hT [(4, .call [false, false] [.ag [.jk, .jk, .jk, .jk], .v (.jk)] [.ag [.ow 3 (eInt_c r2v_1v_Schemav_Cols), .s (.int .i64 r2v_1v_Version), .ow 72 (eRowS_o r2v_1v_Tables)], .v (.s (.bool r2v_2))])] (by cbv) ?_ ?_
    · exact (hq trivial (hq trivial (hq (by rw [show ln (eChangeS_i a0v_Steps) = lenI_ChangeS a0v_Steps from ln_eq ChangeS_i _]; exact (hC (impl_after_ac h_r2))) (hq trivial hq0))))
    rw [show ln (eChangeS_i a0v_Steps) = lenI_ChangeS a0v_Steps from ln_eq ChangeS_i _]
    refine Run.seq ?_
    refine Run.region hL hT [] (by cbv) ?_ ?_
    · exact hq0
    refine Run.ret ?_
    cases h
    refine ⟨_, _, by cbv, ?_, ?_⟩
    · exact LLe.r
    · exact (ALe.v LLe.r ALe.nil)

set_option maxRecDepth 8000 in
theorem impl_At_ac {a0v_Firstv_Schemav_Cols : List Int} {a0v_Firstv_Version : Int} {a0v_Firstv_Tables : List (List Row)} {a0v_Steps : List (List Change)} {a1 : Int} {r : Store × Bool} (h : impl_At.f (Record.mk (Store.mk (Schema.mk a0v_Firstv_Schemav_Cols) a0v_Firstv_Version a0v_Firstv_Tables) a0v_Steps) a1 = some r) : AC Try.prog 21 [.ag [.im false (rowsOf Int_c a0v_Firstv_Schemav_Cols), .s (.int .i64 a0v_Firstv_Version), .im false (rowsOf RowS_i a0v_Firstv_Tables), .im false (rowsOf ChangeS_i a0v_Steps)], .v (.s (.int .i64 a1))] [.ag [.jk, .jk, .jk, .jk], .v (.jk)] [.ag [.ow 3 (rowsOf Int_c r.1.Schema.Cols), .s (.int .i64 r.1.Version), .ow 72 (rowsOf RowS_o r.1.Tables)], .v (.s (.bool r.2))] := by
  unfold impl_At.f at h
  let ar := Ls.ar; let cm := Ls.cm; let bo := Ls.bo; let sc := Ls.sc; let sa := Ls.sa; let sx := Ls.sx; let ss := Ls.ss; let sl := Ls.sl; let bs := Ls.bs; let sb := Ls.sb; let ln := Ls.ln; let sr := Ls.sr; let ap := Ls.ap; let up := Ls.up; let rp := Ls.rp; let fr := Ls.fr; let ge := Ls.ge; let le := Ls.le; let lt := Ls.lt; let nz := Ls.nz; let mm := Ls.mm; let ma := Ls.ma; let sm := Ls.sm; let fl := Ls.fl; let al := Ls.al; let ci := Ls.ci
  let eChangeS_i := rowsOf ChangeS_i
  let eInt_c := rowsOf Int_c
  let eRowS_i := rowsOf RowS_i
  let eRowS_o := rowsOf RowS_o
  let lenI_ChangeS := @lenI (List Change)
  have hL : (⟨ar, cm, bo, sc, sa, sx, ss, sl, bs, sb, ln, sr, ap, up, rp, fr, ge, le, lt, nz, mm, ma, sm, fl, al, ci⟩ : Lf) = Ls := rfl
  show AC Try.prog 21 [.ag [.im false (eInt_c a0v_Firstv_Schemav_Cols), .s (.int .i64 a0v_Firstv_Version), .im false (eRowS_i a0v_Firstv_Tables), .im false (eChangeS_i a0v_Steps)], .v (.s (.int .i64 a1))] _ _
  refine AC.of_run2 tab_ok Try.func21 (by rfl) (by rfl) (by cbv) ⟨by decide, rfl⟩ fun F hP hA => ?_
  have hT : TabOk F.P tab := hP ▸ tab_ok
  have hM : F.P.follows .mixedOrders = true := hP ▸ mixed
  have hC : ∀ {f a o r}, AC Try.prog f a o r → AC F.P f a o r := fun h => hP ▸ h
  refine Run.seq ?_
  refine Run.region hL hT [] (by cbv) ?_ ?_
  · exact hq0
  refine Run.seq ?_
  refine Run.seq ?_
  obtain ⟨r1, h_r1, h⟩ := bnd h
  obtain ⟨r2, h_r2, h⟩ := bnd h
  refine Run.region hL hT [(1, .call [false] [.ag [.jk, .jk, .jk, .jk]] [.v (.s (.bool r1))]), (15, .call [false, false, false] [.v (.jk), .v (.jk), .v (.jk)] [.v (.s (.bool r2))])] (by cbv) ?_ ?_
  · exact (hq trivial (hq (hC (impl_RecordOk_ac h_r1)) (hq (fun _ => hq0) (hq (fun _ => hq0) (hq (fun g5 => (hq g5 hq0)) (hq (fun g6 => (hq g6 (hq trivial hq0))) (hq (fun _ => hq0) (hq (fun g8 => (hq g8 hq0)) (hq (fun g9 => (hq g9 (hq trivial hq0))) (hq (fun _ => hq0) (hq (fun g11 => (hq g11 (hq trivial hq0))) (hq (fun g12 => (hq g12 hq0)) (hq (fun g13 => (hq g13 (hq g13 (hq trivial hq0)))) (hq (fun g14 => (hq g14 (hq g14 (hq g14 (hq (by rw [show ln (eChangeS_i a0v_Steps) = lenI_ChangeS a0v_Steps from ln_eq ChangeS_i _]; exact (hC (impl_within_ac (gd_t h_r2 g14)))) hq0))))) (hq (fun g15 => (hq g15 hq0)) (hq (fun _ => hq0) (hq (fun q17 => (hq (bo_m q17) hq0)) hq0)))))))))))))))))
  rw [show ln (eChangeS_i a0v_Steps) = lenI_ChangeS a0v_Steps from ln_eq ChangeS_i _]
  refine Run.cond (by cbv) (hq0) (fun c18 => ?_) (fun c18 => ?_)
  · have h := if_t c18 h
    refine Run.seq ?_
    refine Run.region hL hT [] (by cbv) ?_ ?_
    · exact (hq trivial hq0)
    refine Run.ret ?_
    cases h
    refine ⟨_, _, by cbv, ?_, ?_⟩
    · exact LLe.r
    · exact (ALe.ag rfl (LLe.cons LLe.nilO (LLe.c (LLe.cons LLe.nilO LLe.nil))) (ALe.v LLe.r ALe.nil))
  · have h := if_f c18 h
    refine Run.skip ?_
    refine Run.seq ?_
    obtain ⟨⟨⟨⟨r19v_1v_Schemav_Cols⟩, r19v_1v_Version, r19v_1v_Tables⟩, r19v_2⟩, h_r19, h⟩ := bnd h
    refine Run.region hL hT [(6, .call [false, false] [.ag [.jk, .jk, .jk, .jk], .v (.jk)] [.ag [.ow 3 (eInt_c r19v_1v_Schemav_Cols), .s (.int .i64 r19v_1v_Version), .ow 72 (eRowS_o r19v_1v_Tables)], .v (.s (.bool r19v_2))])] (by cbv) ?_ ?_
    · exact (hq trivial (hq trivial (hq trivial (hq (hC (impl_after_ac h_r19)) (hq trivial hq0)))))
    refine Run.ret ?_
    cases h
    refine ⟨_, _, by cbv, ?_, ?_⟩
    · exact LLe.r
    · exact (ALe.ag rfl LLe.r (ALe.v LLe.r ALe.nil))

set_option maxRecDepth 8000 in
theorem impl_Last_ac {a0v_Firstv_Schemav_Cols : List Int} {a0v_Firstv_Version : Int} {a0v_Firstv_Tables : List (List Row)} {a0v_Steps : List (List Change)} {r : Int} (h : impl_Last.f (Record.mk (Store.mk (Schema.mk a0v_Firstv_Schemav_Cols) a0v_Firstv_Version a0v_Firstv_Tables) a0v_Steps) = some r) : AC Try.prog 24 [.ag [.im false (rowsOf Int_c a0v_Firstv_Schemav_Cols), .s (.int .i64 a0v_Firstv_Version), .im false (rowsOf RowS_i a0v_Firstv_Tables), .im false (rowsOf ChangeS_i a0v_Steps)]] [.ag [.jk, .jk, .jk, .jk]] [.v (.s (.int .i64 r))] := by
  unfold impl_Last.f at h
  let ar := Ls.ar; let cm := Ls.cm; let bo := Ls.bo; let sc := Ls.sc; let sa := Ls.sa; let sx := Ls.sx; let ss := Ls.ss; let sl := Ls.sl; let bs := Ls.bs; let sb := Ls.sb; let ln := Ls.ln; let sr := Ls.sr; let ap := Ls.ap; let up := Ls.up; let rp := Ls.rp; let fr := Ls.fr; let ge := Ls.ge; let le := Ls.le; let lt := Ls.lt; let nz := Ls.nz; let mm := Ls.mm; let ma := Ls.ma; let sm := Ls.sm; let fl := Ls.fl; let al := Ls.al; let ci := Ls.ci
  let eChangeS_i := rowsOf ChangeS_i
  let eInt_c := rowsOf Int_c
  let eRowS_i := rowsOf RowS_i
  let lenI_ChangeS := @lenI (List Change)
  have hL : (⟨ar, cm, bo, sc, sa, sx, ss, sl, bs, sb, ln, sr, ap, up, rp, fr, ge, le, lt, nz, mm, ma, sm, fl, al, ci⟩ : Lf) = Ls := rfl
  show AC Try.prog 24 [.ag [.im false (eInt_c a0v_Firstv_Schemav_Cols), .s (.int .i64 a0v_Firstv_Version), .im false (eRowS_i a0v_Firstv_Tables), .im false (eChangeS_i a0v_Steps)]] _ _
  refine AC.of_run2 tab_ok Try.func24 (by rfl) (by rfl) (by cbv) ⟨by decide, rfl⟩ fun F hP hA => ?_
  have hT : TabOk F.P tab := hP ▸ tab_ok
  have hM : F.P.follows .mixedOrders = true := hP ▸ mixed
  have hC : ∀ {f a o r}, AC Try.prog f a o r → AC F.P f a o r := fun h => hP ▸ h
  refine Run.seq ?_
  refine Run.region hL hT [] (by cbv) ?_ ?_
  · exact hq0
  refine Run.seq ?_
  refine Run.seq ?_
  obtain ⟨r1, h_r1, h⟩ := bnd h
  refine Run.region hL hT [(1, .call [false] [.ag [.jk, .jk, .jk, .jk]] [.v (.s (.bool r1))])] (by cbv) ?_ ?_
  · exact (hq trivial (hq (hC (impl_RecordOk_ac h_r1)) hq0))
  refine Run.cond (by cbv) (hq0) (fun c2 => ?_) (fun c2 => ?_)
  · have h := if_t c2 h
    refine Run.seq ?_
    refine Run.region hL hT [] (by cbv) ?_ ?_
    · exact hq0
    refine Run.ret ?_
    cases h
    refine ⟨_, _, by cbv, ?_, ?_⟩
    · exact LLe.r
    · exact (ALe.v LLe.r ALe.nil)
  · have h := if_f c2 h
    refine Run.skip ?_
    refine Run.seq ?_
    refine Run.region hL hT [] (by cbv) ?_ ?_
    · exact (hq trivial (hq trivial (hq trivial hq0)))
    rw [show ln (eChangeS_i a0v_Steps) = lenI_ChangeS a0v_Steps from ln_eq ChangeS_i _]
    refine Run.ret ?_
    cases h
    refine ⟨_, _, by cbv, ?_, ?_⟩
    · exact LLe.r
    · exact (ALe.v LLe.r ALe.nil)

set_option maxRecDepth 8000 in
theorem spec_l1In_ac {a0 : Int} {a1 : Int} {a2 : Int} {r : Bool} (h : spec_l1In.f a0 a1 a2 = some r) : AC Try.prog 41 [.v (.s (.int .i64 a0)), .v (.s (.int .i64 a1)), .v (.s (.int .i64 a2))] [.v (.jk), .v (.jk), .v (.jk)] [.v (.s (.bool r))] := by
  unfold spec_l1In.f at h
  let ar := Ls.ar; let cm := Ls.cm; let bo := Ls.bo; let sc := Ls.sc; let sa := Ls.sa; let sx := Ls.sx; let ss := Ls.ss; let sl := Ls.sl; let bs := Ls.bs; let sb := Ls.sb; let ln := Ls.ln; let sr := Ls.sr; let ap := Ls.ap; let up := Ls.up; let rp := Ls.rp; let fr := Ls.fr; let ge := Ls.ge; let le := Ls.le; let lt := Ls.lt; let nz := Ls.nz; let mm := Ls.mm; let ma := Ls.ma; let sm := Ls.sm; let fl := Ls.fl; let al := Ls.al; let ci := Ls.ci
  have hL : (⟨ar, cm, bo, sc, sa, sx, ss, sl, bs, sb, ln, sr, ap, up, rp, fr, ge, le, lt, nz, mm, ma, sm, fl, al, ci⟩ : Lf) = Ls := rfl
  show AC Try.prog 41 [.v (.s (.int .i64 a0)), .v (.s (.int .i64 a1)), .v (.s (.int .i64 a2))] _ _
  refine AC.of_run2 tab_ok Try.func41 (by rfl) (by rfl) (by cbv) ⟨by decide, rfl⟩ fun F hP hA => ?_
  have hT : TabOk F.P tab := hP ▸ tab_ok
  have hM : F.P.follows .mixedOrders = true := hP ▸ mixed
  have hC : ∀ {f a o r}, AC Try.prog f a o r → AC F.P f a o r := fun h => hP ▸ h
  refine Run.seq ?_
  refine Run.region hL hT [] (by cbv) ?_ ?_
  · exact hq0
  refine Run.seq ?_
  refine Run.region hL hT [] (by cbv) ?_ ?_
  · exact (hq trivial (hq (fun _ => hq0) (hq (fun _ => hq0) (hq (fun g3 => (hq g3 (hq g3 (hq trivial hq0)))) (hq (fun q4 => (hq q4 hq0)) (hq (fun _ => hq0) hq0))))))
  refine Run.ret ?_
  cases h
  refine ⟨_, _, by cbv, ?_, ?_⟩
  · exact LLe.r
  · exact (ALe.v LLe.r ALe.nil)

set_option maxRecDepth 8000 in
theorem spec_SchemaOk_ac {a0v_Cols : List Int} {r : Bool} (h : spec_SchemaOk.f (Schema.mk a0v_Cols) = some r) : AC Try.prog 18 [.ag [.im false (rowsOf Int_c a0v_Cols)]] [.ag [.jk]] [.v (.s (.bool r))] := by
  unfold spec_SchemaOk.f at h
  let ar := Ls.ar; let cm := Ls.cm; let bo := Ls.bo; let sc := Ls.sc; let sa := Ls.sa; let sx := Ls.sx; let ss := Ls.ss; let sl := Ls.sl; let bs := Ls.bs; let sb := Ls.sb; let ln := Ls.ln; let sr := Ls.sr; let ap := Ls.ap; let up := Ls.up; let rp := Ls.rp; let fr := Ls.fr; let ge := Ls.ge; let le := Ls.le; let lt := Ls.lt; let nz := Ls.nz; let mm := Ls.mm; let ma := Ls.ma; let sm := Ls.sm; let fl := Ls.fl; let al := Ls.al; let ci := Ls.ci
  let eInt_c := rowsOf Int_c
  let lenI_Int := @lenI Int
  have hL : (⟨ar, cm, bo, sc, sa, sx, ss, sl, bs, sb, ln, sr, ap, up, rp, fr, ge, le, lt, nz, mm, ma, sm, fl, al, ci⟩ : Lf) = Ls := rfl
  show AC Try.prog 18 [.ag [.im false (eInt_c a0v_Cols)]] _ _
  refine AC.of_run2 tab_ok Try.func18 (by rfl) (by rfl) (by cbv) ⟨by decide, rfl⟩ fun F hP hA => ?_
  have hT : TabOk F.P tab := hP ▸ tab_ok
  have hM : F.P.follows .mixedOrders = true := hP ▸ mixed
  have hC : ∀ {f a o r}, AC Try.prog f a o r → AC F.P f a o r := fun h => hP ▸ h
  refine Run.seq ?_
  refine Run.region hL hT [] (by cbv) ?_ ?_
  · exact hq0
  obtain ⟨K2, h_K2, h⟩ := joinE h
  refine Run.join1 K2 (r := r) (fun (y1 : Unit) => ⟨22, 100000, [(1, .pt 1 0 0)], [(1, .box 26 [.t (.im false (eInt_c a0v_Cols))])]⟩) ?_ ?_
  · skip
    refine Run.seq ?_
    refine Run.region hL hT [] (by cbv) ?_ ?_
    · exact hq0
    refine Run.block ?_
    refine Run.loop1 (fun (z5 : Int) => ⟨22, 100000, [(1, .pt 1 0 0), (3, .t (.s (.int .i64 z5)))], [(1, .box 26 [.t (.im false (eInt_c a0v_Cols))])]⟩) (x0 := 0) h (Weak.of _ [(1, 0)] hA (by cbv) ?_) (fun _ => rfl) ?_
    · repeat (first | exact hq0 | refine hq (by first | exact True.intro | rfl) ?_)
    · intro k z5 h
      rw [spec_SchemaOk.l0] at h
      refine Run.seq ?_
      refine Run.seq ?_
      refine Run.region hL hT [] (by cbv) ?_ ?_
      · exact (hq trivial (hq trivial hq0))
      rw [show ln (eInt_c a0v_Cols) = lenI_Int a0v_Cols from ln_eq Int_c _]
      refine Run.cond (by cbv) (hq0) (fun c6 => ?_) (fun c6 => ?_)
      · have h := if_t c6 h
        refine Run.skip ?_
        refine Run.seq ?_
        refine Run.block ?_
        refine Run.seq ?_
        obtain ⟨x7, h_x7, h⟩ := bnd h
        obtain ⟨r8, h_r8, h⟩ := bnd h
        refine Run.region hL hT [(3, .el [.s (.int .i64 x7)]), (5, .call [false, false, false] [.v (.jk), .v (.jk), .v (.jk)] [.v (.s (.bool r8))])] (by cbv) ?_ ?_
        · exact (hq trivial (hq (get_le h_x7) (hq (get_lt (f := Int_c) h_x7) (hq (get_ge (f := Int_c) h_x7) (hq (hC (spec_l1In_ac h_r8)) hq0)))))
        refine Run.cond (by cbv) (hq0) (fun c9 => ?_) (fun c9 => ?_)
        · have h := if_t c9 h
          refine Run.seq ?_
          refine Run.region hL hT [] (by cbv) ?_ ?_
          · exact hq0
          refine Run.ret ?_
          cases h
          refine ⟨_, _, by cbv, ?_, ?_⟩
          · exact LLe.r
          · exact (ALe.v LLe.r ALe.nil)
        · have h := if_f c9 h
          refine Run.skip ?_
          refine Run.region hL hT [] (by cbv) ?_ ?_
          · exact (hq trivial hq0)
          refine ⟨(ar .add .i64 z5 1), h, Weak.of _ [(1, 1)] hA (by cbv) ?_⟩
          repeat (first | exact hq0 | refine hq (by first | exact True.intro | rfl) ?_)
      · have h := if_f c6 h
        refine Run.exit ?_
        refine ⟨(), h, Weak.of _ [(1, 1)] hA (by cbv) ?_⟩
        repeat (first | exact hq0 | refine hq (by first | exact True.intro | rfl) ?_)
  · intro y1 h
    rw [h_K2] at h
    refine Run.seq ?_
    obtain ⟨r10, h_r10, h⟩ := bnd h
    refine Run.region hL hT [(3, .call [false, false, false] [.v (.jk), .v (.jk), .v (.jk)] [.v (.s (.bool r10))])] (by cbv) ?_ ?_
    · exact (hq trivial (hq (by rw [show ln (eInt_c a0v_Cols) = lenI_Int a0v_Cols from ln_eq Int_c _]; exact (hC (spec_l1In_ac h_r10))) hq0))
    rw [show ln (eInt_c a0v_Cols) = lenI_Int a0v_Cols from ln_eq Int_c _]
    refine Run.ret ?_
    cases h
    refine ⟨_, _, by cbv, ?_, ?_⟩
    · exact LLe.r
    · exact (ALe.v LLe.r ALe.nil)

set_option maxRecDepth 8000 in
theorem spec_RowOk_ac {a0v_Cols : List Int} {a1 : Int} {a2v_Id : Int} {a2v_Cells : List Int} {r : Bool} (h : spec_RowOk.f (Schema.mk a0v_Cols) a1 (Row.mk a2v_Id a2v_Cells) = some r) : AC Try.prog 91 [.ag [.im false (rowsOf Int_c a0v_Cols)], .v (.s (.int .i64 a1)), .ag [.s (.int .i64 a2v_Id), .im false (rowsOf Int_c a2v_Cells)]] [.ag [.jk], .v (.jk), .ag [.jk, .jk]] [.v (.s (.bool r))] := by
  unfold spec_RowOk.f at h
  let ar := Ls.ar; let cm := Ls.cm; let bo := Ls.bo; let sc := Ls.sc; let sa := Ls.sa; let sx := Ls.sx; let ss := Ls.ss; let sl := Ls.sl; let bs := Ls.bs; let sb := Ls.sb; let ln := Ls.ln; let sr := Ls.sr; let ap := Ls.ap; let up := Ls.up; let rp := Ls.rp; let fr := Ls.fr; let ge := Ls.ge; let le := Ls.le; let lt := Ls.lt; let nz := Ls.nz; let mm := Ls.mm; let ma := Ls.ma; let sm := Ls.sm; let fl := Ls.fl; let al := Ls.al; let ci := Ls.ci
  let eInt_c := rowsOf Int_c
  let lenI_Int := @lenI Int
  have hL : (⟨ar, cm, bo, sc, sa, sx, ss, sl, bs, sb, ln, sr, ap, up, rp, fr, ge, le, lt, nz, mm, ma, sm, fl, al, ci⟩ : Lf) = Ls := rfl
  show AC Try.prog 91 [.ag [.im false (eInt_c a0v_Cols)], .v (.s (.int .i64 a1)), .ag [.s (.int .i64 a2v_Id), .im false (eInt_c a2v_Cells)]] _ _
  refine AC.of_run2 tab_ok Try.func91 (by rfl) (by rfl) (by cbv) ⟨by decide, rfl⟩ fun F hP hA => ?_
  have hT : TabOk F.P tab := hP ▸ tab_ok
  have hM : F.P.follows .mixedOrders = true := hP ▸ mixed
  have hC : ∀ {f a o r}, AC Try.prog f a o r → AC F.P f a o r := fun h => hP ▸ h
  refine Run.seq ?_
  refine Run.region hL hT [] (by cbv) ?_ ?_
  · exact hq0
  refine Run.seq ?_
  refine Run.seq ?_
  obtain ⟨r1, h_r1, h⟩ := bnd h
  obtain ⟨r2, h_r2, h⟩ := bnd h
  obtain ⟨r3, h_r3, h⟩ := bnd h
  obtain ⟨x4, h_x4, h⟩ := bnd h
  refine Run.draw hL hT hM [(1, .call [false] [.ag [.jk]] [.v (.s (.bool r1))]), (9, .call [false, false, false] [.v (.jk), .v (.jk), .v (.jk)] [.v (.s (.bool r2))]), (15, .call [false, false, false] [.v (.jk), .v (.jk), .v (.jk)] [.v (.s (.bool r3))]), (25, .el [.s (.int .i64 x4)])] (by cbv) (by cbv) (by cbv) (by cbv) (by cbv) ?_ ?_
  · exact (hq trivial (hq (hC (spec_SchemaOk_ac h_r1)) (hq (fun _ => hq0) (hq (fun _ => hq0) (hq (fun g7 => (hq g7 (hq trivial hq0))) (hq (fun g8 => (hq g8 hq0)) (hq (fun g9 => (hq g9 (hq trivial hq0))) (hq (fun g10 => (hq g10 (hq g10 (hq (by rw [show ln (eInt_c a0v_Cols) = lenI_Int a0v_Cols from ln_eq Int_c _]; exact (hC (spec_l1In_ac (gd_t h_r2 g10)))) hq0)))) (hq (fun g11 => (hq g11 hq0)) (hq (fun _ => hq0) (hq (fun q13 => (hq (bo_m q13) hq0)) (hq (fun _ => hq0) (hq (fun g15 => (hq g15 (hq trivial hq0))) (hq (fun g16 => (hq g16 (hq (hC (spec_l1In_ac (gd_t h_r3 g16))) hq0))) (hq (fun g17 => (hq g17 hq0)) (hq (fun _ => hq0) (hq (fun q19 => (hq (bo_m q19) hq0)) (hq (fun _ => hq0) (hq (fun g21 => (hq g21 (hq trivial hq0))) (hq (fun g22 => (hq g22 hq0)) (hq (fun _ => hq0) (hq (fun g24 => (hq g24 (hq trivial hq0))) (hq (fun _ => hq0) (hq (fun g26 => (hq g26 (hq g26 (hq (get_le (gd_t h_x4 g26)) (hq (get_lt (f := Int_c) (gd_t h_x4 g26)) (hq (get_ge (f := Int_c) (gd_t h_x4 g26)) hq0)))))) (hq (fun g27 => (hq g27 hq0)) (hq (fun g28 => (hq g28 (hq g28 (hq trivial hq0)))) (hq (fun _ => hq0) (hq (fun q30 => (hq (bo_m q30) hq0)) hq0))))))))))))))))))))))))))))
  rw [show ln (eInt_c a0v_Cols) = lenI_Int a0v_Cols from ln_eq Int_c _]
  rw [show ln (eInt_c a2v_Cells) = lenI_Int a2v_Cells from ln_eq Int_c _]
  refine Run.cond (by cbv) (hq0) (fun c31 => ?_) (fun c31 => ?_)
  · have h := if_t c31 h
    refine Run.seq ?_
    refine Run.region hL hT [] (by cbv) ?_ ?_
    · exact hq0
    refine Run.ret ?_
    cases h
    refine ⟨_, _, by cbv, ?_, ?_⟩
    · exact LLe.r
    · exact (ALe.v LLe.r ALe.nil)
  · have h := if_f c31 h
    refine Run.skip ?_
    refine Run.seq ?_
    refine Run.seq ?_
    refine Run.region hL hT [] (by cbv) ?_ ?_
    · exact hq0
    refine Run.block ?_
    refine Run.loop1 (fun (z35 : Int) => ⟨51, 100000, [(5, .pt 1 0 0), (7, .t (.s (.int .i64 z35)))], [(1, .box 38 [.t (.s (.int .i64 a2v_Id)), .t (.im false (eInt_c a2v_Cells))])]⟩) (x0 := 0) h (Weak.of _ [(1, 1)] hA (by cbv) ?_) (fun _ => rfl) ?_
    · repeat (first | exact hq0 | refine hq (by first | exact True.intro | rfl) ?_)
    · intro k z35 h
      rw [spec_RowOk.l0] at h
      refine Run.seq ?_
      refine Run.seq ?_
      refine Run.region hL hT [] (by cbv) ?_ ?_
      · exact (hq trivial (hq trivial hq0))
      rw [show ln (eInt_c a2v_Cells) = lenI_Int a2v_Cells from ln_eq Int_c _]
      refine Run.cond (by cbv) (hq0) (fun c36 => ?_) (fun c36 => ?_)
      · have h := if_t c36 h
        refine Run.skip ?_
        refine Run.seq ?_
        refine Run.block ?_
        refine Run.seq ?_
        obtain ⟨x37, h_x37, h⟩ := bnd h
        obtain ⟨r38, h_r38, h⟩ := bnd h
        refine Run.region hL hT [(3, .el [.s (.int .i64 x37)]), (5, .call [false, false, false] [.v (.jk), .v (.jk), .v (.jk)] [.v (.s (.bool r38))])] (by cbv) ?_ ?_
        · exact (hq trivial (hq (get_le h_x37) (hq (get_lt (f := Int_c) h_x37) (hq (get_ge (f := Int_c) h_x37) (hq (hC (spec_l1In_ac h_r38)) hq0)))))
        refine Run.cond (by cbv) (hq0) (fun c39 => ?_) (fun c39 => ?_)
        · have h := if_t c39 h
          refine Run.seq ?_
          refine Run.region hL hT [] (by cbv) ?_ ?_
          · exact hq0
          refine Run.ret ?_
          cases h
          refine ⟨_, _, by cbv, ?_, ?_⟩
          · exact LLe.r
          · exact (ALe.v LLe.r ALe.nil)
        · have h := if_f c39 h
          refine Run.skip ?_
          refine Run.region hL hT [] (by cbv) ?_ ?_
          · exact (hq trivial hq0)
          refine ⟨(ar .add .i64 z35 1), h, Weak.of _ [(1, 1)] hA (by cbv) ?_⟩
          repeat (first | exact hq0 | refine hq (by first | exact True.intro | rfl) ?_)
      · have h := if_f c36 h
        refine Run.exit ?_
        refine Run.seq ?_
        refine Run.region hL hT [] (by cbv) ?_ ?_
        · exact hq0
        refine Run.ret ?_
        cases h
        refine ⟨_, _, by cbv, ?_, ?_⟩
        · exact LLe.r
        · exact (ALe.v LLe.r ALe.nil)

set_option maxRecDepth 8000 in
theorem spec_RowsOk_ac {a0v_Cols : List Int} {a1 : Int} {a2 : List Row} {r : Bool} (h : spec_RowsOk.f (Schema.mk a0v_Cols) a1 a2 = some r) : AC Try.prog 63 [.ag [.im false (rowsOf Int_c a0v_Cols)], .v (.s (.int .i64 a1)), .v (.im false (rowsOf Row_i a2))] [.ag [.jk], .v (.jk), .v (.jk)] [.v (.s (.bool r))] := by
  unfold spec_RowsOk.f at h
  let ar := Ls.ar; let cm := Ls.cm; let bo := Ls.bo; let sc := Ls.sc; let sa := Ls.sa; let sx := Ls.sx; let ss := Ls.ss; let sl := Ls.sl; let bs := Ls.bs; let sb := Ls.sb; let ln := Ls.ln; let sr := Ls.sr; let ap := Ls.ap; let up := Ls.up; let rp := Ls.rp; let fr := Ls.fr; let ge := Ls.ge; let le := Ls.le; let lt := Ls.lt; let nz := Ls.nz; let mm := Ls.mm; let ma := Ls.ma; let sm := Ls.sm; let fl := Ls.fl; let al := Ls.al; let ci := Ls.ci
  let eInt_c := rowsOf Int_c
  let eRow_i := rowsOf Row_i
  let lenI_Int := @lenI Int
  let lenI_Row := @lenI Row
  have hL : (⟨ar, cm, bo, sc, sa, sx, ss, sl, bs, sb, ln, sr, ap, up, rp, fr, ge, le, lt, nz, mm, ma, sm, fl, al, ci⟩ : Lf) = Ls := rfl
  show AC Try.prog 63 [.ag [.im false (eInt_c a0v_Cols)], .v (.s (.int .i64 a1)), .v (.im false (eRow_i a2))] _ _
  refine AC.of_run2 tab_ok Try.func63 (by rfl) (by rfl) (by cbv) ⟨by decide, rfl⟩ fun F hP hA => ?_
  have hT : TabOk F.P tab := hP ▸ tab_ok
  have hM : F.P.follows .mixedOrders = true := hP ▸ mixed
  have hC : ∀ {f a o r}, AC Try.prog f a o r → AC F.P f a o r := fun h => hP ▸ h
  refine Run.seq ?_
  refine Run.region hL hT [] (by cbv) ?_ ?_
  · exact hq0
  obtain ⟨K2, h_K2, h⟩ := joinE h
  refine Run.join1 K2 (r := r) (fun (y1 : Unit) => ⟨55, 100000, [(1, .t (.s (.int .i64 a1))), (2, .t (.im false (eRow_i a2))), (3, .pt 1 0 0)], [(1, .box 26 [.t (.im false (eInt_c a0v_Cols))])]⟩) ?_ ?_
  · skip
    refine Run.seq ?_
    refine Run.region hL hT [] (by cbv) ?_ ?_
    · exact hq0
    refine Run.block ?_
    refine Run.loop1 (fun (z7 : Int) => ⟨55, 100000, [(1, .t (.s (.int .i64 a1))), (2, .t (.im false (eRow_i a2))), (3, .pt 1 0 0), (7, .t (.s (.int .i64 z7)))], [(1, .box 26 [.t (.im false (eInt_c a0v_Cols))])]⟩) (x0 := 0) h (Weak.of _ [(1, 0)] hA (by cbv) ?_) (fun _ => rfl) ?_
    · repeat (first | exact hq0 | refine hq (by first | exact True.intro | rfl) ?_)
    · intro k z7 h
      rw [spec_RowsOk.l0] at h
      refine Run.seq ?_
      refine Run.seq ?_
      refine Run.region hL hT [] (by cbv) ?_ ?_
      · exact (hq trivial hq0)
      rw [show ln (eRow_i a2) = lenI_Row a2 from ln_eq Row_i _]
      refine Run.cond (by cbv) (hq0) (fun c8 => ?_) (fun c8 => ?_)
      · have h := if_t c8 h
        refine Run.skip ?_
        refine Run.seq ?_
        refine Run.block ?_
        refine Run.seq ?_
        obtain ⟨⟨x9v_Id, x9v_Cells⟩, h_x9, h⟩ := bnd h
        obtain ⟨r10, h_r10, h⟩ := bnd h
        obtain ⟨⟨x11v_Id, x11v_Cells⟩, h_x11, h⟩ := bnd h
        refine Run.draw hL hT hM [(4, .el [.s (.int .i64 x9v_Id), .im false (eInt_c x9v_Cells)]), (6, .call [false, false, false] [.ag [.jk], .v (.jk), .ag [.jk, .jk]] [.v (.s (.bool r10))]), (15, .el [.s (.int .i64 x11v_Id), .im false (eInt_c x11v_Cells)]), (20, .el [.s (.int .i64 x9v_Id), .im false (eInt_c x9v_Cells)])] (by cbv) (by cbv) (by cbv) (by cbv) (by cbv) ?_ ?_
        · exact (hq trivial (hq (get_le h_x9) (hq (get_lt (f := Row_i) h_x9) (hq (get_ge (f := Row_i) h_x9) (hq (hC (spec_RowOk_ac h_r10)) (hq (fun _ => hq0) (hq (fun g13 => (hq g13 (hq trivial hq0))) (hq (fun g14 => (hq g14 hq0)) (hq (fun _ => hq0) (hq (fun _ => hq0) (hq (fun g17 => (hq g17 (hq trivial hq0))) (hq (fun g18 => (hq g18 (hq g18 (hq (get_le (gd_t h_x11 g18)) (hq (get_lt (f := Row_i) (gd_t h_x11 g18)) (hq (get_ge (f := Row_i) (gd_t h_x11 g18)) hq0)))))) (hq (fun g19 => (hq g19 hq0)) (hq (fun g20 => (hq g20 hq0)) (hq (fun _ => hq0) (hq (fun _ => hq0) (hq (fun g23 => (hq g23 (hq g23 (hq (get_le h_x9) (hq (get_lt (f := Row_i) h_x9) (hq (get_ge (f := Row_i) h_x9) hq0)))))) (hq (fun g24 => (hq g24 hq0)) (hq (fun g25 => (hq g25 hq0)) (hq (fun g26 => (hq g26 (hq g26 (hq trivial hq0)))) (hq (fun g27 => (hq g27 (hq (fun q28 => (hq (bo_a g27 q28) hq0)) (hq (fun _ => hq0) hq0)))) (hq (fun _ => hq0) (hq (fun q31 => (hq (bo_m q31) hq0)) hq0)))))))))))))))))))))))
        refine Run.cond (by cbv) (hq0) (fun c32 => ?_) (fun c32 => ?_)
        · have h := if_t c32 h
          refine Run.seq ?_
          refine Run.region hL hT [] (by cbv) ?_ ?_
          · exact hq0
          refine Run.ret ?_
          cases h
          refine ⟨_, _, by cbv, ?_, ?_⟩
          · exact LLe.r
          · exact (ALe.v LLe.r ALe.nil)
        · have h := if_f c32 h
          refine Run.skip ?_
          refine Run.region hL hT [] (by cbv) ?_ ?_
          · exact (hq trivial hq0)
          refine ⟨(ar .add .i64 z7 1), h, Weak.of _ [(1, 1)] hA (by cbv) ?_⟩
          repeat (first | exact hq0 | refine hq (by first | exact True.intro | rfl) ?_)
      · have h := if_f c8 h
        refine Run.exit ?_
        refine ⟨(), h, Weak.of _ [(1, 1)] hA (by cbv) ?_⟩
        repeat (first | exact hq0 | refine hq (by first | exact True.intro | rfl) ?_)
  · intro y1 h
    rw [h_K2] at h
    refine Run.seq ?_
    obtain ⟨r33, h_r33, h⟩ := bnd h
    obtain ⟨r34, h_r34, h⟩ := bnd h
    refine Run.region hL hT [(1, .call [false] [.ag [.jk]] [.v (.s (.bool r33))]), (8, .call [false, false, false] [.v (.jk), .v (.jk), .v (.jk)] [.v (.s (.bool r34))])] (by cbv) ?_ ?_
    · exact (hq trivial (hq (hC (spec_SchemaOk_ac h_r33)) (hq (fun _ => hq0) (hq (fun _ => hq0) (hq (fun g37 => (hq g37 (hq trivial hq0))) (hq (fun g38 => (hq g38 hq0)) (hq (fun g39 => (hq g39 (hq trivial hq0))) (hq (fun g40 => (hq g40 (hq g40 (hq (by rw [show ln (eInt_c a0v_Cols) = lenI_Int a0v_Cols from ln_eq Int_c _]; exact (hC (spec_l1In_ac (gd_t h_r34 g40)))) hq0)))) (hq (fun q41 => (hq q41 hq0)) (hq (fun _ => hq0) (hq (fun _ => hq0) (hq (fun g44 => (hq g44 hq0)) (hq (fun g45 => (hq g45 (hq trivial hq0))) (hq (fun q46 => (hq q46 hq0)) (hq (fun _ => hq0) hq0)))))))))))))))
    rw [show ln (eInt_c a0v_Cols) = lenI_Int a0v_Cols from ln_eq Int_c _]
    rw [show ln (eRow_i a2) = lenI_Row a2 from ln_eq Row_i _]
    refine Run.ret ?_
    cases h
    refine ⟨_, _, by cbv, ?_, ?_⟩
    · exact LLe.r
    · exact (ALe.v LLe.r ALe.nil)

set_option maxRecDepth 8000 in
theorem spec_StoreOk_ac {a0v_Schemav_Cols : List Int} {a0v_Version : Int} {a0v_Tables : List (List Row)} {r : Bool} (h : spec_StoreOk.f (Store.mk (Schema.mk a0v_Schemav_Cols) a0v_Version a0v_Tables) = some r) : AC Try.prog 33 [.ag [.im false (rowsOf Int_c a0v_Schemav_Cols), .s (.int .i64 a0v_Version), .im false (rowsOf RowS_i a0v_Tables)]] [.ag [.jk, .jk, .jk]] [.v (.s (.bool r))] := by
  unfold spec_StoreOk.f at h
  let ar := Ls.ar; let cm := Ls.cm; let bo := Ls.bo; let sc := Ls.sc; let sa := Ls.sa; let sx := Ls.sx; let ss := Ls.ss; let sl := Ls.sl; let bs := Ls.bs; let sb := Ls.sb; let ln := Ls.ln; let sr := Ls.sr; let ap := Ls.ap; let up := Ls.up; let rp := Ls.rp; let fr := Ls.fr; let ge := Ls.ge; let le := Ls.le; let lt := Ls.lt; let nz := Ls.nz; let mm := Ls.mm; let ma := Ls.ma; let sm := Ls.sm; let fl := Ls.fl; let al := Ls.al; let ci := Ls.ci
  let eInt_c := rowsOf Int_c
  let eRowS_i := rowsOf RowS_i
  let eRow_i := rowsOf Row_i
  let lenI_Int := @lenI Int
  let lenI_RowS := @lenI (List Row)
  have hL : (⟨ar, cm, bo, sc, sa, sx, ss, sl, bs, sb, ln, sr, ap, up, rp, fr, ge, le, lt, nz, mm, ma, sm, fl, al, ci⟩ : Lf) = Ls := rfl
  show AC Try.prog 33 [.ag [.im false (eInt_c a0v_Schemav_Cols), .s (.int .i64 a0v_Version), .im false (eRowS_i a0v_Tables)]] _ _
  refine AC.of_run2 tab_ok Try.func33 (by rfl) (by rfl) (by cbv) ⟨by decide, rfl⟩ fun F hP hA => ?_
  have hT : TabOk F.P tab := hP ▸ tab_ok
  have hM : F.P.follows .mixedOrders = true := hP ▸ mixed
  have hC : ∀ {f a o r}, AC Try.prog f a o r → AC F.P f a o r := fun h => hP ▸ h
  refine Run.seq ?_
  refine Run.region hL hT [] (by cbv) ?_ ?_
  · exact hq0
  refine Run.seq ?_
  refine Run.seq ?_
  obtain ⟨r1, h_r1, h⟩ := bnd h
  obtain ⟨r2, h_r2, h⟩ := bnd h
  refine Run.region hL hT [(2, .call [false] [.ag [.jk]] [.v (.s (.bool r1))]), (7, .call [false, false, false] [.v (.jk), .v (.jk), .v (.jk)] [.v (.s (.bool r2))])] (by cbv) ?_ ?_
  · exact (hq trivial (hq (hC (spec_SchemaOk_ac h_r1)) (hq (fun _ => hq0) (hq (fun g4 => (hq g4 (hq trivial hq0))) (hq (fun g5 => (hq g5 (hq (hC (spec_l1In_ac (gd_t h_r2 g5))) hq0))) (hq (fun g6 => (hq g6 hq0)) (hq (fun _ => hq0) (hq (fun q8 => (hq (bo_m q8) hq0)) (hq (fun _ => hq0) (hq (fun g10 => (hq g10 (hq trivial hq0))) (hq (fun g11 => (hq g11 hq0)) (hq (fun _ => hq0) (hq (fun g13 => (hq g13 hq0)) (hq (fun g14 => (hq g14 (hq trivial hq0))) (hq (fun g15 => (hq g15 hq0)) (hq (fun g16 => (hq g16 (hq g16 (hq trivial hq0)))) (hq (fun _ => hq0) (hq (fun q18 => (hq (bo_m q18) hq0)) hq0))))))))))))))))))
  rw [show ln (eInt_c a0v_Schemav_Cols) = lenI_Int a0v_Schemav_Cols from ln_eq Int_c _]
  rw [show ln (eRowS_i a0v_Tables) = lenI_RowS a0v_Tables from ln_eq RowS_i _]
  refine Run.cond (by cbv) (hq0) (fun c19 => ?_) (fun c19 => ?_)
  · have h := if_t c19 h
    refine Run.seq ?_
    refine Run.region hL hT [] (by cbv) ?_ ?_
    · exact hq0
    refine Run.ret ?_
    cases h
    refine ⟨_, _, by cbv, ?_, ?_⟩
    · exact LLe.r
    · exact (ALe.v LLe.r ALe.nil)
  · have h := if_f c19 h
    refine Run.skip ?_
    refine Run.seq ?_
    refine Run.seq ?_
    refine Run.region hL hT [] (by cbv) ?_ ?_
    · exact hq0
    refine Run.block ?_
    refine Run.loop1 (fun (z24 : Int) => ⟨41, 100000, [(1, .pt 1 0 0), (3, .t (.s (.int .i64 z24)))], [(1, .box 29 [.t (.im false (eInt_c a0v_Schemav_Cols)), .t (.s (.int .i64 a0v_Version)), .t (.im false (eRowS_i a0v_Tables))])]⟩) (x0 := 0) h (Weak.of _ [(1, 0)] hA (by cbv) ?_) (fun _ => rfl) ?_
    · repeat (first | exact hq0 | refine hq (by first | exact True.intro | rfl) ?_)
    · intro k z24 h
      rw [spec_StoreOk.l0] at h
      refine Run.seq ?_
      refine Run.seq ?_
      refine Run.region hL hT [] (by cbv) ?_ ?_
      · exact (hq trivial (hq trivial hq0))
      rw [show ln (eRowS_i a0v_Tables) = lenI_RowS a0v_Tables from ln_eq RowS_i _]
      refine Run.cond (by cbv) (hq0) (fun c25 => ?_) (fun c25 => ?_)
      · have h := if_t c25 h
        refine Run.skip ?_
        refine Run.seq ?_
        refine Run.block ?_
        refine Run.seq ?_
        obtain ⟨x26, h_x26, h⟩ := bnd h
        obtain ⟨r27, h_r27, h⟩ := bnd h
        refine Run.draw hL hT hM [(6, .el [.im false (eRow_i x26)]), (8, .call [false, false, false] [.ag [.jk], .v (.jk), .v (.jk)] [.v (.s (.bool r27))])] (by cbv) (by cbv) (by cbv) (by cbv) (by cbv) ?_ ?_
        · exact (hq trivial (hq trivial (hq (get_le h_x26) (hq (get_lt (f := RowS_i) h_x26) (hq (get_ge (f := RowS_i) h_x26) (hq (hC (spec_RowsOk_ac h_r27)) hq0))))))
        refine Run.cond (by cbv) (hq0) (fun c28 => ?_) (fun c28 => ?_)
        · have h := if_t c28 h
          refine Run.seq ?_
          refine Run.region hL hT [] (by cbv) ?_ ?_
          · exact hq0
          refine Run.ret ?_
          cases h
          refine ⟨_, _, by cbv, ?_, ?_⟩
          · exact LLe.r
          · exact (ALe.v LLe.r ALe.nil)
        · have h := if_f c28 h
          refine Run.skip ?_
          refine Run.region hL hT [] (by cbv) ?_ ?_
          · exact (hq trivial hq0)
          refine ⟨(ar .add .i64 z24 1), h, Weak.of _ [(1, 1)] hA (by cbv) ?_⟩
          repeat (first | exact hq0 | refine hq (by first | exact True.intro | rfl) ?_)
      · have h := if_f c25 h
        refine Run.exit ?_
        refine Run.seq ?_
        refine Run.region hL hT [] (by cbv) ?_ ?_
        · exact hq0
        refine Run.ret ?_
        cases h
        refine ⟨_, _, by cbv, ?_, ?_⟩
        · exact LLe.r
        · exact (ALe.v LLe.r ALe.nil)

set_option maxRecDepth 8000 in
theorem spec_l7Schema_ac {a0v_Cols : List Int} {r : Schema} (h : spec_l7Schema.f (Schema.mk a0v_Cols) = some r) : AC Try.prog 78 [.ag [.im false (rowsOf Int_c a0v_Cols)]] [.ag [.jk]] [.ag [.ow 3 (rowsOf Int_c r.Cols)]] := by
  unfold spec_l7Schema.f at h
  let ar := Ls.ar; let cm := Ls.cm; let bo := Ls.bo; let sc := Ls.sc; let sa := Ls.sa; let sx := Ls.sx; let ss := Ls.ss; let sl := Ls.sl; let bs := Ls.bs; let sb := Ls.sb; let ln := Ls.ln; let sr := Ls.sr; let ap := Ls.ap; let up := Ls.up; let rp := Ls.rp; let fr := Ls.fr; let ge := Ls.ge; let le := Ls.le; let lt := Ls.lt; let nz := Ls.nz; let mm := Ls.mm; let ma := Ls.ma; let sm := Ls.sm; let fl := Ls.fl; let al := Ls.al; let ci := Ls.ci
  let eInt_c := rowsOf Int_c
  have hL : (⟨ar, cm, bo, sc, sa, sx, ss, sl, bs, sb, ln, sr, ap, up, rp, fr, ge, le, lt, nz, mm, ma, sm, fl, al, ci⟩ : Lf) = Ls := rfl
  show AC Try.prog 78 [.ag [.im false (eInt_c a0v_Cols)]] _ _
  refine AC.of_run2 tab_ok Try.func78 (by rfl) (by rfl) (by cbv) ⟨by decide, rfl⟩ fun F hP hA => ?_
  have hT : TabOk F.P tab := hP ▸ tab_ok
  have hM : F.P.follows .mixedOrders = true := hP ▸ mixed
  have hC : ∀ {f a o r}, AC Try.prog f a o r → AC F.P f a o r := fun h => hP ▸ h
  refine Run.seq ?_
  refine Run.region hL hT [] (by cbv) ?_ ?_
  · exact hq0
  refine Run.seq ?_
  obtain ⟨l1, h_l1, h⟩ := bnd h
  refine Run.region hL hT [] (by cbv) ?_ ?_
  · exact (hq trivial (hq (fl_row Int_c_f _) (hq (app_mb (P := Try.prog) (f := Int_c) RLe.r RLe.r h_l1) (hq trivial hq0))))
  refine Run.row (rows := (ap ([]) ((eInt_c a0v_Cols)))) 4099 (eInt_c l1) (by cbv) (app_le (f := Int_c) RLe.r RLe.r h_l1) ?_
  refine Run.ret ?_
  cases h
  refine ⟨_, _, by cbv, ?_, ?_⟩
  · exact LLe.r
  · exact (ALe.ag rfl LLe.r ALe.nil)

set_option maxRecDepth 8000 in
theorem spec_l6Copy_ac {a0v_Id : Int} {a0v_Cells : List Int} {r : Row} (h : spec_l6Copy.f (Row.mk a0v_Id a0v_Cells) = some r) : AC Try.prog 89 [.ag [.s (.int .i64 a0v_Id), .im false (rowsOf Int_c a0v_Cells)]] [.ag [.jk, .jk]] [.ag [.s (.int .i64 r.Id), .ow 3 (rowsOf Int_c r.Cells)]] := by
  unfold spec_l6Copy.f at h
  let ar := Ls.ar; let cm := Ls.cm; let bo := Ls.bo; let sc := Ls.sc; let sa := Ls.sa; let sx := Ls.sx; let ss := Ls.ss; let sl := Ls.sl; let bs := Ls.bs; let sb := Ls.sb; let ln := Ls.ln; let sr := Ls.sr; let ap := Ls.ap; let up := Ls.up; let rp := Ls.rp; let fr := Ls.fr; let ge := Ls.ge; let le := Ls.le; let lt := Ls.lt; let nz := Ls.nz; let mm := Ls.mm; let ma := Ls.ma; let sm := Ls.sm; let fl := Ls.fl; let al := Ls.al; let ci := Ls.ci
  let eInt_c := rowsOf Int_c
  have hL : (⟨ar, cm, bo, sc, sa, sx, ss, sl, bs, sb, ln, sr, ap, up, rp, fr, ge, le, lt, nz, mm, ma, sm, fl, al, ci⟩ : Lf) = Ls := rfl
  show AC Try.prog 89 [.ag [.s (.int .i64 a0v_Id), .im false (eInt_c a0v_Cells)]] _ _
  refine AC.of_run2 tab_ok Try.func89 (by rfl) (by rfl) (by cbv) ⟨by decide, rfl⟩ fun F hP hA => ?_
  have hT : TabOk F.P tab := hP ▸ tab_ok
  have hM : F.P.follows .mixedOrders = true := hP ▸ mixed
  have hC : ∀ {f a o r}, AC Try.prog f a o r → AC F.P f a o r := fun h => hP ▸ h
  refine Run.seq ?_
  refine Run.region hL hT [] (by cbv) ?_ ?_
  · exact hq0
  refine Run.seq ?_
  obtain ⟨l1, h_l1, h⟩ := bnd h
  refine Run.draw hL hT hM [] (by cbv) (by cbv) (by cbv) (by cbv) (by cbv) ?_ ?_
  · exact (hq trivial (hq trivial (hq (fl_row Int_c_f _) (hq (app_mb (P := Try.prog) (f := Int_c) RLe.r RLe.r h_l1) (hq trivial hq0)))))
  refine Run.row (rows := (ap ([]) ((eInt_c a0v_Cells)))) 4101 (eInt_c l1) (by cbv) (app_le (f := Int_c) RLe.r RLe.r h_l1) ?_
  refine Run.ret ?_
  cases h
  refine ⟨_, _, by cbv, ?_, ?_⟩
  · exact LLe.r
  · exact (ALe.ag rfl LLe.r ALe.nil)

set_option maxRecDepth 8000 in
theorem spec_l6Rows_ac {a0 : List Row} {r : (List Row)} (h : spec_l6Rows.f a0 = some r) : AC Try.prog 79 [.v (.im false (rowsOf Row_i a0))] [.v (.jk)] [.v (.ow 38 (rowsOf Row_o r))] := by
  unfold spec_l6Rows.f at h
  let ar := Ls.ar; let cm := Ls.cm; let bo := Ls.bo; let sc := Ls.sc; let sa := Ls.sa; let sx := Ls.sx; let ss := Ls.ss; let sl := Ls.sl; let bs := Ls.bs; let sb := Ls.sb; let ln := Ls.ln; let sr := Ls.sr; let ap := Ls.ap; let up := Ls.up; let rp := Ls.rp; let fr := Ls.fr; let ge := Ls.ge; let le := Ls.le; let lt := Ls.lt; let nz := Ls.nz; let mm := Ls.mm; let ma := Ls.ma; let sm := Ls.sm; let fl := Ls.fl; let al := Ls.al; let ci := Ls.ci
  let eInt_c := rowsOf Int_c
  let eRow_i := rowsOf Row_i
  let eRow_o := rowsOf Row_o
  let lenI_Row := @lenI Row
  have hL : (⟨ar, cm, bo, sc, sa, sx, ss, sl, bs, sb, ln, sr, ap, up, rp, fr, ge, le, lt, nz, mm, ma, sm, fl, al, ci⟩ : Lf) = Ls := rfl
  show AC Try.prog 79 [.v (.im false (eRow_i a0))] _ _
  refine AC.of_run2 tab_ok Try.func79 (by rfl) (by rfl) (by cbv) ⟨by decide, rfl⟩ fun F hP hA => ?_
  have hT : TabOk F.P tab := hP ▸ tab_ok
  have hM : F.P.follows .mixedOrders = true := hP ▸ mixed
  have hC : ∀ {f a o r}, AC Try.prog f a o r → AC F.P f a o r := fun h => hP ▸ h
  refine Run.seq ?_
  refine Run.region hL hT [] (by cbv) ?_ ?_
  · exact hq0
  refine Run.seq ?_
  refine Run.region hL hT [] (by cbv) ?_ ?_
  · exact hq0
  refine Run.seq ?_
  refine Run.seq ?_
  refine Run.region hL hT [] (by cbv) ?_ ?_
  · exact hq0
  refine Run.block ?_
  refine Run.loop2 (fun (z4 : List Row) (z5 : Int) => ⟨21, 100000, [(0, .t (.im false (eRow_i a0))), (3, .rf 1), (4, .t (.s (.int .i64 z5)))], [(1, .row 0 38 2 (eRow_o z4))]⟩) (x0 := []) (x1 := 0) h (Weak.of _ [(1, 4096)] hA (by cbv) ?_) (fun _ _ => rfl) ?_
  · repeat (first | exact hq0 | refine hq (by first | exact True.intro | rfl) ?_)
  · intro k z4 z5 h
    rw [spec_l6Rows.l0] at h
    refine Run.seq ?_
    refine Run.seq ?_
    refine Run.region hL hT [] (by cbv) ?_ ?_
    · exact (hq trivial hq0)
    rw [show ln (eRow_i a0) = lenI_Row a0 from ln_eq Row_i _]
    refine Run.cond (by cbv) (hq0) (fun c6 => ?_) (fun c6 => ?_)
    · have h := if_t c6 h
      refine Run.skip ?_
      refine Run.seq ?_
      refine Run.block ?_
      obtain ⟨⟨x7v_Id, x7v_Cells⟩, h_x7, h⟩ := bnd h
      obtain ⟨⟨r8v_Id, r8v_Cells⟩, h_r8, h⟩ := bnd h
      obtain ⟨l9, h_l9, h⟩ := bnd h
      obtain ⟨l10, h_l10, h⟩ := bnd h
      refine Run.region hL hT [(3, .el [.s (.int .i64 x7v_Id), .im false (eInt_c x7v_Cells)]), (5, .call [false] [.ag [.jk, .jk]] [.ag [.s (.int .i64 r8v_Id), .ow 3 (eInt_c r8v_Cells)]])] (by cbv) ?_ ?_
      · exact (hq (get_le h_x7) (hq (get_lt (f := Row_i) h_x7) (hq (get_ge (f := Row_i) h_x7) (hq (hC (spec_l6Copy_ac h_r8)) (hq (app_mb (P := Try.prog) (f := Row_o) RLe.r (some_le (f := Row_o) h_l9 (RLe.cons rfl LLe.r RLe.nil)) h_l10) hq0)))))
      refine Run.row (rows := (ap (eRow_o z4) ([[.s (.int .i64 r8v_Id), .ow 3 (eInt_c r8v_Cells)]]))) 104103 (eRow_o l10) (by cbv) (app_le (f := Row_o) RLe.r (some_le (f := Row_o) h_l9 (RLe.cons rfl LLe.r RLe.nil)) h_l10) ?_
      refine Run.region hL hT [] (by cbv) ?_ ?_
      · exact (hq trivial hq0)
      refine ⟨l10, (ar .add .i64 z5 1), h, Weak.of _ [(1, 104103)] hA (by cbv) ?_⟩
      repeat (first | exact hq0 | refine hq (by first | exact True.intro | rfl) ?_)
    · have h := if_f c6 h
      refine Run.exit ?_
      refine Run.seq ?_
      refine Run.region hL hT [] (by cbv) ?_ ?_
      · exact hq0
      refine Run.ret ?_
      cases h
      refine ⟨_, _, by cbv, ?_, ?_⟩
      · exact LLe.r
      · exact (ALe.v LLe.r ALe.nil)

set_option maxRecDepth 8000 in
theorem spec_l7Copy_ac {a0v_Schemav_Cols : List Int} {a0v_Version : Int} {a0v_Tables : List (List Row)} {r : Store} (h : spec_l7Copy.f (Store.mk (Schema.mk a0v_Schemav_Cols) a0v_Version a0v_Tables) = some r) : AC Try.prog 42 [.ag [.im false (rowsOf Int_c a0v_Schemav_Cols), .s (.int .i64 a0v_Version), .im false (rowsOf RowS_i a0v_Tables)]] [.ag [.jk, .jk, .jk]] [.ag [.ow 3 (rowsOf Int_c r.Schema.Cols), .s (.int .i64 r.Version), .ow 72 (rowsOf RowS_o r.Tables)]] := by
  unfold spec_l7Copy.f at h
  let ar := Ls.ar; let cm := Ls.cm; let bo := Ls.bo; let sc := Ls.sc; let sa := Ls.sa; let sx := Ls.sx; let ss := Ls.ss; let sl := Ls.sl; let bs := Ls.bs; let sb := Ls.sb; let ln := Ls.ln; let sr := Ls.sr; let ap := Ls.ap; let up := Ls.up; let rp := Ls.rp; let fr := Ls.fr; let ge := Ls.ge; let le := Ls.le; let lt := Ls.lt; let nz := Ls.nz; let mm := Ls.mm; let ma := Ls.ma; let sm := Ls.sm; let fl := Ls.fl; let al := Ls.al; let ci := Ls.ci
  let eInt_c := rowsOf Int_c
  let eRowS_i := rowsOf RowS_i
  let eRowS_o := rowsOf RowS_o
  let eRow_i := rowsOf Row_i
  let eRow_o := rowsOf Row_o
  let lenI_RowS := @lenI (List Row)
  have hL : (⟨ar, cm, bo, sc, sa, sx, ss, sl, bs, sb, ln, sr, ap, up, rp, fr, ge, le, lt, nz, mm, ma, sm, fl, al, ci⟩ : Lf) = Ls := rfl
  show AC Try.prog 42 [.ag [.im false (eInt_c a0v_Schemav_Cols), .s (.int .i64 a0v_Version), .im false (eRowS_i a0v_Tables)]] _ _
  refine AC.of_run2 tab_ok Try.func42 (by rfl) (by rfl) (by cbv) ⟨by decide, rfl⟩ fun F hP hA => ?_
  have hT : TabOk F.P tab := hP ▸ tab_ok
  have hM : F.P.follows .mixedOrders = true := hP ▸ mixed
  have hC : ∀ {f a o r}, AC Try.prog f a o r → AC F.P f a o r := fun h => hP ▸ h
  refine Run.seq ?_
  refine Run.region hL hT [] (by cbv) ?_ ?_
  · exact hq0
  refine Run.seq ?_
  obtain ⟨⟨r1v_Cols⟩, h_r1, h⟩ := bnd h
  refine Run.draw hL hT hM [(2, .call [false] [.ag [.jk]] [.ag [.ow 3 (eInt_c r1v_Cols)]])] (by cbv) (by cbv) (by cbv) (by cbv) (by cbv) ?_ ?_
  · exact (hq trivial (hq (hC (spec_l7Schema_ac h_r1)) (hq trivial (hq trivial hq0))))
  refine Run.seq ?_
  refine Run.seq ?_
  refine Run.region hL hT [] (by cbv) ?_ ?_
  · exact hq0
  refine Run.block ?_
  refine Run.loop2 (fun (z17 : List (List Row)) (z18 : Int) => ⟨30, 100000, [(1, .pt 1 0 0), (2, .pt 2 0 0), (3, .pt 3 0 0), (4, .t (.s (.int .i64 z18)))], [(1, .box 29 [.t (.im false (eInt_c a0v_Schemav_Cols)), .t (.s (.int .i64 a0v_Version)), .t (.im false (eRowS_i a0v_Tables))]), (2, .box 29 [.t (.s (.slice none 0 0)), .t (.s (.int .i64 0)), .t (.s (.slice none 0 0))]), (3, .box 29 [.rf 4, .t (.s (.int .i64 a0v_Version)), .rf 5]), (4, .row 0 3 1 (eInt_c r1v_Cols)), (5, .row 0 72 1 (eRowS_o z17))]⟩) (x0 := []) (x1 := 0) h ((Weak.nilB (l := [.rf 4098, .t (.s (.int .i64 a0v_Version))]) hT 4102 2 13288 72 rfl (by cbv) (by cbv) (by cbv)).trans (Weak.of _ [(1, 0), (2, 1), (3, 4102), (4, 4098), (5, 13288)] hA (by cbv) ?_)) (fun _ _ => rfl) ?_
  · repeat (first | exact hq0 | refine hq (by first | exact True.intro | rfl) ?_)
  · intro k z17 z18 h
    rw [spec_l7Copy.l0] at h
    refine Run.seq ?_
    refine Run.seq ?_
    refine Run.region hL hT [] (by cbv) ?_ ?_
    · exact (hq trivial (hq trivial hq0))
    rw [show ln (eRowS_i a0v_Tables) = lenI_RowS a0v_Tables from ln_eq RowS_i _]
    refine Run.cond (by cbv) (hq0) (fun c19 => ?_) (fun c19 => ?_)
    · have h := if_t c19 h
      refine Run.skip ?_
      refine Run.seq ?_
      refine Run.block ?_
      obtain ⟨x20, h_x20, h⟩ := bnd h
      obtain ⟨r21, h_r21, h⟩ := bnd h
      obtain ⟨l22, h_l22, h⟩ := bnd h
      obtain ⟨l23, h_l23, h⟩ := bnd h
      refine Run.draw hL hT hM [(5, .el [.im false (eRow_i x20)]), (7, .call [false] [.v (.jk)] [.v (.ow 38 (eRow_o r21))])] (by cbv) (by cbv) (by cbv) (by cbv) (by cbv) ?_ ?_
      · exact (hq trivial (hq trivial (hq (get_le h_x20) (hq (get_lt (f := RowS_i) h_x20) (hq (get_ge (f := RowS_i) h_x20) (hq (hC (spec_l6Rows_ac h_r21)) (hq (app_mb (P := Try.prog) (f := RowS_o) RLe.r (some_le (f := RowS_o) h_l22 (RLe.cons rfl LLe.r RLe.nil)) h_l23) (hq trivial hq0))))))))
      refine Run.row (rows := (ap (eRowS_o z17) ([[.ow 38 (eRow_o r21)]]))) 104105 (eRowS_o l23) (by cbv) (app_le (f := RowS_o) RLe.r (some_le (f := RowS_o) h_l22 (RLe.cons rfl LLe.r RLe.nil)) h_l23) ?_
      refine Run.region hL hT [] (by cbv) ?_ ?_
      · exact (hq trivial hq0)
      refine ⟨l23, (ar .add .i64 z18 1), h, Weak.of _ [(1, 1), (2, 2), (3, 3), (4, 4), (5, 104105)] hA (by cbv) ?_⟩
      repeat (first | exact hq0 | refine hq (by first | exact True.intro | rfl) ?_)
    · have h := if_f c19 h
      refine Run.exit ?_
      refine Run.seq ?_
      refine Run.region hL hT [] (by cbv) ?_ ?_
      · exact (hq trivial (hq trivial hq0))
      refine Run.ret ?_
      cases h
      refine ⟨_, _, by cbv, ?_, ?_⟩
      · exact LLe.r
      · exact (ALe.ag rfl LLe.r ALe.nil)

set_option maxRecDepth 8000 in
theorem spec_l8Zero_ac {a0v_Id : Int} {a0v_Cells : List Int} {r : Bool} (h : spec_l8Zero.f (Row.mk a0v_Id a0v_Cells) = some r) : AC Try.prog 43 [.ag [.s (.int .i64 a0v_Id), .im false (rowsOf Int_c a0v_Cells)]] [.ag [.jk, .jk]] [.v (.s (.bool r))] := by
  unfold spec_l8Zero.f at h
  let ar := Ls.ar; let cm := Ls.cm; let bo := Ls.bo; let sc := Ls.sc; let sa := Ls.sa; let sx := Ls.sx; let ss := Ls.ss; let sl := Ls.sl; let bs := Ls.bs; let sb := Ls.sb; let ln := Ls.ln; let sr := Ls.sr; let ap := Ls.ap; let up := Ls.up; let rp := Ls.rp; let fr := Ls.fr; let ge := Ls.ge; let le := Ls.le; let lt := Ls.lt; let nz := Ls.nz; let mm := Ls.mm; let ma := Ls.ma; let sm := Ls.sm; let fl := Ls.fl; let al := Ls.al; let ci := Ls.ci
  let eInt_c := rowsOf Int_c
  let lenI_Int := @lenI Int
  have hL : (⟨ar, cm, bo, sc, sa, sx, ss, sl, bs, sb, ln, sr, ap, up, rp, fr, ge, le, lt, nz, mm, ma, sm, fl, al, ci⟩ : Lf) = Ls := rfl
  show AC Try.prog 43 [.ag [.s (.int .i64 a0v_Id), .im false (eInt_c a0v_Cells)]] _ _
  refine AC.of_run2 tab_ok Try.func43 (by rfl) (by rfl) (by cbv) ⟨by decide, rfl⟩ fun F hP hA => ?_
  have hT : TabOk F.P tab := hP ▸ tab_ok
  have hM : F.P.follows .mixedOrders = true := hP ▸ mixed
  have hC : ∀ {f a o r}, AC Try.prog f a o r → AC F.P f a o r := fun h => hP ▸ h
  refine Run.seq ?_
  refine Run.region hL hT [] (by cbv) ?_ ?_
  · exact hq0
  refine Run.seq ?_
  refine Run.region hL hT [] (by cbv) ?_ ?_
  · exact (hq trivial (hq trivial (hq (fun _ => hq0) (hq (fun g2 => (hq g2 (hq trivial hq0))) (hq (fun g3 => (hq g3 hq0)) (hq (fun g4 => (hq g4 (hq trivial hq0))) (hq (fun q5 => (hq q5 hq0)) (hq (fun _ => hq0) hq0))))))))
  rw [show ln (eInt_c a0v_Cells) = lenI_Int a0v_Cells from ln_eq Int_c _]
  refine Run.ret ?_
  cases h
  refine ⟨_, _, by cbv, ?_, ?_⟩
  · exact LLe.r
  · exact (ALe.v LLe.r ALe.nil)

set_option maxRecDepth 8000 in
theorem spec_RowSame_ac {a0v_Id : Int} {a0v_Cells : List Int} {a1v_Id : Int} {a1v_Cells : List Int} {r : Bool} (h : spec_RowSame.f (Row.mk a0v_Id a0v_Cells) (Row.mk a1v_Id a1v_Cells) = some r) : AC Try.prog 103 [.ag [.s (.int .i64 a0v_Id), .im false (rowsOf Int_c a0v_Cells)], .ag [.s (.int .i64 a1v_Id), .im false (rowsOf Int_c a1v_Cells)]] [.ag [.jk, .jk], .ag [.jk, .jk]] [.v (.s (.bool r))] := by
  unfold spec_RowSame.f at h
  let ar := Ls.ar; let cm := Ls.cm; let bo := Ls.bo; let sc := Ls.sc; let sa := Ls.sa; let sx := Ls.sx; let ss := Ls.ss; let sl := Ls.sl; let bs := Ls.bs; let sb := Ls.sb; let ln := Ls.ln; let sr := Ls.sr; let ap := Ls.ap; let up := Ls.up; let rp := Ls.rp; let fr := Ls.fr; let ge := Ls.ge; let le := Ls.le; let lt := Ls.lt; let nz := Ls.nz; let mm := Ls.mm; let ma := Ls.ma; let sm := Ls.sm; let fl := Ls.fl; let al := Ls.al; let ci := Ls.ci
  let eInt_c := rowsOf Int_c
  let lenI_Int := @lenI Int
  have hL : (⟨ar, cm, bo, sc, sa, sx, ss, sl, bs, sb, ln, sr, ap, up, rp, fr, ge, le, lt, nz, mm, ma, sm, fl, al, ci⟩ : Lf) = Ls := rfl
  show AC Try.prog 103 [.ag [.s (.int .i64 a0v_Id), .im false (eInt_c a0v_Cells)], .ag [.s (.int .i64 a1v_Id), .im false (eInt_c a1v_Cells)]] _ _
  refine AC.of_run2 tab_ok Try.func103 (by rfl) (by rfl) (by cbv) ⟨by decide, rfl⟩ fun F hP hA => ?_
  have hT : TabOk F.P tab := hP ▸ tab_ok
  have hM : F.P.follows .mixedOrders = true := hP ▸ mixed
  have hC : ∀ {f a o r}, AC Try.prog f a o r → AC F.P f a o r := fun h => hP ▸ h
  refine Run.seq ?_
  refine Run.region hL hT [] (by cbv) ?_ ?_
  · exact hq0
  refine Run.seq ?_
  refine Run.seq ?_
  refine Run.region hL hT [] (by cbv) ?_ ?_
  · exact (hq trivial (hq trivial (hq trivial (hq (fun _ => hq0) (hq (fun g2 => (hq g2 (hq trivial hq0))) (hq (fun g3 => (hq g3 hq0)) (hq (fun _ => hq0) (hq (fun g5 => (hq g5 (hq trivial hq0))) (hq (fun g6 => (hq g6 hq0)) (hq (fun g7 => (hq g7 (hq g7 (hq trivial hq0)))) (hq (fun _ => hq0) (hq (fun q9 => (hq (bo_m q9) hq0)) hq0))))))))))))
  rw [show ln (eInt_c a0v_Cells) = lenI_Int a0v_Cells from ln_eq Int_c _]
  rw [show ln (eInt_c a1v_Cells) = lenI_Int a1v_Cells from ln_eq Int_c _]
  refine Run.cond (by cbv) (hq0) (fun c10 => ?_) (fun c10 => ?_)
  · have h := if_t c10 h
    refine Run.seq ?_
    refine Run.region hL hT [] (by cbv) ?_ ?_
    · exact hq0
    refine Run.ret ?_
    cases h
    refine ⟨_, _, by cbv, ?_, ?_⟩
    · exact LLe.r
    · exact (ALe.v LLe.r ALe.nil)
  · have h := if_f c10 h
    refine Run.skip ?_
    refine Run.seq ?_
    refine Run.seq ?_
    refine Run.region hL hT [] (by cbv) ?_ ?_
    · exact hq0
    refine Run.block ?_
    refine Run.loop1 (fun (z16 : Int) => ⟨38, 100000, [(2, .pt 1 0 0), (3, .pt 2 0 0), (5, .t (.s (.int .i64 z16)))], [(1, .box 38 [.t (.s (.int .i64 a0v_Id)), .t (.im false (eInt_c a0v_Cells))]), (2, .box 38 [.t (.s (.int .i64 a1v_Id)), .t (.im false (eInt_c a1v_Cells))])]⟩) (x0 := 0) h (Weak.of _ [(1, 0), (2, 1)] hA (by cbv) ?_) (fun _ => rfl) ?_
    · repeat (first | exact hq0 | refine hq (by first | exact True.intro | rfl) ?_)
    · intro k z16 h
      rw [spec_RowSame.l0] at h
      refine Run.seq ?_
      refine Run.seq ?_
      refine Run.region hL hT [] (by cbv) ?_ ?_
      · exact (hq trivial (hq trivial hq0))
      rw [show ln (eInt_c a0v_Cells) = lenI_Int a0v_Cells from ln_eq Int_c _]
      refine Run.cond (by cbv) (hq0) (fun c17 => ?_) (fun c17 => ?_)
      · have h := if_t c17 h
        refine Run.skip ?_
        refine Run.seq ?_
        refine Run.block ?_
        refine Run.seq ?_
        obtain ⟨x18, h_x18, h⟩ := bnd h
        obtain ⟨x19, h_x19, h⟩ := bnd h
        refine Run.draw hL hT hM [(3, .el [.s (.int .i64 x18)]), (8, .el [.s (.int .i64 x19)])] (by cbv) (by cbv) (by cbv) (by cbv) (by cbv) ?_ ?_
        · exact (hq trivial (hq (get_le h_x18) (hq (get_lt (f := Int_c) h_x18) (hq (get_ge (f := Int_c) h_x18) (hq trivial (hq (get_le h_x19) (hq (get_lt (f := Int_c) h_x19) (hq (get_ge (f := Int_c) h_x19) (hq trivial hq0)))))))))
        refine Run.cond (by cbv) (hq0) (fun c20 => ?_) (fun c20 => ?_)
        · have h := if_t c20 h
          refine Run.seq ?_
          refine Run.region hL hT [] (by cbv) ?_ ?_
          · exact hq0
          refine Run.ret ?_
          cases h
          refine ⟨_, _, by cbv, ?_, ?_⟩
          · exact LLe.r
          · exact (ALe.v LLe.r ALe.nil)
        · have h := if_f c20 h
          refine Run.skip ?_
          refine Run.region hL hT [] (by cbv) ?_ ?_
          · exact (hq trivial hq0)
          refine ⟨(ar .add .i64 z16 1), h, Weak.of _ [(1, 1), (2, 2)] hA (by cbv) ?_⟩
          repeat (first | exact hq0 | refine hq (by first | exact True.intro | rfl) ?_)
      · have h := if_f c17 h
        refine Run.exit ?_
        refine Run.seq ?_
        refine Run.region hL hT [] (by cbv) ?_ ?_
        · exact hq0
        refine Run.ret ?_
        cases h
        refine ⟨_, _, by cbv, ?_, ?_⟩
        · exact LLe.r
        · exact (ALe.v LLe.r ALe.nil)

set_option maxRecDepth 8000 in
theorem spec_RowAt_ac {a0 : List Row} {a1 : Int} {r : Int} (h : spec_RowAt.f a0 a1 = some r) : AC Try.prog 82 [.v (.im false (rowsOf Row_i a0)), .v (.s (.int .i64 a1))] [.v (.jk), .v (.jk)] [.v (.s (.int .i64 r))] := by
  unfold spec_RowAt.f at h
  let ar := Ls.ar; let cm := Ls.cm; let bo := Ls.bo; let sc := Ls.sc; let sa := Ls.sa; let sx := Ls.sx; let ss := Ls.ss; let sl := Ls.sl; let bs := Ls.bs; let sb := Ls.sb; let ln := Ls.ln; let sr := Ls.sr; let ap := Ls.ap; let up := Ls.up; let rp := Ls.rp; let fr := Ls.fr; let ge := Ls.ge; let le := Ls.le; let lt := Ls.lt; let nz := Ls.nz; let mm := Ls.mm; let ma := Ls.ma; let sm := Ls.sm; let fl := Ls.fl; let al := Ls.al; let ci := Ls.ci
  let eInt_c := rowsOf Int_c
  let eRow_i := rowsOf Row_i
  let lenI_Row := @lenI Row
  have hL : (⟨ar, cm, bo, sc, sa, sx, ss, sl, bs, sb, ln, sr, ap, up, rp, fr, ge, le, lt, nz, mm, ma, sm, fl, al, ci⟩ : Lf) = Ls := rfl
  show AC Try.prog 82 [.v (.im false (eRow_i a0)), .v (.s (.int .i64 a1))] _ _
  refine AC.of_run2 tab_ok Try.func82 (by rfl) (by rfl) (by cbv) ⟨by decide, rfl⟩ fun F hP hA => ?_
  have hT : TabOk F.P tab := hP ▸ tab_ok
  have hM : F.P.follows .mixedOrders = true := hP ▸ mixed
  have hC : ∀ {f a o r}, AC Try.prog f a o r → AC F.P f a o r := fun h => hP ▸ h
  refine Run.seq ?_
  refine Run.region hL hT [] (by cbv) ?_ ?_
  · exact hq0
  refine Run.seq ?_
  refine Run.seq ?_
  refine Run.region hL hT [] (by cbv) ?_ ?_
  · exact hq0
  refine Run.block ?_
  refine Run.loop1 (fun (z4 : Int) => ⟨20, 100000, [(0, .t (.im false (eRow_i a0))), (1, .t (.s (.int .i64 a1))), (5, .t (.s (.int .i64 z4)))], []⟩) (x0 := 0) h (Weak.of _ [] hA (by cbv) ?_) (fun _ => rfl) ?_
  · repeat (first | exact hq0 | refine hq (by first | exact True.intro | rfl) ?_)
  · intro k z4 h
    rw [spec_RowAt.l0] at h
    refine Run.seq ?_
    refine Run.seq ?_
    refine Run.region hL hT [] (by cbv) ?_ ?_
    · exact (hq trivial hq0)
    rw [show ln (eRow_i a0) = lenI_Row a0 from ln_eq Row_i _]
    refine Run.cond (by cbv) (hq0) (fun c5 => ?_) (fun c5 => ?_)
    · have h := if_t c5 h
      refine Run.skip ?_
      refine Run.seq ?_
      refine Run.block ?_
      refine Run.seq ?_
      obtain ⟨⟨x6v_Id, x6v_Cells⟩, h_x6, h⟩ := bnd h
      refine Run.region hL hT [(2, .el [.s (.int .i64 x6v_Id), .im false (eInt_c x6v_Cells)])] (by cbv) ?_ ?_
      · exact (hq (get_le h_x6) (hq (get_lt (f := Row_i) h_x6) (hq (get_ge (f := Row_i) h_x6) (hq trivial hq0))))
      refine Run.cond (by cbv) (hq0) (fun c7 => ?_) (fun c7 => ?_)
      · have h := if_t c7 h
        refine Run.seq ?_
        refine Run.region hL hT [] (by cbv) ?_ ?_
        · exact hq0
        refine Run.ret ?_
        cases h
        refine ⟨_, _, by cbv, ?_, ?_⟩
        · exact LLe.r
        · exact (ALe.v LLe.r ALe.nil)
      · have h := if_f c7 h
        refine Run.skip ?_
        refine Run.region hL hT [] (by cbv) ?_ ?_
        · exact (hq trivial hq0)
        refine ⟨(ar .add .i64 z4 1), h, Weak.of _ [] hA (by cbv) ?_⟩
        repeat (first | exact hq0 | refine hq (by first | exact True.intro | rfl) ?_)
    · have h := if_f c5 h
      refine Run.exit ?_
      refine Run.seq ?_
      refine Run.region hL hT [] (by cbv) ?_ ?_
      · exact hq0
      refine Run.ret ?_
      cases h
      refine ⟨_, _, by cbv, ?_, ?_⟩
      · exact LLe.r
      · exact (ALe.v LLe.r ALe.nil)

set_option maxRecDepth 8000 in
theorem spec_l7There_ac {a0v_Schemav_Cols : List Int} {a0v_Version : Int} {a0v_Tables : List (List Row)} {a1 : Int} {a2v_Id : Int} {a2v_Cells : List Int} {r : Bool} (h : spec_l7There.f (Store.mk (Schema.mk a0v_Schemav_Cols) a0v_Version a0v_Tables) a1 (Row.mk a2v_Id a2v_Cells) = some r) : AC Try.prog 80 [.ag [.im false (rowsOf Int_c a0v_Schemav_Cols), .s (.int .i64 a0v_Version), .im false (rowsOf RowS_i a0v_Tables)], .v (.s (.int .i64 a1)), .ag [.s (.int .i64 a2v_Id), .im false (rowsOf Int_c a2v_Cells)]] [.ag [.jk, .jk, .jk], .v (.jk), .ag [.jk, .jk]] [.v (.s (.bool r))] := by
  unfold spec_l7There.f at h
  let ar := Ls.ar; let cm := Ls.cm; let bo := Ls.bo; let sc := Ls.sc; let sa := Ls.sa; let sx := Ls.sx; let ss := Ls.ss; let sl := Ls.sl; let bs := Ls.bs; let sb := Ls.sb; let ln := Ls.ln; let sr := Ls.sr; let ap := Ls.ap; let up := Ls.up; let rp := Ls.rp; let fr := Ls.fr; let ge := Ls.ge; let le := Ls.le; let lt := Ls.lt; let nz := Ls.nz; let mm := Ls.mm; let ma := Ls.ma; let sm := Ls.sm; let fl := Ls.fl; let al := Ls.al; let ci := Ls.ci
  let eInt_c := rowsOf Int_c
  let eRowS_i := rowsOf RowS_i
  let eRow_i := rowsOf Row_i
  let lenI_RowS := @lenI (List Row)
  have hL : (⟨ar, cm, bo, sc, sa, sx, ss, sl, bs, sb, ln, sr, ap, up, rp, fr, ge, le, lt, nz, mm, ma, sm, fl, al, ci⟩ : Lf) = Ls := rfl
  show AC Try.prog 80 [.ag [.im false (eInt_c a0v_Schemav_Cols), .s (.int .i64 a0v_Version), .im false (eRowS_i a0v_Tables)], .v (.s (.int .i64 a1)), .ag [.s (.int .i64 a2v_Id), .im false (eInt_c a2v_Cells)]] _ _
  refine AC.of_run2 tab_ok Try.func80 (by rfl) (by rfl) (by cbv) ⟨by decide, rfl⟩ fun F hP hA => ?_
  have hT : TabOk F.P tab := hP ▸ tab_ok
  have hM : F.P.follows .mixedOrders = true := hP ▸ mixed
  have hC : ∀ {f a o r}, AC Try.prog f a o r → AC F.P f a o r := fun h => hP ▸ h
  refine Run.seq ?_
  refine Run.region hL hT [] (by cbv) ?_ ?_
  · exact hq0
  refine Run.seq ?_
  refine Run.seq ?_
  obtain ⟨r1, h_r1, h⟩ := bnd h
  refine Run.region hL hT [(5, .call [false, false, false] [.v (.jk), .v (.jk), .v (.jk)] [.v (.s (.bool r1))])] (by cbv) ?_ ?_
  · exact (hq trivial (hq trivial (hq (by rw [show ln (eRowS_i a0v_Tables) = lenI_RowS a0v_Tables from ln_eq RowS_i _]; exact (hC (spec_l1In_ac h_r1))) hq0)))
  rw [show ln (eRowS_i a0v_Tables) = lenI_RowS a0v_Tables from ln_eq RowS_i _]
  refine Run.cond (by cbv) (hq0) (fun c2 => ?_) (fun c2 => ?_)
  · have h := if_t c2 h
    refine Run.seq ?_
    refine Run.region hL hT [] (by cbv) ?_ ?_
    · exact hq0
    refine Run.ret ?_
    cases h
    refine ⟨_, _, by cbv, ?_, ?_⟩
    · exact LLe.r
    · exact (ALe.v LLe.r ALe.nil)
  · have h := if_f c2 h
    refine Run.skip ?_
    refine Run.seq ?_
    obtain ⟨x3, h_x3, h⟩ := bnd h
    obtain ⟨r4, h_r4, h⟩ := bnd h
    refine Run.draw hL hT hM [(3, .el [.im false (eRow_i x3)]), (7, .call [false, false] [.v (.jk), .v (.jk)] [.v (.s (.int .i64 r4))])] (by cbv) (by cbv) (by cbv) (by cbv) (by cbv) ?_ ?_
    · exact (hq trivial (hq (get_le h_x3) (hq (get_lt (f := RowS_i) h_x3) (hq (get_ge (f := RowS_i) h_x3) (hq trivial (hq (hC (spec_RowAt_ac h_r4)) hq0))))))
    refine Run.seq ?_
    obtain ⟨⟨x5v_Id, x5v_Cells⟩, h_x5, h⟩ := bnd h
    obtain ⟨r6, h_r6, h⟩ := bnd h
    refine Run.draw hL hT hM [(6, .el [.im false (eRow_i x3)]), (9, .el [.s (.int .i64 x5v_Id), .im false (eInt_c x5v_Cells)]), (12, .call [false, false] [.ag [.jk, .jk], .ag [.jk, .jk]] [.v (.s (.bool r6))])] (by cbv) (by cbv) (by cbv) (by cbv) (by cbv) ?_ ?_
    · exact (hq trivial (hq (fun _ => hq0) (hq (fun g8 => (hq g8 (hq trivial hq0))) (hq (fun _ => hq0) (hq (fun g10 => (hq g10 (hq g10 (hq (get_le h_x3) (hq (get_lt (f := RowS_i) h_x3) (hq (get_ge (f := RowS_i) h_x3) hq0)))))) (hq (fun g11 => (hq g11 hq0)) (hq (fun _ => hq0) (hq (fun g13 => (hq g13 (hq g13 (hq (get_le (gd_t h_x5 g13)) (hq (get_lt (f := Row_i) (gd_t h_x5 g13)) (hq (get_ge (f := Row_i) (gd_t h_x5 g13)) hq0)))))) (hq (fun g14 => (hq g14 hq0)) (hq (fun g15 => (hq trivial hq0)) (hq (fun g16 => (hq g16 (hq g16 (hq (hC (spec_RowSame_ac (gd_t h_r6 g16))) hq0)))) (hq (fun q17 => (hq q17 hq0)) (hq (fun _ => hq0) hq0)))))))))))))
    refine Run.ret ?_
    cases h
    refine ⟨_, _, by cbv, ?_, ?_⟩
    · exact LLe.r
    · exact (ALe.v LLe.r ALe.nil)

set_option maxRecDepth 8000 in
theorem spec_RowDrop_ac {a0 : List Row} {a1 : Int} {r : (List Row)} (h : spec_RowDrop.f a0 a1 = some r) : AC Try.prog 81 [.v (.im false (rowsOf Row_i a0)), .v (.s (.int .i64 a1))] [.v (.jk), .v (.jk)] [.v (.ow 38 (rowsOf Row_o r))] := by
  unfold spec_RowDrop.f at h
  let ar := Ls.ar; let cm := Ls.cm; let bo := Ls.bo; let sc := Ls.sc; let sa := Ls.sa; let sx := Ls.sx; let ss := Ls.ss; let sl := Ls.sl; let bs := Ls.bs; let sb := Ls.sb; let ln := Ls.ln; let sr := Ls.sr; let ap := Ls.ap; let up := Ls.up; let rp := Ls.rp; let fr := Ls.fr; let ge := Ls.ge; let le := Ls.le; let lt := Ls.lt; let nz := Ls.nz; let mm := Ls.mm; let ma := Ls.ma; let sm := Ls.sm; let fl := Ls.fl; let al := Ls.al; let ci := Ls.ci
  let eInt_c := rowsOf Int_c
  let eRow_i := rowsOf Row_i
  let eRow_o := rowsOf Row_o
  let lenI_Row := @lenI Row
  have hL : (⟨ar, cm, bo, sc, sa, sx, ss, sl, bs, sb, ln, sr, ap, up, rp, fr, ge, le, lt, nz, mm, ma, sm, fl, al, ci⟩ : Lf) = Ls := rfl
  show AC Try.prog 81 [.v (.im false (eRow_i a0)), .v (.s (.int .i64 a1))] _ _
  refine AC.of_run2 tab_ok Try.func81 (by rfl) (by rfl) (by cbv) ⟨by decide, rfl⟩ fun F hP hA => ?_
  have hT : TabOk F.P tab := hP ▸ tab_ok
  have hM : F.P.follows .mixedOrders = true := hP ▸ mixed
  have hC : ∀ {f a o r}, AC Try.prog f a o r → AC F.P f a o r := fun h => hP ▸ h
  refine Run.seq ?_
  refine Run.region hL hT [] (by cbv) ?_ ?_
  · exact hq0
  refine Run.seq ?_
  obtain ⟨r1, h_r1, h⟩ := bnd h
  refine Run.region hL hT [(2, .call [false, false] [.v (.jk), .v (.jk)] [.v (.s (.int .i64 r1))])] (by cbv) ?_ ?_
  · exact (hq (hC (spec_RowAt_ac h_r1)) hq0)
  refine Run.seq ?_
  refine Run.region hL hT [] (by cbv) ?_ ?_
  · exact hq0
  refine Run.seq ?_
  refine Run.seq ?_
  refine Run.region hL hT [] (by cbv) ?_ ?_
  · exact hq0
  refine Run.block ?_
  refine Run.loop2 (fun (z6 : List Row) (z7 : Int) => ⟨30, 100000, [(0, .t (.im false (eRow_i a0))), (5, .t (.s (.int .i64 r1))), (6, .rf 1), (7, .t (.s (.int .i64 z7)))], [(1, .row 0 38 2 (eRow_o z6))]⟩) (x0 := []) (x1 := 0) h (Weak.of _ [(1, 8192)] hA (by cbv) ?_) (fun _ _ => rfl) ?_
  · repeat (first | exact hq0 | refine hq (by first | exact True.intro | rfl) ?_)
  · intro k z6 z7 h
    rw [spec_RowDrop.l0] at h
    refine Run.seq ?_
    refine Run.seq ?_
    refine Run.region hL hT [] (by cbv) ?_ ?_
    · exact (hq trivial hq0)
    rw [show ln (eRow_i a0) = lenI_Row a0 from ln_eq Row_i _]
    refine Run.cond (by cbv) (hq0) (fun c8 => ?_) (fun c8 => ?_)
    · have h := if_t c8 h
      refine Run.skip ?_
      refine Run.seq ?_
      refine Run.block ?_
      refine Run.seq ?_
      refine Run.region hL hT [] (by cbv) ?_ ?_
      · exact (hq trivial hq0)
      refine Run.cond (by cbv) (hq0) (fun c9 => ?_) (fun c9 => ?_)
      · have h := if_t c9 h
        obtain ⟨⟨x10v_Id, x10v_Cells⟩, h_x10, h⟩ := bnd h
        obtain ⟨⟨r11v_Id, r11v_Cells⟩, h_r11, h⟩ := bnd h
        obtain ⟨l12, h_l12, h⟩ := bnd h
        obtain ⟨l13, h_l13, h⟩ := bnd h
        refine Run.region hL hT [(3, .el [.s (.int .i64 x10v_Id), .im false (eInt_c x10v_Cells)]), (5, .call [false] [.ag [.jk, .jk]] [.ag [.s (.int .i64 r11v_Id), .ow 3 (eInt_c r11v_Cells)]])] (by cbv) ?_ ?_
        · exact (hq (get_le h_x10) (hq (get_lt (f := Row_i) h_x10) (hq (get_ge (f := Row_i) h_x10) (hq (hC (spec_l6Copy_ac h_r11)) (hq (app_mb (P := Try.prog) (f := Row_o) RLe.r (some_le (f := Row_o) h_l12 (RLe.cons rfl LLe.r RLe.nil)) h_l13) hq0)))))
        refine Run.row (rows := (ap (eRow_o z6) ([[.s (.int .i64 r11v_Id), .ow 3 (eInt_c r11v_Cells)]]))) 108199 (eRow_o l13) (by cbv) (app_le (f := Row_o) RLe.r (some_le (f := Row_o) h_l12 (RLe.cons rfl LLe.r RLe.nil)) h_l13) ?_
        refine Run.region hL hT [] (by cbv) ?_ ?_
        · exact (hq trivial hq0)
        refine ⟨l13, (ar .add .i64 z7 1), h, Weak.of _ [(1, 108199)] hA (by cbv) ?_⟩
        repeat (first | exact hq0 | refine hq (by first | exact True.intro | rfl) ?_)
      · have h := if_f c9 h
        refine Run.skip ?_
        refine Run.region hL hT [] (by cbv) ?_ ?_
        · exact (hq trivial hq0)
        refine ⟨z6, (ar .add .i64 z7 1), h, Weak.of _ [(1, 1)] hA (by cbv) ?_⟩
        repeat (first | exact hq0 | refine hq (by first | exact True.intro | rfl) ?_)
    · have h := if_f c8 h
      refine Run.exit ?_
      refine Run.seq ?_
      refine Run.region hL hT [] (by cbv) ?_ ?_
      · exact hq0
      refine Run.ret ?_
      cases h
      refine ⟨_, _, by cbv, ?_, ?_⟩
      · exact LLe.r
      · exact (ALe.v LLe.r ALe.nil)

set_option maxRecDepth 8000 in
theorem spec_RowPut_ac {a0 : List Row} {a1v_Id : Int} {a1v_Cells : List Int} {r : (List Row)} (h : spec_RowPut.f a0 (Row.mk a1v_Id a1v_Cells) = some r) : AC Try.prog 83 [.v (.im false (rowsOf Row_i a0)), .ag [.s (.int .i64 a1v_Id), .im false (rowsOf Int_c a1v_Cells)]] [.v (.jk), .ag [.jk, .jk]] [.v (.ow 38 (rowsOf Row_o r))] := by
  unfold spec_RowPut.f at h
  let ar := Ls.ar; let cm := Ls.cm; let bo := Ls.bo; let sc := Ls.sc; let sa := Ls.sa; let sx := Ls.sx; let ss := Ls.ss; let sl := Ls.sl; let bs := Ls.bs; let sb := Ls.sb; let ln := Ls.ln; let sr := Ls.sr; let ap := Ls.ap; let up := Ls.up; let rp := Ls.rp; let fr := Ls.fr; let ge := Ls.ge; let le := Ls.le; let lt := Ls.lt; let nz := Ls.nz; let mm := Ls.mm; let ma := Ls.ma; let sm := Ls.sm; let fl := Ls.fl; let al := Ls.al; let ci := Ls.ci
  let eInt_c := rowsOf Int_c
  let eRow_i := rowsOf Row_i
  let eRow_o := rowsOf Row_o
  let lenI_Row := @lenI Row
  have hL : (⟨ar, cm, bo, sc, sa, sx, ss, sl, bs, sb, ln, sr, ap, up, rp, fr, ge, le, lt, nz, mm, ma, sm, fl, al, ci⟩ : Lf) = Ls := rfl
  show AC Try.prog 83 [.v (.im false (eRow_i a0)), .ag [.s (.int .i64 a1v_Id), .im false (eInt_c a1v_Cells)]] _ _
  refine AC.of_run2 tab_ok Try.func83 (by rfl) (by rfl) (by cbv) ⟨by decide, rfl⟩ fun F hP hA => ?_
  have hT : TabOk F.P tab := hP ▸ tab_ok
  have hM : F.P.follows .mixedOrders = true := hP ▸ mixed
  have hC : ∀ {f a o r}, AC Try.prog f a o r → AC F.P f a o r := fun h => hP ▸ h
  refine Run.seq ?_
  refine Run.region hL hT [] (by cbv) ?_ ?_
  · exact hq0
  refine Run.seq ?_
  obtain ⟨r1, h_r1, h⟩ := bnd h
  refine Run.region hL hT [(3, .call [false, false] [.v (.jk), .v (.jk)] [.v (.ow 38 (eRow_o r1))])] (by cbv) ?_ ?_
  · exact (hq trivial (hq (hC (spec_RowDrop_ac h_r1)) hq0))
  refine Run.seq ?_
  refine Run.region hL hT [] (by cbv) ?_ ?_
  · exact hq0
  rw [show ln (eRow_o r1) = lenI_Row r1 from ln_eq Row_o _]
  obtain ⟨K3, h_K3, h⟩ := joinE h
  refine Run.join1 K3 (r := r) (fun (y2 : Int) => ⟨55, 100000, [(3, .pt 1 0 0), (5, .rf 2), (6, .t (.s (.int .i64 y2)))], [(1, .box 38 [.t (.s (.int .i64 a1v_Id)), .t (.im false (eInt_c a1v_Cells))]), (2, .row 0 38 2 (eRow_o r1))]⟩) ?_ ?_
  · skip
    refine Run.seq ?_
    obtain ⟨r4, h_r4, h⟩ := bnd h
    refine Run.region hL hT [(3, .call [false, false] [.v (.jk), .v (.jk)] [.v (.s (.int .i64 r4))])] (by cbv) ?_ ?_
    · exact (hq trivial (hq (hC (spec_RowAt_ac h_r4)) (hq trivial hq0)))
    refine Run.cond (by cbv) (hq0) (fun c5 => ?_) (fun c5 => ?_)
    · have h := if_t c5 h
      obtain ⟨r6, h_r6, h⟩ := bnd h
      refine Run.region hL hT [(3, .call [false, false] [.v (.jk), .v (.jk)] [.v (.s (.int .i64 r6))])] (by cbv) ?_ ?_
      · exact (hq trivial (hq (hC (spec_RowAt_ac h_r6)) hq0))
      refine ⟨r6, h, Weak.of _ [(1, 0), (2, 4099)] hA (by cbv) ?_⟩
      repeat (first | exact hq0 | refine hq (by first | exact True.intro | rfl) ?_)
    · have h := if_f c5 h
      refine Run.seq ?_
      refine Run.region hL hT [] (by cbv) ?_ ?_
      · exact (hq trivial hq0)
      rw [show ln (eRow_o r1) = lenI_Row r1 from ln_eq Row_o _]
      refine Run.block ?_
      refine Run.loop2 (fun (z12 : Int) (z13 : Int) => ⟨55, 100000, [(3, .pt 1 0 0), (5, .rf 2), (6, .t (.s (.int .i64 z12))), (7, .t (.s (.int .i64 z13)))], [(1, .box 38 [.t (.s (.int .i64 a1v_Id)), .t (.im false (eInt_c a1v_Cells))]), (2, .row 0 38 2 (eRow_o r1))]⟩) (x0 := (lenI_Row r1)) (x1 := (ar .sub .i64 (lenI_Row r1) 1)) h (Weak.of _ [(1, 0), (2, 4099)] hA (by cbv) ?_) (fun _ _ => rfl) ?_
      · repeat (first | exact hq0 | refine hq (by first | exact True.intro | rfl) ?_)
      · intro k z12 z13 h
        rw [spec_RowPut.l0] at h
        refine Run.seq ?_
        refine Run.seq ?_
        refine Run.region hL hT [] (by cbv) ?_ ?_
        · exact (hq trivial hq0)
        refine Run.cond (by cbv) (hq0) (fun c14 => ?_) (fun c14 => ?_)
        · have h := if_t c14 h
          refine Run.skip ?_
          refine Run.seq ?_
          refine Run.block ?_
          refine Run.seq ?_
          obtain ⟨⟨x15v_Id, x15v_Cells⟩, h_x15, h⟩ := bnd h
          refine Run.draw hL hT hM [(4, .el [.s (.int .i64 x15v_Id), .ow 3 (eInt_c x15v_Cells)])] (by cbv) (by cbv) (by cbv) (by cbv) (by cbv) ?_ ?_
          · exact (hq (get_le h_x15) (hq (get_lt (f := Row_o) h_x15) (hq (get_le h_x15) (hq (get_lt (f := Row_o) h_x15) (hq (get_ge (f := Row_o) h_x15) (hq trivial (hq trivial hq0)))))))
          refine Run.cond (by cbv) (hq0) (fun c16 => ?_) (fun c16 => ?_)
          · have h := if_t c16 h
            refine Run.region hL hT [] (by cbv) ?_ ?_
            · exact hq0
            refine Run.region hL hT [] (by cbv) ?_ ?_
            · exact (hq trivial hq0)
            refine ⟨z13, (ar .sub .i64 z13 1), h, Weak.of _ [(1, 1), (2, 2)] hA (by cbv) ?_⟩
            repeat (first | exact hq0 | refine hq (by first | exact True.intro | rfl) ?_)
          · have h := if_f c16 h
            refine Run.skip ?_
            refine Run.region hL hT [] (by cbv) ?_ ?_
            · exact (hq trivial hq0)
            refine ⟨z12, (ar .sub .i64 z13 1), h, Weak.of _ [(1, 1), (2, 2)] hA (by cbv) ?_⟩
            repeat (first | exact hq0 | refine hq (by first | exact True.intro | rfl) ?_)
        · have h := if_f c14 h
          refine Run.exit ?_
          refine ⟨z12, h, Weak.of _ [(1, 1), (2, 2)] hA (by cbv) ?_⟩
          repeat (first | exact hq0 | refine hq (by first | exact True.intro | rfl) ?_)
  · intro y2 h
    rw [h_K3] at h
    refine Run.seq ?_
    obtain ⟨l17, h_l17, h⟩ := bnd h
    obtain ⟨l18, h_l18, h⟩ := bnd h
    refine Run.region hL hT [] (by cbv) ?_ ?_
    · exact (hq (cut_0 h_l17) (hq (cut_1 h_l17) (hq (cut_2 (f := Row_o) h_l17) (hq (cut_2 (f := Row_o) h_l17) (hq (app_mb (P := Try.prog) (f := Row_o) RLe.r (mv_le Row_o h_l17) h_l18) hq0)))))
    refine Run.row (rows := (ap ([]) ((sr (eRow_o r1) 0 y2)))) 100004 (eRow_o l18) (by cbv) (app_le (f := Row_o) RLe.r (mv_le Row_o h_l17) h_l18) ?_
    refine Run.seq ?_
    obtain ⟨⟨r19v_Id, r19v_Cells⟩, h_r19, h⟩ := bnd h
    obtain ⟨l20, h_l20, h⟩ := bnd h
    obtain ⟨l21, h_l21, h⟩ := bnd h
    refine Run.region hL hT [(2, .call [false] [.ag [.jk, .jk]] [.ag [.s (.int .i64 r19v_Id), .ow 3 (eInt_c r19v_Cells)]])] (by cbv) ?_ ?_
    · exact (hq trivial (hq (hC (spec_l6Copy_ac h_r19)) (hq (app_mb (P := Try.prog) (f := Row_o) RLe.r (some_le (f := Row_o) h_l20 (RLe.cons rfl LLe.r RLe.nil)) h_l21) hq0)))
    refine Run.row (rows := (ap (eRow_o l18) ([[.s (.int .i64 r19v_Id), .ow 3 (eInt_c r19v_Cells)]]))) 104100 (eRow_o l21) (by cbv) (app_le (f := Row_o) RLe.r (some_le (f := Row_o) h_l20 (RLe.cons rfl LLe.r RLe.nil)) h_l21) ?_
    refine Run.seq ?_
    obtain ⟨l22, h_l22, h⟩ := bnd h
    obtain ⟨l23, h_l23, h⟩ := bnd h
    refine Run.region hL hT [] (by cbv) ?_ ?_
    · exact (hq (cut_0 h_l22) (hq (jr_1 Row_o h_l17 h_l18 h_l22) (hq (Int.le_refl _) (hq (Int.le_refl _) (hq (app_mb (P := Try.prog) (f := Row_o) RLe.r (jr_sle Row_o h_l17 h_l18 h_l22) h_l23) hq0)))))
    refine Run.row (rows := (ap (eRow_o l21) ((sr (ap (ap (sr (eRow_o r1) 0 0) (rp (ar .sub .i64 y2 0) [.jk, .jk])) (sr (eRow_o r1) y2 (ln (eRow_o r1)))) y2 (ln (ap (ap (sr (eRow_o r1) 0 0) (rp (ar .sub .i64 y2 0) [.jk, .jk])) (sr (eRow_o r1) y2 (ln (eRow_o r1))))))))) 108196 (eRow_o l23) (by cbv) (app_le (f := Row_o) RLe.r (jr_sle Row_o h_l17 h_l18 h_l22) h_l23) ?_
    refine Run.ret ?_
    cases h
    refine ⟨_, _, by cbv, ?_, ?_⟩
    · exact LLe.r
    · exact (ALe.v LLe.r ALe.nil)

set_option maxRecDepth 8000 in
theorem spec_l7Turn_ac {a0v_Schemav_Cols : List Int} {a0v_Version : Int} {a0v_Tables : List (List Row)} {a1v_Table : Int} {a1v_Had : Bool} {a1v_Has : Bool} {a1v_Oldv_Id : Int} {a1v_Oldv_Cells : List Int} {a1v_Newv_Id : Int} {a1v_Newv_Cells : List Int} {r : Store × Bool} (h : spec_l7Turn.f (Store.mk (Schema.mk a0v_Schemav_Cols) a0v_Version a0v_Tables) (Change.mk a1v_Table a1v_Had a1v_Has (Row.mk a1v_Oldv_Id a1v_Oldv_Cells) (Row.mk a1v_Newv_Id a1v_Newv_Cells)) = some r) : AC Try.prog 44 [.ag [.ow 3 (rowsOf Int_c a0v_Schemav_Cols), .s (.int .i64 a0v_Version), .ow 72 (rowsOf RowS_o a0v_Tables)], .ag [.s (.int .i64 a1v_Table), .s (.bool a1v_Had), .s (.bool a1v_Has), .s (.int .i64 a1v_Oldv_Id), .im false (rowsOf Int_c a1v_Oldv_Cells), .s (.int .i64 a1v_Newv_Id), .im false (rowsOf Int_c a1v_Newv_Cells)]] [.ag [.jk, .jk, .jk], .ag [.jk, .jk, .jk, .jk, .jk, .jk, .jk]] [.ag [.ow 3 (rowsOf Int_c r.1.Schema.Cols), .s (.int .i64 r.1.Version), .ow 72 (rowsOf RowS_o r.1.Tables)], .v (.s (.bool r.2))] := by
  unfold spec_l7Turn.f at h
  let ar := Ls.ar; let cm := Ls.cm; let bo := Ls.bo; let sc := Ls.sc; let sa := Ls.sa; let sx := Ls.sx; let ss := Ls.ss; let sl := Ls.sl; let bs := Ls.bs; let sb := Ls.sb; let ln := Ls.ln; let sr := Ls.sr; let ap := Ls.ap; let up := Ls.up; let rp := Ls.rp; let fr := Ls.fr; let ge := Ls.ge; let le := Ls.le; let lt := Ls.lt; let nz := Ls.nz; let mm := Ls.mm; let ma := Ls.ma; let sm := Ls.sm; let fl := Ls.fl; let al := Ls.al; let ci := Ls.ci
  let eInt_c := rowsOf Int_c
  let eRowS_o := rowsOf RowS_o
  let eRow_o := rowsOf Row_o
  let lenI_RowS := @lenI (List Row)
  have hL : (⟨ar, cm, bo, sc, sa, sx, ss, sl, bs, sb, ln, sr, ap, up, rp, fr, ge, le, lt, nz, mm, ma, sm, fl, al, ci⟩ : Lf) = Ls := rfl
  show AC Try.prog 44 [.ag [.ow 3 (eInt_c a0v_Schemav_Cols), .s (.int .i64 a0v_Version), .ow 72 (eRowS_o a0v_Tables)], .ag [.s (.int .i64 a1v_Table), .s (.bool a1v_Had), .s (.bool a1v_Has), .s (.int .i64 a1v_Oldv_Id), .im false (eInt_c a1v_Oldv_Cells), .s (.int .i64 a1v_Newv_Id), .im false (eInt_c a1v_Newv_Cells)]] _ _
  refine AC.of_run2 tab_ok Try.func44 (by rfl) (by rfl) (by cbv) ⟨by decide, rfl⟩ fun F hP hA => ?_
  have hT : TabOk F.P tab := hP ▸ tab_ok
  have hM : F.P.follows .mixedOrders = true := hP ▸ mixed
  have hC : ∀ {f a o r}, AC Try.prog f a o r → AC F.P f a o r := fun h => hP ▸ h
  refine Run.seq ?_
  refine Run.region hL hT [] (by cbv) ?_ ?_
  · exact hq0
  refine Run.seq ?_
  refine Run.seq ?_
  obtain ⟨r1, h_r1, h⟩ := bnd h
  obtain ⟨r2, h_r2, h⟩ := bnd h
  refine Run.region hL hT [(6, .call [false, false, false] [.v (.jk), .v (.jk), .v (.jk)] [.v (.s (.bool r1))]), (17, .call [false, false, false] [.ag [.jk, .jk, .jk], .v (.jk), .ag [.jk, .jk]] [.v (.s (.bool r2))])] (by cbv) ?_ ?_
  · exact (hq trivial (hq trivial (hq trivial (hq (by rw [show ln (eRowS_o a0v_Tables) = lenI_RowS a0v_Tables from ln_eq RowS_o _]; exact (hC (spec_l1In_ac h_r1))) (hq (fun _ => hq0) (hq (fun g4 => (hq g4 (hq trivial hq0))) (hq (fun g5 => (hq g5 hq0)) (hq (fun g6 => (hq trivial hq0)) (hq (fun _ => hq0) (hq (fun g8 => (hq g8 (hq trivial hq0))) (hq (fun _ => hq0) (hq (fun g10 => (hq g10 (hq trivial hq0))) (hq (fun g11 => (hq g11 (hq g11 (hq g11 (hq (hC (AC.args (spec_l7There_ac (gd_t h_r2 g11)) (ALe.ag rfl (LLe.cons (LLe.im (RLe.eq (fr_row Int_c_z _))) (LLe.c (LLe.cons (LLe.im (RLe.eq (fr_row RowS_o_z _))) LLe.nil))) (ALe.v LLe.r (ALe.ag rfl LLe.r ALe.nil))))) hq0))))) (hq (fun g12 => (hq g12 hq0)) (hq (fun g13 => (hq g13 (hq (fun q14 => (hq (bo_a g13 q14) hq0)) (hq (fun _ => hq0) hq0)))) (hq (fun _ => hq0) (hq (fun q17 => (hq (bo_m q17) hq0)) hq0)))))))))))))))))
  rw [show ln (eRowS_o a0v_Tables) = lenI_RowS a0v_Tables from ln_eq RowS_o _]
  refine Run.cond (by cbv) (hq0) (fun c18 => ?_) (fun c18 => ?_)
  · have h := if_t c18 h
    refine Run.seq ?_
    refine Run.region hL hT [] (by cbv) ?_ ?_
    · exact (hq trivial (hq trivial hq0))
    refine Run.weak ?_ (Weak.mvB 0 14290 4 (by cbv) (by cbv) (by cbv))
    refine Run.weak ?_ (Weak.mvB 1 14291 4 (by cbv) (by cbv) (by cbv))
    refine Run.ret ?_
    cases h
    refine ⟨_, _, by cbv, ?_, ?_⟩
    · exact LLe.r
    · exact (ALe.ag rfl LLe.r (ALe.v LLe.r ALe.nil))
  · have h := if_f c18 h
    refine Run.skip ?_
    refine Run.seq ?_
    obtain ⟨x19, h_x19, h⟩ := bnd h
    refine Run.weak ?_ (Weak.take (rows := eRowS_o a0v_Tables) (e2 := 38) (r2 := eRow_o x19) hT 1 a1v_Table 0 11194 1011194 (by cbv) (by cbv) (by cbv) (get_le' h_x19) (get_lt' RowS_o h_x19) ((congrArg (fun q => q[0]?) (get_ge (f := RowS_o) h_x19)).trans rfl) rfl (up (eRowS_o a0v_Tables) a1v_Table 0 [.jk]) rfl)
    refine Run.region hL hT [(5, .lk [.jk] [(0, 1011194)])] (by cbv) ?_ ?_
    · exact (hq trivial (hq trivial (hq (get_le h_x19) (hq (up_lt RowS_o h_x19) (hq trivial (hq (get_le h_x19) (hq (up_lt RowS_o h_x19) (hq (up_ge RowS_o h_x19) hq0))))))))
    refine Run.seq ?_
    refine Run.seq ?_
    refine Run.region hL hT [] (by cbv) ?_ ?_
    · exact (hq trivial hq0)
    refine Run.cond (by cbv) (hq0) (fun c20 => ?_) (fun c20 => ?_)
    · have h := if_t c20 h
      obtain ⟨r21, h_r21, h⟩ := bnd h
      refine Run.region hL hT [(4, .call [false, false] [.v (.jk), .v (.jk)] [.v (.ow 38 (eRow_o r21))])] (by cbv) ?_ ?_
      · exact (hq trivial (hq (hC (AC.args (spec_RowDrop_ac h_r21) (ALe.v (LLe.im (RLe.eq (fr_row Row_o_z _))) (ALe.v LLe.r ALe.nil)))) hq0))
      refine Run.seq ?_
      refine Run.seq ?_
      refine Run.region hL hT [] (by cbv) ?_ ?_
      · exact (hq trivial hq0)
      refine Run.cond (by cbv) (hq0) (fun c22 => ?_) (fun c22 => ?_)
      · have h := if_t c22 h
        refine Run.seq ?_
        refine Run.seq ?_
        obtain ⟨r23, h_r23, h⟩ := bnd h
        refine Run.region hL hT [(4, .call [false, false] [.v (.jk), .v (.jk)] [.v (.s (.int .i64 r23))])] (by cbv) ?_ ?_
        · exact (hq trivial (hq (hC (AC.args (spec_RowAt_ac h_r23) (ALe.v (LLe.im (RLe.eq (fr_row Row_o_z _))) (ALe.v LLe.r ALe.nil)))) (hq trivial hq0)))
        refine Run.cond (by cbv) (hq0) (fun c24 => ?_) (fun c24 => ?_)
        · have h := if_t c24 h
          refine Run.seq ?_
          refine Run.region hL hT [] (by cbv) ?_ ?_
          · exact (hq trivial (hq trivial hq0))
          refine Run.weak ?_ (Weak.back (rows := (up (eRowS_o a0v_Tables) a1v_Table 0 [.jk])) (r2 := eRow_o x19) 1 a1v_Table 0 11194 1011194 (by cbv) (by cbv) (by cbv) (by cbv) (get_le' h_x19) (up_lt RowS_o h_x19) ((congrArg (fun q => q[0]?) (up_at RowS_o h_x19)).trans rfl) (up (up (eRowS_o a0v_Tables) a1v_Table 0 [.jk]) a1v_Table 0 [.ow 38 (eRow_o x19)]) rfl)
          refine Run.weak ?_ (Weak.row (rows := (up (up (eRowS_o a0v_Tables) a1v_Table 0 [.jk]) a1v_Table 0 [.ow 38 (eRow_o x19)])) 1 (eRowS_o a0v_Tables) (by cbv) (RLe.eq (hole_eq (f := RowS_o) h_x19 rfl)))
          refine Run.weak ?_ (Weak.mvB 0 34770 4 (by cbv) (by cbv) (by cbv))
          refine Run.weak ?_ (Weak.mvB 1 34771 4 (by cbv) (by cbv) (by cbv))
          refine Run.ret ?_
          cases h
          refine ⟨_, _, by cbv, ?_, ?_⟩
          · exact LLe.r
          · exact (ALe.ag rfl LLe.r (ALe.v LLe.r ALe.nil))
        · have h := if_f c24 h
          refine Run.skip ?_
          obtain ⟨r25, h_r25, h⟩ := bnd h
          refine Run.region hL hT [(3, .call [false, false] [.v (.jk), .ag [.jk, .jk]] [.v (.ow 38 (eRow_o r25))])] (by cbv) ?_ ?_
          · exact (hq trivial (hq (hC (AC.args (spec_RowPut_ac h_r25) (ALe.v (LLe.im (RLe.eq (fr_row Row_o_z _))) (ALe.ag rfl LLe.r ALe.nil)))) hq0))
          refine Run.seq ?_
          obtain ⟨l26, h_l26, h⟩ := bnd h
          refine Run.region hL hT [] (by cbv) ?_ ?_
          · exact (hq trivial (hq trivial (hq (get_le h_x19) (hq (up_lt RowS_o h_x19) (hq (get_le h_x19) (hq (up_lt RowS_o h_x19) hq0))))))
          refine Run.row (rows := (up (up (eRowS_o a0v_Tables) a1v_Table 0 [.jk]) a1v_Table 0 [.ow 38 (eRow_o r25)])) 1 (eRowS_o l26) (by cbv) (hole_le (f := RowS_o) h_x19 h_l26 (ltn (RowS_o_n _) (by decide)) rfl LLe.r) ?_
          refine Run.seq ?_
          refine Run.region hL hT [] (by cbv) ?_ ?_
          · exact (hq trivial (hq trivial hq0))
          refine Run.weak ?_ (Weak.mvB 0 42962 4 (by cbv) (by cbv) (by cbv))
          refine Run.weak ?_ (Weak.mvB 1 42963 4 (by cbv) (by cbv) (by cbv))
          refine Run.ret ?_
          cases h
          refine ⟨_, _, by cbv, ?_, ?_⟩
          · exact LLe.r
          · exact (ALe.ag rfl LLe.r (ALe.v LLe.r ALe.nil))
      · have h := if_f c22 h
        refine Run.skip ?_
        refine Run.seq ?_
        obtain ⟨l27, h_l27, h⟩ := bnd h
        refine Run.region hL hT [] (by cbv) ?_ ?_
        · exact (hq trivial (hq trivial (hq (get_le h_x19) (hq (up_lt RowS_o h_x19) (hq (get_le h_x19) (hq (up_lt RowS_o h_x19) hq0))))))
        refine Run.row (rows := (up (up (eRowS_o a0v_Tables) a1v_Table 0 [.jk]) a1v_Table 0 [.ow 38 (eRow_o r21)])) 1 (eRowS_o l27) (by cbv) (hole_le (f := RowS_o) h_x19 h_l27 (ltn (RowS_o_n _) (by decide)) rfl LLe.r) ?_
        refine Run.seq ?_
        refine Run.region hL hT [] (by cbv) ?_ ?_
        · exact (hq trivial (hq trivial hq0))
        refine Run.weak ?_ (Weak.mvB 0 34770 4 (by cbv) (by cbv) (by cbv))
        refine Run.weak ?_ (Weak.mvB 1 34771 4 (by cbv) (by cbv) (by cbv))
        refine Run.ret ?_
        cases h
        refine ⟨_, _, by cbv, ?_, ?_⟩
        · exact LLe.r
        · exact (ALe.ag rfl LLe.r (ALe.v LLe.r ALe.nil))
    · have h := if_f c20 h
      refine Run.skip ?_
      refine Run.seq ?_
      refine Run.seq ?_
      refine Run.region hL hT [] (by cbv) ?_ ?_
      · exact (hq trivial hq0)
      refine Run.cond (by cbv) (hq0) (fun c28 => ?_) (fun c28 => ?_)
      · have h := if_t c28 h
        refine Run.seq ?_
        refine Run.seq ?_
        obtain ⟨r29, h_r29, h⟩ := bnd h
        refine Run.region hL hT [(4, .call [false, false] [.v (.jk), .v (.jk)] [.v (.s (.int .i64 r29))])] (by cbv) ?_ ?_
        · exact (hq trivial (hq (hC (AC.args (spec_RowAt_ac h_r29) (ALe.v (LLe.im (RLe.eq (fr_row Row_o_z _))) (ALe.v LLe.r ALe.nil)))) (hq trivial hq0)))
        refine Run.cond (by cbv) (hq0) (fun c30 => ?_) (fun c30 => ?_)
        · have h := if_t c30 h
          refine Run.seq ?_
          refine Run.region hL hT [] (by cbv) ?_ ?_
          · exact (hq trivial (hq trivial hq0))
          refine Run.weak ?_ (Weak.back (rows := (up (eRowS_o a0v_Tables) a1v_Table 0 [.jk])) (r2 := eRow_o x19) 1 a1v_Table 0 11194 1011194 (by cbv) (by cbv) (by cbv) (by cbv) (get_le' h_x19) (up_lt RowS_o h_x19) ((congrArg (fun q => q[0]?) (up_at RowS_o h_x19)).trans rfl) (up (up (eRowS_o a0v_Tables) a1v_Table 0 [.jk]) a1v_Table 0 [.ow 38 (eRow_o x19)]) rfl)
          refine Run.weak ?_ (Weak.row (rows := (up (up (eRowS_o a0v_Tables) a1v_Table 0 [.jk]) a1v_Table 0 [.ow 38 (eRow_o x19)])) 1 (eRowS_o a0v_Tables) (by cbv) (RLe.eq (hole_eq (f := RowS_o) h_x19 rfl)))
          refine Run.weak ?_ (Weak.mvB 0 30674 4 (by cbv) (by cbv) (by cbv))
          refine Run.weak ?_ (Weak.mvB 1 30675 4 (by cbv) (by cbv) (by cbv))
          refine Run.ret ?_
          cases h
          refine ⟨_, _, by cbv, ?_, ?_⟩
          · exact LLe.r
          · exact (ALe.ag rfl LLe.r (ALe.v LLe.r ALe.nil))
        · have h := if_f c30 h
          refine Run.skip ?_
          obtain ⟨r31, h_r31, h⟩ := bnd h
          refine Run.region hL hT [(3, .call [false, false] [.v (.jk), .ag [.jk, .jk]] [.v (.ow 38 (eRow_o r31))])] (by cbv) ?_ ?_
          · exact (hq trivial (hq (hC (AC.args (spec_RowPut_ac h_r31) (ALe.v (LLe.im (RLe.eq (fr_row Row_o_z _))) (ALe.ag rfl LLe.r ALe.nil)))) hq0))
          refine Run.seq ?_
          obtain ⟨l32, h_l32, h⟩ := bnd h
          refine Run.region hL hT [] (by cbv) ?_ ?_
          · exact (hq trivial (hq trivial (hq (get_le h_x19) (hq (up_lt RowS_o h_x19) (hq (get_le h_x19) (hq (up_lt RowS_o h_x19) hq0))))))
          refine Run.row (rows := (up (up (eRowS_o a0v_Tables) a1v_Table 0 [.jk]) a1v_Table 0 [.ow 38 (eRow_o r31)])) 1 (eRowS_o l32) (by cbv) (hole_le (f := RowS_o) h_x19 h_l32 (ltn (RowS_o_n _) (by decide)) rfl LLe.r) ?_
          refine Run.seq ?_
          refine Run.region hL hT [] (by cbv) ?_ ?_
          · exact (hq trivial (hq trivial hq0))
          refine Run.weak ?_ (Weak.mvB 0 38866 4 (by cbv) (by cbv) (by cbv))
          refine Run.weak ?_ (Weak.mvB 1 38867 4 (by cbv) (by cbv) (by cbv))
          refine Run.ret ?_
          cases h
          refine ⟨_, _, by cbv, ?_, ?_⟩
          · exact LLe.r
          · exact (ALe.ag rfl LLe.r (ALe.v LLe.r ALe.nil))
      · have h := if_f c28 h
        refine Run.skip ?_
        refine Run.seq ?_
        obtain ⟨l33, h_l33, h⟩ := bnd h
        refine Run.region hL hT [] (by cbv) ?_ ?_
        · exact (hq trivial (hq trivial (hq (get_le h_x19) (hq (up_lt RowS_o h_x19) (hq (get_le h_x19) (hq (up_lt RowS_o h_x19) hq0))))))
        refine Run.row (rows := (up (up (eRowS_o a0v_Tables) a1v_Table 0 [.jk]) a1v_Table 0 [.ow 38 (eRow_o x19)])) 1 (eRowS_o l33) (by cbv) (hole_le (f := RowS_o) h_x19 h_l33 (ltn (RowS_o_n _) (by decide)) rfl LLe.r) ?_
        refine Run.seq ?_
        refine Run.region hL hT [] (by cbv) ?_ ?_
        · exact (hq trivial (hq trivial hq0))
        refine Run.weak ?_ (Weak.mvB 0 30674 4 (by cbv) (by cbv) (by cbv))
        refine Run.weak ?_ (Weak.mvB 1 30675 4 (by cbv) (by cbv) (by cbv))
        refine Run.ret ?_
        cases h
        refine ⟨_, _, by cbv, ?_, ?_⟩
        · exact LLe.r
        · exact (ALe.ag rfl LLe.r (ALe.v LLe.r ALe.nil))

set_option maxRecDepth 8000 in
theorem spec_Forward_ac {a0v_Schemav_Cols : List Int} {a0v_Version : Int} {a0v_Tables : List (List Row)} {a1 : List Change} {r : Store × Bool} (h : spec_Forward.f (Store.mk (Schema.mk a0v_Schemav_Cols) a0v_Version a0v_Tables) a1 = some r) : AC Try.prog 10 [.ag [.im false (rowsOf Int_c a0v_Schemav_Cols), .s (.int .i64 a0v_Version), .im false (rowsOf RowS_i a0v_Tables)], .v (.im false (rowsOf Change_i a1))] [.ag [.jk, .jk, .jk], .v (.jk)] [.ag [.ow 3 (rowsOf Int_c r.1.Schema.Cols), .s (.int .i64 r.1.Version), .ow 72 (rowsOf RowS_o r.1.Tables)], .v (.s (.bool r.2))] := by
  unfold spec_Forward.f at h
  let ar := Ls.ar; let cm := Ls.cm; let bo := Ls.bo; let sc := Ls.sc; let sa := Ls.sa; let sx := Ls.sx; let ss := Ls.ss; let sl := Ls.sl; let bs := Ls.bs; let sb := Ls.sb; let ln := Ls.ln; let sr := Ls.sr; let ap := Ls.ap; let up := Ls.up; let rp := Ls.rp; let fr := Ls.fr; let ge := Ls.ge; let le := Ls.le; let lt := Ls.lt; let nz := Ls.nz; let mm := Ls.mm; let ma := Ls.ma; let sm := Ls.sm; let fl := Ls.fl; let al := Ls.al; let ci := Ls.ci
  let eChange_i := rowsOf Change_i
  let eInt_c := rowsOf Int_c
  let eRowS_i := rowsOf RowS_i
  let eRowS_o := rowsOf RowS_o
  let lenI_Change := @lenI Change
  have hL : (⟨ar, cm, bo, sc, sa, sx, ss, sl, bs, sb, ln, sr, ap, up, rp, fr, ge, le, lt, nz, mm, ma, sm, fl, al, ci⟩ : Lf) = Ls := rfl
  show AC Try.prog 10 [.ag [.im false (eInt_c a0v_Schemav_Cols), .s (.int .i64 a0v_Version), .im false (eRowS_i a0v_Tables)], .v (.im false (eChange_i a1))] _ _
  refine AC.of_run2 tab_ok Try.func10 (by rfl) (by rfl) (by cbv) ⟨by decide, rfl⟩ fun F hP hA => ?_
  have hT : TabOk F.P tab := hP ▸ tab_ok
  have hM : F.P.follows .mixedOrders = true := hP ▸ mixed
  have hC : ∀ {f a o r}, AC Try.prog f a o r → AC F.P f a o r := fun h => hP ▸ h
  refine Run.seq ?_
  refine Run.region hL hT [] (by cbv) ?_ ?_
  · exact hq0
  refine Run.seq ?_
  refine Run.seq ?_
  obtain ⟨r1, h_r1, h⟩ := bnd h
  obtain ⟨r2, h_r2, h⟩ := bnd h
  refine Run.region hL hT [(1, .call [false] [.ag [.jk, .jk, .jk]] [.v (.s (.bool r1))]), (6, .call [false, false, false] [.v (.jk), .v (.jk), .v (.jk)] [.v (.s (.bool r2))])] (by cbv) ?_ ?_
  · exact (hq trivial (hq (hC (spec_StoreOk_ac h_r1)) (hq (fun _ => hq0) (hq (fun g4 => (hq g4 hq0)) (hq (fun g5 => (hq g5 (hq (by rw [show ln (eChange_i a1) = lenI_Change a1 from ln_eq Change_i _]; exact (hC (spec_l1In_ac (gd_t h_r2 g5)))) hq0))) (hq (fun g6 => (hq g6 hq0)) (hq (fun _ => hq0) (hq (fun q8 => (hq (bo_m q8) hq0)) hq0))))))))
  rw [show ln (eChange_i a1) = lenI_Change a1 from ln_eq Change_i _]
  refine Run.cond (by cbv) (hq0) (fun c9 => ?_) (fun c9 => ?_)
  · have h := if_t c9 h
    refine Run.seq ?_
    refine Run.region hL hT [] (by cbv) ?_ ?_
    · exact (hq trivial hq0)
    refine Run.ret ?_
    cases h
    refine ⟨_, _, by cbv, ?_, ?_⟩
    · exact LLe.r
    · exact (ALe.ag rfl (LLe.cons LLe.nilO (LLe.c (LLe.cons LLe.nilO LLe.nil))) (ALe.v LLe.r ALe.nil))
  · have h := if_f c9 h
    refine Run.skip ?_
    refine Run.seq ?_
    obtain ⟨⟨⟨r10v_Schemav_Cols⟩, r10v_Version, r10v_Tables⟩, h_r10, h⟩ := bnd h
    refine Run.region hL hT [(1, .call [false] [.ag [.jk, .jk, .jk]] [.ag [.ow 3 (eInt_c r10v_Schemav_Cols), .s (.int .i64 r10v_Version), .ow 72 (eRowS_o r10v_Tables)]])] (by cbv) ?_ ?_
    · exact (hq trivial (hq (hC (spec_l7Copy_ac h_r10)) (hq trivial hq0)))
    obtain ⟨K14, h_K14, h⟩ := joinE h
    refine Run.join3 K14 (r := r) (fun (y11 : List Int) (y12 : Int) (y13 : List (List Row)) => ⟨96, 100000, [(2, .pt 1 0 0), (4, .pt 2 0 0), (6, .pt 3 0 0)], [(1, .box 29 [.t (.im false (eInt_c a0v_Schemav_Cols)), .t (.s (.int .i64 a0v_Version)), .t (.im false (eRowS_i a0v_Tables))]), (2, .box 29 [.t (.s (.slice none 0 0)), .t (.s (.int .i64 0)), .t (.s (.slice none 0 0))]), (3, .box 29 [.rf 4, .t (.s (.int .i64 y12)), .rf 5]), (4, .row 0 3 1 (eInt_c y11)), (5, .row 0 72 1 (eRowS_o y13))]⟩) ?_ ?_
    · skip
      refine Run.seq ?_
      refine Run.region hL hT [] (by cbv) ?_ ?_
      · exact hq0
      refine Run.block ?_
      refine Run.loop4 (fun (z24 : List Int) (z25 : Int) (z26 : List (List Row)) (z27 : Int) => ⟨96, 100000, [(1, .t (.im false (eChange_i a1))), (2, .pt 1 0 0), (4, .pt 2 0 0), (6, .pt 3 0 0), (7, .t (.s (.int .i64 z27)))], [(1, .box 29 [.t (.im false (eInt_c a0v_Schemav_Cols)), .t (.s (.int .i64 a0v_Version)), .t (.im false (eRowS_i a0v_Tables))]), (2, .box 29 [.t (.s (.slice none 0 0)), .t (.s (.int .i64 0)), .t (.s (.slice none 0 0))]), (3, .box 29 [.rf 4, .t (.s (.int .i64 z25)), .rf 5]), (4, .row 0 3 1 (eInt_c z24)), (5, .row 0 72 1 (eRowS_o z26))]⟩) (x0 := r10v_Schemav_Cols) (x1 := r10v_Version) (x2 := r10v_Tables) (x3 := 0) h (Weak.of _ [(1, 0), (2, 1), (3, 8194), (4, 8193), (5, 8449)] hA (by cbv) ?_) (fun _ _ _ _ => rfl) ?_
      · repeat (first | exact hq0 | refine hq (by first | exact True.intro | rfl) ?_)
      · intro k z24 z25 z26 z27 h
        rw [spec_Forward.l0] at h
        refine Run.seq ?_
        refine Run.seq ?_
        refine Run.region hL hT [] (by cbv) ?_ ?_
        · exact (hq trivial hq0)
        rw [show ln (eChange_i a1) = lenI_Change a1 from ln_eq Change_i _]
        refine Run.cond (by cbv) (hq0) (fun c28 => ?_) (fun c28 => ?_)
        · have h := if_t c28 h
          refine Run.skip ?_
          refine Run.seq ?_
          refine Run.block ?_
          refine Run.seq ?_
          refine Run.seq ?_
          obtain ⟨⟨x29v_Table, x29v_Had, x29v_Has, ⟨x29v_Oldv_Id, x29v_Oldv_Cells⟩, ⟨x29v_Newv_Id, x29v_Newv_Cells⟩⟩, h_x29, h⟩ := bnd h
          obtain ⟨r30, h_r30, h⟩ := bnd h
          obtain ⟨r31, h_r31, h⟩ := bnd h
          refine Run.region hL hT [(2, .el [.s (.int .i64 x29v_Table), .s (.bool x29v_Had), .s (.bool x29v_Has), .s (.int .i64 x29v_Oldv_Id), .im false (eInt_c x29v_Oldv_Cells), .s (.int .i64 x29v_Newv_Id), .im false (eInt_c x29v_Newv_Cells)]), (9, .el [.s (.int .i64 x29v_Table), .s (.bool x29v_Had), .s (.bool x29v_Has), .s (.int .i64 x29v_Oldv_Id), .im false (eInt_c x29v_Oldv_Cells), .s (.int .i64 x29v_Newv_Id), .im false (eInt_c x29v_Newv_Cells)]), (16, .el [.s (.int .i64 x29v_Table), .s (.bool x29v_Had), .s (.bool x29v_Has), .s (.int .i64 x29v_Oldv_Id), .im false (eInt_c x29v_Oldv_Cells), .s (.int .i64 x29v_Newv_Id), .im false (eInt_c x29v_Newv_Cells)]), (19, .call [false] [.ag [.jk, .jk]] [.v (.s (.bool r30))]), (26, .el [.s (.int .i64 x29v_Table), .s (.bool x29v_Had), .s (.bool x29v_Has), .s (.int .i64 x29v_Oldv_Id), .im false (eInt_c x29v_Oldv_Cells), .s (.int .i64 x29v_Newv_Id), .im false (eInt_c x29v_Newv_Cells)]), (33, .el [.s (.int .i64 x29v_Table), .s (.bool x29v_Had), .s (.bool x29v_Has), .s (.int .i64 x29v_Oldv_Id), .im false (eInt_c x29v_Oldv_Cells), .s (.int .i64 x29v_Newv_Id), .im false (eInt_c x29v_Newv_Cells)]), (36, .call [false] [.ag [.jk, .jk]] [.v (.s (.bool r31))])] (by cbv) ?_ ?_
          · exact (hq (get_le h_x29) (hq (get_lt (f := Change_i) h_x29) (hq (get_ge (f := Change_i) h_x29) (hq (fun _ => hq0) (hq (fun _ => hq0) (hq (fun g34 => (hq g34 (hq g34 (hq (get_le h_x29) (hq (get_lt (f := Change_i) h_x29) (hq (get_ge (f := Change_i) h_x29) hq0)))))) (hq (fun g35 => (hq g35 hq0)) (hq (fun g36 => (hq g36 hq0)) (hq (fun g37 => (hq g37 hq0)) (hq (fun g38 => (hq g38 hq0)) (hq (fun _ => hq0) (hq (fun _ => hq0) (hq (fun g41 => (hq g41 (hq g41 (hq (get_le h_x29) (hq (get_lt (f := Change_i) h_x29) (hq (get_ge (f := Change_i) h_x29) hq0)))))) (hq (fun g42 => (hq g42 hq0)) (hq (fun g43 => (hq g43 hq0)) (hq (fun g44 => (hq g44 (hq (hC (spec_l8Zero_ac (gd_t h_r30 g44))) hq0))) (hq (fun g45 => (hq g45 hq0)) (hq (fun g46 => (hq g46 (hq (fun _ => hq0) (hq (fun q48 => (hq (bo_a g46 (bo_m q48)) hq0)) hq0)))) (hq (fun q49 => (hq q49 hq0)) (hq (fun _ => hq0) (hq (fun _ => hq0) (hq (fun _ => hq0) (hq (fun g53 => (hq g53 (hq g53 (hq (get_le h_x29) (hq (get_lt (f := Change_i) h_x29) (hq (get_ge (f := Change_i) h_x29) hq0)))))) (hq (fun g54 => (hq g54 hq0)) (hq (fun g55 => (hq g55 hq0)) (hq (fun g56 => (hq g56 hq0)) (hq (fun g57 => (hq g57 hq0)) (hq (fun _ => hq0) (hq (fun _ => hq0) (hq (fun g60 => (hq g60 (hq g60 (hq (get_le h_x29) (hq (get_lt (f := Change_i) h_x29) (hq (get_ge (f := Change_i) h_x29) hq0)))))) (hq (fun g61 => (hq g61 hq0)) (hq (fun g62 => (hq g62 hq0)) (hq (fun g63 => (hq g63 (hq (hC (spec_l8Zero_ac (gd_t h_r31 g63))) hq0))) (hq (fun g64 => (hq g64 hq0)) (hq (fun g65 => (hq g65 (hq (fun q66 => (hq (bo_a g65 q66) hq0)) (hq (fun _ => hq0) hq0)))) (hq (fun _ => hq0) (hq (fun q69 => (hq (bo_m q69) hq0)) hq0)))))))))))))))))))))))))))))))))))))
          refine Run.cond (by cbv) (hq0) (fun c70 => ?_) (fun c70 => ?_)
          · have h := if_t c70 h
            refine Run.seq ?_
            refine Run.region hL hT [] (by cbv) ?_ ?_
            · exact (hq trivial hq0)
            refine Run.ret ?_
            cases h
            refine ⟨_, _, by cbv, ?_, ?_⟩
            · exact LLe.r
            · exact (ALe.ag rfl (LLe.cons LLe.nilO (LLe.c (LLe.cons LLe.nilO LLe.nil))) (ALe.v LLe.r ALe.nil))
          · have h := if_f c70 h
            refine Run.skip ?_
            refine Run.seq ?_
            obtain ⟨⟨⟨⟨r71v_1v_Schemav_Cols⟩, r71v_1v_Version, r71v_1v_Tables⟩, r71v_2⟩, h_r71, h⟩ := bnd h
            refine Run.draw hL hT hM [(3, .el [.s (.int .i64 x29v_Table), .s (.bool x29v_Had), .s (.bool x29v_Has), .s (.int .i64 x29v_Oldv_Id), .im false (eInt_c x29v_Oldv_Cells), .s (.int .i64 x29v_Newv_Id), .im false (eInt_c x29v_Newv_Cells)]), (5, .call [true, false] [.ag [.jk, .jk, .jk], .ag [.jk, .jk, .jk, .jk, .jk, .jk, .jk]] [.ag [.ow 3 (eInt_c r71v_1v_Schemav_Cols), .s (.int .i64 r71v_1v_Version), .ow 72 (eRowS_o r71v_1v_Tables)], .v (.s (.bool r71v_2))])] (by cbv) (by cbv) (by cbv) (by cbv) (by cbv) ?_ ?_
            · exact (hq trivial (hq (get_le h_x29) (hq (get_lt (f := Change_i) h_x29) (hq (get_ge (f := Change_i) h_x29) (hq (hC (spec_l7Turn_ac h_r71)) (hq trivial hq0))))))
            refine Run.seq ?_
            refine Run.seq ?_
            obtain ⟨r72, h_r72, h⟩ := bnd h
            refine Run.region hL hT [(4, .call [false] [.ag [.jk, .jk, .jk]] [.v (.s (.bool r72))])] (by cbv) ?_ ?_
            · exact (hq (fun g73 => (hq trivial hq0)) (hq (fun g74 => (hq g74 (hq (hC (AC.args (spec_StoreOk_ac (gd_t h_r72 g74)) (ALe.ag rfl (LLe.cons (LLe.im (RLe.eq (fr_row Int_c_z _))) (LLe.c (LLe.cons (LLe.im (RLe.eq (fr_row RowS_o_z _))) LLe.nil))) ALe.nil))) hq0))) (hq (fun g75 => (hq g75 hq0)) (hq (fun _ => hq0) (hq (fun q77 => (hq (bo_m q77) hq0)) hq0)))))
            refine Run.cond (by cbv) (hq0) (fun c78 => ?_) (fun c78 => ?_)
            · have h := if_t c78 h
              refine Run.seq ?_
              refine Run.region hL hT [] (by cbv) ?_ ?_
              · exact (hq trivial hq0)
              refine Run.ret ?_
              cases h
              refine ⟨_, _, by cbv, ?_, ?_⟩
              · exact LLe.r
              · exact (ALe.ag rfl (LLe.cons LLe.nilO (LLe.c (LLe.cons LLe.nilO LLe.nil))) (ALe.v LLe.r ALe.nil))
            · have h := if_f c78 h
              refine Run.skip ?_
              refine Run.region hL hT [] (by cbv) ?_ ?_
              · exact (hq trivial (hq trivial hq0))
              refine Run.region hL hT [] (by cbv) ?_ ?_
              · exact (hq trivial hq0)
              refine ⟨r71v_1v_Schemav_Cols, r71v_1v_Version, r71v_1v_Tables, (ar .add .i64 z27 1), h, Weak.of _ [(1, 1), (2, 2), (3, 3), (4, 108197), (5, 108453)] hA (by cbv) ?_⟩
              repeat (first | exact hq0 | refine hq (by first | exact True.intro | rfl) ?_)
        · have h := if_f c28 h
          refine Run.exit ?_
          refine ⟨z24, z25, z26, h, Weak.of _ [(1, 1), (2, 2), (3, 3), (4, 4), (5, 5)] hA (by cbv) ?_⟩
          repeat (first | exact hq0 | refine hq (by first | exact True.intro | rfl) ?_)
    · intro y11 y12 y13 h
      rw [h_K14] at h
      refine Run.seq ?_
      refine Run.region hL hT [] (by cbv) ?_ ?_
      · exact (hq trivial (hq trivial (hq trivial hq0)))
      refine Run.seq ?_
      refine Run.seq ?_
      obtain ⟨r79, h_r79, h⟩ := bnd h
      refine Run.region hL hT [(1, .call [false] [.ag [.jk, .jk, .jk]] [.v (.s (.bool r79))])] (by cbv) ?_ ?_
      · exact (hq trivial (hq (hC (AC.args (spec_StoreOk_ac h_r79) (ALe.ag rfl (LLe.cons (LLe.im (RLe.eq (fr_row Int_c_z _))) (LLe.c (LLe.cons (LLe.im (RLe.eq (fr_row RowS_o_z _))) LLe.nil))) ALe.nil))) hq0))
      refine Run.cond (by cbv) (hq0) (fun c80 => ?_) (fun c80 => ?_)
      · have h := if_t c80 h
        refine Run.seq ?_
        refine Run.region hL hT [] (by cbv) ?_ ?_
        · exact (hq trivial hq0)
        refine Run.ret ?_
        cases h
        refine ⟨_, _, by cbv, ?_, ?_⟩
        · exact LLe.r
        · exact (ALe.ag rfl (LLe.cons LLe.nilO (LLe.c (LLe.cons LLe.nilO LLe.nil))) (ALe.v LLe.r ALe.nil))
      · have h := if_f c80 h
        refine Run.skip ?_
        refine Run.seq ?_
        refine Run.region hL hT [] (by cbv) ?_ ?_
        · exact (hq trivial (hq trivial hq0))
        refine Run.ret ?_
        cases h
        refine ⟨_, _, by cbv, ?_, ?_⟩
        · exact LLe.r
        · exact (ALe.ag rfl LLe.r (ALe.v LLe.r ALe.nil))


end Go.Proofs.Ytbjbfcfekmdfmaa.L
