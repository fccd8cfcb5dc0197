/- The contracts of the program's functions. -/
import Derived.Test.YtbjbfcfekmdfmaaProg
import Derived.Test.YtbjbfcfekmdfmaaFnBackU
import Derived.KernelRfl
namespace Go.Proofs.Ytbjbfcfekmdfmaa.L
open Go Go.Proofs
set_option linter.unusedVariables false
set_option linter.unusedSimpArgs false
def u8_c (x : Int) : List T := [.s (.int .u8 x)]
theorem u8_c_n : ∀ x, (u8_c x).length = 1 := fun _ => rfl
theorem u8_c_f : ∀ x, (u8_c x).length = 1 ∧ ∀ c ∈ u8_c x, ∃ v, c = T.s v := fun x => ⟨rfl, by simp [u8_c]⟩
theorem u8_c_z : ∀ x, fzL (u8_c x) = u8_c x := fun _ => rfl
def Int_c (x : Int) : List T := [.s (.int .i64 x)]
theorem Int_c_n : ∀ x, (Int_c x).length = 1 := fun _ => rfl
theorem Int_c_f : ∀ x, (Int_c x).length = 1 ∧ ∀ c ∈ Int_c x, ∃ v, c = T.s v := fun x => ⟨rfl, by simp [Int_c]⟩
theorem Int_c_z : ∀ x, fzL (Int_c x) = Int_c x := fun _ => rfl
def Row_i (x : Row) : List T := [.s (.int .i64 x.Id), .im false (rowsOf Int_c x.Cells)]
theorem Row_i_n : ∀ x, (Row_i x).length = 2 := fun _ => rfl
def RowS_i (x : (List Row)) : List T := [.im false (rowsOf Row_i x)]
theorem RowS_i_n : ∀ x, (RowS_i x).length = 1 := fun _ => rfl
def Row_o (x : Row) : List T := [.s (.int .i64 x.Id), .ow 3 (rowsOf Int_c x.Cells)]
theorem Row_o_n : ∀ x, (Row_o x).length = 2 := fun _ => rfl
theorem Row_o_z : ∀ x, fzL (Row_o x) = Row_i x := by
  intro x
  simp only [Row_o, Row_i, fzL, T.fz, fr_rows Int_c_z]
def RowS_o (x : (List Row)) : List T := [.ow 38 (rowsOf Row_o x)]
theorem RowS_o_n : ∀ x, (RowS_o x).length = 1 := fun _ => rfl
theorem RowS_o_z : ∀ x, fzL (RowS_o x) = RowS_i x := by
  intro x
  simp only [RowS_o, RowS_i, fzL, T.fz, fr_rows Row_o_z]
def Change_i (x : Change) : List T := [.s (.int .i64 x.Table), .s (.bool x.Had), .s (.bool x.Has), .s (.int .i64 x.Old.Id), .im false (rowsOf Int_c x.Old.Cells), .s (.int .i64 x.New.Id), .im false (rowsOf Int_c x.New.Cells)]
theorem Change_i_n : ∀ x, (Change_i x).length = 7 := fun _ => rfl
def Change_k (x : Change) : List T := [.s (.int .i64 x.Table), .s (.bool x.Had), .s (.bool x.Has), .s (.int .i64 x.Old.Id), .im true (rowsOf Int_c x.Old.Cells), .s (.int .i64 x.New.Id), .im true (rowsOf Int_c x.New.Cells)]
theorem Change_k_n : ∀ x, (Change_k x).length = 7 := fun _ => rfl
theorem Change_k_z : ∀ x, fzL (Change_k x) = Change_i x := fun _ => rfl
def tab : List (Nat × Ty) := [(3, Ty.mk false 1 8 0 [] [.int .i64 0] (some .i64) false false false false none),
  (4, Ty.mk false 1 1 0 [] [.bool false] (none) true false false false none),
  (5, Ty.mk false 1 1 0 [] [.int .u8 0] (some .u8) false false false false none),
  (22, Ty.mk false 1 24 5 [] [.slice none 0 0] (none) false false true false none),
  (24, Ty.mk false 1 24 3 [] [.slice none 0 0] (none) false false true false none),
  (26, Ty.mk true 1 24 0 [(0, 1)] [.slice none 0 0] (none) false false false false none),
  (27, Ty.mk false 1 24 72 [] [.slice none 0 0] (none) false false true false none),
  (29, Ty.mk true 3 56 0 [(0, 1), (1, 1), (2, 1)] [.slice none 0 0, .int .i64 0, .slice none 0 0] (none) false false false false none),
  (30, Ty.mk false 1 24 40 [] [.slice none 0 0] (none) false false true false none),
  (38, Ty.mk true 2 32 0 [(0, 1), (1, 1)] [.int .i64 0, .slice none 0 0] (none) false false false false none),
  (40, Ty.mk true 7 80 0 [(0, 1), (1, 1), (2, 1), (3, 2), (5, 2)] [.int .i64 0, .bool false, .bool false, .int .i64 0, .slice none 0 0, .int .i64 0, .slice none 0 0] (none) false false false false none),
  (62, Ty.mk false 1 8 0 [] [.pointer none] (none) false false false false none),
  (72, Ty.mk false 1 24 38 [] [.slice none 0 0] (none) false false true false none),
  (78, Ty.mk true 4 48 0 [(0, 1), (1, 1), (2, 2)] [.int .i64 0, .int .i64 0, .int .i64 0, .slice none 0 0] (none) false false false false none),
  (88, Ty.mk true 3 40 0 [(0, 1), (1, 1), (2, 1)] [.slice none 0 0, .int .i64 0, .int .i64 0] (none) false false false false none)]
theorem tab_ok : TabOk Try.prog tab := TabOk.of (l := [(3, false), (4, false), (5, false), (22, false), (24, false), (26, false), (27, false), (29, false), (30, false), (38, false), (40, false), (62, false), (72, false), (78, false), (88, false)]) (by kernel_rfl)
theorem mixed : Try.prog.follows .mixedOrders = true := by rfl

set_option maxRecDepth 8000 in
theorem laws_sameInts_ac {a0 : List Int} {a1 : List Int} {r : Bool} (h : laws_sameInts.f a0 a1 = some r) : AC Try.prog 45 [.v (.im false (rowsOf Int_c a0)), .v (.im false (rowsOf Int_c a1))] [.v (.jk), .v (.jk)] [.v (.s (.bool r))] := by
  unfold laws_sameInts.f at h
  let ar := Ls.ar; let cm := Ls.cm; let bo := Ls.bo; let sc := Ls.sc; let sa := Ls.sa; let sx := Ls.sx; let ss := Ls.ss; let sl := Ls.sl; let bs := Ls.bs; let sb := Ls.sb; let ln := Ls.ln; let sr := Ls.sr; let ap := Ls.ap; let up := Ls.up; let rp := Ls.rp; let fr := Ls.fr; let ge := Ls.ge; let le := Ls.le; let lt := Ls.lt; let nz := Ls.nz; let mm := Ls.mm; let ma := Ls.ma; let sm := Ls.sm; let fl := Ls.fl; let al := Ls.al; let ci := Ls.ci
  let eInt_c := rowsOf Int_c
  let lenI_Int := @lenI Int
  have hL : (⟨ar, cm, bo, sc, sa, sx, ss, sl, bs, sb, ln, sr, ap, up, rp, fr, ge, le, lt, nz, mm, ma, sm, fl, al, ci⟩ : Lf) = Ls := rfl
  show AC Try.prog 45 [.v (.im false (eInt_c a0)), .v (.im false (eInt_c a1))] _ _
  refine AC.of_run2 tab_ok Try.func45 (by rfl) (by rfl) (by cbv) ⟨by decide, rfl⟩ fun F hP hA => ?_
  have hT : TabOk F.P tab := hP ▸ tab_ok
  have hM : F.P.follows .mixedOrders = true := hP ▸ mixed
  have hC : ∀ {f a o r}, AC Try.prog f a o r → AC F.P f a o r := fun h => hP ▸ h
  refine Run.seq ?_
  refine Run.region hL hT [] (by cbv) ?_ ?_
  · exact hq0
  refine Run.seq ?_
  refine Run.seq ?_
  refine Run.region hL hT [] (by cbv) ?_ ?_
  · exact (hq trivial hq0)
  rw [show ln (eInt_c a0) = lenI_Int a0 from ln_eq Int_c _]
  rw [show ln (eInt_c a1) = lenI_Int a1 from ln_eq Int_c _]
  refine Run.cond (by cbv) (hq0) (fun c1 => ?_) (fun c1 => ?_)
  · have h := if_t c1 h
    refine Run.seq ?_
    refine Run.region hL hT [] (by cbv) ?_ ?_
    · exact hq0
    refine Run.ret ?_
    cases h
    refine ⟨_, _, by cbv, ?_, ?_⟩
    · exact LLe.r
    · exact (ALe.v LLe.r ALe.nil)
  · have h := if_f c1 h
    refine Run.skip ?_
    refine Run.seq ?_
    refine Run.seq ?_
    refine Run.region hL hT [] (by cbv) ?_ ?_
    · exact hq0
    refine Run.block ?_
    refine Run.loop1 (fun (z5 : Int) => ⟨26, 100000, [(0, .t (.im false (eInt_c a0))), (1, .t (.im false (eInt_c a1))), (5, .t (.s (.int .i64 z5)))], []⟩) (x0 := 0) h (Weak.of _ [] hA (by cbv) ?_) (fun _ => rfl) ?_
    · repeat (first | exact hq0 | refine hq (by first | exact True.intro | rfl) ?_)
    · intro k z5 h
      rw [laws_sameInts.l0] at h
      refine Run.seq ?_
      refine Run.seq ?_
      refine Run.region hL hT [] (by cbv) ?_ ?_
      · exact (hq trivial hq0)
      rw [show ln (eInt_c a0) = lenI_Int a0 from ln_eq Int_c _]
      refine Run.cond (by cbv) (hq0) (fun c6 => ?_) (fun c6 => ?_)
      · have h := if_t c6 h
        refine Run.skip ?_
        refine Run.seq ?_
        refine Run.block ?_
        refine Run.seq ?_
        obtain ⟨x7, h_x7, h⟩ := bnd h
        obtain ⟨x8, h_x8, h⟩ := bnd h
        refine Run.draw hL hT hM [(2, .el [.s (.int .i64 x7)]), (6, .el [.s (.int .i64 x8)])] (by cbv) (by cbv) (by cbv) (by cbv) (by cbv) ?_ ?_
        · exact (hq (get_le h_x7) (hq (get_lt (f := Int_c) h_x7) (hq (get_ge (f := Int_c) h_x7) (hq (get_le h_x8) (hq (get_lt (f := Int_c) h_x8) (hq (get_ge (f := Int_c) h_x8) (hq trivial hq0)))))))
        refine Run.cond (by cbv) (hq0) (fun c9 => ?_) (fun c9 => ?_)
        · have h := if_t c9 h
          refine Run.seq ?_
          refine Run.region hL hT [] (by cbv) ?_ ?_
          · exact hq0
          refine Run.ret ?_
          cases h
          refine ⟨_, _, by cbv, ?_, ?_⟩
          · exact LLe.r
          · exact (ALe.v LLe.r ALe.nil)
        · have h := if_f c9 h
          refine Run.skip ?_
          refine Run.region hL hT [] (by cbv) ?_ ?_
          · exact (hq trivial hq0)
          refine ⟨(ar .add .i64 z5 1), h, Weak.of _ [] hA (by cbv) ?_⟩
          repeat (first | exact hq0 | refine hq (by first | exact True.intro | rfl) ?_)
      · have h := if_f c6 h
        refine Run.exit ?_
        refine Run.seq ?_
        refine Run.region hL hT [] (by cbv) ?_ ?_
        · exact hq0
        refine Run.ret ?_
        cases h
        refine ⟨_, _, by cbv, ?_, ?_⟩
        · exact LLe.r
        · exact (ALe.v LLe.r ALe.nil)

set_option maxRecDepth 8000 in
theorem laws_sameStore_ac {a0v_Schemav_Cols : List Int} {a0v_Version : Int} {a0v_Tables : List (List Row)} {a1v_Schemav_Cols : List Int} {a1v_Version : Int} {a1v_Tables : List (List Row)} {r : Bool} (h : laws_sameStore.f (Store.mk (Schema.mk a0v_Schemav_Cols) a0v_Version a0v_Tables) (Store.mk (Schema.mk a1v_Schemav_Cols) a1v_Version a1v_Tables) = some r) : AC Try.prog 11 [.ag [.im false (rowsOf Int_c a0v_Schemav_Cols), .s (.int .i64 a0v_Version), .im false (rowsOf RowS_i a0v_Tables)], .ag [.im false (rowsOf Int_c a1v_Schemav_Cols), .s (.int .i64 a1v_Version), .im false (rowsOf RowS_i a1v_Tables)]] [.ag [.jk, .jk, .jk], .ag [.jk, .jk, .jk]] [.v (.s (.bool r))] := by
  unfold laws_sameStore.f at h
  let ar := Ls.ar; let cm := Ls.cm; let bo := Ls.bo; let sc := Ls.sc; let sa := Ls.sa; let sx := Ls.sx; let ss := Ls.ss; let sl := Ls.sl; let bs := Ls.bs; let sb := Ls.sb; let ln := Ls.ln; let sr := Ls.sr; let ap := Ls.ap; let up := Ls.up; let rp := Ls.rp; let fr := Ls.fr; let ge := Ls.ge; let le := Ls.le; let lt := Ls.lt; let nz := Ls.nz; let mm := Ls.mm; let ma := Ls.ma; let sm := Ls.sm; let fl := Ls.fl; let al := Ls.al; let ci := Ls.ci
  let eInt_c := rowsOf Int_c
  let eRowS_i := rowsOf RowS_i
  let eRow_i := rowsOf Row_i
  let lenI_Row := @lenI Row
  let lenI_RowS := @lenI (List Row)
  have hL : (⟨ar, cm, bo, sc, sa, sx, ss, sl, bs, sb, ln, sr, ap, up, rp, fr, ge, le, lt, nz, mm, ma, sm, fl, al, ci⟩ : Lf) = Ls := rfl
  show AC Try.prog 11 [.ag [.im false (eInt_c a0v_Schemav_Cols), .s (.int .i64 a0v_Version), .im false (eRowS_i a0v_Tables)], .ag [.im false (eInt_c a1v_Schemav_Cols), .s (.int .i64 a1v_Version), .im false (eRowS_i a1v_Tables)]] _ _
  refine AC.of_run2 tab_ok Try.func11 (by rfl) (by rfl) (by cbv) ⟨by decide, rfl⟩ fun F hP hA => ?_
  have hT : TabOk F.P tab := hP ▸ tab_ok
  have hM : F.P.follows .mixedOrders = true := hP ▸ mixed
  have hC : ∀ {f a o r}, AC Try.prog f a o r → AC F.P f a o r := fun h => hP ▸ h
  refine Run.seq ?_
  refine Run.region hL hT [] (by cbv) ?_ ?_
  · exact hq0
  refine Run.seq ?_
  refine Run.seq ?_
  obtain ⟨r1, h_r1, h⟩ := bnd h
  refine Run.region hL hT [(21, .call [false, false] [.v (.jk), .v (.jk)] [.v (.s (.bool r1))])] (by cbv) ?_ ?_
  · exact (hq trivial (hq trivial (hq trivial (hq (fun _ => hq0) (hq (fun g3 => (hq g3 (hq trivial hq0))) (hq (fun g4 => (hq g4 hq0)) (hq (fun _ => hq0) (hq (fun g6 => (hq g6 (hq trivial hq0))) (hq (fun g7 => (hq g7 hq0)) (hq (fun g8 => (hq g8 (hq g8 (hq trivial hq0)))) (hq (fun _ => hq0) (hq (fun q10 => (hq (bo_m q10) hq0)) (hq (fun _ => hq0) (hq (fun g12 => (by have g12C := g12; rw [show ln (eRowS_i a0v_Tables) = lenI_RowS a0v_Tables from ln_eq RowS_i _, show ln (eRowS_i a1v_Tables) = lenI_RowS a1v_Tables from ln_eq RowS_i _] at g12C; exact (hq g12 hq0))) (hq (fun g13 => (by have g13C := g13; rw [show ln (eRowS_i a0v_Tables) = lenI_RowS a0v_Tables from ln_eq RowS_i _, show ln (eRowS_i a1v_Tables) = lenI_RowS a1v_Tables from ln_eq RowS_i _] at g13C; exact (hq g13 (hq trivial hq0)))) (hq (fun _ => hq0) (hq (fun g15 => (by have g15C := g15; rw [show ln (eRowS_i a0v_Tables) = lenI_RowS a0v_Tables from ln_eq RowS_i _, show ln (eRowS_i a1v_Tables) = lenI_RowS a1v_Tables from ln_eq RowS_i _] at g15C; exact (hq g15 hq0))) (hq (fun g16 => (by have g16C := g16; rw [show ln (eRowS_i a0v_Tables) = lenI_RowS a0v_Tables from ln_eq RowS_i _, show ln (eRowS_i a1v_Tables) = lenI_RowS a1v_Tables from ln_eq RowS_i _] at g16C; exact (hq g16 (hq trivial hq0)))) (hq (fun g17 => (by have g17C := g17; rw [show ln (eRowS_i a0v_Tables) = lenI_RowS a0v_Tables from ln_eq RowS_i _, show ln (eRowS_i a1v_Tables) = lenI_RowS a1v_Tables from ln_eq RowS_i _] at g17C; exact (hq g17 (hq g17 (hq (hC (laws_sameInts_ac (gd_t h_r1 g17C))) hq0))))) (hq (fun g18 => (by have g18C := g18; rw [show ln (eRowS_i a0v_Tables) = lenI_RowS a0v_Tables from ln_eq RowS_i _, show ln (eRowS_i a1v_Tables) = lenI_RowS a1v_Tables from ln_eq RowS_i _] at g18C; exact (hq g18 hq0))) (hq (fun _ => hq0) (hq (fun q20 => (by have q20C := q20; rw [show ln (eRowS_i a0v_Tables) = lenI_RowS a0v_Tables from ln_eq RowS_i _, show ln (eRowS_i a1v_Tables) = lenI_RowS a1v_Tables from ln_eq RowS_i _] at q20C; exact (hq (bo_m q20) hq0))) hq0))))))))))))))))))))))
  rw [show ln (eRowS_i a0v_Tables) = lenI_RowS a0v_Tables from ln_eq RowS_i _]
  rw [show ln (eRowS_i a1v_Tables) = lenI_RowS a1v_Tables from ln_eq RowS_i _]
  refine Run.cond (by cbv) (hq0) (fun c21 => ?_) (fun c21 => ?_)
  · have h := if_t c21 h
    refine Run.seq ?_
    refine Run.region hL hT [] (by cbv) ?_ ?_
    · exact hq0
    refine Run.ret ?_
    cases h
    refine ⟨_, _, by cbv, ?_, ?_⟩
    · exact LLe.r
    · exact (ALe.v LLe.r ALe.nil)
  · have h := if_f c21 h
    refine Run.skip ?_
    refine Run.seq ?_
    refine Run.seq ?_
    refine Run.region hL hT [] (by cbv) ?_ ?_
    · exact hq0
    refine Run.block ?_
    refine Run.loop1 (fun (z29 : Int) => ⟨102, 100000, [(2, .pt 1 0 0), (3, .pt 2 0 0), (5, .t (.s (.int .i64 z29)))], [(1, .box 29 [.t (.im false (eInt_c a0v_Schemav_Cols)), .t (.s (.int .i64 a0v_Version)), .t (.im false (eRowS_i a0v_Tables))]), (2, .box 29 [.t (.im false (eInt_c a1v_Schemav_Cols)), .t (.s (.int .i64 a1v_Version)), .t (.im false (eRowS_i a1v_Tables))])]⟩) (x0 := 0) h (Weak.of _ [(1, 0), (2, 1)] hA (by cbv) ?_) (fun _ => rfl) ?_
    · repeat (first | exact hq0 | refine hq (by first | exact True.intro | rfl) ?_)
    · intro k z29 h
      rw [laws_sameStore.l0] at h
      refine Run.seq ?_
      refine Run.seq ?_
      refine Run.region hL hT [] (by cbv) ?_ ?_
      · exact (hq trivial (hq trivial hq0))
      rw [show ln (eRowS_i a0v_Tables) = lenI_RowS a0v_Tables from ln_eq RowS_i _]
      refine Run.cond (by cbv) (hq0) (fun c30 => ?_) (fun c30 => ?_)
      · have h := if_t c30 h
        refine Run.skip ?_
        obtain ⟨K32, h_K32, h⟩ := joinE h
        refine Run.join1 K32 (r := r) (fun (y31 : Unit) => ⟨102, 100000, [(2, .pt 1 0 0), (3, .pt 2 0 0), (5, .t (.s (.int .i64 z29)))], [(1, .box 29 [.t (.im false (eInt_c a0v_Schemav_Cols)), .t (.s (.int .i64 a0v_Version)), .t (.im false (eRowS_i a0v_Tables))]), (2, .box 29 [.t (.im false (eInt_c a1v_Schemav_Cols)), .t (.s (.int .i64 a1v_Version)), .t (.im false (eRowS_i a1v_Tables))])]⟩) ?_ ?_
        · skip
          refine Run.block ?_
          refine Run.seq ?_
          refine Run.seq ?_
          obtain ⟨x33, h_x33, h⟩ := bnd h
          obtain ⟨x34, h_x34, h⟩ := bnd h
          refine Run.draw hL hT hM [(3, .el [.im false (eRow_i x33)]), (9, .el [.im false (eRow_i x34)])] (by cbv) (by cbv) (by cbv) (by cbv) (by cbv) ?_ ?_
          · exact (hq trivial (hq (get_le h_x33) (hq (get_lt (f := RowS_i) h_x33) (hq (get_ge (f := RowS_i) h_x33) (hq trivial (hq (get_le h_x34) (hq (get_lt (f := RowS_i) h_x34) (hq (get_ge (f := RowS_i) h_x34) (hq trivial hq0)))))))))
          rw [show ln (eRow_i x33) = lenI_Row x33 from ln_eq Row_i _]
          rw [show ln (eRow_i x34) = lenI_Row x34 from ln_eq Row_i _]
          refine Run.cond (by cbv) (hq0) (fun c35 => ?_) (fun c35 => ?_)
          · have h := if_t c35 h
            refine Run.seq ?_
            refine Run.region hL hT [] (by cbv) ?_ ?_
            · exact hq0
            refine Run.ret ?_
            cases h
            refine ⟨_, _, by cbv, ?_, ?_⟩
            · exact LLe.r
            · exact (ALe.v LLe.r ALe.nil)
          · have h := if_f c35 h
            refine Run.skip ?_
            refine Run.seq ?_
            refine Run.region hL hT [] (by cbv) ?_ ?_
            · exact hq0
            refine Run.block ?_
            refine Run.loop1 (fun (z44 : Int) => ⟨102, 100000, [(2, .pt 1 0 0), (3, .pt 2 0 0), (5, .t (.s (.int .i64 z29))), (6, .t (.s (.int .i64 z44)))], [(1, .box 29 [.t (.im false (eInt_c a0v_Schemav_Cols)), .t (.s (.int .i64 a0v_Version)), .t (.im false (eRowS_i a0v_Tables))]), (2, .box 29 [.t (.im false (eInt_c a1v_Schemav_Cols)), .t (.s (.int .i64 a1v_Version)), .t (.im false (eRowS_i a1v_Tables))])]⟩) (x0 := 0) h (Weak.of _ [(1, 1), (2, 2)] hA (by cbv) ?_) (fun _ => rfl) ?_
            · repeat (first | exact hq0 | refine hq (by first | exact True.intro | rfl) ?_)
            · intro k z44 h
              rw [laws_sameStore.l1] at h
              refine Run.seq ?_
              refine Run.seq ?_
              obtain ⟨x45, h_x45, h⟩ := bnd h
              refine Run.region hL hT [(4, .el [.im false (eRow_i x45)])] (by cbv) ?_ ?_
              · exact (hq trivial (hq (get_le h_x45) (hq (get_lt (f := RowS_i) h_x45) (hq (get_ge (f := RowS_i) h_x45) (hq trivial hq0)))))
              rw [show ln (eRow_i x45) = lenI_Row x45 from ln_eq Row_i _]
              refine Run.cond (by cbv) (hq0) (fun c46 => ?_) (fun c46 => ?_)
              · have h := if_t c46 h
                refine Run.skip ?_
                refine Run.seq ?_
                refine Run.block ?_
                refine Run.seq ?_
                obtain ⟨⟨x47v_Id, x47v_Cells⟩, h_x47, h⟩ := bnd h
                obtain ⟨x48, h_x48, h⟩ := bnd h
                obtain ⟨⟨x49v_Id, x49v_Cells⟩, h_x49, h⟩ := bnd h
                obtain ⟨r50, h_r50, h⟩ := bnd h
                refine Run.draw hL hT hM [(3, .el [.im false (eRow_i x45)]), (6, .el [.s (.int .i64 x47v_Id), .im false (eInt_c x47v_Cells)]), (12, .el [.im false (eRow_i x48)]), (15, .el [.s (.int .i64 x49v_Id), .im false (eInt_c x49v_Cells)]), (23, .el [.im false (eRow_i x45)]), (26, .el [.s (.int .i64 x47v_Id), .im false (eInt_c x47v_Cells)]), (32, .el [.im false (eRow_i x48)]), (35, .el [.s (.int .i64 x49v_Id), .im false (eInt_c x49v_Cells)]), (38, .call [false, false] [.v (.jk), .v (.jk)] [.v (.s (.bool r50))])] (by cbv) (by cbv) (by cbv) (by cbv) (by cbv) ?_ ?_
                · exact (hq trivial (hq (get_le h_x45) (hq (get_lt (f := RowS_i) h_x45) (hq (get_ge (f := RowS_i) h_x45) (hq (get_le h_x47) (hq (get_lt (f := Row_i) h_x47) (hq (get_ge (f := Row_i) h_x47) (hq trivial (hq (get_le h_x48) (hq (get_lt (f := RowS_i) h_x48) (hq (get_ge (f := RowS_i) h_x48) (hq (get_le h_x49) (hq (get_lt (f := Row_i) h_x49) (hq (get_ge (f := Row_i) h_x49) (hq trivial (hq (fun _ => hq0) (hq (fun g52 => (hq g52 (hq trivial hq0))) (hq (fun _ => hq0) (hq (fun g54 => (hq g54 (hq g54 (hq (get_le h_x45) (hq (get_lt (f := RowS_i) h_x45) (hq (get_ge (f := RowS_i) h_x45) hq0)))))) (hq (fun g55 => (hq g55 hq0)) (hq (fun _ => hq0) (hq (fun g57 => (hq g57 (hq g57 (hq (get_le h_x47) (hq (get_lt (f := Row_i) h_x47) (hq (get_ge (f := Row_i) h_x47) hq0)))))) (hq (fun g58 => (hq g58 hq0)) (hq (fun g59 => (hq g59 hq0)) (hq (fun _ => hq0) (hq (fun g61 => (hq g61 (hq trivial hq0))) (hq (fun _ => hq0) (hq (fun g63 => (hq g63 (hq g63 (hq (get_le h_x48) (hq (get_lt (f := RowS_i) h_x48) (hq (get_ge (f := RowS_i) h_x48) hq0)))))) (hq (fun g64 => (hq g64 hq0)) (hq (fun _ => hq0) (hq (fun g66 => (hq g66 (hq g66 (hq (get_le h_x49) (hq (get_lt (f := Row_i) h_x49) (hq (get_ge (f := Row_i) h_x49) hq0)))))) (hq (fun g67 => (hq g67 hq0)) (hq (fun g68 => (hq g68 hq0)) (hq (fun g69 => (hq g69 (hq g69 (hq (hC (laws_sameInts_ac (gd_t h_r50 g69))) hq0)))) (hq (fun g70 => (hq g70 hq0)) (hq (fun _ => hq0) (hq (fun q72 => (hq (bo_m q72) hq0)) hq0)))))))))))))))))))))))))))))))))))))
                refine Run.cond (by cbv) (hq0) (fun c73 => ?_) (fun c73 => ?_)
                · have h := if_t c73 h
                  refine Run.seq ?_
                  refine Run.region hL hT [] (by cbv) ?_ ?_
                  · exact hq0
                  refine Run.ret ?_
                  cases h
                  refine ⟨_, _, by cbv, ?_, ?_⟩
                  · exact LLe.r
                  · exact (ALe.v LLe.r ALe.nil)
                · have h := if_f c73 h
                  refine Run.skip ?_
                  refine Run.region hL hT [] (by cbv) ?_ ?_
                  · exact (hq trivial hq0)
                  refine ⟨(ar .add .i64 z44 1), h, Weak.of _ [(1, 1), (2, 2)] hA (by cbv) ?_⟩
                  repeat (first | exact hq0 | refine hq (by first | exact True.intro | rfl) ?_)
              · have h := if_f c46 h
                refine Run.exit ?_
                refine ⟨(), h, Weak.of _ [(1, 1), (2, 2)] hA (by cbv) ?_⟩
                repeat (first | exact hq0 | refine hq (by first | exact True.intro | rfl) ?_)
        · intro y31 h
          rw [h_K32] at h
          refine Run.region hL hT [] (by cbv) ?_ ?_
          · exact (hq trivial hq0)
          refine ⟨(ar .add .i64 z29 1), h, Weak.of _ [(1, 1), (2, 2)] hA (by cbv) ?_⟩
          repeat (first | exact hq0 | refine hq (by first | exact True.intro | rfl) ?_)
      · have h := if_f c30 h
        refine Run.exit ?_
        refine Run.seq ?_
        refine Run.region hL hT [] (by cbv) ?_ ?_
        · exact hq0
        refine Run.ret ?_
        cases h
        refine ⟨_, _, by cbv, ?_, ?_⟩
        · exact LLe.r
        · exact (ALe.v LLe.r ALe.nil)

set_option maxRecDepth 8000 in
theorem impl_within_ac {a0 : Int} {a1 : Int} {a2 : Int} {r : Bool} (h : impl_within.f a0 a1 a2 = some r) : AC Try.prog 37 [.v (.s (.int .i64 a0)), .v (.s (.int .i64 a1)), .v (.s (.int .i64 a2))] [.v (.jk), .v (.jk), .v (.jk)] [.v (.s (.bool r))] := by
  unfold impl_within.f at h
  let ar := Ls.ar; let cm := Ls.cm; let bo := Ls.bo; let sc := Ls.sc; let sa := Ls.sa; let sx := Ls.sx; let ss := Ls.ss; let sl := Ls.sl; let bs := Ls.bs; let sb := Ls.sb; let ln := Ls.ln; let sr := Ls.sr; let ap := Ls.ap; let up := Ls.up; let rp := Ls.rp; let fr := Ls.fr; let ge := Ls.ge; let le := Ls.le; let lt := Ls.lt; let nz := Ls.nz; let mm := Ls.mm; let ma := Ls.ma; let sm := Ls.sm; let fl := Ls.fl; let al := Ls.al; let ci := Ls.ci
  have hL : (⟨ar, cm, bo, sc, sa, sx, ss, sl, bs, sb, ln, sr, ap, up, rp, fr, ge, le, lt, nz, mm, ma, sm, fl, al, ci⟩ : Lf) = Ls := rfl
  show AC Try.prog 37 [.v (.s (.int .i64 a0)), .v (.s (.int .i64 a1)), .v (.s (.int .i64 a2))] _ _
  refine AC.of_run2 tab_ok Try.func37 (by rfl) (by rfl) (by cbv) ⟨by decide, rfl⟩ fun F hP hA => ?_
  have hT : TabOk F.P tab := hP ▸ tab_ok
  have hM : F.P.follows .mixedOrders = true := hP ▸ mixed
  have hC : ∀ {f a o r}, AC Try.prog f a o r → AC F.P f a o r := fun h => hP ▸ h
  refine Run.seq ?_
  refine Run.region hL hT [] (by cbv) ?_ ?_
  · exact hq0
  refine Run.seq ?_
  refine Run.region hL hT [] (by cbv) ?_ ?_
  · exact (hq trivial (hq (fun _ => hq0) (hq (fun _ => hq0) (hq (fun g3 => (hq g3 (hq g3 (hq trivial hq0)))) (hq (fun q4 => (hq q4 hq0)) (hq (fun _ => hq0) hq0))))))
  refine Run.ret ?_
  cases h
  refine ⟨_, _, by cbv, ?_, ?_⟩
  · exact LLe.r
  · exact (ALe.v LLe.r ALe.nil)

set_option maxRecDepth 8000 in
theorem impl_SchemaOk_ac {a0v_Cols : List Int} {r : Bool} (h : impl_SchemaOk.f (Schema.mk a0v_Cols) = some r) : AC Try.prog 46 [.ag [.im false (rowsOf Int_c a0v_Cols)]] [.ag [.jk]] [.v (.s (.bool r))] := by
  unfold impl_SchemaOk.f at h
  let ar := Ls.ar; let cm := Ls.cm; let bo := Ls.bo; let sc := Ls.sc; let sa := Ls.sa; let sx := Ls.sx; let ss := Ls.ss; let sl := Ls.sl; let bs := Ls.bs; let sb := Ls.sb; let ln := Ls.ln; let sr := Ls.sr; let ap := Ls.ap; let up := Ls.up; let rp := Ls.rp; let fr := Ls.fr; let ge := Ls.ge; let le := Ls.le; let lt := Ls.lt; let nz := Ls.nz; let mm := Ls.mm; let ma := Ls.ma; let sm := Ls.sm; let fl := Ls.fl; let al := Ls.al; let ci := Ls.ci
  let eInt_c := rowsOf Int_c
  let lenI_Int := @lenI Int
  have hL : (⟨ar, cm, bo, sc, sa, sx, ss, sl, bs, sb, ln, sr, ap, up, rp, fr, ge, le, lt, nz, mm, ma, sm, fl, al, ci⟩ : Lf) = Ls := rfl
  show AC Try.prog 46 [.ag [.im false (eInt_c a0v_Cols)]] _ _
  refine AC.of_run2 tab_ok Try.func46 (by rfl) (by rfl) (by cbv) ⟨by decide, rfl⟩ fun F hP hA => ?_
  have hT : TabOk F.P tab := hP ▸ tab_ok
  have hM : F.P.follows .mixedOrders = true := hP ▸ mixed
  have hC : ∀ {f a o r}, AC Try.prog f a o r → AC F.P f a o r := fun h => hP ▸ h
  refine Run.seq ?_
  refine Run.region hL hT [] (by cbv) ?_ ?_
  · exact hq0
  obtain ⟨K2, h_K2, h⟩ := joinE h
  refine Run.join1 K2 (r := r) (fun (y1 : Unit) => ⟨20, 100000, [(1, .pt 1 0 0)], [(1, .box 26 [.t (.im false (eInt_c a0v_Cols))])]⟩) ?_ ?_
  · skip
    refine Run.seq ?_
    refine Run.region hL hT [] (by cbv) ?_ ?_
    · exact (hq trivial hq0)
    rw [show ln (eInt_c a0v_Cols) = lenI_Int a0v_Cols from ln_eq Int_c _]
    refine Run.block ?_
    refine Run.loop1 (fun (z7 : Int) => ⟨20, 100000, [(1, .pt 1 0 0), (6, .t (.im false (eInt_c a0v_Cols))), (7, .t (.s (.int .i64 (lenI_Int a0v_Cols)))), (8, .t (.s (.int .i64 z7)))], [(1, .box 26 [.t (.im false (eInt_c a0v_Cols))])]⟩) (x0 := 0) h (Weak.of _ [(1, 0)] hA (by cbv) ?_) (fun _ => rfl) ?_
    · repeat (first | exact hq0 | refine hq (by first | exact True.intro | rfl) ?_)
    · intro k z7 h
      rw [impl_SchemaOk.l0] at h
      refine Run.seq ?_
      refine Run.region hL hT [] (by cbv) ?_ ?_
      · exact (hq trivial hq0)
      refine Run.seq ?_
      refine Run.cond (by cbv) (hq0) (fun c8 => ?_) (fun c8 => ?_)
      · have h := if_t c8 h
        refine Run.skip ?_
        refine Run.seq ?_
        refine Run.block ?_
        refine Run.seq ?_
        obtain ⟨x9, h_x9, h⟩ := bnd h
        refine Run.region hL hT [(0, .el [.s (.int .i64 x9)])] (by cbv) ?_ ?_
        · exact (hq (get_le h_x9) (hq (get_lt (f := Int_c) h_x9) (hq (get_ge (f := Int_c) h_x9) hq0)))
        refine Run.seq ?_
        obtain ⟨r10, h_r10, h⟩ := bnd h
        refine Run.region hL hT [(1, .call [false, false, false] [.v (.jk), .v (.jk), .v (.jk)] [.v (.s (.bool r10))])] (by cbv) ?_ ?_
        · exact (hq (hC (impl_within_ac h_r10)) hq0)
        refine Run.cond (by cbv) (hq0) (fun c11 => ?_) (fun c11 => ?_)
        · have h := if_t c11 h
          refine Run.seq ?_
          refine Run.region hL hT [] (by cbv) ?_ ?_
          · exact hq0
          refine Run.ret ?_
          cases h
          refine ⟨_, _, by cbv, ?_, ?_⟩
          · exact LLe.r
          · exact (ALe.v LLe.r ALe.nil)
        · have h := if_f c11 h
          refine Run.skip ?_
          refine Run.region hL hT [] (by cbv) ?_ ?_
          · exact (hq trivial hq0)
          refine ⟨(ar .add .i64 z7 1), h, Weak.of _ [(1, 1)] hA (by cbv) ?_⟩
          repeat (first | exact hq0 | refine hq (by first | exact True.intro | rfl) ?_)
      · have h := if_f c8 h
        refine Run.exit ?_
        refine ⟨(), h, Weak.of _ [(1, 1)] hA (by cbv) ?_⟩
        repeat (first | exact hq0 | refine hq (by first | exact True.intro | rfl) ?_)
  · intro y1 h
    rw [h_K2] at h
    refine Run.seq ?_
    obtain ⟨r12, h_r12, h⟩ := bnd h
    refine Run.region hL hT [(3, .call [false, false, false] [.v (.jk), .v (.jk), .v (.jk)] [.v (.s (.bool r12))])] (by cbv) ?_ ?_
    · exact (hq trivial (hq (by rw [show ln (eInt_c a0v_Cols) = lenI_Int a0v_Cols from ln_eq Int_c _]; exact (hC (impl_within_ac h_r12))) hq0))
    rw [show ln (eInt_c a0v_Cols) = lenI_Int a0v_Cols from ln_eq Int_c _]
    refine Run.ret ?_
    cases h
    refine ⟨_, _, by cbv, ?_, ?_⟩
    · exact LLe.r
    · exact (ALe.v LLe.r ALe.nil)

set_option maxRecDepth 8000 in
theorem impl_isVersion_ac {a0 : Int} {r : Bool} (h : impl_isVersion.f a0 = some r) : AC Try.prog 47 [.v (.s (.int .i64 a0))] [.v (.jk)] [.v (.s (.bool r))] := by
  unfold impl_isVersion.f at h
  let ar := Ls.ar; let cm := Ls.cm; let bo := Ls.bo; let sc := Ls.sc; let sa := Ls.sa; let sx := Ls.sx; let ss := Ls.ss; let sl := Ls.sl; let bs := Ls.bs; let sb := Ls.sb; let ln := Ls.ln; let sr := Ls.sr; let ap := Ls.ap; let up := Ls.up; let rp := Ls.rp; let fr := Ls.fr; let ge := Ls.ge; let le := Ls.le; let lt := Ls.lt; let nz := Ls.nz; let mm := Ls.mm; let ma := Ls.ma; let sm := Ls.sm; let fl := Ls.fl; let al := Ls.al; let ci := Ls.ci
  have hL : (⟨ar, cm, bo, sc, sa, sx, ss, sl, bs, sb, ln, sr, ap, up, rp, fr, ge, le, lt, nz, mm, ma, sm, fl, al, ci⟩ : Lf) = Ls := rfl
  show AC Try.prog 47 [.v (.s (.int .i64 a0))] _ _
  refine AC.of_run2 tab_ok Try.func47 (by rfl) (by rfl) (by cbv) ⟨by decide, rfl⟩ fun F hP hA => ?_
  have hT : TabOk F.P tab := hP ▸ tab_ok
  have hM : F.P.follows .mixedOrders = true := hP ▸ mixed
  have hC : ∀ {f a o r}, AC Try.prog f a o r → AC F.P f a o r := fun h => hP ▸ h
  refine Run.seq ?_
  refine Run.region hL hT [] (by cbv) ?_ ?_
  · exact hq0
  refine Run.seq ?_
  obtain ⟨r1, h_r1, h⟩ := bnd h
  refine Run.region hL hT [(1, .call [false, false, false] [.v (.jk), .v (.jk), .v (.jk)] [.v (.s (.bool r1))])] (by cbv) ?_ ?_
  · exact (hq (hC (impl_within_ac h_r1)) hq0)
  refine Run.ret ?_
  cases h
  refine ⟨_, _, by cbv, ?_, ?_⟩
  · exact LLe.r
  · exact (ALe.v LLe.r ALe.nil)

set_option maxRecDepth 8000 in
theorem impl_hasTable_ac {a0v_Cols : List Int} {a1 : Int} {r : Bool} (h : impl_hasTable.f (Schema.mk a0v_Cols) a1 = some r) : AC Try.prog 73 [.ag [.im false (rowsOf Int_c a0v_Cols)], .v (.s (.int .i64 a1))] [.ag [.jk], .v (.jk)] [.v (.s (.bool r))] := by
  unfold impl_hasTable.f at h
  let ar := Ls.ar; let cm := Ls.cm; let bo := Ls.bo; let sc := Ls.sc; let sa := Ls.sa; let sx := Ls.sx; let ss := Ls.ss; let sl := Ls.sl; let bs := Ls.bs; let sb := Ls.sb; let ln := Ls.ln; let sr := Ls.sr; let ap := Ls.ap; let up := Ls.up; let rp := Ls.rp; let fr := Ls.fr; let ge := Ls.ge; let le := Ls.le; let lt := Ls.lt; let nz := Ls.nz; let mm := Ls.mm; let ma := Ls.ma; let sm := Ls.sm; let fl := Ls.fl; let al := Ls.al; let ci := Ls.ci
  let eInt_c := rowsOf Int_c
  let lenI_Int := @lenI Int
  have hL : (⟨ar, cm, bo, sc, sa, sx, ss, sl, bs, sb, ln, sr, ap, up, rp, fr, ge, le, lt, nz, mm, ma, sm, fl, al, ci⟩ : Lf) = Ls := rfl
  show AC Try.prog 73 [.ag [.im false (eInt_c a0v_Cols)], .v (.s (.int .i64 a1))] _ _
  refine AC.of_run2 tab_ok Try.func73 (by rfl) (by rfl) (by cbv) ⟨by decide, rfl⟩ fun F hP hA => ?_
  have hT : TabOk F.P tab := hP ▸ tab_ok
  have hM : F.P.follows .mixedOrders = true := hP ▸ mixed
  have hC : ∀ {f a o r}, AC Try.prog f a o r → AC F.P f a o r := fun h => hP ▸ h
  refine Run.seq ?_
  refine Run.region hL hT [] (by cbv) ?_ ?_
  · exact hq0
  refine Run.seq ?_
  obtain ⟨r1, h_r1, h⟩ := bnd h
  refine Run.region hL hT [(5, .call [false, false, false] [.v (.jk), .v (.jk), .v (.jk)] [.v (.s (.bool r1))])] (by cbv) ?_ ?_
  · exact (hq trivial (hq trivial (hq (by rw [show ln (eInt_c a0v_Cols) = lenI_Int a0v_Cols from ln_eq Int_c _]; exact (hC (impl_within_ac h_r1))) hq0)))
  rw [show ln (eInt_c a0v_Cols) = lenI_Int a0v_Cols from ln_eq Int_c _]
  refine Run.ret ?_
  cases h
  refine ⟨_, _, by cbv, ?_, ?_⟩
  · exact LLe.r
  · exact (ALe.v LLe.r ALe.nil)

set_option maxRecDepth 8000 in
theorem impl_isNum_ac {a0 : Int} {r : Bool} (h : impl_isNum.f a0 = some r) : AC Try.prog 96 [.v (.s (.int .i64 a0))] [.v (.jk)] [.v (.s (.bool r))] := by
  unfold impl_isNum.f at h
  let ar := Ls.ar; let cm := Ls.cm; let bo := Ls.bo; let sc := Ls.sc; let sa := Ls.sa; let sx := Ls.sx; let ss := Ls.ss; let sl := Ls.sl; let bs := Ls.bs; let sb := Ls.sb; let ln := Ls.ln; let sr := Ls.sr; let ap := Ls.ap; let up := Ls.up; let rp := Ls.rp; let fr := Ls.fr; let ge := Ls.ge; let le := Ls.le; let lt := Ls.lt; let nz := Ls.nz; let mm := Ls.mm; let ma := Ls.ma; let sm := Ls.sm; let fl := Ls.fl; let al := Ls.al; let ci := Ls.ci
  have hL : (⟨ar, cm, bo, sc, sa, sx, ss, sl, bs, sb, ln, sr, ap, up, rp, fr, ge, le, lt, nz, mm, ma, sm, fl, al, ci⟩ : Lf) = Ls := rfl
  show AC Try.prog 96 [.v (.s (.int .i64 a0))] _ _
  refine AC.of_run2 tab_ok Try.func96 (by rfl) (by rfl) (by cbv) ⟨by decide, rfl⟩ fun F hP hA => ?_
  have hT : TabOk F.P tab := hP ▸ tab_ok
  have hM : F.P.follows .mixedOrders = true := hP ▸ mixed
  have hC : ∀ {f a o r}, AC Try.prog f a o r → AC F.P f a o r := fun h => hP ▸ h
  refine Run.seq ?_
  refine Run.region hL hT [] (by cbv) ?_ ?_
  · exact hq0
  refine Run.seq ?_
  obtain ⟨r1, h_r1, h⟩ := bnd h
  refine Run.region hL hT [(1, .call [false, false, false] [.v (.jk), .v (.jk), .v (.jk)] [.v (.s (.bool r1))])] (by cbv) ?_ ?_
  · exact (hq (hC (impl_within_ac h_r1)) hq0)
  refine Run.ret ?_
  cases h
  refine ⟨_, _, by cbv, ?_, ?_⟩
  · exact LLe.r
  · exact (ALe.v LLe.r ALe.nil)

set_option maxRecDepth 8000 in
theorem impl_RowOk_ac {a0v_Cols : List Int} {a1 : Int} {a2v_Id : Int} {a2v_Cells : List Int} {r : Bool} (h : impl_RowOk.f (Schema.mk a0v_Cols) a1 (Row.mk a2v_Id a2v_Cells) = some r) : AC Try.prog 71 [.ag [.im false (rowsOf Int_c a0v_Cols)], .v (.s (.int .i64 a1)), .ag [.s (.int .i64 a2v_Id), .im false (rowsOf Int_c a2v_Cells)]] [.ag [.jk], .v (.jk), .ag [.jk, .jk]] [.v (.s (.bool r))] := by
  unfold impl_RowOk.f at h
  let ar := Ls.ar; let cm := Ls.cm; let bo := Ls.bo; let sc := Ls.sc; let sa := Ls.sa; let sx := Ls.sx; let ss := Ls.ss; let sl := Ls.sl; let bs := Ls.bs; let sb := Ls.sb; let ln := Ls.ln; let sr := Ls.sr; let ap := Ls.ap; let up := Ls.up; let rp := Ls.rp; let fr := Ls.fr; let ge := Ls.ge; let le := Ls.le; let lt := Ls.lt; let nz := Ls.nz; let mm := Ls.mm; let ma := Ls.ma; let sm := Ls.sm; let fl := Ls.fl; let al := Ls.al; let ci := Ls.ci
  let eInt_c := rowsOf Int_c
  let lenI_Int := @lenI Int
  have hL : (⟨ar, cm, bo, sc, sa, sx, ss, sl, bs, sb, ln, sr, ap, up, rp, fr, ge, le, lt, nz, mm, ma, sm, fl, al, ci⟩ : Lf) = Ls := rfl
  show AC Try.prog 71 [.ag [.im false (eInt_c a0v_Cols)], .v (.s (.int .i64 a1)), .ag [.s (.int .i64 a2v_Id), .im false (eInt_c a2v_Cells)]] _ _
  refine AC.of_run2 tab_ok Try.func71 (by rfl) (by rfl) (by cbv) ⟨by decide, rfl⟩ fun F hP hA => ?_
  have hT : TabOk F.P tab := hP ▸ tab_ok
  have hM : F.P.follows .mixedOrders = true := hP ▸ mixed
  have hC : ∀ {f a o r}, AC Try.prog f a o r → AC F.P f a o r := fun h => hP ▸ h
  refine Run.seq ?_
  refine Run.region hL hT [] (by cbv) ?_ ?_
  · exact hq0
  obtain ⟨K2, h_K2, h⟩ := joinE h
  refine Run.join1 K2 (r := r) (fun (y1 : Unit) => ⟨43, 100000, [(1, .t (.s (.int .i64 a1))), (3, .pt 1 0 0), (5, .pt 2 0 0)], [(1, .box 26 [.t (.im false (eInt_c a0v_Cols))]), (2, .box 38 [.t (.s (.int .i64 a2v_Id)), .t (.im false (eInt_c a2v_Cells))])]⟩) ?_ ?_
  · skip
    refine Run.seq ?_
    refine Run.region hL hT [] (by cbv) ?_ ?_
    · exact (hq trivial hq0)
    rw [show ln (eInt_c a2v_Cells) = lenI_Int a2v_Cells from ln_eq Int_c _]
    refine Run.block ?_
    refine Run.loop1 (fun (z10 : Int) => ⟨43, 100000, [(1, .t (.s (.int .i64 a1))), (3, .pt 1 0 0), (5, .pt 2 0 0), (10, .t (.im false (eInt_c a2v_Cells))), (11, .t (.s (.int .i64 (lenI_Int a2v_Cells)))), (12, .t (.s (.int .i64 z10)))], [(1, .box 26 [.t (.im false (eInt_c a0v_Cols))]), (2, .box 38 [.t (.s (.int .i64 a2v_Id)), .t (.im false (eInt_c a2v_Cells))])]⟩) (x0 := 0) h (Weak.of _ [(1, 0), (2, 1)] hA (by cbv) ?_) (fun _ => rfl) ?_
    · repeat (first | exact hq0 | refine hq (by first | exact True.intro | rfl) ?_)
    · intro k z10 h
      rw [impl_RowOk.l0] at h
      refine Run.seq ?_
      refine Run.region hL hT [] (by cbv) ?_ ?_
      · exact (hq trivial hq0)
      refine Run.seq ?_
      refine Run.cond (by cbv) (hq0) (fun c11 => ?_) (fun c11 => ?_)
      · have h := if_t c11 h
        refine Run.skip ?_
        refine Run.seq ?_
        refine Run.block ?_
        refine Run.seq ?_
        obtain ⟨x12, h_x12, h⟩ := bnd h
        refine Run.region hL hT [(0, .el [.s (.int .i64 x12)])] (by cbv) ?_ ?_
        · exact (hq (get_le h_x12) (hq (get_lt (f := Int_c) h_x12) (hq (get_ge (f := Int_c) h_x12) hq0)))
        refine Run.seq ?_
        obtain ⟨r13, h_r13, h⟩ := bnd h
        refine Run.region hL hT [(1, .call [false] [.v (.jk)] [.v (.s (.bool r13))])] (by cbv) ?_ ?_
        · exact (hq (hC (impl_isNum_ac h_r13)) hq0)
        refine Run.cond (by cbv) (hq0) (fun c14 => ?_) (fun c14 => ?_)
        · have h := if_t c14 h
          refine Run.seq ?_
          refine Run.region hL hT [] (by cbv) ?_ ?_
          · exact hq0
          refine Run.ret ?_
          cases h
          refine ⟨_, _, by cbv, ?_, ?_⟩
          · exact LLe.r
          · exact (ALe.v LLe.r ALe.nil)
        · have h := if_f c14 h
          refine Run.skip ?_
          refine Run.region hL hT [] (by cbv) ?_ ?_
          · exact (hq trivial hq0)
          refine ⟨(ar .add .i64 z10 1), h, Weak.of _ [(1, 1), (2, 2)] hA (by cbv) ?_⟩
          repeat (first | exact hq0 | refine hq (by first | exact True.intro | rfl) ?_)
      · have h := if_f c11 h
        refine Run.exit ?_
        refine ⟨(), h, Weak.of _ [(1, 1), (2, 2)] hA (by cbv) ?_⟩
        repeat (first | exact hq0 | refine hq (by first | exact True.intro | rfl) ?_)
  · intro y1 h
    rw [h_K2] at h
    refine Run.seq ?_
    obtain ⟨r15, h_r15, h⟩ := bnd h
    obtain ⟨r16, h_r16, h⟩ := bnd h
    obtain ⟨x17, h_x17, h⟩ := bnd h
    obtain ⟨r18, h_r18, h⟩ := bnd h
    refine Run.draw hL hT hM [(1, .call [false] [.ag [.jk]] [.v (.s (.bool r15))]), (5, .call [false, false] [.ag [.jk], .v (.jk)] [.v (.s (.bool r16))]), (14, .el [.s (.int .i64 x17)]), (21, .call [false, false, false] [.v (.jk), .v (.jk), .v (.jk)] [.v (.s (.bool r18))])] (by cbv) (by cbv) (by cbv) (by cbv) (by cbv) ?_ ?_
    · exact (hq trivial (hq (hC (impl_SchemaOk_ac h_r15)) (hq (fun g19 => (hq trivial hq0)) (hq (fun _ => hq0) (hq (fun g21 => (hq g21 (hq g21 (hq (hC (impl_hasTable_ac (gd_t h_r16 g21))) hq0)))) (hq (fun q22 => (hq q22 hq0)) (hq (fun _ => hq0) (hq (fun _ => hq0) (hq (fun g25 => (hq g25 (hq trivial hq0))) (hq (fun g26 => (hq g26 hq0)) (hq (fun _ => hq0) (hq (fun g28 => (hq g28 (hq trivial hq0))) (hq (fun _ => hq0) (hq (fun g30 => (hq g30 (hq g30 (hq (get_le (gd_t h_x17 g30)) (hq (get_lt (f := Int_c) (gd_t h_x17 g30)) (hq (get_ge (f := Int_c) (gd_t h_x17 g30)) hq0)))))) (hq (fun g31 => (hq g31 hq0)) (hq (fun g32 => (hq g32 (hq g32 (hq trivial hq0)))) (hq (fun q33 => (hq q33 hq0)) (hq (fun _ => hq0) (hq (fun _ => hq0) (hq (fun g36 => (by have g36C := g36; rw [show ln (eInt_c a2v_Cells) = lenI_Int a2v_Cells from ln_eq Int_c _] at g36C; exact (hq g36 (hq trivial hq0)))) (hq (fun g37 => (by have g37C := g37; rw [show ln (eInt_c a2v_Cells) = lenI_Int a2v_Cells from ln_eq Int_c _] at g37C; exact (hq g37 (hq (hC (impl_within_ac (gd_t h_r18 g37C))) hq0)))) (hq (fun q38 => (by have q38C := q38; rw [show ln (eInt_c a2v_Cells) = lenI_Int a2v_Cells from ln_eq Int_c _] at q38C; exact (hq q38 hq0))) (hq (fun _ => hq0) hq0)))))))))))))))))))))))
    rw [show ln (eInt_c a2v_Cells) = lenI_Int a2v_Cells from ln_eq Int_c _]
    refine Run.ret ?_
    cases h
    refine ⟨_, _, by cbv, ?_, ?_⟩
    · exact LLe.r
    · exact (ALe.v LLe.r ALe.nil)

set_option maxRecDepth 8000 in
theorem impl_RowsOk_ac {a0v_Cols : List Int} {a1 : Int} {a2 : List Row} {r : Bool} (h : impl_RowsOk.f (Schema.mk a0v_Cols) a1 a2 = some r) : AC Try.prog 48 [.ag [.im false (rowsOf Int_c a0v_Cols)], .v (.s (.int .i64 a1)), .v (.im false (rowsOf Row_i a2))] [.ag [.jk], .v (.jk), .v (.jk)] [.v (.s (.bool r))] := by
  unfold impl_RowsOk.f at h
  let ar := Ls.ar; let cm := Ls.cm; let bo := Ls.bo; let sc := Ls.sc; let sa := Ls.sa; let sx := Ls.sx; let ss := Ls.ss; let sl := Ls.sl; let bs := Ls.bs; let sb := Ls.sb; let ln := Ls.ln; let sr := Ls.sr; let ap := Ls.ap; let up := Ls.up; let rp := Ls.rp; let fr := Ls.fr; let ge := Ls.ge; let le := Ls.le; let lt := Ls.lt; let nz := Ls.nz; let mm := Ls.mm; let ma := Ls.ma; let sm := Ls.sm; let fl := Ls.fl; let al := Ls.al; let ci := Ls.ci
  let eInt_c := rowsOf Int_c
  let eRow_i := rowsOf Row_i
  let lenI_Row := @lenI Row
  have hL : (⟨ar, cm, bo, sc, sa, sx, ss, sl, bs, sb, ln, sr, ap, up, rp, fr, ge, le, lt, nz, mm, ma, sm, fl, al, ci⟩ : Lf) = Ls := rfl
  show AC Try.prog 48 [.ag [.im false (eInt_c a0v_Cols)], .v (.s (.int .i64 a1)), .v (.im false (eRow_i a2))] _ _
  refine AC.of_run2 tab_ok Try.func48 (by rfl) (by rfl) (by cbv) ⟨by decide, rfl⟩ fun F hP hA => ?_
  have hT : TabOk F.P tab := hP ▸ tab_ok
  have hM : F.P.follows .mixedOrders = true := hP ▸ mixed
  have hC : ∀ {f a o r}, AC Try.prog f a o r → AC F.P f a o r := fun h => hP ▸ h
  refine Run.seq ?_
  refine Run.region hL hT [] (by cbv) ?_ ?_
  · exact hq0
  obtain ⟨K2, h_K2, h⟩ := joinE h
  refine Run.join1 K2 (r := r) (fun (y1 : Unit) => ⟨49, 100000, [(1, .t (.s (.int .i64 a1))), (2, .t (.im false (eRow_i a2))), (3, .pt 1 0 0)], [(1, .box 26 [.t (.im false (eInt_c a0v_Cols))])]⟩) ?_ ?_
  · skip
    refine Run.seq ?_
    refine Run.region hL hT [] (by cbv) ?_ ?_
    · exact hq0
    rw [show ln (eRow_i a2) = lenI_Row a2 from ln_eq Row_i _]
    refine Run.block ?_
    refine Run.loop1 (fun (z9 : Int) => ⟨49, 100000, [(1, .t (.s (.int .i64 a1))), (2, .t (.im false (eRow_i a2))), (3, .pt 1 0 0), (9, .t (.im false (eRow_i a2))), (10, .t (.s (.int .i64 (lenI_Row a2)))), (11, .t (.s (.int .i64 z9)))], [(1, .box 26 [.t (.im false (eInt_c a0v_Cols))])]⟩) (x0 := 0) h (Weak.of _ [(1, 0)] hA (by cbv) ?_) (fun _ => rfl) ?_
    · repeat (first | exact hq0 | refine hq (by first | exact True.intro | rfl) ?_)
    · intro k z9 h
      rw [impl_RowsOk.l0] at h
      refine Run.seq ?_
      refine Run.region hL hT [] (by cbv) ?_ ?_
      · exact (hq trivial hq0)
      refine Run.seq ?_
      refine Run.cond (by cbv) (hq0) (fun c10 => ?_) (fun c10 => ?_)
      · have h := if_t c10 h
        refine Run.skip ?_
        refine Run.seq ?_
        refine Run.block ?_
        refine Run.seq ?_
        obtain ⟨⟨x11v_Id, x11v_Cells⟩, h_x11, h⟩ := bnd h
        refine Run.region hL hT [(1, .el [.s (.int .i64 x11v_Id), .im false (eInt_c x11v_Cells)])] (by cbv) ?_ ?_
        · exact (hq (get_le h_x11) (hq (get_lt (f := Row_i) h_x11) (hq (get_ge (f := Row_i) h_x11) (hq trivial hq0))))
        refine Run.seq ?_
        obtain ⟨r12, h_r12, h⟩ := bnd h
        obtain ⟨⟨x13v_Id, x13v_Cells⟩, h_x13, h⟩ := bnd h
        refine Run.draw hL hT hM [(3, .call [false, false, false] [.ag [.jk], .v (.jk), .ag [.jk, .jk]] [.v (.s (.bool r12))]), (12, .el [.s (.int .i64 x13v_Id), .im false (eInt_c x13v_Cells)])] (by cbv) (by cbv) (by cbv) (by cbv) (by cbv) ?_ ?_
        · exact (hq trivial (hq trivial (hq (hC (impl_RowOk_ac h_r12)) (hq (fun _ => hq0) (hq (fun g15 => (hq g15 (hq trivial hq0))) (hq (fun g16 => (hq g16 hq0)) (hq (fun _ => hq0) (hq (fun _ => hq0) (hq (fun g19 => (hq g19 (hq trivial hq0))) (hq (fun g20 => (hq g20 (hq g20 (hq (get_le (gd_t h_x13 g20)) (hq (get_lt (f := Row_i) (gd_t h_x13 g20)) (hq (get_ge (f := Row_i) (gd_t h_x13 g20)) hq0)))))) (hq (fun g21 => (hq g21 hq0)) (hq (fun g22 => (hq g22 hq0)) (hq (fun _ => hq0) (hq (fun g24 => (hq g24 (hq trivial hq0))) (hq (fun g25 => (hq g25 (hq g25 (hq trivial hq0)))) (hq (fun g26 => (hq g26 (hq (fun q27 => (hq (bo_a g26 q27) hq0)) (hq (fun _ => hq0) hq0)))) (hq (fun _ => hq0) (hq (fun q30 => (hq (bo_m q30) hq0)) hq0))))))))))))))))))
        refine Run.cond (by cbv) (hq0) (fun c31 => ?_) (fun c31 => ?_)
        · have h := if_t c31 h
          refine Run.seq ?_
          refine Run.region hL hT [] (by cbv) ?_ ?_
          · exact hq0
          refine Run.ret ?_
          cases h
          refine ⟨_, _, by cbv, ?_, ?_⟩
          · exact LLe.r
          · exact (ALe.v LLe.r ALe.nil)
        · have h := if_f c31 h
          refine Run.skip ?_
          refine Run.region hL hT [] (by cbv) ?_ ?_
          · exact (hq trivial hq0)
          refine ⟨(ar .add .i64 z9 1), h, Weak.of _ [(1, 1)] hA (by cbv) ?_⟩
          repeat (first | exact hq0 | refine hq (by first | exact True.intro | rfl) ?_)
      · have h := if_f c10 h
        refine Run.exit ?_
        refine ⟨(), h, Weak.of _ [(1, 1)] hA (by cbv) ?_⟩
        repeat (first | exact hq0 | refine hq (by first | exact True.intro | rfl) ?_)
  · intro y1 h
    rw [h_K2] at h
    refine Run.seq ?_
    obtain ⟨r32, h_r32, h⟩ := bnd h
    obtain ⟨r33, h_r33, h⟩ := bnd h
    refine Run.region hL hT [(1, .call [false] [.ag [.jk]] [.v (.s (.bool r32))]), (5, .call [false, false] [.ag [.jk], .v (.jk)] [.v (.s (.bool r33))])] (by cbv) ?_ ?_
    · exact (hq trivial (hq (hC (impl_SchemaOk_ac h_r32)) (hq (fun g34 => (hq trivial hq0)) (hq (fun _ => hq0) (hq (fun g36 => (hq g36 (hq g36 (hq (hC (impl_hasTable_ac (gd_t h_r33 g36))) hq0)))) (hq (fun q37 => (hq q37 hq0)) (hq (fun _ => hq0) (hq (fun _ => hq0) (hq (fun g40 => (hq g40 hq0)) (hq (fun g41 => (hq g41 (hq trivial hq0))) (hq (fun q42 => (hq q42 hq0)) (hq (fun _ => hq0) hq0))))))))))))
    rw [show ln (eRow_i a2) = lenI_Row a2 from ln_eq Row_i _]
    refine Run.ret ?_
    cases h
    refine ⟨_, _, by cbv, ?_, ?_⟩
    · exact LLe.r
    · exact (ALe.v LLe.r ALe.nil)

set_option maxRecDepth 8000 in
theorem impl_StoreOk_ac {a0v_Schemav_Cols : List Int} {a0v_Version : Int} {a0v_Tables : List (List Row)} {r : Bool} (h : impl_StoreOk.f (Store.mk (Schema.mk a0v_Schemav_Cols) a0v_Version a0v_Tables) = some r) : AC Try.prog 12 [.ag [.im false (rowsOf Int_c a0v_Schemav_Cols), .s (.int .i64 a0v_Version), .im false (rowsOf RowS_i a0v_Tables)]] [.ag [.jk, .jk, .jk]] [.v (.s (.bool r))] := by
  unfold impl_StoreOk.f at h
  let ar := Ls.ar; let cm := Ls.cm; let bo := Ls.bo; let sc := Ls.sc; let sa := Ls.sa; let sx := Ls.sx; let ss := Ls.ss; let sl := Ls.sl; let bs := Ls.bs; let sb := Ls.sb; let ln := Ls.ln; let sr := Ls.sr; let ap := Ls.ap; let up := Ls.up; let rp := Ls.rp; let fr := Ls.fr; let ge := Ls.ge; let le := Ls.le; let lt := Ls.lt; let nz := Ls.nz; let mm := Ls.mm; let ma := Ls.ma; let sm := Ls.sm; let fl := Ls.fl; let al := Ls.al; let ci := Ls.ci
  let eInt_c := rowsOf Int_c
  let eRowS_i := rowsOf RowS_i
  let eRow_i := rowsOf Row_i
  let lenI_Int := @lenI Int
  let lenI_RowS := @lenI (List Row)
  have hL : (⟨ar, cm, bo, sc, sa, sx, ss, sl, bs, sb, ln, sr, ap, up, rp, fr, ge, le, lt, nz, mm, ma, sm, fl, al, ci⟩ : Lf) = Ls := rfl
  show AC Try.prog 12 [.ag [.im false (eInt_c a0v_Schemav_Cols), .s (.int .i64 a0v_Version), .im false (eRowS_i a0v_Tables)]] _ _
  refine AC.of_run2 tab_ok Try.func12 (by rfl) (by rfl) (by cbv) ⟨by decide, rfl⟩ fun F hP hA => ?_
  have hT : TabOk F.P tab := hP ▸ tab_ok
  have hM : F.P.follows .mixedOrders = true := hP ▸ mixed
  have hC : ∀ {f a o r}, AC Try.prog f a o r → AC F.P f a o r := fun h => hP ▸ h
  refine Run.seq ?_
  refine Run.region hL hT [] (by cbv) ?_ ?_
  · exact hq0
  refine Run.seq ?_
  refine Run.seq ?_
  obtain ⟨r1, h_r1, h⟩ := bnd h
  obtain ⟨r2, h_r2, h⟩ := bnd h
  refine Run.region hL hT [(2, .call [false] [.ag [.jk]] [.v (.s (.bool r1))]), (7, .call [false] [.v (.jk)] [.v (.s (.bool r2))])] (by cbv) ?_ ?_
  · exact (hq trivial (hq (hC (impl_SchemaOk_ac h_r1)) (hq (fun _ => hq0) (hq (fun g4 => (hq g4 (hq trivial hq0))) (hq (fun g5 => (hq g5 (hq (hC (impl_isVersion_ac (gd_t h_r2 g5))) hq0))) (hq (fun g6 => (hq g6 hq0)) (hq (fun _ => hq0) (hq (fun q8 => (hq (bo_m q8) hq0)) (hq (fun _ => hq0) (hq (fun g10 => (hq g10 (hq trivial hq0))) (hq (fun g11 => (hq g11 hq0)) (hq (fun _ => hq0) (hq (fun g13 => (hq g13 hq0)) (hq (fun g14 => (hq g14 (hq trivial hq0))) (hq (fun g15 => (hq g15 hq0)) (hq (fun g16 => (hq g16 (hq g16 (hq trivial hq0)))) (hq (fun _ => hq0) (hq (fun q18 => (hq (bo_m q18) hq0)) hq0))))))))))))))))))
  rw [show ln (eInt_c a0v_Schemav_Cols) = lenI_Int a0v_Schemav_Cols from ln_eq Int_c _]
  rw [show ln (eRowS_i a0v_Tables) = lenI_RowS a0v_Tables from ln_eq RowS_i _]
  refine Run.cond (by cbv) (hq0) (fun c19 => ?_) (fun c19 => ?_)
  · have h := if_t c19 h
    refine Run.seq ?_
    refine Run.region hL hT [] (by cbv) ?_ ?_
    · exact hq0
    refine Run.ret ?_
    cases h
    refine ⟨_, _, by cbv, ?_, ?_⟩
    · exact LLe.r
    · exact (ALe.v LLe.r ALe.nil)
  · have h := if_f c19 h
    refine Run.skip ?_
    refine Run.seq ?_
    refine Run.seq ?_
    refine Run.region hL hT [] (by cbv) ?_ ?_
    · exact (hq trivial hq0)
    rw [show ln (eRowS_i a0v_Tables) = lenI_RowS a0v_Tables from ln_eq RowS_i _]
    refine Run.block ?_
    refine Run.loop1 (fun (z26 : Int) => ⟨40, 100000, [(1, .pt 1 0 0), (26, .t (.im false (eRowS_i a0v_Tables))), (27, .t (.s (.int .i64 (lenI_RowS a0v_Tables)))), (28, .t (.s (.int .i64 z26)))], [(1, .box 29 [.t (.im false (eInt_c a0v_Schemav_Cols)), .t (.s (.int .i64 a0v_Version)), .t (.im false (eRowS_i a0v_Tables))])]⟩) (x0 := 0) h (Weak.of _ [(1, 0)] hA (by cbv) ?_) (fun _ => rfl) ?_
    · repeat (first | exact hq0 | refine hq (by first | exact True.intro | rfl) ?_)
    · intro k z26 h
      rw [impl_StoreOk.l0] at h
      refine Run.seq ?_
      refine Run.region hL hT [] (by cbv) ?_ ?_
      · exact (hq trivial hq0)
      refine Run.seq ?_
      refine Run.cond (by cbv) (hq0) (fun c27 => ?_) (fun c27 => ?_)
      · have h := if_t c27 h
        refine Run.skip ?_
        refine Run.seq ?_
        refine Run.block ?_
        refine Run.seq ?_
        obtain ⟨x28, h_x28, h⟩ := bnd h
        refine Run.region hL hT [(1, .el [.im false (eRow_i x28)])] (by cbv) ?_ ?_
        · exact (hq (get_le h_x28) (hq (get_lt (f := RowS_i) h_x28) (hq (get_ge (f := RowS_i) h_x28) hq0)))
        refine Run.seq ?_
        obtain ⟨r29, h_r29, h⟩ := bnd h
        refine Run.region hL hT [(4, .call [false, false, false] [.ag [.jk], .v (.jk), .v (.jk)] [.v (.s (.bool r29))])] (by cbv) ?_ ?_
        · exact (hq trivial (hq (hC (impl_RowsOk_ac h_r29)) hq0))
        refine Run.cond (by cbv) (hq0) (fun c30 => ?_) (fun c30 => ?_)
        · have h := if_t c30 h
          refine Run.seq ?_
          refine Run.region hL hT [] (by cbv) ?_ ?_
          · exact hq0
          refine Run.ret ?_
          cases h
          refine ⟨_, _, by cbv, ?_, ?_⟩
          · exact LLe.r
          · exact (ALe.v LLe.r ALe.nil)
        · have h := if_f c30 h
          refine Run.skip ?_
          refine Run.region hL hT [] (by cbv) ?_ ?_
          · exact (hq trivial hq0)
          refine ⟨(ar .add .i64 z26 1), h, Weak.of _ [(1, 1)] hA (by cbv) ?_⟩
          repeat (first | exact hq0 | refine hq (by first | exact True.intro | rfl) ?_)
      · have h := if_f c27 h
        refine Run.exit ?_
        refine Run.seq ?_
        refine Run.region hL hT [] (by cbv) ?_ ?_
        · exact hq0
        refine Run.ret ?_
        cases h
        refine ⟨_, _, by cbv, ?_, ?_⟩
        · exact LLe.r
        · exact (ALe.v LLe.r ALe.nil)

set_option maxRecDepth 8000 in
theorem spec_l1New_ac {a0 : List Int} {r : l1Cur} (h : spec_l1New.f a0 = some r) : AC Try.prog 34 [.v (.im true (rowsOf u8_c a0))] [.v (.jk)] [.v (.bx 88 [.im true (rowsOf u8_c r.b), .s (.int .i64 r.i), .s (.int .i64 r.h)])] := by
  unfold spec_l1New.f at h
  let ar := Ls.ar; let cm := Ls.cm; let bo := Ls.bo; let sc := Ls.sc; let sa := Ls.sa; let sx := Ls.sx; let ss := Ls.ss; let sl := Ls.sl; let bs := Ls.bs; let sb := Ls.sb; let ln := Ls.ln; let sr := Ls.sr; let ap := Ls.ap; let up := Ls.up; let rp := Ls.rp; let fr := Ls.fr; let ge := Ls.ge; let le := Ls.le; let lt := Ls.lt; let nz := Ls.nz; let mm := Ls.mm; let ma := Ls.ma; let sm := Ls.sm; let fl := Ls.fl; let al := Ls.al; let ci := Ls.ci
  let eu8_c := rowsOf u8_c
  let lenI_u8 := @lenI Int
  have hL : (⟨ar, cm, bo, sc, sa, sx, ss, sl, bs, sb, ln, sr, ap, up, rp, fr, ge, le, lt, nz, mm, ma, sm, fl, al, ci⟩ : Lf) = Ls := rfl
  show AC Try.prog 34 [.v (.im true (eu8_c a0))] _ _
  refine AC.of_run2 tab_ok Try.func34 (by rfl) (by rfl) (by cbv) ⟨by decide, rfl⟩ fun F hP hA => ?_
  have hT : TabOk F.P tab := hP ▸ tab_ok
  have hM : F.P.follows .mixedOrders = true := hP ▸ mixed
  have hC : ∀ {f a o r}, AC Try.prog f a o r → AC F.P f a o r := fun h => hP ▸ h
  refine Run.seq ?_
  refine Run.region hL hT [] (by cbv) ?_ ?_
  · exact hq0
  refine Run.seq ?_
  refine Run.region hL hT [] (by cbv) ?_ ?_
  · exact (hq trivial hq0)
  rw [show ln (eu8_c a0) = lenI_u8 a0 from ln_eq u8_c _]
  refine Run.seq ?_
  refine Run.seq ?_
  refine Run.region hL hT [] (by cbv) ?_ ?_
  · exact hq0
  refine Run.block ?_
  refine Run.loop2 (fun (z4 : Int) (z5 : Int) => ⟨32, 100000, [(0, .t (.im true (eu8_c a0))), (3, .t (.s (.int .i64 z4))), (4, .t (.s (.int .i64 z5)))], []⟩) (x0 := (ar .add .i64 17333 (lenI_u8 a0))) (x1 := 0) h (Weak.of _ [] hA (by cbv) ?_) (fun _ _ => rfl) ?_
  · repeat (first | exact hq0 | refine hq (by first | exact True.intro | rfl) ?_)
  · intro k z4 z5 h
    rw [spec_l1New.l0] at h
    refine Run.seq ?_
    refine Run.seq ?_
    refine Run.region hL hT [] (by cbv) ?_ ?_
    · exact (hq trivial (hq (fun _ => hq0) (hq (fun g7 => (by have g7C := g7; rw [show ln (eu8_c a0) = lenI_u8 a0 from ln_eq u8_c _] at g7C; exact (hq g7 (hq trivial hq0)))) (hq (fun q8 => (by have q8C := q8; rw [show ln (eu8_c a0) = lenI_u8 a0 from ln_eq u8_c _] at q8C; exact (hq q8 hq0))) (hq (fun _ => hq0) hq0)))))
    rw [show ln (eu8_c a0) = lenI_u8 a0 from ln_eq u8_c _]
    refine Run.cond (by cbv) (hq0) (fun c10 => ?_) (fun c10 => ?_)
    · have h := if_t c10 h
      refine Run.skip ?_
      refine Run.seq ?_
      refine Run.block ?_
      obtain ⟨x11, h_x11, h⟩ := bnd h
      refine Run.region hL hT [(4, .el [.s (.int .u8 x11)])] (by cbv) ?_ ?_
      · exact (hq trivial (hq (get_le h_x11) (hq (get_lt (f := u8_c) h_x11) (hq (get_ge (f := u8_c) h_x11) (hq trivial (hq trivial (hq trivial hq0)))))))
      refine Run.region hL hT [] (by cbv) ?_ ?_
      · exact (hq trivial hq0)
      refine ⟨(ar .and .i64 (ar .add .i64 (ar .add .i64 (ar .mul .i64 z4 131) (ar .or .i64 x11 0)) 7) 1073741823), (ar .add .i64 z5 1), h, Weak.of _ [] hA (by cbv) ?_⟩
      repeat (first | exact hq0 | refine hq (by first | exact True.intro | rfl) ?_)
    · have h := if_f c10 h
      refine Run.exit ?_
      refine Run.seq ?_
      refine Run.region hL hT [] (by cbv) ?_ ?_
      · exact hq0
      refine Run.ret ?_
      cases h
      refine ⟨_, _, by cbv, ?_, ?_⟩
      · exact LLe.r
      · exact (ALe.v LLe.r ALe.nil)

set_option maxRecDepth 8000 in
theorem spec_l1Byte_ac {a0v_b : List Int} {a0v_i : Int} {a0v_h : Int} {r : l1Cur × Int} (h : spec_l1Byte.f (l1Cur.mk a0v_b a0v_i a0v_h) = some r) : AC Try.prog 94 [.v (.bx 88 [.im true (rowsOf u8_c a0v_b), .s (.int .i64 a0v_i), .s (.int .i64 a0v_h)])] [.v (.bx 88 [.im true (rowsOf u8_c a0v_b), .s (.int .i64 r.1.i), .s (.int .i64 r.1.h)])] [.v (.s (.int .i64 r.2))] := by
  unfold spec_l1Byte.f at h
  let ar := Ls.ar; let cm := Ls.cm; let bo := Ls.bo; let sc := Ls.sc; let sa := Ls.sa; let sx := Ls.sx; let ss := Ls.ss; let sl := Ls.sl; let bs := Ls.bs; let sb := Ls.sb; let ln := Ls.ln; let sr := Ls.sr; let ap := Ls.ap; let up := Ls.up; let rp := Ls.rp; let fr := Ls.fr; let ge := Ls.ge; let le := Ls.le; let lt := Ls.lt; let nz := Ls.nz; let mm := Ls.mm; let ma := Ls.ma; let sm := Ls.sm; let fl := Ls.fl; let al := Ls.al; let ci := Ls.ci
  let eu8_c := rowsOf u8_c
  let lenI_u8 := @lenI Int
  have hL : (⟨ar, cm, bo, sc, sa, sx, ss, sl, bs, sb, ln, sr, ap, up, rp, fr, ge, le, lt, nz, mm, ma, sm, fl, al, ci⟩ : Lf) = Ls := rfl
  show AC Try.prog 94 [.v (.bx 88 [.im true (eu8_c a0v_b), .s (.int .i64 a0v_i), .s (.int .i64 a0v_h)])] _ _
  refine AC.of_run2 tab_ok Try.func94 (by rfl) (by rfl) (by cbv) ⟨by decide, rfl⟩ fun F hP hA => ?_
  have hT : TabOk F.P tab := hP ▸ tab_ok
  have hM : F.P.follows .mixedOrders = true := hP ▸ mixed
  have hC : ∀ {f a o r}, AC Try.prog f a o r → AC F.P f a o r := fun h => hP ▸ h
  refine Run.seq ?_
  refine Run.region hL hT [] (by cbv) ?_ ?_
  · exact hq0
  refine Run.seq ?_
  refine Run.region hL hT [] (by cbv) ?_ ?_
  · exact (hq trivial (hq trivial (hq trivial (hq trivial hq0))))
  refine Run.seq ?_
  refine Run.draw hL hT hM [] (by cbv) (by cbv) (by cbv) (by cbv) (by cbv) ?_ ?_
  · exact (hq trivial (hq trivial (hq trivial (hq (by decide : (0 : Int) ≤ 33) (hq (by decide : (33 : Int) < 64) (hq trivial (hq trivial (hq trivial (hq (by decide : (0 : Int) ≤ 45) (hq (by decide : (45 : Int) < 64) (hq trivial (hq trivial hq0))))))))))))
  refine Run.seq ?_
  refine Run.seq ?_
  refine Run.draw hL hT hM [] (by cbv) (by cbv) (by cbv) (by cbv) (by cbv) ?_ ?_
  · exact (hq trivial (hq trivial (hq trivial hq0)))
  rw [show ln (eu8_c a0v_b) = lenI_u8 a0v_b from ln_eq u8_c _]
  refine Run.cond (by cbv) (hq0) (fun c1 => ?_) (fun c1 => ?_)
  · have h := if_t c1 h
    refine Run.seq ?_
    obtain ⟨x2, h_x2, h⟩ := bnd h
    refine Run.draw hL hT hM [(9, .el [.s (.int .u8 x2)])] (by cbv) (by cbv) (by cbv) (by cbv) (by cbv) ?_ ?_
    · exact (hq trivial (hq trivial (hq (get_le h_x2) (hq (get_lt (f := u8_c) h_x2) (hq (get_ge (f := u8_c) h_x2) (hq trivial (hq trivial hq0)))))))
    refine Run.region hL hT [] (by cbv) ?_ ?_
    · exact (hq trivial (hq trivial (hq trivial hq0)))
    refine Run.seq ?_
    refine Run.region hL hT [] (by cbv) ?_ ?_
    · exact hq0
    refine Run.ret ?_
    cases h
    refine ⟨_, _, by cbv, ?_, ?_⟩
    · exact LLe.r
    · exact (ALe.v LLe.r ALe.nil)
  · have h := if_f c1 h
    refine Run.skip ?_
    refine Run.seq ?_
    refine Run.region hL hT [] (by cbv) ?_ ?_
    · exact hq0
    refine Run.ret ?_
    cases h
    refine ⟨_, _, by cbv, ?_, ?_⟩
    · exact LLe.r
    · exact (ALe.v LLe.r ALe.nil)

set_option maxRecDepth 8000 in
theorem spec_l1Below_ac {a0v_b : List Int} {a0v_i : Int} {a0v_h : Int} {a1 : Int} {r : l1Cur × Int} (h : spec_l1Below.f (l1Cur.mk a0v_b a0v_i a0v_h) a1 = some r) : AC Try.prog 65 [.v (.bx 88 [.im true (rowsOf u8_c a0v_b), .s (.int .i64 a0v_i), .s (.int .i64 a0v_h)]), .v (.s (.int .i64 a1))] [.v (.bx 88 [.im true (rowsOf u8_c a0v_b), .s (.int .i64 r.1.i), .s (.int .i64 r.1.h)]), .v (.jk)] [.v (.s (.int .i64 r.2))] := by
  unfold spec_l1Below.f at h
  let ar := Ls.ar; let cm := Ls.cm; let bo := Ls.bo; let sc := Ls.sc; let sa := Ls.sa; let sx := Ls.sx; let ss := Ls.ss; let sl := Ls.sl; let bs := Ls.bs; let sb := Ls.sb; let ln := Ls.ln; let sr := Ls.sr; let ap := Ls.ap; let up := Ls.up; let rp := Ls.rp; let fr := Ls.fr; let ge := Ls.ge; let le := Ls.le; let lt := Ls.lt; let nz := Ls.nz; let mm := Ls.mm; let ma := Ls.ma; let sm := Ls.sm; let fl := Ls.fl; let al := Ls.al; let ci := Ls.ci
  let eu8_c := rowsOf u8_c
  have hL : (⟨ar, cm, bo, sc, sa, sx, ss, sl, bs, sb, ln, sr, ap, up, rp, fr, ge, le, lt, nz, mm, ma, sm, fl, al, ci⟩ : Lf) = Ls := rfl
  show AC Try.prog 65 [.v (.bx 88 [.im true (eu8_c a0v_b), .s (.int .i64 a0v_i), .s (.int .i64 a0v_h)]), .v (.s (.int .i64 a1))] _ _
  refine AC.of_run2 tab_ok Try.func65 (by rfl) (by rfl) (by cbv) ⟨by decide, rfl⟩ fun F hP hA => ?_
  have hT : TabOk F.P tab := hP ▸ tab_ok
  have hM : F.P.follows .mixedOrders = true := hP ▸ mixed
  have hC : ∀ {f a o r}, AC Try.prog f a o r → AC F.P f a o r := fun h => hP ▸ h
  refine Run.seq ?_
  refine Run.region hL hT [] (by cbv) ?_ ?_
  · exact hq0
  refine Run.seq ?_
  refine Run.seq ?_
  refine Run.region hL hT [] (by cbv) ?_ ?_
  · exact (hq trivial hq0)
  refine Run.cond (by cbv) (hq0) (fun c1 => ?_) (fun c1 => ?_)
  · have h := if_t c1 h
    refine Run.seq ?_
    refine Run.region hL hT [] (by cbv) ?_ ?_
    · exact hq0
    refine Run.ret ?_
    cases h
    refine ⟨_, _, by cbv, ?_, ?_⟩
    · exact LLe.r
    · exact (ALe.v LLe.r ALe.nil)
  · have h := if_f c1 h
    refine Run.skip ?_
    refine Run.seq ?_
    refine Run.seq ?_
    refine Run.region hL hT [] (by cbv) ?_ ?_
    · exact (hq trivial hq0)
    refine Run.cond (by cbv) (hq0) (fun c2 => ?_) (fun c2 => ?_)
    · have h := if_t c2 h
      refine Run.seq ?_
      obtain ⟨⟨⟨r3v_1v_b, r3v_1v_i, r3v_1v_h⟩, r3v_2⟩, h_r3, h⟩ := bnd h
      obtain ⟨u4, h_u4, h⟩ := bnd h
      refine Run.region hL hT [(1, .call [true] [.v (.bx 88 [.im true (eu8_c a0v_b), .s (.int .i64 r3v_1v_i), .s (.int .i64 r3v_1v_h)])] [.v (.s (.int .i64 r3v_2))])] (by cbv) ?_ ?_
      · exact (hq (hC (spec_l1Byte_ac h_r3)) (hq trivial (hq (nz_t h_u4) hq0)))
      refine Run.ret ?_
      cases h
      refine ⟨_, _, by cbv, ?_, ?_⟩
      · exact LLe.r
      · exact (ALe.v LLe.r ALe.nil)
    · have h := if_f c2 h
      refine Run.skip ?_
      refine Run.seq ?_
      obtain ⟨⟨⟨r5v_1v_b, r5v_1v_i, r5v_1v_h⟩, r5v_2⟩, h_r5, h⟩ := bnd h
      refine Run.region hL hT [(1, .call [true] [.v (.bx 88 [.im true (eu8_c a0v_b), .s (.int .i64 r5v_1v_i), .s (.int .i64 r5v_1v_h)])] [.v (.s (.int .i64 r5v_2))])] (by cbv) ?_ ?_
      · exact (hq (hC (spec_l1Byte_ac h_r5)) hq0)
      refine Run.seq ?_
      obtain ⟨⟨⟨r6v_1v_b, r6v_1v_i, r6v_1v_h⟩, r6v_2⟩, h_r6, h⟩ := bnd h
      refine Run.region hL hT [(1, .call [true] [.v (.bx 88 [.im true (eu8_c a0v_b), .s (.int .i64 r6v_1v_i), .s (.int .i64 r6v_1v_h)])] [.v (.s (.int .i64 r6v_2))])] (by cbv) ?_ ?_
      · exact (hq (hC (spec_l1Byte_ac h_r6)) hq0)
      refine Run.seq ?_
      obtain ⟨⟨⟨r7v_1v_b, r7v_1v_i, r7v_1v_h⟩, r7v_2⟩, h_r7, h⟩ := bnd h
      refine Run.region hL hT [(1, .call [true] [.v (.bx 88 [.im true (eu8_c a0v_b), .s (.int .i64 r7v_1v_i), .s (.int .i64 r7v_1v_h)])] [.v (.s (.int .i64 r7v_2))])] (by cbv) ?_ ?_
      · exact (hq (hC (spec_l1Byte_ac h_r7)) hq0)
      refine Run.seq ?_
      obtain ⟨⟨⟨r8v_1v_b, r8v_1v_i, r8v_1v_h⟩, r8v_2⟩, h_r8, h⟩ := bnd h
      refine Run.region hL hT [(1, .call [true] [.v (.bx 88 [.im true (eu8_c a0v_b), .s (.int .i64 r8v_1v_i), .s (.int .i64 r8v_1v_h)])] [.v (.s (.int .i64 r8v_2))])] (by cbv) ?_ ?_
      · exact (hq (hC (spec_l1Byte_ac h_r8)) hq0)
      refine Run.seq ?_
      obtain ⟨u9, h_u9, h⟩ := bnd h
      refine Run.region hL hT [] (by cbv) ?_ ?_
      · exact (hq trivial (hq trivial (hq trivial (hq trivial (hq trivial (hq trivial (hq trivial (hq (nz_t h_u9) hq0))))))))
      refine Run.ret ?_
      cases h
      refine ⟨_, _, by cbv, ?_, ?_⟩
      · exact LLe.r
      · exact (ALe.v LLe.r ALe.nil)

set_option maxRecDepth 8000 in
theorem spec_l1PickInt_ac {a0v_b : List Int} {a0v_i : Int} {a0v_h : Int} {a1 : List Int} {r : l1Cur × Int} (h : spec_l1PickInt.f (l1Cur.mk a0v_b a0v_i a0v_h) a1 = some r) : AC Try.prog 66 [.v (.bx 88 [.im true (rowsOf u8_c a0v_b), .s (.int .i64 a0v_i), .s (.int .i64 a0v_h)]), .v (.im false (rowsOf Int_c a1))] [.v (.bx 88 [.im true (rowsOf u8_c a0v_b), .s (.int .i64 r.1.i), .s (.int .i64 r.1.h)]), .v (.jk)] [.v (.s (.int .i64 r.2))] := by
  unfold spec_l1PickInt.f at h
  let ar := Ls.ar; let cm := Ls.cm; let bo := Ls.bo; let sc := Ls.sc; let sa := Ls.sa; let sx := Ls.sx; let ss := Ls.ss; let sl := Ls.sl; let bs := Ls.bs; let sb := Ls.sb; let ln := Ls.ln; let sr := Ls.sr; let ap := Ls.ap; let up := Ls.up; let rp := Ls.rp; let fr := Ls.fr; let ge := Ls.ge; let le := Ls.le; let lt := Ls.lt; let nz := Ls.nz; let mm := Ls.mm; let ma := Ls.ma; let sm := Ls.sm; let fl := Ls.fl; let al := Ls.al; let ci := Ls.ci
  let eInt_c := rowsOf Int_c
  let eu8_c := rowsOf u8_c
  let lenI_Int := @lenI Int
  have hL : (⟨ar, cm, bo, sc, sa, sx, ss, sl, bs, sb, ln, sr, ap, up, rp, fr, ge, le, lt, nz, mm, ma, sm, fl, al, ci⟩ : Lf) = Ls := rfl
  show AC Try.prog 66 [.v (.bx 88 [.im true (eu8_c a0v_b), .s (.int .i64 a0v_i), .s (.int .i64 a0v_h)]), .v (.im false (eInt_c a1))] _ _
  refine AC.of_run2 tab_ok Try.func66 (by rfl) (by rfl) (by cbv) ⟨by decide, rfl⟩ fun F hP hA => ?_
  have hT : TabOk F.P tab := hP ▸ tab_ok
  have hM : F.P.follows .mixedOrders = true := hP ▸ mixed
  have hC : ∀ {f a o r}, AC Try.prog f a o r → AC F.P f a o r := fun h => hP ▸ h
  refine Run.seq ?_
  refine Run.region hL hT [] (by cbv) ?_ ?_
  · exact hq0
  refine Run.seq ?_
  obtain ⟨⟨⟨r1v_1v_b, r1v_1v_i, r1v_1v_h⟩, r1v_2⟩, h_r1, h⟩ := bnd h
  obtain ⟨x2, h_x2, h⟩ := bnd h
  refine Run.region hL hT [(4, .call [true, false] [.v (.bx 88 [.im true (eu8_c a0v_b), .s (.int .i64 r1v_1v_i), .s (.int .i64 r1v_1v_h)]), .v (.jk)] [.v (.s (.int .i64 r1v_2))]), (5, .el [.s (.int .i64 x2)])] (by cbv) ?_ ?_
  · exact (hq (by rw [show ln (eInt_c a1) = lenI_Int a1 from ln_eq Int_c _]; exact (hC (spec_l1Below_ac h_r1))) (hq (get_le h_x2) (hq (get_lt (f := Int_c) h_x2) (hq (get_ge (f := Int_c) h_x2) hq0))))
  rw [show ln (eInt_c a1) = lenI_Int a1 from ln_eq Int_c _]
  refine Run.ret ?_
  cases h
  refine ⟨_, _, by cbv, ?_, ?_⟩
  · exact LLe.r
  · exact (ALe.v LLe.r ALe.nil)

set_option maxRecDepth 8000 in
theorem spec_l6DrawSchema_ac {a0v_b : List Int} {a0v_i : Int} {a0v_h : Int} {r : l1Cur × Schema} (h : spec_l6DrawSchema.f (l1Cur.mk a0v_b a0v_i a0v_h) = some r) : AC Try.prog 87 [.v (.bx 88 [.im true (rowsOf u8_c a0v_b), .s (.int .i64 a0v_i), .s (.int .i64 a0v_h)])] [.v (.bx 88 [.im true (rowsOf u8_c a0v_b), .s (.int .i64 r.1.i), .s (.int .i64 r.1.h)])] [.ag [.ow 3 (rowsOf Int_c r.2.Cols)]] := by
  unfold spec_l6DrawSchema.f at h
  let ar := Ls.ar; let cm := Ls.cm; let bo := Ls.bo; let sc := Ls.sc; let sa := Ls.sa; let sx := Ls.sx; let ss := Ls.ss; let sl := Ls.sl; let bs := Ls.bs; let sb := Ls.sb; let ln := Ls.ln; let sr := Ls.sr; let ap := Ls.ap; let up := Ls.up; let rp := Ls.rp; let fr := Ls.fr; let ge := Ls.ge; let le := Ls.le; let lt := Ls.lt; let nz := Ls.nz; let mm := Ls.mm; let ma := Ls.ma; let sm := Ls.sm; let fl := Ls.fl; let al := Ls.al; let ci := Ls.ci
  let eInt_c := rowsOf Int_c
  let eu8_c := rowsOf u8_c
  have hL : (⟨ar, cm, bo, sc, sa, sx, ss, sl, bs, sb, ln, sr, ap, up, rp, fr, ge, le, lt, nz, mm, ma, sm, fl, al, ci⟩ : Lf) = Ls := rfl
  show AC Try.prog 87 [.v (.bx 88 [.im true (eu8_c a0v_b), .s (.int .i64 a0v_i), .s (.int .i64 a0v_h)])] _ _
  refine AC.of_run2 tab_ok Try.func87 (by rfl) (by rfl) (by cbv) ⟨by decide, rfl⟩ fun F hP hA => ?_
  have hT : TabOk F.P tab := hP ▸ tab_ok
  have hM : F.P.follows .mixedOrders = true := hP ▸ mixed
  have hC : ∀ {f a o r}, AC Try.prog f a o r → AC F.P f a o r := fun h => hP ▸ h
  refine Run.seq ?_
  refine Run.region hL hT [] (by cbv) ?_ ?_
  · exact hq0
  refine Run.seq ?_
  refine Run.region hL hT [] (by cbv) ?_ ?_
  · exact (hq trivial hq0)
  refine Run.seq ?_
  refine Run.seq ?_
  refine Run.region hL hT [] (by cbv) ?_ ?_
  · exact hq0
  refine Run.block ?_
  refine Run.loop4 (fun (z10 : Int) (z11 : Int) (z12 : List Int) (z13 : Int) => ⟨22, 100000, [(0, .pt 0 0 0), (2, .pt 1 0 0), (3, .pt 2 0 0), (4, .t (.s (.int .i64 z13)))], [(0, .box 88 [.t (.im true (eu8_c a0v_b)), .t (.s (.int .i64 z10)), .t (.s (.int .i64 z11))]), (1, .box 26 [.t (.s (.slice none 0 0))]), (2, .box 26 [.rf 3]), (3, .row 0 3 1 (eInt_c z12))]⟩) (x0 := a0v_i) (x1 := a0v_h) (x2 := []) (x3 := 0) h ((Weak.nilB (l := []) hT 4098 0 13289 3 rfl (by cbv) (by cbv) (by cbv)).trans (Weak.of _ [(0, 0), (1, 1), (2, 4098), (3, 13289)] hA (by cbv) ?_)) (fun _ _ _ _ => rfl) ?_
  · repeat (first | exact hq0 | refine hq (by first | exact True.intro | rfl) ?_)
  · intro k z10 z11 z12 z13 h
    rw [spec_l6DrawSchema.l0] at h
    refine Run.seq ?_
    refine Run.seq ?_
    obtain ⟨⟨⟨r14v_1v_b, r14v_1v_i, r14v_1v_h⟩, r14v_2⟩, h_r14, h⟩ := bnd h
    refine Run.region hL hT [(2, .call [true, false] [.v (.bx 88 [.im true (eu8_c a0v_b), .s (.int .i64 r14v_1v_i), .s (.int .i64 r14v_1v_h)]), .v (.jk)] [.v (.s (.int .i64 r14v_2))])] (by cbv) ?_ ?_
    · exact (hq (hC (spec_l1Below_ac h_r14)) (hq trivial (hq trivial hq0)))
    refine Run.cond (by cbv) (hq0) (fun c15 => ?_) (fun c15 => ?_)
    · have h := if_t c15 h
      refine Run.skip ?_
      refine Run.seq ?_
      refine Run.block ?_
      obtain ⟨⟨⟨r16v_1v_b, r16v_1v_i, r16v_1v_h⟩, r16v_2⟩, h_r16, h⟩ := bnd h
      obtain ⟨l17, h_l17, h⟩ := bnd h
      obtain ⟨l18, h_l18, h⟩ := bnd h
      refine Run.draw hL hT hM [(3, .call [true, false] [.v (.bx 88 [.im true (eu8_c a0v_b), .s (.int .i64 r16v_1v_i), .s (.int .i64 r16v_1v_h)]), .v (.jk)] [.v (.s (.int .i64 r16v_2))])] (by cbv) (by cbv) (by cbv) (by cbv) (by cbv) ?_ ?_
      · exact (hq trivial (hq (hC (spec_l1Below_ac h_r16)) (hq trivial (hq (app_mb (P := Try.prog) (f := Int_c) RLe.r (some_le (f := Int_c) h_l17 (RLe.cons rfl LLe.r RLe.nil)) h_l18) (hq trivial hq0)))))
      refine Run.row (rows := (ap (eInt_c z12) ([[.s (.int .i64 (ar .add .i64 1 r16v_2))]]))) 104102 (eInt_c l18) (by cbv) (app_le (f := Int_c) RLe.r (some_le (f := Int_c) h_l17 (RLe.cons rfl LLe.r RLe.nil)) h_l18) ?_
      refine Run.region hL hT [] (by cbv) ?_ ?_
      · exact (hq trivial hq0)
      refine ⟨r16v_1v_i, r16v_1v_h, l18, (ar .add .i64 z13 1), h, Weak.of _ [(0, 0), (1, 1), (2, 2), (3, 104102)] hA (by cbv) ?_⟩
      repeat (first | exact hq0 | refine hq (by first | exact True.intro | rfl) ?_)
    · have h := if_f c15 h
      refine Run.exit ?_
      refine Run.seq ?_
      refine Run.region hL hT [] (by cbv) ?_ ?_
      · exact (hq trivial (hq trivial hq0))
      refine Run.ret ?_
      cases h
      refine ⟨_, _, by cbv, ?_, ?_⟩
      · exact LLe.r
      · exact (ALe.ag rfl LLe.r ALe.nil)

set_option maxRecDepth 8000 in
theorem spec_l6DrawBad_ac {a0v_b : List Int} {a0v_i : Int} {a0v_h : Int} {r : l1Cur × Schema} (h : spec_l6DrawBad.f (l1Cur.mk a0v_b a0v_i a0v_h) = some r) : AC Try.prog 52 [.v (.bx 88 [.im true (rowsOf u8_c a0v_b), .s (.int .i64 a0v_i), .s (.int .i64 a0v_h)])] [.v (.bx 88 [.im true (rowsOf u8_c a0v_b), .s (.int .i64 r.1.i), .s (.int .i64 r.1.h)])] [.ag [.ow 3 (rowsOf Int_c r.2.Cols)]] := by
  unfold spec_l6DrawBad.f at h
  let ar := Ls.ar; let cm := Ls.cm; let bo := Ls.bo; let sc := Ls.sc; let sa := Ls.sa; let sx := Ls.sx; let ss := Ls.ss; let sl := Ls.sl; let bs := Ls.bs; let sb := Ls.sb; let ln := Ls.ln; let sr := Ls.sr; let ap := Ls.ap; let up := Ls.up; let rp := Ls.rp; let fr := Ls.fr; let ge := Ls.ge; let le := Ls.le; let lt := Ls.lt; let nz := Ls.nz; let mm := Ls.mm; let ma := Ls.ma; let sm := Ls.sm; let fl := Ls.fl; let al := Ls.al; let ci := Ls.ci
  let eInt_c := rowsOf Int_c
  let eu8_c := rowsOf u8_c
  have hL : (⟨ar, cm, bo, sc, sa, sx, ss, sl, bs, sb, ln, sr, ap, up, rp, fr, ge, le, lt, nz, mm, ma, sm, fl, al, ci⟩ : Lf) = Ls := rfl
  show AC Try.prog 52 [.v (.bx 88 [.im true (eu8_c a0v_b), .s (.int .i64 a0v_i), .s (.int .i64 a0v_h)])] _ _
  refine AC.of_run2 tab_ok Try.func52 (by rfl) (by rfl) (by cbv) ⟨by decide, rfl⟩ fun F hP hA => ?_
  have hT : TabOk F.P tab := hP ▸ tab_ok
  have hM : F.P.follows .mixedOrders = true := hP ▸ mixed
  have hC : ∀ {f a o r}, AC Try.prog f a o r → AC F.P f a o r := fun h => hP ▸ h
  refine Run.seq ?_
  refine Run.region hL hT [] (by cbv) ?_ ?_
  · exact hq0
  refine Run.seq ?_
  obtain ⟨⟨⟨r1v_1v_b, r1v_1v_i, r1v_1v_h⟩, ⟨r1v_2v_Cols⟩⟩, h_r1, h⟩ := bnd h
  refine Run.region hL hT [(1, .call [true] [.v (.bx 88 [.im true (eu8_c a0v_b), .s (.int .i64 r1v_1v_i), .s (.int .i64 r1v_1v_h)])] [.ag [.ow 3 (eInt_c r1v_2v_Cols)]])] (by cbv) ?_ ?_
  · exact (hq (hC (spec_l6DrawSchema_ac h_r1)) (hq trivial hq0))
  refine Run.seq ?_
  refine Run.seq ?_
  obtain ⟨⟨⟨r2v_1v_b, r2v_1v_i, r2v_1v_h⟩, r2v_2⟩, h_r2, h⟩ := bnd h
  refine Run.region hL hT [(1, .call [true, false] [.v (.bx 88 [.im true (eu8_c a0v_b), .s (.int .i64 r2v_1v_i), .s (.int .i64 r2v_1v_h)]), .v (.jk)] [.v (.s (.int .i64 r2v_2))])] (by cbv) ?_ ?_
  · exact (hq (hC (spec_l1Below_ac h_r2)) hq0)
  refine Run.block ?_
  refine Run.seq ?_
  refine Run.region hL hT [] (by cbv) ?_ ?_
  · exact (hq trivial hq0)
  refine Run.cond (by cbv) (hq0) (fun c3 => ?_) (fun c3 => ?_)
  · have h := if_t c3 h
    obtain ⟨l4, h_l4, h⟩ := bnd h
    obtain ⟨l5, h_l5, h⟩ := bnd h
    refine Run.region hL hT [] (by cbv) ?_ ?_
    · exact (hq trivial (hq (app_mb (P := Try.prog) (f := Int_c) RLe.r (some_le (f := Int_c) h_l4 (RLe.cons rfl LLe.r (RLe.cons rfl LLe.r (RLe.cons rfl LLe.r RLe.nil)))) h_l5) (hq trivial hq0)))
    refine Run.row (rows := (ap (eInt_c r1v_2v_Cols) ([[.s (.int .i64 1)], [.s (.int .i64 1)], [.s (.int .i64 1)]]))) 16388 (eInt_c l5) (by cbv) (app_le (f := Int_c) RLe.r (some_le (f := Int_c) h_l4 (RLe.cons rfl LLe.r (RLe.cons rfl LLe.r (RLe.cons rfl LLe.r RLe.nil)))) h_l5) ?_
    refine Run.seq ?_
    refine Run.region hL hT [] (by cbv) ?_ ?_
    · exact (hq trivial (hq trivial hq0))
    refine Run.ret ?_
    cases h
    refine ⟨_, _, by cbv, ?_, ?_⟩
    · exact LLe.r
    · exact (ALe.ag rfl LLe.r ALe.nil)
  · have h := if_f c3 h
    refine Run.seq ?_
    refine Run.region hL hT [] (by cbv) ?_ ?_
    · exact (hq trivial hq0)
    refine Run.cond (by cbv) (hq0) (fun c6 => ?_) (fun c6 => ?_)
    · have h := if_t c6 h
      obtain ⟨l7, h_l7, h⟩ := bnd h
      obtain ⟨⟨⟨r8v_1v_b, r8v_1v_i, r8v_1v_h⟩, r8v_2⟩, h_r8, h⟩ := bnd h
      obtain ⟨x9, h_x9, h⟩ := bnd h
      obtain ⟨l10, h_l10, h⟩ := bnd h
      refine Run.draw hL hT hM [(4, .call [true, false] [.v (.bx 88 [.im true (eu8_c a0v_b), .s (.int .i64 r8v_1v_i), .s (.int .i64 r8v_1v_h)]), .v (.jk)] [.v (.s (.int .i64 r8v_2))])] (by cbv) (by cbv) (by cbv) (by cbv) (by cbv) ?_ ?_
      · exact (hq trivial (hq (hC (AC.args (spec_l1PickInt_ac h_r8) (ALe.v LLe.r (ALe.v (fr_lit rfl (some_le (f := Int_c) h_l7 (RLe.cons rfl LLe.r (RLe.cons rfl LLe.r (RLe.cons rfl LLe.r RLe.nil))))) ALe.nil)))) (hq (get_le h_x9) (hq (get_lt (f := Int_c) h_x9) (hq (get_le h_x9) (hq (get_lt (f := Int_c) h_x9) hq0))))))
      refine Run.row (rows := (up (eInt_c r1v_2v_Cols) 0 0 [.s (.int .i64 r8v_2)])) 4098 (eInt_c l10) (by cbv) (sto_le (f := Int_c) h_x9 h_l10 rfl LLe.r) ?_
      refine Run.row (rows := [[.s (.int .i64 0)], [.s (.int .i64 5)], [.s (.int .i64 (-1))]]) 20484 (eInt_c l7) (by cbv) (some_le (f := Int_c) h_l7 (RLe.cons rfl LLe.r (RLe.cons rfl LLe.r (RLe.cons rfl LLe.r RLe.nil)))) ?_
      refine Run.seq ?_
      refine Run.region hL hT [] (by cbv) ?_ ?_
      · exact (hq trivial (hq trivial hq0))
      refine Run.ret ?_
      cases h
      refine ⟨_, _, by cbv, ?_, ?_⟩
      · exact LLe.r
      · exact (ALe.ag rfl LLe.r ALe.nil)
    · have h := if_f c6 h
      refine Run.seq ?_
      refine Run.region hL hT [] (by cbv) ?_ ?_
      · exact (hq trivial hq0)
      refine Run.cond (by cbv) (hq0) (fun c11 => ?_) (fun c11 => ?_)
      · have h := if_t c11 h
        refine Run.region hL hT [] (by cbv) ?_ ?_
        · exact (hq trivial hq0)
        refine Run.seq ?_
        refine Run.region hL hT [] (by cbv) ?_ ?_
        · exact (hq trivial (hq trivial hq0))
        refine Run.ret ?_
        cases h
        refine ⟨_, _, by cbv, ?_, ?_⟩
        · exact LLe.r
        · exact (ALe.ag rfl (LLe.cons LLe.nilO LLe.nil) ALe.nil)
      · have h := if_f c11 h
        refine Run.skip ?_
        refine Run.seq ?_
        refine Run.region hL hT [] (by cbv) ?_ ?_
        · exact (hq trivial (hq trivial hq0))
        refine Run.ret ?_
        cases h
        refine ⟨_, _, by cbv, ?_, ?_⟩
        · exact LLe.r
        · exact (ALe.ag rfl LLe.r ALe.nil)

set_option maxRecDepth 8000 in
theorem spec_l1In_ac {a0 : Int} {a1 : Int} {a2 : Int} {r : Bool} (h : spec_l1In.f a0 a1 a2 = some r) : AC Try.prog 41 [.v (.s (.int .i64 a0)), .v (.s (.int .i64 a1)), .v (.s (.int .i64 a2))] [.v (.jk), .v (.jk), .v (.jk)] [.v (.s (.bool r))] := by
  unfold spec_l1In.f at h
  let ar := Ls.ar; let cm := Ls.cm; let bo := Ls.bo; let sc := Ls.sc; let sa := Ls.sa; let sx := Ls.sx; let ss := Ls.ss; let sl := Ls.sl; let bs := Ls.bs; let sb := Ls.sb; let ln := Ls.ln; let sr := Ls.sr; let ap := Ls.ap; let up := Ls.up; let rp := Ls.rp; let fr := Ls.fr; let ge := Ls.ge; let le := Ls.le; let lt := Ls.lt; let nz := Ls.nz; let mm := Ls.mm; let ma := Ls.ma; let sm := Ls.sm; let fl := Ls.fl; let al := Ls.al; let ci := Ls.ci
  have hL : (⟨ar, cm, bo, sc, sa, sx, ss, sl, bs, sb, ln, sr, ap, up, rp, fr, ge, le, lt, nz, mm, ma, sm, fl, al, ci⟩ : Lf) = Ls := rfl
  show AC Try.prog 41 [.v (.s (.int .i64 a0)), .v (.s (.int .i64 a1)), .v (.s (.int .i64 a2))] _ _
  refine AC.of_run2 tab_ok Try.func41 (by rfl) (by rfl) (by cbv) ⟨by decide, rfl⟩ fun F hP hA => ?_
  have hT : TabOk F.P tab := hP ▸ tab_ok
  have hM : F.P.follows .mixedOrders = true := hP ▸ mixed
  have hC : ∀ {f a o r}, AC Try.prog f a o r → AC F.P f a o r := fun h => hP ▸ h
  refine Run.seq ?_
  refine Run.region hL hT [] (by cbv) ?_ ?_
  · exact hq0
  refine Run.seq ?_
  refine Run.region hL hT [] (by cbv) ?_ ?_
  · exact (hq trivial (hq (fun _ => hq0) (hq (fun _ => hq0) (hq (fun g3 => (hq g3 (hq g3 (hq trivial hq0)))) (hq (fun q4 => (hq q4 hq0)) (hq (fun _ => hq0) hq0))))))
  refine Run.ret ?_
  cases h
  refine ⟨_, _, by cbv, ?_, ?_⟩
  · exact LLe.r
  · exact (ALe.v LLe.r ALe.nil)

set_option maxRecDepth 8000 in
theorem spec_SchemaOk_ac {a0v_Cols : List Int} {r : Bool} (h : spec_SchemaOk.f (Schema.mk a0v_Cols) = some r) : AC Try.prog 18 [.ag [.im false (rowsOf Int_c a0v_Cols)]] [.ag [.jk]] [.v (.s (.bool r))] := by
  unfold spec_SchemaOk.f at h
  let ar := Ls.ar; let cm := Ls.cm; let bo := Ls.bo; let sc := Ls.sc; let sa := Ls.sa; let sx := Ls.sx; let ss := Ls.ss; let sl := Ls.sl; let bs := Ls.bs; let sb := Ls.sb; let ln := Ls.ln; let sr := Ls.sr; let ap := Ls.ap; let up := Ls.up; let rp := Ls.rp; let fr := Ls.fr; let ge := Ls.ge; let le := Ls.le; let lt := Ls.lt; let nz := Ls.nz; let mm := Ls.mm; let ma := Ls.ma; let sm := Ls.sm; let fl := Ls.fl; let al := Ls.al; let ci := Ls.ci
  let eInt_c := rowsOf Int_c
  let lenI_Int := @lenI Int
  have hL : (⟨ar, cm, bo, sc, sa, sx, ss, sl, bs, sb, ln, sr, ap, up, rp, fr, ge, le, lt, nz, mm, ma, sm, fl, al, ci⟩ : Lf) = Ls := rfl
  show AC Try.prog 18 [.ag [.im false (eInt_c a0v_Cols)]] _ _
  refine AC.of_run2 tab_ok Try.func18 (by rfl) (by rfl) (by cbv) ⟨by decide, rfl⟩ fun F hP hA => ?_
  have hT : TabOk F.P tab := hP ▸ tab_ok
  have hM : F.P.follows .mixedOrders = true := hP ▸ mixed
  have hC : ∀ {f a o r}, AC Try.prog f a o r → AC F.P f a o r := fun h => hP ▸ h
  refine Run.seq ?_
  refine Run.region hL hT [] (by cbv) ?_ ?_
  · exact hq0
  obtain ⟨K2, h_K2, h⟩ := joinE h
  refine Run.join1 K2 (r := r) (fun (y1 : Unit) => ⟨22, 100000, [(1, .pt 1 0 0)], [(1, .box 26 [.t (.im false (eInt_c a0v_Cols))])]⟩) ?_ ?_
  · skip
    refine Run.seq ?_
    refine Run.region hL hT [] (by cbv) ?_ ?_
    · exact hq0
    refine Run.block ?_
    refine Run.loop1 (fun (z5 : Int) => ⟨22, 100000, [(1, .pt 1 0 0), (3, .t (.s (.int .i64 z5)))], [(1, .box 26 [.t (.im false (eInt_c a0v_Cols))])]⟩) (x0 := 0) h (Weak.of _ [(1, 0)] hA (by cbv) ?_) (fun _ => rfl) ?_
    · repeat (first | exact hq0 | refine hq (by first | exact True.intro | rfl) ?_)
    · intro k z5 h
      rw [spec_SchemaOk.l0] at h
      refine Run.seq ?_
      refine Run.seq ?_
      refine Run.region hL hT [] (by cbv) ?_ ?_
      · exact (hq trivial (hq trivial hq0))
      rw [show ln (eInt_c a0v_Cols) = lenI_Int a0v_Cols from ln_eq Int_c _]
      refine Run.cond (by cbv) (hq0) (fun c6 => ?_) (fun c6 => ?_)
      · have h := if_t c6 h
        refine Run.skip ?_
        refine Run.seq ?_
        refine Run.block ?_
        refine Run.seq ?_
        obtain ⟨x7, h_x7, h⟩ := bnd h
        obtain ⟨r8, h_r8, h⟩ := bnd h
        refine Run.region hL hT [(3, .el [.s (.int .i64 x7)]), (5, .call [false, false, false] [.v (.jk), .v (.jk), .v (.jk)] [.v (.s (.bool r8))])] (by cbv) ?_ ?_
        · exact (hq trivial (hq (get_le h_x7) (hq (get_lt (f := Int_c) h_x7) (hq (get_ge (f := Int_c) h_x7) (hq (hC (spec_l1In_ac h_r8)) hq0)))))
        refine Run.cond (by cbv) (hq0) (fun c9 => ?_) (fun c9 => ?_)
        · have h := if_t c9 h
          refine Run.seq ?_
          refine Run.region hL hT [] (by cbv) ?_ ?_
          · exact hq0
          refine Run.ret ?_
          cases h
          refine ⟨_, _, by cbv, ?_, ?_⟩
          · exact LLe.r
          · exact (ALe.v LLe.r ALe.nil)
        · have h := if_f c9 h
          refine Run.skip ?_
          refine Run.region hL hT [] (by cbv) ?_ ?_
          · exact (hq trivial hq0)
          refine ⟨(ar .add .i64 z5 1), h, Weak.of _ [(1, 1)] hA (by cbv) ?_⟩
          repeat (first | exact hq0 | refine hq (by first | exact True.intro | rfl) ?_)
      · have h := if_f c6 h
        refine Run.exit ?_
        refine ⟨(), h, Weak.of _ [(1, 1)] hA (by cbv) ?_⟩
        repeat (first | exact hq0 | refine hq (by first | exact True.intro | rfl) ?_)
  · intro y1 h
    rw [h_K2] at h
    refine Run.seq ?_
    obtain ⟨r10, h_r10, h⟩ := bnd h
    refine Run.region hL hT [(3, .call [false, false, false] [.v (.jk), .v (.jk), .v (.jk)] [.v (.s (.bool r10))])] (by cbv) ?_ ?_
    · exact (hq trivial (hq (by rw [show ln (eInt_c a0v_Cols) = lenI_Int a0v_Cols from ln_eq Int_c _]; exact (hC (spec_l1In_ac h_r10))) hq0))
    rw [show ln (eInt_c a0v_Cols) = lenI_Int a0v_Cols from ln_eq Int_c _]
    refine Run.ret ?_
    cases h
    refine ⟨_, _, by cbv, ?_, ?_⟩
    · exact LLe.r
    · exact (ALe.v LLe.r ALe.nil)

set_option maxRecDepth 8000 in
theorem spec_l7Schema_ac {a0v_Cols : List Int} {r : Schema} (h : spec_l7Schema.f (Schema.mk a0v_Cols) = some r) : AC Try.prog 78 [.ag [.im false (rowsOf Int_c a0v_Cols)]] [.ag [.jk]] [.ag [.ow 3 (rowsOf Int_c r.Cols)]] := by
  unfold spec_l7Schema.f at h
  let ar := Ls.ar; let cm := Ls.cm; let bo := Ls.bo; let sc := Ls.sc; let sa := Ls.sa; let sx := Ls.sx; let ss := Ls.ss; let sl := Ls.sl; let bs := Ls.bs; let sb := Ls.sb; let ln := Ls.ln; let sr := Ls.sr; let ap := Ls.ap; let up := Ls.up; let rp := Ls.rp; let fr := Ls.fr; let ge := Ls.ge; let le := Ls.le; let lt := Ls.lt; let nz := Ls.nz; let mm := Ls.mm; let ma := Ls.ma; let sm := Ls.sm; let fl := Ls.fl; let al := Ls.al; let ci := Ls.ci
  let eInt_c := rowsOf Int_c
  have hL : (⟨ar, cm, bo, sc, sa, sx, ss, sl, bs, sb, ln, sr, ap, up, rp, fr, ge, le, lt, nz, mm, ma, sm, fl, al, ci⟩ : Lf) = Ls := rfl
  show AC Try.prog 78 [.ag [.im false (eInt_c a0v_Cols)]] _ _
  refine AC.of_run2 tab_ok Try.func78 (by rfl) (by rfl) (by cbv) ⟨by decide, rfl⟩ fun F hP hA => ?_
  have hT : TabOk F.P tab := hP ▸ tab_ok
  have hM : F.P.follows .mixedOrders = true := hP ▸ mixed
  have hC : ∀ {f a o r}, AC Try.prog f a o r → AC F.P f a o r := fun h => hP ▸ h
  refine Run.seq ?_
  refine Run.region hL hT [] (by cbv) ?_ ?_
  · exact hq0
  refine Run.seq ?_
  obtain ⟨l1, h_l1, h⟩ := bnd h
  refine Run.region hL hT [] (by cbv) ?_ ?_
  · exact (hq trivial (hq (fl_row Int_c_f _) (hq (app_mb (P := Try.prog) (f := Int_c) RLe.r RLe.r h_l1) (hq trivial hq0))))
  refine Run.row (rows := (ap ([]) ((eInt_c a0v_Cols)))) 4099 (eInt_c l1) (by cbv) (app_le (f := Int_c) RLe.r RLe.r h_l1) ?_
  refine Run.ret ?_
  cases h
  refine ⟨_, _, by cbv, ?_, ?_⟩
  · exact LLe.r
  · exact (ALe.ag rfl LLe.r ALe.nil)

set_option maxRecDepth 8000 in
theorem spec_StoreNew_ac {a0v_Cols : List Int} {r : Store × Bool} (h : spec_StoreNew.f (Schema.mk a0v_Cols) = some r) : AC Try.prog 92 [.ag [.im false (rowsOf Int_c a0v_Cols)]] [.ag [.jk]] [.ag [.ow 3 (rowsOf Int_c r.1.Schema.Cols), .s (.int .i64 r.1.Version), .ow 72 (rowsOf RowS_o r.1.Tables)], .v (.s (.bool r.2))] := by
  unfold spec_StoreNew.f at h
  let ar := Ls.ar; let cm := Ls.cm; let bo := Ls.bo; let sc := Ls.sc; let sa := Ls.sa; let sx := Ls.sx; let ss := Ls.ss; let sl := Ls.sl; let bs := Ls.bs; let sb := Ls.sb; let ln := Ls.ln; let sr := Ls.sr; let ap := Ls.ap; let up := Ls.up; let rp := Ls.rp; let fr := Ls.fr; let ge := Ls.ge; let le := Ls.le; let lt := Ls.lt; let nz := Ls.nz; let mm := Ls.mm; let ma := Ls.ma; let sm := Ls.sm; let fl := Ls.fl; let al := Ls.al; let ci := Ls.ci
  let eInt_c := rowsOf Int_c
  let eRowS_o := rowsOf RowS_o
  let lenI_Int := @lenI Int
  have hL : (⟨ar, cm, bo, sc, sa, sx, ss, sl, bs, sb, ln, sr, ap, up, rp, fr, ge, le, lt, nz, mm, ma, sm, fl, al, ci⟩ : Lf) = Ls := rfl
  show AC Try.prog 92 [.ag [.im false (eInt_c a0v_Cols)]] _ _
  refine AC.of_run2 tab_ok Try.func92 (by rfl) (by rfl) (by cbv) ⟨by decide, rfl⟩ fun F hP hA => ?_
  have hT : TabOk F.P tab := hP ▸ tab_ok
  have hM : F.P.follows .mixedOrders = true := hP ▸ mixed
  have hC : ∀ {f a o r}, AC Try.prog f a o r → AC F.P f a o r := fun h => hP ▸ h
  refine Run.seq ?_
  refine Run.region hL hT [] (by cbv) ?_ ?_
  · exact hq0
  refine Run.seq ?_
  refine Run.seq ?_
  obtain ⟨r1, h_r1, h⟩ := bnd h
  refine Run.region hL hT [(1, .call [false] [.ag [.jk]] [.v (.s (.bool r1))])] (by cbv) ?_ ?_
  · exact (hq trivial (hq (hC (spec_SchemaOk_ac h_r1)) hq0))
  refine Run.cond (by cbv) (hq0) (fun c2 => ?_) (fun c2 => ?_)
  · have h := if_t c2 h
    refine Run.seq ?_
    refine Run.region hL hT [] (by cbv) ?_ ?_
    · exact (hq trivial hq0)
    refine Run.ret ?_
    cases h
    refine ⟨_, _, by cbv, ?_, ?_⟩
    · exact LLe.r
    · exact (ALe.ag rfl (LLe.cons LLe.nilO (LLe.c (LLe.cons LLe.nilO LLe.nil))) (ALe.v LLe.r ALe.nil))
  · have h := if_f c2 h
    refine Run.skip ?_
    refine Run.seq ?_
    obtain ⟨⟨r3v_Cols⟩, h_r3, h⟩ := bnd h
    obtain ⟨l4, h_l4, h⟩ := bnd h
    refine Run.draw hL hT hM [(1, .call [false] [.ag [.jk]] [.ag [.ow 3 (eInt_c r3v_Cols)]])] (by cbv) (by cbv) (by cbv) (by cbv) (by cbv) ?_ ?_
    · exact (hq trivial (hq (hC (spec_l7Schema_ac h_r3)) (hq trivial (hq trivial (hq (by rw [show ln (eInt_c a0v_Cols) = lenI_Int a0v_Cols from ln_eq Int_c _]; exact (mk_0 h_l4)) (hq (by rw [show ln (eInt_c a0v_Cols) = lenI_Int a0v_Cols from ln_eq Int_c _]; exact (mk_mm h_l4)) (hq trivial hq0)))))))
    rw [show ln (eInt_c a0v_Cols) = lenI_Int a0v_Cols from ln_eq Int_c _]
    refine Run.row (rows := (rp (lenI_Int a0v_Cols) [.s (.slice none 0 0)])) 8197 (eRowS_o l4) (by cbv) (mk_le (f := RowS_o) rfl (LLe.cons LLe.nilO LLe.nil) h_l4) ?_
    refine Run.ret ?_
    cases h
    refine ⟨_, _, by cbv, ?_, ?_⟩
    · exact LLe.r
    · exact (ALe.ag rfl LLe.r (ALe.v LLe.r ALe.nil))

set_option maxRecDepth 8000 in
theorem spec_l6DrawRow_ac {a0v_b : List Int} {a0v_i : Int} {a0v_h : Int} {a1 : Int} {r : l1Cur × Row} (h : spec_l6DrawRow.f (l1Cur.mk a0v_b a0v_i a0v_h) a1 = some r) : AC Try.prog 67 [.v (.bx 88 [.im true (rowsOf u8_c a0v_b), .s (.int .i64 a0v_i), .s (.int .i64 a0v_h)]), .v (.s (.int .i64 a1))] [.v (.bx 88 [.im true (rowsOf u8_c a0v_b), .s (.int .i64 r.1.i), .s (.int .i64 r.1.h)]), .v (.jk)] [.ag [.s (.int .i64 r.2.Id), .ow 3 (rowsOf Int_c r.2.Cells)]] := by
  unfold spec_l6DrawRow.f at h
  let ar := Ls.ar; let cm := Ls.cm; let bo := Ls.bo; let sc := Ls.sc; let sa := Ls.sa; let sx := Ls.sx; let ss := Ls.ss; let sl := Ls.sl; let bs := Ls.bs; let sb := Ls.sb; let ln := Ls.ln; let sr := Ls.sr; let ap := Ls.ap; let up := Ls.up; let rp := Ls.rp; let fr := Ls.fr; let ge := Ls.ge; let le := Ls.le; let lt := Ls.lt; let nz := Ls.nz; let mm := Ls.mm; let ma := Ls.ma; let sm := Ls.sm; let fl := Ls.fl; let al := Ls.al; let ci := Ls.ci
  let eInt_c := rowsOf Int_c
  let eu8_c := rowsOf u8_c
  have hL : (⟨ar, cm, bo, sc, sa, sx, ss, sl, bs, sb, ln, sr, ap, up, rp, fr, ge, le, lt, nz, mm, ma, sm, fl, al, ci⟩ : Lf) = Ls := rfl
  show AC Try.prog 67 [.v (.bx 88 [.im true (eu8_c a0v_b), .s (.int .i64 a0v_i), .s (.int .i64 a0v_h)]), .v (.s (.int .i64 a1))] _ _
  refine AC.of_run2 tab_ok Try.func67 (by rfl) (by rfl) (by cbv) ⟨by decide, rfl⟩ fun F hP hA => ?_
  have hT : TabOk F.P tab := hP ▸ tab_ok
  have hM : F.P.follows .mixedOrders = true := hP ▸ mixed
  have hC : ∀ {f a o r}, AC Try.prog f a o r → AC F.P f a o r := fun h => hP ▸ h
  refine Run.seq ?_
  refine Run.region hL hT [] (by cbv) ?_ ?_
  · exact hq0
  refine Run.seq ?_
  obtain ⟨⟨⟨r1v_1v_b, r1v_1v_i, r1v_1v_h⟩, r1v_2⟩, h_r1, h⟩ := bnd h
  refine Run.region hL hT [(1, .call [true, false] [.v (.bx 88 [.im true (eu8_c a0v_b), .s (.int .i64 r1v_1v_i), .s (.int .i64 r1v_1v_h)]), .v (.jk)] [.v (.s (.int .i64 r1v_2))])] (by cbv) ?_ ?_
  · exact (hq (hC (spec_l1Below_ac h_r1)) (hq trivial (hq trivial hq0)))
  refine Run.seq ?_
  refine Run.seq ?_
  refine Run.region hL hT [] (by cbv) ?_ ?_
  · exact hq0
  refine Run.block ?_
  refine Run.loop5 (fun (z17 : Int) (z18 : Int) (z19 : Int) (z20 : List Int) (z21 : Int) => ⟨24, 100000, [(0, .pt 0 0 0), (1, .t (.s (.int .i64 a1))), (4, .pt 1 0 0), (5, .pt 2 0 0), (6, .t (.s (.int .i64 z21)))], [(0, .box 88 [.t (.im true (eu8_c a0v_b)), .t (.s (.int .i64 z17)), .t (.s (.int .i64 z18))]), (1, .box 38 [.t (.s (.int .i64 0)), .t (.s (.slice none 0 0))]), (2, .box 38 [.t (.s (.int .i64 z19)), .rf 3]), (3, .row 0 3 1 (eInt_c z20))]⟩) (x0 := r1v_1v_i) (x1 := r1v_1v_h) (x2 := (ar .add .i64 1 r1v_2)) (x3 := []) (x4 := 0) h ((Weak.nilB (l := [.t (.s (.int .i64 (ar .add .i64 1 r1v_2)))]) hT 4101 1 13289 3 rfl (by cbv) (by cbv) (by cbv)).trans (Weak.of _ [(0, 0), (1, 1), (2, 4101), (3, 13289)] hA (by cbv) ?_)) (fun _ _ _ _ _ => rfl) ?_
  · repeat (first | exact hq0 | refine hq (by first | exact True.intro | rfl) ?_)
  · intro k z17 z18 z19 z20 z21 h
    rw [spec_l6DrawRow.l0] at h
    refine Run.seq ?_
    refine Run.seq ?_
    refine Run.region hL hT [] (by cbv) ?_ ?_
    · exact (hq trivial hq0)
    refine Run.cond (by cbv) (hq0) (fun c22 => ?_) (fun c22 => ?_)
    · have h := if_t c22 h
      refine Run.skip ?_
      refine Run.seq ?_
      refine Run.block ?_
      obtain ⟨⟨⟨r23v_1v_b, r23v_1v_i, r23v_1v_h⟩, r23v_2⟩, h_r23, h⟩ := bnd h
      obtain ⟨l24, h_l24, h⟩ := bnd h
      obtain ⟨l25, h_l25, h⟩ := bnd h
      refine Run.draw hL hT hM [(3, .call [true, false] [.v (.bx 88 [.im true (eu8_c a0v_b), .s (.int .i64 r23v_1v_i), .s (.int .i64 r23v_1v_h)]), .v (.jk)] [.v (.s (.int .i64 r23v_2))])] (by cbv) (by cbv) (by cbv) (by cbv) (by cbv) ?_ ?_
      · exact (hq trivial (hq (hC (spec_l1Below_ac h_r23)) (hq (app_mb (P := Try.prog) (f := Int_c) RLe.r (some_le (f := Int_c) h_l24 (RLe.cons rfl LLe.r RLe.nil)) h_l25) (hq trivial hq0))))
      refine Run.row (rows := (ap (eInt_c z20) ([[.s (.int .i64 r23v_2)]]))) 104101 (eInt_c l25) (by cbv) (app_le (f := Int_c) RLe.r (some_le (f := Int_c) h_l24 (RLe.cons rfl LLe.r RLe.nil)) h_l25) ?_
      refine Run.region hL hT [] (by cbv) ?_ ?_
      · exact (hq trivial hq0)
      refine ⟨r23v_1v_i, r23v_1v_h, z19, l25, (ar .add .i64 z21 1), h, Weak.of _ [(0, 0), (1, 1), (2, 2), (3, 104101)] hA (by cbv) ?_⟩
      repeat (first | exact hq0 | refine hq (by first | exact True.intro | rfl) ?_)
    · have h := if_f c22 h
      refine Run.exit ?_
      refine Run.seq ?_
      refine Run.region hL hT [] (by cbv) ?_ ?_
      · exact (hq trivial (hq trivial hq0))
      refine Run.ret ?_
      cases h
      refine ⟨_, _, by cbv, ?_, ?_⟩
      · exact LLe.r
      · exact (ALe.ag rfl LLe.r ALe.nil)

set_option maxRecDepth 8000 in
theorem spec_RowAt_ac {a0 : List Row} {a1 : Int} {r : Int} (h : spec_RowAt.f a0 a1 = some r) : AC Try.prog 82 [.v (.im false (rowsOf Row_i a0)), .v (.s (.int .i64 a1))] [.v (.jk), .v (.jk)] [.v (.s (.int .i64 r))] := by
  unfold spec_RowAt.f at h
  let ar := Ls.ar; let cm := Ls.cm; let bo := Ls.bo; let sc := Ls.sc; let sa := Ls.sa; let sx := Ls.sx; let ss := Ls.ss; let sl := Ls.sl; let bs := Ls.bs; let sb := Ls.sb; let ln := Ls.ln; let sr := Ls.sr; let ap := Ls.ap; let up := Ls.up; let rp := Ls.rp; let fr := Ls.fr; let ge := Ls.ge; let le := Ls.le; let lt := Ls.lt; let nz := Ls.nz; let mm := Ls.mm; let ma := Ls.ma; let sm := Ls.sm; let fl := Ls.fl; let al := Ls.al; let ci := Ls.ci
  let eInt_c := rowsOf Int_c
  let eRow_i := rowsOf Row_i
  let lenI_Row := @lenI Row
  have hL : (⟨ar, cm, bo, sc, sa, sx, ss, sl, bs, sb, ln, sr, ap, up, rp, fr, ge, le, lt, nz, mm, ma, sm, fl, al, ci⟩ : Lf) = Ls := rfl
  show AC Try.prog 82 [.v (.im false (eRow_i a0)), .v (.s (.int .i64 a1))] _ _
  refine AC.of_run2 tab_ok Try.func82 (by rfl) (by rfl) (by cbv) ⟨by decide, rfl⟩ fun F hP hA => ?_
  have hT : TabOk F.P tab := hP ▸ tab_ok
  have hM : F.P.follows .mixedOrders = true := hP ▸ mixed
  have hC : ∀ {f a o r}, AC Try.prog f a o r → AC F.P f a o r := fun h => hP ▸ h
  refine Run.seq ?_
  refine Run.region hL hT [] (by cbv) ?_ ?_
  · exact hq0
  refine Run.seq ?_
  refine Run.seq ?_
  refine Run.region hL hT [] (by cbv) ?_ ?_
  · exact hq0
  refine Run.block ?_
  refine Run.loop1 (fun (z4 : Int) => ⟨20, 100000, [(0, .t (.im false (eRow_i a0))), (1, .t (.s (.int .i64 a1))), (5, .t (.s (.int .i64 z4)))], []⟩) (x0 := 0) h (Weak.of _ [] hA (by cbv) ?_) (fun _ => rfl) ?_
  · repeat (first | exact hq0 | refine hq (by first | exact True.intro | rfl) ?_)
  · intro k z4 h
    rw [spec_RowAt.l0] at h
    refine Run.seq ?_
    refine Run.seq ?_
    refine Run.region hL hT [] (by cbv) ?_ ?_
    · exact (hq trivial hq0)
    rw [show ln (eRow_i a0) = lenI_Row a0 from ln_eq Row_i _]
    refine Run.cond (by cbv) (hq0) (fun c5 => ?_) (fun c5 => ?_)
    · have h := if_t c5 h
      refine Run.skip ?_
      refine Run.seq ?_
      refine Run.block ?_
      refine Run.seq ?_
      obtain ⟨⟨x6v_Id, x6v_Cells⟩, h_x6, h⟩ := bnd h
      refine Run.region hL hT [(2, .el [.s (.int .i64 x6v_Id), .im false (eInt_c x6v_Cells)])] (by cbv) ?_ ?_
      · exact (hq (get_le h_x6) (hq (get_lt (f := Row_i) h_x6) (hq (get_ge (f := Row_i) h_x6) (hq trivial hq0))))
      refine Run.cond (by cbv) (hq0) (fun c7 => ?_) (fun c7 => ?_)
      · have h := if_t c7 h
        refine Run.seq ?_
        refine Run.region hL hT [] (by cbv) ?_ ?_
        · exact hq0
        refine Run.ret ?_
        cases h
        refine ⟨_, _, by cbv, ?_, ?_⟩
        · exact LLe.r
        · exact (ALe.v LLe.r ALe.nil)
      · have h := if_f c7 h
        refine Run.skip ?_
        refine Run.region hL hT [] (by cbv) ?_ ?_
        · exact (hq trivial hq0)
        refine ⟨(ar .add .i64 z4 1), h, Weak.of _ [] hA (by cbv) ?_⟩
        repeat (first | exact hq0 | refine hq (by first | exact True.intro | rfl) ?_)
    · have h := if_f c5 h
      refine Run.exit ?_
      refine Run.seq ?_
      refine Run.region hL hT [] (by cbv) ?_ ?_
      · exact hq0
      refine Run.ret ?_
      cases h
      refine ⟨_, _, by cbv, ?_, ?_⟩
      · exact LLe.r
      · exact (ALe.v LLe.r ALe.nil)

set_option maxRecDepth 8000 in
theorem spec_l6Copy_ac {a0v_Id : Int} {a0v_Cells : List Int} {r : Row} (h : spec_l6Copy.f (Row.mk a0v_Id a0v_Cells) = some r) : AC Try.prog 89 [.ag [.s (.int .i64 a0v_Id), .im false (rowsOf Int_c a0v_Cells)]] [.ag [.jk, .jk]] [.ag [.s (.int .i64 r.Id), .ow 3 (rowsOf Int_c r.Cells)]] := by
  unfold spec_l6Copy.f at h
  let ar := Ls.ar; let cm := Ls.cm; let bo := Ls.bo; let sc := Ls.sc; let sa := Ls.sa; let sx := Ls.sx; let ss := Ls.ss; let sl := Ls.sl; let bs := Ls.bs; let sb := Ls.sb; let ln := Ls.ln; let sr := Ls.sr; let ap := Ls.ap; let up := Ls.up; let rp := Ls.rp; let fr := Ls.fr; let ge := Ls.ge; let le := Ls.le; let lt := Ls.lt; let nz := Ls.nz; let mm := Ls.mm; let ma := Ls.ma; let sm := Ls.sm; let fl := Ls.fl; let al := Ls.al; let ci := Ls.ci
  let eInt_c := rowsOf Int_c
  have hL : (⟨ar, cm, bo, sc, sa, sx, ss, sl, bs, sb, ln, sr, ap, up, rp, fr, ge, le, lt, nz, mm, ma, sm, fl, al, ci⟩ : Lf) = Ls := rfl
  show AC Try.prog 89 [.ag [.s (.int .i64 a0v_Id), .im false (eInt_c a0v_Cells)]] _ _
  refine AC.of_run2 tab_ok Try.func89 (by rfl) (by rfl) (by cbv) ⟨by decide, rfl⟩ fun F hP hA => ?_
  have hT : TabOk F.P tab := hP ▸ tab_ok
  have hM : F.P.follows .mixedOrders = true := hP ▸ mixed
  have hC : ∀ {f a o r}, AC Try.prog f a o r → AC F.P f a o r := fun h => hP ▸ h
  refine Run.seq ?_
  refine Run.region hL hT [] (by cbv) ?_ ?_
  · exact hq0
  refine Run.seq ?_
  obtain ⟨l1, h_l1, h⟩ := bnd h
  refine Run.draw hL hT hM [] (by cbv) (by cbv) (by cbv) (by cbv) (by cbv) ?_ ?_
  · exact (hq trivial (hq trivial (hq (fl_row Int_c_f _) (hq (app_mb (P := Try.prog) (f := Int_c) RLe.r RLe.r h_l1) (hq trivial hq0)))))
  refine Run.row (rows := (ap ([]) ((eInt_c a0v_Cells)))) 4101 (eInt_c l1) (by cbv) (app_le (f := Int_c) RLe.r RLe.r h_l1) ?_
  refine Run.ret ?_
  cases h
  refine ⟨_, _, by cbv, ?_, ?_⟩
  · exact LLe.r
  · exact (ALe.ag rfl LLe.r ALe.nil)

set_option maxRecDepth 8000 in
theorem spec_RowDrop_ac {a0 : List Row} {a1 : Int} {r : (List Row)} (h : spec_RowDrop.f a0 a1 = some r) : AC Try.prog 81 [.v (.im false (rowsOf Row_i a0)), .v (.s (.int .i64 a1))] [.v (.jk), .v (.jk)] [.v (.ow 38 (rowsOf Row_o r))] := by
  unfold spec_RowDrop.f at h
  let ar := Ls.ar; let cm := Ls.cm; let bo := Ls.bo; let sc := Ls.sc; let sa := Ls.sa; let sx := Ls.sx; let ss := Ls.ss; let sl := Ls.sl; let bs := Ls.bs; let sb := Ls.sb; let ln := Ls.ln; let sr := Ls.sr; let ap := Ls.ap; let up := Ls.up; let rp := Ls.rp; let fr := Ls.fr; let ge := Ls.ge; let le := Ls.le; let lt := Ls.lt; let nz := Ls.nz; let mm := Ls.mm; let ma := Ls.ma; let sm := Ls.sm; let fl := Ls.fl; let al := Ls.al; let ci := Ls.ci
  let eInt_c := rowsOf Int_c
  let eRow_i := rowsOf Row_i
  let eRow_o := rowsOf Row_o
  let lenI_Row := @lenI Row
  have hL : (⟨ar, cm, bo, sc, sa, sx, ss, sl, bs, sb, ln, sr, ap, up, rp, fr, ge, le, lt, nz, mm, ma, sm, fl, al, ci⟩ : Lf) = Ls := rfl
  show AC Try.prog 81 [.v (.im false (eRow_i a0)), .v (.s (.int .i64 a1))] _ _
  refine AC.of_run2 tab_ok Try.func81 (by rfl) (by rfl) (by cbv) ⟨by decide, rfl⟩ fun F hP hA => ?_
  have hT : TabOk F.P tab := hP ▸ tab_ok
  have hM : F.P.follows .mixedOrders = true := hP ▸ mixed
  have hC : ∀ {f a o r}, AC Try.prog f a o r → AC F.P f a o r := fun h => hP ▸ h
  refine Run.seq ?_
  refine Run.region hL hT [] (by cbv) ?_ ?_
  · exact hq0
  refine Run.seq ?_
  obtain ⟨r1, h_r1, h⟩ := bnd h
  refine Run.region hL hT [(2, .call [false, false] [.v (.jk), .v (.jk)] [.v (.s (.int .i64 r1))])] (by cbv) ?_ ?_
  · exact (hq (hC (spec_RowAt_ac h_r1)) hq0)
  refine Run.seq ?_
  refine Run.region hL hT [] (by cbv) ?_ ?_
  · exact hq0
  refine Run.seq ?_
  refine Run.seq ?_
  refine Run.region hL hT [] (by cbv) ?_ ?_
  · exact hq0
  refine Run.block ?_
  refine Run.loop2 (fun (z6 : List Row) (z7 : Int) => ⟨30, 100000, [(0, .t (.im false (eRow_i a0))), (5, .t (.s (.int .i64 r1))), (6, .rf 1), (7, .t (.s (.int .i64 z7)))], [(1, .row 0 38 2 (eRow_o z6))]⟩) (x0 := []) (x1 := 0) h (Weak.of _ [(1, 8192)] hA (by cbv) ?_) (fun _ _ => rfl) ?_
  · repeat (first | exact hq0 | refine hq (by first | exact True.intro | rfl) ?_)
  · intro k z6 z7 h
    rw [spec_RowDrop.l0] at h
    refine Run.seq ?_
    refine Run.seq ?_
    refine Run.region hL hT [] (by cbv) ?_ ?_
    · exact (hq trivial hq0)
    rw [show ln (eRow_i a0) = lenI_Row a0 from ln_eq Row_i _]
    refine Run.cond (by cbv) (hq0) (fun c8 => ?_) (fun c8 => ?_)
    · have h := if_t c8 h
      refine Run.skip ?_
      refine Run.seq ?_
      refine Run.block ?_
      refine Run.seq ?_
      refine Run.region hL hT [] (by cbv) ?_ ?_
      · exact (hq trivial hq0)
      refine Run.cond (by cbv) (hq0) (fun c9 => ?_) (fun c9 => ?_)
      · have h := if_t c9 h
        obtain ⟨⟨x10v_Id, x10v_Cells⟩, h_x10, h⟩ := bnd h
        obtain ⟨⟨r11v_Id, r11v_Cells⟩, h_r11, h⟩ := bnd h
        obtain ⟨l12, h_l12, h⟩ := bnd h
        obtain ⟨l13, h_l13, h⟩ := bnd h
        refine Run.region hL hT [(3, .el [.s (.int .i64 x10v_Id), .im false (eInt_c x10v_Cells)]), (5, .call [false] [.ag [.jk, .jk]] [.ag [.s (.int .i64 r11v_Id), .ow 3 (eInt_c r11v_Cells)]])] (by cbv) ?_ ?_
        · exact (hq (get_le h_x10) (hq (get_lt (f := Row_i) h_x10) (hq (get_ge (f := Row_i) h_x10) (hq (hC (spec_l6Copy_ac h_r11)) (hq (app_mb (P := Try.prog) (f := Row_o) RLe.r (some_le (f := Row_o) h_l12 (RLe.cons rfl LLe.r RLe.nil)) h_l13) hq0)))))
        refine Run.row (rows := (ap (eRow_o z6) ([[.s (.int .i64 r11v_Id), .ow 3 (eInt_c r11v_Cells)]]))) 108199 (eRow_o l13) (by cbv) (app_le (f := Row_o) RLe.r (some_le (f := Row_o) h_l12 (RLe.cons rfl LLe.r RLe.nil)) h_l13) ?_
        refine Run.region hL hT [] (by cbv) ?_ ?_
        · exact (hq trivial hq0)
        refine ⟨l13, (ar .add .i64 z7 1), h, Weak.of _ [(1, 108199)] hA (by cbv) ?_⟩
        repeat (first | exact hq0 | refine hq (by first | exact True.intro | rfl) ?_)
      · have h := if_f c9 h
        refine Run.skip ?_
        refine Run.region hL hT [] (by cbv) ?_ ?_
        · exact (hq trivial hq0)
        refine ⟨z6, (ar .add .i64 z7 1), h, Weak.of _ [(1, 1)] hA (by cbv) ?_⟩
        repeat (first | exact hq0 | refine hq (by first | exact True.intro | rfl) ?_)
    · have h := if_f c8 h
      refine Run.exit ?_
      refine Run.seq ?_
      refine Run.region hL hT [] (by cbv) ?_ ?_
      · exact hq0
      refine Run.ret ?_
      cases h
      refine ⟨_, _, by cbv, ?_, ?_⟩
      · exact LLe.r
      · exact (ALe.v LLe.r ALe.nil)

set_option maxRecDepth 8000 in
theorem spec_RowPut_ac {a0 : List Row} {a1v_Id : Int} {a1v_Cells : List Int} {r : (List Row)} (h : spec_RowPut.f a0 (Row.mk a1v_Id a1v_Cells) = some r) : AC Try.prog 83 [.v (.im false (rowsOf Row_i a0)), .ag [.s (.int .i64 a1v_Id), .im false (rowsOf Int_c a1v_Cells)]] [.v (.jk), .ag [.jk, .jk]] [.v (.ow 38 (rowsOf Row_o r))] := by
  unfold spec_RowPut.f at h
  let ar := Ls.ar; let cm := Ls.cm; let bo := Ls.bo; let sc := Ls.sc; let sa := Ls.sa; let sx := Ls.sx; let ss := Ls.ss; let sl := Ls.sl; let bs := Ls.bs; let sb := Ls.sb; let ln := Ls.ln; let sr := Ls.sr; let ap := Ls.ap; let up := Ls.up; let rp := Ls.rp; let fr := Ls.fr; let ge := Ls.ge; let le := Ls.le; let lt := Ls.lt; let nz := Ls.nz; let mm := Ls.mm; let ma := Ls.ma; let sm := Ls.sm; let fl := Ls.fl; let al := Ls.al; let ci := Ls.ci
  let eInt_c := rowsOf Int_c
  let eRow_i := rowsOf Row_i
  let eRow_o := rowsOf Row_o
  let lenI_Row := @lenI Row
  have hL : (⟨ar, cm, bo, sc, sa, sx, ss, sl, bs, sb, ln, sr, ap, up, rp, fr, ge, le, lt, nz, mm, ma, sm, fl, al, ci⟩ : Lf) = Ls := rfl
  show AC Try.prog 83 [.v (.im false (eRow_i a0)), .ag [.s (.int .i64 a1v_Id), .im false (eInt_c a1v_Cells)]] _ _
  refine AC.of_run2 tab_ok Try.func83 (by rfl) (by rfl) (by cbv) ⟨by decide, rfl⟩ fun F hP hA => ?_
  have hT : TabOk F.P tab := hP ▸ tab_ok
  have hM : F.P.follows .mixedOrders = true := hP ▸ mixed
  have hC : ∀ {f a o r}, AC Try.prog f a o r → AC F.P f a o r := fun h => hP ▸ h
  refine Run.seq ?_
  refine Run.region hL hT [] (by cbv) ?_ ?_
  · exact hq0
  refine Run.seq ?_
  obtain ⟨r1, h_r1, h⟩ := bnd h
  refine Run.region hL hT [(3, .call [false, false] [.v (.jk), .v (.jk)] [.v (.ow 38 (eRow_o r1))])] (by cbv) ?_ ?_
  · exact (hq trivial (hq (hC (spec_RowDrop_ac h_r1)) hq0))
  refine Run.seq ?_
  refine Run.region hL hT [] (by cbv) ?_ ?_
  · exact hq0
  rw [show ln (eRow_o r1) = lenI_Row r1 from ln_eq Row_o _]
  obtain ⟨K3, h_K3, h⟩ := joinE h
  refine Run.join1 K3 (r := r) (fun (y2 : Int) => ⟨55, 100000, [(3, .pt 1 0 0), (5, .rf 2), (6, .t (.s (.int .i64 y2)))], [(1, .box 38 [.t (.s (.int .i64 a1v_Id)), .t (.im false (eInt_c a1v_Cells))]), (2, .row 0 38 2 (eRow_o r1))]⟩) ?_ ?_
  · skip
    refine Run.seq ?_
    obtain ⟨r4, h_r4, h⟩ := bnd h
    refine Run.region hL hT [(3, .call [false, false] [.v (.jk), .v (.jk)] [.v (.s (.int .i64 r4))])] (by cbv) ?_ ?_
    · exact (hq trivial (hq (hC (spec_RowAt_ac h_r4)) (hq trivial hq0)))
    refine Run.cond (by cbv) (hq0) (fun c5 => ?_) (fun c5 => ?_)
    · have h := if_t c5 h
      obtain ⟨r6, h_r6, h⟩ := bnd h
      refine Run.region hL hT [(3, .call [false, false] [.v (.jk), .v (.jk)] [.v (.s (.int .i64 r6))])] (by cbv) ?_ ?_
      · exact (hq trivial (hq (hC (spec_RowAt_ac h_r6)) hq0))
      refine ⟨r6, h, Weak.of _ [(1, 0), (2, 4099)] hA (by cbv) ?_⟩
      repeat (first | exact hq0 | refine hq (by first | exact True.intro | rfl) ?_)
    · have h := if_f c5 h
      refine Run.seq ?_
      refine Run.region hL hT [] (by cbv) ?_ ?_
      · exact (hq trivial hq0)
      rw [show ln (eRow_o r1) = lenI_Row r1 from ln_eq Row_o _]
      refine Run.block ?_
      refine Run.loop2 (fun (z12 : Int) (z13 : Int) => ⟨55, 100000, [(3, .pt 1 0 0), (5, .rf 2), (6, .t (.s (.int .i64 z12))), (7, .t (.s (.int .i64 z13)))], [(1, .box 38 [.t (.s (.int .i64 a1v_Id)), .t (.im false (eInt_c a1v_Cells))]), (2, .row 0 38 2 (eRow_o r1))]⟩) (x0 := (lenI_Row r1)) (x1 := (ar .sub .i64 (lenI_Row r1) 1)) h (Weak.of _ [(1, 0), (2, 4099)] hA (by cbv) ?_) (fun _ _ => rfl) ?_
      · repeat (first | exact hq0 | refine hq (by first | exact True.intro | rfl) ?_)
      · intro k z12 z13 h
        rw [spec_RowPut.l0] at h
        refine Run.seq ?_
        refine Run.seq ?_
        refine Run.region hL hT [] (by cbv) ?_ ?_
        · exact (hq trivial hq0)
        refine Run.cond (by cbv) (hq0) (fun c14 => ?_) (fun c14 => ?_)
        · have h := if_t c14 h
          refine Run.skip ?_
          refine Run.seq ?_
          refine Run.block ?_
          refine Run.seq ?_
          obtain ⟨⟨x15v_Id, x15v_Cells⟩, h_x15, h⟩ := bnd h
          refine Run.draw hL hT hM [(4, .el [.s (.int .i64 x15v_Id), .ow 3 (eInt_c x15v_Cells)])] (by cbv) (by cbv) (by cbv) (by cbv) (by cbv) ?_ ?_
          · exact (hq (get_le h_x15) (hq (get_lt (f := Row_o) h_x15) (hq (get_le h_x15) (hq (get_lt (f := Row_o) h_x15) (hq (get_ge (f := Row_o) h_x15) (hq trivial (hq trivial hq0)))))))
          refine Run.cond (by cbv) (hq0) (fun c16 => ?_) (fun c16 => ?_)
          · have h := if_t c16 h
            refine Run.region hL hT [] (by cbv) ?_ ?_
            · exact hq0
            refine Run.region hL hT [] (by cbv) ?_ ?_
            · exact (hq trivial hq0)
            refine ⟨z13, (ar .sub .i64 z13 1), h, Weak.of _ [(1, 1), (2, 2)] hA (by cbv) ?_⟩
            repeat (first | exact hq0 | refine hq (by first | exact True.intro | rfl) ?_)
          · have h := if_f c16 h
            refine Run.skip ?_
            refine Run.region hL hT [] (by cbv) ?_ ?_
            · exact (hq trivial hq0)
            refine ⟨z12, (ar .sub .i64 z13 1), h, Weak.of _ [(1, 1), (2, 2)] hA (by cbv) ?_⟩
            repeat (first | exact hq0 | refine hq (by first | exact True.intro | rfl) ?_)
        · have h := if_f c14 h
          refine Run.exit ?_
          refine ⟨z12, h, Weak.of _ [(1, 1), (2, 2)] hA (by cbv) ?_⟩
          repeat (first | exact hq0 | refine hq (by first | exact True.intro | rfl) ?_)
  · intro y2 h
    rw [h_K3] at h
    refine Run.seq ?_
    obtain ⟨l17, h_l17, h⟩ := bnd h
    obtain ⟨l18, h_l18, h⟩ := bnd h
    refine Run.region hL hT [] (by cbv) ?_ ?_
    · exact (hq (cut_0 h_l17) (hq (cut_1 h_l17) (hq (cut_2 (f := Row_o) h_l17) (hq (cut_2 (f := Row_o) h_l17) (hq (app_mb (P := Try.prog) (f := Row_o) RLe.r (mv_le Row_o h_l17) h_l18) hq0)))))
    refine Run.row (rows := (ap ([]) ((sr (eRow_o r1) 0 y2)))) 100004 (eRow_o l18) (by cbv) (app_le (f := Row_o) RLe.r (mv_le Row_o h_l17) h_l18) ?_
    refine Run.seq ?_
    obtain ⟨⟨r19v_Id, r19v_Cells⟩, h_r19, h⟩ := bnd h
    obtain ⟨l20, h_l20, h⟩ := bnd h
    obtain ⟨l21, h_l21, h⟩ := bnd h
    refine Run.region hL hT [(2, .call [false] [.ag [.jk, .jk]] [.ag [.s (.int .i64 r19v_Id), .ow 3 (eInt_c r19v_Cells)]])] (by cbv) ?_ ?_
    · exact (hq trivial (hq (hC (spec_l6Copy_ac h_r19)) (hq (app_mb (P := Try.prog) (f := Row_o) RLe.r (some_le (f := Row_o) h_l20 (RLe.cons rfl LLe.r RLe.nil)) h_l21) hq0)))
    refine Run.row (rows := (ap (eRow_o l18) ([[.s (.int .i64 r19v_Id), .ow 3 (eInt_c r19v_Cells)]]))) 104100 (eRow_o l21) (by cbv) (app_le (f := Row_o) RLe.r (some_le (f := Row_o) h_l20 (RLe.cons rfl LLe.r RLe.nil)) h_l21) ?_
    refine Run.seq ?_
    obtain ⟨l22, h_l22, h⟩ := bnd h
    obtain ⟨l23, h_l23, h⟩ := bnd h
    refine Run.region hL hT [] (by cbv) ?_ ?_
    · exact (hq (cut_0 h_l22) (hq (jr_1 Row_o h_l17 h_l18 h_l22) (hq (Int.le_refl _) (hq (Int.le_refl _) (hq (app_mb (P := Try.prog) (f := Row_o) RLe.r (jr_sle Row_o h_l17 h_l18 h_l22) h_l23) hq0)))))
    refine Run.row (rows := (ap (eRow_o l21) ((sr (ap (ap (sr (eRow_o r1) 0 0) (rp (ar .sub .i64 y2 0) [.jk, .jk])) (sr (eRow_o r1) y2 (ln (eRow_o r1)))) y2 (ln (ap (ap (sr (eRow_o r1) 0 0) (rp (ar .sub .i64 y2 0) [.jk, .jk])) (sr (eRow_o r1) y2 (ln (eRow_o r1))))))))) 108196 (eRow_o l23) (by cbv) (app_le (f := Row_o) RLe.r (jr_sle Row_o h_l17 h_l18 h_l22) h_l23) ?_
    refine Run.ret ?_
    cases h
    refine ⟨_, _, by cbv, ?_, ?_⟩
    · exact LLe.r
    · exact (ALe.v LLe.r ALe.nil)

set_option maxRecDepth 8000 in
theorem spec_l6DrawRows_ac {a0v_b : List Int} {a0v_i : Int} {a0v_h : Int} {a1 : Int} {r : l1Cur × (List Row)} (h : spec_l6DrawRows.f (l1Cur.mk a0v_b a0v_i a0v_h) a1 = some r) : AC Try.prog 93 [.v (.bx 88 [.im true (rowsOf u8_c a0v_b), .s (.int .i64 a0v_i), .s (.int .i64 a0v_h)]), .v (.s (.int .i64 a1))] [.v (.bx 88 [.im true (rowsOf u8_c a0v_b), .s (.int .i64 r.1.i), .s (.int .i64 r.1.h)]), .v (.jk)] [.v (.ow 38 (rowsOf Row_o r.2))] := by
  unfold spec_l6DrawRows.f at h
  let ar := Ls.ar; let cm := Ls.cm; let bo := Ls.bo; let sc := Ls.sc; let sa := Ls.sa; let sx := Ls.sx; let ss := Ls.ss; let sl := Ls.sl; let bs := Ls.bs; let sb := Ls.sb; let ln := Ls.ln; let sr := Ls.sr; let ap := Ls.ap; let up := Ls.up; let rp := Ls.rp; let fr := Ls.fr; let ge := Ls.ge; let le := Ls.le; let lt := Ls.lt; let nz := Ls.nz; let mm := Ls.mm; let ma := Ls.ma; let sm := Ls.sm; let fl := Ls.fl; let al := Ls.al; let ci := Ls.ci
  let eInt_c := rowsOf Int_c
  let eRow_o := rowsOf Row_o
  let eu8_c := rowsOf u8_c
  have hL : (⟨ar, cm, bo, sc, sa, sx, ss, sl, bs, sb, ln, sr, ap, up, rp, fr, ge, le, lt, nz, mm, ma, sm, fl, al, ci⟩ : Lf) = Ls := rfl
  show AC Try.prog 93 [.v (.bx 88 [.im true (eu8_c a0v_b), .s (.int .i64 a0v_i), .s (.int .i64 a0v_h)]), .v (.s (.int .i64 a1))] _ _
  refine AC.of_run2 tab_ok Try.func93 (by rfl) (by rfl) (by cbv) ⟨by decide, rfl⟩ fun F hP hA => ?_
  have hT : TabOk F.P tab := hP ▸ tab_ok
  have hM : F.P.follows .mixedOrders = true := hP ▸ mixed
  have hC : ∀ {f a o r}, AC Try.prog f a o r → AC F.P f a o r := fun h => hP ▸ h
  refine Run.seq ?_
  refine Run.region hL hT [] (by cbv) ?_ ?_
  · exact hq0
  refine Run.seq ?_
  refine Run.region hL hT [] (by cbv) ?_ ?_
  · exact hq0
  refine Run.seq ?_
  refine Run.seq ?_
  refine Run.region hL hT [] (by cbv) ?_ ?_
  · exact hq0
  refine Run.block ?_
  refine Run.loop4 (fun (z7 : Int) (z8 : Int) (z9 : List Row) (z10 : Int) => ⟨20, 100000, [(0, .pt 0 0 0), (1, .t (.s (.int .i64 a1))), (5, .rf 1), (6, .t (.s (.int .i64 z10)))], [(0, .box 88 [.t (.im true (eu8_c a0v_b)), .t (.s (.int .i64 z7)), .t (.s (.int .i64 z8))]), (1, .row 0 38 2 (eRow_o z9))]⟩) (x0 := a0v_i) (x1 := a0v_h) (x2 := []) (x3 := 0) h (Weak.of _ [(0, 0), (1, 4097)] hA (by cbv) ?_) (fun _ _ _ _ => rfl) ?_
  · repeat (first | exact hq0 | refine hq (by first | exact True.intro | rfl) ?_)
  · intro k z7 z8 z9 z10 h
    rw [spec_l6DrawRows.l0] at h
    refine Run.seq ?_
    refine Run.seq ?_
    obtain ⟨⟨⟨r11v_1v_b, r11v_1v_i, r11v_1v_h⟩, r11v_2⟩, h_r11, h⟩ := bnd h
    refine Run.region hL hT [(2, .call [true, false] [.v (.bx 88 [.im true (eu8_c a0v_b), .s (.int .i64 r11v_1v_i), .s (.int .i64 r11v_1v_h)]), .v (.jk)] [.v (.s (.int .i64 r11v_2))])] (by cbv) ?_ ?_
    · exact (hq (hC (spec_l1Below_ac h_r11)) (hq trivial hq0))
    refine Run.cond (by cbv) (hq0) (fun c12 => ?_) (fun c12 => ?_)
    · have h := if_t c12 h
      refine Run.skip ?_
      refine Run.seq ?_
      refine Run.block ?_
      obtain ⟨⟨⟨r13v_1v_b, r13v_1v_i, r13v_1v_h⟩, ⟨r13v_2v_Id, r13v_2v_Cells⟩⟩, h_r13, h⟩ := bnd h
      obtain ⟨r14, h_r14, h⟩ := bnd h
      refine Run.region hL hT [(3, .call [true, false] [.v (.bx 88 [.im true (eu8_c a0v_b), .s (.int .i64 r13v_1v_i), .s (.int .i64 r13v_1v_h)]), .v (.jk)] [.ag [.s (.int .i64 r13v_2v_Id), .ow 3 (eInt_c r13v_2v_Cells)]]), (4, .call [false, false] [.v (.jk), .ag [.jk, .jk]] [.v (.ow 38 (eRow_o r14))])] (by cbv) ?_ ?_
      · exact (hq (hC (spec_l6DrawRow_ac h_r13)) (hq (hC (AC.args (spec_RowPut_ac h_r14) (ALe.v (LLe.im (RLe.eq (fr_row Row_o_z _))) (ALe.ag rfl (LLe.c (LLe.cons (LLe.im (RLe.eq (fr_row Int_c_z _))) LLe.nil)) ALe.nil)))) hq0))
      refine Run.region hL hT [] (by cbv) ?_ ?_
      · exact (hq trivial hq0)
      refine ⟨r13v_1v_i, r13v_1v_h, r14, (ar .add .i64 z10 1), h, Weak.of _ [(0, 0), (1, 104100)] hA (by cbv) ?_⟩
      repeat (first | exact hq0 | refine hq (by first | exact True.intro | rfl) ?_)
    · have h := if_f c12 h
      refine Run.exit ?_
      refine Run.seq ?_
      refine Run.region hL hT [] (by cbv) ?_ ?_
      · exact hq0
      refine Run.ret ?_
      cases h
      refine ⟨_, _, by cbv, ?_, ?_⟩
      · exact LLe.r
      · exact (ALe.v LLe.r ALe.nil)

set_option maxRecDepth 8000 in
theorem spec_l7DrawRight_ac {a0v_b : List Int} {a0v_i : Int} {a0v_h : Int} {r : l1Cur × Store} (h : spec_l7DrawRight.f (l1Cur.mk a0v_b a0v_i a0v_h) = some r) : AC Try.prog 64 [.v (.bx 88 [.im true (rowsOf u8_c a0v_b), .s (.int .i64 a0v_i), .s (.int .i64 a0v_h)])] [.v (.bx 88 [.im true (rowsOf u8_c a0v_b), .s (.int .i64 r.1.i), .s (.int .i64 r.1.h)])] [.ag [.ow 3 (rowsOf Int_c r.2.Schema.Cols), .s (.int .i64 r.2.Version), .ow 72 (rowsOf RowS_o r.2.Tables)]] := by
  unfold spec_l7DrawRight.f at h
  let ar := Ls.ar; let cm := Ls.cm; let bo := Ls.bo; let sc := Ls.sc; let sa := Ls.sa; let sx := Ls.sx; let ss := Ls.ss; let sl := Ls.sl; let bs := Ls.bs; let sb := Ls.sb; let ln := Ls.ln; let sr := Ls.sr; let ap := Ls.ap; let up := Ls.up; let rp := Ls.rp; let fr := Ls.fr; let ge := Ls.ge; let le := Ls.le; let lt := Ls.lt; let nz := Ls.nz; let mm := Ls.mm; let ma := Ls.ma; let sm := Ls.sm; let fl := Ls.fl; let al := Ls.al; let ci := Ls.ci
  let eInt_c := rowsOf Int_c
  let eRowS_o := rowsOf RowS_o
  let eRow_o := rowsOf Row_o
  let eu8_c := rowsOf u8_c
  let lenI_RowS := @lenI (List Row)
  have hL : (⟨ar, cm, bo, sc, sa, sx, ss, sl, bs, sb, ln, sr, ap, up, rp, fr, ge, le, lt, nz, mm, ma, sm, fl, al, ci⟩ : Lf) = Ls := rfl
  show AC Try.prog 64 [.v (.bx 88 [.im true (eu8_c a0v_b), .s (.int .i64 a0v_i), .s (.int .i64 a0v_h)])] _ _
  refine AC.of_run2 tab_ok Try.func64 (by rfl) (by rfl) (by cbv) ⟨by decide, rfl⟩ fun F hP hA => ?_
  have hT : TabOk F.P tab := hP ▸ tab_ok
  have hM : F.P.follows .mixedOrders = true := hP ▸ mixed
  have hC : ∀ {f a o r}, AC Try.prog f a o r → AC F.P f a o r := fun h => hP ▸ h
  refine Run.seq ?_
  refine Run.region hL hT [] (by cbv) ?_ ?_
  · exact hq0
  refine Run.seq ?_
  obtain ⟨⟨⟨r1v_1v_b, r1v_1v_i, r1v_1v_h⟩, ⟨r1v_2v_Cols⟩⟩, h_r1, h⟩ := bnd h
  obtain ⟨⟨⟨⟨r2v_1v_Schemav_Cols⟩, r2v_1v_Version, r2v_1v_Tables⟩, r2v_2⟩, h_r2, h⟩ := bnd h
  refine Run.region hL hT [(1, .call [true] [.v (.bx 88 [.im true (eu8_c a0v_b), .s (.int .i64 r1v_1v_i), .s (.int .i64 r1v_1v_h)])] [.ag [.ow 3 (eInt_c r1v_2v_Cols)]]), (2, .call [false] [.ag [.jk]] [.ag [.ow 3 (eInt_c r2v_1v_Schemav_Cols), .s (.int .i64 r2v_1v_Version), .ow 72 (eRowS_o r2v_1v_Tables)], .v (.s (.bool r2v_2))])] (by cbv) ?_ ?_
  · exact (hq (hC (spec_l6DrawSchema_ac h_r1)) (hq (hC (AC.args (spec_StoreNew_ac h_r2) (ALe.ag rfl (LLe.cons (LLe.im (RLe.eq (fr_row Int_c_z _))) LLe.nil) ALe.nil))) (hq trivial hq0)))
  obtain ⟨K6, h_K6, h⟩ := joinE h
  refine Run.join3 K6 (r := r) (fun (y3 : Int) (y4 : Int) (y5 : List (List Row)) => ⟨35, 100000, [(0, .pt 0 0 0), (2, .pt 1 0 0), (3, .pt 2 0 0)], [(0, .box 88 [.t (.im true (eu8_c a0v_b)), .t (.s (.int .i64 y3)), .t (.s (.int .i64 y4))]), (1, .box 29 [.t (.s (.slice none 0 0)), .t (.s (.int .i64 0)), .t (.s (.slice none 0 0))]), (2, .box 29 [.rf 3, .t (.s (.int .i64 r2v_1v_Version)), .rf 4]), (3, .row 0 3 1 (eInt_c r2v_1v_Schemav_Cols)), (4, .row 0 72 1 (eRowS_o y5))]⟩) ?_ ?_
  · skip
    refine Run.seq ?_
    refine Run.region hL hT [] (by cbv) ?_ ?_
    · exact hq0
    refine Run.block ?_
    refine Run.loop4 (fun (z15 : Int) (z16 : Int) (z17 : List (List Row)) (z18 : Int) => ⟨35, 100000, [(0, .pt 0 0 0), (2, .pt 1 0 0), (3, .pt 2 0 0), (5, .t (.s (.int .i64 z18)))], [(0, .box 88 [.t (.im true (eu8_c a0v_b)), .t (.s (.int .i64 z15)), .t (.s (.int .i64 z16))]), (1, .box 29 [.t (.s (.slice none 0 0)), .t (.s (.int .i64 0)), .t (.s (.slice none 0 0))]), (2, .box 29 [.rf 3, .t (.s (.int .i64 r2v_1v_Version)), .rf 4]), (3, .row 0 3 1 (eInt_c r2v_1v_Schemav_Cols)), (4, .row 0 72 1 (eRowS_o z17))]⟩) (x0 := r1v_1v_i) (x1 := r1v_1v_h) (x2 := r2v_1v_Tables) (x3 := 0) h (Weak.of _ [(0, 0), (1, 1), (2, 4103), (3, 4099), (4, 4355)] hA (by cbv) ?_) (fun _ _ _ _ => rfl) ?_
    · repeat (first | exact hq0 | refine hq (by first | exact True.intro | rfl) ?_)
    · intro k z15 z16 z17 z18 h
      rw [spec_l7DrawRight.l0] at h
      refine Run.seq ?_
      refine Run.seq ?_
      refine Run.region hL hT [] (by cbv) ?_ ?_
      · exact (hq trivial (hq trivial hq0))
      rw [show ln (eRowS_o z17) = lenI_RowS z17 from ln_eq RowS_o _]
      refine Run.cond (by cbv) (hq0) (fun c19 => ?_) (fun c19 => ?_)
      · have h := if_t c19 h
        refine Run.skip ?_
        refine Run.seq ?_
        refine Run.block ?_
        obtain ⟨x20, h_x20, h⟩ := bnd h
        obtain ⟨⟨⟨r21v_1v_b, r21v_1v_i, r21v_1v_h⟩, r21v_2⟩, h_r21, h⟩ := bnd h
        obtain ⟨x22, h_x22, h⟩ := bnd h
        obtain ⟨l23, h_l23, h⟩ := bnd h
        refine Run.draw hL hT hM [(9, .el [.s (.int .i64 x20)]), (10, .call [true, false] [.v (.bx 88 [.im true (eu8_c a0v_b), .s (.int .i64 r21v_1v_i), .s (.int .i64 r21v_1v_h)]), .v (.jk)] [.v (.ow 38 (eRow_o r21v_2))])] (by cbv) (by cbv) (by cbv) (by cbv) (by cbv) ?_ ?_
        · exact (hq trivial (hq trivial (hq (get_le h_x20) (hq (get_lt (f := Int_c) h_x20) (hq (get_le h_x20) (hq (get_lt (f := Int_c) h_x20) (hq (get_ge (f := Int_c) h_x20) (hq (hC (spec_l6DrawRows_ac h_r21)) (hq (get_le h_x22) (hq (get_lt (f := RowS_o) h_x22) (hq (get_le h_x22) (hq (get_lt (f := RowS_o) h_x22) hq0))))))))))))
        refine Run.row (rows := (up (eRowS_o z17) z18 0 [.ow 38 (eRow_o r21v_2)])) 4 (eRowS_o l23) (by cbv) (sto_le (f := RowS_o) h_x22 h_l23 rfl LLe.r) ?_
        refine Run.region hL hT [] (by cbv) ?_ ?_
        · exact (hq trivial hq0)
        refine ⟨r21v_1v_i, r21v_1v_h, l23, (ar .add .i64 z18 1), h, Weak.of _ [(0, 0), (1, 1), (2, 2), (3, 3), (4, 4)] hA (by cbv) ?_⟩
        repeat (first | exact hq0 | refine hq (by first | exact True.intro | rfl) ?_)
      · have h := if_f c19 h
        refine Run.exit ?_
        refine ⟨z15, z16, z17, h, Weak.of _ [(0, 0), (1, 1), (2, 2), (3, 3), (4, 4)] hA (by cbv) ?_⟩
        repeat (first | exact hq0 | refine hq (by first | exact True.intro | rfl) ?_)
  · intro y3 y4 y5 h
    rw [h_K6] at h
    refine Run.seq ?_
    obtain ⟨⟨⟨r24v_1v_b, r24v_1v_i, r24v_1v_h⟩, r24v_2⟩, h_r24, h⟩ := bnd h
    refine Run.region hL hT [(1, .call [true, false] [.v (.bx 88 [.im true (eu8_c a0v_b), .s (.int .i64 r24v_1v_i), .s (.int .i64 r24v_1v_h)]), .v (.jk)] [.v (.s (.int .i64 r24v_2))])] (by cbv) ?_ ?_
    · exact (hq (hC (spec_l1Below_ac h_r24)) (hq trivial hq0))
    refine Run.seq ?_
    refine Run.region hL hT [] (by cbv) ?_ ?_
    · exact (hq trivial (hq trivial hq0))
    refine Run.ret ?_
    cases h
    refine ⟨_, _, by cbv, ?_, ?_⟩
    · exact LLe.r
    · exact (ALe.ag rfl LLe.r ALe.nil)

set_option maxRecDepth 8000 in
theorem spec_l7Draw_ac {a0v_b : List Int} {a0v_i : Int} {a0v_h : Int} {r : l1Cur × Store} (h : spec_l7Draw.f (l1Cur.mk a0v_b a0v_i a0v_h) = some r) : AC Try.prog 35 [.v (.bx 88 [.im true (rowsOf u8_c a0v_b), .s (.int .i64 a0v_i), .s (.int .i64 a0v_h)])] [.v (.bx 88 [.im true (rowsOf u8_c a0v_b), .s (.int .i64 r.1.i), .s (.int .i64 r.1.h)])] [.ag [.im true (rowsOf Int_c r.2.Schema.Cols), .s (.int .i64 r.2.Version), .im true (rowsOf RowS_i r.2.Tables)]] := by
  unfold spec_l7Draw.f at h
  let ar := Ls.ar; let cm := Ls.cm; let bo := Ls.bo; let sc := Ls.sc; let sa := Ls.sa; let sx := Ls.sx; let ss := Ls.ss; let sl := Ls.sl; let bs := Ls.bs; let sb := Ls.sb; let ln := Ls.ln; let sr := Ls.sr; let ap := Ls.ap; let up := Ls.up; let rp := Ls.rp; let fr := Ls.fr; let ge := Ls.ge; let le := Ls.le; let lt := Ls.lt; let nz := Ls.nz; let mm := Ls.mm; let ma := Ls.ma; let sm := Ls.sm; let fl := Ls.fl; let al := Ls.al; let ci := Ls.ci
  let eInt_c := rowsOf Int_c
  let eRowS_i := rowsOf RowS_i
  let eRowS_o := rowsOf RowS_o
  let eRow_o := rowsOf Row_o
  let eu8_c := rowsOf u8_c
  let lenI_RowS := @lenI (List Row)
  have hL : (⟨ar, cm, bo, sc, sa, sx, ss, sl, bs, sb, ln, sr, ap, up, rp, fr, ge, le, lt, nz, mm, ma, sm, fl, al, ci⟩ : Lf) = Ls := rfl
  show AC Try.prog 35 [.v (.bx 88 [.im true (eu8_c a0v_b), .s (.int .i64 a0v_i), .s (.int .i64 a0v_h)])] _ _
  refine AC.of_run2 tab_ok Try.func35 (by rfl) (by rfl) (by cbv) ⟨by decide, rfl⟩ fun F hP hA => ?_
  have hT : TabOk F.P tab := hP ▸ tab_ok
  have hM : F.P.follows .mixedOrders = true := hP ▸ mixed
  have hC : ∀ {f a o r}, AC Try.prog f a o r → AC F.P f a o r := fun h => hP ▸ h
  refine Run.seq ?_
  refine Run.region hL hT [] (by cbv) ?_ ?_
  · exact hq0
  refine Run.seq ?_
  obtain ⟨⟨⟨r1v_1v_b, r1v_1v_i, r1v_1v_h⟩, ⟨⟨r1v_2v_Schemav_Cols⟩, r1v_2v_Version, r1v_2v_Tables⟩⟩, h_r1, h⟩ := bnd h
  refine Run.region hL hT [(1, .call [true] [.v (.bx 88 [.im true (eu8_c a0v_b), .s (.int .i64 r1v_1v_i), .s (.int .i64 r1v_1v_h)])] [.ag [.ow 3 (eInt_c r1v_2v_Schemav_Cols), .s (.int .i64 r1v_2v_Version), .ow 72 (eRowS_o r1v_2v_Tables)]])] (by cbv) ?_ ?_
  · exact (hq (hC (spec_l7DrawRight_ac h_r1)) (hq trivial hq0))
  refine Run.seq ?_
  refine Run.seq ?_
  obtain ⟨⟨⟨r2v_1v_b, r2v_1v_i, r2v_1v_h⟩, r2v_2⟩, h_r2, h⟩ := bnd h
  refine Run.region hL hT [(1, .call [true, false] [.v (.bx 88 [.im true (eu8_c a0v_b), .s (.int .i64 r2v_1v_i), .s (.int .i64 r2v_1v_h)]), .v (.jk)] [.v (.s (.int .i64 r2v_2))])] (by cbv) ?_ ?_
  · exact (hq (hC (spec_l1Below_ac h_r2)) hq0)
  refine Run.block ?_
  refine Run.seq ?_
  refine Run.region hL hT [] (by cbv) ?_ ?_
  · exact (hq trivial hq0)
  refine Run.cond (by cbv) (hq0) (fun c3 => ?_) (fun c3 => ?_)
  · have h := if_t c3 h
    obtain ⟨l4, h_l4, h⟩ := bnd h
    obtain ⟨⟨⟨r5v_1v_b, r5v_1v_i, r5v_1v_h⟩, r5v_2⟩, h_r5, h⟩ := bnd h
    refine Run.region hL hT [(2, .call [true, false] [.v (.bx 88 [.im true (eu8_c a0v_b), .s (.int .i64 r5v_1v_i), .s (.int .i64 r5v_1v_h)]), .v (.jk)] [.v (.s (.int .i64 r5v_2))])] (by cbv) ?_ ?_
    · exact (hq (hC (AC.args (spec_l1PickInt_ac h_r5) (ALe.v LLe.r (ALe.v (fr_lit rfl (some_le (f := Int_c) h_l4 (RLe.cons rfl LLe.r (RLe.cons rfl LLe.r (RLe.cons rfl LLe.r RLe.nil))))) ALe.nil)))) (hq trivial hq0))
    refine Run.row (rows := [[.s (.int .i64 (-1))], [.s (.int .i64 100000)], [.s (.int .i64 100001)]]) 16386 (eInt_c l4) (by cbv) (some_le (f := Int_c) h_l4 (RLe.cons rfl LLe.r (RLe.cons rfl LLe.r (RLe.cons rfl LLe.r RLe.nil)))) ?_
    refine Run.seq ?_
    refine Run.region hL hT [] (by cbv) ?_ ?_
    · exact (hq trivial (hq trivial hq0))
    refine Run.weak ?_ (Weak.keep (rows := eInt_c r1v_2v_Schemav_Cols) 4098 (by cbv) (eInt_c r1v_2v_Schemav_Cols) (fr_row Int_c_z _))
    refine Run.weak ?_ (Weak.keep (rows := eRowS_o r1v_2v_Tables) 4354 (by cbv) (eRowS_i r1v_2v_Tables) (fr_row RowS_o_z _))
    refine Run.ret ?_
    cases h
    refine ⟨_, _, by cbv, ?_, ?_⟩
    · exact LLe.r
    · exact (ALe.ag rfl LLe.r ALe.nil)
  · have h := if_f c3 h
    refine Run.seq ?_
    refine Run.region hL hT [] (by cbv) ?_ ?_
    · exact (hq trivial hq0)
    refine Run.cond (by cbv) (hq0) (fun c6 => ?_) (fun c6 => ?_)
    · have h := if_t c6 h
      obtain ⟨l7, h_l7, h⟩ := bnd h
      refine Run.region hL hT [] (by cbv) ?_ ?_
      · exact (hq trivial (hq (cut_0 h_l7) (hq (cut_1r (f := RowS_o) h_l7) (hq (Int.le_refl _) (hq trivial hq0)))))
      rw [show ln (eRowS_o r1v_2v_Tables) = lenI_RowS r1v_2v_Tables from ln_eq RowS_o _]
      refine Run.seq ?_
      refine Run.region hL hT [] (by cbv) ?_ ?_
      · exact (hq trivial (hq trivial hq0))
      refine Run.weak ?_ (Weak.keep (rows := eInt_c r1v_2v_Schemav_Cols) 4098 (by cbv) (eInt_c r1v_2v_Schemav_Cols) (fr_row Int_c_z _))
      refine Run.weak ?_ (Weak.keepB (rows := eRowS_o r1v_2v_Tables) (l := [.t (.im true (eInt_c r1v_2v_Schemav_Cols)), .t (.s (.int .i64 r1v_2v_Version))]) 1 4354 (by cbv) (by cbv) (eRowS_i l7) ((congrArg (fun q => sr q 1 (lenI_RowS r1v_2v_Tables)) (fr_row RowS_o_z _)).trans (cut_sr RowS_i h_l7)))
      refine Run.ret ?_
      cases h
      refine ⟨_, _, by cbv, ?_, ?_⟩
      · exact LLe.r
      · exact (ALe.ag rfl LLe.r ALe.nil)
    · have h := if_f c6 h
      refine Run.seq ?_
      refine Run.region hL hT [] (by cbv) ?_ ?_
      · exact (hq trivial hq0)
      refine Run.cond (by cbv) (hq0) (fun c8 => ?_) (fun c8 => ?_)
      · have h := if_t c8 h
        obtain ⟨x9, h_x9, h⟩ := bnd h
        obtain ⟨⟨⟨r10v_1v_b, r10v_1v_i, r10v_1v_h⟩, ⟨r10v_2v_Id, r10v_2v_Cells⟩⟩, h_r10, h⟩ := bnd h
        obtain ⟨l11, h_l11, h⟩ := bnd h
        obtain ⟨l12, h_l12, h⟩ := bnd h
        obtain ⟨l13, h_l13, h⟩ := bnd h
        refine Run.weak ?_ (Weak.take (rows := eRowS_o r1v_2v_Tables) (e2 := 38) (r2 := eRow_o x9) hT 4354 0 0 27577 1027577 (by cbv) (by cbv) (by cbv) (get_le' h_x9) (get_lt' RowS_o h_x9) ((congrArg (fun q => q[0]?) (get_ge (f := RowS_o) h_x9)).trans rfl) rfl (up (eRowS_o r1v_2v_Tables) 0 0 [.jk]) rfl)
        refine Run.draw hL hT hM [(5, .lk [.jk] [(0, 1027577)]), (7, .call [true, false] [.v (.bx 88 [.im true (eu8_c a0v_b), .s (.int .i64 r10v_1v_i), .s (.int .i64 r10v_1v_h)]), .v (.jk)] [.ag [.s (.int .i64 r10v_2v_Id), .ow 3 (eInt_c r10v_2v_Cells)]])] (by cbv) (by cbv) (by cbv) (by cbv) (by cbv) ?_ ?_
        · exact (hq trivial (hq trivial (hq (get_le h_x9) (hq (up_lt RowS_o h_x9) (hq trivial (hq (get_le h_x9) (hq (up_lt RowS_o h_x9) (hq (up_ge RowS_o h_x9) (hq (hC (spec_l6DrawRow_ac h_r10)) (hq (app_mb (P := Try.prog) (f := Row_o) RLe.r (some_le (f := Row_o) h_l11 (RLe.cons rfl LLe.r RLe.nil)) h_l12) (hq (get_le h_x9) (hq (up_lt RowS_o h_x9) (hq (get_le h_x9) (hq (up_lt RowS_o h_x9) hq0))))))))))))))
        refine Run.row (rows := (up (up (eRowS_o r1v_2v_Tables) 0 0 [.jk]) 0 0 [.ow 38 ((ap (eRow_o x9) ([[.s (.int .i64 r10v_2v_Id), .ow 3 (eInt_c r10v_2v_Cells)]])))])) 4354 (eRowS_o l13) (by cbv) (hole_le (f := RowS_o) h_x9 h_l13 (ltn (RowS_o_n _) (by decide)) rfl (LLe.cons (LLe.ow (app_le (f := Row_o) RLe.r (some_le (f := Row_o) h_l11 (RLe.cons rfl LLe.r RLe.nil)) h_l12)) LLe.nil)) ?_
        refine Run.seq ?_
        refine Run.region hL hT [] (by cbv) ?_ ?_
        · exact (hq trivial (hq trivial hq0))
        refine Run.weak ?_ (Weak.keep (rows := eInt_c r1v_2v_Schemav_Cols) 4098 (by cbv) (eInt_c r1v_2v_Schemav_Cols) (fr_row Int_c_z _))
        refine Run.weak ?_ (Weak.keep (rows := eRowS_o l13) 4354 (by cbv) (eRowS_i l13) (fr_row RowS_o_z _))
        refine Run.ret ?_
        cases h
        refine ⟨_, _, by cbv, ?_, ?_⟩
        · exact LLe.r
        · exact (ALe.ag rfl LLe.r ALe.nil)
      · have h := if_f c8 h
        refine Run.seq ?_
        refine Run.region hL hT [] (by cbv) ?_ ?_
        · exact (hq trivial hq0)
        refine Run.cond (by cbv) (hq0) (fun c14 => ?_) (fun c14 => ?_)
        · have h := if_t c14 h
          obtain ⟨⟨⟨r15v_1v_b, r15v_1v_i, r15v_1v_h⟩, ⟨r15v_2v_Cols⟩⟩, h_r15, h⟩ := bnd h
          refine Run.region hL hT [(1, .call [true] [.v (.bx 88 [.im true (eu8_c a0v_b), .s (.int .i64 r15v_1v_i), .s (.int .i64 r15v_1v_h)])] [.ag [.ow 3 (eInt_c r15v_2v_Cols)]])] (by cbv) ?_ ?_
          · exact (hq (hC (spec_l6DrawBad_ac h_r15)) (hq trivial hq0))
          refine Run.seq ?_
          refine Run.region hL hT [] (by cbv) ?_ ?_
          · exact (hq trivial (hq trivial hq0))
          refine Run.weak ?_ (Weak.keep (rows := eInt_c r15v_2v_Cols) 28674 (by cbv) (eInt_c r15v_2v_Cols) (fr_row Int_c_z _))
          refine Run.weak ?_ (Weak.keep (rows := eRowS_o r1v_2v_Tables) 4354 (by cbv) (eRowS_i r1v_2v_Tables) (fr_row RowS_o_z _))
          refine Run.ret ?_
          cases h
          refine ⟨_, _, by cbv, ?_, ?_⟩
          · exact LLe.r
          · exact (ALe.ag rfl LLe.r ALe.nil)
        · have h := if_f c14 h
          refine Run.skip ?_
          refine Run.seq ?_
          refine Run.region hL hT [] (by cbv) ?_ ?_
          · exact (hq trivial (hq trivial hq0))
          refine Run.weak ?_ (Weak.keep (rows := eInt_c r1v_2v_Schemav_Cols) 4098 (by cbv) (eInt_c r1v_2v_Schemav_Cols) (fr_row Int_c_z _))
          refine Run.weak ?_ (Weak.keep (rows := eRowS_o r1v_2v_Tables) 4354 (by cbv) (eRowS_i r1v_2v_Tables) (fr_row RowS_o_z _))
          refine Run.ret ?_
          cases h
          refine ⟨_, _, by cbv, ?_, ?_⟩
          · exact LLe.r
          · exact (ALe.ag rfl LLe.r ALe.nil)

set_option maxRecDepth 8000 in
theorem spec_RowOk_ac {a0v_Cols : List Int} {a1 : Int} {a2v_Id : Int} {a2v_Cells : List Int} {r : Bool} (h : spec_RowOk.f (Schema.mk a0v_Cols) a1 (Row.mk a2v_Id a2v_Cells) = some r) : AC Try.prog 91 [.ag [.im false (rowsOf Int_c a0v_Cols)], .v (.s (.int .i64 a1)), .ag [.s (.int .i64 a2v_Id), .im false (rowsOf Int_c a2v_Cells)]] [.ag [.jk], .v (.jk), .ag [.jk, .jk]] [.v (.s (.bool r))] := by
  unfold spec_RowOk.f at h
  let ar := Ls.ar; let cm := Ls.cm; let bo := Ls.bo; let sc := Ls.sc; let sa := Ls.sa; let sx := Ls.sx; let ss := Ls.ss; let sl := Ls.sl; let bs := Ls.bs; let sb := Ls.sb; let ln := Ls.ln; let sr := Ls.sr; let ap := Ls.ap; let up := Ls.up; let rp := Ls.rp; let fr := Ls.fr; let ge := Ls.ge; let le := Ls.le; let lt := Ls.lt; let nz := Ls.nz; let mm := Ls.mm; let ma := Ls.ma; let sm := Ls.sm; let fl := Ls.fl; let al := Ls.al; let ci := Ls.ci
  let eInt_c := rowsOf Int_c
  let lenI_Int := @lenI Int
  have hL : (⟨ar, cm, bo, sc, sa, sx, ss, sl, bs, sb, ln, sr, ap, up, rp, fr, ge, le, lt, nz, mm, ma, sm, fl, al, ci⟩ : Lf) = Ls := rfl
  show AC Try.prog 91 [.ag [.im false (eInt_c a0v_Cols)], .v (.s (.int .i64 a1)), .ag [.s (.int .i64 a2v_Id), .im false (eInt_c a2v_Cells)]] _ _
  refine AC.of_run2 tab_ok Try.func91 (by rfl) (by rfl) (by cbv) ⟨by decide, rfl⟩ fun F hP hA => ?_
  have hT : TabOk F.P tab := hP ▸ tab_ok
  have hM : F.P.follows .mixedOrders = true := hP ▸ mixed
  have hC : ∀ {f a o r}, AC Try.prog f a o r → AC F.P f a o r := fun h => hP ▸ h
  refine Run.seq ?_
  refine Run.region hL hT [] (by cbv) ?_ ?_
  · exact hq0
  refine Run.seq ?_
  refine Run.seq ?_
  obtain ⟨r1, h_r1, h⟩ := bnd h
  obtain ⟨r2, h_r2, h⟩ := bnd h
  obtain ⟨r3, h_r3, h⟩ := bnd h
  obtain ⟨x4, h_x4, h⟩ := bnd h
  refine Run.draw hL hT hM [(1, .call [false] [.ag [.jk]] [.v (.s (.bool r1))]), (9, .call [false, false, false] [.v (.jk), .v (.jk), .v (.jk)] [.v (.s (.bool r2))]), (15, .call [false, false, false] [.v (.jk), .v (.jk), .v (.jk)] [.v (.s (.bool r3))]), (25, .el [.s (.int .i64 x4)])] (by cbv) (by cbv) (by cbv) (by cbv) (by cbv) ?_ ?_
  · exact (hq trivial (hq (hC (spec_SchemaOk_ac h_r1)) (hq (fun _ => hq0) (hq (fun _ => hq0) (hq (fun g7 => (hq g7 (hq trivial hq0))) (hq (fun g8 => (hq g8 hq0)) (hq (fun g9 => (hq g9 (hq trivial hq0))) (hq (fun g10 => (hq g10 (hq g10 (hq (by rw [show ln (eInt_c a0v_Cols) = lenI_Int a0v_Cols from ln_eq Int_c _]; exact (hC (spec_l1In_ac (gd_t h_r2 g10)))) hq0)))) (hq (fun g11 => (hq g11 hq0)) (hq (fun _ => hq0) (hq (fun q13 => (hq (bo_m q13) hq0)) (hq (fun _ => hq0) (hq (fun g15 => (hq g15 (hq trivial hq0))) (hq (fun g16 => (hq g16 (hq (hC (spec_l1In_ac (gd_t h_r3 g16))) hq0))) (hq (fun g17 => (hq g17 hq0)) (hq (fun _ => hq0) (hq (fun q19 => (hq (bo_m q19) hq0)) (hq (fun _ => hq0) (hq (fun g21 => (hq g21 (hq trivial hq0))) (hq (fun g22 => (hq g22 hq0)) (hq (fun _ => hq0) (hq (fun g24 => (hq g24 (hq trivial hq0))) (hq (fun _ => hq0) (hq (fun g26 => (hq g26 (hq g26 (hq (get_le (gd_t h_x4 g26)) (hq (get_lt (f := Int_c) (gd_t h_x4 g26)) (hq (get_ge (f := Int_c) (gd_t h_x4 g26)) hq0)))))) (hq (fun g27 => (hq g27 hq0)) (hq (fun g28 => (hq g28 (hq g28 (hq trivial hq0)))) (hq (fun _ => hq0) (hq (fun q30 => (hq (bo_m q30) hq0)) hq0))))))))))))))))))))))))))))
  rw [show ln (eInt_c a0v_Cols) = lenI_Int a0v_Cols from ln_eq Int_c _]
  rw [show ln (eInt_c a2v_Cells) = lenI_Int a2v_Cells from ln_eq Int_c _]
  refine Run.cond (by cbv) (hq0) (fun c31 => ?_) (fun c31 => ?_)
  · have h := if_t c31 h
    refine Run.seq ?_
    refine Run.region hL hT [] (by cbv) ?_ ?_
    · exact hq0
    refine Run.ret ?_
    cases h
    refine ⟨_, _, by cbv, ?_, ?_⟩
    · exact LLe.r
    · exact (ALe.v LLe.r ALe.nil)
  · have h := if_f c31 h
    refine Run.skip ?_
    refine Run.seq ?_
    refine Run.seq ?_
    refine Run.region hL hT [] (by cbv) ?_ ?_
    · exact hq0
    refine Run.block ?_
    refine Run.loop1 (fun (z35 : Int) => ⟨51, 100000, [(5, .pt 1 0 0), (7, .t (.s (.int .i64 z35)))], [(1, .box 38 [.t (.s (.int .i64 a2v_Id)), .t (.im false (eInt_c a2v_Cells))])]⟩) (x0 := 0) h (Weak.of _ [(1, 1)] hA (by cbv) ?_) (fun _ => rfl) ?_
    · repeat (first | exact hq0 | refine hq (by first | exact True.intro | rfl) ?_)
    · intro k z35 h
      rw [spec_RowOk.l0] at h
      refine Run.seq ?_
      refine Run.seq ?_
      refine Run.region hL hT [] (by cbv) ?_ ?_
      · exact (hq trivial (hq trivial hq0))
      rw [show ln (eInt_c a2v_Cells) = lenI_Int a2v_Cells from ln_eq Int_c _]
      refine Run.cond (by cbv) (hq0) (fun c36 => ?_) (fun c36 => ?_)
      · have h := if_t c36 h
        refine Run.skip ?_
        refine Run.seq ?_
        refine Run.block ?_
        refine Run.seq ?_
        obtain ⟨x37, h_x37, h⟩ := bnd h
        obtain ⟨r38, h_r38, h⟩ := bnd h
        refine Run.region hL hT [(3, .el [.s (.int .i64 x37)]), (5, .call [false, false, false] [.v (.jk), .v (.jk), .v (.jk)] [.v (.s (.bool r38))])] (by cbv) ?_ ?_
        · exact (hq trivial (hq (get_le h_x37) (hq (get_lt (f := Int_c) h_x37) (hq (get_ge (f := Int_c) h_x37) (hq (hC (spec_l1In_ac h_r38)) hq0)))))
        refine Run.cond (by cbv) (hq0) (fun c39 => ?_) (fun c39 => ?_)
        · have h := if_t c39 h
          refine Run.seq ?_
          refine Run.region hL hT [] (by cbv) ?_ ?_
          · exact hq0
          refine Run.ret ?_
          cases h
          refine ⟨_, _, by cbv, ?_, ?_⟩
          · exact LLe.r
          · exact (ALe.v LLe.r ALe.nil)
        · have h := if_f c39 h
          refine Run.skip ?_
          refine Run.region hL hT [] (by cbv) ?_ ?_
          · exact (hq trivial hq0)
          refine ⟨(ar .add .i64 z35 1), h, Weak.of _ [(1, 1)] hA (by cbv) ?_⟩
          repeat (first | exact hq0 | refine hq (by first | exact True.intro | rfl) ?_)
      · have h := if_f c36 h
        refine Run.exit ?_
        refine Run.seq ?_
        refine Run.region hL hT [] (by cbv) ?_ ?_
        · exact hq0
        refine Run.ret ?_
        cases h
        refine ⟨_, _, by cbv, ?_, ?_⟩
        · exact LLe.r
        · exact (ALe.v LLe.r ALe.nil)

set_option maxRecDepth 8000 in
theorem spec_RowsOk_ac {a0v_Cols : List Int} {a1 : Int} {a2 : List Row} {r : Bool} (h : spec_RowsOk.f (Schema.mk a0v_Cols) a1 a2 = some r) : AC Try.prog 63 [.ag [.im false (rowsOf Int_c a0v_Cols)], .v (.s (.int .i64 a1)), .v (.im false (rowsOf Row_i a2))] [.ag [.jk], .v (.jk), .v (.jk)] [.v (.s (.bool r))] := by
  unfold spec_RowsOk.f at h
  let ar := Ls.ar; let cm := Ls.cm; let bo := Ls.bo; let sc := Ls.sc; let sa := Ls.sa; let sx := Ls.sx; let ss := Ls.ss; let sl := Ls.sl; let bs := Ls.bs; let sb := Ls.sb; let ln := Ls.ln; let sr := Ls.sr; let ap := Ls.ap; let up := Ls.up; let rp := Ls.rp; let fr := Ls.fr; let ge := Ls.ge; let le := Ls.le; let lt := Ls.lt; let nz := Ls.nz; let mm := Ls.mm; let ma := Ls.ma; let sm := Ls.sm; let fl := Ls.fl; let al := Ls.al; let ci := Ls.ci
  let eInt_c := rowsOf Int_c
  let eRow_i := rowsOf Row_i
  let lenI_Int := @lenI Int
  let lenI_Row := @lenI Row
  have hL : (⟨ar, cm, bo, sc, sa, sx, ss, sl, bs, sb, ln, sr, ap, up, rp, fr, ge, le, lt, nz, mm, ma, sm, fl, al, ci⟩ : Lf) = Ls := rfl
  show AC Try.prog 63 [.ag [.im false (eInt_c a0v_Cols)], .v (.s (.int .i64 a1)), .v (.im false (eRow_i a2))] _ _
  refine AC.of_run2 tab_ok Try.func63 (by rfl) (by rfl) (by cbv) ⟨by decide, rfl⟩ fun F hP hA => ?_
  have hT : TabOk F.P tab := hP ▸ tab_ok
  have hM : F.P.follows .mixedOrders = true := hP ▸ mixed
  have hC : ∀ {f a o r}, AC Try.prog f a o r → AC F.P f a o r := fun h => hP ▸ h
  refine Run.seq ?_
  refine Run.region hL hT [] (by cbv) ?_ ?_
  · exact hq0
  obtain ⟨K2, h_K2, h⟩ := joinE h
  refine Run.join1 K2 (r := r) (fun (y1 : Unit) => ⟨55, 100000, [(1, .t (.s (.int .i64 a1))), (2, .t (.im false (eRow_i a2))), (3, .pt 1 0 0)], [(1, .box 26 [.t (.im false (eInt_c a0v_Cols))])]⟩) ?_ ?_
  · skip
    refine Run.seq ?_
    refine Run.region hL hT [] (by cbv) ?_ ?_
    · exact hq0
    refine Run.block ?_
    refine Run.loop1 (fun (z7 : Int) => ⟨55, 100000, [(1, .t (.s (.int .i64 a1))), (2, .t (.im false (eRow_i a2))), (3, .pt 1 0 0), (7, .t (.s (.int .i64 z7)))], [(1, .box 26 [.t (.im false (eInt_c a0v_Cols))])]⟩) (x0 := 0) h (Weak.of _ [(1, 0)] hA (by cbv) ?_) (fun _ => rfl) ?_
    · repeat (first | exact hq0 | refine hq (by first | exact True.intro | rfl) ?_)
    · intro k z7 h
      rw [spec_RowsOk.l0] at h
      refine Run.seq ?_
      refine Run.seq ?_
      refine Run.region hL hT [] (by cbv) ?_ ?_
      · exact (hq trivial hq0)
      rw [show ln (eRow_i a2) = lenI_Row a2 from ln_eq Row_i _]
      refine Run.cond (by cbv) (hq0) (fun c8 => ?_) (fun c8 => ?_)
      · have h := if_t c8 h
        refine Run.skip ?_
        refine Run.seq ?_
        refine Run.block ?_
        refine Run.seq ?_
        obtain ⟨⟨x9v_Id, x9v_Cells⟩, h_x9, h⟩ := bnd h
        obtain ⟨r10, h_r10, h⟩ := bnd h
        obtain ⟨⟨x11v_Id, x11v_Cells⟩, h_x11, h⟩ := bnd h
        refine Run.draw hL hT hM [(4, .el [.s (.int .i64 x9v_Id), .im false (eInt_c x9v_Cells)]), (6, .call [false, false, false] [.ag [.jk], .v (.jk), .ag [.jk, .jk]] [.v (.s (.bool r10))]), (15, .el [.s (.int .i64 x11v_Id), .im false (eInt_c x11v_Cells)]), (20, .el [.s (.int .i64 x9v_Id), .im false (eInt_c x9v_Cells)])] (by cbv) (by cbv) (by cbv) (by cbv) (by cbv) ?_ ?_
        · exact (hq trivial (hq (get_le h_x9) (hq (get_lt (f := Row_i) h_x9) (hq (get_ge (f := Row_i) h_x9) (hq (hC (spec_RowOk_ac h_r10)) (hq (fun _ => hq0) (hq (fun g13 => (hq g13 (hq trivial hq0))) (hq (fun g14 => (hq g14 hq0)) (hq (fun _ => hq0) (hq (fun _ => hq0) (hq (fun g17 => (hq g17 (hq trivial hq0))) (hq (fun g18 => (hq g18 (hq g18 (hq (get_le (gd_t h_x11 g18)) (hq (get_lt (f := Row_i) (gd_t h_x11 g18)) (hq (get_ge (f := Row_i) (gd_t h_x11 g18)) hq0)))))) (hq (fun g19 => (hq g19 hq0)) (hq (fun g20 => (hq g20 hq0)) (hq (fun _ => hq0) (hq (fun _ => hq0) (hq (fun g23 => (hq g23 (hq g23 (hq (get_le h_x9) (hq (get_lt (f := Row_i) h_x9) (hq (get_ge (f := Row_i) h_x9) hq0)))))) (hq (fun g24 => (hq g24 hq0)) (hq (fun g25 => (hq g25 hq0)) (hq (fun g26 => (hq g26 (hq g26 (hq trivial hq0)))) (hq (fun g27 => (hq g27 (hq (fun q28 => (hq (bo_a g27 q28) hq0)) (hq (fun _ => hq0) hq0)))) (hq (fun _ => hq0) (hq (fun q31 => (hq (bo_m q31) hq0)) hq0)))))))))))))))))))))))
        refine Run.cond (by cbv) (hq0) (fun c32 => ?_) (fun c32 => ?_)
        · have h := if_t c32 h
          refine Run.seq ?_
          refine Run.region hL hT [] (by cbv) ?_ ?_
          · exact hq0
          refine Run.ret ?_
          cases h
          refine ⟨_, _, by cbv, ?_, ?_⟩
          · exact LLe.r
          · exact (ALe.v LLe.r ALe.nil)
        · have h := if_f c32 h
          refine Run.skip ?_
          refine Run.region hL hT [] (by cbv) ?_ ?_
          · exact (hq trivial hq0)
          refine ⟨(ar .add .i64 z7 1), h, Weak.of _ [(1, 1)] hA (by cbv) ?_⟩
          repeat (first | exact hq0 | refine hq (by first | exact True.intro | rfl) ?_)
      · have h := if_f c8 h
        refine Run.exit ?_
        refine ⟨(), h, Weak.of _ [(1, 1)] hA (by cbv) ?_⟩
        repeat (first | exact hq0 | refine hq (by first | exact True.intro | rfl) ?_)
  · intro y1 h
    rw [h_K2] at h
    refine Run.seq ?_
    obtain ⟨r33, h_r33, h⟩ := bnd h
    obtain ⟨r34, h_r34, h⟩ := bnd h
    refine Run.region hL hT [(1, .call [false] [.ag [.jk]] [.v (.s (.bool r33))]), (8, .call [false, false, false] [.v (.jk), .v (.jk), .v (.jk)] [.v (.s (.bool r34))])] (by cbv) ?_ ?_
    · exact (hq trivial (hq (hC (spec_SchemaOk_ac h_r33)) (hq (fun _ => hq0) (hq (fun _ => hq0) (hq (fun g37 => (hq g37 (hq trivial hq0))) (hq (fun g38 => (hq g38 hq0)) (hq (fun g39 => (hq g39 (hq trivial hq0))) (hq (fun g40 => (hq g40 (hq g40 (hq (by rw [show ln (eInt_c a0v_Cols) = lenI_Int a0v_Cols from ln_eq Int_c _]; exact (hC (spec_l1In_ac (gd_t h_r34 g40)))) hq0)))) (hq (fun q41 => (hq q41 hq0)) (hq (fun _ => hq0) (hq (fun _ => hq0) (hq (fun g44 => (hq g44 hq0)) (hq (fun g45 => (hq g45 (hq trivial hq0))) (hq (fun q46 => (hq q46 hq0)) (hq (fun _ => hq0) hq0)))))))))))))))
    rw [show ln (eInt_c a0v_Cols) = lenI_Int a0v_Cols from ln_eq Int_c _]
    rw [show ln (eRow_i a2) = lenI_Row a2 from ln_eq Row_i _]
    refine Run.ret ?_
    cases h
    refine ⟨_, _, by cbv, ?_, ?_⟩
    · exact LLe.r
    · exact (ALe.v LLe.r ALe.nil)

set_option maxRecDepth 8000 in
theorem spec_StoreOk_ac {a0v_Schemav_Cols : List Int} {a0v_Version : Int} {a0v_Tables : List (List Row)} {r : Bool} (h : spec_StoreOk.f (Store.mk (Schema.mk a0v_Schemav_Cols) a0v_Version a0v_Tables) = some r) : AC Try.prog 33 [.ag [.im false (rowsOf Int_c a0v_Schemav_Cols), .s (.int .i64 a0v_Version), .im false (rowsOf RowS_i a0v_Tables)]] [.ag [.jk, .jk, .jk]] [.v (.s (.bool r))] := by
  unfold spec_StoreOk.f at h
  let ar := Ls.ar; let cm := Ls.cm; let bo := Ls.bo; let sc := Ls.sc; let sa := Ls.sa; let sx := Ls.sx; let ss := Ls.ss; let sl := Ls.sl; let bs := Ls.bs; let sb := Ls.sb; let ln := Ls.ln; let sr := Ls.sr; let ap := Ls.ap; let up := Ls.up; let rp := Ls.rp; let fr := Ls.fr; let ge := Ls.ge; let le := Ls.le; let lt := Ls.lt; let nz := Ls.nz; let mm := Ls.mm; let ma := Ls.ma; let sm := Ls.sm; let fl := Ls.fl; let al := Ls.al; let ci := Ls.ci
  let eInt_c := rowsOf Int_c
  let eRowS_i := rowsOf RowS_i
  let eRow_i := rowsOf Row_i
  let lenI_Int := @lenI Int
  let lenI_RowS := @lenI (List Row)
  have hL : (⟨ar, cm, bo, sc, sa, sx, ss, sl, bs, sb, ln, sr, ap, up, rp, fr, ge, le, lt, nz, mm, ma, sm, fl, al, ci⟩ : Lf) = Ls := rfl
  show AC Try.prog 33 [.ag [.im false (eInt_c a0v_Schemav_Cols), .s (.int .i64 a0v_Version), .im false (eRowS_i a0v_Tables)]] _ _
  refine AC.of_run2 tab_ok Try.func33 (by rfl) (by rfl) (by cbv) ⟨by decide, rfl⟩ fun F hP hA => ?_
  have hT : TabOk F.P tab := hP ▸ tab_ok
  have hM : F.P.follows .mixedOrders = true := hP ▸ mixed
  have hC : ∀ {f a o r}, AC Try.prog f a o r → AC F.P f a o r := fun h => hP ▸ h
  refine Run.seq ?_
  refine Run.region hL hT [] (by cbv) ?_ ?_
  · exact hq0
  refine Run.seq ?_
  refine Run.seq ?_
  obtain ⟨r1, h_r1, h⟩ := bnd h
  obtain ⟨r2, h_r2, h⟩ := bnd h
  refine Run.region hL hT [(2, .call [false] [.ag [.jk]] [.v (.s (.bool r1))]), (7, .call [false, false, false] [.v (.jk), .v (.jk), .v (.jk)] [.v (.s (.bool r2))])] (by cbv) ?_ ?_
  · exact (hq trivial (hq (hC (spec_SchemaOk_ac h_r1)) (hq (fun _ => hq0) (hq (fun g4 => (hq g4 (hq trivial hq0))) (hq (fun g5 => (hq g5 (hq (hC (spec_l1In_ac (gd_t h_r2 g5))) hq0))) (hq (fun g6 => (hq g6 hq0)) (hq (fun _ => hq0) (hq (fun q8 => (hq (bo_m q8) hq0)) (hq (fun _ => hq0) (hq (fun g10 => (hq g10 (hq trivial hq0))) (hq (fun g11 => (hq g11 hq0)) (hq (fun _ => hq0) (hq (fun g13 => (hq g13 hq0)) (hq (fun g14 => (hq g14 (hq trivial hq0))) (hq (fun g15 => (hq g15 hq0)) (hq (fun g16 => (hq g16 (hq g16 (hq trivial hq0)))) (hq (fun _ => hq0) (hq (fun q18 => (hq (bo_m q18) hq0)) hq0))))))))))))))))))
  rw [show ln (eInt_c a0v_Schemav_Cols) = lenI_Int a0v_Schemav_Cols from ln_eq Int_c _]
  rw [show ln (eRowS_i a0v_Tables) = lenI_RowS a0v_Tables from ln_eq RowS_i _]
  refine Run.cond (by cbv) (hq0) (fun c19 => ?_) (fun c19 => ?_)
  · have h := if_t c19 h
    refine Run.seq ?_
    refine Run.region hL hT [] (by cbv) ?_ ?_
    · exact hq0
    refine Run.ret ?_
    cases h
    refine ⟨_, _, by cbv, ?_, ?_⟩
    · exact LLe.r
    · exact (ALe.v LLe.r ALe.nil)
  · have h := if_f c19 h
    refine Run.skip ?_
    refine Run.seq ?_
    refine Run.seq ?_
    refine Run.region hL hT [] (by cbv) ?_ ?_
    · exact hq0
    refine Run.block ?_
    refine Run.loop1 (fun (z24 : Int) => ⟨41, 100000, [(1, .pt 1 0 0), (3, .t (.s (.int .i64 z24)))], [(1, .box 29 [.t (.im false (eInt_c a0v_Schemav_Cols)), .t (.s (.int .i64 a0v_Version)), .t (.im false (eRowS_i a0v_Tables))])]⟩) (x0 := 0) h (Weak.of _ [(1, 0)] hA (by cbv) ?_) (fun _ => rfl) ?_
    · repeat (first | exact hq0 | refine hq (by first | exact True.intro | rfl) ?_)
    · intro k z24 h
      rw [spec_StoreOk.l0] at h
      refine Run.seq ?_
      refine Run.seq ?_
      refine Run.region hL hT [] (by cbv) ?_ ?_
      · exact (hq trivial (hq trivial hq0))
      rw [show ln (eRowS_i a0v_Tables) = lenI_RowS a0v_Tables from ln_eq RowS_i _]
      refine Run.cond (by cbv) (hq0) (fun c25 => ?_) (fun c25 => ?_)
      · have h := if_t c25 h
        refine Run.skip ?_
        refine Run.seq ?_
        refine Run.block ?_
        refine Run.seq ?_
        obtain ⟨x26, h_x26, h⟩ := bnd h
        obtain ⟨r27, h_r27, h⟩ := bnd h
        refine Run.draw hL hT hM [(6, .el [.im false (eRow_i x26)]), (8, .call [false, false, false] [.ag [.jk], .v (.jk), .v (.jk)] [.v (.s (.bool r27))])] (by cbv) (by cbv) (by cbv) (by cbv) (by cbv) ?_ ?_
        · exact (hq trivial (hq trivial (hq (get_le h_x26) (hq (get_lt (f := RowS_i) h_x26) (hq (get_ge (f := RowS_i) h_x26) (hq (hC (spec_RowsOk_ac h_r27)) hq0))))))
        refine Run.cond (by cbv) (hq0) (fun c28 => ?_) (fun c28 => ?_)
        · have h := if_t c28 h
          refine Run.seq ?_
          refine Run.region hL hT [] (by cbv) ?_ ?_
          · exact hq0
          refine Run.ret ?_
          cases h
          refine ⟨_, _, by cbv, ?_, ?_⟩
          · exact LLe.r
          · exact (ALe.v LLe.r ALe.nil)
        · have h := if_f c28 h
          refine Run.skip ?_
          refine Run.region hL hT [] (by cbv) ?_ ?_
          · exact (hq trivial hq0)
          refine ⟨(ar .add .i64 z24 1), h, Weak.of _ [(1, 1)] hA (by cbv) ?_⟩
          repeat (first | exact hq0 | refine hq (by first | exact True.intro | rfl) ?_)
      · have h := if_f c25 h
        refine Run.exit ?_
        refine Run.seq ?_
        refine Run.region hL hT [] (by cbv) ?_ ?_
        · exact hq0
        refine Run.ret ?_
        cases h
        refine ⟨_, _, by cbv, ?_, ?_⟩
        · exact LLe.r
        · exact (ALe.v LLe.r ALe.nil)

set_option maxRecDepth 8000 in
theorem spec_l6Rows_ac {a0 : List Row} {r : (List Row)} (h : spec_l6Rows.f a0 = some r) : AC Try.prog 79 [.v (.im false (rowsOf Row_i a0))] [.v (.jk)] [.v (.ow 38 (rowsOf Row_o r))] := by
  unfold spec_l6Rows.f at h
  let ar := Ls.ar; let cm := Ls.cm; let bo := Ls.bo; let sc := Ls.sc; let sa := Ls.sa; let sx := Ls.sx; let ss := Ls.ss; let sl := Ls.sl; let bs := Ls.bs; let sb := Ls.sb; let ln := Ls.ln; let sr := Ls.sr; let ap := Ls.ap; let up := Ls.up; let rp := Ls.rp; let fr := Ls.fr; let ge := Ls.ge; let le := Ls.le; let lt := Ls.lt; let nz := Ls.nz; let mm := Ls.mm; let ma := Ls.ma; let sm := Ls.sm; let fl := Ls.fl; let al := Ls.al; let ci := Ls.ci
  let eInt_c := rowsOf Int_c
  let eRow_i := rowsOf Row_i
  let eRow_o := rowsOf Row_o
  let lenI_Row := @lenI Row
  have hL : (⟨ar, cm, bo, sc, sa, sx, ss, sl, bs, sb, ln, sr, ap, up, rp, fr, ge, le, lt, nz, mm, ma, sm, fl, al, ci⟩ : Lf) = Ls := rfl
  show AC Try.prog 79 [.v (.im false (eRow_i a0))] _ _
  refine AC.of_run2 tab_ok Try.func79 (by rfl) (by rfl) (by cbv) ⟨by decide, rfl⟩ fun F hP hA => ?_
  have hT : TabOk F.P tab := hP ▸ tab_ok
  have hM : F.P.follows .mixedOrders = true := hP ▸ mixed
  have hC : ∀ {f a o r}, AC Try.prog f a o r → AC F.P f a o r := fun h => hP ▸ h
  refine Run.seq ?_
  refine Run.region hL hT [] (by cbv) ?_ ?_
  · exact hq0
  refine Run.seq ?_
  refine Run.region hL hT [] (by cbv) ?_ ?_
  · exact hq0
  refine Run.seq ?_
  refine Run.seq ?_
  refine Run.region hL hT [] (by cbv) ?_ ?_
  · exact hq0
  refine Run.block ?_
  refine Run.loop2 (fun (z4 : List Row) (z5 : Int) => ⟨21, 100000, [(0, .t (.im false (eRow_i a0))), (3, .rf 1), (4, .t (.s (.int .i64 z5)))], [(1, .row 0 38 2 (eRow_o z4))]⟩) (x0 := []) (x1 := 0) h (Weak.of _ [(1, 4096)] hA (by cbv) ?_) (fun _ _ => rfl) ?_
  · repeat (first | exact hq0 | refine hq (by first | exact True.intro | rfl) ?_)
  · intro k z4 z5 h
    rw [spec_l6Rows.l0] at h
    refine Run.seq ?_
    refine Run.seq ?_
    refine Run.region hL hT [] (by cbv) ?_ ?_
    · exact (hq trivial hq0)
    rw [show ln (eRow_i a0) = lenI_Row a0 from ln_eq Row_i _]
    refine Run.cond (by cbv) (hq0) (fun c6 => ?_) (fun c6 => ?_)
    · have h := if_t c6 h
      refine Run.skip ?_
      refine Run.seq ?_
      refine Run.block ?_
      obtain ⟨⟨x7v_Id, x7v_Cells⟩, h_x7, h⟩ := bnd h
      obtain ⟨⟨r8v_Id, r8v_Cells⟩, h_r8, h⟩ := bnd h
      obtain ⟨l9, h_l9, h⟩ := bnd h
      obtain ⟨l10, h_l10, h⟩ := bnd h
      refine Run.region hL hT [(3, .el [.s (.int .i64 x7v_Id), .im false (eInt_c x7v_Cells)]), (5, .call [false] [.ag [.jk, .jk]] [.ag [.s (.int .i64 r8v_Id), .ow 3 (eInt_c r8v_Cells)]])] (by cbv) ?_ ?_
      · exact (hq (get_le h_x7) (hq (get_lt (f := Row_i) h_x7) (hq (get_ge (f := Row_i) h_x7) (hq (hC (spec_l6Copy_ac h_r8)) (hq (app_mb (P := Try.prog) (f := Row_o) RLe.r (some_le (f := Row_o) h_l9 (RLe.cons rfl LLe.r RLe.nil)) h_l10) hq0)))))
      refine Run.row (rows := (ap (eRow_o z4) ([[.s (.int .i64 r8v_Id), .ow 3 (eInt_c r8v_Cells)]]))) 104103 (eRow_o l10) (by cbv) (app_le (f := Row_o) RLe.r (some_le (f := Row_o) h_l9 (RLe.cons rfl LLe.r RLe.nil)) h_l10) ?_
      refine Run.region hL hT [] (by cbv) ?_ ?_
      · exact (hq trivial hq0)
      refine ⟨l10, (ar .add .i64 z5 1), h, Weak.of _ [(1, 104103)] hA (by cbv) ?_⟩
      repeat (first | exact hq0 | refine hq (by first | exact True.intro | rfl) ?_)
    · have h := if_f c6 h
      refine Run.exit ?_
      refine Run.seq ?_
      refine Run.region hL hT [] (by cbv) ?_ ?_
      · exact hq0
      refine Run.ret ?_
      cases h
      refine ⟨_, _, by cbv, ?_, ?_⟩
      · exact LLe.r
      · exact (ALe.v LLe.r ALe.nil)

set_option maxRecDepth 8000 in
theorem spec_l7Copy_ac {a0v_Schemav_Cols : List Int} {a0v_Version : Int} {a0v_Tables : List (List Row)} {r : Store} (h : spec_l7Copy.f (Store.mk (Schema.mk a0v_Schemav_Cols) a0v_Version a0v_Tables) = some r) : AC Try.prog 42 [.ag [.im false (rowsOf Int_c a0v_Schemav_Cols), .s (.int .i64 a0v_Version), .im false (rowsOf RowS_i a0v_Tables)]] [.ag [.jk, .jk, .jk]] [.ag [.ow 3 (rowsOf Int_c r.Schema.Cols), .s (.int .i64 r.Version), .ow 72 (rowsOf RowS_o r.Tables)]] := by
  unfold spec_l7Copy.f at h
  let ar := Ls.ar; let cm := Ls.cm; let bo := Ls.bo; let sc := Ls.sc; let sa := Ls.sa; let sx := Ls.sx; let ss := Ls.ss; let sl := Ls.sl; let bs := Ls.bs; let sb := Ls.sb; let ln := Ls.ln; let sr := Ls.sr; let ap := Ls.ap; let up := Ls.up; let rp := Ls.rp; let fr := Ls.fr; let ge := Ls.ge; let le := Ls.le; let lt := Ls.lt; let nz := Ls.nz; let mm := Ls.mm; let ma := Ls.ma; let sm := Ls.sm; let fl := Ls.fl; let al := Ls.al; let ci := Ls.ci
  let eInt_c := rowsOf Int_c
  let eRowS_i := rowsOf RowS_i
  let eRowS_o := rowsOf RowS_o
  let eRow_i := rowsOf Row_i
  let eRow_o := rowsOf Row_o
  let lenI_RowS := @lenI (List Row)
  have hL : (⟨ar, cm, bo, sc, sa, sx, ss, sl, bs, sb, ln, sr, ap, up, rp, fr, ge, le, lt, nz, mm, ma, sm, fl, al, ci⟩ : Lf) = Ls := rfl
  show AC Try.prog 42 [.ag [.im false (eInt_c a0v_Schemav_Cols), .s (.int .i64 a0v_Version), .im false (eRowS_i a0v_Tables)]] _ _
  refine AC.of_run2 tab_ok Try.func42 (by rfl) (by rfl) (by cbv) ⟨by decide, rfl⟩ fun F hP hA => ?_
  have hT : TabOk F.P tab := hP ▸ tab_ok
  have hM : F.P.follows .mixedOrders = true := hP ▸ mixed
  have hC : ∀ {f a o r}, AC Try.prog f a o r → AC F.P f a o r := fun h => hP ▸ h
  refine Run.seq ?_
  refine Run.region hL hT [] (by cbv) ?_ ?_
  · exact hq0
  refine Run.seq ?_
  obtain ⟨⟨r1v_Cols⟩, h_r1, h⟩ := bnd h
  refine Run.draw hL hT hM [(2, .call [false] [.ag [.jk]] [.ag [.ow 3 (eInt_c r1v_Cols)]])] (by cbv) (by cbv) (by cbv) (by cbv) (by cbv) ?_ ?_
  · exact (hq trivial (hq (hC (spec_l7Schema_ac h_r1)) (hq trivial (hq trivial hq0))))
  refine Run.seq ?_
  refine Run.seq ?_
  refine Run.region hL hT [] (by cbv) ?_ ?_
  · exact hq0
  refine Run.block ?_
  refine Run.loop2 (fun (z17 : List (List Row)) (z18 : Int) => ⟨30, 100000, [(1, .pt 1 0 0), (2, .pt 2 0 0), (3, .pt 3 0 0), (4, .t (.s (.int .i64 z18)))], [(1, .box 29 [.t (.im false (eInt_c a0v_Schemav_Cols)), .t (.s (.int .i64 a0v_Version)), .t (.im false (eRowS_i a0v_Tables))]), (2, .box 29 [.t (.s (.slice none 0 0)), .t (.s (.int .i64 0)), .t (.s (.slice none 0 0))]), (3, .box 29 [.rf 4, .t (.s (.int .i64 a0v_Version)), .rf 5]), (4, .row 0 3 1 (eInt_c r1v_Cols)), (5, .row 0 72 1 (eRowS_o z17))]⟩) (x0 := []) (x1 := 0) h ((Weak.nilB (l := [.rf 4098, .t (.s (.int .i64 a0v_Version))]) hT 4102 2 13288 72 rfl (by cbv) (by cbv) (by cbv)).trans (Weak.of _ [(1, 0), (2, 1), (3, 4102), (4, 4098), (5, 13288)] hA (by cbv) ?_)) (fun _ _ => rfl) ?_
  · repeat (first | exact hq0 | refine hq (by first | exact True.intro | rfl) ?_)
  · intro k z17 z18 h
    rw [spec_l7Copy.l0] at h
    refine Run.seq ?_
    refine Run.seq ?_
    refine Run.region hL hT [] (by cbv) ?_ ?_
    · exact (hq trivial (hq trivial hq0))
    rw [show ln (eRowS_i a0v_Tables) = lenI_RowS a0v_Tables from ln_eq RowS_i _]
    refine Run.cond (by cbv) (hq0) (fun c19 => ?_) (fun c19 => ?_)
    · have h := if_t c19 h
      refine Run.skip ?_
      refine Run.seq ?_
      refine Run.block ?_
      obtain ⟨x20, h_x20, h⟩ := bnd h
      obtain ⟨r21, h_r21, h⟩ := bnd h
      obtain ⟨l22, h_l22, h⟩ := bnd h
      obtain ⟨l23, h_l23, h⟩ := bnd h
      refine Run.draw hL hT hM [(5, .el [.im false (eRow_i x20)]), (7, .call [false] [.v (.jk)] [.v (.ow 38 (eRow_o r21))])] (by cbv) (by cbv) (by cbv) (by cbv) (by cbv) ?_ ?_
      · exact (hq trivial (hq trivial (hq (get_le h_x20) (hq (get_lt (f := RowS_i) h_x20) (hq (get_ge (f := RowS_i) h_x20) (hq (hC (spec_l6Rows_ac h_r21)) (hq (app_mb (P := Try.prog) (f := RowS_o) RLe.r (some_le (f := RowS_o) h_l22 (RLe.cons rfl LLe.r RLe.nil)) h_l23) (hq trivial hq0))))))))
      refine Run.row (rows := (ap (eRowS_o z17) ([[.ow 38 (eRow_o r21)]]))) 104105 (eRowS_o l23) (by cbv) (app_le (f := RowS_o) RLe.r (some_le (f := RowS_o) h_l22 (RLe.cons rfl LLe.r RLe.nil)) h_l23) ?_
      refine Run.region hL hT [] (by cbv) ?_ ?_
      · exact (hq trivial hq0)
      refine ⟨l23, (ar .add .i64 z18 1), h, Weak.of _ [(1, 1), (2, 2), (3, 3), (4, 4), (5, 104105)] hA (by cbv) ?_⟩
      repeat (first | exact hq0 | refine hq (by first | exact True.intro | rfl) ?_)
    · have h := if_f c19 h
      refine Run.exit ?_
      refine Run.seq ?_
      refine Run.region hL hT [] (by cbv) ?_ ?_
      · exact (hq trivial (hq trivial hq0))
      refine Run.ret ?_
      cases h
      refine ⟨_, _, by cbv, ?_, ?_⟩
      · exact LLe.r
      · exact (ALe.ag rfl LLe.r ALe.nil)

set_option maxRecDepth 8000 in
theorem spec_MutOk_ac {a0v_Cols : List Int} {a1v_Kind : Int} {a1v_Table : Int} {a1v_Rowv_Id : Int} {a1v_Rowv_Cells : List Int} {r : Bool} (h : spec_MutOk.f (Schema.mk a0v_Cols) (Mut.mk a1v_Kind a1v_Table (Row.mk a1v_Rowv_Id a1v_Rowv_Cells)) = some r) : AC Try.prog 84 [.ag [.im false (rowsOf Int_c a0v_Cols)], .ag [.s (.int .i64 a1v_Kind), .s (.int .i64 a1v_Table), .s (.int .i64 a1v_Rowv_Id), .im false (rowsOf Int_c a1v_Rowv_Cells)]] [.ag [.jk], .ag [.jk, .jk, .jk, .jk]] [.v (.s (.bool r))] := by
  unfold spec_MutOk.f at h
  let ar := Ls.ar; let cm := Ls.cm; let bo := Ls.bo; let sc := Ls.sc; let sa := Ls.sa; let sx := Ls.sx; let ss := Ls.ss; let sl := Ls.sl; let bs := Ls.bs; let sb := Ls.sb; let ln := Ls.ln; let sr := Ls.sr; let ap := Ls.ap; let up := Ls.up; let rp := Ls.rp; let fr := Ls.fr; let ge := Ls.ge; let le := Ls.le; let lt := Ls.lt; let nz := Ls.nz; let mm := Ls.mm; let ma := Ls.ma; let sm := Ls.sm; let fl := Ls.fl; let al := Ls.al; let ci := Ls.ci
  let eInt_c := rowsOf Int_c
  let lenI_Int := @lenI Int
  have hL : (⟨ar, cm, bo, sc, sa, sx, ss, sl, bs, sb, ln, sr, ap, up, rp, fr, ge, le, lt, nz, mm, ma, sm, fl, al, ci⟩ : Lf) = Ls := rfl
  show AC Try.prog 84 [.ag [.im false (eInt_c a0v_Cols)], .ag [.s (.int .i64 a1v_Kind), .s (.int .i64 a1v_Table), .s (.int .i64 a1v_Rowv_Id), .im false (eInt_c a1v_Rowv_Cells)]] _ _
  refine AC.of_run2 tab_ok Try.func84 (by rfl) (by rfl) (by cbv) ⟨by decide, rfl⟩ fun F hP hA => ?_
  have hT : TabOk F.P tab := hP ▸ tab_ok
  have hM : F.P.follows .mixedOrders = true := hP ▸ mixed
  have hC : ∀ {f a o r}, AC Try.prog f a o r → AC F.P f a o r := fun h => hP ▸ h
  refine Run.seq ?_
  refine Run.region hL hT [] (by cbv) ?_ ?_
  · exact hq0
  refine Run.seq ?_
  refine Run.seq ?_
  refine Run.region hL hT [] (by cbv) ?_ ?_
  · exact (hq trivial (hq trivial hq0))
  refine Run.cond (by cbv) (hq0) (fun c1 => ?_) (fun c1 => ?_)
  · have h := if_t c1 h
    refine Run.seq ?_
    obtain ⟨r2, h_r2, h⟩ := bnd h
    obtain ⟨r3, h_r3, h⟩ := bnd h
    obtain ⟨r4, h_r4, h⟩ := bnd h
    refine Run.region hL hT [(1, .call [false] [.ag [.jk]] [.v (.s (.bool r2))]), (9, .call [false, false, false] [.v (.jk), .v (.jk), .v (.jk)] [.v (.s (.bool r3))]), (15, .call [false, false, false] [.v (.jk), .v (.jk), .v (.jk)] [.v (.s (.bool r4))])] (by cbv) ?_ ?_
    · exact (hq trivial (hq (hC (spec_SchemaOk_ac h_r2)) (hq (fun _ => hq0) (hq (fun g6 => (hq g6 (hq trivial hq0))) (hq (fun _ => hq0) (hq (fun g8 => (hq g8 (hq trivial hq0))) (hq (fun g9 => (hq g9 hq0)) (hq (fun g10 => (hq g10 (hq trivial hq0))) (hq (fun g11 => (hq g11 (hq g11 (hq (by rw [show ln (eInt_c a0v_Cols) = lenI_Int a0v_Cols from ln_eq Int_c _]; exact (hC (spec_l1In_ac (gd_t h_r3 g11)))) hq0)))) (hq (fun q12 => (hq q12 hq0)) (hq (fun _ => hq0) (hq (fun _ => hq0) (hq (fun g15 => (hq g15 hq0)) (hq (fun g16 => (hq g16 (hq trivial hq0))) (hq (fun g17 => (hq g17 (hq (hC (spec_l1In_ac (gd_t h_r4 g17))) hq0))) (hq (fun q18 => (hq q18 hq0)) (hq (fun _ => hq0) (hq (fun _ => hq0) (hq (fun g21 => (hq g21 hq0)) (hq (fun g22 => (hq g22 (hq trivial hq0))) (hq (fun g23 => (hq g23 hq0)) (hq (fun g24 => (hq g24 (hq trivial hq0))) (hq (fun q25 => (hq q25 hq0)) (hq (fun _ => hq0) hq0))))))))))))))))))))))))
    rw [show ln (eInt_c a0v_Cols) = lenI_Int a0v_Cols from ln_eq Int_c _]
    rw [show ln (eInt_c a1v_Rowv_Cells) = lenI_Int a1v_Rowv_Cells from ln_eq Int_c _]
    refine Run.ret ?_
    cases h
    refine ⟨_, _, by cbv, ?_, ?_⟩
    · exact LLe.r
    · exact (ALe.v LLe.r ALe.nil)
  · have h := if_f c1 h
    refine Run.skip ?_
    refine Run.seq ?_
    obtain ⟨r27, h_r27, h⟩ := bnd h
    obtain ⟨r28, h_r28, h⟩ := bnd h
    refine Run.region hL hT [(2, .call [false, false, false] [.v (.jk), .v (.jk), .v (.jk)] [.v (.s (.bool r27))]), (9, .call [false, false, false] [.ag [.jk], .v (.jk), .ag [.jk, .jk]] [.v (.s (.bool r28))])] (by cbv) ?_ ?_
    · exact (hq trivial (hq (hC (spec_l1In_ac h_r27)) (hq (fun g29 => (hq trivial hq0)) (hq (fun _ => hq0) (hq (fun g31 => (hq g31 (hq trivial hq0))) (hq (fun _ => hq0) (hq (fun g33 => (hq g33 (hq trivial hq0))) (hq (fun g34 => (hq g34 (hq g34 (hq g34 (hq (hC (spec_RowOk_ac (gd_t h_r28 g34))) hq0))))) (hq (fun q35 => (hq q35 hq0)) (hq (fun _ => hq0) hq0))))))))))
    refine Run.ret ?_
    cases h
    refine ⟨_, _, by cbv, ?_, ?_⟩
    · exact LLe.r
    · exact (ALe.v LLe.r ALe.nil)

set_option maxRecDepth 8000 in
theorem spec_l7Do_ac {a0v_Schemav_Cols : List Int} {a0v_Version : Int} {a0v_Tables : List (List Row)} {a1v_Kind : Int} {a1v_Table : Int} {a1v_Rowv_Id : Int} {a1v_Rowv_Cells : List Int} {r : Store × Change × Bool} (h : spec_l7Do.f (Store.mk (Schema.mk a0v_Schemav_Cols) a0v_Version a0v_Tables) (Mut.mk a1v_Kind a1v_Table (Row.mk a1v_Rowv_Id a1v_Rowv_Cells)) = some r) : AC Try.prog 85 [.ag [.ow 3 (rowsOf Int_c a0v_Schemav_Cols), .s (.int .i64 a0v_Version), .ow 72 (rowsOf RowS_o a0v_Tables)], .ag [.s (.int .i64 a1v_Kind), .s (.int .i64 a1v_Table), .s (.int .i64 a1v_Rowv_Id), .im false (rowsOf Int_c a1v_Rowv_Cells)]] [.ag [.jk, .jk, .jk], .ag [.jk, .jk, .jk, .jk]] [.ag [.ow 3 (rowsOf Int_c r.1.Schema.Cols), .s (.int .i64 r.1.Version), .ow 72 (rowsOf RowS_o r.1.Tables)], .ag [.s (.int .i64 r.2.1.Table), .s (.bool r.2.1.Had), .s (.bool r.2.1.Has), .s (.int .i64 r.2.1.Old.Id), .ow 3 (rowsOf Int_c r.2.1.Old.Cells), .s (.int .i64 r.2.1.New.Id), .ow 3 (rowsOf Int_c r.2.1.New.Cells)], .v (.s (.bool r.2.2))] := by
  unfold spec_l7Do.f at h
  let ar := Ls.ar; let cm := Ls.cm; let bo := Ls.bo; let sc := Ls.sc; let sa := Ls.sa; let sx := Ls.sx; let ss := Ls.ss; let sl := Ls.sl; let bs := Ls.bs; let sb := Ls.sb; let ln := Ls.ln; let sr := Ls.sr; let ap := Ls.ap; let up := Ls.up; let rp := Ls.rp; let fr := Ls.fr; let ge := Ls.ge; let le := Ls.le; let lt := Ls.lt; let nz := Ls.nz; let mm := Ls.mm; let ma := Ls.ma; let sm := Ls.sm; let fl := Ls.fl; let al := Ls.al; let ci := Ls.ci
  let eInt_c := rowsOf Int_c
  let eRowS_o := rowsOf RowS_o
  let eRow_o := rowsOf Row_o
  let lenI_Row := @lenI Row
  have hL : (⟨ar, cm, bo, sc, sa, sx, ss, sl, bs, sb, ln, sr, ap, up, rp, fr, ge, le, lt, nz, mm, ma, sm, fl, al, ci⟩ : Lf) = Ls := rfl
  show AC Try.prog 85 [.ag [.ow 3 (eInt_c a0v_Schemav_Cols), .s (.int .i64 a0v_Version), .ow 72 (eRowS_o a0v_Tables)], .ag [.s (.int .i64 a1v_Kind), .s (.int .i64 a1v_Table), .s (.int .i64 a1v_Rowv_Id), .im false (eInt_c a1v_Rowv_Cells)]] _ _
  refine AC.of_run2 tab_ok Try.func85 (by rfl) (by rfl) (by cbv) ⟨by decide, rfl⟩ fun F hP hA => ?_
  have hT : TabOk F.P tab := hP ▸ tab_ok
  have hM : F.P.follows .mixedOrders = true := hP ▸ mixed
  have hC : ∀ {f a o r}, AC Try.prog f a o r → AC F.P f a o r := fun h => hP ▸ h
  refine Run.seq ?_
  refine Run.region hL hT [] (by cbv) ?_ ?_
  · exact hq0
  refine Run.seq ?_
  obtain ⟨x1, h_x1, h⟩ := bnd h
  refine Run.weak ?_ (Weak.take (rows := eRowS_o a0v_Tables) (e2 := 38) (r2 := eRow_o x1) hT 1 a1v_Table 0 7098 1007098 (by cbv) (by cbv) (by cbv) (get_le' h_x1) (get_lt' RowS_o h_x1) ((congrArg (fun q => q[0]?) (get_ge (f := RowS_o) h_x1)).trans rfl) rfl (up (eRowS_o a0v_Tables) a1v_Table 0 [.jk]) rfl)
  refine Run.region hL hT [(5, .lk [.jk] [(0, 1007098)])] (by cbv) ?_ ?_
  · exact (hq trivial (hq trivial (hq (get_le h_x1) (hq (up_lt RowS_o h_x1) (hq trivial (hq (get_le h_x1) (hq (up_lt RowS_o h_x1) (hq (up_ge RowS_o h_x1) hq0))))))))
  refine Run.seq ?_
  obtain ⟨r2, h_r2, h⟩ := bnd h
  refine Run.region hL hT [(4, .call [false, false] [.v (.jk), .v (.jk)] [.v (.s (.int .i64 r2))])] (by cbv) ?_ ?_
  · exact (hq trivial (hq (hC (AC.args (spec_RowAt_ac h_r2) (ALe.v (LLe.im (RLe.eq (fr_row Row_o_z _))) (ALe.v LLe.r ALe.nil)))) hq0))
  refine Run.seq ?_
  refine Run.region hL hT [] (by cbv) ?_ ?_
  · exact (hq trivial (hq trivial (hq trivial (hq trivial (hq trivial (hq trivial hq0))))))
  refine Run.seq ?_
  refine Run.seq ?_
  refine Run.region hL hT [] (by cbv) ?_ ?_
  · exact (hq trivial (hq trivial (hq (fun _ => hq0) (hq (fun g4 => (hq g4 (hq trivial hq0))) (hq (fun g5 => (hq g5 (hq trivial hq0))) (hq (fun g6 => (hq g6 hq0)) (hq (fun _ => hq0) (hq (fun g8 => (hq g8 hq0)) (hq (fun g9 => (hq g9 (hq trivial hq0))) (hq (fun g10 => (hq g10 (hq (fun q11 => (hq (bo_a g10 q11) hq0)) (hq (fun _ => hq0) hq0)))) (hq (fun _ => hq0) (hq (fun q14 => (hq (bo_m q14) hq0)) hq0))))))))))))
  rw [show ln (eRow_o x1) = lenI_Row x1 from ln_eq Row_o _]
  refine Run.cond (by cbv) (hq0) (fun c15 => ?_) (fun c15 => ?_)
  · have h := if_t c15 h
    refine Run.seq ?_
    refine Run.region hL hT [] (by cbv) ?_ ?_
    · exact (hq trivial (hq trivial (hq trivial hq0)))
    refine Run.weak ?_ (Weak.back (rows := (up (eRowS_o a0v_Tables) a1v_Table 0 [.jk])) (r2 := eRow_o x1) 1 a1v_Table 0 7098 1007098 (by cbv) (by cbv) (by cbv) (by cbv) (get_le' h_x1) (up_lt RowS_o h_x1) ((congrArg (fun q => q[0]?) (up_at RowS_o h_x1)).trans rfl) (up (up (eRowS_o a0v_Tables) a1v_Table 0 [.jk]) a1v_Table 0 [.ow 38 (eRow_o x1)]) rfl)
    refine Run.weak ?_ (Weak.row (rows := (up (up (eRowS_o a0v_Tables) a1v_Table 0 [.jk]) a1v_Table 0 [.ow 38 (eRow_o x1)])) 1 (eRowS_o a0v_Tables) (by cbv) (RLe.eq (hole_eq (f := RowS_o) h_x1 rfl)))
    refine Run.weak ?_ (Weak.mvB 0 26578 4 (by cbv) (by cbv) (by cbv))
    refine Run.weak ?_ (Weak.mvB 1 26579 4 (by cbv) (by cbv) (by cbv))
    refine Run.ret ?_
    cases h
    refine ⟨_, _, by cbv, ?_, ?_⟩
    · exact LLe.r
    · exact (ALe.ag rfl LLe.r (ALe.ag rfl (LLe.c (LLe.c (LLe.c (LLe.c (LLe.cons LLe.nilO (LLe.c (LLe.cons LLe.nilO LLe.nil))))))) (ALe.v LLe.r ALe.nil)))
  · have h := if_f c15 h
    refine Run.skip ?_
    refine Run.seq ?_
    refine Run.seq ?_
    refine Run.region hL hT [] (by cbv) ?_ ?_
    · exact (hq trivial hq0)
    refine Run.cond (by cbv) (hq0) (fun c16 => ?_) (fun c16 => ?_)
    · have h := if_t c16 h
      obtain ⟨⟨x17v_Id, x17v_Cells⟩, h_x17, h⟩ := bnd h
      obtain ⟨⟨r18v_Id, r18v_Cells⟩, h_r18, h⟩ := bnd h
      refine Run.region hL hT [(3, .el [.s (.int .i64 x17v_Id), .ow 3 (eInt_c x17v_Cells)]), (4, .call [false] [.ag [.jk, .jk]] [.ag [.s (.int .i64 r18v_Id), .ow 3 (eInt_c r18v_Cells)]])] (by cbv) ?_ ?_
      · exact (hq (get_le h_x17) (hq (get_lt (f := Row_o) h_x17) (hq (get_le h_x17) (hq (get_lt (f := Row_o) h_x17) (hq (get_ge (f := Row_o) h_x17) (hq (hC (AC.args (spec_l6Copy_ac h_r18) (ALe.ag rfl (LLe.c (LLe.cons (LLe.im (RLe.eq (fr_row Int_c_z _))) LLe.nil)) ALe.nil))) (hq trivial hq0)))))))
      refine Run.seq ?_
      refine Run.seq ?_
      refine Run.region hL hT [] (by cbv) ?_ ?_
      · exact (hq trivial hq0)
      refine Run.cond (by cbv) (hq0) (fun c19 => ?_) (fun c19 => ?_)
      · have h := if_t c19 h
        refine Run.seq ?_
        obtain ⟨⟨r20v_Id, r20v_Cells⟩, h_r20, h⟩ := bnd h
        refine Run.region hL hT [(2, .call [false] [.ag [.jk, .jk]] [.ag [.s (.int .i64 r20v_Id), .ow 3 (eInt_c r20v_Cells)]])] (by cbv) ?_ ?_
        · exact (hq trivial (hq (hC (spec_l6Copy_ac h_r20)) (hq trivial hq0)))
        obtain ⟨r21, h_r21, h⟩ := bnd h
        obtain ⟨l22, h_l22, h⟩ := bnd h
        refine Run.draw hL hT hM [(7, .call [false, false] [.v (.jk), .ag [.jk, .jk]] [.v (.ow 38 (eRow_o r21))])] (by cbv) (by cbv) (by cbv) (by cbv) (by cbv) ?_ ?_
        · exact (hq trivial (hq trivial (hq trivial (hq (hC (AC.args (spec_RowPut_ac h_r21) (ALe.v (LLe.im (RLe.eq (fr_row Row_o_z _))) (ALe.ag rfl LLe.r ALe.nil)))) (hq (get_le h_x1) (hq (up_lt RowS_o h_x1) (hq (get_le h_x1) (hq (up_lt RowS_o h_x1) hq0))))))))
        refine Run.row (rows := (up (up (eRowS_o a0v_Tables) a1v_Table 0 [.jk]) a1v_Table 0 [.ow 38 (eRow_o r21)])) 1 (eRowS_o l22) (by cbv) (hole_le (f := RowS_o) h_x1 h_l22 (ltn (RowS_o_n _) (by decide)) rfl LLe.r) ?_
        refine Run.seq ?_
        refine Run.draw hL hT hM [] (by cbv) (by cbv) (by cbv) (by cbv) (by cbv) ?_ ?_
        · exact (hq trivial (hq trivial (hq trivial (hq trivial hq0))))
        refine Run.weak ?_ (Weak.mvB 0 47058 4 (by cbv) (by cbv) (by cbv))
        refine Run.weak ?_ (Weak.mvB 1 47059 4 (by cbv) (by cbv) (by cbv))
        refine Run.ret ?_
        cases h
        refine ⟨_, _, by cbv, ?_, ?_⟩
        · exact LLe.r
        · exact (ALe.ag rfl LLe.r (ALe.ag rfl LLe.r (ALe.v LLe.r ALe.nil)))
      · have h := if_f c19 h
        obtain ⟨r23, h_r23, h⟩ := bnd h
        obtain ⟨l24, h_l24, h⟩ := bnd h
        refine Run.draw hL hT hM [(8, .call [false, false] [.v (.jk), .v (.jk)] [.v (.ow 38 (eRow_o r23))])] (by cbv) (by cbv) (by cbv) (by cbv) (by cbv) ?_ ?_
        · exact (hq trivial (hq trivial (hq trivial (hq (hC (AC.args (spec_RowDrop_ac h_r23) (ALe.v (LLe.im (RLe.eq (fr_row Row_o_z _))) (ALe.v LLe.r ALe.nil)))) (hq (get_le h_x1) (hq (up_lt RowS_o h_x1) (hq (get_le h_x1) (hq (up_lt RowS_o h_x1) hq0))))))))
        refine Run.row (rows := (up (up (eRowS_o a0v_Tables) a1v_Table 0 [.jk]) a1v_Table 0 [.ow 38 (eRow_o r23)])) 1 (eRowS_o l24) (by cbv) (hole_le (f := RowS_o) h_x1 h_l24 (ltn (RowS_o_n _) (by decide)) rfl LLe.r) ?_
        refine Run.seq ?_
        refine Run.draw hL hT hM [] (by cbv) (by cbv) (by cbv) (by cbv) (by cbv) ?_ ?_
        · exact (hq trivial (hq trivial (hq trivial (hq trivial hq0))))
        refine Run.weak ?_ (Weak.mvB 0 42962 4 (by cbv) (by cbv) (by cbv))
        refine Run.weak ?_ (Weak.mvB 1 42963 4 (by cbv) (by cbv) (by cbv))
        refine Run.ret ?_
        cases h
        refine ⟨_, _, by cbv, ?_, ?_⟩
        · exact LLe.r
        · exact (ALe.ag rfl LLe.r (ALe.ag rfl (LLe.c (LLe.c (LLe.c (LLe.c (LLe.c (LLe.c (LLe.cons LLe.nilO LLe.nil))))))) (ALe.v LLe.r ALe.nil)))
    · have h := if_f c16 h
      refine Run.skip ?_
      refine Run.seq ?_
      refine Run.seq ?_
      refine Run.region hL hT [] (by cbv) ?_ ?_
      · exact (hq trivial hq0)
      refine Run.cond (by cbv) (hq0) (fun c25 => ?_) (fun c25 => ?_)
      · have h := if_t c25 h
        refine Run.seq ?_
        obtain ⟨⟨r26v_Id, r26v_Cells⟩, h_r26, h⟩ := bnd h
        refine Run.region hL hT [(2, .call [false] [.ag [.jk, .jk]] [.ag [.s (.int .i64 r26v_Id), .ow 3 (eInt_c r26v_Cells)]])] (by cbv) ?_ ?_
        · exact (hq trivial (hq (hC (spec_l6Copy_ac h_r26)) (hq trivial hq0)))
        obtain ⟨r27, h_r27, h⟩ := bnd h
        obtain ⟨l28, h_l28, h⟩ := bnd h
        refine Run.draw hL hT hM [(7, .call [false, false] [.v (.jk), .ag [.jk, .jk]] [.v (.ow 38 (eRow_o r27))])] (by cbv) (by cbv) (by cbv) (by cbv) (by cbv) ?_ ?_
        · exact (hq trivial (hq trivial (hq trivial (hq (hC (AC.args (spec_RowPut_ac h_r27) (ALe.v (LLe.im (RLe.eq (fr_row Row_o_z _))) (ALe.ag rfl LLe.r ALe.nil)))) (hq (get_le h_x1) (hq (up_lt RowS_o h_x1) (hq (get_le h_x1) (hq (up_lt RowS_o h_x1) hq0))))))))
        refine Run.row (rows := (up (up (eRowS_o a0v_Tables) a1v_Table 0 [.jk]) a1v_Table 0 [.ow 38 (eRow_o r27)])) 1 (eRowS_o l28) (by cbv) (hole_le (f := RowS_o) h_x1 h_l28 (ltn (RowS_o_n _) (by decide)) rfl LLe.r) ?_
        refine Run.seq ?_
        refine Run.draw hL hT hM [] (by cbv) (by cbv) (by cbv) (by cbv) (by cbv) ?_ ?_
        · exact (hq trivial (hq trivial (hq trivial (hq trivial hq0))))
        refine Run.weak ?_ (Weak.mvB 0 42962 4 (by cbv) (by cbv) (by cbv))
        refine Run.weak ?_ (Weak.mvB 1 42963 4 (by cbv) (by cbv) (by cbv))
        refine Run.ret ?_
        cases h
        refine ⟨_, _, by cbv, ?_, ?_⟩
        · exact LLe.r
        · exact (ALe.ag rfl LLe.r (ALe.ag rfl (LLe.c (LLe.c (LLe.c (LLe.c (LLe.cons LLe.nilO (LLe.c (LLe.c LLe.nil))))))) (ALe.v LLe.r ALe.nil)))
      · have h := if_f c25 h
        obtain ⟨r29, h_r29, h⟩ := bnd h
        obtain ⟨l30, h_l30, h⟩ := bnd h
        refine Run.draw hL hT hM [(8, .call [false, false] [.v (.jk), .v (.jk)] [.v (.ow 38 (eRow_o r29))])] (by cbv) (by cbv) (by cbv) (by cbv) (by cbv) ?_ ?_
        · exact (hq trivial (hq trivial (hq trivial (hq (hC (AC.args (spec_RowDrop_ac h_r29) (ALe.v (LLe.im (RLe.eq (fr_row Row_o_z _))) (ALe.v LLe.r ALe.nil)))) (hq (get_le h_x1) (hq (up_lt RowS_o h_x1) (hq (get_le h_x1) (hq (up_lt RowS_o h_x1) hq0))))))))
        refine Run.row (rows := (up (up (eRowS_o a0v_Tables) a1v_Table 0 [.jk]) a1v_Table 0 [.ow 38 (eRow_o r29)])) 1 (eRowS_o l30) (by cbv) (hole_le (f := RowS_o) h_x1 h_l30 (ltn (RowS_o_n _) (by decide)) rfl LLe.r) ?_
        refine Run.seq ?_
        refine Run.draw hL hT hM [] (by cbv) (by cbv) (by cbv) (by cbv) (by cbv) ?_ ?_
        · exact (hq trivial (hq trivial (hq trivial (hq trivial hq0))))
        refine Run.weak ?_ (Weak.mvB 0 38866 4 (by cbv) (by cbv) (by cbv))
        refine Run.weak ?_ (Weak.mvB 1 38867 4 (by cbv) (by cbv) (by cbv))
        refine Run.ret ?_
        cases h
        refine ⟨_, _, by cbv, ?_, ?_⟩
        · exact LLe.r
        · exact (ALe.ag rfl LLe.r (ALe.ag rfl (LLe.c (LLe.c (LLe.c (LLe.c (LLe.cons LLe.nilO (LLe.c (LLe.cons LLe.nilO LLe.nil))))))) (ALe.v LLe.r ALe.nil)))

set_option maxRecDepth 8000 in
theorem spec_MutDo_ac {a0v_Schemav_Cols : List Int} {a0v_Version : Int} {a0v_Tables : List (List Row)} {a1v_Kind : Int} {a1v_Table : Int} {a1v_Rowv_Id : Int} {a1v_Rowv_Cells : List Int} {r : Store × Change × Bool} (h : spec_MutDo.f (Store.mk (Schema.mk a0v_Schemav_Cols) a0v_Version a0v_Tables) (Mut.mk a1v_Kind a1v_Table (Row.mk a1v_Rowv_Id a1v_Rowv_Cells)) = some r) : AC Try.prog 49 [.ag [.im false (rowsOf Int_c a0v_Schemav_Cols), .s (.int .i64 a0v_Version), .im false (rowsOf RowS_i a0v_Tables)], .ag [.s (.int .i64 a1v_Kind), .s (.int .i64 a1v_Table), .s (.int .i64 a1v_Rowv_Id), .im false (rowsOf Int_c a1v_Rowv_Cells)]] [.ag [.jk, .jk, .jk], .ag [.jk, .jk, .jk, .jk]] [.ag [.ow 3 (rowsOf Int_c r.1.Schema.Cols), .s (.int .i64 r.1.Version), .ow 72 (rowsOf RowS_o r.1.Tables)], .ag [.s (.int .i64 r.2.1.Table), .s (.bool r.2.1.Had), .s (.bool r.2.1.Has), .s (.int .i64 r.2.1.Old.Id), .ow 3 (rowsOf Int_c r.2.1.Old.Cells), .s (.int .i64 r.2.1.New.Id), .ow 3 (rowsOf Int_c r.2.1.New.Cells)], .v (.s (.bool r.2.2))] := by
  unfold spec_MutDo.f at h
  let ar := Ls.ar; let cm := Ls.cm; let bo := Ls.bo; let sc := Ls.sc; let sa := Ls.sa; let sx := Ls.sx; let ss := Ls.ss; let sl := Ls.sl; let bs := Ls.bs; let sb := Ls.sb; let ln := Ls.ln; let sr := Ls.sr; let ap := Ls.ap; let up := Ls.up; let rp := Ls.rp; let fr := Ls.fr; let ge := Ls.ge; let le := Ls.le; let lt := Ls.lt; let nz := Ls.nz; let mm := Ls.mm; let ma := Ls.ma; let sm := Ls.sm; let fl := Ls.fl; let al := Ls.al; let ci := Ls.ci
  let eInt_c := rowsOf Int_c
  let eRowS_i := rowsOf RowS_i
  let eRowS_o := rowsOf RowS_o
  have hL : (⟨ar, cm, bo, sc, sa, sx, ss, sl, bs, sb, ln, sr, ap, up, rp, fr, ge, le, lt, nz, mm, ma, sm, fl, al, ci⟩ : Lf) = Ls := rfl
  show AC Try.prog 49 [.ag [.im false (eInt_c a0v_Schemav_Cols), .s (.int .i64 a0v_Version), .im false (eRowS_i a0v_Tables)], .ag [.s (.int .i64 a1v_Kind), .s (.int .i64 a1v_Table), .s (.int .i64 a1v_Rowv_Id), .im false (eInt_c a1v_Rowv_Cells)]] _ _
  refine AC.of_run2 tab_ok Try.func49 (by rfl) (by rfl) (by cbv) ⟨by decide, rfl⟩ fun F hP hA => ?_
  have hT : TabOk F.P tab := hP ▸ tab_ok
  have hM : F.P.follows .mixedOrders = true := hP ▸ mixed
  have hC : ∀ {f a o r}, AC Try.prog f a o r → AC F.P f a o r := fun h => hP ▸ h
  refine Run.seq ?_
  refine Run.region hL hT [] (by cbv) ?_ ?_
  · exact hq0
  refine Run.seq ?_
  refine Run.seq ?_
  obtain ⟨r1, h_r1, h⟩ := bnd h
  refine Run.region hL hT [(1, .call [false] [.ag [.jk, .jk, .jk]] [.v (.s (.bool r1))])] (by cbv) ?_ ?_
  · exact (hq trivial (hq (hC (spec_StoreOk_ac h_r1)) hq0))
  refine Run.cond (by cbv) (hq0) (fun c2 => ?_) (fun c2 => ?_)
  · have h := if_t c2 h
    refine Run.seq ?_
    refine Run.region hL hT [] (by cbv) ?_ ?_
    · exact (hq trivial (hq trivial hq0))
    refine Run.ret ?_
    cases h
    refine ⟨_, _, by cbv, ?_, ?_⟩
    · exact LLe.r
    · exact (ALe.ag rfl (LLe.cons LLe.nilO (LLe.c (LLe.cons LLe.nilO LLe.nil))) (ALe.ag rfl (LLe.c (LLe.c (LLe.c (LLe.c (LLe.cons LLe.nilO (LLe.c (LLe.cons LLe.nilO LLe.nil))))))) (ALe.v LLe.r ALe.nil)))
  · have h := if_f c2 h
    refine Run.skip ?_
    refine Run.seq ?_
    refine Run.seq ?_
    obtain ⟨r3, h_r3, h⟩ := bnd h
    refine Run.region hL hT [(3, .call [false, false] [.ag [.jk], .ag [.jk, .jk, .jk, .jk]] [.v (.s (.bool r3))])] (by cbv) ?_ ?_
    · exact (hq trivial (hq trivial (hq (hC (spec_MutOk_ac h_r3)) hq0)))
    refine Run.cond (by cbv) (hq0) (fun c4 => ?_) (fun c4 => ?_)
    · have h := if_t c4 h
      refine Run.seq ?_
      obtain ⟨⟨⟨r5v_Schemav_Cols⟩, r5v_Version, r5v_Tables⟩, h_r5, h⟩ := bnd h
      refine Run.region hL hT [(1, .call [false] [.ag [.jk, .jk, .jk]] [.ag [.ow 3 (eInt_c r5v_Schemav_Cols), .s (.int .i64 r5v_Version), .ow 72 (eRowS_o r5v_Tables)]])] (by cbv) ?_ ?_
      · exact (hq trivial (hq (hC (spec_l7Copy_ac h_r5)) (hq trivial (hq trivial hq0))))
      refine Run.ret ?_
      cases h
      refine ⟨_, _, by cbv, ?_, ?_⟩
      · exact LLe.r
      · exact (ALe.ag rfl LLe.r (ALe.ag rfl (LLe.c (LLe.c (LLe.c (LLe.c (LLe.cons LLe.nilO (LLe.c (LLe.cons LLe.nilO LLe.nil))))))) (ALe.v LLe.r ALe.nil)))
    · have h := if_f c4 h
      refine Run.skip ?_
      refine Run.seq ?_
      obtain ⟨⟨⟨r6v_Schemav_Cols⟩, r6v_Version, r6v_Tables⟩, h_r6, h⟩ := bnd h
      obtain ⟨⟨⟨⟨r7v_1v_Schemav_Cols⟩, r7v_1v_Version, r7v_1v_Tables⟩, ⟨r7v_2v_1v_Table, r7v_2v_1v_Had, r7v_2v_1v_Has, ⟨r7v_2v_1v_Oldv_Id, r7v_2v_1v_Oldv_Cells⟩, ⟨r7v_2v_1v_Newv_Id, r7v_2v_1v_Newv_Cells⟩⟩, r7v_2v_2⟩, h_r7, h⟩ := bnd h
      refine Run.draw hL hT hM [(1, .call [false] [.ag [.jk, .jk, .jk]] [.ag [.ow 3 (eInt_c r6v_Schemav_Cols), .s (.int .i64 r6v_Version), .ow 72 (eRowS_o r6v_Tables)]]), (3, .call [true, false] [.ag [.jk, .jk, .jk], .ag [.jk, .jk, .jk, .jk]] [.ag [.ow 3 (eInt_c r7v_1v_Schemav_Cols), .s (.int .i64 r7v_1v_Version), .ow 72 (eRowS_o r7v_1v_Tables)], .ag [.s (.int .i64 r7v_2v_1v_Table), .s (.bool r7v_2v_1v_Had), .s (.bool r7v_2v_1v_Has), .s (.int .i64 r7v_2v_1v_Oldv_Id), .ow 3 (eInt_c r7v_2v_1v_Oldv_Cells), .s (.int .i64 r7v_2v_1v_Newv_Id), .ow 3 (eInt_c r7v_2v_1v_Newv_Cells)], .v (.s (.bool r7v_2v_2))])] (by cbv) (by cbv) (by cbv) (by cbv) (by cbv) ?_ ?_
      · exact (hq trivial (hq (hC (spec_l7Copy_ac h_r6)) (hq trivial (hq (hC (spec_l7Do_ac h_r7)) (hq trivial (hq trivial hq0))))))
      refine Run.seq ?_
      refine Run.seq ?_
      refine Run.region hL hT [] (by cbv) ?_ ?_
      · exact hq0
      refine Run.cond (by cbv) (hq0) (fun c8 => ?_) (fun c8 => ?_)
      · have h := if_t c8 h
        refine Run.seq ?_
        obtain ⟨⟨⟨r9v_Schemav_Cols⟩, r9v_Version, r9v_Tables⟩, h_r9, h⟩ := bnd h
        refine Run.region hL hT [(1, .call [false] [.ag [.jk, .jk, .jk]] [.ag [.ow 3 (eInt_c r9v_Schemav_Cols), .s (.int .i64 r9v_Version), .ow 72 (eRowS_o r9v_Tables)]])] (by cbv) ?_ ?_
        · exact (hq trivial (hq (hC (spec_l7Copy_ac h_r9)) (hq trivial (hq trivial hq0))))
        refine Run.ret ?_
        cases h
        refine ⟨_, _, by cbv, ?_, ?_⟩
        · exact LLe.r
        · exact (ALe.ag rfl LLe.r (ALe.ag rfl (LLe.c (LLe.c (LLe.c (LLe.c (LLe.cons LLe.nilO (LLe.c (LLe.cons LLe.nilO LLe.nil))))))) (ALe.v LLe.r ALe.nil)))
      · have h := if_f c8 h
        refine Run.skip ?_
        refine Run.seq ?_
        refine Run.draw hL hT hM [] (by cbv) (by cbv) (by cbv) (by cbv) (by cbv) ?_ ?_
        · exact (hq trivial (hq trivial (hq trivial (hq trivial hq0))))
        refine Run.ret ?_
        cases h
        refine ⟨_, _, by cbv, ?_, ?_⟩
        · exact LLe.r
        · exact (ALe.ag rfl LLe.r (ALe.ag rfl LLe.r (ALe.v LLe.r ALe.nil)))

set_option maxRecDepth 8000 in
theorem spec_l1Once_ac {a0v_b : List Int} {a0v_i : Int} {a0v_h : Int} {a1 : Int} {r : l1Cur × Bool} (h : spec_l1Once.f (l1Cur.mk a0v_b a0v_i a0v_h) a1 = some r) : AC Try.prog 51 [.v (.bx 88 [.im true (rowsOf u8_c a0v_b), .s (.int .i64 a0v_i), .s (.int .i64 a0v_h)]), .v (.s (.int .i64 a1))] [.v (.bx 88 [.im true (rowsOf u8_c a0v_b), .s (.int .i64 r.1.i), .s (.int .i64 r.1.h)]), .v (.jk)] [.v (.s (.bool r.2))] := by
  unfold spec_l1Once.f at h
  let ar := Ls.ar; let cm := Ls.cm; let bo := Ls.bo; let sc := Ls.sc; let sa := Ls.sa; let sx := Ls.sx; let ss := Ls.ss; let sl := Ls.sl; let bs := Ls.bs; let sb := Ls.sb; let ln := Ls.ln; let sr := Ls.sr; let ap := Ls.ap; let up := Ls.up; let rp := Ls.rp; let fr := Ls.fr; let ge := Ls.ge; let le := Ls.le; let lt := Ls.lt; let nz := Ls.nz; let mm := Ls.mm; let ma := Ls.ma; let sm := Ls.sm; let fl := Ls.fl; let al := Ls.al; let ci := Ls.ci
  let eu8_c := rowsOf u8_c
  have hL : (⟨ar, cm, bo, sc, sa, sx, ss, sl, bs, sb, ln, sr, ap, up, rp, fr, ge, le, lt, nz, mm, ma, sm, fl, al, ci⟩ : Lf) = Ls := rfl
  show AC Try.prog 51 [.v (.bx 88 [.im true (eu8_c a0v_b), .s (.int .i64 a0v_i), .s (.int .i64 a0v_h)]), .v (.s (.int .i64 a1))] _ _
  refine AC.of_run2 tab_ok Try.func51 (by rfl) (by rfl) (by cbv) ⟨by decide, rfl⟩ fun F hP hA => ?_
  have hT : TabOk F.P tab := hP ▸ tab_ok
  have hM : F.P.follows .mixedOrders = true := hP ▸ mixed
  have hC : ∀ {f a o r}, AC Try.prog f a o r → AC F.P f a o r := fun h => hP ▸ h
  refine Run.seq ?_
  refine Run.region hL hT [] (by cbv) ?_ ?_
  · exact hq0
  refine Run.seq ?_
  obtain ⟨⟨⟨r1v_1v_b, r1v_1v_i, r1v_1v_h⟩, r1v_2⟩, h_r1, h⟩ := bnd h
  refine Run.region hL hT [(2, .call [true, false] [.v (.bx 88 [.im true (eu8_c a0v_b), .s (.int .i64 r1v_1v_i), .s (.int .i64 r1v_1v_h)]), .v (.jk)] [.v (.s (.int .i64 r1v_2))])] (by cbv) ?_ ?_
  · exact (hq (hC (spec_l1Below_ac h_r1)) (hq trivial hq0))
  refine Run.ret ?_
  cases h
  refine ⟨_, _, by cbv, ?_, ?_⟩
  · exact LLe.r
  · exact (ALe.v LLe.r ALe.nil)

set_option maxRecDepth 8000 in
theorem spec_l1Max_ac {a0 : Int} {a1 : Int} {r : Int} (h : spec_l1Max.f a0 a1 = some r) : AC Try.prog 86 [.v (.s (.int .i64 a0)), .v (.s (.int .i64 a1))] [.v (.jk), .v (.jk)] [.v (.s (.int .i64 r))] := by
  unfold spec_l1Max.f at h
  let ar := Ls.ar; let cm := Ls.cm; let bo := Ls.bo; let sc := Ls.sc; let sa := Ls.sa; let sx := Ls.sx; let ss := Ls.ss; let sl := Ls.sl; let bs := Ls.bs; let sb := Ls.sb; let ln := Ls.ln; let sr := Ls.sr; let ap := Ls.ap; let up := Ls.up; let rp := Ls.rp; let fr := Ls.fr; let ge := Ls.ge; let le := Ls.le; let lt := Ls.lt; let nz := Ls.nz; let mm := Ls.mm; let ma := Ls.ma; let sm := Ls.sm; let fl := Ls.fl; let al := Ls.al; let ci := Ls.ci
  have hL : (⟨ar, cm, bo, sc, sa, sx, ss, sl, bs, sb, ln, sr, ap, up, rp, fr, ge, le, lt, nz, mm, ma, sm, fl, al, ci⟩ : Lf) = Ls := rfl
  show AC Try.prog 86 [.v (.s (.int .i64 a0)), .v (.s (.int .i64 a1))] _ _
  refine AC.of_run2 tab_ok Try.func86 (by rfl) (by rfl) (by cbv) ⟨by decide, rfl⟩ fun F hP hA => ?_
  have hT : TabOk F.P tab := hP ▸ tab_ok
  have hM : F.P.follows .mixedOrders = true := hP ▸ mixed
  have hC : ∀ {f a o r}, AC Try.prog f a o r → AC F.P f a o r := fun h => hP ▸ h
  refine Run.seq ?_
  refine Run.region hL hT [] (by cbv) ?_ ?_
  · exact hq0
  refine Run.seq ?_
  refine Run.seq ?_
  refine Run.region hL hT [] (by cbv) ?_ ?_
  · exact (hq trivial hq0)
  refine Run.cond (by cbv) (hq0) (fun c1 => ?_) (fun c1 => ?_)
  · have h := if_t c1 h
    refine Run.seq ?_
    refine Run.region hL hT [] (by cbv) ?_ ?_
    · exact hq0
    refine Run.ret ?_
    cases h
    refine ⟨_, _, by cbv, ?_, ?_⟩
    · exact LLe.r
    · exact (ALe.v LLe.r ALe.nil)
  · have h := if_f c1 h
    refine Run.skip ?_
    refine Run.seq ?_
    refine Run.region hL hT [] (by cbv) ?_ ?_
    · exact hq0
    refine Run.ret ?_
    cases h
    refine ⟨_, _, by cbv, ?_, ?_⟩
    · exact LLe.r
    · exact (ALe.v LLe.r ALe.nil)

set_option maxRecDepth 8000 in
theorem spec_l7DrawMut_ac {a0v_b : List Int} {a0v_i : Int} {a0v_h : Int} {a1v_Schemav_Cols : List Int} {a1v_Version : Int} {a1v_Tables : List (List Row)} {r : l1Cur × Mut} (h : spec_l7DrawMut.f (l1Cur.mk a0v_b a0v_i a0v_h) (Store.mk (Schema.mk a1v_Schemav_Cols) a1v_Version a1v_Tables) = some r) : AC Try.prog 50 [.v (.bx 88 [.im true (rowsOf u8_c a0v_b), .s (.int .i64 a0v_i), .s (.int .i64 a0v_h)]), .ag [.im false (rowsOf Int_c a1v_Schemav_Cols), .s (.int .i64 a1v_Version), .im false (rowsOf RowS_i a1v_Tables)]] [.v (.bx 88 [.im true (rowsOf u8_c a0v_b), .s (.int .i64 r.1.i), .s (.int .i64 r.1.h)]), .ag [.jk, .jk, .jk]] [.ag [.s (.int .i64 r.2.Kind), .s (.int .i64 r.2.Table), .s (.int .i64 r.2.Row.Id), .ow 3 (rowsOf Int_c r.2.Row.Cells)]] := by
  unfold spec_l7DrawMut.f at h
  let ar := Ls.ar; let cm := Ls.cm; let bo := Ls.bo; let sc := Ls.sc; let sa := Ls.sa; let sx := Ls.sx; let ss := Ls.ss; let sl := Ls.sl; let bs := Ls.bs; let sb := Ls.sb; let ln := Ls.ln; let sr := Ls.sr; let ap := Ls.ap; let up := Ls.up; let rp := Ls.rp; let fr := Ls.fr; let ge := Ls.ge; let le := Ls.le; let lt := Ls.lt; let nz := Ls.nz; let mm := Ls.mm; let ma := Ls.ma; let sm := Ls.sm; let fl := Ls.fl; let al := Ls.al; let ci := Ls.ci
  let eInt_c := rowsOf Int_c
  let eRowS_i := rowsOf RowS_i
  let eRow_i := rowsOf Row_i
  let eu8_c := rowsOf u8_c
  let lenI_Int := @lenI Int
  let lenI_Row := @lenI Row
  let lenI_RowS := @lenI (List Row)
  have hL : (⟨ar, cm, bo, sc, sa, sx, ss, sl, bs, sb, ln, sr, ap, up, rp, fr, ge, le, lt, nz, mm, ma, sm, fl, al, ci⟩ : Lf) = Ls := rfl
  show AC Try.prog 50 [.v (.bx 88 [.im true (eu8_c a0v_b), .s (.int .i64 a0v_i), .s (.int .i64 a0v_h)]), .ag [.im false (eInt_c a1v_Schemav_Cols), .s (.int .i64 a1v_Version), .im false (eRowS_i a1v_Tables)]] _ _
  refine AC.of_run2 tab_ok Try.func50 (by rfl) (by rfl) (by cbv) ⟨by decide, rfl⟩ fun F hP hA => ?_
  have hT : TabOk F.P tab := hP ▸ tab_ok
  have hM : F.P.follows .mixedOrders = true := hP ▸ mixed
  have hC : ∀ {f a o r}, AC Try.prog f a o r → AC F.P f a o r := fun h => hP ▸ h
  refine Run.seq ?_
  refine Run.region hL hT [] (by cbv) ?_ ?_
  · exact hq0
  refine Run.seq ?_
  obtain ⟨r1, h_r1, h⟩ := bnd h
  obtain ⟨⟨⟨r2v_1v_b, r2v_1v_i, r2v_1v_h⟩, r2v_2⟩, h_r2, h⟩ := bnd h
  refine Run.region hL hT [(4, .call [false, false] [.v (.jk), .v (.jk)] [.v (.s (.int .i64 r1))]), (5, .call [true, false] [.v (.bx 88 [.im true (eu8_c a0v_b), .s (.int .i64 r2v_1v_i), .s (.int .i64 r2v_1v_h)]), .v (.jk)] [.v (.s (.int .i64 r2v_2))])] (by cbv) ?_ ?_
  · exact (hq trivial (hq (by rw [show ln (eRowS_i a1v_Tables) = lenI_RowS a1v_Tables from ln_eq RowS_i _]; exact (hC (spec_l1Max_ac h_r1))) (hq (hC (spec_l1Below_ac h_r2)) hq0)))
  rw [show ln (eRowS_i a1v_Tables) = lenI_RowS a1v_Tables from ln_eq RowS_i _]
  refine Run.seq ?_
  refine Run.seq ?_
  refine Run.region hL hT [] (by cbv) ?_ ?_
  · exact (hq trivial (hq trivial (hq (fun _ => hq0) (hq (fun _ => hq0) (hq (fun g5 => (by have g5C := g5; rw [show ln (eRowS_i a1v_Tables) = lenI_RowS a1v_Tables from ln_eq RowS_i _] at g5C; exact (hq g5 hq0))) (hq (fun g6 => (by have g6C := g6; rw [show ln (eRowS_i a1v_Tables) = lenI_RowS a1v_Tables from ln_eq RowS_i _] at g6C; exact (hq g6 (hq trivial hq0)))) (hq (fun g7 => (by have g7C := g7; rw [show ln (eRowS_i a1v_Tables) = lenI_RowS a1v_Tables from ln_eq RowS_i _] at g7C; exact (hq g7 hq0))) (hq (fun g8 => (by have g8C := g8; rw [show ln (eRowS_i a1v_Tables) = lenI_RowS a1v_Tables from ln_eq RowS_i _] at g8C; exact (hq g8 (hq g8 (hq trivial hq0))))) (hq (fun _ => hq0) (hq (fun q10 => (by have q10C := q10; rw [show ln (eRowS_i a1v_Tables) = lenI_RowS a1v_Tables from ln_eq RowS_i _] at q10C; exact (hq (bo_m q10) hq0))) hq0))))))))))
  rw [show ln (eInt_c a1v_Schemav_Cols) = lenI_Int a1v_Schemav_Cols from ln_eq Int_c _]
  rw [show ln (eRowS_i a1v_Tables) = lenI_RowS a1v_Tables from ln_eq RowS_i _]
  refine Run.cond (by cbv) (hq0) (fun c11 => ?_) (fun c11 => ?_)
  · have h := if_t c11 h
    refine Run.seq ?_
    refine Run.region hL hT [] (by cbv) ?_ ?_
    · exact (hq trivial hq0)
    refine Run.ret ?_
    cases h
    refine ⟨_, _, by cbv, ?_, ?_⟩
    · exact LLe.r
    · exact (ALe.ag rfl (LLe.c (LLe.c (LLe.c (LLe.cons LLe.nilO LLe.nil)))) ALe.nil)
  · have h := if_f c11 h
    refine Run.skip ?_
    refine Run.seq ?_
    obtain ⟨⟨⟨r12v_1v_b, r12v_1v_i, r12v_1v_h⟩, r12v_2⟩, h_r12, h⟩ := bnd h
    obtain ⟨x13, h_x13, h⟩ := bnd h
    obtain ⟨⟨⟨r14v_1v_b, r14v_1v_i, r14v_1v_h⟩, ⟨r14v_2v_Id, r14v_2v_Cells⟩⟩, h_r14, h⟩ := bnd h
    refine Run.draw hL hT hM [(1, .call [true, false] [.v (.bx 88 [.im true (eu8_c a0v_b), .s (.int .i64 r12v_1v_i), .s (.int .i64 r12v_1v_h)]), .v (.jk)] [.v (.s (.int .i64 r12v_2))]), (9, .el [.s (.int .i64 x13)]), (11, .call [true, false] [.v (.bx 88 [.im true (eu8_c a0v_b), .s (.int .i64 r14v_1v_i), .s (.int .i64 r14v_1v_h)]), .v (.jk)] [.ag [.s (.int .i64 r14v_2v_Id), .ow 3 (eInt_c r14v_2v_Cells)]])] (by cbv) (by cbv) (by cbv) (by cbv) (by cbv) ?_ ?_
    · exact (hq (hC (spec_l1Below_ac h_r12)) (hq trivial (hq trivial (hq (get_le h_x13) (hq (get_lt (f := Int_c) h_x13) (hq (get_ge (f := Int_c) h_x13) (hq (hC (spec_l6DrawRow_ac h_r14)) (hq trivial hq0))))))))
    obtain ⟨K19, h_K19, h⟩ := joinE h
    refine Run.join4 K19 (r := r) (fun (y15 : Int) (y16 : Int) (y17 : Int) (y18 : Int) => ⟨102, 100000, [(0, .pt 0 0 0), (4, .pt 1 0 0), (6, .pt 2 0 0)], [(0, .box 88 [.t (.im true (eu8_c a0v_b)), .t (.s (.int .i64 y15)), .t (.s (.int .i64 y16))]), (1, .box 78 [.t (.s (.int .i64 0)), .t (.s (.int .i64 0)), .t (.s (.int .i64 0)), .t (.s (.slice none 0 0))]), (2, .box 78 [.t (.s (.int .i64 y17)), .t (.s (.int .i64 r2v_2)), .t (.s (.int .i64 y18)), .rf 3]), (3, .row 0 3 1 (eInt_c r14v_2v_Cells))]⟩) ?_ ?_
    · skip
      refine Run.seq ?_
      obtain ⟨x20, h_x20, h⟩ := bnd h
      obtain ⟨⟨⟨r21v_1v_b, r21v_1v_i, r21v_1v_h⟩, r21v_2⟩, h_r21, h⟩ := bnd h
      refine Run.region hL hT [(7, .el [.im false (eRow_i x20)]), (14, .call [true, false] [.v (.bx 88 [.im true (eu8_c a0v_b), .s (.int .i64 r21v_1v_i), .s (.int .i64 r21v_1v_h)]), .v (.jk)] [.v (.s (.bool r21v_2))])] (by cbv) ?_ ?_
      · exact (hq trivial (hq trivial (hq (fun _ => hq0) (hq (fun g23 => (hq g23 (hq trivial hq0))) (hq (fun _ => hq0) (hq (fun g25 => (hq g25 (hq g25 (hq (get_le (gd_t h_x20 g25)) (hq (get_lt (f := RowS_i) (gd_t h_x20 g25)) (hq (get_ge (f := RowS_i) (gd_t h_x20 g25)) hq0)))))) (hq (fun g26 => (hq g26 hq0)) (hq (fun g27 => (hq g27 hq0)) (hq (fun g28 => (hq g28 (hq trivial hq0))) (hq (fun q29 => (hq q29 hq0)) (hq (fun _ => hq0) (hq (fun _ => hq0) (hq (fun g32 => (by have g32C := g32; rw [show ln (eRow_i x20) = lenI_Row x20 from ln_eq Row_i _] at g32C; exact (hq g32 (hq (hC (spec_l1Once_ac (gd_t h_r21 g32C))) hq0)))) (hq trivial (hq trivial (hq trivial (hq (fun g33 => (by have g33C := g33; rw [show ln (eRow_i x20) = lenI_Row x20 from ln_eq Row_i _] at g33C; exact (hq g33 hq0))) (hq (fun q34 => (by have q34C := q34; rw [show ln (eRow_i x20) = lenI_Row x20 from ln_eq Row_i _] at q34C; exact (hq q34 hq0))) (hq (fun _ => hq0) hq0)))))))))))))))))))
      rw [show ln (eRow_i x20) = lenI_Row x20 from ln_eq Row_i _]
      refine Run.cond (by cbv) (hq0) (fun c36 => ?_) (fun c36 => ?_)
      · have h := if_t c36 h
        obtain ⟨x37, h_x37, h⟩ := bnd h
        obtain ⟨⟨⟨r38v_1v_b, r38v_1v_i, r38v_1v_h⟩, r38v_2⟩, h_r38, h⟩ := bnd h
        obtain ⟨⟨x39v_Id, x39v_Cells⟩, h_x39, h⟩ := bnd h
        refine Run.draw hL hT hM [(3, .el [.im false (eRow_i x37)]), (9, .el [.im false (eRow_i x37)]), (12, .call [true, false] [.v (.bx 88 [.im true (eu8_c a0v_b), .s (.int .i64 r38v_1v_i), .s (.int .i64 r38v_1v_h)]), .v (.jk)] [.v (.s (.int .i64 r38v_2))]), (13, .el [.s (.int .i64 x39v_Id), .im false (eInt_c x39v_Cells)])] (by cbv) (by cbv) (by cbv) (by cbv) (by cbv) ?_ ?_
        · exact (hq trivial (hq (get_le h_x37) (hq (get_lt (f := RowS_i) h_x37) (hq (get_ge (f := RowS_i) h_x37) (hq trivial (hq (get_le h_x37) (hq (get_lt (f := RowS_i) h_x37) (hq (get_ge (f := RowS_i) h_x37) (hq (by rw [show ln (eRow_i x37) = lenI_Row x37 from ln_eq Row_i _]; exact (hC (spec_l1Below_ac h_r38))) (hq (get_le h_x39) (hq (get_lt (f := Row_i) h_x39) (hq (get_ge (f := Row_i) h_x39) (hq trivial hq0)))))))))))))
        rw [show ln (eRow_i x37) = lenI_Row x37 from ln_eq Row_i _]
        refine ⟨r38v_1v_i, r38v_1v_h, (ar .add .i64 1 r12v_2), x39v_Id, h, Weak.of _ [(0, 0), (1, 2), (2, 12302), (3, 12300)] hA (by cbv) ?_⟩
        repeat (first | exact hq0 | refine hq (by first | exact True.intro | rfl) ?_)
      · have h := if_f c36 h
        refine Run.skip ?_
        refine ⟨(ci (bo (cm .neq (ar .add .i64 1 r12v_2) 1) (cm .gtr (lenI_Row x20) 0) false) r21v_1v_i r14v_1v_i), (ci (bo (cm .neq (ar .add .i64 1 r12v_2) 1) (cm .gtr (lenI_Row x20) 0) false) r21v_1v_h r14v_1v_h), (ar .add .i64 1 r12v_2), r14v_2v_Id, h, Weak.of _ [(0, 0), (1, 2), (2, 12302), (3, 12300)] hA (by cbv) ?_⟩
        repeat (first | exact hq0 | refine hq (by first | exact True.intro | rfl) ?_)
    · intro y15 y16 y17 y18 h
      rw [h_K19] at h
      obtain ⟨K41, h_K41, h⟩ := joinE h
      refine Run.join1 K41 (r := r) (fun (y40 : List Int) => ⟨102, 100000, [(0, .pt 0 0 0), (4, .pt 1 0 0), (6, .pt 2 0 0)], [(0, .box 88 [.t (.im true (eu8_c a0v_b)), .t (.s (.int .i64 y15)), .t (.s (.int .i64 y16))]), (1, .box 78 [.t (.s (.int .i64 0)), .t (.s (.int .i64 0)), .t (.s (.int .i64 0)), .t (.s (.slice none 0 0))]), (2, .box 78 [.t (.s (.int .i64 y17)), .t (.s (.int .i64 r2v_2)), .t (.s (.int .i64 y18)), .rf 3]), (3, .row 0 3 1 (eInt_c y40))]⟩) ?_ ?_
      · skip
        refine Run.seq ?_
        refine Run.region hL hT [] (by cbv) ?_ ?_
        · exact (hq trivial (hq trivial hq0))
        refine Run.cond (by cbv) (hq0) (fun c42 => ?_) (fun c42 => ?_)
        · have h := if_t c42 h
          refine Run.region hL hT [] (by cbv) ?_ ?_
          · exact (hq trivial hq0)
          refine ⟨[], h, (Weak.nilB (l := [.t (.s (.int .i64 y17)), .t (.s (.int .i64 r2v_2)), .t (.s (.int .i64 y18))]) hT 2 3 109192 3 rfl (by cbv) (by cbv) (by cbv)).trans (Weak.of _ [(0, 0), (1, 1), (2, 2), (3, 109192)] hA (by cbv) ?_)⟩
          repeat (first | exact hq0 | refine hq (by first | exact True.intro | rfl) ?_)
        · have h := if_f c42 h
          refine Run.skip ?_
          refine ⟨r14v_2v_Cells, h, Weak.of _ [(0, 0), (1, 1), (2, 2), (3, 3)] hA (by cbv) ?_⟩
          repeat (first | exact hq0 | refine hq (by first | exact True.intro | rfl) ?_)
      · intro y40 h
        rw [h_K41] at h
        refine Run.seq ?_
        refine Run.seq ?_
        obtain ⟨⟨⟨r43v_1v_b, r43v_1v_i, r43v_1v_h⟩, r43v_2⟩, h_r43, h⟩ := bnd h
        refine Run.region hL hT [(1, .call [true, false] [.v (.bx 88 [.im true (eu8_c a0v_b), .s (.int .i64 r43v_1v_i), .s (.int .i64 r43v_1v_h)]), .v (.jk)] [.v (.s (.int .i64 r43v_2))])] (by cbv) ?_ ?_
        · exact (hq (hC (spec_l1Below_ac h_r43)) hq0)
        refine Run.block ?_
        refine Run.seq ?_
        refine Run.region hL hT [] (by cbv) ?_ ?_
        · exact (hq trivial hq0)
        refine Run.cond (by cbv) (hq0) (fun c44 => ?_) (fun c44 => ?_)
        · have h := if_t c44 h
          obtain ⟨⟨⟨r45v_1v_b, r45v_1v_i, r45v_1v_h⟩, r45v_2⟩, h_r45, h⟩ := bnd h
          refine Run.region hL hT [(1, .call [true, false] [.v (.bx 88 [.im true (eu8_c a0v_b), .s (.int .i64 r45v_1v_i), .s (.int .i64 r45v_1v_h)]), .v (.jk)] [.v (.s (.int .i64 r45v_2))])] (by cbv) ?_ ?_
          · exact (hq (hC (spec_l1Below_ac h_r45)) (hq trivial hq0))
          refine Run.seq ?_
          refine Run.region hL hT [] (by cbv) ?_ ?_
          · exact (hq trivial (hq trivial hq0))
          refine Run.ret ?_
          cases h
          refine ⟨_, _, by cbv, ?_, ?_⟩
          · exact LLe.r
          · exact (ALe.ag rfl LLe.r ALe.nil)
        · have h := if_f c44 h
          refine Run.seq ?_
          refine Run.region hL hT [] (by cbv) ?_ ?_
          · exact (hq trivial hq0)
          refine Run.cond (by cbv) (hq0) (fun c46 => ?_) (fun c46 => ?_)
          · have h := if_t c46 h
            obtain ⟨⟨⟨r47v_1v_b, r47v_1v_i, r47v_1v_h⟩, r47v_2⟩, h_r47, h⟩ := bnd h
            refine Run.region hL hT [(1, .call [true, false] [.v (.bx 88 [.im true (eu8_c a0v_b), .s (.int .i64 r47v_1v_i), .s (.int .i64 r47v_1v_h)]), .v (.jk)] [.v (.s (.int .i64 r47v_2))])] (by cbv) ?_ ?_
            · exact (hq (hC (spec_l1Below_ac h_r47)) (hq trivial (hq trivial hq0)))
            refine Run.seq ?_
            refine Run.region hL hT [] (by cbv) ?_ ?_
            · exact (hq trivial (hq trivial hq0))
            refine Run.ret ?_
            cases h
            refine ⟨_, _, by cbv, ?_, ?_⟩
            · exact LLe.r
            · exact (ALe.ag rfl LLe.r ALe.nil)
          · have h := if_f c46 h
            refine Run.seq ?_
            refine Run.region hL hT [] (by cbv) ?_ ?_
            · exact (hq trivial hq0)
            refine Run.cond (by cbv) (hq0) (fun c48 => ?_) (fun c48 => ?_)
            · have h := if_t c48 h
              obtain ⟨l49, h_l49, h⟩ := bnd h
              obtain ⟨⟨⟨r50v_1v_b, r50v_1v_i, r50v_1v_h⟩, r50v_2⟩, h_r50, h⟩ := bnd h
              refine Run.region hL hT [(2, .call [true, false] [.v (.bx 88 [.im true (eu8_c a0v_b), .s (.int .i64 r50v_1v_i), .s (.int .i64 r50v_1v_h)]), .v (.jk)] [.v (.s (.int .i64 r50v_2))])] (by cbv) ?_ ?_
              · exact (hq (hC (AC.args (spec_l1PickInt_ac h_r50) (ALe.v LLe.r (ALe.v (fr_lit rfl (some_le (f := Int_c) h_l49 (RLe.cons rfl LLe.r (RLe.cons rfl LLe.r (RLe.cons rfl LLe.r RLe.nil))))) ALe.nil)))) (hq trivial hq0))
              refine Run.row (rows := [[.s (.int .i64 0)], [.s (.int .i64 999)], [.s (.int .i64 1000)]]) 116385 (eInt_c l49) (by cbv) (some_le (f := Int_c) h_l49 (RLe.cons rfl LLe.r (RLe.cons rfl LLe.r (RLe.cons rfl LLe.r RLe.nil)))) ?_
              refine Run.seq ?_
              refine Run.region hL hT [] (by cbv) ?_ ?_
              · exact (hq trivial (hq trivial hq0))
              refine Run.ret ?_
              cases h
              refine ⟨_, _, by cbv, ?_, ?_⟩
              · exact LLe.r
              · exact (ALe.ag rfl LLe.r ALe.nil)
            · have h := if_f c48 h
              refine Run.skip ?_
              refine Run.seq ?_
              refine Run.region hL hT [] (by cbv) ?_ ?_
              · exact (hq trivial (hq trivial hq0))
              refine Run.ret ?_
              cases h
              refine ⟨_, _, by cbv, ?_, ?_⟩
              · exact LLe.r
              · exact (ALe.ag rfl LLe.r ALe.nil)

set_option maxRecDepth 8000 in
theorem spec_DrawBack_ac {a0 : List Int} {r : Store × Change} (h : spec_DrawBack.f a0 = some r) : AC Try.prog 13 [.v (.im true (rowsOf u8_c a0))] [.v (.jk)] [.ag [.im true (rowsOf Int_c r.1.Schema.Cols), .s (.int .i64 r.1.Version), .im true (rowsOf RowS_i r.1.Tables)], .ag [.s (.int .i64 r.2.Table), .s (.bool r.2.Had), .s (.bool r.2.Has), .s (.int .i64 r.2.Old.Id), .im true (rowsOf Int_c r.2.Old.Cells), .s (.int .i64 r.2.New.Id), .im true (rowsOf Int_c r.2.New.Cells)]] := by
  unfold spec_DrawBack.f at h
  let ar := Ls.ar; let cm := Ls.cm; let bo := Ls.bo; let sc := Ls.sc; let sa := Ls.sa; let sx := Ls.sx; let ss := Ls.ss; let sl := Ls.sl; let bs := Ls.bs; let sb := Ls.sb; let ln := Ls.ln; let sr := Ls.sr; let ap := Ls.ap; let up := Ls.up; let rp := Ls.rp; let fr := Ls.fr; let ge := Ls.ge; let le := Ls.le; let lt := Ls.lt; let nz := Ls.nz; let mm := Ls.mm; let ma := Ls.ma; let sm := Ls.sm; let fl := Ls.fl; let al := Ls.al; let ci := Ls.ci
  let eInt_c := rowsOf Int_c
  let eRowS_i := rowsOf RowS_i
  let eRowS_o := rowsOf RowS_o
  let eu8_c := rowsOf u8_c
  have hL : (⟨ar, cm, bo, sc, sa, sx, ss, sl, bs, sb, ln, sr, ap, up, rp, fr, ge, le, lt, nz, mm, ma, sm, fl, al, ci⟩ : Lf) = Ls := rfl
  show AC Try.prog 13 [.v (.im true (eu8_c a0))] _ _
  refine AC.of_run2 tab_ok Try.func13 (by rfl) (by rfl) (by cbv) ⟨by decide, rfl⟩ fun F hP hA => ?_
  have hT : TabOk F.P tab := hP ▸ tab_ok
  have hM : F.P.follows .mixedOrders = true := hP ▸ mixed
  have hC : ∀ {f a o r}, AC Try.prog f a o r → AC F.P f a o r := fun h => hP ▸ h
  refine Run.seq ?_
  refine Run.region hL hT [] (by cbv) ?_ ?_
  · exact hq0
  refine Run.seq ?_
  obtain ⟨⟨r1v_b, r1v_i, r1v_h⟩, h_r1, h⟩ := bnd h
  refine Run.region hL hT [(1, .call [true] [.v (.jk)] [.v (.bx 88 [.im true (eu8_c r1v_b), .s (.int .i64 r1v_i), .s (.int .i64 r1v_h)])])] (by cbv) ?_ ?_
  · exact (hq (hC (spec_l1New_ac h_r1)) hq0)
  refine Run.seq ?_
  obtain ⟨⟨⟨r2v_1v_b, r2v_1v_i, r2v_1v_h⟩, ⟨⟨r2v_2v_Schemav_Cols⟩, r2v_2v_Version, r2v_2v_Tables⟩⟩, h_r2, h⟩ := bnd h
  refine Run.region hL hT [(1, .call [true] [.v (.bx 88 [.im true (eu8_c r1v_b), .s (.int .i64 r2v_1v_i), .s (.int .i64 r2v_1v_h)])] [.ag [.im true (eInt_c r2v_2v_Schemav_Cols), .s (.int .i64 r2v_2v_Version), .im true (eRowS_i r2v_2v_Tables)]])] (by cbv) ?_ ?_
  · exact (hq (hC (spec_l7Draw_ac h_r2)) (hq trivial hq0))
  refine Run.seq ?_
  obtain ⟨⟨⟨r3v_1v_b, r3v_1v_i, r3v_1v_h⟩, ⟨r3v_2v_Kind, r3v_2v_Table, ⟨r3v_2v_Rowv_Id, r3v_2v_Rowv_Cells⟩⟩⟩, h_r3, h⟩ := bnd h
  obtain ⟨⟨⟨⟨r4v_1v_Schemav_Cols⟩, r4v_1v_Version, r4v_1v_Tables⟩, ⟨r4v_2v_1v_Table, r4v_2v_1v_Had, r4v_2v_1v_Has, ⟨r4v_2v_1v_Oldv_Id, r4v_2v_1v_Oldv_Cells⟩, ⟨r4v_2v_1v_Newv_Id, r4v_2v_1v_Newv_Cells⟩⟩, r4v_2v_2⟩, h_r4, h⟩ := bnd h
  refine Run.draw hL hT hM [(3, .call [true, false] [.v (.bx 88 [.im true (eu8_c r1v_b), .s (.int .i64 r3v_1v_i), .s (.int .i64 r3v_1v_h)]), .ag [.jk, .jk, .jk]] [.ag [.s (.int .i64 r3v_2v_Kind), .s (.int .i64 r3v_2v_Table), .s (.int .i64 r3v_2v_Rowv_Id), .ow 3 (eInt_c r3v_2v_Rowv_Cells)]]), (4, .call [false, false] [.ag [.jk, .jk, .jk], .ag [.jk, .jk, .jk, .jk]] [.ag [.ow 3 (eInt_c r4v_1v_Schemav_Cols), .s (.int .i64 r4v_1v_Version), .ow 72 (eRowS_o r4v_1v_Tables)], .ag [.s (.int .i64 r4v_2v_1v_Table), .s (.bool r4v_2v_1v_Had), .s (.bool r4v_2v_1v_Has), .s (.int .i64 r4v_2v_1v_Oldv_Id), .ow 3 (eInt_c r4v_2v_1v_Oldv_Cells), .s (.int .i64 r4v_2v_1v_Newv_Id), .ow 3 (eInt_c r4v_2v_1v_Newv_Cells)], .v (.s (.bool r4v_2v_2))])] (by cbv) (by cbv) (by cbv) (by cbv) (by cbv) ?_ ?_
  · exact (hq trivial (hq trivial (hq (hC (spec_l7DrawMut_ac h_r3)) (hq (hC (AC.args (spec_MutDo_ac h_r4) (ALe.ag rfl LLe.r (ALe.ag rfl (LLe.c (LLe.c (LLe.c (LLe.cons (LLe.im (RLe.eq (fr_row Int_c_z _))) LLe.nil)))) ALe.nil)))) (hq trivial (hq trivial hq0))))))
  refine Run.seq ?_
  refine Run.seq ?_
  obtain ⟨⟨⟨r5v_1v_b, r5v_1v_i, r5v_1v_h⟩, r5v_2⟩, h_r5, h⟩ := bnd h
  refine Run.region hL hT [(3, .call [true, false] [.v (.bx 88 [.im true (eu8_c r1v_b), .s (.int .i64 r5v_1v_i), .s (.int .i64 r5v_1v_h)]), .v (.jk)] [.v (.s (.bool r5v_2))])] (by cbv) ?_ ?_
  · exact (hq (fun _ => hq0) (hq (fun g7 => (hq g7 (hq (hC (spec_l1Once_ac (gd_t h_r5 g7))) hq0))) (hq trivial (hq trivial (hq trivial (hq (fun g8 => (hq g8 hq0)) (hq (fun q9 => (hq q9 hq0)) (hq (fun _ => hq0) hq0))))))))
  refine Run.cond (by cbv) (hq0) (fun c11 => ?_) (fun c11 => ?_)
  · have h := if_t c11 h
    refine Run.seq ?_
    refine Run.draw hL hT hM [] (by cbv) (by cbv) (by cbv) (by cbv) (by cbv) ?_ ?_
    · exact (hq trivial (hq trivial (hq trivial (hq trivial hq0))))
    refine Run.weak ?_ (Weak.keep (rows := eInt_c r4v_1v_Schemav_Cols) 12292 (by cbv) (eInt_c r4v_1v_Schemav_Cols) (fr_row Int_c_z _))
    refine Run.weak ?_ (Weak.keep (rows := eRowS_o r4v_1v_Tables) 12548 (by cbv) (eRowS_i r4v_1v_Tables) (fr_row RowS_o_z _))
    refine Run.weak ?_ (Weak.keep (rows := eInt_c r4v_2v_1v_Oldv_Cells) 12804 (by cbv) (eInt_c r4v_2v_1v_Oldv_Cells) (fr_row Int_c_z _))
    refine Run.weak ?_ (Weak.keep (rows := eInt_c r4v_2v_1v_Newv_Cells) 13060 (by cbv) (eInt_c r4v_2v_1v_Newv_Cells) (fr_row Int_c_z _))
    refine Run.ret ?_
    cases h
    refine ⟨_, _, by cbv, ?_, ?_⟩
    · exact LLe.r
    · exact (ALe.ag rfl LLe.r (ALe.ag rfl LLe.r ALe.nil))
  · have h := if_f c11 h
    refine Run.skip ?_
    refine Run.seq ?_
    refine Run.draw hL hT hM [] (by cbv) (by cbv) (by cbv) (by cbv) (by cbv) ?_ ?_
    · exact (hq trivial (hq trivial (hq trivial (hq trivial hq0))))
    refine Run.weak ?_ (Weak.keep (rows := eInt_c r4v_2v_1v_Oldv_Cells) 12804 (by cbv) (eInt_c r4v_2v_1v_Oldv_Cells) (fr_row Int_c_z _))
    refine Run.weak ?_ (Weak.keep (rows := eInt_c r4v_2v_1v_Newv_Cells) 13060 (by cbv) (eInt_c r4v_2v_1v_Newv_Cells) (fr_row Int_c_z _))
    refine Run.ret ?_
    cases h
    refine ⟨_, _, by cbv, ?_, ?_⟩
    · exact LLe.r
    · exact (ALe.ag rfl LLe.r (ALe.ag rfl LLe.r ALe.nil))

set_option maxRecDepth 8000 in
theorem impl_copyInts_ac {a0 : List Int} {r : (List Int)} (h : impl_copyInts.f a0 = some r) : AC Try.prog 53 [.v (.im false (rowsOf Int_c a0))] [.v (.jk)] [.v (.ow 3 (rowsOf Int_c r))] := by
  unfold impl_copyInts.f at h
  let ar := Ls.ar; let cm := Ls.cm; let bo := Ls.bo; let sc := Ls.sc; let sa := Ls.sa; let sx := Ls.sx; let ss := Ls.ss; let sl := Ls.sl; let bs := Ls.bs; let sb := Ls.sb; let ln := Ls.ln; let sr := Ls.sr; let ap := Ls.ap; let up := Ls.up; let rp := Ls.rp; let fr := Ls.fr; let ge := Ls.ge; let le := Ls.le; let lt := Ls.lt; let nz := Ls.nz; let mm := Ls.mm; let ma := Ls.ma; let sm := Ls.sm; let fl := Ls.fl; let al := Ls.al; let ci := Ls.ci
  let eInt_c := rowsOf Int_c
  have hL : (⟨ar, cm, bo, sc, sa, sx, ss, sl, bs, sb, ln, sr, ap, up, rp, fr, ge, le, lt, nz, mm, ma, sm, fl, al, ci⟩ : Lf) = Ls := rfl
  show AC Try.prog 53 [.v (.im false (eInt_c a0))] _ _
  refine AC.of_run2 tab_ok Try.func53 (by rfl) (by rfl) (by cbv) ⟨by decide, rfl⟩ fun F hP hA => ?_
  have hT : TabOk F.P tab := hP ▸ tab_ok
  have hM : F.P.follows .mixedOrders = true := hP ▸ mixed
  have hC : ∀ {f a o r}, AC Try.prog f a o r → AC F.P f a o r := fun h => hP ▸ h
  refine Run.seq ?_
  refine Run.region hL hT [] (by cbv) ?_ ?_
  · exact hq0
  refine Run.seq ?_
  obtain ⟨l1, h_l1, h⟩ := bnd h
  refine Run.region hL hT [] (by cbv) ?_ ?_
  · exact (hq (fl_row Int_c_f _) (hq (app_mb (P := Try.prog) (f := Int_c) RLe.r RLe.r h_l1) hq0))
  refine Run.row (rows := (ap ([]) ((eInt_c a0)))) 4098 (eInt_c l1) (by cbv) (app_le (f := Int_c) RLe.r RLe.r h_l1) ?_
  refine Run.ret ?_
  cases h
  refine ⟨_, _, by cbv, ?_, ?_⟩
  · exact LLe.r
  · exact (ALe.v LLe.r ALe.nil)

set_option maxRecDepth 8000 in
theorem impl_copyRow_ac {a0v_Id : Int} {a0v_Cells : List Int} {r : Row} (h : impl_copyRow.f (Row.mk a0v_Id a0v_Cells) = some r) : AC Try.prog 95 [.ag [.s (.int .i64 a0v_Id), .im false (rowsOf Int_c a0v_Cells)]] [.ag [.jk, .jk]] [.ag [.s (.int .i64 r.Id), .ow 3 (rowsOf Int_c r.Cells)]] := by
  unfold impl_copyRow.f at h
  let ar := Ls.ar; let cm := Ls.cm; let bo := Ls.bo; let sc := Ls.sc; let sa := Ls.sa; let sx := Ls.sx; let ss := Ls.ss; let sl := Ls.sl; let bs := Ls.bs; let sb := Ls.sb; let ln := Ls.ln; let sr := Ls.sr; let ap := Ls.ap; let up := Ls.up; let rp := Ls.rp; let fr := Ls.fr; let ge := Ls.ge; let le := Ls.le; let lt := Ls.lt; let nz := Ls.nz; let mm := Ls.mm; let ma := Ls.ma; let sm := Ls.sm; let fl := Ls.fl; let al := Ls.al; let ci := Ls.ci
  let eInt_c := rowsOf Int_c
  have hL : (⟨ar, cm, bo, sc, sa, sx, ss, sl, bs, sb, ln, sr, ap, up, rp, fr, ge, le, lt, nz, mm, ma, sm, fl, al, ci⟩ : Lf) = Ls := rfl
  show AC Try.prog 95 [.ag [.s (.int .i64 a0v_Id), .im false (eInt_c a0v_Cells)]] _ _
  refine AC.of_run2 tab_ok Try.func95 (by rfl) (by rfl) (by cbv) ⟨by decide, rfl⟩ fun F hP hA => ?_
  have hT : TabOk F.P tab := hP ▸ tab_ok
  have hM : F.P.follows .mixedOrders = true := hP ▸ mixed
  have hC : ∀ {f a o r}, AC Try.prog f a o r → AC F.P f a o r := fun h => hP ▸ h
  refine Run.seq ?_
  refine Run.region hL hT [] (by cbv) ?_ ?_
  · exact hq0
  refine Run.seq ?_
  obtain ⟨r1, h_r1, h⟩ := bnd h
  refine Run.draw hL hT hM [(4, .call [false] [.v (.jk)] [.v (.ow 3 (eInt_c r1))])] (by cbv) (by cbv) (by cbv) (by cbv) (by cbv) ?_ ?_
  · exact (hq trivial (hq trivial (hq (hC (impl_copyInts_ac h_r1)) (hq trivial hq0))))
  refine Run.ret ?_
  cases h
  refine ⟨_, _, by cbv, ?_, ?_⟩
  · exact LLe.r
  · exact (ALe.ag rfl LLe.r ALe.nil)

set_option maxRecDepth 8000 in
theorem impl_copyRows_ac {a0 : List Row} {r : (List Row)} (h : impl_copyRows.f a0 = some r) : AC Try.prog 70 [.v (.im false (rowsOf Row_i a0))] [.v (.jk)] [.v (.ow 38 (rowsOf Row_o r))] := by
  unfold impl_copyRows.f at h
  let ar := Ls.ar; let cm := Ls.cm; let bo := Ls.bo; let sc := Ls.sc; let sa := Ls.sa; let sx := Ls.sx; let ss := Ls.ss; let sl := Ls.sl; let bs := Ls.bs; let sb := Ls.sb; let ln := Ls.ln; let sr := Ls.sr; let ap := Ls.ap; let up := Ls.up; let rp := Ls.rp; let fr := Ls.fr; let ge := Ls.ge; let le := Ls.le; let lt := Ls.lt; let nz := Ls.nz; let mm := Ls.mm; let ma := Ls.ma; let sm := Ls.sm; let fl := Ls.fl; let al := Ls.al; let ci := Ls.ci
  let eInt_c := rowsOf Int_c
  let eRow_i := rowsOf Row_i
  let eRow_o := rowsOf Row_o
  let lenI_Row := @lenI Row
  have hL : (⟨ar, cm, bo, sc, sa, sx, ss, sl, bs, sb, ln, sr, ap, up, rp, fr, ge, le, lt, nz, mm, ma, sm, fl, al, ci⟩ : Lf) = Ls := rfl
  show AC Try.prog 70 [.v (.im false (eRow_i a0))] _ _
  refine AC.of_run2 tab_ok Try.func70 (by rfl) (by rfl) (by cbv) ⟨by decide, rfl⟩ fun F hP hA => ?_
  have hT : TabOk F.P tab := hP ▸ tab_ok
  have hM : F.P.follows .mixedOrders = true := hP ▸ mixed
  have hC : ∀ {f a o r}, AC Try.prog f a o r → AC F.P f a o r := fun h => hP ▸ h
  refine Run.seq ?_
  refine Run.region hL hT [] (by cbv) ?_ ?_
  · exact hq0
  refine Run.seq ?_
  refine Run.region hL hT [] (by cbv) ?_ ?_
  · exact hq0
  refine Run.seq ?_
  refine Run.seq ?_
  refine Run.region hL hT [] (by cbv) ?_ ?_
  · exact hq0
  rw [show ln (eRow_i a0) = lenI_Row a0 from ln_eq Row_i _]
  refine Run.block ?_
  refine Run.loop2 (fun (z5 : List Row) (z6 : Int) => ⟨20, 100000, [(3, .rf 1), (7, .t (.im false (eRow_i a0))), (8, .t (.s (.int .i64 (lenI_Row a0)))), (9, .t (.s (.int .i64 z6)))], [(1, .row 0 38 2 (eRow_o z5))]⟩) (x0 := []) (x1 := 0) h (Weak.of _ [(1, 4096)] hA (by cbv) ?_) (fun _ _ => rfl) ?_
  · repeat (first | exact hq0 | refine hq (by first | exact True.intro | rfl) ?_)
  · intro k z5 z6 h
    rw [impl_copyRows.l0] at h
    refine Run.seq ?_
    refine Run.region hL hT [] (by cbv) ?_ ?_
    · exact (hq trivial hq0)
    refine Run.seq ?_
    refine Run.cond (by cbv) (hq0) (fun c7 => ?_) (fun c7 => ?_)
    · have h := if_t c7 h
      refine Run.skip ?_
      refine Run.seq ?_
      refine Run.block ?_
      refine Run.seq ?_
      obtain ⟨⟨x8v_Id, x8v_Cells⟩, h_x8, h⟩ := bnd h
      refine Run.region hL hT [(0, .el [.s (.int .i64 x8v_Id), .im false (eInt_c x8v_Cells)])] (by cbv) ?_ ?_
      · exact (hq (get_le h_x8) (hq (get_lt (f := Row_i) h_x8) (hq (get_ge (f := Row_i) h_x8) (hq trivial hq0))))
      obtain ⟨⟨r9v_Id, r9v_Cells⟩, h_r9, h⟩ := bnd h
      obtain ⟨l10, h_l10, h⟩ := bnd h
      obtain ⟨l11, h_l11, h⟩ := bnd h
      refine Run.region hL hT [(2, .call [false] [.ag [.jk, .jk]] [.ag [.s (.int .i64 r9v_Id), .ow 3 (eInt_c r9v_Cells)]])] (by cbv) ?_ ?_
      · exact (hq trivial (hq (hC (impl_copyRow_ac h_r9)) (hq (app_mb (P := Try.prog) (f := Row_o) RLe.r (some_le (f := Row_o) h_l10 (RLe.cons rfl LLe.r RLe.nil)) h_l11) hq0)))
      refine Run.row (rows := (ap (eRow_o z5) ([[.s (.int .i64 r9v_Id), .ow 3 (eInt_c r9v_Cells)]]))) 108196 (eRow_o l11) (by cbv) (app_le (f := Row_o) RLe.r (some_le (f := Row_o) h_l10 (RLe.cons rfl LLe.r RLe.nil)) h_l11) ?_
      refine Run.region hL hT [] (by cbv) ?_ ?_
      · exact (hq trivial hq0)
      refine ⟨l11, (ar .add .i64 z6 1), h, Weak.of _ [(1, 108196)] hA (by cbv) ?_⟩
      repeat (first | exact hq0 | refine hq (by first | exact True.intro | rfl) ?_)
    · have h := if_f c7 h
      refine Run.exit ?_
      refine Run.seq ?_
      refine Run.region hL hT [] (by cbv) ?_ ?_
      · exact hq0
      refine Run.ret ?_
      cases h
      refine ⟨_, _, by cbv, ?_, ?_⟩
      · exact LLe.r
      · exact (ALe.v LLe.r ALe.nil)

set_option maxRecDepth 8000 in
theorem impl_copyStore_ac {a0v_Schemav_Cols : List Int} {a0v_Version : Int} {a0v_Tables : List (List Row)} {r : Store} (h : impl_copyStore.f (Store.mk (Schema.mk a0v_Schemav_Cols) a0v_Version a0v_Tables) = some r) : AC Try.prog 38 [.ag [.im false (rowsOf Int_c a0v_Schemav_Cols), .s (.int .i64 a0v_Version), .im false (rowsOf RowS_i a0v_Tables)]] [.ag [.jk, .jk, .jk]] [.ag [.ow 3 (rowsOf Int_c r.Schema.Cols), .s (.int .i64 r.Version), .ow 72 (rowsOf RowS_o r.Tables)]] := by
  unfold impl_copyStore.f at h
  let ar := Ls.ar; let cm := Ls.cm; let bo := Ls.bo; let sc := Ls.sc; let sa := Ls.sa; let sx := Ls.sx; let ss := Ls.ss; let sl := Ls.sl; let bs := Ls.bs; let sb := Ls.sb; let ln := Ls.ln; let sr := Ls.sr; let ap := Ls.ap; let up := Ls.up; let rp := Ls.rp; let fr := Ls.fr; let ge := Ls.ge; let le := Ls.le; let lt := Ls.lt; let nz := Ls.nz; let mm := Ls.mm; let ma := Ls.ma; let sm := Ls.sm; let fl := Ls.fl; let al := Ls.al; let ci := Ls.ci
  let eInt_c := rowsOf Int_c
  let eRowS_i := rowsOf RowS_i
  let eRowS_o := rowsOf RowS_o
  let eRow_i := rowsOf Row_i
  let eRow_o := rowsOf Row_o
  let lenI_RowS := @lenI (List Row)
  have hL : (⟨ar, cm, bo, sc, sa, sx, ss, sl, bs, sb, ln, sr, ap, up, rp, fr, ge, le, lt, nz, mm, ma, sm, fl, al, ci⟩ : Lf) = Ls := rfl
  show AC Try.prog 38 [.ag [.im false (eInt_c a0v_Schemav_Cols), .s (.int .i64 a0v_Version), .im false (eRowS_i a0v_Tables)]] _ _
  refine AC.of_run2 tab_ok Try.func38 (by rfl) (by rfl) (by cbv) ⟨by decide, rfl⟩ fun F hP hA => ?_
  have hT : TabOk F.P tab := hP ▸ tab_ok
  have hM : F.P.follows .mixedOrders = true := hP ▸ mixed
  have hC : ∀ {f a o r}, AC Try.prog f a o r → AC F.P f a o r := fun h => hP ▸ h
  refine Run.seq ?_
  refine Run.region hL hT [] (by cbv) ?_ ?_
  · exact hq0
  refine Run.seq ?_
  obtain ⟨r1, h_r1, h⟩ := bnd h
  refine Run.draw hL hT hM [(3, .call [false] [.v (.jk)] [.v (.ow 3 (eInt_c r1))])] (by cbv) (by cbv) (by cbv) (by cbv) (by cbv) ?_ ?_
  · exact (hq trivial (hq (hC (impl_copyInts_ac h_r1)) (hq trivial (hq trivial hq0))))
  refine Run.seq ?_
  refine Run.seq ?_
  refine Run.region hL hT [] (by cbv) ?_ ?_
  · exact (hq trivial hq0)
  rw [show ln (eRowS_i a0v_Tables) = lenI_RowS a0v_Tables from ln_eq RowS_i _]
  refine Run.block ?_
  refine Run.loop2 (fun (z15 : List (List Row)) (z16 : Int) => ⟨30, 100000, [(2, .pt 1 0 0), (3, .pt 2 0 0), (15, .t (.im false (eRowS_i a0v_Tables))), (16, .t (.s (.int .i64 (lenI_RowS a0v_Tables)))), (17, .t (.s (.int .i64 z16)))], [(1, .box 29 [.t (.s (.slice none 0 0)), .t (.s (.int .i64 0)), .t (.s (.slice none 0 0))]), (2, .box 29 [.rf 3, .t (.s (.int .i64 a0v_Version)), .rf 4]), (3, .row 0 3 1 (eInt_c r1)), (4, .row 0 72 1 (eRowS_o z15))]⟩) (x0 := []) (x1 := 0) h ((Weak.nilB (l := [.rf 4099, .t (.s (.int .i64 a0v_Version))]) hT 4104 2 13288 72 rfl (by cbv) (by cbv) (by cbv)).trans (Weak.of _ [(1, 1), (2, 4104), (3, 4099), (4, 13288)] hA (by cbv) ?_)) (fun _ _ => rfl) ?_
  · repeat (first | exact hq0 | refine hq (by first | exact True.intro | rfl) ?_)
  · intro k z15 z16 h
    rw [impl_copyStore.l0] at h
    refine Run.seq ?_
    refine Run.region hL hT [] (by cbv) ?_ ?_
    · exact (hq trivial hq0)
    refine Run.seq ?_
    refine Run.cond (by cbv) (hq0) (fun c17 => ?_) (fun c17 => ?_)
    · have h := if_t c17 h
      refine Run.skip ?_
      refine Run.seq ?_
      refine Run.block ?_
      refine Run.seq ?_
      obtain ⟨x18, h_x18, h⟩ := bnd h
      refine Run.region hL hT [(0, .el [.im false (eRow_i x18)])] (by cbv) ?_ ?_
      · exact (hq (get_le h_x18) (hq (get_lt (f := RowS_i) h_x18) (hq (get_ge (f := RowS_i) h_x18) hq0)))
      obtain ⟨r19, h_r19, h⟩ := bnd h
      obtain ⟨l20, h_l20, h⟩ := bnd h
      obtain ⟨l21, h_l21, h⟩ := bnd h
      refine Run.draw hL hT hM [(3, .call [false] [.v (.jk)] [.v (.ow 38 (eRow_o r19))])] (by cbv) (by cbv) (by cbv) (by cbv) (by cbv) ?_ ?_
      · exact (hq trivial (hq (hC (impl_copyRows_ac h_r19)) (hq (app_mb (P := Try.prog) (f := RowS_o) RLe.r (some_le (f := RowS_o) h_l20 (RLe.cons rfl LLe.r RLe.nil)) h_l21) (hq trivial hq0))))
      refine Run.row (rows := (ap (eRowS_o z15) ([[.ow 38 (eRow_o r19)]]))) 108197 (eRowS_o l21) (by cbv) (app_le (f := RowS_o) RLe.r (some_le (f := RowS_o) h_l20 (RLe.cons rfl LLe.r RLe.nil)) h_l21) ?_
      refine Run.region hL hT [] (by cbv) ?_ ?_
      · exact (hq trivial hq0)
      refine ⟨l21, (ar .add .i64 z16 1), h, Weak.of _ [(1, 1), (2, 2), (3, 3), (4, 108197)] hA (by cbv) ?_⟩
      repeat (first | exact hq0 | refine hq (by first | exact True.intro | rfl) ?_)
    · have h := if_f c17 h
      refine Run.exit ?_
      refine Run.seq ?_
      refine Run.region hL hT [] (by cbv) ?_ ?_
      · exact (hq trivial (hq trivial hq0))
      refine Run.ret ?_
      cases h
      refine ⟨_, _, by cbv, ?_, ?_⟩
      · exact LLe.r
      · exact (ALe.ag rfl LLe.r ALe.nil)

set_option maxRecDepth 8000 in
theorem impl_RowAt_1_ac {a0v_Id : Int} {a0v_Cells : List Int} {a1 : Int} {r : Bool} (h : impl_RowAt_1.f (Row.mk a0v_Id a0v_Cells) a1 = some r) : AC Try.prog 98 [.ag [.s (.int .i64 a0v_Id), .im false (rowsOf Int_c a0v_Cells)], .v (.ip [.s (.int .i64 a1)])] [.ag [.jk, .jk], .v (.jk)] [.v (.s (.bool r))] := by
  unfold impl_RowAt_1.f at h
  let ar := Ls.ar; let cm := Ls.cm; let bo := Ls.bo; let sc := Ls.sc; let sa := Ls.sa; let sx := Ls.sx; let ss := Ls.ss; let sl := Ls.sl; let bs := Ls.bs; let sb := Ls.sb; let ln := Ls.ln; let sr := Ls.sr; let ap := Ls.ap; let up := Ls.up; let rp := Ls.rp; let fr := Ls.fr; let ge := Ls.ge; let le := Ls.le; let lt := Ls.lt; let nz := Ls.nz; let mm := Ls.mm; let ma := Ls.ma; let sm := Ls.sm; let fl := Ls.fl; let al := Ls.al; let ci := Ls.ci
  let eInt_c := rowsOf Int_c
  have hL : (⟨ar, cm, bo, sc, sa, sx, ss, sl, bs, sb, ln, sr, ap, up, rp, fr, ge, le, lt, nz, mm, ma, sm, fl, al, ci⟩ : Lf) = Ls := rfl
  show AC Try.prog 98 [.ag [.s (.int .i64 a0v_Id), .im false (eInt_c a0v_Cells)], .v (.ip [.s (.int .i64 a1)])] _ _
  refine AC.of_run2 tab_ok Try.func98 (by rfl) (by rfl) (by cbv) ⟨by decide, rfl⟩ fun F hP hA => ?_
  have hT : TabOk F.P tab := hP ▸ tab_ok
  have hM : F.P.follows .mixedOrders = true := hP ▸ mixed
  have hC : ∀ {f a o r}, AC Try.prog f a o r → AC F.P f a o r := fun h => hP ▸ h
  refine Run.seq ?_
  refine Run.region hL hT [] (by cbv) ?_ ?_
  · exact hq0
  refine Run.seq ?_
  refine Run.region hL hT [] (by cbv) ?_ ?_
  · exact (hq trivial (hq trivial hq0))
  refine Run.ret ?_
  cases h
  refine ⟨_, _, by cbv, ?_, ?_⟩
  · exact LLe.r
  · exact (ALe.v LLe.r ALe.nil)

set_option maxRecDepth 8000 in
theorem slices_IndexFunc_impl_Row__impl_RowAt_1_ac {a0 : List Row} {a1c0 : Int} {r : Int} (h : slices_IndexFunc_impl_Row__impl_RowAt_1.f a0 a1c0 = some r) : AC Try.prog 97 [.v (.im false (rowsOf Row_i a0)), .v (.fn 98 [.ip [.s (.int .i64 a1c0)]])] [.v (.jk), .v (.jk)] [.v (.s (.int .i64 r))] := by
  unfold slices_IndexFunc_impl_Row__impl_RowAt_1.f at h
  let ar := Ls.ar; let cm := Ls.cm; let bo := Ls.bo; let sc := Ls.sc; let sa := Ls.sa; let sx := Ls.sx; let ss := Ls.ss; let sl := Ls.sl; let bs := Ls.bs; let sb := Ls.sb; let ln := Ls.ln; let sr := Ls.sr; let ap := Ls.ap; let up := Ls.up; let rp := Ls.rp; let fr := Ls.fr; let ge := Ls.ge; let le := Ls.le; let lt := Ls.lt; let nz := Ls.nz; let mm := Ls.mm; let ma := Ls.ma; let sm := Ls.sm; let fl := Ls.fl; let al := Ls.al; let ci := Ls.ci
  let eInt_c := rowsOf Int_c
  let eRow_i := rowsOf Row_i
  let lenI_Row := @lenI Row
  have hL : (⟨ar, cm, bo, sc, sa, sx, ss, sl, bs, sb, ln, sr, ap, up, rp, fr, ge, le, lt, nz, mm, ma, sm, fl, al, ci⟩ : Lf) = Ls := rfl
  show AC Try.prog 97 [.v (.im false (eRow_i a0)), .v (.fn 98 [.ip [.s (.int .i64 a1c0)]])] _ _
  refine AC.of_run2 tab_ok Try.func97 (by rfl) (by rfl) (by cbv) ⟨by decide, rfl⟩ fun F hP hA => ?_
  have hT : TabOk F.P tab := hP ▸ tab_ok
  have hM : F.P.follows .mixedOrders = true := hP ▸ mixed
  have hC : ∀ {f a o r}, AC Try.prog f a o r → AC F.P f a o r := fun h => hP ▸ h
  refine Run.weak ?_ (Weak.fnT 1 (by cbv))
  refine Run.seq ?_
  refine Run.region hL hT [] (by cbv) ?_ ?_
  · exact hq0
  refine Run.seq ?_
  refine Run.seq ?_
  refine Run.region hL hT [] (by cbv) ?_ ?_
  · exact hq0
  rw [show ln (eRow_i a0) = lenI_Row a0 from ln_eq Row_i _]
  refine Run.block ?_
  refine Run.loop1 (fun (z5 : Int) => ⟨19, 100000, [(0, .t (.im false (eRow_i a0))), (1, .fn 98 [.t (.ip [.s (.int .i64 a1c0)])]), (7, .t (.s (.int .i64 (lenI_Row a0)))), (8, .t (.s (.int .i64 z5)))], []⟩) (x0 := 0) h (Weak.of _ [] hA (by cbv) ?_) (fun _ => rfl) ?_
  · repeat (first | exact hq0 | refine hq (by first | exact True.intro | rfl) ?_)
  · intro k z5 h
    rw [slices_IndexFunc_impl_Row__impl_RowAt_1.l0] at h
    refine Run.seq ?_
    refine Run.region hL hT [] (by cbv) ?_ ?_
    · exact (hq trivial hq0)
    refine Run.seq ?_
    refine Run.cond (by cbv) (hq0) (fun c6 => ?_) (fun c6 => ?_)
    · have h := if_t c6 h
      refine Run.skip ?_
      refine Run.seq ?_
      refine Run.block ?_
      refine Run.seq ?_
      refine Run.region hL hT [] (by cbv) ?_ ?_
      · exact hq0
      refine Run.seq ?_
      obtain ⟨⟨x7v_Id, x7v_Cells⟩, h_x7, h⟩ := bnd h
      obtain ⟨r8, h_r8, h⟩ := bnd h
      refine Run.region hL hT [(3, .el [.s (.int .i64 x7v_Id), .im false (eInt_c x7v_Cells)]), (5, .call [false] [.ag [.jk, .jk], .v (.jk)] [.v (.s (.bool r8))])] (by cbv) ?_ ?_
      · exact (hq (get_le h_x7) (hq (get_lt (f := Row_i) h_x7) (hq (get_ge (f := Row_i) h_x7) (hq (hC (impl_RowAt_1_ac h_r8)) hq0))))
      refine Run.cond (by cbv) (hq0) (fun c9 => ?_) (fun c9 => ?_)
      · have h := if_t c9 h
        refine Run.seq ?_
        refine Run.region hL hT [] (by cbv) ?_ ?_
        · exact hq0
        refine Run.ret ?_
        cases h
        refine ⟨_, _, by cbv, ?_, ?_⟩
        · exact LLe.r
        · exact (ALe.v LLe.r ALe.nil)
      · have h := if_f c9 h
        refine Run.skip ?_
        refine Run.region hL hT [] (by cbv) ?_ ?_
        · exact (hq trivial hq0)
        refine ⟨(ar .add .i64 z5 1), h, Weak.of _ [] hA (by cbv) ?_⟩
        repeat (first | exact hq0 | refine hq (by first | exact True.intro | rfl) ?_)
    · have h := if_f c6 h
      refine Run.exit ?_
      refine Run.seq ?_
      refine Run.region hL hT [] (by cbv) ?_ ?_
      · exact hq0
      refine Run.ret ?_
      cases h
      refine ⟨_, _, by cbv, ?_, ?_⟩
      · exact LLe.r
      · exact (ALe.v LLe.r ALe.nil)

set_option maxRecDepth 8000 in
theorem impl_RowAt_ac {a0 : List Row} {a1 : Int} {r : Int} (h : impl_RowAt.f a0 a1 = some r) : AC Try.prog 74 [.v (.im false (rowsOf Row_i a0)), .v (.s (.int .i64 a1))] [.v (.jk), .v (.jk)] [.v (.s (.int .i64 r))] := by
  unfold impl_RowAt.f at h
  let ar := Ls.ar; let cm := Ls.cm; let bo := Ls.bo; let sc := Ls.sc; let sa := Ls.sa; let sx := Ls.sx; let ss := Ls.ss; let sl := Ls.sl; let bs := Ls.bs; let sb := Ls.sb; let ln := Ls.ln; let sr := Ls.sr; let ap := Ls.ap; let up := Ls.up; let rp := Ls.rp; let fr := Ls.fr; let ge := Ls.ge; let le := Ls.le; let lt := Ls.lt; let nz := Ls.nz; let mm := Ls.mm; let ma := Ls.ma; let sm := Ls.sm; let fl := Ls.fl; let al := Ls.al; let ci := Ls.ci
  let eRow_i := rowsOf Row_i
  have hL : (⟨ar, cm, bo, sc, sa, sx, ss, sl, bs, sb, ln, sr, ap, up, rp, fr, ge, le, lt, nz, mm, ma, sm, fl, al, ci⟩ : Lf) = Ls := rfl
  show AC Try.prog 74 [.v (.im false (eRow_i a0)), .v (.s (.int .i64 a1))] _ _
  refine AC.of_run2 tab_ok Try.func74 (by rfl) (by rfl) (by cbv) ⟨by decide, rfl⟩ fun F hP hA => ?_
  have hT : TabOk F.P tab := hP ▸ tab_ok
  have hM : F.P.follows .mixedOrders = true := hP ▸ mixed
  have hC : ∀ {f a o r}, AC Try.prog f a o r → AC F.P f a o r := fun h => hP ▸ h
  refine Run.seq ?_
  refine Run.region hL hT [] (by cbv) ?_ ?_
  · exact hq0
  refine Run.seq ?_
  obtain ⟨r1, h_r1, h⟩ := bnd h
  refine Run.region hL hT [(2, .call [false, false] [.v (.jk), .v (.jk)] [.v (.s (.int .i64 r1))])] (by cbv) ?_ ?_
  · exact (hq (hC (slices_IndexFunc_impl_Row__impl_RowAt_1_ac h_r1)) hq0)
  refine Run.ret ?_
  cases h
  refine ⟨_, _, by cbv, ?_, ?_⟩
  · exact LLe.r
  · exact (ALe.v LLe.r ALe.nil)

set_option maxRecDepth 8000 in
theorem slices_Equal_int_ac {a0 : List Int} {a1 : List Int} {r : Bool} (h : slices_Equal_int.f a0 a1 = some r) : AC Try.prog 99 [.v (.im false (rowsOf Int_c a0)), .v (.im false (rowsOf Int_c a1))] [.v (.jk), .v (.jk)] [.v (.s (.bool r))] := by
  unfold slices_Equal_int.f at h
  let ar := Ls.ar; let cm := Ls.cm; let bo := Ls.bo; let sc := Ls.sc; let sa := Ls.sa; let sx := Ls.sx; let ss := Ls.ss; let sl := Ls.sl; let bs := Ls.bs; let sb := Ls.sb; let ln := Ls.ln; let sr := Ls.sr; let ap := Ls.ap; let up := Ls.up; let rp := Ls.rp; let fr := Ls.fr; let ge := Ls.ge; let le := Ls.le; let lt := Ls.lt; let nz := Ls.nz; let mm := Ls.mm; let ma := Ls.ma; let sm := Ls.sm; let fl := Ls.fl; let al := Ls.al; let ci := Ls.ci
  let eInt_c := rowsOf Int_c
  let lenI_Int := @lenI Int
  have hL : (⟨ar, cm, bo, sc, sa, sx, ss, sl, bs, sb, ln, sr, ap, up, rp, fr, ge, le, lt, nz, mm, ma, sm, fl, al, ci⟩ : Lf) = Ls := rfl
  show AC Try.prog 99 [.v (.im false (eInt_c a0)), .v (.im false (eInt_c a1))] _ _
  refine AC.of_run2 tab_ok Try.func99 (by rfl) (by rfl) (by cbv) ⟨by decide, rfl⟩ fun F hP hA => ?_
  have hT : TabOk F.P tab := hP ▸ tab_ok
  have hM : F.P.follows .mixedOrders = true := hP ▸ mixed
  have hC : ∀ {f a o r}, AC Try.prog f a o r → AC F.P f a o r := fun h => hP ▸ h
  refine Run.seq ?_
  refine Run.region hL hT [] (by cbv) ?_ ?_
  · exact hq0
  refine Run.seq ?_
  refine Run.seq ?_
  refine Run.region hL hT [] (by cbv) ?_ ?_
  · exact (hq trivial hq0)
  rw [show ln (eInt_c a0) = lenI_Int a0 from ln_eq Int_c _]
  rw [show ln (eInt_c a1) = lenI_Int a1 from ln_eq Int_c _]
  refine Run.cond (by cbv) (hq0) (fun c1 => ?_) (fun c1 => ?_)
  · have h := if_t c1 h
    refine Run.seq ?_
    refine Run.region hL hT [] (by cbv) ?_ ?_
    · exact hq0
    refine Run.ret ?_
    cases h
    refine ⟨_, _, by cbv, ?_, ?_⟩
    · exact LLe.r
    · exact (ALe.v LLe.r ALe.nil)
  · have h := if_f c1 h
    refine Run.skip ?_
    refine Run.seq ?_
    refine Run.seq ?_
    refine Run.region hL hT [] (by cbv) ?_ ?_
    · exact hq0
    rw [show ln (eInt_c a0) = lenI_Int a0 from ln_eq Int_c _]
    refine Run.block ?_
    refine Run.loop1 (fun (z6 : Int) => ⟨26, 100000, [(0, .t (.im false (eInt_c a0))), (1, .t (.im false (eInt_c a1))), (12, .t (.s (.int .i64 (lenI_Int a0)))), (13, .t (.s (.int .i64 z6)))], []⟩) (x0 := 0) h (Weak.of _ [] hA (by cbv) ?_) (fun _ => rfl) ?_
    · repeat (first | exact hq0 | refine hq (by first | exact True.intro | rfl) ?_)
    · intro k z6 h
      rw [slices_Equal_int.l0] at h
      refine Run.seq ?_
      refine Run.region hL hT [] (by cbv) ?_ ?_
      · exact (hq trivial hq0)
      refine Run.seq ?_
      refine Run.cond (by cbv) (hq0) (fun c7 => ?_) (fun c7 => ?_)
      · have h := if_t c7 h
        refine Run.skip ?_
        refine Run.seq ?_
        refine Run.block ?_
        refine Run.seq ?_
        refine Run.region hL hT [] (by cbv) ?_ ?_
        · exact hq0
        refine Run.seq ?_
        obtain ⟨x8, h_x8, h⟩ := bnd h
        obtain ⟨x9, h_x9, h⟩ := bnd h
        refine Run.draw hL hT hM [(2, .el [.s (.int .i64 x8)]), (6, .el [.s (.int .i64 x9)])] (by cbv) (by cbv) (by cbv) (by cbv) (by cbv) ?_ ?_
        · exact (hq (get_le h_x8) (hq (get_lt (f := Int_c) h_x8) (hq (get_ge (f := Int_c) h_x8) (hq (get_le h_x9) (hq (get_lt (f := Int_c) h_x9) (hq (get_ge (f := Int_c) h_x9) (hq trivial hq0)))))))
        refine Run.cond (by cbv) (hq0) (fun c10 => ?_) (fun c10 => ?_)
        · have h := if_t c10 h
          refine Run.seq ?_
          refine Run.region hL hT [] (by cbv) ?_ ?_
          · exact hq0
          refine Run.ret ?_
          cases h
          refine ⟨_, _, by cbv, ?_, ?_⟩
          · exact LLe.r
          · exact (ALe.v LLe.r ALe.nil)
        · have h := if_f c10 h
          refine Run.skip ?_
          refine Run.region hL hT [] (by cbv) ?_ ?_
          · exact (hq trivial hq0)
          refine ⟨(ar .add .i64 z6 1), h, Weak.of _ [] hA (by cbv) ?_⟩
          repeat (first | exact hq0 | refine hq (by first | exact True.intro | rfl) ?_)
      · have h := if_f c7 h
        refine Run.exit ?_
        refine Run.seq ?_
        refine Run.region hL hT [] (by cbv) ?_ ?_
        · exact hq0
        refine Run.ret ?_
        cases h
        refine ⟨_, _, by cbv, ?_, ?_⟩
        · exact LLe.r
        · exact (ALe.v LLe.r ALe.nil)

set_option maxRecDepth 8000 in
theorem impl_RowSame_ac {a0v_Id : Int} {a0v_Cells : List Int} {a1v_Id : Int} {a1v_Cells : List Int} {r : Bool} (h : impl_RowSame.f (Row.mk a0v_Id a0v_Cells) (Row.mk a1v_Id a1v_Cells) = some r) : AC Try.prog 75 [.ag [.s (.int .i64 a0v_Id), .im false (rowsOf Int_c a0v_Cells)], .ag [.s (.int .i64 a1v_Id), .im false (rowsOf Int_c a1v_Cells)]] [.ag [.jk, .jk], .ag [.jk, .jk]] [.v (.s (.bool r))] := by
  unfold impl_RowSame.f at h
  let ar := Ls.ar; let cm := Ls.cm; let bo := Ls.bo; let sc := Ls.sc; let sa := Ls.sa; let sx := Ls.sx; let ss := Ls.ss; let sl := Ls.sl; let bs := Ls.bs; let sb := Ls.sb; let ln := Ls.ln; let sr := Ls.sr; let ap := Ls.ap; let up := Ls.up; let rp := Ls.rp; let fr := Ls.fr; let ge := Ls.ge; let le := Ls.le; let lt := Ls.lt; let nz := Ls.nz; let mm := Ls.mm; let ma := Ls.ma; let sm := Ls.sm; let fl := Ls.fl; let al := Ls.al; let ci := Ls.ci
  let eInt_c := rowsOf Int_c
  have hL : (⟨ar, cm, bo, sc, sa, sx, ss, sl, bs, sb, ln, sr, ap, up, rp, fr, ge, le, lt, nz, mm, ma, sm, fl, al, ci⟩ : Lf) = Ls := rfl
  show AC Try.prog 75 [.ag [.s (.int .i64 a0v_Id), .im false (eInt_c a0v_Cells)], .ag [.s (.int .i64 a1v_Id), .im false (eInt_c a1v_Cells)]] _ _
  refine AC.of_run2 tab_ok Try.func75 (by rfl) (by rfl) (by cbv) ⟨by decide, rfl⟩ fun F hP hA => ?_
  have hT : TabOk F.P tab := hP ▸ tab_ok
  have hM : F.P.follows .mixedOrders = true := hP ▸ mixed
  have hC : ∀ {f a o r}, AC Try.prog f a o r → AC F.P f a o r := fun h => hP ▸ h
  refine Run.seq ?_
  refine Run.region hL hT [] (by cbv) ?_ ?_
  · exact hq0
  refine Run.seq ?_
  obtain ⟨r1, h_r1, h⟩ := bnd h
  refine Run.region hL hT [(10, .call [false, false] [.v (.jk), .v (.jk)] [.v (.s (.bool r1))])] (by cbv) ?_ ?_
  · exact (hq trivial (hq trivial (hq trivial (hq (fun _ => hq0) (hq (fun g3 => (hq g3 (hq trivial hq0))) (hq (fun _ => hq0) (hq (fun g5 => (hq g5 (hq trivial hq0))) (hq (fun g6 => (hq g6 (hq g6 (hq (hC (slices_Equal_int_ac (gd_t h_r1 g6))) hq0)))) (hq (fun q7 => (hq q7 hq0)) (hq (fun _ => hq0) hq0))))))))))
  refine Run.ret ?_
  cases h
  refine ⟨_, _, by cbv, ?_, ?_⟩
  · exact LLe.r
  · exact (ALe.v LLe.r ALe.nil)

set_option maxRecDepth 8000 in
theorem slices_Delete_impl_Row_ac {a0 : List Row} {a1 a2 : Int} {r : List Row} (h : slices_Delete_impl_Row.f a0 a1 a2 = some r) : AC Try.prog 100 [.v (.ow 38 (rowsOf Row_o a0)), .v (.s (.int .i64 a1)), .v (.s (.int .i64 a2))] [.v .jk, .v .jk, .v .jk] [.v (.ow 38 (rowsOf Row_o r))] := by
  unfold slices_Delete_impl_Row.f delO at h
  split at h
  · rename_i hc
    obtain ⟨c0, c1, c2⟩ := hc
    obtain ⟨i, rfl⟩ : ∃ k : Nat, a1 = k := ⟨a1.toNat, by omega⟩
    obtain ⟨j, rfl⟩ : ∃ k : Nat, a2 = k := ⟨a2.toNat, by omega⟩
    simp only [Option.some.injEq] at h
    subst h
    have hr : rowsOf Row_o (a0.take ((i : Nat) : Int).toNat ++ a0.drop ((j : Nat) : Int).toNat) = (rowsOf Row_o a0).take i ++ (rowsOf Row_o a0).drop j := by simp [rowsOf, List.map_take, List.map_drop]
    rw [hr]
    have hl := rowsOf_len Row_o a0
    generalize rowsOf Row_o a0 = R at *
    obtain ⟨D3, hD3⟩ : ∃ D, D = R.take i ++ R.drop j := ⟨_, rfl⟩
    rw [← hD3]
    have c1 : i ≤ j := by omega
    have c2 : j ≤ R.length := by omega
    have hlR : Ls.ln R = (R.length : Int) := rfl
    let ar := Ls.ar; let cm := Ls.cm; let bo := Ls.bo; let sc := Ls.sc; let sa := Ls.sa; let sx := Ls.sx; let ss := Ls.ss; let sl := Ls.sl; let bs := Ls.bs; let sb := Ls.sb; let ln := Ls.ln; let sr := Ls.sr; let ap := Ls.ap; let up := Ls.up; let rp := Ls.rp; let fr := Ls.fr; let ge := Ls.ge; let le := Ls.le; let lt := Ls.lt; let nz := Ls.nz; let mm := Ls.mm; let ma := Ls.ma; let sm := Ls.sm; let fl := Ls.fl; let al := Ls.al; let ci := Ls.ci
    have hL : (⟨ar, cm, bo, sc, sa, sx, ss, sl, bs, sb, ln, sr, ap, up, rp, fr, ge, le, lt, nz, mm, ma, sm, fl, al, ci⟩ : Lf) = Ls := rfl
    refine AC.of_run2 tab_ok Try.func100 (by rfl) (by rfl) (by cbv) ⟨by decide, rfl⟩ fun F hP hA => ?_
    have hT : TabOk F.P tab := hP ▸ tab_ok
    have hM : F.P.follows .mixedOrders = true := hP ▸ mixed
    refine Run.seq ?_
    refine Run.region hL hT [] (by cbv) ?_ ?_
    · exact hq0
    refine Run.seq ?_
    refine Run.region hL hT [(5, .hd [0] .u [])] (by cbv) ?_ ?_
    · exact hq (hand_slice3r (hT 72 _ rfl) rfl (hT 38 _ rfl) (by omega) (by omega) (by show (j : Int) ≤ (R.length : Int); omega) (Int.le_refl _)) hq0
    refine Run.seq ?_
    refine Run.seq ?_
    refine Run.region hL hT [] (by cbv) ?_ ?_
    · exact hq trivial hq0
    refine Run.cond (by cbv) hq0 (fun c => ?_) (fun c => ?_)
    · have e : (i : Int) = j := of_decide_eq_true c
      obtain rfl : i = j := by omega
      rw [List.take_append_drop] at hD3
      subst hD3
      refine Run.seq ?_
      refine Run.region hL hT [] (by cbv) ?_ ?_
      · exact hq0
      refine Run.weak ?_ (Weak.mv (v := .rf 0) 0 900000 6 (by cbv) (by cbv) (by cbv) (by cbv))
      refine Run.ret ?_
      refine ⟨_, _, by cbv, ?_, ?_⟩
      · exact LLe.r
      · exact ALe.r
    have e : ¬ (i : Int) = j := of_decide_eq_false c
    have c1 : i < j := by omega
    obtain ⟨D1, hD1⟩ : ∃ D, D = delR R i j R.length 2 := ⟨_, rfl⟩
    obtain ⟨D2, hD2⟩ : ∃ D, D = delR D1 (i + (R.length - j)) D1.length D1.length 2 := ⟨_, rfl⟩
    have hl1 : D1.length = R.length := by rw [hD1]; exact delR_len (by omega) (by omega) (Nat.le_refl _)
    have hl2 : D2.take (i + (R.length - j)) = D3 := by rw [hD3]; rw [hD2, hl1, hD1]; exact delR_take2 (by omega) (by omega)
    have hj1 := hand_append_in (P := F.P) (x := .tmp 22) (y := .tmp 25) (id := 0) (ver := 0) (hT 72 _ rfl) rfl (hT 38 _ rfl) (h := R.length) (rows := R) c1 c2 (Nat.le_refl _) (rfl : ((i + (R.length - j) : Nat) : Int) = _)
    rw [← hD1] at hj1
    obtain ⟨ki, hki⟩ : ∃ k : Int, k = ((i + (R.length - j) : Nat) : Int) := ⟨_, rfl⟩
    rw [← hki] at hj1
    refine Run.skip ?_
    refine Run.seq ?_
    refine Run.region hL hT [] (by cbv) ?_ ?_
    · exact hq0
    refine Run.seq ?_
    refine Run.draw hL hT hM [(6, .hd [0] (.sb 0 0 ki) [(0, .row 1 38 2 D1)])] (by cbv) (by cbv) (by cbv) (by cbv) (by cbv) ?_ ?_
    · exact hq (Int.le_refl _) (hq (by show (0 : Int) ≤ (i : Int); omega) (hq (by show (i : Int) ≤ (R.length : Int); omega) (hq (by show (0 : Int) ≤ (j : Int); omega) (hq (by show (j : Int) ≤ (R.length : Int); omega) (hq (Int.le_refl _) (hq hj1 hq0))))))
    refine Run.seq ?_
    refine Run.region hL hT [(2, .hd [0] (.t (.s (.int .i64 ki))) []), (4, .hd [0] (.sb 0 ki (ln R)) []), (5, .hd [0] .u [(0, .row 2 38 2 D2)])] (by cbv) ?_ ?_
    · have hj2 := hand_clear (P := F.P) (x := .tmp 31) (id := 0) (ver := 1) (hT 72 _ rfl) rfl (hT 38 _ rfl) (by simp) (b0 := i + (R.length - j)) (b1 := R.length) (rows := D1) (by omega) (by omega)
      rw [← hD2, ← hki] at hj2
      exact hq (hand_len (hT 72 _ rfl) rfl (by omega)) (hq (hand_slice (hT 72 _ rfl) rfl (hT 38 _ rfl) (l := ki) (hh := R.length) rfl (.inr ⟨_, _, rfl, rfl⟩) (.inr ⟨_, _, rfl, rfl⟩) (by omega) (by omega) (by show (0 : Int) + (R.length : Int) ≤ (D1.length : Int); omega) (by omega) (by show (R.length : Int) = _; omega)) (hq hj2 hq0))
    refine Run.seq ?_
    refine Run.region hL hT [] (by cbv) ?_ ?_
    · exact hq0
    refine Run.weak ?_ (Weak.shrink 0 900000 6 (by cbv) (by cbv) (by cbv) (by cbv) hki _ hl2)
    refine Run.ret ?_
    refine ⟨_, _, by cbv, ?_, ?_⟩
    · exact LLe.r
    · exact ALe.r
  · cases h

set_option maxRecDepth 8000 in
theorem impl_RowDrop_ac {a0 : List Row} {a1 : Int} {r : (List Row)} (h : impl_RowDrop.f a0 a1 = some r) : AC Try.prog 76 [.v (.im false (rowsOf Row_i a0)), .v (.s (.int .i64 a1))] [.v (.jk), .v (.jk)] [.v (.ow 38 (rowsOf Row_o r))] := by
  unfold impl_RowDrop.f at h
  let ar := Ls.ar; let cm := Ls.cm; let bo := Ls.bo; let sc := Ls.sc; let sa := Ls.sa; let sx := Ls.sx; let ss := Ls.ss; let sl := Ls.sl; let bs := Ls.bs; let sb := Ls.sb; let ln := Ls.ln; let sr := Ls.sr; let ap := Ls.ap; let up := Ls.up; let rp := Ls.rp; let fr := Ls.fr; let ge := Ls.ge; let le := Ls.le; let lt := Ls.lt; let nz := Ls.nz; let mm := Ls.mm; let ma := Ls.ma; let sm := Ls.sm; let fl := Ls.fl; let al := Ls.al; let ci := Ls.ci
  let eRow_i := rowsOf Row_i
  let eRow_o := rowsOf Row_o
  have hL : (⟨ar, cm, bo, sc, sa, sx, ss, sl, bs, sb, ln, sr, ap, up, rp, fr, ge, le, lt, nz, mm, ma, sm, fl, al, ci⟩ : Lf) = Ls := rfl
  show AC Try.prog 76 [.v (.im false (eRow_i a0)), .v (.s (.int .i64 a1))] _ _
  refine AC.of_run2 tab_ok Try.func76 (by rfl) (by rfl) (by cbv) ⟨by decide, rfl⟩ fun F hP hA => ?_
  have hT : TabOk F.P tab := hP ▸ tab_ok
  have hM : F.P.follows .mixedOrders = true := hP ▸ mixed
  have hC : ∀ {f a o r}, AC Try.prog f a o r → AC F.P f a o r := fun h => hP ▸ h
  refine Run.seq ?_
  refine Run.region hL hT [] (by cbv) ?_ ?_
  · exact hq0
  refine Run.seq ?_
  obtain ⟨r1, h_r1, h⟩ := bnd h
  refine Run.region hL hT [(1, .call [false] [.v (.jk)] [.v (.ow 38 (eRow_o r1))])] (by cbv) ?_ ?_
  · exact (hq (hC (impl_copyRows_ac h_r1)) hq0)
  refine Run.seq ?_
  obtain ⟨r2, h_r2, h⟩ := bnd h
  refine Run.region hL hT [(2, .call [false, false] [.v (.jk), .v (.jk)] [.v (.s (.int .i64 r2))])] (by cbv) ?_ ?_
  · exact (hq (hC (impl_RowAt_ac h_r2)) hq0)
  refine Run.seq ?_
  refine Run.seq ?_
  refine Run.region hL hT [] (by cbv) ?_ ?_
  · exact (hq trivial hq0)
  refine Run.cond (by cbv) (hq0) (fun c3 => ?_) (fun c3 => ?_)
  · have h := if_t c3 h
    obtain ⟨r4, h_r4, h⟩ := bnd h
    refine Run.region hL hT [(4, .call [true, false, false] [.v (.jk), .v (.jk), .v (.jk)] [.v (.ow 38 (eRow_o r4))])] (by cbv) ?_ ?_
    · exact (hq trivial (hq (hC (slices_Delete_impl_Row_ac h_r4)) hq0))
    refine Run.seq ?_
    refine Run.region hL hT [] (by cbv) ?_ ?_
    · exact hq0
    refine Run.ret ?_
    cases h
    refine ⟨_, _, by cbv, ?_, ?_⟩
    · exact LLe.r
    · exact (ALe.v LLe.r ALe.nil)
  · have h := if_f c3 h
    refine Run.skip ?_
    refine Run.seq ?_
    refine Run.region hL hT [] (by cbv) ?_ ?_
    · exact hq0
    refine Run.ret ?_
    cases h
    refine ⟨_, _, by cbv, ?_, ?_⟩
    · exact LLe.r
    · exact (ALe.v LLe.r ALe.nil)

set_option maxHeartbeats 4000000 in
set_option maxRecDepth 100000 in
theorem slices_Insert_impl_Row_end0 (w : World) (g2 c2 : Nat)
  (v' : Value) (w' : World) (hrun : (Builtin.append_ #[72, 72] 72 #[.slice none 0 0, .slice (some ⟨g2, 0, none⟩) 1 c2]).run Try.prog w = .ok v' w') :
  Calls Try.prog 102 #[.slice none 0 0, .int .i64 0, .slice (some ⟨g2, 0, none⟩) 1 c2] w fun ex w2 => ex = .returned v' ∧ w2 = w' := by
  go_enter Try.func102, Try.ntmps102
  go_wp2_with (at_builtin; refine wpList_run rfl (exec_append rfl rfl rfl hrun) ?_)
  all_goals go_ret
  all_goals exact ⟨rfl, rfl⟩

set_option maxHeartbeats 4000000 in
set_option maxRecDepth 100000 in
theorem slices_Insert_impl_Row_end (w : World) (g c g2 c2 n : Nat) (hnc : n ≤ c)
  (v' : Value) (w' : World) (hrun : (Builtin.append_ #[72, 72] 72 #[.slice (some ⟨g, 0, none⟩) n c, .slice (some ⟨g2, 0, none⟩) 1 c2]).run Try.prog w = .ok v' w') :
  Calls Try.prog 102 #[.slice (some ⟨g, 0, none⟩) n c, .int .i64 n, .slice (some ⟨g2, 0, none⟩) 1 c2] w fun ex w2 => ex = .returned v' ∧ w2 = w' := by
  go_enter Try.func102, Try.ntmps102
  go_wp2_with (at_builtin; refine wpList_run rfl (exec_append rfl rfl rfl hrun) ?_)
  all_goals go_ret
  all_goals exact ⟨rfl, rfl⟩

set_option maxHeartbeats 4000000 in
set_option maxRecDepth 100000 in
theorem slices_Insert_impl_Row_in (w : World) (g c g2 c2 n i : Nat) (cur cur2 A B : Array Value) (hi : i < n) (hroom : n + 1 ≤ c) (hc63 : c ≤ maxLen) (hne : g2 ≠ g) (hg : w.heap[g]? = some (.cells cur 38 (0, 0))) (hcs : cur.size = c * 2) (hg2 : w.heap[g2]? = some (.cells cur2 38 (0, 0)))
  (hcp1 : ∀ ty dc sc, (Builtin.copy_ #[72, 72] ty #[.slice (some ⟨g, (i + 1) * 2, none⟩) (n + 1 - (i + 1)) dc, .slice (some ⟨g, i * 2, none⟩) (n + 1 - i) sc]).run Try.prog w.drew = .ok (goInt (n - i : Nat)) (w.drew.setRow g A))
  (hcp2 : ∀ ty dc, (Builtin.copy_ #[72, 72] ty #[.slice (some ⟨g, i * 2, none⟩) (n + 1 - i) dc, .slice (some ⟨g2, 0, none⟩) 1 c2]).run Try.prog (w.drew.setRow g A) = .ok (goInt (1 : Nat)) ((w.drew.setRow g A).setRow g B)) :
  Calls Try.prog 102 #[.slice (some ⟨g, 0, none⟩) n c, .int .i64 i, .slice (some ⟨g2, 0, none⟩) 1 c2] w fun ex w2 => ex = .returned (.slice (some ⟨g, 0, none⟩) (n + 1) c) ∧ w2 = (w.drew.setRow g A).setRow g B := by
  have mixed := mixed
  have TE : TyOk Try.prog 38 _ := tab_ok 38 _ rfl
  have TS : TyOk Try.prog 72 _ := tab_ok 72 _ rfl
  obtain ⟨ti, hti, htz, htb, _⟩ := TE.info
  have u92 := TS.isS rfl
  have hz1 : ¬ ((1 : Int) = 0) := by omega
  have hz2 : ¬ ((i : Int) = (n : Int)) := by omega
  have hw1 : IntKind.i64.wrap ((i : Int) + (1 : Int)) = (i : Int) + (1 : Int) := by unfold maxLen at hc63; rw [IntKind.wrap_i64]; omega
  have hw2 : IntKind.i64.wrap ((n : Int) + (1 : Int)) = (n : Int) + (1 : Int) := by unfold maxLen at hc63; rw [IntKind.wrap_i64]; omega
  have hb1 : (0 : Int) ≤ (i : Int) + (1 : Int) := by omega
  have hin : i ≤ n := by omega
  have htn : ((i : Int) + (1 : Int)).toNat = i + 1 := by omega
  have hb2 : ¬ (c = i + 1) := by omega
  have hb3 : (i : Int) ≤ (n : Int) + (1 : Int) := by omega
  have hb4 : ¬ (c = i) := by omega
  have hov : ∀ lb cb o, (callFunc 105 #[.slice (some ⟨g2, 0, none⟩) 1 c2, .slice (some ⟨g, o, none⟩) lb cb]).run Try.prog w = .ok (.value (.bool false)) w := fun lb cb o => by
    rw [run_callFunc_extern Try.func105 (by kernel_rfl) (by kernel_rfl) (by kernel_rfl) (e := Extern.SlicesOverlaps.overlaps #[72, 72] #[4]) (by kernel_rfl),
      Lib.run_overlaps_apart w 72 4 38 u92 2 (fun w => by simp [sizeOf, typeInfo, hti, htz]) ⟨g2, 0, none⟩ ⟨g, o, none⟩ 1 c2 lb cb hne 38 38 cur2.size cur.size (by simp [World.shape?, hg2]) (by simp [World.shape?, hg]) (by omega) (by simp [World.frozen?, hg2]) (by simp [World.frozen?, hg2])]
    rfl
  go_enter Try.func102, Try.ntmps102
  go_wp2_with (simp only [hov])
  go_region_law_o (refine step_run rfl (exec_copy rfl (by simp [Act.eval, Act.put]; rfl) (by simp [Act.eval, Act.put]; rfl) (hcp1 _ _ _)) ?_)
  go_wp2_with (at_builtin; refine wpList_run rfl (exec_copy rfl rfl rfl (hcp2 _ _)) ?_)
  go_ret
  exact ⟨rfl, rfl⟩

set_option maxHeartbeats 4000000 in
set_option maxRecDepth 100000 in
theorem slices_Insert_impl_Row_grow (w : World) (g c g2 c2 n i G : Nat) (R A B : Array Value) (hi : i < n) (hnc : n ≤ c) (hroom : c < n + 1) (hc63 : n + 1 ≤ maxLen) (hG : n + 1 ≤ G) (hGm : G ≤ maxLen)
  (hrz : ∀ ty, (Builtin.append_ #[72, 3] ty #[.slice (some ⟨g, 0, none⟩) i c, .int .i64 ((n : Int) + 1 - i)]).run Try.prog w = .ok (.slice (some ⟨w.heap.size, 0, none⟩) (n + 1) G) (w.drew.alloc (.cells R 38)))
  (hcp2 : ∀ ty dc, (Builtin.copy_ #[72, 72] ty #[.slice (some ⟨w.heap.size, i * 2, none⟩) (n + 1 - i) dc, .slice (some ⟨g2, 0, none⟩) 1 c2]).run Try.prog (w.alloc (.cells R 38)).drew = .ok (goInt (1 : Nat)) ((w.alloc (.cells R 38)).drew.setRow w.heap.size A))
  (hcp1 : ∀ ty dc sc, (Builtin.copy_ #[72, 72] ty #[.slice (some ⟨w.heap.size, (i + 1) * 2, none⟩) (n + 1 - (i + 1)) dc, .slice (some ⟨g, i * 2, none⟩) (n - i) sc]).run Try.prog ((w.alloc (.cells R 38)).drew.setRow w.heap.size A).drew = .ok (goInt (n - i : Nat)) (((w.alloc (.cells R 38)).drew.setRow w.heap.size A).drew.setRow w.heap.size B)) :
  Calls Try.prog 102 #[.slice (some ⟨g, 0, none⟩) n c, .int .i64 i, .slice (some ⟨g2, 0, none⟩) 1 c2] w fun ex w2 => ex = .returned (.slice (some ⟨w.heap.size, 0, none⟩) (n + 1) G) ∧ w2 = ((w.alloc (.cells R 38)).drew.setRow w.heap.size A).drew.setRow w.heap.size B := by
  have mixed := mixed
  have hz1 : ¬ ((1 : Int) = 0) := by omega
  have hz2 : ¬ ((i : Int) = (n : Int)) := by omega
  have hz3 : (c : Int) < (n : Int) + (1 : Int) := by omega
  have hw1 : IntKind.i64.wrap ((i : Int) + (1 : Int)) = (i : Int) + (1 : Int) := by unfold maxLen at hc63; rw [IntKind.wrap_i64]; omega
  have hw2 : IntKind.i64.wrap ((n : Int) + (1 : Int)) = (n : Int) + (1 : Int) := by unfold maxLen at hc63; rw [IntKind.wrap_i64]; omega
  have hw3 : IntKind.i64.wrap ((n : Int) + (1 : Int) - (i : Int)) = (n : Int) + (1 : Int) - (i : Int) := by unfold maxLen at hc63; rw [IntKind.wrap_i64]; omega
  have hb1 : (0 : Int) ≤ (i : Int) + (1 : Int) := by omega
  have hin : i ≤ n := by omega
  have htn : ((i : Int) + (1 : Int)).toNat = i + 1 := by omega
  have hGi : ¬ (G = i) := by omega
  have hGim : ¬ (G = i + 1) := by omega
  have hci : ¬ (c = i) := by omega
  have hb3 : (i : Int) ≤ (n : Int) := by omega
  go_enter Try.func102, Try.ntmps102
  go_wp2_with (first
    | (at_builtin; refine wpList_run rfl (exec_append rfl rfl rfl (hrz _)) ?_)
    | (at_builtin; refine wpList_run rfl (exec_copy rfl rfl rfl (hcp2 _ _)) ?_))
  go_region_law_o (refine step_run rfl (exec_copy rfl (by simp [Act.eval, Act.put]; rfl) (by simp [Act.eval, Act.put]; rfl) (hcp1 _ _ _)) ?_)
  go_wp2
  go_ret
  exact ⟨rfl, rfl⟩
theorem slices_Insert_impl_Row_roads : Roads Try.prog 102 72 38 2 3 where
  end0 := fun w g2 c2 v' w' h => slices_Insert_impl_Row_end0 w g2 c2 v' w' h
  end1 := fun w g c g2 c2 n v' w' hnc h => slices_Insert_impl_Row_end w g c g2 c2 n hnc v' w' h
  inn := fun w g c g2 c2 n i cur cur2 A B h1 h2 h3 h4 h5 h6 h7 h8 h9 => slices_Insert_impl_Row_in w g c g2 c2 n i cur cur2 A B h1 h2 h3 h4 h5 h6 h7 h8 h9
  grow := fun w g c g2 c2 n i G R A B h1 h2 h3 h4 h5 h6 h7 h8 h9 => slices_Insert_impl_Row_grow w g c g2 c2 n i G R A B h1 h2 h3 h4 h5 h6 h7 h8 h9
theorem slices_Insert_impl_Row_ac {a0 a2 : List Row} {a1 : Int} {r : List Row} (h : slices_Insert_impl_Row.f a0 a1 a2 = some r) : AC Try.prog 102 [.v (.ow 38 (rowsOf Row_o a0)), .v (.s (.int .i64 a1)), .v (.ow 38 (rowsOf Row_o a2))] [.v .jk, .v .jk, .v .jk] [.v (.ow 38 (rowsOf Row_o r))] := by
  unfold slices_Insert_impl_Row.f insO at h
  split at h
  · rename_i hc
    obtain ⟨h1, c0, c1, c2, c3⟩ := hc
    obtain ⟨i, rfl⟩ : ∃ k : Nat, a1 = k := ⟨a1.toNat, by omega⟩
    obtain ⟨x, rfl⟩ := List.length_eq_one_iff.1 h1
    simp only [Option.some.injEq] at h
    subst h
    have hr : rowsOf Row_o (a0.take ((i : Nat) : Int).toNat ++ [x] ++ a0.drop ((i : Nat) : Int).toNat) = (rowsOf Row_o a0).take i ++ [Row_o x] ++ (rowsOf Row_o a0).drop i := by simp [rowsOf, List.map_take, List.map_drop]
    rw [hr]
    have hl := rowsOf_len Row_o a0
    simp only [List.length_singleton] at c2 c3
    exact AC.of_ins ⟨_, Try.func102, by rfl, by rfl⟩ (cellsOf_ty (tab_ok 38 _ rfl)) (slices_Insert_impl_Row_roads.raw (tab_ok 72 _ rfl) rfl (tab_ok 38 _ rfl) (by simp) (underlying_int (tab_ok 3 _ rfl) rfl)) (by omega) (by rw [hl]; show (a0.length + 1) * 32 ≤ _; omega) (by omega)
  · cases h


set_option maxRecDepth 8000 in
theorem impl_RowPut_1_ac {a0v_Id : Int} {a0v_Cells : List Int} {a1v_Id : Int} {a1v_Cells : List Int} {r : Bool} (h : impl_RowPut_1.f (Row.mk a0v_Id a0v_Cells) (Row.mk a1v_Id a1v_Cells) = some r) : AC Try.prog 101 [.ag [.s (.int .i64 a0v_Id), .im false (rowsOf Int_c a0v_Cells)], .v (.ip [.s (.int .i64 a1v_Id), .im false (rowsOf Int_c a1v_Cells)])] [.ag [.jk, .jk], .v (.jk)] [.v (.s (.bool r))] := by
  unfold impl_RowPut_1.f at h
  let ar := Ls.ar; let cm := Ls.cm; let bo := Ls.bo; let sc := Ls.sc; let sa := Ls.sa; let sx := Ls.sx; let ss := Ls.ss; let sl := Ls.sl; let bs := Ls.bs; let sb := Ls.sb; let ln := Ls.ln; let sr := Ls.sr; let ap := Ls.ap; let up := Ls.up; let rp := Ls.rp; let fr := Ls.fr; let ge := Ls.ge; let le := Ls.le; let lt := Ls.lt; let nz := Ls.nz; let mm := Ls.mm; let ma := Ls.ma; let sm := Ls.sm; let fl := Ls.fl; let al := Ls.al; let ci := Ls.ci
  let eInt_c := rowsOf Int_c
  have hL : (⟨ar, cm, bo, sc, sa, sx, ss, sl, bs, sb, ln, sr, ap, up, rp, fr, ge, le, lt, nz, mm, ma, sm, fl, al, ci⟩ : Lf) = Ls := rfl
  show AC Try.prog 101 [.ag [.s (.int .i64 a0v_Id), .im false (eInt_c a0v_Cells)], .v (.ip [.s (.int .i64 a1v_Id), .im false (eInt_c a1v_Cells)])] _ _
  refine AC.of_run2 tab_ok Try.func101 (by rfl) (by rfl) (by cbv) ⟨by decide, rfl⟩ fun F hP hA => ?_
  have hT : TabOk F.P tab := hP ▸ tab_ok
  have hM : F.P.follows .mixedOrders = true := hP ▸ mixed
  have hC : ∀ {f a o r}, AC Try.prog f a o r → AC F.P f a o r := fun h => hP ▸ h
  refine Run.seq ?_
  refine Run.region hL hT [] (by cbv) ?_ ?_
  · exact hq0
  refine Run.seq ?_
  refine Run.region hL hT [] (by cbv) ?_ ?_
  · exact (hq trivial (hq trivial hq0))
  refine Run.ret ?_
  cases h
  refine ⟨_, _, by cbv, ?_, ?_⟩
  · exact LLe.r
  · exact (ALe.v LLe.r ALe.nil)


end Go.Proofs.Ytbjbfcfekmdfmaa.L
