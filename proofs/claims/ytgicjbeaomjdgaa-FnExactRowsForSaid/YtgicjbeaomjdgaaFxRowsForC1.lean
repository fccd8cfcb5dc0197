/- The contracts of the program's functions. -/
import Derived.Test.YtgicjbeaomjdgaaProg
import Derived.Test.YtgicjbeaomjdgaaFxRowsForC0
import Derived.KernelRfl
namespace Go.Proofs.Ytgicjbeaomjdgaa.L
open Go Go.Proofs
set_option linter.unusedVariables false
set_option linter.unusedSimpArgs false
set_option maxRecDepth 8000 in
theorem laws_szQuery_ac {a0v_Table : Int} {a0v_Where : List Cond} {a0v_Order : Int} {a0v_Down : Bool} {a0v_First : Int} {a0v_Show : List Int} {a0v_Kids : Bool} {a0v_KidTable : Int} {a0v_KidCol : Int} {a1 : Int} {r : Int} (h : laws_szQuery.f (Query.mk a0v_Table a0v_Where a0v_Order a0v_Down a0v_First a0v_Show a0v_Kids a0v_KidTable a0v_KidCol) a1 = some r) : AC Try.prog 6 [.ag [.s (.int .i64 a0v_Table), .im false (rowsOf Cond_c a0v_Where), .s (.int .i64 a0v_Order), .s (.bool a0v_Down), .s (.int .i64 a0v_First), .im false (rowsOf Int_c a0v_Show), .s (.bool a0v_Kids), .s (.int .i64 a0v_KidTable), .s (.int .i64 a0v_KidCol)], .v (.s (.int .i64 a1))] [.ag [.jk, .jk, .jk, .jk, .jk, .jk, .jk, .jk, .jk], .v (.jk)] [.v (.s (.int .i64 r))] := by
  unfold laws_szQuery.f at h
  let ar := Ls.ar; let cm := Ls.cm; let bo := Ls.bo; let sc := Ls.sc; let sa := Ls.sa; let sx := Ls.sx; let ss := Ls.ss; let sl := Ls.sl; let bs := Ls.bs; let sb := Ls.sb; let ln := Ls.ln; let sr := Ls.sr; let ap := Ls.ap; let up := Ls.up; let rp := Ls.rp; let fr := Ls.fr; let ge := Ls.ge; let le := Ls.le; let lt := Ls.lt; let nz := Ls.nz; let mm := Ls.mm; let ma := Ls.ma; let sm := Ls.sm; let fl := Ls.fl; let al := Ls.al; let ci := Ls.ci
  let eCond_c := rowsOf Cond_c
  let eInt_c := rowsOf Int_c
  have hL : (⟨ar, cm, bo, sc, sa, sx, ss, sl, bs, sb, ln, sr, ap, up, rp, fr, ge, le, lt, nz, mm, ma, sm, fl, al, ci⟩ : Lf) = Ls := rfl
  show AC Try.prog 6 [.ag [.s (.int .i64 a0v_Table), .im false (eCond_c a0v_Where), .s (.int .i64 a0v_Order), .s (.bool a0v_Down), .s (.int .i64 a0v_First), .im false (eInt_c a0v_Show), .s (.bool a0v_Kids), .s (.int .i64 a0v_KidTable), .s (.int .i64 a0v_KidCol)], .v (.s (.int .i64 a1))] _ _
  refine AC.of_run2 tab_ok Try.func6 (by rfl) (by rfl) (by cbv) ⟨by decide, rfl⟩ fun F hP hA => ?_
  have hT : TabOk F.P tab := hP ▸ tab_ok
  have hM : F.P.follows .mixedOrders = true := hP ▸ mixed
  have hC : ∀ {f a o r}, AC Try.prog f a o r → AC F.P f a o r := fun h => hP ▸ h
  refine Run.seq ?_
  refine Run.region hL hT [] (by cbv) ?_ ?_
  · exact hq0
  refine Run.seq ?_
  obtain ⟨r1, h_r1, h⟩ := bnd h
  refine Run.region hL hT [(3, .call [false, false] [.v (.jk), .v (.jk)] [.v (.s (.int .i64 r1))])] (by cbv) ?_ ?_
  · exact (hq trivial (hq (hC (laws_szCondS_ac h_r1)) hq0))
  refine Run.seq ?_
  refine Run.seq ?_
  refine Run.region hL hT [] (by cbv) ?_ ?_
  · exact (hq trivial hq0)
  refine Run.cond (by cbv) (hq0) (fun c2 => ?_) (fun c2 => ?_)
  · have h := if_t c2 h
    refine Run.seq ?_
    refine Run.region hL hT [] (by cbv) ?_ ?_
    · exact hq0
    refine Run.ret ?_
    cases h
    refine ⟨_, _, by cbv, ?_, ?_⟩
    · exact LLe.r
    · exact (ALe.v LLe.r ALe.nil)
  · have h := if_f c2 h
    refine Run.skip ?_
    refine Run.seq ?_
    obtain ⟨r3, h_r3, h⟩ := bnd h
    refine Run.region hL hT [(3, .call [false, false] [.v (.jk), .v (.jk)] [.v (.s (.int .i64 r3))])] (by cbv) ?_ ?_
    · exact (hq trivial (hq (hC (laws_szIntS_ac h_r3)) hq0))
    refine Run.seq ?_
    refine Run.seq ?_
    refine Run.region hL hT [] (by cbv) ?_ ?_
    · exact (hq trivial hq0)
    refine Run.cond (by cbv) (hq0) (fun c4 => ?_) (fun c4 => ?_)
    · have h := if_t c4 h
      refine Run.seq ?_
      refine Run.region hL hT [] (by cbv) ?_ ?_
      · exact hq0
      refine Run.ret ?_
      cases h
      refine ⟨_, _, by cbv, ?_, ?_⟩
      · exact LLe.r
      · exact (ALe.v LLe.r ALe.nil)
    · have h := if_f c4 h
      refine Run.skip ?_
      refine Run.seq ?_
      refine Run.region hL hT [] (by cbv) ?_ ?_
      · exact hq0
      refine Run.ret ?_
      cases h
      refine ⟨_, _, by cbv, ?_, ?_⟩
      · exact LLe.r
      · exact (ALe.v LLe.r ALe.nil)

set_option maxRecDepth 8000 in
theorem spec_l1In_ac {a0 : Int} {a1 : Int} {a2 : Int} {r : Bool} (h : spec_l1In.f a0 a1 a2 = some r) : AC Try.prog 62 [.v (.s (.int .i64 a0)), .v (.s (.int .i64 a1)), .v (.s (.int .i64 a2))] [.v (.jk), .v (.jk), .v (.jk)] [.v (.s (.bool r))] := by
  unfold spec_l1In.f at h
  let ar := Ls.ar; let cm := Ls.cm; let bo := Ls.bo; let sc := Ls.sc; let sa := Ls.sa; let sx := Ls.sx; let ss := Ls.ss; let sl := Ls.sl; let bs := Ls.bs; let sb := Ls.sb; let ln := Ls.ln; let sr := Ls.sr; let ap := Ls.ap; let up := Ls.up; let rp := Ls.rp; let fr := Ls.fr; let ge := Ls.ge; let le := Ls.le; let lt := Ls.lt; let nz := Ls.nz; let mm := Ls.mm; let ma := Ls.ma; let sm := Ls.sm; let fl := Ls.fl; let al := Ls.al; let ci := Ls.ci
  have hL : (⟨ar, cm, bo, sc, sa, sx, ss, sl, bs, sb, ln, sr, ap, up, rp, fr, ge, le, lt, nz, mm, ma, sm, fl, al, ci⟩ : Lf) = Ls := rfl
  show AC Try.prog 62 [.v (.s (.int .i64 a0)), .v (.s (.int .i64 a1)), .v (.s (.int .i64 a2))] _ _
  refine AC.of_run2 tab_ok Try.func62 (by rfl) (by rfl) (by cbv) ⟨by decide, rfl⟩ fun F hP hA => ?_
  have hT : TabOk F.P tab := hP ▸ tab_ok
  have hM : F.P.follows .mixedOrders = true := hP ▸ mixed
  have hC : ∀ {f a o r}, AC Try.prog f a o r → AC F.P f a o r := fun h => hP ▸ h
  refine Run.seq ?_
  refine Run.region hL hT [] (by cbv) ?_ ?_
  · exact hq0
  refine Run.seq ?_
  refine Run.region hL hT [] (by cbv) ?_ ?_
  · exact (hq trivial (hq (fun _ => hq0) (hq (fun _ => hq0) (hq (fun g3 => (hq g3 (hq g3 (hq trivial hq0)))) (hq (fun q4 => (hq q4 hq0)) (hq (fun _ => hq0) hq0))))))
  refine Run.ret ?_
  cases h
  refine ⟨_, _, by cbv, ?_, ?_⟩
  · exact LLe.r
  · exact (ALe.v LLe.r ALe.nil)

set_option maxRecDepth 8000 in
theorem spec_SchemaOk_ac {a0v_Cols : List Int} {r : Bool} (h : spec_SchemaOk.f (Schema.mk a0v_Cols) = some r) : AC Try.prog 61 [.ag [.im false (rowsOf Int_c a0v_Cols)]] [.ag [.jk]] [.v (.s (.bool r))] := by
  unfold spec_SchemaOk.f at h
  let ar := Ls.ar; let cm := Ls.cm; let bo := Ls.bo; let sc := Ls.sc; let sa := Ls.sa; let sx := Ls.sx; let ss := Ls.ss; let sl := Ls.sl; let bs := Ls.bs; let sb := Ls.sb; let ln := Ls.ln; let sr := Ls.sr; let ap := Ls.ap; let up := Ls.up; let rp := Ls.rp; let fr := Ls.fr; let ge := Ls.ge; let le := Ls.le; let lt := Ls.lt; let nz := Ls.nz; let mm := Ls.mm; let ma := Ls.ma; let sm := Ls.sm; let fl := Ls.fl; let al := Ls.al; let ci := Ls.ci
  let eInt_c := rowsOf Int_c
  let lenI_Int := @lenI Int
  have hL : (⟨ar, cm, bo, sc, sa, sx, ss, sl, bs, sb, ln, sr, ap, up, rp, fr, ge, le, lt, nz, mm, ma, sm, fl, al, ci⟩ : Lf) = Ls := rfl
  show AC Try.prog 61 [.ag [.im false (eInt_c a0v_Cols)]] _ _
  refine AC.of_run2 tab_ok Try.func61 (by rfl) (by rfl) (by cbv) ⟨by decide, rfl⟩ fun F hP hA => ?_
  have hT : TabOk F.P tab := hP ▸ tab_ok
  have hM : F.P.follows .mixedOrders = true := hP ▸ mixed
  have hC : ∀ {f a o r}, AC Try.prog f a o r → AC F.P f a o r := fun h => hP ▸ h
  refine Run.seq ?_
  refine Run.region hL hT [] (by cbv) ?_ ?_
  · exact hq0
  obtain ⟨K2, h_K2, h⟩ := joinE h
  refine Run.join1 K2 (r := r) (fun (y1 : Unit) => ⟨22, 100000, [(1, .pt 1 0 0)], [(1, .box 35 [.t (.im false (eInt_c a0v_Cols))])]⟩) ?_ ?_
  · skip
    refine Run.seq ?_
    refine Run.region hL hT [] (by cbv) ?_ ?_
    · exact hq0
    refine Run.block ?_
    refine Run.loop1 (fun (z5 : Int) => ⟨22, 100000, [(1, .pt 1 0 0), (3, .t (.s (.int .i64 z5)))], [(1, .box 35 [.t (.im false (eInt_c a0v_Cols))])]⟩) (x0 := 0) h (Weak.of _ [(1, 0)] hA (by cbv) ?_) (fun _ => rfl) ?_
    · repeat (first | exact hq0 | refine hq (by first | exact True.intro | rfl) ?_)
    · intro k z5 h
      rw [spec_SchemaOk.l0] at h
      refine Run.seq ?_
      refine Run.seq ?_
      refine Run.region hL hT [] (by cbv) ?_ ?_
      · exact (hq trivial (hq trivial hq0))
      rw [show ln (eInt_c a0v_Cols) = lenI_Int a0v_Cols from ln_eq Int_c _]
      refine Run.cond (by cbv) (hq0) (fun c6 => ?_) (fun c6 => ?_)
      · have h := if_t c6 h
        refine Run.skip ?_
        refine Run.seq ?_
        refine Run.block ?_
        refine Run.seq ?_
        obtain ⟨x7, h_x7, h⟩ := bnd h
        obtain ⟨r8, h_r8, h⟩ := bnd h
        refine Run.region hL hT [(3, .el [.s (.int .i64 x7)]), (5, .call [false, false, false] [.v (.jk), .v (.jk), .v (.jk)] [.v (.s (.bool r8))])] (by cbv) ?_ ?_
        · exact (hq trivial (hq (get_le h_x7) (hq (get_lt (f := Int_c) h_x7) (hq (get_ge (f := Int_c) h_x7) (hq (hC (spec_l1In_ac h_r8)) hq0)))))
        refine Run.cond (by cbv) (hq0) (fun c9 => ?_) (fun c9 => ?_)
        · have h := if_t c9 h
          refine Run.seq ?_
          refine Run.region hL hT [] (by cbv) ?_ ?_
          · exact hq0
          refine Run.ret ?_
          cases h
          refine ⟨_, _, by cbv, ?_, ?_⟩
          · exact LLe.r
          · exact (ALe.v LLe.r ALe.nil)
        · have h := if_f c9 h
          refine Run.skip ?_
          refine Run.region hL hT [] (by cbv) ?_ ?_
          · exact (hq trivial hq0)
          refine ⟨(ar .add .i64 z5 1), h, Weak.of _ [(1, 1)] hA (by cbv) ?_⟩
          repeat (first | exact hq0 | refine hq (by first | exact True.intro | rfl) ?_)
      · have h := if_f c6 h
        refine Run.exit ?_
        refine ⟨(), h, Weak.of _ [(1, 1)] hA (by cbv) ?_⟩
        repeat (first | exact hq0 | refine hq (by first | exact True.intro | rfl) ?_)
  · intro y1 h
    rw [h_K2] at h
    refine Run.seq ?_
    obtain ⟨r10, h_r10, h⟩ := bnd h
    refine Run.region hL hT [(3, .call [false, false, false] [.v (.jk), .v (.jk), .v (.jk)] [.v (.s (.bool r10))])] (by cbv) ?_ ?_
    · exact (hq trivial (hq (by rw [show ln (eInt_c a0v_Cols) = lenI_Int a0v_Cols from ln_eq Int_c _]; exact (hC (spec_l1In_ac h_r10))) hq0))
    rw [show ln (eInt_c a0v_Cols) = lenI_Int a0v_Cols from ln_eq Int_c _]
    refine Run.ret ?_
    cases h
    refine ⟨_, _, by cbv, ?_, ?_⟩
    · exact LLe.r
    · exact (ALe.v LLe.r ALe.nil)

set_option maxRecDepth 8000 in
theorem spec_RowOk_ac {a0v_Cols : List Int} {a1 : Int} {a2v_Id : Int} {a2v_Cells : List Int} {r : Bool} (h : spec_RowOk.f (Schema.mk a0v_Cols) a1 (Row.mk a2v_Id a2v_Cells) = some r) : AC Try.prog 86 [.ag [.im false (rowsOf Int_c a0v_Cols)], .v (.s (.int .i64 a1)), .ag [.s (.int .i64 a2v_Id), .im false (rowsOf Int_c a2v_Cells)]] [.ag [.jk], .v (.jk), .ag [.jk, .jk]] [.v (.s (.bool r))] := by
  unfold spec_RowOk.f at h
  let ar := Ls.ar; let cm := Ls.cm; let bo := Ls.bo; let sc := Ls.sc; let sa := Ls.sa; let sx := Ls.sx; let ss := Ls.ss; let sl := Ls.sl; let bs := Ls.bs; let sb := Ls.sb; let ln := Ls.ln; let sr := Ls.sr; let ap := Ls.ap; let up := Ls.up; let rp := Ls.rp; let fr := Ls.fr; let ge := Ls.ge; let le := Ls.le; let lt := Ls.lt; let nz := Ls.nz; let mm := Ls.mm; let ma := Ls.ma; let sm := Ls.sm; let fl := Ls.fl; let al := Ls.al; let ci := Ls.ci
  let eInt_c := rowsOf Int_c
  let lenI_Int := @lenI Int
  have hL : (⟨ar, cm, bo, sc, sa, sx, ss, sl, bs, sb, ln, sr, ap, up, rp, fr, ge, le, lt, nz, mm, ma, sm, fl, al, ci⟩ : Lf) = Ls := rfl
  show AC Try.prog 86 [.ag [.im false (eInt_c a0v_Cols)], .v (.s (.int .i64 a1)), .ag [.s (.int .i64 a2v_Id), .im false (eInt_c a2v_Cells)]] _ _
  refine AC.of_run2 tab_ok Try.func86 (by rfl) (by rfl) (by cbv) ⟨by decide, rfl⟩ fun F hP hA => ?_
  have hT : TabOk F.P tab := hP ▸ tab_ok
  have hM : F.P.follows .mixedOrders = true := hP ▸ mixed
  have hC : ∀ {f a o r}, AC Try.prog f a o r → AC F.P f a o r := fun h => hP ▸ h
  refine Run.seq ?_
  refine Run.region hL hT [] (by cbv) ?_ ?_
  · exact hq0
  refine Run.seq ?_
  refine Run.seq ?_
  obtain ⟨r1, h_r1, h⟩ := bnd h
  obtain ⟨r2, h_r2, h⟩ := bnd h
  obtain ⟨r3, h_r3, h⟩ := bnd h
  obtain ⟨x4, h_x4, h⟩ := bnd h
  refine Run.draw hL hT hM [(1, .call [false] [.ag [.jk]] [.v (.s (.bool r1))]), (9, .call [false, false, false] [.v (.jk), .v (.jk), .v (.jk)] [.v (.s (.bool r2))]), (15, .call [false, false, false] [.v (.jk), .v (.jk), .v (.jk)] [.v (.s (.bool r3))]), (25, .el [.s (.int .i64 x4)])] (by cbv) (by cbv) (by cbv) (by cbv) (by cbv) ?_ ?_
  · exact (hq trivial (hq (hC (spec_SchemaOk_ac h_r1)) (hq (fun _ => hq0) (hq (fun _ => hq0) (hq (fun g7 => (hq g7 (hq trivial hq0))) (hq (fun g8 => (hq g8 hq0)) (hq (fun g9 => (hq g9 (hq trivial hq0))) (hq (fun g10 => (hq g10 (hq g10 (hq (by rw [show ln (eInt_c a0v_Cols) = lenI_Int a0v_Cols from ln_eq Int_c _]; exact (hC (spec_l1In_ac (gd_t h_r2 g10)))) hq0)))) (hq (fun g11 => (hq g11 hq0)) (hq (fun _ => hq0) (hq (fun q13 => (hq (bo_m q13) hq0)) (hq (fun _ => hq0) (hq (fun g15 => (hq g15 (hq trivial hq0))) (hq (fun g16 => (hq g16 (hq (hC (spec_l1In_ac (gd_t h_r3 g16))) hq0))) (hq (fun g17 => (hq g17 hq0)) (hq (fun _ => hq0) (hq (fun q19 => (hq (bo_m q19) hq0)) (hq (fun _ => hq0) (hq (fun g21 => (hq g21 (hq trivial hq0))) (hq (fun g22 => (hq g22 hq0)) (hq (fun _ => hq0) (hq (fun g24 => (hq g24 (hq trivial hq0))) (hq (fun _ => hq0) (hq (fun g26 => (hq g26 (hq g26 (hq (get_le (gd_t h_x4 g26)) (hq (get_lt (f := Int_c) (gd_t h_x4 g26)) (hq (get_ge (f := Int_c) (gd_t h_x4 g26)) hq0)))))) (hq (fun g27 => (hq g27 hq0)) (hq (fun g28 => (hq g28 (hq g28 (hq trivial hq0)))) (hq (fun _ => hq0) (hq (fun q30 => (hq (bo_m q30) hq0)) hq0))))))))))))))))))))))))))))
  rw [show ln (eInt_c a0v_Cols) = lenI_Int a0v_Cols from ln_eq Int_c _]
  rw [show ln (eInt_c a2v_Cells) = lenI_Int a2v_Cells from ln_eq Int_c _]
  refine Run.cond (by cbv) (hq0) (fun c31 => ?_) (fun c31 => ?_)
  · have h := if_t c31 h
    refine Run.seq ?_
    refine Run.region hL hT [] (by cbv) ?_ ?_
    · exact hq0
    refine Run.ret ?_
    cases h
    refine ⟨_, _, by cbv, ?_, ?_⟩
    · exact LLe.r
    · exact (ALe.v LLe.r ALe.nil)
  · have h := if_f c31 h
    refine Run.skip ?_
    refine Run.seq ?_
    refine Run.seq ?_
    refine Run.region hL hT [] (by cbv) ?_ ?_
    · exact hq0
    refine Run.block ?_
    refine Run.loop1 (fun (z35 : Int) => ⟨51, 100000, [(5, .pt 1 0 0), (7, .t (.s (.int .i64 z35)))], [(1, .box 66 [.t (.s (.int .i64 a2v_Id)), .t (.im false (eInt_c a2v_Cells))])]⟩) (x0 := 0) h (Weak.of _ [(1, 1)] hA (by cbv) ?_) (fun _ => rfl) ?_
    · repeat (first | exact hq0 | refine hq (by first | exact True.intro | rfl) ?_)
    · intro k z35 h
      rw [spec_RowOk.l0] at h
      refine Run.seq ?_
      refine Run.seq ?_
      refine Run.region hL hT [] (by cbv) ?_ ?_
      · exact (hq trivial (hq trivial hq0))
      rw [show ln (eInt_c a2v_Cells) = lenI_Int a2v_Cells from ln_eq Int_c _]
      refine Run.cond (by cbv) (hq0) (fun c36 => ?_) (fun c36 => ?_)
      · have h := if_t c36 h
        refine Run.skip ?_
        refine Run.seq ?_
        refine Run.block ?_
        refine Run.seq ?_
        obtain ⟨x37, h_x37, h⟩ := bnd h
        obtain ⟨r38, h_r38, h⟩ := bnd h
        refine Run.region hL hT [(3, .el [.s (.int .i64 x37)]), (5, .call [false, false, false] [.v (.jk), .v (.jk), .v (.jk)] [.v (.s (.bool r38))])] (by cbv) ?_ ?_
        · exact (hq trivial (hq (get_le h_x37) (hq (get_lt (f := Int_c) h_x37) (hq (get_ge (f := Int_c) h_x37) (hq (hC (spec_l1In_ac h_r38)) hq0)))))
        refine Run.cond (by cbv) (hq0) (fun c39 => ?_) (fun c39 => ?_)
        · have h := if_t c39 h
          refine Run.seq ?_
          refine Run.region hL hT [] (by cbv) ?_ ?_
          · exact hq0
          refine Run.ret ?_
          cases h
          refine ⟨_, _, by cbv, ?_, ?_⟩
          · exact LLe.r
          · exact (ALe.v LLe.r ALe.nil)
        · have h := if_f c39 h
          refine Run.skip ?_
          refine Run.region hL hT [] (by cbv) ?_ ?_
          · exact (hq trivial hq0)
          refine ⟨(ar .add .i64 z35 1), h, Weak.of _ [(1, 1)] hA (by cbv) ?_⟩
          repeat (first | exact hq0 | refine hq (by first | exact True.intro | rfl) ?_)
      · have h := if_f c36 h
        refine Run.exit ?_
        refine Run.seq ?_
        refine Run.region hL hT [] (by cbv) ?_ ?_
        · exact hq0
        refine Run.ret ?_
        cases h
        refine ⟨_, _, by cbv, ?_, ?_⟩
        · exact LLe.r
        · exact (ALe.v LLe.r ALe.nil)

set_option maxRecDepth 8000 in
theorem spec_RowsOk_ac {a0v_Cols : List Int} {a1 : Int} {a2 : List Row} {r : Bool} (h : spec_RowsOk.f (Schema.mk a0v_Cols) a1 a2 = some r) : AC Try.prog 63 [.ag [.im false (rowsOf Int_c a0v_Cols)], .v (.s (.int .i64 a1)), .v (.im false (rowsOf Row_i a2))] [.ag [.jk], .v (.jk), .v (.jk)] [.v (.s (.bool r))] := by
  unfold spec_RowsOk.f at h
  let ar := Ls.ar; let cm := Ls.cm; let bo := Ls.bo; let sc := Ls.sc; let sa := Ls.sa; let sx := Ls.sx; let ss := Ls.ss; let sl := Ls.sl; let bs := Ls.bs; let sb := Ls.sb; let ln := Ls.ln; let sr := Ls.sr; let ap := Ls.ap; let up := Ls.up; let rp := Ls.rp; let fr := Ls.fr; let ge := Ls.ge; let le := Ls.le; let lt := Ls.lt; let nz := Ls.nz; let mm := Ls.mm; let ma := Ls.ma; let sm := Ls.sm; let fl := Ls.fl; let al := Ls.al; let ci := Ls.ci
  let eInt_c := rowsOf Int_c
  let eRow_i := rowsOf Row_i
  let lenI_Int := @lenI Int
  let lenI_Row := @lenI Row
  have hL : (⟨ar, cm, bo, sc, sa, sx, ss, sl, bs, sb, ln, sr, ap, up, rp, fr, ge, le, lt, nz, mm, ma, sm, fl, al, ci⟩ : Lf) = Ls := rfl
  show AC Try.prog 63 [.ag [.im false (eInt_c a0v_Cols)], .v (.s (.int .i64 a1)), .v (.im false (eRow_i a2))] _ _
  refine AC.of_run2 tab_ok Try.func63 (by rfl) (by rfl) (by cbv) ⟨by decide, rfl⟩ fun F hP hA => ?_
  have hT : TabOk F.P tab := hP ▸ tab_ok
  have hM : F.P.follows .mixedOrders = true := hP ▸ mixed
  have hC : ∀ {f a o r}, AC Try.prog f a o r → AC F.P f a o r := fun h => hP ▸ h
  refine Run.seq ?_
  refine Run.region hL hT [] (by cbv) ?_ ?_
  · exact hq0
  obtain ⟨K2, h_K2, h⟩ := joinE h
  refine Run.join1 K2 (r := r) (fun (y1 : Unit) => ⟨55, 100000, [(1, .t (.s (.int .i64 a1))), (2, .t (.im false (eRow_i a2))), (3, .pt 1 0 0)], [(1, .box 35 [.t (.im false (eInt_c a0v_Cols))])]⟩) ?_ ?_
  · skip
    refine Run.seq ?_
    refine Run.region hL hT [] (by cbv) ?_ ?_
    · exact hq0
    refine Run.block ?_
    refine Run.loop1 (fun (z7 : Int) => ⟨55, 100000, [(1, .t (.s (.int .i64 a1))), (2, .t (.im false (eRow_i a2))), (3, .pt 1 0 0), (7, .t (.s (.int .i64 z7)))], [(1, .box 35 [.t (.im false (eInt_c a0v_Cols))])]⟩) (x0 := 0) h (Weak.of _ [(1, 0)] hA (by cbv) ?_) (fun _ => rfl) ?_
    · repeat (first | exact hq0 | refine hq (by first | exact True.intro | rfl) ?_)
    · intro k z7 h
      rw [spec_RowsOk.l0] at h
      refine Run.seq ?_
      refine Run.seq ?_
      refine Run.region hL hT [] (by cbv) ?_ ?_
      · exact (hq trivial hq0)
      rw [show ln (eRow_i a2) = lenI_Row a2 from ln_eq Row_i _]
      refine Run.cond (by cbv) (hq0) (fun c8 => ?_) (fun c8 => ?_)
      · have h := if_t c8 h
        refine Run.skip ?_
        refine Run.seq ?_
        refine Run.block ?_
        refine Run.seq ?_
        obtain ⟨⟨x9v_Id, x9v_Cells⟩, h_x9, h⟩ := bnd h
        obtain ⟨r10, h_r10, h⟩ := bnd h
        obtain ⟨⟨x11v_Id, x11v_Cells⟩, h_x11, h⟩ := bnd h
        refine Run.draw hL hT hM [(4, .el [.s (.int .i64 x9v_Id), .im false (eInt_c x9v_Cells)]), (6, .call [false, false, false] [.ag [.jk], .v (.jk), .ag [.jk, .jk]] [.v (.s (.bool r10))]), (15, .el [.s (.int .i64 x11v_Id), .im false (eInt_c x11v_Cells)]), (20, .el [.s (.int .i64 x9v_Id), .im false (eInt_c x9v_Cells)])] (by cbv) (by cbv) (by cbv) (by cbv) (by cbv) ?_ ?_
        · exact (hq trivial (hq (get_le h_x9) (hq (get_lt (f := Row_i) h_x9) (hq (get_ge (f := Row_i) h_x9) (hq (hC (spec_RowOk_ac h_r10)) (hq (fun _ => hq0) (hq (fun g13 => (hq g13 (hq trivial hq0))) (hq (fun g14 => (hq g14 hq0)) (hq (fun _ => hq0) (hq (fun _ => hq0) (hq (fun g17 => (hq g17 (hq trivial hq0))) (hq (fun g18 => (hq g18 (hq g18 (hq (get_le (gd_t h_x11 g18)) (hq (get_lt (f := Row_i) (gd_t h_x11 g18)) (hq (get_ge (f := Row_i) (gd_t h_x11 g18)) hq0)))))) (hq (fun g19 => (hq g19 hq0)) (hq (fun g20 => (hq g20 hq0)) (hq (fun _ => hq0) (hq (fun _ => hq0) (hq (fun g23 => (hq g23 (hq g23 (hq (get_le h_x9) (hq (get_lt (f := Row_i) h_x9) (hq (get_ge (f := Row_i) h_x9) hq0)))))) (hq (fun g24 => (hq g24 hq0)) (hq (fun g25 => (hq g25 hq0)) (hq (fun g26 => (hq g26 (hq g26 (hq trivial hq0)))) (hq (fun g27 => (hq g27 (hq (fun q28 => (hq (bo_a g27 q28) hq0)) (hq (fun _ => hq0) hq0)))) (hq (fun _ => hq0) (hq (fun q31 => (hq (bo_m q31) hq0)) hq0)))))))))))))))))))))))
        refine Run.cond (by cbv) (hq0) (fun c32 => ?_) (fun c32 => ?_)
        · have h := if_t c32 h
          refine Run.seq ?_
          refine Run.region hL hT [] (by cbv) ?_ ?_
          · exact hq0
          refine Run.ret ?_
          cases h
          refine ⟨_, _, by cbv, ?_, ?_⟩
          · exact LLe.r
          · exact (ALe.v LLe.r ALe.nil)
        · have h := if_f c32 h
          refine Run.skip ?_
          refine Run.region hL hT [] (by cbv) ?_ ?_
          · exact (hq trivial hq0)
          refine ⟨(ar .add .i64 z7 1), h, Weak.of _ [(1, 1)] hA (by cbv) ?_⟩
          repeat (first | exact hq0 | refine hq (by first | exact True.intro | rfl) ?_)
      · have h := if_f c8 h
        refine Run.exit ?_
        refine ⟨(), h, Weak.of _ [(1, 1)] hA (by cbv) ?_⟩
        repeat (first | exact hq0 | refine hq (by first | exact True.intro | rfl) ?_)
  · intro y1 h
    rw [h_K2] at h
    refine Run.seq ?_
    obtain ⟨r33, h_r33, h⟩ := bnd h
    obtain ⟨r34, h_r34, h⟩ := bnd h
    refine Run.region hL hT [(1, .call [false] [.ag [.jk]] [.v (.s (.bool r33))]), (8, .call [false, false, false] [.v (.jk), .v (.jk), .v (.jk)] [.v (.s (.bool r34))])] (by cbv) ?_ ?_
    · exact (hq trivial (hq (hC (spec_SchemaOk_ac h_r33)) (hq (fun _ => hq0) (hq (fun _ => hq0) (hq (fun g37 => (hq g37 (hq trivial hq0))) (hq (fun g38 => (hq g38 hq0)) (hq (fun g39 => (hq g39 (hq trivial hq0))) (hq (fun g40 => (hq g40 (hq g40 (hq (by rw [show ln (eInt_c a0v_Cols) = lenI_Int a0v_Cols from ln_eq Int_c _]; exact (hC (spec_l1In_ac (gd_t h_r34 g40)))) hq0)))) (hq (fun q41 => (hq q41 hq0)) (hq (fun _ => hq0) (hq (fun _ => hq0) (hq (fun g44 => (hq g44 hq0)) (hq (fun g45 => (hq g45 (hq trivial hq0))) (hq (fun q46 => (hq q46 hq0)) (hq (fun _ => hq0) hq0)))))))))))))))
    rw [show ln (eInt_c a0v_Cols) = lenI_Int a0v_Cols from ln_eq Int_c _]
    rw [show ln (eRow_i a2) = lenI_Row a2 from ln_eq Row_i _]
    refine Run.ret ?_
    cases h
    refine ⟨_, _, by cbv, ?_, ?_⟩
    · exact LLe.r
    · exact (ALe.v LLe.r ALe.nil)

set_option maxRecDepth 8000 in
theorem spec_StoreOk_ac {a0v_Schemav_Cols : List Int} {a0v_Version : Int} {a0v_Tables : List (List Row)} {r : Bool} (h : spec_StoreOk.f (Store.mk (Schema.mk a0v_Schemav_Cols) a0v_Version a0v_Tables) = some r) : AC Try.prog 27 [.ag [.im false (rowsOf Int_c a0v_Schemav_Cols), .s (.int .i64 a0v_Version), .im false (rowsOf RowS_i a0v_Tables)]] [.ag [.jk, .jk, .jk]] [.v (.s (.bool r))] := by
  unfold spec_StoreOk.f at h
  let ar := Ls.ar; let cm := Ls.cm; let bo := Ls.bo; let sc := Ls.sc; let sa := Ls.sa; let sx := Ls.sx; let ss := Ls.ss; let sl := Ls.sl; let bs := Ls.bs; let sb := Ls.sb; let ln := Ls.ln; let sr := Ls.sr; let ap := Ls.ap; let up := Ls.up; let rp := Ls.rp; let fr := Ls.fr; let ge := Ls.ge; let le := Ls.le; let lt := Ls.lt; let nz := Ls.nz; let mm := Ls.mm; let ma := Ls.ma; let sm := Ls.sm; let fl := Ls.fl; let al := Ls.al; let ci := Ls.ci
  let eInt_c := rowsOf Int_c
  let eRowS_i := rowsOf RowS_i
  let eRow_i := rowsOf Row_i
  let lenI_Int := @lenI Int
  let lenI_RowS := @lenI (List Row)
  have hL : (⟨ar, cm, bo, sc, sa, sx, ss, sl, bs, sb, ln, sr, ap, up, rp, fr, ge, le, lt, nz, mm, ma, sm, fl, al, ci⟩ : Lf) = Ls := rfl
  show AC Try.prog 27 [.ag [.im false (eInt_c a0v_Schemav_Cols), .s (.int .i64 a0v_Version), .im false (eRowS_i a0v_Tables)]] _ _
  refine AC.of_run2 tab_ok Try.func27 (by rfl) (by rfl) (by cbv) ⟨by decide, rfl⟩ fun F hP hA => ?_
  have hT : TabOk F.P tab := hP ▸ tab_ok
  have hM : F.P.follows .mixedOrders = true := hP ▸ mixed
  have hC : ∀ {f a o r}, AC Try.prog f a o r → AC F.P f a o r := fun h => hP ▸ h
  refine Run.seq ?_
  refine Run.region hL hT [] (by cbv) ?_ ?_
  · exact hq0
  refine Run.seq ?_
  refine Run.seq ?_
  obtain ⟨r1, h_r1, h⟩ := bnd h
  obtain ⟨r2, h_r2, h⟩ := bnd h
  refine Run.region hL hT [(2, .call [false] [.ag [.jk]] [.v (.s (.bool r1))]), (7, .call [false, false, false] [.v (.jk), .v (.jk), .v (.jk)] [.v (.s (.bool r2))])] (by cbv) ?_ ?_
  · exact (hq trivial (hq (hC (spec_SchemaOk_ac h_r1)) (hq (fun _ => hq0) (hq (fun g4 => (hq g4 (hq trivial hq0))) (hq (fun g5 => (hq g5 (hq (hC (spec_l1In_ac (gd_t h_r2 g5))) hq0))) (hq (fun g6 => (hq g6 hq0)) (hq (fun _ => hq0) (hq (fun q8 => (hq (bo_m q8) hq0)) (hq (fun _ => hq0) (hq (fun g10 => (hq g10 (hq trivial hq0))) (hq (fun g11 => (hq g11 hq0)) (hq (fun _ => hq0) (hq (fun g13 => (hq g13 hq0)) (hq (fun g14 => (hq g14 (hq trivial hq0))) (hq (fun g15 => (hq g15 hq0)) (hq (fun g16 => (hq g16 (hq g16 (hq trivial hq0)))) (hq (fun _ => hq0) (hq (fun q18 => (hq (bo_m q18) hq0)) hq0))))))))))))))))))
  rw [show ln (eInt_c a0v_Schemav_Cols) = lenI_Int a0v_Schemav_Cols from ln_eq Int_c _]
  rw [show ln (eRowS_i a0v_Tables) = lenI_RowS a0v_Tables from ln_eq RowS_i _]
  refine Run.cond (by cbv) (hq0) (fun c19 => ?_) (fun c19 => ?_)
  · have h := if_t c19 h
    refine Run.seq ?_
    refine Run.region hL hT [] (by cbv) ?_ ?_
    · exact hq0
    refine Run.ret ?_
    cases h
    refine ⟨_, _, by cbv, ?_, ?_⟩
    · exact LLe.r
    · exact (ALe.v LLe.r ALe.nil)
  · have h := if_f c19 h
    refine Run.skip ?_
    refine Run.seq ?_
    refine Run.seq ?_
    refine Run.region hL hT [] (by cbv) ?_ ?_
    · exact hq0
    refine Run.block ?_
    refine Run.loop1 (fun (z24 : Int) => ⟨41, 100000, [(1, .pt 1 0 0), (3, .t (.s (.int .i64 z24)))], [(1, .box 38 [.t (.im false (eInt_c a0v_Schemav_Cols)), .t (.s (.int .i64 a0v_Version)), .t (.im false (eRowS_i a0v_Tables))])]⟩) (x0 := 0) h (Weak.of _ [(1, 0)] hA (by cbv) ?_) (fun _ => rfl) ?_
    · repeat (first | exact hq0 | refine hq (by first | exact True.intro | rfl) ?_)
    · intro k z24 h
      rw [spec_StoreOk.l0] at h
      refine Run.seq ?_
      refine Run.seq ?_
      refine Run.region hL hT [] (by cbv) ?_ ?_
      · exact (hq trivial (hq trivial hq0))
      rw [show ln (eRowS_i a0v_Tables) = lenI_RowS a0v_Tables from ln_eq RowS_i _]
      refine Run.cond (by cbv) (hq0) (fun c25 => ?_) (fun c25 => ?_)
      · have h := if_t c25 h
        refine Run.skip ?_
        refine Run.seq ?_
        refine Run.block ?_
        refine Run.seq ?_
        obtain ⟨x26, h_x26, h⟩ := bnd h
        obtain ⟨r27, h_r27, h⟩ := bnd h
        refine Run.draw hL hT hM [(6, .el [.im false (eRow_i x26)]), (8, .call [false, false, false] [.ag [.jk], .v (.jk), .v (.jk)] [.v (.s (.bool r27))])] (by cbv) (by cbv) (by cbv) (by cbv) (by cbv) ?_ ?_
        · exact (hq trivial (hq trivial (hq (get_le h_x26) (hq (get_lt (f := RowS_i) h_x26) (hq (get_ge (f := RowS_i) h_x26) (hq (hC (spec_RowsOk_ac h_r27)) hq0))))))
        refine Run.cond (by cbv) (hq0) (fun c28 => ?_) (fun c28 => ?_)
        · have h := if_t c28 h
          refine Run.seq ?_
          refine Run.region hL hT [] (by cbv) ?_ ?_
          · exact hq0
          refine Run.ret ?_
          cases h
          refine ⟨_, _, by cbv, ?_, ?_⟩
          · exact LLe.r
          · exact (ALe.v LLe.r ALe.nil)
        · have h := if_f c28 h
          refine Run.skip ?_
          refine Run.region hL hT [] (by cbv) ?_ ?_
          · exact (hq trivial hq0)
          refine ⟨(ar .add .i64 z24 1), h, Weak.of _ [(1, 1)] hA (by cbv) ?_⟩
          repeat (first | exact hq0 | refine hq (by first | exact True.intro | rfl) ?_)
      · have h := if_f c25 h
        refine Run.exit ?_
        refine Run.seq ?_
        refine Run.region hL hT [] (by cbv) ?_ ?_
        · exact hq0
        refine Run.ret ?_
        cases h
        refine ⟨_, _, by cbv, ?_, ?_⟩
        · exact LLe.r
        · exact (ALe.v LLe.r ALe.nil)

set_option maxRecDepth 8000 in
theorem spec_QueryOk_ac {a0v_Cols : List Int} {a1v_Table : Int} {a1v_Where : List Cond} {a1v_Order : Int} {a1v_Down : Bool} {a1v_First : Int} {a1v_Show : List Int} {a1v_Kids : Bool} {a1v_KidTable : Int} {a1v_KidCol : Int} {r : Bool} (h : spec_QueryOk.f (Schema.mk a0v_Cols) (Query.mk a1v_Table a1v_Where a1v_Order a1v_Down a1v_First a1v_Show a1v_Kids a1v_KidTable a1v_KidCol) = some r) : AC Try.prog 28 [.ag [.im false (rowsOf Int_c a0v_Cols)], .ag [.s (.int .i64 a1v_Table), .im false (rowsOf Cond_c a1v_Where), .s (.int .i64 a1v_Order), .s (.bool a1v_Down), .s (.int .i64 a1v_First), .im false (rowsOf Int_c a1v_Show), .s (.bool a1v_Kids), .s (.int .i64 a1v_KidTable), .s (.int .i64 a1v_KidCol)]] [.ag [.jk], .ag [.jk, .jk, .jk, .jk, .jk, .jk, .jk, .jk, .jk]] [.v (.s (.bool r))] := by
  unfold spec_QueryOk.f at h
  let ar := Ls.ar; let cm := Ls.cm; let bo := Ls.bo; let sc := Ls.sc; let sa := Ls.sa; let sx := Ls.sx; let ss := Ls.ss; let sl := Ls.sl; let bs := Ls.bs; let sb := Ls.sb; let ln := Ls.ln; let sr := Ls.sr; let ap := Ls.ap; let up := Ls.up; let rp := Ls.rp; let fr := Ls.fr; let ge := Ls.ge; let le := Ls.le; let lt := Ls.lt; let nz := Ls.nz; let mm := Ls.mm; let ma := Ls.ma; let sm := Ls.sm; let fl := Ls.fl; let al := Ls.al; let ci := Ls.ci
  let eCond_c := rowsOf Cond_c
  let eInt_c := rowsOf Int_c
  let lenI_Cond := @lenI Cond
  let lenI_Int := @lenI Int
  have hL : (⟨ar, cm, bo, sc, sa, sx, ss, sl, bs, sb, ln, sr, ap, up, rp, fr, ge, le, lt, nz, mm, ma, sm, fl, al, ci⟩ : Lf) = Ls := rfl
  show AC Try.prog 28 [.ag [.im false (eInt_c a0v_Cols)], .ag [.s (.int .i64 a1v_Table), .im false (eCond_c a1v_Where), .s (.int .i64 a1v_Order), .s (.bool a1v_Down), .s (.int .i64 a1v_First), .im false (eInt_c a1v_Show), .s (.bool a1v_Kids), .s (.int .i64 a1v_KidTable), .s (.int .i64 a1v_KidCol)]] _ _
  refine AC.of_run2 tab_ok Try.func28 (by rfl) (by rfl) (by cbv) ⟨by decide, rfl⟩ fun F hP hA => ?_
  have hT : TabOk F.P tab := hP ▸ tab_ok
  have hM : F.P.follows .mixedOrders = true := hP ▸ mixed
  have hC : ∀ {f a o r}, AC Try.prog f a o r → AC F.P f a o r := fun h => hP ▸ h
  refine Run.seq ?_
  refine Run.region hL hT [] (by cbv) ?_ ?_
  · exact hq0
  refine Run.seq ?_
  refine Run.seq ?_
  obtain ⟨r1, h_r1, h⟩ := bnd h
  obtain ⟨r2, h_r2, h⟩ := bnd h
  refine Run.region hL hT [(1, .call [false] [.ag [.jk]] [.v (.s (.bool r1))]), (10, .call [false, false, false] [.v (.jk), .v (.jk), .v (.jk)] [.v (.s (.bool r2))])] (by cbv) ?_ ?_
  · exact (hq trivial (hq (hC (spec_SchemaOk_ac h_r1)) (hq (fun _ => hq0) (hq (fun g4 => (hq g4 (hq trivial hq0))) (hq (fun _ => hq0) (hq (fun g6 => (hq g6 (hq trivial hq0))) (hq (fun g7 => (hq g7 hq0)) (hq (fun g8 => (hq g8 (hq trivial hq0))) (hq (fun g9 => (hq g9 (hq g9 (hq (by rw [show ln (eInt_c a0v_Cols) = lenI_Int a0v_Cols from ln_eq Int_c _]; exact (hC (spec_l1In_ac (gd_t h_r2 g9)))) hq0)))) (hq (fun g10 => (hq g10 hq0)) (hq (fun _ => hq0) (hq (fun q12 => (hq (bo_m q12) hq0)) (hq (fun _ => hq0) (hq (fun g14 => (hq g14 (hq trivial hq0))) (hq (fun g15 => (hq g15 hq0)) (hq (fun g16 => (hq g16 (hq trivial hq0))) (hq (fun _ => hq0) (hq (fun q18 => (hq (bo_m q18) hq0)) hq0))))))))))))))))))
  rw [show ln (eCond_c a1v_Where) = lenI_Cond a1v_Where from ln_eq Cond_c _]
  rw [show ln (eInt_c a0v_Cols) = lenI_Int a0v_Cols from ln_eq Int_c _]
  refine Run.cond (by cbv) (hq0) (fun c19 => ?_) (fun c19 => ?_)
  · have h := if_t c19 h
    refine Run.seq ?_
    refine Run.region hL hT [] (by cbv) ?_ ?_
    · exact hq0
    refine Run.ret ?_
    cases h
    refine ⟨_, _, by cbv, ?_, ?_⟩
    · exact LLe.r
    · exact (ALe.v LLe.r ALe.nil)
  · have h := if_f c19 h
    refine Run.skip ?_
    refine Run.seq ?_
    obtain ⟨x20, h_x20, h⟩ := bnd h
    refine Run.region hL hT [(4, .el [.s (.int .i64 x20)])] (by cbv) ?_ ?_
    · exact (hq trivial (hq trivial (hq (get_le h_x20) (hq (get_lt (f := Int_c) h_x20) (hq (get_ge (f := Int_c) h_x20) hq0)))))
    obtain ⟨K22, h_K22, h⟩ := joinE h
    refine Run.join1 K22 (r := r) (fun (y21 : Unit) => ⟨148, 100000, [(2, .pt 1 0 0), (3, .pt 2 0 0), (5, .t (.s (.int .i64 x20)))], [(1, .box 35 [.t (.im false (eInt_c a0v_Cols))]), (2, .box 42 [.t (.s (.int .i64 a1v_Table)), .t (.im false (eCond_c a1v_Where)), .t (.s (.int .i64 a1v_Order)), .t (.s (.bool a1v_Down)), .t (.s (.int .i64 a1v_First)), .t (.im false (eInt_c a1v_Show)), .t (.s (.bool a1v_Kids)), .t (.s (.int .i64 a1v_KidTable)), .t (.s (.int .i64 a1v_KidCol))])]⟩) ?_ ?_
    · skip
      refine Run.seq ?_
      refine Run.region hL hT [] (by cbv) ?_ ?_
      · exact hq0
      refine Run.block ?_
      refine Run.loop1 (fun (z35 : Int) => ⟨148, 100000, [(2, .pt 1 0 0), (3, .pt 2 0 0), (5, .t (.s (.int .i64 x20))), (6, .t (.s (.int .i64 z35)))], [(1, .box 35 [.t (.im false (eInt_c a0v_Cols))]), (2, .box 42 [.t (.s (.int .i64 a1v_Table)), .t (.im false (eCond_c a1v_Where)), .t (.s (.int .i64 a1v_Order)), .t (.s (.bool a1v_Down)), .t (.s (.int .i64 a1v_First)), .t (.im false (eInt_c a1v_Show)), .t (.s (.bool a1v_Kids)), .t (.s (.int .i64 a1v_KidTable)), .t (.s (.int .i64 a1v_KidCol))])]⟩) (x0 := 0) h (Weak.of _ [(1, 0), (2, 1)] hA (by cbv) ?_) (fun _ => rfl) ?_
      · repeat (first | exact hq0 | refine hq (by first | exact True.intro | rfl) ?_)
      · intro k z35 h
        rw [spec_QueryOk.l0] at h
        refine Run.seq ?_
        refine Run.seq ?_
        refine Run.region hL hT [] (by cbv) ?_ ?_
        · exact (hq trivial (hq trivial hq0))
        rw [show ln (eCond_c a1v_Where) = lenI_Cond a1v_Where from ln_eq Cond_c _]
        refine Run.cond (by cbv) (hq0) (fun c36 => ?_) (fun c36 => ?_)
        · have h := if_t c36 h
          refine Run.skip ?_
          refine Run.seq ?_
          refine Run.block ?_
          refine Run.seq ?_
          obtain ⟨⟨x37v_Col, x37v_Op, x37v_V⟩, h_x37, h⟩ := bnd h
          refine Run.region hL hT [(3, .el [.s (.int .i64 x37v_Col), .s (.int .i64 x37v_Op), .s (.int .i64 x37v_V)])] (by cbv) ?_ ?_
          · exact (hq trivial (hq (get_le h_x37) (hq (get_lt (f := Cond_c) h_x37) (hq (get_ge (f := Cond_c) h_x37) (hq trivial hq0)))))
          refine Run.seq ?_
          obtain ⟨r38, h_r38, h⟩ := bnd h
          obtain ⟨r39, h_r39, h⟩ := bnd h
          obtain ⟨r40, h_r40, h⟩ := bnd h
          refine Run.region hL hT [(4, .call [false, false, false] [.v (.jk), .v (.jk), .v (.jk)] [.v (.s (.bool r38))]), (9, .call [false, false, false] [.v (.jk), .v (.jk), .v (.jk)] [.v (.s (.bool r39))]), (15, .call [false, false, false] [.v (.jk), .v (.jk), .v (.jk)] [.v (.s (.bool r40))])] (by cbv) ?_ ?_
          · exact (hq trivial (hq trivial (hq (hC (spec_l1In_ac h_r38)) (hq (fun _ => hq0) (hq (fun g42 => (hq g42 (hq trivial hq0))) (hq (fun g43 => (hq g43 (hq (hC (spec_l1In_ac (gd_t h_r39 g43))) hq0))) (hq (fun g44 => (hq g44 hq0)) (hq (fun _ => hq0) (hq (fun q46 => (hq (bo_m q46) hq0)) (hq (fun _ => hq0) (hq (fun g48 => (hq g48 (hq trivial hq0))) (hq (fun g49 => (hq g49 (hq (hC (spec_l1In_ac (gd_t h_r40 g49))) hq0))) (hq (fun g50 => (hq g50 hq0)) (hq (fun _ => hq0) (hq (fun q52 => (hq (bo_m q52) hq0)) hq0)))))))))))))))
          refine Run.cond (by cbv) (hq0) (fun c53 => ?_) (fun c53 => ?_)
          · have h := if_t c53 h
            refine Run.seq ?_
            refine Run.region hL hT [] (by cbv) ?_ ?_
            · exact hq0
            refine Run.ret ?_
            cases h
            refine ⟨_, _, by cbv, ?_, ?_⟩
            · exact LLe.r
            · exact (ALe.v LLe.r ALe.nil)
          · have h := if_f c53 h
            refine Run.skip ?_
            refine Run.region hL hT [] (by cbv) ?_ ?_
            · exact (hq trivial hq0)
            refine ⟨(ar .add .i64 z35 1), h, Weak.of _ [(1, 1), (2, 2)] hA (by cbv) ?_⟩
            repeat (first | exact hq0 | refine hq (by first | exact True.intro | rfl) ?_)
        · have h := if_f c36 h
          refine Run.exit ?_
          refine ⟨(), h, Weak.of _ [(1, 1), (2, 2)] hA (by cbv) ?_⟩
          repeat (first | exact hq0 | refine hq (by first | exact True.intro | rfl) ?_)
    · intro y21 h
      rw [h_K22] at h
      obtain ⟨K55, h_K55, h⟩ := joinE h
      refine Run.join1 K55 (r := r) (fun (y54 : Unit) => ⟨148, 100000, [(2, .pt 1 0 0), (3, .pt 2 0 0), (5, .t (.s (.int .i64 x20)))], [(1, .box 35 [.t (.im false (eInt_c a0v_Cols))]), (2, .box 42 [.t (.s (.int .i64 a1v_Table)), .t (.im false (eCond_c a1v_Where)), .t (.s (.int .i64 a1v_Order)), .t (.s (.bool a1v_Down)), .t (.s (.int .i64 a1v_First)), .t (.im false (eInt_c a1v_Show)), .t (.s (.bool a1v_Kids)), .t (.s (.int .i64 a1v_KidTable)), .t (.s (.int .i64 a1v_KidCol))])]⟩) ?_ ?_
      · skip
        refine Run.seq ?_
        refine Run.region hL hT [] (by cbv) ?_ ?_
        · exact hq0
        refine Run.block ?_
        refine Run.loop1 (fun (z68 : Int) => ⟨148, 100000, [(2, .pt 1 0 0), (3, .pt 2 0 0), (5, .t (.s (.int .i64 x20))), (8, .t (.s (.int .i64 z68)))], [(1, .box 35 [.t (.im false (eInt_c a0v_Cols))]), (2, .box 42 [.t (.s (.int .i64 a1v_Table)), .t (.im false (eCond_c a1v_Where)), .t (.s (.int .i64 a1v_Order)), .t (.s (.bool a1v_Down)), .t (.s (.int .i64 a1v_First)), .t (.im false (eInt_c a1v_Show)), .t (.s (.bool a1v_Kids)), .t (.s (.int .i64 a1v_KidTable)), .t (.s (.int .i64 a1v_KidCol))])]⟩) (x0 := 0) h (Weak.of _ [(1, 1), (2, 2)] hA (by cbv) ?_) (fun _ => rfl) ?_
        · repeat (first | exact hq0 | refine hq (by first | exact True.intro | rfl) ?_)
        · intro k z68 h
          rw [spec_QueryOk.l1] at h
          refine Run.seq ?_
          refine Run.seq ?_
          refine Run.region hL hT [] (by cbv) ?_ ?_
          · exact (hq trivial (hq trivial hq0))
          rw [show ln (eInt_c a1v_Show) = lenI_Int a1v_Show from ln_eq Int_c _]
          refine Run.cond (by cbv) (hq0) (fun c69 => ?_) (fun c69 => ?_)
          · have h := if_t c69 h
            refine Run.skip ?_
            refine Run.seq ?_
            refine Run.block ?_
            refine Run.seq ?_
            obtain ⟨x70, h_x70, h⟩ := bnd h
            obtain ⟨r71, h_r71, h⟩ := bnd h
            obtain ⟨x72, h_x72, h⟩ := bnd h
            refine Run.draw hL hT hM [(3, .el [.s (.int .i64 x70)]), (7, .call [false, false, false] [.v (.jk), .v (.jk), .v (.jk)] [.v (.s (.bool r71))]), (17, .el [.s (.int .i64 x72)]), (22, .el [.s (.int .i64 x70)])] (by cbv) (by cbv) (by cbv) (by cbv) (by cbv) ?_ ?_
            · exact (hq trivial (hq (get_le h_x70) (hq (get_lt (f := Int_c) h_x70) (hq (get_ge (f := Int_c) h_x70) (hq trivial (hq (hC (spec_l1In_ac h_r71)) (hq (fun _ => hq0) (hq (fun g74 => (hq g74 (hq trivial hq0))) (hq (fun g75 => (hq g75 hq0)) (hq (fun _ => hq0) (hq (fun g77 => (hq g77 (hq trivial hq0))) (hq (fun _ => hq0) (hq (fun g79 => (hq g79 (hq trivial hq0))) (hq (fun g80 => (hq g80 (hq g80 (hq (get_le (gd_t h_x72 g80)) (hq (get_lt (f := Int_c) (gd_t h_x72 g80)) (hq (get_ge (f := Int_c) (gd_t h_x72 g80)) hq0)))))) (hq (fun g81 => (hq g81 hq0)) (hq (fun _ => hq0) (hq (fun g83 => (hq g83 (hq trivial hq0))) (hq (fun _ => hq0) (hq (fun g85 => (hq g85 (hq g85 (hq (get_le h_x70) (hq (get_lt (f := Int_c) h_x70) (hq (get_ge (f := Int_c) h_x70) hq0)))))) (hq (fun g86 => (hq g86 hq0)) (hq (fun g87 => (hq g87 (hq g87 (hq trivial hq0)))) (hq (fun g88 => (hq g88 (hq (fun q89 => (hq (bo_a g88 q89) hq0)) (hq (fun _ => hq0) hq0)))) (hq (fun _ => hq0) (hq (fun q92 => (hq (bo_m q92) hq0)) hq0))))))))))))))))))))))))
            refine Run.cond (by cbv) (hq0) (fun c93 => ?_) (fun c93 => ?_)
            · have h := if_t c93 h
              refine Run.seq ?_
              refine Run.region hL hT [] (by cbv) ?_ ?_
              · exact hq0
              refine Run.ret ?_
              cases h
              refine ⟨_, _, by cbv, ?_, ?_⟩
              · exact LLe.r
              · exact (ALe.v LLe.r ALe.nil)
            · have h := if_f c93 h
              refine Run.skip ?_
              refine Run.region hL hT [] (by cbv) ?_ ?_
              · exact (hq trivial hq0)
              refine ⟨(ar .add .i64 z68 1), h, Weak.of _ [(1, 1), (2, 2)] hA (by cbv) ?_⟩
              repeat (first | exact hq0 | refine hq (by first | exact True.intro | rfl) ?_)
          · have h := if_f c69 h
            refine Run.exit ?_
            refine ⟨(), h, Weak.of _ [(1, 1), (2, 2)] hA (by cbv) ?_⟩
            repeat (first | exact hq0 | refine hq (by first | exact True.intro | rfl) ?_)
      · intro y54 h
        rw [h_K55] at h
        refine Run.seq ?_
        refine Run.seq ?_
        obtain ⟨r94, h_r94, h⟩ := bnd h
        obtain ⟨r95, h_r95, h⟩ := bnd h
        refine Run.region hL hT [(3, .call [false, false, false] [.v (.jk), .v (.jk), .v (.jk)] [.v (.s (.bool r94))]), (8, .call [false, false, false] [.v (.jk), .v (.jk), .v (.jk)] [.v (.s (.bool r95))])] (by cbv) ?_ ?_
        · exact (hq trivial (hq (hC (spec_l1In_ac h_r94)) (hq (fun _ => hq0) (hq (fun g97 => (hq g97 (hq trivial hq0))) (hq (fun g98 => (hq g98 (hq (hC (spec_l1In_ac (gd_t h_r95 g98))) hq0))) (hq (fun g99 => (hq g99 hq0)) (hq (fun _ => hq0) (hq (fun q101 => (hq (bo_m q101) hq0)) (hq (fun _ => hq0) (hq (fun g103 => (hq g103 (hq trivial hq0))) (hq (fun g104 => (hq g104 (hq trivial hq0))) (hq (fun g105 => (hq g105 hq0)) (hq (fun _ => hq0) (hq (fun g107 => (hq g107 (hq trivial hq0))) (hq (fun g108 => (hq g108 (hq (fun q109 => (hq (bo_a g108 q109) hq0)) (hq (fun _ => hq0) hq0)))) (hq (fun _ => hq0) (hq (fun q112 => (hq (bo_m q112) hq0)) hq0)))))))))))))))))
        refine Run.cond (by cbv) (hq0) (fun c113 => ?_) (fun c113 => ?_)
        · have h := if_t c113 h
          refine Run.seq ?_
          refine Run.region hL hT [] (by cbv) ?_ ?_
          · exact hq0
          refine Run.ret ?_
          cases h
          refine ⟨_, _, by cbv, ?_, ?_⟩
          · exact LLe.r
          · exact (ALe.v LLe.r ALe.nil)
        · have h := if_f c113 h
          refine Run.skip ?_
          refine Run.seq ?_
          refine Run.seq ?_
          refine Run.region hL hT [] (by cbv) ?_ ?_
          · exact (hq trivial hq0)
          refine Run.cond (by cbv) (hq0) (fun c114 => ?_) (fun c114 => ?_)
          · have h := if_t c114 h
            refine Run.seq ?_
            refine Run.region hL hT [] (by cbv) ?_ ?_
            · exact (hq trivial (hq trivial (hq (fun _ => hq0) (hq (fun g116 => (hq g116 (hq trivial hq0))) (hq (fun g117 => (hq g117 (hq trivial hq0))) (hq (fun q118 => (hq q118 hq0)) (hq (fun _ => hq0) hq0)))))))
            refine Run.ret ?_
            cases h
            refine ⟨_, _, by cbv, ?_, ?_⟩
            · exact LLe.r
            · exact (ALe.v LLe.r ALe.nil)
          · have h := if_f c114 h
            refine Run.skip ?_
            refine Run.seq ?_
            obtain ⟨r120, h_r120, h⟩ := bnd h
            obtain ⟨x121, h_x121, h⟩ := bnd h
            obtain ⟨r122, h_r122, h⟩ := bnd h
            refine Run.draw hL hT hM [(6, .call [false, false, false] [.v (.jk), .v (.jk), .v (.jk)] [.v (.s (.bool r120))]), (14, .el [.s (.int .i64 x121)]), (17, .call [false, false, false] [.v (.jk), .v (.jk), .v (.jk)] [.v (.s (.bool r122))])] (by cbv) (by cbv) (by cbv) (by cbv) (by cbv) ?_ ?_
            · exact (hq trivial (hq trivial (hq trivial (hq (by rw [show ln (eInt_c a0v_Cols) = lenI_Int a0v_Cols from ln_eq Int_c _]; exact (hC (spec_l1In_ac h_r120))) (hq (fun _ => hq0) (hq (fun g124 => (hq g124 (hq trivial hq0))) (hq (fun _ => hq0) (hq (fun g126 => (hq g126 (hq trivial hq0))) (hq (fun _ => hq0) (hq (fun g128 => (hq g128 (hq trivial hq0))) (hq (fun g129 => (hq g129 (hq g129 (hq (get_le (gd_t h_x121 g129)) (hq (get_lt (f := Int_c) (gd_t h_x121 g129)) (hq (get_ge (f := Int_c) (gd_t h_x121 g129)) hq0)))))) (hq (fun g130 => (hq g130 hq0)) (hq (fun g131 => (hq g131 (hq trivial hq0))) (hq (fun g132 => (hq g132 (hq g132 (hq (hC (spec_l1In_ac (gd_t h_r122 g132))) hq0)))) (hq (fun q133 => (hq q133 hq0)) (hq (fun _ => hq0) hq0))))))))))))))))
            rw [show ln (eInt_c a0v_Cols) = lenI_Int a0v_Cols from ln_eq Int_c _]
            refine Run.ret ?_
            cases h
            refine ⟨_, _, by cbv, ?_, ?_⟩
            · exact LLe.r
            · exact (ALe.v LLe.r ALe.nil)

set_option maxRecDepth 8000 in
theorem spec_l9Holds_ac {a0v_Col : Int} {a0v_Op : Int} {a0v_V : Int} {a1v_Id : Int} {a1v_Cells : List Int} {r : Bool} (h : spec_l9Holds.f (Cond.mk a0v_Col a0v_Op a0v_V) (Row.mk a1v_Id a1v_Cells) = some r) : AC Try.prog 64 [.ag [.s (.int .i64 a0v_Col), .s (.int .i64 a0v_Op), .s (.int .i64 a0v_V)], .ag [.s (.int .i64 a1v_Id), .im false (rowsOf Int_c a1v_Cells)]] [.ag [.jk, .jk, .jk], .ag [.jk, .jk]] [.v (.s (.bool r))] := by
  unfold spec_l9Holds.f at h
  let ar := Ls.ar; let cm := Ls.cm; let bo := Ls.bo; let sc := Ls.sc; let sa := Ls.sa; let sx := Ls.sx; let ss := Ls.ss; let sl := Ls.sl; let bs := Ls.bs; let sb := Ls.sb; let ln := Ls.ln; let sr := Ls.sr; let ap := Ls.ap; let up := Ls.up; let rp := Ls.rp; let fr := Ls.fr; let ge := Ls.ge; let le := Ls.le; let lt := Ls.lt; let nz := Ls.nz; let mm := Ls.mm; let ma := Ls.ma; let sm := Ls.sm; let fl := Ls.fl; let al := Ls.al; let ci := Ls.ci
  let eInt_c := rowsOf Int_c
  let lenI_Int := @lenI Int
  have hL : (⟨ar, cm, bo, sc, sa, sx, ss, sl, bs, sb, ln, sr, ap, up, rp, fr, ge, le, lt, nz, mm, ma, sm, fl, al, ci⟩ : Lf) = Ls := rfl
  show AC Try.prog 64 [.ag [.s (.int .i64 a0v_Col), .s (.int .i64 a0v_Op), .s (.int .i64 a0v_V)], .ag [.s (.int .i64 a1v_Id), .im false (eInt_c a1v_Cells)]] _ _
  refine AC.of_run2 tab_ok Try.func64 (by rfl) (by rfl) (by cbv) ⟨by decide, rfl⟩ fun F hP hA => ?_
  have hT : TabOk F.P tab := hP ▸ tab_ok
  have hM : F.P.follows .mixedOrders = true := hP ▸ mixed
  have hC : ∀ {f a o r}, AC Try.prog f a o r → AC F.P f a o r := fun h => hP ▸ h
  refine Run.seq ?_
  refine Run.region hL hT [] (by cbv) ?_ ?_
  · exact hq0
  refine Run.seq ?_
  refine Run.seq ?_
  obtain ⟨r1, h_r1, h⟩ := bnd h
  refine Run.region hL hT [(6, .call [false, false, false] [.v (.jk), .v (.jk), .v (.jk)] [.v (.s (.bool r1))])] (by cbv) ?_ ?_
  · exact (hq trivial (hq trivial (hq trivial (hq (by rw [show ln (eInt_c a1v_Cells) = lenI_Int a1v_Cells from ln_eq Int_c _]; exact (hC (spec_l1In_ac h_r1))) hq0))))
  rw [show ln (eInt_c a1v_Cells) = lenI_Int a1v_Cells from ln_eq Int_c _]
  refine Run.cond (by cbv) (hq0) (fun c2 => ?_) (fun c2 => ?_)
  · have h := if_t c2 h
    refine Run.seq ?_
    refine Run.region hL hT [] (by cbv) ?_ ?_
    · exact hq0
    refine Run.ret ?_
    cases h
    refine ⟨_, _, by cbv, ?_, ?_⟩
    · exact LLe.r
    · exact (ALe.v LLe.r ALe.nil)
  · have h := if_f c2 h
    refine Run.skip ?_
    refine Run.seq ?_
    obtain ⟨x3, h_x3, h⟩ := bnd h
    refine Run.region hL hT [(4, .el [.s (.int .i64 x3)])] (by cbv) ?_ ?_
    · exact (hq trivial (hq trivial (hq (get_le h_x3) (hq (get_lt (f := Int_c) h_x3) (hq (get_ge (f := Int_c) h_x3) hq0)))))
    refine Run.seq ?_
    refine Run.seq ?_
    refine Run.region hL hT [] (by cbv) ?_ ?_
    · exact (hq trivial hq0)
    refine Run.block ?_
    refine Run.seq ?_
    refine Run.region hL hT [] (by cbv) ?_ ?_
    · exact (hq trivial hq0)
    refine Run.cond (by cbv) (hq0) (fun c4 => ?_) (fun c4 => ?_)
    · have h := if_t c4 h
      refine Run.seq ?_
      refine Run.region hL hT [] (by cbv) ?_ ?_
      · exact (hq trivial (hq trivial hq0))
      refine Run.ret ?_
      cases h
      refine ⟨_, _, by cbv, ?_, ?_⟩
      · exact LLe.r
      · exact (ALe.v LLe.r ALe.nil)
    · have h := if_f c4 h
      refine Run.seq ?_
      refine Run.region hL hT [] (by cbv) ?_ ?_
      · exact (hq trivial hq0)
      refine Run.cond (by cbv) (hq0) (fun c5 => ?_) (fun c5 => ?_)
      · have h := if_t c5 h
        refine Run.seq ?_
        refine Run.region hL hT [] (by cbv) ?_ ?_
        · exact (hq trivial (hq trivial hq0))
        refine Run.ret ?_
        cases h
        refine ⟨_, _, by cbv, ?_, ?_⟩
        · exact LLe.r
        · exact (ALe.v LLe.r ALe.nil)
      · have h := if_f c5 h
        refine Run.seq ?_
        refine Run.region hL hT [] (by cbv) ?_ ?_
        · exact (hq trivial hq0)
        refine Run.cond (by cbv) (hq0) (fun c6 => ?_) (fun c6 => ?_)
        · have h := if_t c6 h
          refine Run.seq ?_
          refine Run.region hL hT [] (by cbv) ?_ ?_
          · exact (hq trivial (hq trivial hq0))
          refine Run.ret ?_
          cases h
          refine ⟨_, _, by cbv, ?_, ?_⟩
          · exact LLe.r
          · exact (ALe.v LLe.r ALe.nil)
        · have h := if_f c6 h
          refine Run.seq ?_
          refine Run.region hL hT [] (by cbv) ?_ ?_
          · exact (hq trivial hq0)
          refine Run.cond (by cbv) (hq0) (fun c7 => ?_) (fun c7 => ?_)
          · have h := if_t c7 h
            refine Run.seq ?_
            refine Run.region hL hT [] (by cbv) ?_ ?_
            · exact (hq trivial (hq trivial hq0))
            refine Run.ret ?_
            cases h
            refine ⟨_, _, by cbv, ?_, ?_⟩
            · exact LLe.r
            · exact (ALe.v LLe.r ALe.nil)
          · have h := if_f c7 h
            refine Run.skip ?_
            refine Run.seq ?_
            refine Run.region hL hT [] (by cbv) ?_ ?_
            · exact hq0
            refine Run.ret ?_
            cases h
            refine ⟨_, _, by cbv, ?_, ?_⟩
            · exact LLe.r
            · exact (ALe.v LLe.r ALe.nil)

set_option maxRecDepth 8000 in
theorem spec_Matches_ac {a0v_Table : Int} {a0v_Where : List Cond} {a0v_Order : Int} {a0v_Down : Bool} {a0v_First : Int} {a0v_Show : List Int} {a0v_Kids : Bool} {a0v_KidTable : Int} {a0v_KidCol : Int} {a1v_Id : Int} {a1v_Cells : List Int} {r : Bool} (h : spec_Matches.f (Query.mk a0v_Table a0v_Where a0v_Order a0v_Down a0v_First a0v_Show a0v_Kids a0v_KidTable a0v_KidCol) (Row.mk a1v_Id a1v_Cells) = some r) : AC Try.prog 29 [.ag [.s (.int .i64 a0v_Table), .im false (rowsOf Cond_c a0v_Where), .s (.int .i64 a0v_Order), .s (.bool a0v_Down), .s (.int .i64 a0v_First), .im false (rowsOf Int_c a0v_Show), .s (.bool a0v_Kids), .s (.int .i64 a0v_KidTable), .s (.int .i64 a0v_KidCol)], .ag [.s (.int .i64 a1v_Id), .im false (rowsOf Int_c a1v_Cells)]] [.ag [.jk, .jk, .jk, .jk, .jk, .jk, .jk, .jk, .jk], .ag [.jk, .jk]] [.v (.s (.bool r))] := by
  unfold spec_Matches.f at h
  let ar := Ls.ar; let cm := Ls.cm; let bo := Ls.bo; let sc := Ls.sc; let sa := Ls.sa; let sx := Ls.sx; let ss := Ls.ss; let sl := Ls.sl; let bs := Ls.bs; let sb := Ls.sb; let ln := Ls.ln; let sr := Ls.sr; let ap := Ls.ap; let up := Ls.up; let rp := Ls.rp; let fr := Ls.fr; let ge := Ls.ge; let le := Ls.le; let lt := Ls.lt; let nz := Ls.nz; let mm := Ls.mm; let ma := Ls.ma; let sm := Ls.sm; let fl := Ls.fl; let al := Ls.al; let ci := Ls.ci
  let eCond_c := rowsOf Cond_c
  let eInt_c := rowsOf Int_c
  let lenI_Cond := @lenI Cond
  have hL : (⟨ar, cm, bo, sc, sa, sx, ss, sl, bs, sb, ln, sr, ap, up, rp, fr, ge, le, lt, nz, mm, ma, sm, fl, al, ci⟩ : Lf) = Ls := rfl
  show AC Try.prog 29 [.ag [.s (.int .i64 a0v_Table), .im false (eCond_c a0v_Where), .s (.int .i64 a0v_Order), .s (.bool a0v_Down), .s (.int .i64 a0v_First), .im false (eInt_c a0v_Show), .s (.bool a0v_Kids), .s (.int .i64 a0v_KidTable), .s (.int .i64 a0v_KidCol)], .ag [.s (.int .i64 a1v_Id), .im false (eInt_c a1v_Cells)]] _ _
  refine AC.of_run2 tab_ok Try.func29 (by rfl) (by rfl) (by cbv) ⟨by decide, rfl⟩ fun F hP hA => ?_
  have hT : TabOk F.P tab := hP ▸ tab_ok
  have hM : F.P.follows .mixedOrders = true := hP ▸ mixed
  have hC : ∀ {f a o r}, AC Try.prog f a o r → AC F.P f a o r := fun h => hP ▸ h
  refine Run.seq ?_
  refine Run.region hL hT [] (by cbv) ?_ ?_
  · exact hq0
  refine Run.seq ?_
  refine Run.seq ?_
  refine Run.region hL hT [] (by cbv) ?_ ?_
  · exact hq0
  refine Run.block ?_
  refine Run.loop1 (fun (z13 : Int) => ⟨21, 100000, [(2, .pt 1 0 0), (3, .pt 2 0 0), (5, .t (.s (.int .i64 z13)))], [(1, .box 42 [.t (.s (.int .i64 a0v_Table)), .t (.im false (eCond_c a0v_Where)), .t (.s (.int .i64 a0v_Order)), .t (.s (.bool a0v_Down)), .t (.s (.int .i64 a0v_First)), .t (.im false (eInt_c a0v_Show)), .t (.s (.bool a0v_Kids)), .t (.s (.int .i64 a0v_KidTable)), .t (.s (.int .i64 a0v_KidCol))]), (2, .box 66 [.t (.s (.int .i64 a1v_Id)), .t (.im false (eInt_c a1v_Cells))])]⟩) (x0 := 0) h (Weak.of _ [(1, 0), (2, 1)] hA (by cbv) ?_) (fun _ => rfl) ?_
  · repeat (first | exact hq0 | refine hq (by first | exact True.intro | rfl) ?_)
  · intro k z13 h
    rw [spec_Matches.l0] at h
    refine Run.seq ?_
    refine Run.seq ?_
    refine Run.region hL hT [] (by cbv) ?_ ?_
    · exact (hq trivial (hq trivial hq0))
    rw [show ln (eCond_c a0v_Where) = lenI_Cond a0v_Where from ln_eq Cond_c _]
    refine Run.cond (by cbv) (hq0) (fun c14 => ?_) (fun c14 => ?_)
    · have h := if_t c14 h
      refine Run.skip ?_
      refine Run.seq ?_
      refine Run.block ?_
      refine Run.seq ?_
      obtain ⟨⟨x15v_Col, x15v_Op, x15v_V⟩, h_x15, h⟩ := bnd h
      obtain ⟨r16, h_r16, h⟩ := bnd h
      refine Run.draw hL hT hM [(3, .el [.s (.int .i64 x15v_Col), .s (.int .i64 x15v_Op), .s (.int .i64 x15v_V)]), (6, .call [false, false] [.ag [.jk, .jk, .jk], .ag [.jk, .jk]] [.v (.s (.bool r16))])] (by cbv) (by cbv) (by cbv) (by cbv) (by cbv) ?_ ?_
      · exact (hq trivial (hq (get_le h_x15) (hq (get_lt (f := Cond_c) h_x15) (hq (get_ge (f := Cond_c) h_x15) (hq trivial (hq (hC (spec_l9Holds_ac h_r16)) hq0))))))
      refine Run.cond (by cbv) (hq0) (fun c17 => ?_) (fun c17 => ?_)
      · have h := if_t c17 h
        refine Run.seq ?_
        refine Run.region hL hT [] (by cbv) ?_ ?_
        · exact hq0
        refine Run.ret ?_
        cases h
        refine ⟨_, _, by cbv, ?_, ?_⟩
        · exact LLe.r
        · exact (ALe.v LLe.r ALe.nil)
      · have h := if_f c17 h
        refine Run.skip ?_
        refine Run.region hL hT [] (by cbv) ?_ ?_
        · exact (hq trivial hq0)
        refine ⟨(ar .add .i64 z13 1), h, Weak.of _ [(1, 1), (2, 2)] hA (by cbv) ?_⟩
        repeat (first | exact hq0 | refine hq (by first | exact True.intro | rfl) ?_)
    · have h := if_f c14 h
      refine Run.exit ?_
      refine Run.seq ?_
      refine Run.region hL hT [] (by cbv) ?_ ?_
      · exact hq0
      refine Run.ret ?_
      cases h
      refine ⟨_, _, by cbv, ?_, ?_⟩
      · exact LLe.r
      · exact (ALe.v LLe.r ALe.nil)

set_option maxRecDepth 8000 in
theorem spec_l9Cell_ac {a0v_Id : Int} {a0v_Cells : List Int} {a1 : Int} {r : Int} (h : spec_l9Cell.f (Row.mk a0v_Id a0v_Cells) a1 = some r) : AC Try.prog 87 [.ag [.s (.int .i64 a0v_Id), .im false (rowsOf Int_c a0v_Cells)], .v (.s (.int .i64 a1))] [.ag [.jk, .jk], .v (.jk)] [.v (.s (.int .i64 r))] := by
  unfold spec_l9Cell.f at h
  let ar := Ls.ar; let cm := Ls.cm; let bo := Ls.bo; let sc := Ls.sc; let sa := Ls.sa; let sx := Ls.sx; let ss := Ls.ss; let sl := Ls.sl; let bs := Ls.bs; let sb := Ls.sb; let ln := Ls.ln; let sr := Ls.sr; let ap := Ls.ap; let up := Ls.up; let rp := Ls.rp; let fr := Ls.fr; let ge := Ls.ge; let le := Ls.le; let lt := Ls.lt; let nz := Ls.nz; let mm := Ls.mm; let ma := Ls.ma; let sm := Ls.sm; let fl := Ls.fl; let al := Ls.al; let ci := Ls.ci
  let eInt_c := rowsOf Int_c
  let lenI_Int := @lenI Int
  have hL : (⟨ar, cm, bo, sc, sa, sx, ss, sl, bs, sb, ln, sr, ap, up, rp, fr, ge, le, lt, nz, mm, ma, sm, fl, al, ci⟩ : Lf) = Ls := rfl
  show AC Try.prog 87 [.ag [.s (.int .i64 a0v_Id), .im false (eInt_c a0v_Cells)], .v (.s (.int .i64 a1))] _ _
  refine AC.of_run2 tab_ok Try.func87 (by rfl) (by rfl) (by cbv) ⟨by decide, rfl⟩ fun F hP hA => ?_
  have hT : TabOk F.P tab := hP ▸ tab_ok
  have hM : F.P.follows .mixedOrders = true := hP ▸ mixed
  have hC : ∀ {f a o r}, AC Try.prog f a o r → AC F.P f a o r := fun h => hP ▸ h
  refine Run.seq ?_
  refine Run.region hL hT [] (by cbv) ?_ ?_
  · exact hq0
  refine Run.seq ?_
  refine Run.seq ?_
  obtain ⟨r1, h_r1, h⟩ := bnd h
  refine Run.region hL hT [(5, .call [false, false, false] [.v (.jk), .v (.jk), .v (.jk)] [.v (.s (.bool r1))])] (by cbv) ?_ ?_
  · exact (hq trivial (hq trivial (hq (by rw [show ln (eInt_c a0v_Cells) = lenI_Int a0v_Cells from ln_eq Int_c _]; exact (hC (spec_l1In_ac h_r1))) hq0)))
  rw [show ln (eInt_c a0v_Cells) = lenI_Int a0v_Cells from ln_eq Int_c _]
  refine Run.cond (by cbv) (hq0) (fun c2 => ?_) (fun c2 => ?_)
  · have h := if_t c2 h
    refine Run.seq ?_
    refine Run.region hL hT [] (by cbv) ?_ ?_
    · exact hq0
    refine Run.ret ?_
    cases h
    refine ⟨_, _, by cbv, ?_, ?_⟩
    · exact LLe.r
    · exact (ALe.v LLe.r ALe.nil)
  · have h := if_f c2 h
    refine Run.skip ?_
    refine Run.seq ?_
    obtain ⟨x3, h_x3, h⟩ := bnd h
    refine Run.region hL hT [(3, .el [.s (.int .i64 x3)])] (by cbv) ?_ ?_
    · exact (hq trivial (hq (get_le h_x3) (hq (get_lt (f := Int_c) h_x3) (hq (get_ge (f := Int_c) h_x3) hq0))))
    refine Run.ret ?_
    cases h
    refine ⟨_, _, by cbv, ?_, ?_⟩
    · exact LLe.r
    · exact (ALe.v LLe.r ALe.nil)

set_option maxRecDepth 8000 in
theorem spec_Ahead_ac {a0v_Table : Int} {a0v_Where : List Cond} {a0v_Order : Int} {a0v_Down : Bool} {a0v_First : Int} {a0v_Show : List Int} {a0v_Kids : Bool} {a0v_KidTable : Int} {a0v_KidCol : Int} {a1v_Id : Int} {a1v_Cells : List Int} {a2v_Id : Int} {a2v_Cells : List Int} {r : Bool} (h : spec_Ahead.f (Query.mk a0v_Table a0v_Where a0v_Order a0v_Down a0v_First a0v_Show a0v_Kids a0v_KidTable a0v_KidCol) (Row.mk a1v_Id a1v_Cells) (Row.mk a2v_Id a2v_Cells) = some r) : AC Try.prog 65 [.ag [.s (.int .i64 a0v_Table), .im false (rowsOf Cond_c a0v_Where), .s (.int .i64 a0v_Order), .s (.bool a0v_Down), .s (.int .i64 a0v_First), .im false (rowsOf Int_c a0v_Show), .s (.bool a0v_Kids), .s (.int .i64 a0v_KidTable), .s (.int .i64 a0v_KidCol)], .ag [.s (.int .i64 a1v_Id), .im false (rowsOf Int_c a1v_Cells)], .ag [.s (.int .i64 a2v_Id), .im false (rowsOf Int_c a2v_Cells)]] [.ag [.jk, .jk, .jk, .jk, .jk, .jk, .jk, .jk, .jk], .ag [.jk, .jk], .ag [.jk, .jk]] [.v (.s (.bool r))] := by
  unfold spec_Ahead.f at h
  let ar := Ls.ar; let cm := Ls.cm; let bo := Ls.bo; let sc := Ls.sc; let sa := Ls.sa; let sx := Ls.sx; let ss := Ls.ss; let sl := Ls.sl; let bs := Ls.bs; let sb := Ls.sb; let ln := Ls.ln; let sr := Ls.sr; let ap := Ls.ap; let up := Ls.up; let rp := Ls.rp; let fr := Ls.fr; let ge := Ls.ge; let le := Ls.le; let lt := Ls.lt; let nz := Ls.nz; let mm := Ls.mm; let ma := Ls.ma; let sm := Ls.sm; let fl := Ls.fl; let al := Ls.al; let ci := Ls.ci
  let eCond_c := rowsOf Cond_c
  let eInt_c := rowsOf Int_c
  have hL : (⟨ar, cm, bo, sc, sa, sx, ss, sl, bs, sb, ln, sr, ap, up, rp, fr, ge, le, lt, nz, mm, ma, sm, fl, al, ci⟩ : Lf) = Ls := rfl
  show AC Try.prog 65 [.ag [.s (.int .i64 a0v_Table), .im false (eCond_c a0v_Where), .s (.int .i64 a0v_Order), .s (.bool a0v_Down), .s (.int .i64 a0v_First), .im false (eInt_c a0v_Show), .s (.bool a0v_Kids), .s (.int .i64 a0v_KidTable), .s (.int .i64 a0v_KidCol)], .ag [.s (.int .i64 a1v_Id), .im false (eInt_c a1v_Cells)], .ag [.s (.int .i64 a2v_Id), .im false (eInt_c a2v_Cells)]] _ _
  refine AC.of_run2 tab_ok Try.func65 (by rfl) (by rfl) (by cbv) ⟨by decide, rfl⟩ fun F hP hA => ?_
  have hT : TabOk F.P tab := hP ▸ tab_ok
  have hM : F.P.follows .mixedOrders = true := hP ▸ mixed
  have hC : ∀ {f a o r}, AC Try.prog f a o r → AC F.P f a o r := fun h => hP ▸ h
  refine Run.seq ?_
  refine Run.region hL hT [] (by cbv) ?_ ?_
  · exact hq0
  refine Run.seq ?_
  refine Run.seq ?_
  refine Run.region hL hT [] (by cbv) ?_ ?_
  · exact (hq trivial (hq trivial hq0))
  refine Run.cond (by cbv) (hq0) (fun c1 => ?_) (fun c1 => ?_)
  · have h := if_t c1 h
    refine Run.seq ?_
    obtain ⟨r2, h_r2, h⟩ := bnd h
    obtain ⟨r3, h_r3, h⟩ := bnd h
    refine Run.draw hL hT hM [(4, .call [false, false] [.ag [.jk, .jk], .v (.jk)] [.v (.s (.int .i64 r2))]), (9, .call [false, false] [.ag [.jk, .jk], .v (.jk)] [.v (.s (.int .i64 r3))])] (by cbv) (by cbv) (by cbv) (by cbv) (by cbv) ?_ ?_
    · exact (hq trivial (hq trivial (hq trivial (hq (hC (spec_l9Cell_ac h_r2)) (hq trivial (hq trivial (hq trivial (hq (hC (spec_l9Cell_ac h_r3)) hq0))))))))
    refine Run.seq ?_
    refine Run.region hL hT [] (by cbv) ?_ ?_
    · exact (hq trivial hq0)
    refine Run.cond (by cbv) (hq0) (fun c4 => ?_) (fun c4 => ?_)
    · have h := if_t c4 h
      refine Run.seq ?_
      refine Run.region hL hT [] (by cbv) ?_ ?_
      · exact (hq trivial (hq trivial hq0))
      refine Run.ret ?_
      cases h
      refine ⟨_, _, by cbv, ?_, ?_⟩
      · exact LLe.r
      · exact (ALe.v LLe.r ALe.nil)
    · have h := if_f c4 h
      refine Run.skip ?_
      refine Run.seq ?_
      refine Run.region hL hT [] (by cbv) ?_ ?_
      · exact (hq trivial (hq trivial (hq trivial hq0)))
      refine Run.ret ?_
      cases h
      refine ⟨_, _, by cbv, ?_, ?_⟩
      · exact LLe.r
      · exact (ALe.v LLe.r ALe.nil)
  · have h := if_f c1 h
    refine Run.skip ?_
    refine Run.seq ?_
    refine Run.region hL hT [] (by cbv) ?_ ?_
    · exact (hq trivial (hq trivial (hq trivial hq0)))
    refine Run.ret ?_
    cases h
    refine ⟨_, _, by cbv, ?_, ?_⟩
    · exact LLe.r
    · exact (ALe.v LLe.r ALe.nil)

set_option maxRecDepth 8000 in
theorem spec_l6Copy_ac {a0v_Id : Int} {a0v_Cells : List Int} {r : Row} (h : spec_l6Copy.f (Row.mk a0v_Id a0v_Cells) = some r) : AC Try.prog 66 [.ag [.s (.int .i64 a0v_Id), .im false (rowsOf Int_c a0v_Cells)]] [.ag [.jk, .jk]] [.ag [.s (.int .i64 r.Id), .ow 3 (rowsOf Int_c r.Cells)]] := by
  unfold spec_l6Copy.f at h
  let ar := Ls.ar; let cm := Ls.cm; let bo := Ls.bo; let sc := Ls.sc; let sa := Ls.sa; let sx := Ls.sx; let ss := Ls.ss; let sl := Ls.sl; let bs := Ls.bs; let sb := Ls.sb; let ln := Ls.ln; let sr := Ls.sr; let ap := Ls.ap; let up := Ls.up; let rp := Ls.rp; let fr := Ls.fr; let ge := Ls.ge; let le := Ls.le; let lt := Ls.lt; let nz := Ls.nz; let mm := Ls.mm; let ma := Ls.ma; let sm := Ls.sm; let fl := Ls.fl; let al := Ls.al; let ci := Ls.ci
  let eInt_c := rowsOf Int_c
  have hL : (⟨ar, cm, bo, sc, sa, sx, ss, sl, bs, sb, ln, sr, ap, up, rp, fr, ge, le, lt, nz, mm, ma, sm, fl, al, ci⟩ : Lf) = Ls := rfl
  show AC Try.prog 66 [.ag [.s (.int .i64 a0v_Id), .im false (eInt_c a0v_Cells)]] _ _
  refine AC.of_run2 tab_ok Try.func66 (by rfl) (by rfl) (by cbv) ⟨by decide, rfl⟩ fun F hP hA => ?_
  have hT : TabOk F.P tab := hP ▸ tab_ok
  have hM : F.P.follows .mixedOrders = true := hP ▸ mixed
  have hC : ∀ {f a o r}, AC Try.prog f a o r → AC F.P f a o r := fun h => hP ▸ h
  refine Run.seq ?_
  refine Run.region hL hT [] (by cbv) ?_ ?_
  · exact hq0
  refine Run.seq ?_
  obtain ⟨l1, h_l1, h⟩ := bnd h
  refine Run.draw hL hT hM [] (by cbv) (by cbv) (by cbv) (by cbv) (by cbv) ?_ ?_
  · exact (hq trivial (hq trivial (hq (fl_row Int_c_f _) (hq (app_mb (P := Try.prog) (f := Int_c) RLe.r RLe.r h_l1) (hq trivial hq0)))))
  refine Run.row (rows := (ap ([]) ((eInt_c a0v_Cells)))) 4101 (eInt_c l1) (by cbv) (app_le (f := Int_c) RLe.r RLe.r h_l1) ?_
  refine Run.ret ?_
  cases h
  refine ⟨_, _, by cbv, ?_, ?_⟩
  · exact LLe.r
  · exact (ALe.ag rfl LLe.r ALe.nil)

set_option maxRecDepth 8000 in
theorem spec_l11Put_ac {a0v_Table : Int} {a0v_Where : List Cond} {a0v_Order : Int} {a0v_Down : Bool} {a0v_First : Int} {a0v_Show : List Int} {a0v_Kids : Bool} {a0v_KidTable : Int} {a0v_KidCol : Int} {a1 : List Row} {a2v_Id : Int} {a2v_Cells : List Int} {r : (List Row)} (h : spec_l11Put.f (Query.mk a0v_Table a0v_Where a0v_Order a0v_Down a0v_First a0v_Show a0v_Kids a0v_KidTable a0v_KidCol) a1 (Row.mk a2v_Id a2v_Cells) = some r) : AC Try.prog 30 [.ag [.s (.int .i64 a0v_Table), .im false (rowsOf Cond_c a0v_Where), .s (.int .i64 a0v_Order), .s (.bool a0v_Down), .s (.int .i64 a0v_First), .im false (rowsOf Int_c a0v_Show), .s (.bool a0v_Kids), .s (.int .i64 a0v_KidTable), .s (.int .i64 a0v_KidCol)], .v (.ow 66 (rowsOf Row_o a1)), .ag [.s (.int .i64 a2v_Id), .im false (rowsOf Int_c a2v_Cells)]] [.ag [.jk, .jk, .jk, .jk, .jk, .jk, .jk, .jk, .jk], .v (.jk), .ag [.jk, .jk]] [.v (.ow 66 (rowsOf Row_o r))] := by
  unfold spec_l11Put.f at h
  let ar := Ls.ar; let cm := Ls.cm; let bo := Ls.bo; let sc := Ls.sc; let sa := Ls.sa; let sx := Ls.sx; let ss := Ls.ss; let sl := Ls.sl; let bs := Ls.bs; let sb := Ls.sb; let ln := Ls.ln; let sr := Ls.sr; let ap := Ls.ap; let up := Ls.up; let rp := Ls.rp; let fr := Ls.fr; let ge := Ls.ge; let le := Ls.le; let lt := Ls.lt; let nz := Ls.nz; let mm := Ls.mm; let ma := Ls.ma; let sm := Ls.sm; let fl := Ls.fl; let al := Ls.al; let ci := Ls.ci
  let eCond_c := rowsOf Cond_c
  let eInt_c := rowsOf Int_c
  let eRow_o := rowsOf Row_o
  let lenI_Row := @lenI Row
  let jp := jpR
  have hL : (⟨ar, cm, bo, sc, sa, sx, ss, sl, bs, sb, ln, sr, ap, up, rp, fr, ge, le, lt, nz, mm, ma, sm, fl, al, ci⟩ : Lf) = Ls := rfl
  show AC Try.prog 30 [.ag [.s (.int .i64 a0v_Table), .im false (eCond_c a0v_Where), .s (.int .i64 a0v_Order), .s (.bool a0v_Down), .s (.int .i64 a0v_First), .im false (eInt_c a0v_Show), .s (.bool a0v_Kids), .s (.int .i64 a0v_KidTable), .s (.int .i64 a0v_KidCol)], .v (.ow 66 (eRow_o a1)), .ag [.s (.int .i64 a2v_Id), .im false (eInt_c a2v_Cells)]] _ _
  refine AC.of_run2 tab_ok Try.func30 (by rfl) (by rfl) (by cbv) ⟨by decide, rfl⟩ fun F hP hA => ?_
  have hT : TabOk F.P tab := hP ▸ tab_ok
  have hM : F.P.follows .mixedOrders = true := hP ▸ mixed
  have hC : ∀ {f a o r}, AC Try.prog f a o r → AC F.P f a o r := fun h => hP ▸ h
  refine Run.seq ?_
  refine Run.region hL hT [] (by cbv) ?_ ?_
  · exact hq0
  refine Run.seq ?_
  refine Run.region hL hT [] (by cbv) ?_ ?_
  · exact hq0
  refine Run.seq ?_
  refine Run.region hL hT [] (by cbv) ?_ ?_
  · exact hq0
  obtain ⟨K4, h_K4, h⟩ := joinE h
  refine Run.join3 K4 (r := r) (fun (y1 : List Row) (y2 : Bool) (y3 : Int) => ⟨48, 100000, [(5, .pt 1 0 0), (7, .rf 2), (8, .t (.s (.bool y2)))], [(0, .row 0 66 2 ((jp y3 (eRow_o a1)))), (1, .box 66 [.t (.s (.int .i64 a2v_Id)), .t (.im false (eInt_c a2v_Cells))]), (2, .row 0 66 2 (eRow_o y1))]⟩) ?_ ?_
  · skip
    refine Run.seq ?_
    refine Run.region hL hT [] (by cbv) ?_ ?_
    · exact hq0
    refine Run.block ?_
    refine Run.loop3 (fun (z20 : List Row) (z21 : Bool) (z22 : Int) => ⟨48, 100000, [(1, .rf 0), (3, .pt 1 0 0), (5, .pt 2 0 0), (7, .rf 3), (8, .t (.s (.bool z21))), (9, .t (.s (.int .i64 z22)))], [(0, .row 0 66 2 ((jp z22 (eRow_o a1)))), (1, .box 42 [.t (.s (.int .i64 a0v_Table)), .t (.im false (eCond_c a0v_Where)), .t (.s (.int .i64 a0v_Order)), .t (.s (.bool a0v_Down)), .t (.s (.int .i64 a0v_First)), .t (.im false (eInt_c a0v_Show)), .t (.s (.bool a0v_Kids)), .t (.s (.int .i64 a0v_KidTable)), .t (.s (.int .i64 a0v_KidCol))]), (2, .box 66 [.t (.s (.int .i64 a2v_Id)), .t (.im false (eInt_c a2v_Cells))]), (3, .row 0 66 2 (eRow_o z20))]⟩) (x0 := []) (x1 := false) (x2 := 0) h ((Weak.row (rows := eRow_o a1) 0 (jp 0 (eRow_o a1)) (by cbv) (RLe.eq (jp_0 _).symm)).trans (Weak.of _ [(0, 0), (1, 1), (2, 2), (3, 4097)] hA (by cbv) ?_)) (fun _ _ _ => rfl) ?_
    · repeat (first | exact hq0 | refine hq (by first | exact True.intro | rfl) ?_)
    · intro k z20 z21 z22 h
      rw [spec_l11Put.l0] at h
      refine Run.seq ?_
      refine Run.seq ?_
      refine Run.region hL hT [] (by cbv) ?_ ?_
      · exact (hq trivial hq0)
      rw [show ln (jp z22 (eRow_o a1)) = lenI_Row a1 from jp_ln (f := Row_o) _ _]
      refine Run.cond (by cbv) (hq0) (fun c23 => ?_) (fun c23 => ?_)
      · have h := if_t c23 h
        refine Run.skip ?_
        refine Run.seq ?_
        refine Run.block ?_
        refine Run.seq ?_
        refine Run.seq ?_
        obtain ⟨⟨x24v_Id, x24v_Cells⟩, h_x24, h⟩ := bnd h
        obtain ⟨r25, h_r25, h⟩ := bnd h
        refine Run.draw hL hT hM [(8, .el [.s (.int .i64 x24v_Id), .ow 3 (eInt_c x24v_Cells)]), (9, .call [false, false, false] [.ag [.jk, .jk, .jk, .jk, .jk, .jk, .jk, .jk, .jk], .ag [.jk, .jk], .ag [.jk, .jk]] [.v (.s (.bool r25))])] (by cbv) (by cbv) (by cbv) (by cbv) (by cbv) ?_ ?_
        · exact (hq (fun g26 => (hq trivial hq0)) (hq (fun g27 => (hq trivial hq0)) (hq (fun _ => hq0) (hq (fun _ => hq0) (hq (fun g30 => (hq g30 (hq g30 (hq (get_le (gd_t h_x24 g30)) (hq (jp_lt (f := Row_o) (gd_t h_x24 g30)) hq0))))) (hq (fun g31 => (hq g31 (hq (get_le (gd_t h_x24 g31)) (hq (jp_lt (f := Row_o) (gd_t h_x24 g31)) (hq (jp_ge (f := Row_o) (gd_t h_x24 g31)) hq0))))) (hq (fun g32 => (hq g32 (hq g32 (hq g32 (hq (hC (AC.args (spec_Ahead_ac (gd_t h_r25 g32)) (ALe.ag rfl LLe.r (ALe.ag rfl LLe.r (ALe.ag rfl (LLe.c (LLe.cons (LLe.im (RLe.eq (fr_row Int_c_z _))) LLe.nil)) ALe.nil))))) hq0))))) (hq (fun q33 => (hq q33 hq0)) (hq (fun _ => hq0) hq0)))))))))
        refine Run.cond (by cbv) (hq0) (fun c35 => ?_) (fun c35 => ?_)
        · have h := if_t c35 h
          refine Run.seq ?_
          obtain ⟨⟨r36v_Id, r36v_Cells⟩, h_r36, h⟩ := bnd h
          obtain ⟨l37, h_l37, h⟩ := bnd h
          obtain ⟨l38, h_l38, h⟩ := bnd h
          refine Run.region hL hT [(2, .call [false] [.ag [.jk, .jk]] [.ag [.s (.int .i64 r36v_Id), .ow 3 (eInt_c r36v_Cells)]])] (by cbv) ?_ ?_
          · exact (hq trivial (hq (hC (spec_l6Copy_ac h_r36)) (hq (app_mb (P := Try.prog) (f := Row_o) RLe.r (some_le (f := Row_o) h_l37 (RLe.cons rfl LLe.r RLe.nil)) h_l38) hq0)))
          refine Run.row (rows := (ap (eRow_o z20) ([[.s (.int .i64 r36v_Id), .ow 3 (eInt_c r36v_Cells)]]))) 108196 (eRow_o l38) (by cbv) (app_le (f := Row_o) RLe.r (some_le (f := Row_o) h_l37 (RLe.cons rfl LLe.r RLe.nil)) h_l38) ?_
          refine Run.region hL hT [] (by cbv) ?_ ?_
          · exact hq0
          obtain ⟨⟨x39v_Id, x39v_Cells⟩, h_x39, h⟩ := bnd h
          obtain ⟨u40, h_u40, h⟩ := bnd h
          obtain ⟨l41, h_l41, h⟩ := bnd h
          obtain ⟨l42, h_l42, h⟩ := bnd h
          refine Run.weak ?_ (Weak.take (rows := (jp z22 (eRow_o a1))) (e2 := 3) (r2 := eInt_c x39v_Cells) hT 0 z22 1 119384 1119384 (by cbv) (by cbv) (by cbv) (get_le' h_x39) (jp_lt' Row_o h_x39) ((congrArg (fun q => q[1]?) (jp_ge (f := Row_o) h_x39)).trans rfl) rfl (up (jp z22 (eRow_o a1)) z22 1 [.jk]) rfl)
          refine Run.region hL hT [(4, .lk [.s (.int .i64 x39v_Id), .jk] [(1, 1119384)])] (by cbv) ?_ ?_
          · exact (hq (get_le h_x39) (hq (jpu_lt Row_o h_x39) (hq trivial (hq (get_le h_x39) (hq (jpu_lt Row_o h_x39) (hq (jpu_ge Row_o h_x39) (hq (app_mb (P := Try.prog) (f := Row_o) RLe.r (some_le (f := Row_o) h_l41 (RLe.cons rfl LLe.r RLe.nil)) h_l42) hq0)))))))
          refine Run.weak ?_ (Weak.row (rows := (up (jp z22 (eRow_o a1)) z22 1 [.jk])) 0 (jp (ar .add .i64 z22 1) (eRow_o a1)) (by cbv) (jp_step (f := Row_o) h_x39 h_u40 (ltn (Row_o_n _) (by decide))))
          refine Run.row (rows := (ap (eRow_o l38) ([[.s (.int .i64 x39v_Id), .ow 3 (eInt_c x39v_Cells)]]))) 116390 (eRow_o l42) (by cbv) (app_le (f := Row_o) RLe.r (some_le (f := Row_o) h_l41 (RLe.cons rfl LLe.r RLe.nil)) h_l42) ?_
          refine Run.region hL hT [] (by cbv) ?_ ?_
          · exact (hq trivial hq0)
          refine ⟨l42, true, (ar .add .i64 z22 1), h, Weak.of _ [(0, 0), (1, 1), (2, 2), (3, 116390)] hA (by cbv) ?_⟩
          repeat (first | exact hq0 | refine hq (by first | exact True.intro | rfl) ?_)
        · have h := if_f c35 h
          refine Run.skip ?_
          obtain ⟨⟨x43v_Id, x43v_Cells⟩, h_x43, h⟩ := bnd h
          obtain ⟨u44, h_u44, h⟩ := bnd h
          obtain ⟨l45, h_l45, h⟩ := bnd h
          obtain ⟨l46, h_l46, h⟩ := bnd h
          refine Run.weak ?_ (Weak.take (rows := (jp z22 (eRow_o a1))) (e2 := 3) (r2 := eInt_c x43v_Cells) hT 0 z22 1 111192 1111192 (by cbv) (by cbv) (by cbv) (get_le' h_x43) (jp_lt' Row_o h_x43) ((congrArg (fun q => q[1]?) (jp_ge (f := Row_o) h_x43)).trans rfl) rfl (up (jp z22 (eRow_o a1)) z22 1 [.jk]) rfl)
          refine Run.region hL hT [(4, .lk [.s (.int .i64 x43v_Id), .jk] [(1, 1111192)])] (by cbv) ?_ ?_
          · exact (hq (get_le h_x43) (hq (jpu_lt Row_o h_x43) (hq trivial (hq (get_le h_x43) (hq (jpu_lt Row_o h_x43) (hq (jpu_ge Row_o h_x43) (hq (app_mb (P := Try.prog) (f := Row_o) RLe.r (some_le (f := Row_o) h_l45 (RLe.cons rfl LLe.r RLe.nil)) h_l46) hq0)))))))
          refine Run.weak ?_ (Weak.row (rows := (up (jp z22 (eRow_o a1)) z22 1 [.jk])) 0 (jp (ar .add .i64 z22 1) (eRow_o a1)) (by cbv) (jp_step (f := Row_o) h_x43 h_u44 (ltn (Row_o_n _) (by decide))))
          refine Run.row (rows := (ap (eRow_o z20) ([[.s (.int .i64 x43v_Id), .ow 3 (eInt_c x43v_Cells)]]))) 108198 (eRow_o l46) (by cbv) (app_le (f := Row_o) RLe.r (some_le (f := Row_o) h_l45 (RLe.cons rfl LLe.r RLe.nil)) h_l46) ?_
          refine Run.region hL hT [] (by cbv) ?_ ?_
          · exact (hq trivial hq0)
          refine ⟨l46, z21, (ar .add .i64 z22 1), h, Weak.of _ [(0, 0), (1, 1), (2, 2), (3, 108198)] hA (by cbv) ?_⟩
          repeat (first | exact hq0 | refine hq (by first | exact True.intro | rfl) ?_)
      · have h := if_f c23 h
        refine Run.exit ?_
        refine ⟨z20, z21, z22, h, Weak.of _ [(0, 0), (1, 2), (2, 3)] hA (by cbv) ?_⟩
        repeat (first | exact hq0 | refine hq (by first | exact True.intro | rfl) ?_)
  · intro y1 y2 y3 h
    rw [h_K4] at h
    refine Run.seq ?_
    refine Run.seq ?_
    refine Run.region hL hT [] (by cbv) ?_ ?_
    · exact hq0
    refine Run.cond (by cbv) (hq0) (fun c47 => ?_) (fun c47 => ?_)
    · have h := if_t c47 h
      obtain ⟨⟨r48v_Id, r48v_Cells⟩, h_r48, h⟩ := bnd h
      obtain ⟨l49, h_l49, h⟩ := bnd h
      obtain ⟨l50, h_l50, h⟩ := bnd h
      refine Run.region hL hT [(2, .call [false] [.ag [.jk, .jk]] [.ag [.s (.int .i64 r48v_Id), .ow 3 (eInt_c r48v_Cells)]])] (by cbv) ?_ ?_
      · exact (hq trivial (hq (hC (spec_l6Copy_ac h_r48)) (hq (app_mb (P := Try.prog) (f := Row_o) RLe.r (some_le (f := Row_o) h_l49 (RLe.cons rfl LLe.r RLe.nil)) h_l50) hq0)))
      refine Run.row (rows := (ap (eRow_o y1) ([[.s (.int .i64 r48v_Id), .ow 3 (eInt_c r48v_Cells)]]))) 104100 (eRow_o l50) (by cbv) (app_le (f := Row_o) RLe.r (some_le (f := Row_o) h_l49 (RLe.cons rfl LLe.r RLe.nil)) h_l50) ?_
      refine Run.seq ?_
      refine Run.region hL hT [] (by cbv) ?_ ?_
      · exact hq0
      refine Run.ret ?_
      cases h
      refine ⟨_, _, by cbv, ?_, ?_⟩
      · exact (LLe.c (LLe.c (LLe.c (LLe.c (LLe.c (LLe.c (LLe.c (LLe.c (LLe.c (LLe.cons LLe.jk (LLe.c (LLe.c LLe.nil))))))))))))
      · exact (ALe.v LLe.r ALe.nil)
    · have h := if_f c47 h
      refine Run.skip ?_
      refine Run.seq ?_
      refine Run.region hL hT [] (by cbv) ?_ ?_
      · exact hq0
      refine Run.ret ?_
      cases h
      refine ⟨_, _, by cbv, ?_, ?_⟩
      · exact (LLe.c (LLe.c (LLe.c (LLe.c (LLe.c (LLe.c (LLe.c (LLe.c (LLe.c (LLe.cons LLe.jk (LLe.c (LLe.c LLe.nil))))))))))))
      · exact (ALe.v LLe.r ALe.nil)

set_option maxRecDepth 8000 in
theorem spec_RowsFor_ac {a0v_Schemav_Cols : List Int} {a0v_Version : Int} {a0v_Tables : List (List Row)} {a1v_Table : Int} {a1v_Where : List Cond} {a1v_Order : Int} {a1v_Down : Bool} {a1v_First : Int} {a1v_Show : List Int} {a1v_Kids : Bool} {a1v_KidTable : Int} {a1v_KidCol : Int} {r : (List Row)} (h : spec_RowsFor.f (Store.mk (Schema.mk a0v_Schemav_Cols) a0v_Version a0v_Tables) (Query.mk a1v_Table a1v_Where a1v_Order a1v_Down a1v_First a1v_Show a1v_Kids a1v_KidTable a1v_KidCol) = some r) : AC Try.prog 7 [.ag [.im false (rowsOf Int_c a0v_Schemav_Cols), .s (.int .i64 a0v_Version), .im false (rowsOf RowS_i a0v_Tables)], .ag [.s (.int .i64 a1v_Table), .im false (rowsOf Cond_c a1v_Where), .s (.int .i64 a1v_Order), .s (.bool a1v_Down), .s (.int .i64 a1v_First), .im false (rowsOf Int_c a1v_Show), .s (.bool a1v_Kids), .s (.int .i64 a1v_KidTable), .s (.int .i64 a1v_KidCol)]] [.ag [.jk, .jk, .jk], .ag [.jk, .jk, .jk, .jk, .jk, .jk, .jk, .jk, .jk]] [.v (.ow 66 (rowsOf Row_o r))] := by
  unfold spec_RowsFor.f at h
  let ar := Ls.ar; let cm := Ls.cm; let bo := Ls.bo; let sc := Ls.sc; let sa := Ls.sa; let sx := Ls.sx; let ss := Ls.ss; let sl := Ls.sl; let bs := Ls.bs; let sb := Ls.sb; let ln := Ls.ln; let sr := Ls.sr; let ap := Ls.ap; let up := Ls.up; let rp := Ls.rp; let fr := Ls.fr; let ge := Ls.ge; let le := Ls.le; let lt := Ls.lt; let nz := Ls.nz; let mm := Ls.mm; let ma := Ls.ma; let sm := Ls.sm; let fl := Ls.fl; let al := Ls.al; let ci := Ls.ci
  let eCond_c := rowsOf Cond_c
  let eInt_c := rowsOf Int_c
  let eRowS_i := rowsOf RowS_i
  let eRow_i := rowsOf Row_i
  let eRow_o := rowsOf Row_o
  let lenI_Row := @lenI Row
  have hL : (⟨ar, cm, bo, sc, sa, sx, ss, sl, bs, sb, ln, sr, ap, up, rp, fr, ge, le, lt, nz, mm, ma, sm, fl, al, ci⟩ : Lf) = Ls := rfl
  show AC Try.prog 7 [.ag [.im false (eInt_c a0v_Schemav_Cols), .s (.int .i64 a0v_Version), .im false (eRowS_i a0v_Tables)], .ag [.s (.int .i64 a1v_Table), .im false (eCond_c a1v_Where), .s (.int .i64 a1v_Order), .s (.bool a1v_Down), .s (.int .i64 a1v_First), .im false (eInt_c a1v_Show), .s (.bool a1v_Kids), .s (.int .i64 a1v_KidTable), .s (.int .i64 a1v_KidCol)]] _ _
  refine AC.of_run2 tab_ok Try.func7 (by rfl) (by rfl) (by cbv) ⟨by decide, rfl⟩ fun F hP hA => ?_
  have hT : TabOk F.P tab := hP ▸ tab_ok
  have hM : F.P.follows .mixedOrders = true := hP ▸ mixed
  have hC : ∀ {f a o r}, AC Try.prog f a o r → AC F.P f a o r := fun h => hP ▸ h
  refine Run.seq ?_
  refine Run.region hL hT [] (by cbv) ?_ ?_
  · exact hq0
  refine Run.seq ?_
  refine Run.region hL hT [] (by cbv) ?_ ?_
  · exact hq0
  refine Run.seq ?_
  refine Run.seq ?_
  obtain ⟨r1, h_r1, h⟩ := bnd h
  obtain ⟨r2, h_r2, h⟩ := bnd h
  refine Run.region hL hT [(1, .call [false] [.ag [.jk, .jk, .jk]] [.v (.s (.bool r1))]), (7, .call [false, false] [.ag [.jk], .ag [.jk, .jk, .jk, .jk, .jk, .jk, .jk, .jk, .jk]] [.v (.s (.bool r2))])] (by cbv) ?_ ?_
  · exact (hq trivial (hq (hC (spec_StoreOk_ac h_r1)) (hq (fun _ => hq0) (hq (fun g4 => (hq g4 (hq trivial hq0))) (hq (fun g5 => (hq trivial hq0)) (hq (fun g6 => (hq g6 (hq g6 (hq (hC (spec_QueryOk_ac (gd_t h_r2 g6))) hq0)))) (hq (fun g7 => (hq g7 hq0)) (hq (fun _ => hq0) (hq (fun q9 => (hq (bo_m q9) hq0)) hq0)))))))))
  refine Run.cond (by cbv) (hq0) (fun c10 => ?_) (fun c10 => ?_)
  · have h := if_t c10 h
    refine Run.seq ?_
    refine Run.region hL hT [] (by cbv) ?_ ?_
    · exact hq0
    refine Run.ret ?_
    cases h
    refine ⟨_, _, by cbv, ?_, ?_⟩
    · exact LLe.r
    · exact (ALe.v LLe.r ALe.nil)
  · have h := if_f c10 h
    refine Run.skip ?_
    refine Run.seq ?_
    obtain ⟨x11, h_x11, h⟩ := bnd h
    refine Run.region hL hT [(4, .el [.im false (eRow_i x11)])] (by cbv) ?_ ?_
    · exact (hq trivial (hq trivial (hq (get_le h_x11) (hq (get_lt (f := RowS_i) h_x11) (hq (get_ge (f := RowS_i) h_x11) hq0)))))
    refine Run.seq ?_
    refine Run.seq ?_
    refine Run.region hL hT [] (by cbv) ?_ ?_
    · exact hq0
    refine Run.block ?_
    refine Run.loop2 (fun (z24 : List Row) (z25 : Int) => ⟨46, 100000, [(3, .pt 1 0 0), (5, .rf 2), (6, .t (.im false (eRow_i x11))), (7, .t (.s (.int .i64 z25)))], [(1, .box 42 [.t (.s (.int .i64 a1v_Table)), .t (.im false (eCond_c a1v_Where)), .t (.s (.int .i64 a1v_Order)), .t (.s (.bool a1v_Down)), .t (.s (.int .i64 a1v_First)), .t (.im false (eInt_c a1v_Show)), .t (.s (.bool a1v_Kids)), .t (.s (.int .i64 a1v_KidTable)), .t (.s (.int .i64 a1v_KidCol))]), (2, .row 0 66 2 (eRow_o z24))]⟩) (x0 := []) (x1 := 0) h (Weak.of _ [(1, 1), (2, 4096)] hA (by cbv) ?_) (fun _ _ => rfl) ?_
    · repeat (first | exact hq0 | refine hq (by first | exact True.intro | rfl) ?_)
    · intro k z24 z25 h
      rw [spec_RowsFor.l0] at h
      refine Run.seq ?_
      refine Run.seq ?_
      refine Run.region hL hT [] (by cbv) ?_ ?_
      · exact (hq trivial hq0)
      rw [show ln (eRow_i x11) = lenI_Row x11 from ln_eq Row_i _]
      refine Run.cond (by cbv) (hq0) (fun c26 => ?_) (fun c26 => ?_)
      · have h := if_t c26 h
        refine Run.skip ?_
        refine Run.seq ?_
        refine Run.block ?_
        refine Run.seq ?_
        obtain ⟨⟨x27v_Id, x27v_Cells⟩, h_x27, h⟩ := bnd h
        obtain ⟨r28, h_r28, h⟩ := bnd h
        refine Run.draw hL hT hM [(3, .el [.s (.int .i64 x27v_Id), .im false (eInt_c x27v_Cells)]), (5, .call [false, false] [.ag [.jk, .jk, .jk, .jk, .jk, .jk, .jk, .jk, .jk], .ag [.jk, .jk]] [.v (.s (.bool r28))])] (by cbv) (by cbv) (by cbv) (by cbv) (by cbv) ?_ ?_
        · exact (hq trivial (hq (get_le h_x27) (hq (get_lt (f := Row_i) h_x27) (hq (get_ge (f := Row_i) h_x27) (hq (hC (spec_Matches_ac h_r28)) hq0)))))
        refine Run.cond (by cbv) (hq0) (fun c29 => ?_) (fun c29 => ?_)
        · have h := if_t c29 h
          obtain ⟨r30, h_r30, h⟩ := bnd h
          refine Run.draw hL hT hM [(4, .el [.s (.int .i64 x27v_Id), .im false (eInt_c x27v_Cells)]), (6, .call [false, true, false] [.ag [.jk, .jk, .jk, .jk, .jk, .jk, .jk, .jk, .jk], .v (.jk), .ag [.jk, .jk]] [.v (.ow 66 (eRow_o r30))])] (by cbv) (by cbv) (by cbv) (by cbv) (by cbv) ?_ ?_
          · exact (hq trivial (hq (get_le h_x27) (hq (get_lt (f := Row_i) h_x27) (hq (get_ge (f := Row_i) h_x27) (hq (hC (spec_l11Put_ac h_r30)) hq0)))))
          refine Run.region hL hT [] (by cbv) ?_ ?_
          · exact (hq trivial hq0)
          refine ⟨r30, (ar .add .i64 z25 1), h, Weak.of _ [(1, 1), (2, 108198)] hA (by cbv) ?_⟩
          repeat (first | exact hq0 | refine hq (by first | exact True.intro | rfl) ?_)
        · have h := if_f c29 h
          refine Run.skip ?_
          refine Run.region hL hT [] (by cbv) ?_ ?_
          · exact (hq trivial hq0)
          refine ⟨z24, (ar .add .i64 z25 1), h, Weak.of _ [(1, 1), (2, 2)] hA (by cbv) ?_⟩
          repeat (first | exact hq0 | refine hq (by first | exact True.intro | rfl) ?_)
      · have h := if_f c26 h
        refine Run.exit ?_
        refine Run.seq ?_
        refine Run.region hL hT [] (by cbv) ?_ ?_
        · exact hq0
        refine Run.ret ?_
        cases h
        refine ⟨_, _, by cbv, ?_, ?_⟩
        · exact LLe.r
        · exact (ALe.v LLe.r ALe.nil)

set_option maxRecDepth 8000 in
theorem laws_toIntS_ac {a0 : List Int} {r : (List Int)} (h : laws_toIntS.f a0 = some r) : AC Try.prog 34 [.v (.im false (rowsOf Int_c a0))] [.v (.jk)] [.v (.ow 3 (rowsOf Int_c r))] := by
  unfold laws_toIntS.f at h
  let ar := Ls.ar; let cm := Ls.cm; let bo := Ls.bo; let sc := Ls.sc; let sa := Ls.sa; let sx := Ls.sx; let ss := Ls.ss; let sl := Ls.sl; let bs := Ls.bs; let sb := Ls.sb; let ln := Ls.ln; let sr := Ls.sr; let ap := Ls.ap; let up := Ls.up; let rp := Ls.rp; let fr := Ls.fr; let ge := Ls.ge; let le := Ls.le; let lt := Ls.lt; let nz := Ls.nz; let mm := Ls.mm; let ma := Ls.ma; let sm := Ls.sm; let fl := Ls.fl; let al := Ls.al; let ci := Ls.ci
  let eInt_c := rowsOf Int_c
  let lenI_Int := @lenI Int
  have hL : (⟨ar, cm, bo, sc, sa, sx, ss, sl, bs, sb, ln, sr, ap, up, rp, fr, ge, le, lt, nz, mm, ma, sm, fl, al, ci⟩ : Lf) = Ls := rfl
  show AC Try.prog 34 [.v (.im false (eInt_c a0))] _ _
  refine AC.of_run2 tab_ok Try.func34 (by rfl) (by rfl) (by cbv) ⟨by decide, rfl⟩ fun F hP hA => ?_
  have hT : TabOk F.P tab := hP ▸ tab_ok
  have hM : F.P.follows .mixedOrders = true := hP ▸ mixed
  have hC : ∀ {f a o r}, AC Try.prog f a o r → AC F.P f a o r := fun h => hP ▸ h
  refine Run.seq ?_
  refine Run.region hL hT [] (by cbv) ?_ ?_
  · exact hq0
  refine Run.seq ?_
  obtain ⟨l1, h_l1, h⟩ := bnd h
  refine Run.region hL hT [] (by cbv) ?_ ?_
  · exact (hq trivial (hq (by rw [show ln (eInt_c a0) = lenI_Int a0 from ln_eq Int_c _]; exact (mk_0 h_l1)) (hq (by rw [show ln (eInt_c a0) = lenI_Int a0 from ln_eq Int_c _]; exact (mk_mm h_l1)) hq0)))
  rw [show ln (eInt_c a0) = lenI_Int a0 from ln_eq Int_c _]
  refine Run.row (rows := (rp (lenI_Int a0) [.s (.int .i64 0)])) 4098 (eInt_c l1) (by cbv) (mk_le (f := Int_c) rfl LLe.r h_l1) ?_
  refine Run.seq ?_
  refine Run.seq ?_
  refine Run.region hL hT [] (by cbv) ?_ ?_
  · exact hq0
  refine Run.block ?_
  refine Run.loop2 (fun (z5 : List Int) (z6 : Int) => ⟨22, 100000, [(0, .t (.im false (eInt_c a0))), (3, .rf 1), (4, .t (.s (.int .i64 z6)))], [(1, .row 0 3 1 (eInt_c z5))]⟩) (x0 := l1) (x1 := 0) h (Weak.of _ [(1, 4098)] hA (by cbv) ?_) (fun _ _ => rfl) ?_
  · repeat (first | exact hq0 | refine hq (by first | exact True.intro | rfl) ?_)
  · intro k z5 z6 h
    rw [laws_toIntS.l0] at h
    refine Run.seq ?_
    refine Run.seq ?_
    refine Run.region hL hT [] (by cbv) ?_ ?_
    · exact (hq trivial hq0)
    rw [show ln (eInt_c a0) = lenI_Int a0 from ln_eq Int_c _]
    refine Run.cond (by cbv) (hq0) (fun c7 => ?_) (fun c7 => ?_)
    · have h := if_t c7 h
      refine Run.skip ?_
      refine Run.seq ?_
      refine Run.block ?_
      obtain ⟨x8, h_x8, h⟩ := bnd h
      obtain ⟨x9, h_x9, h⟩ := bnd h
      obtain ⟨l10, h_l10, h⟩ := bnd h
      refine Run.region hL hT [(4, .el [.s (.int .i64 x8)])] (by cbv) ?_ ?_
      · exact (hq (get_le h_x8) (hq (get_lt (f := Int_c) h_x8) (hq (get_ge (f := Int_c) h_x8) (hq (get_le h_x9) (hq (get_lt (f := Int_c) h_x9) (hq (get_le h_x9) (hq (get_lt (f := Int_c) h_x9) hq0)))))))
      refine Run.row (rows := (up (eInt_c z5) z6 0 [.s (.int .i64 x8)])) 1 (eInt_c l10) (by cbv) (sto_le (f := Int_c) h_x9 h_l10 rfl LLe.r) ?_
      refine Run.region hL hT [] (by cbv) ?_ ?_
      · exact (hq trivial hq0)
      refine ⟨l10, (ar .add .i64 z6 1), h, Weak.of _ [(1, 1)] hA (by cbv) ?_⟩
      repeat (first | exact hq0 | refine hq (by first | exact True.intro | rfl) ?_)
    · have h := if_f c7 h
      refine Run.exit ?_
      refine Run.seq ?_
      refine Run.region hL hT [] (by cbv) ?_ ?_
      · exact hq0
      refine Run.ret ?_
      cases h
      refine ⟨_, _, by cbv, ?_, ?_⟩
      · exact LLe.r
      · exact (ALe.v LLe.r ALe.nil)

set_option maxRecDepth 8000 in
theorem laws_toSchema_ac {a0v_Cols : List Int} {r : Schema} (h : laws_toSchema.f (Schema.mk a0v_Cols) = some r) : AC Try.prog 31 [.ag [.im false (rowsOf Int_c a0v_Cols)]] [.ag [.jk]] [.ag [.ow 3 (rowsOf Int_c r.Cols)]] := by
  unfold laws_toSchema.f at h
  let ar := Ls.ar; let cm := Ls.cm; let bo := Ls.bo; let sc := Ls.sc; let sa := Ls.sa; let sx := Ls.sx; let ss := Ls.ss; let sl := Ls.sl; let bs := Ls.bs; let sb := Ls.sb; let ln := Ls.ln; let sr := Ls.sr; let ap := Ls.ap; let up := Ls.up; let rp := Ls.rp; let fr := Ls.fr; let ge := Ls.ge; let le := Ls.le; let lt := Ls.lt; let nz := Ls.nz; let mm := Ls.mm; let ma := Ls.ma; let sm := Ls.sm; let fl := Ls.fl; let al := Ls.al; let ci := Ls.ci
  let eInt_c := rowsOf Int_c
  have hL : (⟨ar, cm, bo, sc, sa, sx, ss, sl, bs, sb, ln, sr, ap, up, rp, fr, ge, le, lt, nz, mm, ma, sm, fl, al, ci⟩ : Lf) = Ls := rfl
  show AC Try.prog 31 [.ag [.im false (eInt_c a0v_Cols)]] _ _
  refine AC.of_run2 tab_ok Try.func31 (by rfl) (by rfl) (by cbv) ⟨by decide, rfl⟩ fun F hP hA => ?_
  have hT : TabOk F.P tab := hP ▸ tab_ok
  have hM : F.P.follows .mixedOrders = true := hP ▸ mixed
  have hC : ∀ {f a o r}, AC Try.prog f a o r → AC F.P f a o r := fun h => hP ▸ h
  refine Run.seq ?_
  refine Run.region hL hT [] (by cbv) ?_ ?_
  · exact hq0
  refine Run.seq ?_
  refine Run.region hL hT [] (by cbv) ?_ ?_
  · exact hq0
  refine Run.seq ?_
  obtain ⟨r1, h_r1, h⟩ := bnd h
  refine Run.region hL hT [(2, .call [false] [.v (.jk)] [.v (.ow 3 (eInt_c r1))])] (by cbv) ?_ ?_
  · exact (hq trivial (hq (hC (laws_toIntS_ac h_r1)) (hq trivial hq0)))
  refine Run.seq ?_
  refine Run.region hL hT [] (by cbv) ?_ ?_
  · exact (hq trivial (hq trivial hq0))
  refine Run.ret ?_
  cases h
  refine ⟨_, _, by cbv, ?_, ?_⟩
  · exact LLe.r
  · exact (ALe.ag rfl LLe.r ALe.nil)

set_option maxRecDepth 8000 in
theorem laws_toRow_ac {a0v_Id : Int} {a0v_Cells : List Int} {r : Row} (h : laws_toRow.f (Row.mk a0v_Id a0v_Cells) = some r) : AC Try.prog 88 [.ag [.s (.int .i64 a0v_Id), .im false (rowsOf Int_c a0v_Cells)]] [.ag [.jk, .jk]] [.ag [.s (.int .i64 r.Id), .ow 3 (rowsOf Int_c r.Cells)]] := by
  unfold laws_toRow.f at h
  let ar := Ls.ar; let cm := Ls.cm; let bo := Ls.bo; let sc := Ls.sc; let sa := Ls.sa; let sx := Ls.sx; let ss := Ls.ss; let sl := Ls.sl; let bs := Ls.bs; let sb := Ls.sb; let ln := Ls.ln; let sr := Ls.sr; let ap := Ls.ap; let up := Ls.up; let rp := Ls.rp; let fr := Ls.fr; let ge := Ls.ge; let le := Ls.le; let lt := Ls.lt; let nz := Ls.nz; let mm := Ls.mm; let ma := Ls.ma; let sm := Ls.sm; let fl := Ls.fl; let al := Ls.al; let ci := Ls.ci
  let eInt_c := rowsOf Int_c
  have hL : (⟨ar, cm, bo, sc, sa, sx, ss, sl, bs, sb, ln, sr, ap, up, rp, fr, ge, le, lt, nz, mm, ma, sm, fl, al, ci⟩ : Lf) = Ls := rfl
  show AC Try.prog 88 [.ag [.s (.int .i64 a0v_Id), .im false (eInt_c a0v_Cells)]] _ _
  refine AC.of_run2 tab_ok Try.func88 (by rfl) (by rfl) (by cbv) ⟨by decide, rfl⟩ fun F hP hA => ?_
  have hT : TabOk F.P tab := hP ▸ tab_ok
  have hM : F.P.follows .mixedOrders = true := hP ▸ mixed
  have hC : ∀ {f a o r}, AC Try.prog f a o r → AC F.P f a o r := fun h => hP ▸ h
  refine Run.seq ?_
  refine Run.region hL hT [] (by cbv) ?_ ?_
  · exact hq0
  refine Run.seq ?_
  refine Run.region hL hT [] (by cbv) ?_ ?_
  · exact hq0
  refine Run.seq ?_
  refine Run.region hL hT [] (by cbv) ?_ ?_
  · exact (hq trivial (hq trivial hq0))
  refine Run.seq ?_
  obtain ⟨r1, h_r1, h⟩ := bnd h
  refine Run.region hL hT [(2, .call [false] [.v (.jk)] [.v (.ow 3 (eInt_c r1))])] (by cbv) ?_ ?_
  · exact (hq trivial (hq (hC (laws_toIntS_ac h_r1)) (hq trivial hq0)))
  refine Run.seq ?_
  refine Run.region hL hT [] (by cbv) ?_ ?_
  · exact (hq trivial (hq trivial hq0))
  refine Run.ret ?_
  cases h
  refine ⟨_, _, by cbv, ?_, ?_⟩
  · exact LLe.r
  · exact (ALe.ag rfl LLe.r ALe.nil)

set_option maxRecDepth 8000 in
theorem laws_toRowS_ac {a0 : List Row} {r : (List Row)} (h : laws_toRowS.f a0 = some r) : AC Try.prog 67 [.v (.im false (rowsOf Row_i a0))] [.v (.jk)] [.v (.ow 66 (rowsOf Row_o r))] := by
  unfold laws_toRowS.f at h
  let ar := Ls.ar; let cm := Ls.cm; let bo := Ls.bo; let sc := Ls.sc; let sa := Ls.sa; let sx := Ls.sx; let ss := Ls.ss; let sl := Ls.sl; let bs := Ls.bs; let sb := Ls.sb; let ln := Ls.ln; let sr := Ls.sr; let ap := Ls.ap; let up := Ls.up; let rp := Ls.rp; let fr := Ls.fr; let ge := Ls.ge; let le := Ls.le; let lt := Ls.lt; let nz := Ls.nz; let mm := Ls.mm; let ma := Ls.ma; let sm := Ls.sm; let fl := Ls.fl; let al := Ls.al; let ci := Ls.ci
  let eInt_c := rowsOf Int_c
  let eRow_i := rowsOf Row_i
  let eRow_o := rowsOf Row_o
  let lenI_Row := @lenI Row
  have hL : (⟨ar, cm, bo, sc, sa, sx, ss, sl, bs, sb, ln, sr, ap, up, rp, fr, ge, le, lt, nz, mm, ma, sm, fl, al, ci⟩ : Lf) = Ls := rfl
  show AC Try.prog 67 [.v (.im false (eRow_i a0))] _ _
  refine AC.of_run2 tab_ok Try.func67 (by rfl) (by rfl) (by cbv) ⟨by decide, rfl⟩ fun F hP hA => ?_
  have hT : TabOk F.P tab := hP ▸ tab_ok
  have hM : F.P.follows .mixedOrders = true := hP ▸ mixed
  have hC : ∀ {f a o r}, AC Try.prog f a o r → AC F.P f a o r := fun h => hP ▸ h
  refine Run.seq ?_
  refine Run.region hL hT [] (by cbv) ?_ ?_
  · exact hq0
  refine Run.seq ?_
  obtain ⟨l1, h_l1, h⟩ := bnd h
  refine Run.region hL hT [] (by cbv) ?_ ?_
  · exact (hq trivial (hq (by rw [show ln (eRow_i a0) = lenI_Row a0 from ln_eq Row_i _]; exact (mk_0 h_l1)) (hq (by rw [show ln (eRow_i a0) = lenI_Row a0 from ln_eq Row_i _]; exact (mk_mm h_l1)) hq0)))
  rw [show ln (eRow_i a0) = lenI_Row a0 from ln_eq Row_i _]
  refine Run.row (rows := (rp (lenI_Row a0) [.s (.int .i64 0), .s (.slice none 0 0)])) 4098 (eRow_o l1) (by cbv) (mk_le (f := Row_o) rfl (LLe.c (LLe.cons LLe.nilO LLe.nil)) h_l1) ?_
  refine Run.seq ?_
  refine Run.seq ?_
  refine Run.region hL hT [] (by cbv) ?_ ?_
  · exact hq0
  refine Run.block ?_
  refine Run.loop2 (fun (z5 : List Row) (z6 : Int) => ⟨23, 100000, [(0, .t (.im false (eRow_i a0))), (3, .rf 1), (4, .t (.s (.int .i64 z6)))], [(1, .row 0 66 2 (eRow_o z5))]⟩) (x0 := l1) (x1 := 0) h (Weak.of _ [(1, 4098)] hA (by cbv) ?_) (fun _ _ => rfl) ?_
  · repeat (first | exact hq0 | refine hq (by first | exact True.intro | rfl) ?_)
  · intro k z5 z6 h
    rw [laws_toRowS.l0] at h
    refine Run.seq ?_
    refine Run.seq ?_
    refine Run.region hL hT [] (by cbv) ?_ ?_
    · exact (hq trivial hq0)
    rw [show ln (eRow_i a0) = lenI_Row a0 from ln_eq Row_i _]
    refine Run.cond (by cbv) (hq0) (fun c7 => ?_) (fun c7 => ?_)
    · have h := if_t c7 h
      refine Run.skip ?_
      refine Run.seq ?_
      refine Run.block ?_
      obtain ⟨⟨x8v_Id, x8v_Cells⟩, h_x8, h⟩ := bnd h
      obtain ⟨⟨r9v_Id, r9v_Cells⟩, h_r9, h⟩ := bnd h
      obtain ⟨⟨x10v_Id, x10v_Cells⟩, h_x10, h⟩ := bnd h
      obtain ⟨l11, h_l11, h⟩ := bnd h
      refine Run.region hL hT [(4, .el [.s (.int .i64 x8v_Id), .im false (eInt_c x8v_Cells)]), (6, .call [false] [.ag [.jk, .jk]] [.ag [.s (.int .i64 r9v_Id), .ow 3 (eInt_c r9v_Cells)]])] (by cbv) ?_ ?_
      · exact (hq (get_le h_x8) (hq (get_lt (f := Row_i) h_x8) (hq (get_ge (f := Row_i) h_x8) (hq (hC (laws_toRow_ac h_r9)) (hq (get_le h_x10) (hq (get_lt (f := Row_o) h_x10) (hq (get_le h_x10) (hq (get_lt (f := Row_o) h_x10) hq0))))))))
      refine Run.row (rows := (up (eRow_o z5) z6 0 [.s (.int .i64 r9v_Id), .ow 3 (eInt_c r9v_Cells)])) 1 (eRow_o l11) (by cbv) (sto_le (f := Row_o) h_x10 h_l11 rfl LLe.r) ?_
      refine Run.region hL hT [] (by cbv) ?_ ?_
      · exact (hq trivial hq0)
      refine ⟨l11, (ar .add .i64 z6 1), h, Weak.of _ [(1, 1)] hA (by cbv) ?_⟩
      repeat (first | exact hq0 | refine hq (by first | exact True.intro | rfl) ?_)
    · have h := if_f c7 h
      refine Run.exit ?_
      refine Run.seq ?_
      refine Run.region hL hT [] (by cbv) ?_ ?_
      · exact hq0
      refine Run.ret ?_
      cases h
      refine ⟨_, _, by cbv, ?_, ?_⟩
      · exact LLe.r
      · exact (ALe.v LLe.r ALe.nil)

set_option maxRecDepth 8000 in
theorem laws_toRowSS_ac {a0 : List (List Row)} {r : (List (List Row))} (h : laws_toRowSS.f a0 = some r) : AC Try.prog 32 [.v (.im false (rowsOf RowS_i a0))] [.v (.jk)] [.v (.ow 33 (rowsOf RowS_o r))] := by
  unfold laws_toRowSS.f at h
  let ar := Ls.ar; let cm := Ls.cm; let bo := Ls.bo; let sc := Ls.sc; let sa := Ls.sa; let sx := Ls.sx; let ss := Ls.ss; let sl := Ls.sl; let bs := Ls.bs; let sb := Ls.sb; let ln := Ls.ln; let sr := Ls.sr; let ap := Ls.ap; let up := Ls.up; let rp := Ls.rp; let fr := Ls.fr; let ge := Ls.ge; let le := Ls.le; let lt := Ls.lt; let nz := Ls.nz; let mm := Ls.mm; let ma := Ls.ma; let sm := Ls.sm; let fl := Ls.fl; let al := Ls.al; let ci := Ls.ci
  let eRowS_i := rowsOf RowS_i
  let eRowS_o := rowsOf RowS_o
  let eRow_i := rowsOf Row_i
  let eRow_o := rowsOf Row_o
  let lenI_RowS := @lenI (List Row)
  have hL : (⟨ar, cm, bo, sc, sa, sx, ss, sl, bs, sb, ln, sr, ap, up, rp, fr, ge, le, lt, nz, mm, ma, sm, fl, al, ci⟩ : Lf) = Ls := rfl
  show AC Try.prog 32 [.v (.im false (eRowS_i a0))] _ _
  refine AC.of_run2 tab_ok Try.func32 (by rfl) (by rfl) (by cbv) ⟨by decide, rfl⟩ fun F hP hA => ?_
  have hT : TabOk F.P tab := hP ▸ tab_ok
  have hM : F.P.follows .mixedOrders = true := hP ▸ mixed
  have hC : ∀ {f a o r}, AC Try.prog f a o r → AC F.P f a o r := fun h => hP ▸ h
  refine Run.seq ?_
  refine Run.region hL hT [] (by cbv) ?_ ?_
  · exact hq0
  refine Run.seq ?_
  obtain ⟨l1, h_l1, h⟩ := bnd h
  refine Run.region hL hT [] (by cbv) ?_ ?_
  · exact (hq trivial (hq (by rw [show ln (eRowS_i a0) = lenI_RowS a0 from ln_eq RowS_i _]; exact (mk_0 h_l1)) (hq (by rw [show ln (eRowS_i a0) = lenI_RowS a0 from ln_eq RowS_i _]; exact (mk_mm h_l1)) hq0)))
  rw [show ln (eRowS_i a0) = lenI_RowS a0 from ln_eq RowS_i _]
  refine Run.row (rows := (rp (lenI_RowS a0) [.s (.slice none 0 0)])) 4098 (eRowS_o l1) (by cbv) (mk_le (f := RowS_o) rfl (LLe.cons LLe.nilO LLe.nil) h_l1) ?_
  refine Run.seq ?_
  refine Run.seq ?_
  refine Run.region hL hT [] (by cbv) ?_ ?_
  · exact hq0
  refine Run.block ?_
  refine Run.loop2 (fun (z5 : List (List Row)) (z6 : Int) => ⟨23, 100000, [(0, .t (.im false (eRowS_i a0))), (3, .rf 1), (4, .t (.s (.int .i64 z6)))], [(1, .row 0 33 1 (eRowS_o z5))]⟩) (x0 := l1) (x1 := 0) h (Weak.of _ [(1, 4098)] hA (by cbv) ?_) (fun _ _ => rfl) ?_
  · repeat (first | exact hq0 | refine hq (by first | exact True.intro | rfl) ?_)
  · intro k z5 z6 h
    rw [laws_toRowSS.l0] at h
    refine Run.seq ?_
    refine Run.seq ?_
    refine Run.region hL hT [] (by cbv) ?_ ?_
    · exact (hq trivial hq0)
    rw [show ln (eRowS_i a0) = lenI_RowS a0 from ln_eq RowS_i _]
    refine Run.cond (by cbv) (hq0) (fun c7 => ?_) (fun c7 => ?_)
    · have h := if_t c7 h
      refine Run.skip ?_
      refine Run.seq ?_
      refine Run.block ?_
      obtain ⟨x8, h_x8, h⟩ := bnd h
      obtain ⟨r9, h_r9, h⟩ := bnd h
      obtain ⟨x10, h_x10, h⟩ := bnd h
      obtain ⟨l11, h_l11, h⟩ := bnd h
      refine Run.region hL hT [(4, .el [.im false (eRow_i x8)]), (6, .call [false] [.v (.jk)] [.v (.ow 66 (eRow_o r9))])] (by cbv) ?_ ?_
      · exact (hq (get_le h_x8) (hq (get_lt (f := RowS_i) h_x8) (hq (get_ge (f := RowS_i) h_x8) (hq (hC (laws_toRowS_ac h_r9)) (hq (get_le h_x10) (hq (get_lt (f := RowS_o) h_x10) (hq (get_le h_x10) (hq (get_lt (f := RowS_o) h_x10) hq0))))))))
      refine Run.row (rows := (up (eRowS_o z5) z6 0 [.ow 66 (eRow_o r9)])) 1 (eRowS_o l11) (by cbv) (sto_le (f := RowS_o) h_x10 h_l11 rfl LLe.r) ?_
      refine Run.region hL hT [] (by cbv) ?_ ?_
      · exact (hq trivial hq0)
      refine ⟨l11, (ar .add .i64 z6 1), h, Weak.of _ [(1, 1)] hA (by cbv) ?_⟩
      repeat (first | exact hq0 | refine hq (by first | exact True.intro | rfl) ?_)
    · have h := if_f c7 h
      refine Run.exit ?_
      refine Run.seq ?_
      refine Run.region hL hT [] (by cbv) ?_ ?_
      · exact hq0
      refine Run.ret ?_
      cases h
      refine ⟨_, _, by cbv, ?_, ?_⟩
      · exact LLe.r
      · exact (ALe.v LLe.r ALe.nil)

set_option maxRecDepth 8000 in
theorem laws_toStore_ac {a0v_Schemav_Cols : List Int} {a0v_Version : Int} {a0v_Tables : List (List Row)} {r : Store} (h : laws_toStore.f (Store.mk (Schema.mk a0v_Schemav_Cols) a0v_Version a0v_Tables) = some r) : AC Try.prog 8 [.ag [.im false (rowsOf Int_c a0v_Schemav_Cols), .s (.int .i64 a0v_Version), .im false (rowsOf RowS_i a0v_Tables)]] [.ag [.jk, .jk, .jk]] [.ag [.ow 3 (rowsOf Int_c r.Schema.Cols), .s (.int .i64 r.Version), .ow 33 (rowsOf RowS_o r.Tables)]] := by
  unfold laws_toStore.f at h
  let ar := Ls.ar; let cm := Ls.cm; let bo := Ls.bo; let sc := Ls.sc; let sa := Ls.sa; let sx := Ls.sx; let ss := Ls.ss; let sl := Ls.sl; let bs := Ls.bs; let sb := Ls.sb; let ln := Ls.ln; let sr := Ls.sr; let ap := Ls.ap; let up := Ls.up; let rp := Ls.rp; let fr := Ls.fr; let ge := Ls.ge; let le := Ls.le; let lt := Ls.lt; let nz := Ls.nz; let mm := Ls.mm; let ma := Ls.ma; let sm := Ls.sm; let fl := Ls.fl; let al := Ls.al; let ci := Ls.ci
  let eInt_c := rowsOf Int_c
  let eRowS_i := rowsOf RowS_i
  let eRowS_o := rowsOf RowS_o
  have hL : (⟨ar, cm, bo, sc, sa, sx, ss, sl, bs, sb, ln, sr, ap, up, rp, fr, ge, le, lt, nz, mm, ma, sm, fl, al, ci⟩ : Lf) = Ls := rfl
  show AC Try.prog 8 [.ag [.im false (eInt_c a0v_Schemav_Cols), .s (.int .i64 a0v_Version), .im false (eRowS_i a0v_Tables)]] _ _
  refine AC.of_run2 tab_ok Try.func8 (by rfl) (by rfl) (by cbv) ⟨by decide, rfl⟩ fun F hP hA => ?_
  have hT : TabOk F.P tab := hP ▸ tab_ok
  have hM : F.P.follows .mixedOrders = true := hP ▸ mixed
  have hC : ∀ {f a o r}, AC Try.prog f a o r → AC F.P f a o r := fun h => hP ▸ h
  refine Run.seq ?_
  refine Run.region hL hT [] (by cbv) ?_ ?_
  · exact hq0
  refine Run.seq ?_
  refine Run.region hL hT [] (by cbv) ?_ ?_
  · exact hq0
  refine Run.seq ?_
  obtain ⟨⟨r1v_Cols⟩, h_r1, h⟩ := bnd h
  refine Run.region hL hT [(2, .call [false] [.ag [.jk]] [.ag [.ow 3 (eInt_c r1v_Cols)]])] (by cbv) ?_ ?_
  · exact (hq trivial (hq (hC (laws_toSchema_ac h_r1)) (hq trivial hq0)))
  refine Run.seq ?_
  refine Run.region hL hT [] (by cbv) ?_ ?_
  · exact (hq trivial (hq trivial hq0))
  refine Run.seq ?_
  obtain ⟨r2, h_r2, h⟩ := bnd h
  refine Run.region hL hT [(2, .call [false] [.v (.jk)] [.v (.ow 33 (eRowS_o r2))])] (by cbv) ?_ ?_
  · exact (hq trivial (hq (hC (laws_toRowSS_ac h_r2)) (hq trivial hq0)))
  refine Run.seq ?_
  refine Run.region hL hT [] (by cbv) ?_ ?_
  · exact (hq trivial (hq trivial hq0))
  refine Run.ret ?_
  cases h
  refine ⟨_, _, by cbv, ?_, ?_⟩
  · exact LLe.r
  · exact (ALe.ag rfl LLe.r ALe.nil)

set_option maxRecDepth 8000 in
theorem laws_toCond_ac {a0v_Col : Int} {a0v_Op : Int} {a0v_V : Int} {r : Cond} (h : laws_toCond.f (Cond.mk a0v_Col a0v_Op a0v_V) = some r) : AC Try.prog 68 [.ag [.s (.int .i64 a0v_Col), .s (.int .i64 a0v_Op), .s (.int .i64 a0v_V)]] [.ag [.jk, .jk, .jk]] [.ag [.s (.int .i64 r.Col), .s (.int .i64 r.Op), .s (.int .i64 r.V)]] := by
  unfold laws_toCond.f at h
  let ar := Ls.ar; let cm := Ls.cm; let bo := Ls.bo; let sc := Ls.sc; let sa := Ls.sa; let sx := Ls.sx; let ss := Ls.ss; let sl := Ls.sl; let bs := Ls.bs; let sb := Ls.sb; let ln := Ls.ln; let sr := Ls.sr; let ap := Ls.ap; let up := Ls.up; let rp := Ls.rp; let fr := Ls.fr; let ge := Ls.ge; let le := Ls.le; let lt := Ls.lt; let nz := Ls.nz; let mm := Ls.mm; let ma := Ls.ma; let sm := Ls.sm; let fl := Ls.fl; let al := Ls.al; let ci := Ls.ci
  have hL : (⟨ar, cm, bo, sc, sa, sx, ss, sl, bs, sb, ln, sr, ap, up, rp, fr, ge, le, lt, nz, mm, ma, sm, fl, al, ci⟩ : Lf) = Ls := rfl
  show AC Try.prog 68 [.ag [.s (.int .i64 a0v_Col), .s (.int .i64 a0v_Op), .s (.int .i64 a0v_V)]] _ _
  refine AC.of_run2 tab_ok Try.func68 (by rfl) (by rfl) (by cbv) ⟨by decide, rfl⟩ fun F hP hA => ?_
  have hT : TabOk F.P tab := hP ▸ tab_ok
  have hM : F.P.follows .mixedOrders = true := hP ▸ mixed
  have hC : ∀ {f a o r}, AC Try.prog f a o r → AC F.P f a o r := fun h => hP ▸ h
  refine Run.seq ?_
  refine Run.region hL hT [] (by cbv) ?_ ?_
  · exact hq0
  refine Run.seq ?_
  refine Run.region hL hT [] (by cbv) ?_ ?_
  · exact hq0
  refine Run.seq ?_
  refine Run.region hL hT [] (by cbv) ?_ ?_
  · exact (hq trivial (hq trivial hq0))
  refine Run.seq ?_
  refine Run.region hL hT [] (by cbv) ?_ ?_
  · exact (hq trivial (hq trivial hq0))
  refine Run.seq ?_
  refine Run.region hL hT [] (by cbv) ?_ ?_
  · exact (hq trivial (hq trivial hq0))
  refine Run.seq ?_
  refine Run.region hL hT [] (by cbv) ?_ ?_
  · exact (hq trivial (hq trivial hq0))
  refine Run.ret ?_
  cases h
  refine ⟨_, _, by cbv, ?_, ?_⟩
  · exact LLe.r
  · exact (ALe.ag rfl LLe.r ALe.nil)

set_option maxRecDepth 8000 in
theorem laws_toCondS_ac {a0 : List Cond} {r : (List Cond)} (h : laws_toCondS.f a0 = some r) : AC Try.prog 33 [.v (.im false (rowsOf Cond_c a0))] [.v (.jk)] [.v (.ow 94 (rowsOf Cond_c r))] := by
  unfold laws_toCondS.f at h
  let ar := Ls.ar; let cm := Ls.cm; let bo := Ls.bo; let sc := Ls.sc; let sa := Ls.sa; let sx := Ls.sx; let ss := Ls.ss; let sl := Ls.sl; let bs := Ls.bs; let sb := Ls.sb; let ln := Ls.ln; let sr := Ls.sr; let ap := Ls.ap; let up := Ls.up; let rp := Ls.rp; let fr := Ls.fr; let ge := Ls.ge; let le := Ls.le; let lt := Ls.lt; let nz := Ls.nz; let mm := Ls.mm; let ma := Ls.ma; let sm := Ls.sm; let fl := Ls.fl; let al := Ls.al; let ci := Ls.ci
  let eCond_c := rowsOf Cond_c
  let lenI_Cond := @lenI Cond
  have hL : (⟨ar, cm, bo, sc, sa, sx, ss, sl, bs, sb, ln, sr, ap, up, rp, fr, ge, le, lt, nz, mm, ma, sm, fl, al, ci⟩ : Lf) = Ls := rfl
  show AC Try.prog 33 [.v (.im false (eCond_c a0))] _ _
  refine AC.of_run2 tab_ok Try.func33 (by rfl) (by rfl) (by cbv) ⟨by decide, rfl⟩ fun F hP hA => ?_
  have hT : TabOk F.P tab := hP ▸ tab_ok
  have hM : F.P.follows .mixedOrders = true := hP ▸ mixed
  have hC : ∀ {f a o r}, AC Try.prog f a o r → AC F.P f a o r := fun h => hP ▸ h
  refine Run.seq ?_
  refine Run.region hL hT [] (by cbv) ?_ ?_
  · exact hq0
  refine Run.seq ?_
  obtain ⟨l1, h_l1, h⟩ := bnd h
  refine Run.region hL hT [] (by cbv) ?_ ?_
  · exact (hq trivial (hq (by rw [show ln (eCond_c a0) = lenI_Cond a0 from ln_eq Cond_c _]; exact (mk_0 h_l1)) (hq (by rw [show ln (eCond_c a0) = lenI_Cond a0 from ln_eq Cond_c _]; exact (mk_mm h_l1)) hq0)))
  rw [show ln (eCond_c a0) = lenI_Cond a0 from ln_eq Cond_c _]
  refine Run.row (rows := (rp (lenI_Cond a0) [.s (.int .i64 0), .s (.int .i64 0), .s (.int .i64 0)])) 4098 (eCond_c l1) (by cbv) (mk_le (f := Cond_c) rfl LLe.r h_l1) ?_
  refine Run.seq ?_
  refine Run.seq ?_
  refine Run.region hL hT [] (by cbv) ?_ ?_
  · exact hq0
  refine Run.block ?_
  refine Run.loop2 (fun (z5 : List Cond) (z6 : Int) => ⟨23, 100000, [(0, .t (.im false (eCond_c a0))), (3, .rf 1), (4, .t (.s (.int .i64 z6)))], [(1, .row 0 94 3 (eCond_c z5))]⟩) (x0 := l1) (x1 := 0) h (Weak.of _ [(1, 4098)] hA (by cbv) ?_) (fun _ _ => rfl) ?_
  · repeat (first | exact hq0 | refine hq (by first | exact True.intro | rfl) ?_)
  · intro k z5 z6 h
    rw [laws_toCondS.l0] at h
    refine Run.seq ?_
    refine Run.seq ?_
    refine Run.region hL hT [] (by cbv) ?_ ?_
    · exact (hq trivial hq0)
    rw [show ln (eCond_c a0) = lenI_Cond a0 from ln_eq Cond_c _]
    refine Run.cond (by cbv) (hq0) (fun c7 => ?_) (fun c7 => ?_)
    · have h := if_t c7 h
      refine Run.skip ?_
      refine Run.seq ?_
      refine Run.block ?_
      obtain ⟨⟨x8v_Col, x8v_Op, x8v_V⟩, h_x8, h⟩ := bnd h
      obtain ⟨⟨r9v_Col, r9v_Op, r9v_V⟩, h_r9, h⟩ := bnd h
      obtain ⟨⟨x10v_Col, x10v_Op, x10v_V⟩, h_x10, h⟩ := bnd h
      obtain ⟨l11, h_l11, h⟩ := bnd h
      refine Run.region hL hT [(4, .el [.s (.int .i64 x8v_Col), .s (.int .i64 x8v_Op), .s (.int .i64 x8v_V)]), (6, .call [false] [.ag [.jk, .jk, .jk]] [.ag [.s (.int .i64 r9v_Col), .s (.int .i64 r9v_Op), .s (.int .i64 r9v_V)]])] (by cbv) ?_ ?_
      · exact (hq (get_le h_x8) (hq (get_lt (f := Cond_c) h_x8) (hq (get_ge (f := Cond_c) h_x8) (hq (hC (laws_toCond_ac h_r9)) (hq (get_le h_x10) (hq (get_lt (f := Cond_c) h_x10) (hq (get_le h_x10) (hq (get_lt (f := Cond_c) h_x10) hq0))))))))
      refine Run.row (rows := (up (eCond_c z5) z6 0 [.s (.int .i64 r9v_Col), .s (.int .i64 r9v_Op), .s (.int .i64 r9v_V)])) 1 (eCond_c l11) (by cbv) (sto_le (f := Cond_c) h_x10 h_l11 rfl LLe.r) ?_
      refine Run.region hL hT [] (by cbv) ?_ ?_
      · exact (hq trivial hq0)
      refine ⟨l11, (ar .add .i64 z6 1), h, Weak.of _ [(1, 1)] hA (by cbv) ?_⟩
      repeat (first | exact hq0 | refine hq (by first | exact True.intro | rfl) ?_)
    · have h := if_f c7 h
      refine Run.exit ?_
      refine Run.seq ?_
      refine Run.region hL hT [] (by cbv) ?_ ?_
      · exact hq0
      refine Run.ret ?_
      cases h
      refine ⟨_, _, by cbv, ?_, ?_⟩
      · exact LLe.r
      · exact (ALe.v LLe.r ALe.nil)

set_option maxRecDepth 8000 in
theorem laws_toQuery_ac {a0v_Table : Int} {a0v_Where : List Cond} {a0v_Order : Int} {a0v_Down : Bool} {a0v_First : Int} {a0v_Show : List Int} {a0v_Kids : Bool} {a0v_KidTable : Int} {a0v_KidCol : Int} {r : Query} (h : laws_toQuery.f (Query.mk a0v_Table a0v_Where a0v_Order a0v_Down a0v_First a0v_Show a0v_Kids a0v_KidTable a0v_KidCol) = some r) : AC Try.prog 9 [.ag [.s (.int .i64 a0v_Table), .im false (rowsOf Cond_c a0v_Where), .s (.int .i64 a0v_Order), .s (.bool a0v_Down), .s (.int .i64 a0v_First), .im false (rowsOf Int_c a0v_Show), .s (.bool a0v_Kids), .s (.int .i64 a0v_KidTable), .s (.int .i64 a0v_KidCol)]] [.ag [.jk, .jk, .jk, .jk, .jk, .jk, .jk, .jk, .jk]] [.ag [.s (.int .i64 r.Table), .ow 94 (rowsOf Cond_c r.Where), .s (.int .i64 r.Order), .s (.bool r.Down), .s (.int .i64 r.First), .ow 3 (rowsOf Int_c r.Show), .s (.bool r.Kids), .s (.int .i64 r.KidTable), .s (.int .i64 r.KidCol)]] := by
  unfold laws_toQuery.f at h
  let ar := Ls.ar; let cm := Ls.cm; let bo := Ls.bo; let sc := Ls.sc; let sa := Ls.sa; let sx := Ls.sx; let ss := Ls.ss; let sl := Ls.sl; let bs := Ls.bs; let sb := Ls.sb; let ln := Ls.ln; let sr := Ls.sr; let ap := Ls.ap; let up := Ls.up; let rp := Ls.rp; let fr := Ls.fr; let ge := Ls.ge; let le := Ls.le; let lt := Ls.lt; let nz := Ls.nz; let mm := Ls.mm; let ma := Ls.ma; let sm := Ls.sm; let fl := Ls.fl; let al := Ls.al; let ci := Ls.ci
  let eCond_c := rowsOf Cond_c
  let eInt_c := rowsOf Int_c
  have hL : (⟨ar, cm, bo, sc, sa, sx, ss, sl, bs, sb, ln, sr, ap, up, rp, fr, ge, le, lt, nz, mm, ma, sm, fl, al, ci⟩ : Lf) = Ls := rfl
  show AC Try.prog 9 [.ag [.s (.int .i64 a0v_Table), .im false (eCond_c a0v_Where), .s (.int .i64 a0v_Order), .s (.bool a0v_Down), .s (.int .i64 a0v_First), .im false (eInt_c a0v_Show), .s (.bool a0v_Kids), .s (.int .i64 a0v_KidTable), .s (.int .i64 a0v_KidCol)]] _ _
  refine AC.of_run2 tab_ok Try.func9 (by rfl) (by rfl) (by cbv) ⟨by decide, rfl⟩ fun F hP hA => ?_
  have hT : TabOk F.P tab := hP ▸ tab_ok
  have hM : F.P.follows .mixedOrders = true := hP ▸ mixed
  have hC : ∀ {f a o r}, AC Try.prog f a o r → AC F.P f a o r := fun h => hP ▸ h
  refine Run.seq ?_
  refine Run.region hL hT [] (by cbv) ?_ ?_
  · exact hq0
  refine Run.seq ?_
  refine Run.region hL hT [] (by cbv) ?_ ?_
  · exact hq0
  refine Run.seq ?_
  refine Run.region hL hT [] (by cbv) ?_ ?_
  · exact (hq trivial (hq trivial hq0))
  refine Run.seq ?_
  obtain ⟨r1, h_r1, h⟩ := bnd h
  refine Run.region hL hT [(2, .call [false] [.v (.jk)] [.v (.ow 94 (eCond_c r1))])] (by cbv) ?_ ?_
  · exact (hq trivial (hq (hC (laws_toCondS_ac h_r1)) (hq trivial hq0)))
  refine Run.seq ?_
  refine Run.region hL hT [] (by cbv) ?_ ?_
  · exact (hq trivial (hq trivial hq0))
  refine Run.seq ?_
  refine Run.region hL hT [] (by cbv) ?_ ?_
  · exact (hq trivial (hq trivial hq0))
  refine Run.seq ?_
  refine Run.region hL hT [] (by cbv) ?_ ?_
  · exact (hq trivial (hq trivial hq0))
  refine Run.seq ?_
  obtain ⟨r2, h_r2, h⟩ := bnd h
  refine Run.region hL hT [(2, .call [false] [.v (.jk)] [.v (.ow 3 (eInt_c r2))])] (by cbv) ?_ ?_
  · exact (hq trivial (hq (hC (laws_toIntS_ac h_r2)) (hq trivial hq0)))
  refine Run.seq ?_
  refine Run.region hL hT [] (by cbv) ?_ ?_
  · exact (hq trivial (hq trivial hq0))
  refine Run.seq ?_
  refine Run.region hL hT [] (by cbv) ?_ ?_
  · exact (hq trivial (hq trivial hq0))
  refine Run.seq ?_
  refine Run.region hL hT [] (by cbv) ?_ ?_
  · exact (hq trivial (hq trivial hq0))
  refine Run.seq ?_
  refine Run.region hL hT [] (by cbv) ?_ ?_
  · exact (hq trivial (hq trivial hq0))
  refine Run.ret ?_
  cases h
  refine ⟨_, _, by cbv, ?_, ?_⟩
  · exact LLe.r
  · exact (ALe.ag rfl LLe.r ALe.nil)

set_option maxRecDepth 8000 in
theorem laws_FnExactRowsFor_ac {a0v_Schemav_Cols : List Int} {a0v_Version : Int} {a0v_Tables : List (List Row)} {a1v_Table : Int} {a1v_Where : List Cond} {a1v_Order : Int} {a1v_Down : Bool} {a1v_First : Int} {a1v_Show : List Int} {a1v_Kids : Bool} {a1v_KidTable : Int} {a1v_KidCol : Int} {r : Bool} (h : laws_FnExactRowsFor.f (Store.mk (Schema.mk a0v_Schemav_Cols) a0v_Version a0v_Tables) (Query.mk a1v_Table a1v_Where a1v_Order a1v_Down a1v_First a1v_Show a1v_Kids a1v_KidTable a1v_KidCol) = some r) : AC Try.prog 3 [.ag [.im false (rowsOf Int_c a0v_Schemav_Cols), .s (.int .i64 a0v_Version), .im false (rowsOf RowS_i a0v_Tables)], .ag [.s (.int .i64 a1v_Table), .im false (rowsOf Cond_c a1v_Where), .s (.int .i64 a1v_Order), .s (.bool a1v_Down), .s (.int .i64 a1v_First), .im false (rowsOf Int_c a1v_Show), .s (.bool a1v_Kids), .s (.int .i64 a1v_KidTable), .s (.int .i64 a1v_KidCol)]] [.ag [.jk, .jk, .jk], .ag [.jk, .jk, .jk, .jk, .jk, .jk, .jk, .jk, .jk]] [.v (.s (.bool r))] := by
  unfold laws_FnExactRowsFor.f at h
  let ar := Ls.ar; let cm := Ls.cm; let bo := Ls.bo; let sc := Ls.sc; let sa := Ls.sa; let sx := Ls.sx; let ss := Ls.ss; let sl := Ls.sl; let bs := Ls.bs; let sb := Ls.sb; let ln := Ls.ln; let sr := Ls.sr; let ap := Ls.ap; let up := Ls.up; let rp := Ls.rp; let fr := Ls.fr; let ge := Ls.ge; let le := Ls.le; let lt := Ls.lt; let nz := Ls.nz; let mm := Ls.mm; let ma := Ls.ma; let sm := Ls.sm; let fl := Ls.fl; let al := Ls.al; let ci := Ls.ci
  let eCond_c := rowsOf Cond_c
  let eInt_c := rowsOf Int_c
  let eRowS_i := rowsOf RowS_i
  let eRowS_o := rowsOf RowS_o
  let eRow_o := rowsOf Row_o
  have hL : (⟨ar, cm, bo, sc, sa, sx, ss, sl, bs, sb, ln, sr, ap, up, rp, fr, ge, le, lt, nz, mm, ma, sm, fl, al, ci⟩ : Lf) = Ls := rfl
  show AC Try.prog 3 [.ag [.im false (eInt_c a0v_Schemav_Cols), .s (.int .i64 a0v_Version), .im false (eRowS_i a0v_Tables)], .ag [.s (.int .i64 a1v_Table), .im false (eCond_c a1v_Where), .s (.int .i64 a1v_Order), .s (.bool a1v_Down), .s (.int .i64 a1v_First), .im false (eInt_c a1v_Show), .s (.bool a1v_Kids), .s (.int .i64 a1v_KidTable), .s (.int .i64 a1v_KidCol)]] _ _
  refine AC.of_run2 tab_ok Try.func3 (by rfl) (by rfl) (by cbv) ⟨by decide, rfl⟩ fun F hP hA => ?_
  have hT : TabOk F.P tab := hP ▸ tab_ok
  have hM : F.P.follows .mixedOrders = true := hP ▸ mixed
  have hC : ∀ {f a o r}, AC Try.prog f a o r → AC F.P f a o r := fun h => hP ▸ h
  refine Run.seq ?_
  refine Run.region hL hT [] (by cbv) ?_ ?_
  · exact hq0
  refine Run.seq ?_
  refine Run.region hL hT [] (by cbv) ?_ ?_
  · exact hq0
  refine Run.seq ?_
  obtain ⟨r1, h_r1, h⟩ := bnd h
  refine Run.region hL hT [(2, .call [false, false] [.ag [.jk, .jk, .jk], .v (.jk)] [.v (.s (.int .i64 r1))])] (by cbv) ?_ ?_
  · exact (hq trivial (hq (hC (laws_szStore_ac h_r1)) hq0))
  refine Run.seq ?_
  refine Run.seq ?_
  refine Run.region hL hT [] (by cbv) ?_ ?_
  · exact (hq trivial hq0)
  refine Run.cond (by cbv) (hq0) (fun c2 => ?_) (fun c2 => ?_)
  · have h := if_t c2 h
    refine Run.seq ?_
    refine Run.region hL hT [] (by cbv) ?_ ?_
    · exact hq0
    refine Run.ret ?_
    cases h
    refine ⟨_, _, by cbv, ?_, ?_⟩
    · exact LLe.r
    · exact (ALe.v LLe.r ALe.nil)
  · have h := if_f c2 h
    refine Run.skip ?_
    refine Run.seq ?_
    obtain ⟨r3, h_r3, h⟩ := bnd h
    refine Run.region hL hT [(2, .call [false, false] [.ag [.jk, .jk, .jk, .jk, .jk, .jk, .jk, .jk, .jk], .v (.jk)] [.v (.s (.int .i64 r3))])] (by cbv) ?_ ?_
    · exact (hq trivial (hq (hC (laws_szQuery_ac h_r3)) hq0))
    refine Run.seq ?_
    refine Run.seq ?_
    refine Run.region hL hT [] (by cbv) ?_ ?_
    · exact (hq trivial hq0)
    refine Run.cond (by cbv) (hq0) (fun c4 => ?_) (fun c4 => ?_)
    · have h := if_t c4 h
      refine Run.seq ?_
      refine Run.region hL hT [] (by cbv) ?_ ?_
      · exact hq0
      refine Run.ret ?_
      cases h
      refine ⟨_, _, by cbv, ?_, ?_⟩
      · exact LLe.r
      · exact (ALe.v LLe.r ALe.nil)
    · have h := if_f c4 h
      refine Run.skip ?_
      refine Run.seq ?_
      obtain ⟨⟨⟨r5v_Schemav_Cols⟩, r5v_Version, r5v_Tables⟩, h_r5, h⟩ := bnd h
      obtain ⟨⟨r6v_Table, r6v_Where, r6v_Order, r6v_Down, r6v_First, r6v_Show, r6v_Kids, r6v_KidTable, r6v_KidCol⟩, h_r6, h⟩ := bnd h
      obtain ⟨r7, h_r7, h⟩ := bnd h
      refine Run.draw hL hT hM [(1, .call [false] [.ag [.jk, .jk, .jk]] [.ag [.ow 3 (eInt_c r5v_Schemav_Cols), .s (.int .i64 r5v_Version), .ow 33 (eRowS_o r5v_Tables)]]), (3, .call [false] [.ag [.jk, .jk, .jk, .jk, .jk, .jk, .jk, .jk, .jk]] [.ag [.s (.int .i64 r6v_Table), .ow 94 (eCond_c r6v_Where), .s (.int .i64 r6v_Order), .s (.bool r6v_Down), .s (.int .i64 r6v_First), .ow 3 (eInt_c r6v_Show), .s (.bool r6v_Kids), .s (.int .i64 r6v_KidTable), .s (.int .i64 r6v_KidCol)]]), (4, .call [false, false] [.ag [.jk, .jk, .jk], .ag [.jk, .jk, .jk, .jk, .jk, .jk, .jk, .jk, .jk]] [.v (.ow 66 (eRow_o r7))])] (by cbv) (by cbv) (by cbv) (by cbv) (by cbv) ?_ ?_
      · exact (hq trivial (hq (hC (laws_toStore_ac h_r5)) (hq trivial (hq (hC (laws_toQuery_ac h_r6)) (hq (hC (AC.args (spec_RowsFor_ac h_r7) (ALe.ag rfl (LLe.cons (LLe.im (RLe.eq (fr_row Int_c_z _))) (LLe.c (LLe.cons (LLe.im (RLe.eq (fr_row RowS_o_z _))) LLe.nil))) (ALe.ag rfl (LLe.c (LLe.cons (LLe.im (RLe.eq (fr_row Cond_c_z _))) (LLe.c (LLe.c (LLe.c (LLe.cons (LLe.im (RLe.eq (fr_row Int_c_z _))) (LLe.c (LLe.c (LLe.c LLe.nil))))))))) ALe.nil)))) hq0)))))
      refine Run.seq ?_
      obtain ⟨⟨⟨r8v_Schemav_Cols⟩, r8v_Version, r8v_Tables⟩, h_r8, h⟩ := bnd h
      refine Run.region hL hT [(1, .call [false] [.ag [.jk, .jk, .jk]] [.ag [.ow 3 (eInt_c r8v_Schemav_Cols), .s (.int .i64 r8v_Version), .ow 33 (eRowS_o r8v_Tables)]])] (by cbv) ?_ ?_
      · exact (hq trivial (hq (hC (laws_toStore_ac h_r8)) (hq trivial hq0)))
      refine Run.seq ?_
      obtain ⟨⟨r9v_Table, r9v_Where, r9v_Order, r9v_Down, r9v_First, r9v_Show, r9v_Kids, r9v_KidTable, r9v_KidCol⟩, h_r9, h⟩ := bnd h
      refine Run.region hL hT [(1, .call [false] [.ag [.jk, .jk, .jk, .jk, .jk, .jk, .jk, .jk, .jk]] [.ag [.s (.int .i64 r9v_Table), .ow 94 (eCond_c r9v_Where), .s (.int .i64 r9v_Order), .s (.bool r9v_Down), .s (.int .i64 r9v_First), .ow 3 (eInt_c r9v_Show), .s (.bool r9v_Kids), .s (.int .i64 r9v_KidTable), .s (.int .i64 r9v_KidCol)]])] (by cbv) ?_ ?_
      · exact (hq trivial (hq (hC (laws_toQuery_ac h_r9)) (hq trivial hq0)))
      refine Run.seq ?_
      obtain ⟨r10, h_r10, h⟩ := bnd h
      refine Run.region hL hT [(2, .call [false, false] [.ag [.jk, .jk, .jk], .ag [.jk, .jk, .jk, .jk, .jk, .jk, .jk, .jk, .jk]] [.v (.ow 66 (eRow_o r10))])] (by cbv) ?_ ?_
      · exact (hq trivial (hq trivial (hq (hC (AC.args (impl_RowsFor_ac h_r10) (ALe.ag rfl (LLe.cons (LLe.im (RLe.eq (fr_row Int_c_z _))) (LLe.c (LLe.cons (LLe.im (RLe.eq (fr_row RowS_o_z _))) LLe.nil))) (ALe.ag rfl (LLe.c (LLe.cons (LLe.im (RLe.eq (fr_row Cond_c_z _))) (LLe.c (LLe.c (LLe.c (LLe.cons (LLe.im (RLe.eq (fr_row Int_c_z _))) (LLe.c (LLe.c (LLe.c LLe.nil))))))))) ALe.nil)))) hq0)))
      refine Run.seq ?_
      refine Run.seq ?_
      obtain ⟨r11, h_r11, h⟩ := bnd h
      refine Run.region hL hT [(2, .call [false, false] [.v (.jk), .v (.jk)] [.v (.s (.bool r11))])] (by cbv) ?_ ?_
      · exact (hq (hC (AC.args (laws_eqRowS_ac h_r11) (ALe.v (LLe.im (RLe.eq (fr_row Row_o_z _))) (ALe.v (LLe.im (RLe.eq (fr_row Row_o_z _))) ALe.nil)))) hq0)
      refine Run.cond (by cbv) (hq0) (fun c12 => ?_) (fun c12 => ?_)
      · have h := if_t c12 h
        refine Run.seq ?_
        refine Run.region hL hT [] (by cbv) ?_ ?_
        · exact hq0
        refine Run.ret ?_
        cases h
        refine ⟨_, _, by cbv, ?_, ?_⟩
        · exact LLe.r
        · exact (ALe.v LLe.r ALe.nil)
      · have h := if_f c12 h
        refine Run.skip ?_
        refine Run.seq ?_
        refine Run.seq ?_
        obtain ⟨⟨⟨r13v_Schemav_Cols⟩, r13v_Version, r13v_Tables⟩, h_r13, h⟩ := bnd h
        obtain ⟨r14, h_r14, h⟩ := bnd h
        refine Run.draw hL hT hM [(2, .call [false] [.ag [.jk, .jk, .jk]] [.ag [.ow 3 (eInt_c r13v_Schemav_Cols), .s (.int .i64 r13v_Version), .ow 33 (eRowS_o r13v_Tables)]]), (3, .call [false, false] [.ag [.jk, .jk, .jk], .ag [.jk, .jk, .jk]] [.v (.s (.bool r14))])] (by cbv) (by cbv) (by cbv) (by cbv) (by cbv) ?_ ?_
        · exact (hq trivial (hq trivial (hq (hC (laws_toStore_ac h_r13)) (hq (hC (AC.args (laws_eqStore_ac h_r14) (ALe.ag rfl (LLe.cons (LLe.im (RLe.eq (fr_row Int_c_z _))) (LLe.c (LLe.cons (LLe.im (RLe.eq (fr_row RowS_o_z _))) LLe.nil))) (ALe.ag rfl (LLe.cons (LLe.im (RLe.eq (fr_row Int_c_z _))) (LLe.c (LLe.cons (LLe.im (RLe.eq (fr_row RowS_o_z _))) LLe.nil))) ALe.nil)))) hq0))))
        refine Run.cond (by cbv) (hq0) (fun c15 => ?_) (fun c15 => ?_)
        · have h := if_t c15 h
          refine Run.seq ?_
          refine Run.region hL hT [] (by cbv) ?_ ?_
          · exact hq0
          refine Run.ret ?_
          cases h
          refine ⟨_, _, by cbv, ?_, ?_⟩
          · exact LLe.r
          · exact (ALe.v LLe.r ALe.nil)
        · have h := if_f c15 h
          refine Run.skip ?_
          refine Run.seq ?_
          refine Run.seq ?_
          obtain ⟨⟨r16v_Table, r16v_Where, r16v_Order, r16v_Down, r16v_First, r16v_Show, r16v_Kids, r16v_KidTable, r16v_KidCol⟩, h_r16, h⟩ := bnd h
          obtain ⟨r17, h_r17, h⟩ := bnd h
          refine Run.draw hL hT hM [(2, .call [false] [.ag [.jk, .jk, .jk, .jk, .jk, .jk, .jk, .jk, .jk]] [.ag [.s (.int .i64 r16v_Table), .ow 94 (eCond_c r16v_Where), .s (.int .i64 r16v_Order), .s (.bool r16v_Down), .s (.int .i64 r16v_First), .ow 3 (eInt_c r16v_Show), .s (.bool r16v_Kids), .s (.int .i64 r16v_KidTable), .s (.int .i64 r16v_KidCol)]]), (3, .call [false, false] [.ag [.jk, .jk, .jk, .jk, .jk, .jk, .jk, .jk, .jk], .ag [.jk, .jk, .jk, .jk, .jk, .jk, .jk, .jk, .jk]] [.v (.s (.bool r17))])] (by cbv) (by cbv) (by cbv) (by cbv) (by cbv) ?_ ?_
          · exact (hq trivial (hq trivial (hq (hC (laws_toQuery_ac h_r16)) (hq (hC (AC.args (laws_eqQuery_ac h_r17) (ALe.ag rfl (LLe.c (LLe.cons (LLe.im (RLe.eq (fr_row Cond_c_z _))) (LLe.c (LLe.c (LLe.c (LLe.cons (LLe.im (RLe.eq (fr_row Int_c_z _))) (LLe.c (LLe.c (LLe.c LLe.nil))))))))) (ALe.ag rfl (LLe.c (LLe.cons (LLe.im (RLe.eq (fr_row Cond_c_z _))) (LLe.c (LLe.c (LLe.c (LLe.cons (LLe.im (RLe.eq (fr_row Int_c_z _))) (LLe.c (LLe.c (LLe.c LLe.nil))))))))) ALe.nil)))) hq0))))
          refine Run.cond (by cbv) (hq0) (fun c18 => ?_) (fun c18 => ?_)
          · have h := if_t c18 h
            refine Run.seq ?_
            refine Run.region hL hT [] (by cbv) ?_ ?_
            · exact hq0
            refine Run.ret ?_
            cases h
            refine ⟨_, _, by cbv, ?_, ?_⟩
            · exact LLe.r
            · exact (ALe.v LLe.r ALe.nil)
          · have h := if_f c18 h
            refine Run.skip ?_
            refine Run.seq ?_
            refine Run.region hL hT [] (by cbv) ?_ ?_
            · exact hq0
            refine Run.seq ?_
            obtain ⟨⟨⟨⟨r19v_1v_Schemav_Cols⟩, r19v_1v_Version, r19v_1v_Tables⟩, r19v_2⟩, h_r19, h⟩ := bnd h
            refine Run.region hL hT [(2, .call [true, false] [.ag [.ow 3 (eInt_c r19v_1v_Schemav_Cols), .jk, .ow 33 (eRowS_o r19v_1v_Tables)], .v (.jk)] [.v (.s (.int .i64 r19v_2))])] (by cbv) ?_ ?_
            · exact (hq trivial (hq (hC (laws_markStore_ac h_r19)) hq0))
            refine Run.seq ?_
            obtain ⟨⟨⟨r20v_1v_Table, r20v_1v_Where, r20v_1v_Order, r20v_1v_Down, r20v_1v_First, r20v_1v_Show, r20v_1v_Kids, r20v_1v_KidTable, r20v_1v_KidCol⟩, r20v_2⟩, h_r20, h⟩ := bnd h
            refine Run.region hL hT [(2, .call [true, false] [.ag [.jk, .ow 94 (eCond_c r20v_1v_Where), .jk, .jk, .jk, .ow 3 (eInt_c r20v_1v_Show), .jk, .jk, .jk], .v (.jk)] [.v (.s (.int .i64 r20v_2))])] (by cbv) ?_ ?_
            · exact (hq trivial (hq (hC (laws_markQuery_ac h_r20)) hq0))
            refine Run.seq ?_
            refine Run.seq ?_
            obtain ⟨r21, h_r21, h⟩ := bnd h
            refine Run.region hL hT [(5, .call [false, false] [.v (.jk), .v (.jk)] [.v (.s (.bool r21))])] (by cbv) ?_ ?_
            · exact (hq trivial (hq (fun _ => hq0) (hq (fun _ => hq0) (hq (fun g24 => (hq g24 (hq g24 (hq (hC (AC.args (laws_eqRowS_ac (gd_t h_r21 g24)) (ALe.v (LLe.im (RLe.eq (fr_row Row_o_z _))) (ALe.v (LLe.im (RLe.eq (fr_row Row_o_z _))) ALe.nil)))) hq0)))) (hq (fun g25 => (hq g25 hq0)) (hq (fun _ => hq0) (hq (fun q27 => (hq (bo_m q27) hq0)) hq0)))))))
            refine Run.cond (by cbv) (hq0) (fun c28 => ?_) (fun c28 => ?_)
            · have h := if_t c28 h
              refine Run.seq ?_
              refine Run.region hL hT [] (by cbv) ?_ ?_
              · exact hq0
              refine Run.ret ?_
              cases h
              refine ⟨_, _, by cbv, ?_, ?_⟩
              · exact LLe.r
              · exact (ALe.v LLe.r ALe.nil)
            · have h := if_f c28 h
              refine Run.skip ?_
              refine Run.seq ?_
              refine Run.region hL hT [] (by cbv) ?_ ?_
              · exact hq0
              refine Run.seq ?_
              obtain ⟨⟨r29v_1, r29v_2⟩, h_r29, h⟩ := bnd h
              refine Run.region hL hT [(2, .call [true, false] [.v (.ow 66 (eRow_o r29v_1)), .v (.jk)] [.v (.s (.int .i64 r29v_2))])] (by cbv) ?_ ?_
              · exact (hq (hC (laws_markRowS_ac h_r29)) hq0)
              refine Run.seq ?_
              refine Run.region hL hT [] (by cbv) ?_ ?_
              · exact hq0
              refine Run.seq ?_
              obtain ⟨r30, h_r30, h⟩ := bnd h
              refine Run.region hL hT [(2, .call [false, false] [.v (.jk), .v (.jk)] [.v (.s (.int .i64 r30))])] (by cbv) ?_ ?_
              · exact (hq (hC (AC.args (laws_heldRowS_ac h_r30) (ALe.v (LLe.im (RLe.eq (fr_row Row_o_z _))) (ALe.v LLe.r ALe.nil)))) hq0)
              refine Run.seq ?_
              refine Run.seq ?_
              refine Run.region hL hT [] (by cbv) ?_ ?_
              · exact (hq trivial hq0)
              refine Run.cond (by cbv) (hq0) (fun c31 => ?_) (fun c31 => ?_)
              · have h := if_t c31 h
                refine Run.seq ?_
                refine Run.region hL hT [] (by cbv) ?_ ?_
                · exact hq0
                refine Run.ret ?_
                cases h
                refine ⟨_, _, by cbv, ?_, ?_⟩
                · exact LLe.r
                · exact (ALe.v LLe.r ALe.nil)
              · have h := if_f c31 h
                refine Run.skip ?_
                refine Run.seq ?_
                refine Run.seq ?_
                refine Run.region hL hT [] (by cbv) ?_ ?_
                · exact (hq trivial hq0)
                refine Run.cond (by cbv) (hq0) (fun c32 => ?_) (fun c32 => ?_)
                · have h := if_t c32 h
                  refine Run.seq ?_
                  refine Run.region hL hT [] (by cbv) ?_ ?_
                  · exact hq0
                  refine Run.ret ?_
                  cases h
                  refine ⟨_, _, by cbv, ?_, ?_⟩
                  · exact LLe.r
                  · exact (ALe.v LLe.r ALe.nil)
                · have h := if_f c32 h
                  refine Run.skip ?_
                  refine Run.seq ?_
                  obtain ⟨⟨⟨r33v_Schemav_Cols⟩, r33v_Version, r33v_Tables⟩, h_r33, h⟩ := bnd h
                  obtain ⟨⟨r34v_Table, r34v_Where, r34v_Order, r34v_Down, r34v_First, r34v_Show, r34v_Kids, r34v_KidTable, r34v_KidCol⟩, h_r34, h⟩ := bnd h
                  obtain ⟨r35, h_r35, h⟩ := bnd h
                  refine Run.draw hL hT hM [(1, .call [false] [.ag [.jk, .jk, .jk]] [.ag [.ow 3 (eInt_c r33v_Schemav_Cols), .s (.int .i64 r33v_Version), .ow 33 (eRowS_o r33v_Tables)]]), (3, .call [false] [.ag [.jk, .jk, .jk, .jk, .jk, .jk, .jk, .jk, .jk]] [.ag [.s (.int .i64 r34v_Table), .ow 94 (eCond_c r34v_Where), .s (.int .i64 r34v_Order), .s (.bool r34v_Down), .s (.int .i64 r34v_First), .ow 3 (eInt_c r34v_Show), .s (.bool r34v_Kids), .s (.int .i64 r34v_KidTable), .s (.int .i64 r34v_KidCol)]]), (4, .call [false, false] [.ag [.jk, .jk, .jk], .ag [.jk, .jk, .jk, .jk, .jk, .jk, .jk, .jk, .jk]] [.v (.ow 66 (eRow_o r35))])] (by cbv) (by cbv) (by cbv) (by cbv) (by cbv) ?_ ?_
                  · exact (hq trivial (hq (hC (laws_toStore_ac h_r33)) (hq trivial (hq (hC (laws_toQuery_ac h_r34)) (hq (hC (AC.args (impl_RowsFor_ac h_r35) (ALe.ag rfl (LLe.cons (LLe.im (RLe.eq (fr_row Int_c_z _))) (LLe.c (LLe.cons (LLe.im (RLe.eq (fr_row RowS_o_z _))) LLe.nil))) (ALe.ag rfl (LLe.c (LLe.cons (LLe.im (RLe.eq (fr_row Cond_c_z _))) (LLe.c (LLe.c (LLe.c (LLe.cons (LLe.im (RLe.eq (fr_row Int_c_z _))) (LLe.c (LLe.c (LLe.c LLe.nil))))))))) ALe.nil)))) hq0)))))
                  refine Run.seq ?_
                  refine Run.seq ?_
                  obtain ⟨r36, h_r36, h⟩ := bnd h
                  refine Run.region hL hT [(2, .call [false, false] [.v (.jk), .v (.jk)] [.v (.s (.bool r36))])] (by cbv) ?_ ?_
                  · exact (hq (hC (AC.args (laws_eqRowS_ac h_r36) (ALe.v (LLe.im (RLe.eq (fr_row Row_o_z _))) (ALe.v (LLe.im (RLe.eq (fr_row Row_o_z _))) ALe.nil)))) hq0)
                  refine Run.cond (by cbv) (hq0) (fun c37 => ?_) (fun c37 => ?_)
                  · have h := if_t c37 h
                    refine Run.seq ?_
                    refine Run.region hL hT [] (by cbv) ?_ ?_
                    · exact hq0
                    refine Run.ret ?_
                    cases h
                    refine ⟨_, _, by cbv, ?_, ?_⟩
                    · exact LLe.r
                    · exact (ALe.v LLe.r ALe.nil)
                  · have h := if_f c37 h
                    refine Run.skip ?_
                    refine Run.seq ?_
                    refine Run.region hL hT [] (by cbv) ?_ ?_
                    · exact hq0
                    refine Run.seq ?_
                    obtain ⟨r38, h_r38, h⟩ := bnd h
                    refine Run.region hL hT [(2, .call [false, false] [.v (.jk), .v (.jk)] [.v (.s (.int .i64 r38))])] (by cbv) ?_ ?_
                    · exact (hq (hC (AC.args (laws_heldRowS_ac h_r38) (ALe.v (LLe.im (RLe.eq (fr_row Row_o_z _))) (ALe.v LLe.r ALe.nil)))) hq0)
                    refine Run.seq ?_
                    refine Run.seq ?_
                    refine Run.region hL hT [] (by cbv) ?_ ?_
                    · exact (hq trivial hq0)
                    refine Run.cond (by cbv) (hq0) (fun c39 => ?_) (fun c39 => ?_)
                    · have h := if_t c39 h
                      refine Run.seq ?_
                      refine Run.region hL hT [] (by cbv) ?_ ?_
                      · exact hq0
                      refine Run.ret ?_
                      cases h
                      refine ⟨_, _, by cbv, ?_, ?_⟩
                      · exact LLe.r
                      · exact (ALe.v LLe.r ALe.nil)
                    · have h := if_f c39 h
                      refine Run.skip ?_
                      refine Run.seq ?_
                      refine Run.seq ?_
                      refine Run.region hL hT [] (by cbv) ?_ ?_
                      · exact (hq trivial hq0)
                      refine Run.cond (by cbv) (hq0) (fun c40 => ?_) (fun c40 => ?_)
                      · have h := if_t c40 h
                        refine Run.seq ?_
                        refine Run.region hL hT [] (by cbv) ?_ ?_
                        · exact hq0
                        refine Run.ret ?_
                        cases h
                        refine ⟨_, _, by cbv, ?_, ?_⟩
                        · exact LLe.r
                        · exact (ALe.v LLe.r ALe.nil)
                      · have h := if_f c40 h
                        refine Run.skip ?_
                        refine Run.seq ?_
                        refine Run.region hL hT [] (by cbv) ?_ ?_
                        · exact hq0
                        refine Run.ret ?_
                        cases h
                        refine ⟨_, _, by cbv, ?_, ?_⟩
                        · exact LLe.r
                        · exact (ALe.v LLe.r ALe.nil)


end Go.Proofs.Ytgicjbeaomjdgaa.L
