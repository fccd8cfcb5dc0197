/- The contracts of the program's functions. -/
import Derived.Test.YtgicjbeaomjdgaaProg
import Derived.Test.YtgicjbeaomjdgaaFxViewOfC0
import Derived.KernelRfl
namespace Go.Proofs.Ytgicjbeaomjdgaa.L
open Go Go.Proofs
set_option linter.unusedVariables false
set_option linter.unusedSimpArgs false
set_option maxRecDepth 8000 in
theorem slices_insertionSortCmpFunc_impl_Row__impl_RowsFor_1_ac {a0 : List Row} {a1 : Int} {a2 : Int} {a3c0v_Table : Int} {a3c0v_Where : List Cond} {a3c0v_Order : Int} {a3c0v_Down : Bool} {a3c0v_First : Int} {a3c0v_Show : List Int} {a3c0v_Kids : Bool} {a3c0v_KidTable : Int} {a3c0v_KidCol : Int} {r : (List Row)} (h : slices_insertionSortCmpFunc_impl_Row__impl_RowsFor_1.f a0 a1 a2 (Query.mk a3c0v_Table a3c0v_Where a3c0v_Order a3c0v_Down a3c0v_First a3c0v_Show a3c0v_Kids a3c0v_KidTable a3c0v_KidCol) = some r) : AC Try.prog 90 [.v (.ow 66 (rowsOf Row_o a0)), .v (.s (.int .i64 a1)), .v (.s (.int .i64 a2)), .v (.fn 40 [.ip [.s (.int .i64 a3c0v_Table), .im false (rowsOf Cond_c a3c0v_Where), .s (.int .i64 a3c0v_Order), .s (.bool a3c0v_Down), .s (.int .i64 a3c0v_First), .im false (rowsOf Int_c a3c0v_Show), .s (.bool a3c0v_Kids), .s (.int .i64 a3c0v_KidTable), .s (.int .i64 a3c0v_KidCol)]])] [.v (.ow 66 (rowsOf Row_o r)), .v (.jk), .v (.jk), .v (.jk)] [] := by
  unfold slices_insertionSortCmpFunc_impl_Row__impl_RowsFor_1.f at h
  let ar := Ls.ar; let cm := Ls.cm; let bo := Ls.bo; let sc := Ls.sc; let sa := Ls.sa; let sx := Ls.sx; let ss := Ls.ss; let sl := Ls.sl; let bs := Ls.bs; let sb := Ls.sb; let ln := Ls.ln; let sr := Ls.sr; let ap := Ls.ap; let up := Ls.up; let rp := Ls.rp; let fr := Ls.fr; let ge := Ls.ge; let le := Ls.le; let lt := Ls.lt; let nz := Ls.nz; let mm := Ls.mm; let ma := Ls.ma; let sm := Ls.sm; let fl := Ls.fl; let al := Ls.al; let ci := Ls.ci
  let eCond_c := rowsOf Cond_c
  let eInt_c := rowsOf Int_c
  let eRow_o := rowsOf Row_o
  have hL : (⟨ar, cm, bo, sc, sa, sx, ss, sl, bs, sb, ln, sr, ap, up, rp, fr, ge, le, lt, nz, mm, ma, sm, fl, al, ci⟩ : Lf) = Ls := rfl
  show AC Try.prog 90 [.v (.ow 66 (eRow_o a0)), .v (.s (.int .i64 a1)), .v (.s (.int .i64 a2)), .v (.fn 40 [.ip [.s (.int .i64 a3c0v_Table), .im false (eCond_c a3c0v_Where), .s (.int .i64 a3c0v_Order), .s (.bool a3c0v_Down), .s (.int .i64 a3c0v_First), .im false (eInt_c a3c0v_Show), .s (.bool a3c0v_Kids), .s (.int .i64 a3c0v_KidTable), .s (.int .i64 a3c0v_KidCol)]])] _ _
  refine AC.of_run2 tab_ok Try.func90 (by rfl) (by rfl) (by cbv) ⟨by decide, rfl⟩ fun F hP hA => ?_
  have hT : TabOk F.P tab := hP ▸ tab_ok
  have hM : F.P.follows .mixedOrders = true := hP ▸ mixed
  have hC : ∀ {f a o r}, AC Try.prog f a o r → AC F.P f a o r := fun h => hP ▸ h
  refine Run.weak ?_ (Weak.fnT 3 (by cbv))
  refine Run.seq ?_
  refine Run.region hL hT [] (by cbv) ?_ ?_
  · exact (hq trivial hq0)
  refine Run.block ?_
  refine Run.loop2 (fun (z14 : List Row) (z15 : Int) => ⟨53, 100000, [(0, .rf 0), (1, .t (.s (.int .i64 a1))), (2, .t (.s (.int .i64 a2))), (3, .fn 40 [.t (.ip [.s (.int .i64 a3c0v_Table), .im false (eCond_c a3c0v_Where), .s (.int .i64 a3c0v_Order), .s (.bool a3c0v_Down), .s (.int .i64 a3c0v_First), .im false (eInt_c a3c0v_Show), .s (.bool a3c0v_Kids), .s (.int .i64 a3c0v_KidTable), .s (.int .i64 a3c0v_KidCol)])]), (8, .t (.s (.int .i64 z15)))], [(0, .row 0 66 2 (eRow_o z14))]⟩) (x0 := a0) (x1 := (ar .add .i64 a1 1)) h (Weak.of _ [(0, 0)] hA (by cbv) ?_) (fun _ _ => rfl) ?_
  · repeat (first | exact hq0 | refine hq (by first | exact True.intro | rfl) ?_)
  · intro k z14 z15 h
    rw [slices_insertionSortCmpFunc_impl_Row__impl_RowsFor_1.l0] at h
    refine Run.seq ?_
    refine Run.seq ?_
    refine Run.region hL hT [] (by cbv) ?_ ?_
    · exact (hq trivial hq0)
    refine Run.cond (by cbv) (hq0) (fun c16 => ?_) (fun c16 => ?_)
    · have h := if_t c16 h
      refine Run.skip ?_
      obtain ⟨K18, h_K18, h⟩ := joinE h
      refine Run.join1 K18 (r := r) (fun (y17 : List Row) => ⟨53, 100000, [(0, .rf 0), (1, .t (.s (.int .i64 a1))), (2, .t (.s (.int .i64 a2))), (3, .fn 40 [.t (.ip [.s (.int .i64 a3c0v_Table), .im false (eCond_c a3c0v_Where), .s (.int .i64 a3c0v_Order), .s (.bool a3c0v_Down), .s (.int .i64 a3c0v_First), .im false (eInt_c a3c0v_Show), .s (.bool a3c0v_Kids), .s (.int .i64 a3c0v_KidTable), .s (.int .i64 a3c0v_KidCol)])]), (8, .t (.s (.int .i64 z15)))], [(0, .row 0 66 2 (eRow_o y17))]⟩) ?_ ?_
      · skip
        refine Run.block ?_
        refine Run.seq ?_
        refine Run.region hL hT [] (by cbv) ?_ ?_
        · exact hq0
        refine Run.block ?_
        refine Run.loop2 (fun (z33 : List Row) (z34 : Int) => ⟨53, 100000, [(0, .rf 0), (1, .t (.s (.int .i64 a1))), (2, .t (.s (.int .i64 a2))), (3, .fn 40 [.t (.ip [.s (.int .i64 a3c0v_Table), .im false (eCond_c a3c0v_Where), .s (.int .i64 a3c0v_Order), .s (.bool a3c0v_Down), .s (.int .i64 a3c0v_First), .im false (eInt_c a3c0v_Show), .s (.bool a3c0v_Kids), .s (.int .i64 a3c0v_KidTable), .s (.int .i64 a3c0v_KidCol)])]), (8, .t (.s (.int .i64 z15))), (9, .t (.s (.int .i64 z34)))], [(0, .row 0 66 2 (eRow_o z33))]⟩) (x0 := z14) (x1 := z15) h (Weak.of _ [(0, 0)] hA (by cbv) ?_) (fun _ _ => rfl) ?_
        · repeat (first | exact hq0 | refine hq (by first | exact True.intro | rfl) ?_)
        · intro k z33 z34 h
          rw [slices_insertionSortCmpFunc_impl_Row__impl_RowsFor_1.l1] at h
          refine Run.seq ?_
          refine Run.seq ?_
          obtain ⟨⟨x35v_Id, x35v_Cells⟩, h_x35, h⟩ := bnd h
          obtain ⟨⟨x36v_Id, x36v_Cells⟩, h_x36, h⟩ := bnd h
          obtain ⟨r37, h_r37, h⟩ := bnd h
          refine Run.draw hL hT hM [(8, .el [.s (.int .i64 x35v_Id), .ow 3 (eInt_c x35v_Cells)]), (13, .el [.s (.int .i64 x36v_Id), .ow 3 (eInt_c x36v_Cells)]), (14, .call [false, false] [.ag [.jk, .jk], .ag [.jk, .jk], .v (.jk)] [.v (.s (.int .i64 r37))])] (by cbv) (by cbv) (by cbv) (by cbv) (by cbv) ?_ ?_
          · exact (hq trivial (hq (fun _ => hq0) (hq (fun _ => hq0) (hq (fun _ => hq0) (hq (fun g41 => (hq g41 (hq g41 (hq (get_le (gd_t h_x35 g41)) (hq (get_lt (f := Row_o) (gd_t h_x35 g41)) hq0))))) (hq (fun g42 => (hq g42 (hq (get_le (gd_t h_x35 g42)) (hq (get_lt (f := Row_o) (gd_t h_x35 g42)) (hq (get_ge (f := Row_o) (gd_t h_x35 g42)) hq0))))) (hq (fun _ => hq0) (hq (fun _ => hq0) (hq (fun g45 => (hq g45 (hq trivial hq0))) (hq (fun g46 => (hq g46 (hq g46 (hq (get_le (gd_t h_x36 g46)) (hq (get_lt (f := Row_o) (gd_t h_x36 g46)) hq0))))) (hq (fun g47 => (hq g47 (hq (get_le (gd_t h_x36 g47)) (hq (get_lt (f := Row_o) (gd_t h_x36 g47)) (hq (get_ge (f := Row_o) (gd_t h_x36 g47)) hq0))))) (hq (fun g48 => (hq g48 (hq g48 (hq g48 (hq (hC (AC.args (impl_RowsFor_1_ac (gd_t h_r37 g48)) (ALe.ag rfl (LLe.c (LLe.cons (LLe.im (RLe.eq (fr_row Int_c_z _))) LLe.nil)) (ALe.ag rfl (LLe.c (LLe.cons (LLe.im (RLe.eq (fr_row Int_c_z _))) LLe.nil)) (ALe.v LLe.r ALe.nil))))) hq0))))) (hq (fun g49 => (hq g49 (hq trivial hq0))) (hq (fun q50 => (hq q50 hq0)) (hq (fun _ => hq0) hq0)))))))))))))))
          refine Run.cond (by cbv) (hq0) (fun c52 => ?_) (fun c52 => ?_)
          · have h := if_t c52 h
            refine Run.skip ?_
            refine Run.seq ?_
            refine Run.block ?_
            obtain ⟨⟨x53v_Id, x53v_Cells⟩, h_x53, h⟩ := bnd h
            obtain ⟨⟨x54v_Id, x54v_Cells⟩, h_x54, h⟩ := bnd h
            obtain ⟨u55, h_u55, h⟩ := bnd h
            obtain ⟨l56, h_l56, h⟩ := bnd h
            refine Run.weak ?_ (Weak.take2 (rows := eRow_o z33) (e2 := 3) (r1 := eInt_c x53v_Cells) (r2 := eInt_c x54v_Cells) hT 0 (ar .sub .i64 z34 1) z34 1 107096 1107096 107097 1107097 (by cbv) (by cbv) (by cbv) (by cbv) (by cbv) (by cbv) (get_le' h_x53) (get_lt' Row_o h_x53) ((congrArg (fun q => q[1]?) (get_ge (f := Row_o) h_x53)).trans rfl) rfl (get_le' h_x54) (get_lt' Row_o h_x54) (ne_t h_u55) ((congrArg (fun q => q[1]?) (get_ge (f := Row_o) h_x54)).trans rfl) rfl (by cbv) (up (up (eRow_o z33) (ar .sub .i64 z34 1) 1 [.jk]) z34 1 [.jk]) rfl)
            refine Run.draw hL hT hM [(9, .lk [.s (.int .i64 x53v_Id), .jk] [(1, 1107096)]), (13, .lk [.s (.int .i64 x54v_Id), .jk] [(1, 1107097)])] (by cbv) (by cbv) (by cbv) (by cbv) (by cbv) ?_ ?_
            · exact (hq trivial (hq trivial (hq (get_le h_x53) (hq (sw_lt Row_o h_x53) (hq trivial (hq (get_le h_x53) (hq (sw_lt Row_o h_x53) (hq (sw_ge1 Row_o h_x53 h_x54 (ne_t h_u55)) (hq (get_le h_x54) (hq (sw_lt Row_o h_x54) (hq trivial (hq (get_le h_x54) (hq (sw_lt Row_o h_x54) (hq (sw_ge2 Row_o h_x53 h_x54 (ne_t h_u55)) (hq (get_le h_x54) (hq (sw_lt Row_o h_x54) (hq (get_le h_x54) (hq (sw_lt Row_o h_x54) (hq (get_le h_x53) (hq (sw_lt3 Row_o h_x53) (hq (get_le h_x53) (hq (sw_lt3 Row_o h_x53) hq0))))))))))))))))))))))
            refine Run.row (rows := (up (up (up (up (eRow_o z33) (ar .sub .i64 z34 1) 1 [.jk]) z34 1 [.jk]) z34 0 [.s (.int .i64 x53v_Id), .ow 3 (eInt_c x53v_Cells)]) (ar .sub .i64 z34 1) 0 [.s (.int .i64 x54v_Id), .ow 3 (eInt_c x54v_Cells)])) 0 (eRow_o l56) (by cbv) (swap_le (f := Row_o) Row_o_n h_x53 h_x54 (ne_t h_u55) (by decide) (.inr ⟨rfl, rfl⟩) h_l56 rfl rfl) ?_
            refine Run.region hL hT [] (by cbv) ?_ ?_
            · exact (hq trivial hq0)
            refine ⟨l56, (ar .sub .i64 z34 1), h, Weak.of _ [(0, 0)] hA (by cbv) ?_⟩
            repeat (first | exact hq0 | refine hq (by first | exact True.intro | rfl) ?_)
          · have h := if_f c52 h
            refine Run.exit ?_
            refine ⟨z33, h, Weak.of _ [(0, 0)] hA (by cbv) ?_⟩
            repeat (first | exact hq0 | refine hq (by first | exact True.intro | rfl) ?_)
      · intro y17 h
        rw [h_K18] at h
        refine Run.region hL hT [] (by cbv) ?_ ?_
        · exact (hq trivial hq0)
        refine ⟨y17, (ar .add .i64 z15 1), h, Weak.of _ [(0, 0)] hA (by cbv) ?_⟩
        repeat (first | exact hq0 | refine hq (by first | exact True.intro | rfl) ?_)
    · have h := if_f c16 h
      refine Run.exit ?_
      cases h
      refine ⟨_, _, by cbv, ?_, ?_⟩
      · exact LLe.r
      · exact ALe.nil

set_option maxRecDepth 8000 in
theorem slices_swapRangeCmpFunc_impl_Row__impl_RowsFor_1_ac {a0 : List Row} {a1 : Int} {a2 : Int} {a3 : Int} {a4c0v_Table : Int} {a4c0v_Where : List Cond} {a4c0v_Order : Int} {a4c0v_Down : Bool} {a4c0v_First : Int} {a4c0v_Show : List Int} {a4c0v_Kids : Bool} {a4c0v_KidTable : Int} {a4c0v_KidCol : Int} {r : (List Row)} (h : slices_swapRangeCmpFunc_impl_Row__impl_RowsFor_1.f a0 a1 a2 a3 (Query.mk a4c0v_Table a4c0v_Where a4c0v_Order a4c0v_Down a4c0v_First a4c0v_Show a4c0v_Kids a4c0v_KidTable a4c0v_KidCol) = some r) : AC Try.prog 96 [.v (.ow 66 (rowsOf Row_o a0)), .v (.s (.int .i64 a1)), .v (.s (.int .i64 a2)), .v (.s (.int .i64 a3)), .v (.fn 40 [.ip [.s (.int .i64 a4c0v_Table), .im false (rowsOf Cond_c a4c0v_Where), .s (.int .i64 a4c0v_Order), .s (.bool a4c0v_Down), .s (.int .i64 a4c0v_First), .im false (rowsOf Int_c a4c0v_Show), .s (.bool a4c0v_Kids), .s (.int .i64 a4c0v_KidTable), .s (.int .i64 a4c0v_KidCol)]])] [.v (.ow 66 (rowsOf Row_o r)), .v (.jk), .v (.jk), .v (.jk), .v (.jk)] [] := by
  unfold slices_swapRangeCmpFunc_impl_Row__impl_RowsFor_1.f at h
  let ar := Ls.ar; let cm := Ls.cm; let bo := Ls.bo; let sc := Ls.sc; let sa := Ls.sa; let sx := Ls.sx; let ss := Ls.ss; let sl := Ls.sl; let bs := Ls.bs; let sb := Ls.sb; let ln := Ls.ln; let sr := Ls.sr; let ap := Ls.ap; let up := Ls.up; let rp := Ls.rp; let fr := Ls.fr; let ge := Ls.ge; let le := Ls.le; let lt := Ls.lt; let nz := Ls.nz; let mm := Ls.mm; let ma := Ls.ma; let sm := Ls.sm; let fl := Ls.fl; let al := Ls.al; let ci := Ls.ci
  let eCond_c := rowsOf Cond_c
  let eInt_c := rowsOf Int_c
  let eRow_o := rowsOf Row_o
  have hL : (⟨ar, cm, bo, sc, sa, sx, ss, sl, bs, sb, ln, sr, ap, up, rp, fr, ge, le, lt, nz, mm, ma, sm, fl, al, ci⟩ : Lf) = Ls := rfl
  show AC Try.prog 96 [.v (.ow 66 (eRow_o a0)), .v (.s (.int .i64 a1)), .v (.s (.int .i64 a2)), .v (.s (.int .i64 a3)), .v (.fn 40 [.ip [.s (.int .i64 a4c0v_Table), .im false (eCond_c a4c0v_Where), .s (.int .i64 a4c0v_Order), .s (.bool a4c0v_Down), .s (.int .i64 a4c0v_First), .im false (eInt_c a4c0v_Show), .s (.bool a4c0v_Kids), .s (.int .i64 a4c0v_KidTable), .s (.int .i64 a4c0v_KidCol)]])] _ _
  refine AC.of_run2 tab_ok Try.func96 (by rfl) (by rfl) (by cbv) ⟨by decide, rfl⟩ fun F hP hA => ?_
  have hT : TabOk F.P tab := hP ▸ tab_ok
  have hM : F.P.follows .mixedOrders = true := hP ▸ mixed
  have hC : ∀ {f a o r}, AC Try.prog f a o r → AC F.P f a o r := fun h => hP ▸ h
  refine Run.weak ?_ (Weak.fnT 4 (by cbv))
  refine Run.seq ?_
  refine Run.region hL hT [] (by cbv) ?_ ?_
  · exact hq0
  refine Run.block ?_
  refine Run.loop2 (fun (z6 : List Row) (z7 : Int) => ⟨38, 100000, [(0, .rf 0), (1, .t (.s (.int .i64 a1))), (2, .t (.s (.int .i64 a2))), (3, .t (.s (.int .i64 a3))), (10, .t (.s (.int .i64 z7)))], [(0, .row 0 66 2 (eRow_o z6))]⟩) (x0 := a0) (x1 := 0) h (Weak.of _ [(0, 0)] hA (by cbv) ?_) (fun _ _ => rfl) ?_
  · repeat (first | exact hq0 | refine hq (by first | exact True.intro | rfl) ?_)
  · intro k z6 z7 h
    rw [slices_swapRangeCmpFunc_impl_Row__impl_RowsFor_1.l0] at h
    refine Run.seq ?_
    refine Run.seq ?_
    refine Run.region hL hT [] (by cbv) ?_ ?_
    · exact (hq trivial hq0)
    refine Run.cond (by cbv) (hq0) (fun c8 => ?_) (fun c8 => ?_)
    · have h := if_t c8 h
      refine Run.skip ?_
      refine Run.seq ?_
      refine Run.block ?_
      obtain ⟨⟨x9v_Id, x9v_Cells⟩, h_x9, h⟩ := bnd h
      obtain ⟨⟨x10v_Id, x10v_Cells⟩, h_x10, h⟩ := bnd h
      obtain ⟨u11, h_u11, h⟩ := bnd h
      obtain ⟨l12, h_l12, h⟩ := bnd h
      refine Run.weak ?_ (Weak.take2 (rows := eRow_o z6) (e2 := 3) (r1 := eInt_c x9v_Cells) (r2 := eInt_c x10v_Cells) hT 0 (ar .add .i64 a2 z7) (ar .add .i64 a1 z7) 1 107096 1107096 107097 1107097 (by cbv) (by cbv) (by cbv) (by cbv) (by cbv) (by cbv) (get_le' h_x9) (get_lt' Row_o h_x9) ((congrArg (fun q => q[1]?) (get_ge (f := Row_o) h_x9)).trans rfl) rfl (get_le' h_x10) (get_lt' Row_o h_x10) (ne_t h_u11) ((congrArg (fun q => q[1]?) (get_ge (f := Row_o) h_x10)).trans rfl) rfl (by cbv) (up (up (eRow_o z6) (ar .add .i64 a2 z7) 1 [.jk]) (ar .add .i64 a1 z7) 1 [.jk]) rfl)
      refine Run.draw hL hT hM [(13, .lk [.s (.int .i64 x9v_Id), .jk] [(1, 1107096)]), (19, .lk [.s (.int .i64 x10v_Id), .jk] [(1, 1107097)])] (by cbv) (by cbv) (by cbv) (by cbv) (by cbv) ?_ ?_
      · exact (hq trivial (hq trivial (hq trivial (hq (get_le h_x9) (hq (sw_lt Row_o h_x9) (hq trivial (hq (get_le h_x9) (hq (sw_lt Row_o h_x9) (hq (sw_ge1 Row_o h_x9 h_x10 (ne_t h_u11)) (hq trivial (hq (get_le h_x10) (hq (sw_lt Row_o h_x10) (hq trivial (hq (get_le h_x10) (hq (sw_lt Row_o h_x10) (hq (sw_ge2 Row_o h_x9 h_x10 (ne_t h_u11)) (hq (get_le h_x10) (hq (sw_lt Row_o h_x10) (hq (get_le h_x10) (hq (sw_lt Row_o h_x10) (hq (get_le h_x9) (hq (sw_lt3 Row_o h_x9) (hq (get_le h_x9) (hq (sw_lt3 Row_o h_x9) hq0))))))))))))))))))))))))
      refine Run.row (rows := (up (up (up (up (eRow_o z6) (ar .add .i64 a2 z7) 1 [.jk]) (ar .add .i64 a1 z7) 1 [.jk]) (ar .add .i64 a1 z7) 0 [.s (.int .i64 x9v_Id), .ow 3 (eInt_c x9v_Cells)]) (ar .add .i64 a2 z7) 0 [.s (.int .i64 x10v_Id), .ow 3 (eInt_c x10v_Cells)])) 0 (eRow_o l12) (by cbv) (swap_le (f := Row_o) Row_o_n h_x9 h_x10 (ne_t h_u11) (by decide) (.inr ⟨rfl, rfl⟩) h_l12 rfl rfl) ?_
      refine Run.region hL hT [] (by cbv) ?_ ?_
      · exact (hq trivial hq0)
      refine ⟨l12, (ar .add .i64 z7 1), h, Weak.of _ [(0, 0)] hA (by cbv) ?_⟩
      repeat (first | exact hq0 | refine hq (by first | exact True.intro | rfl) ?_)
    · have h := if_f c8 h
      refine Run.exit ?_
      cases h
      refine ⟨_, _, by cbv, ?_, ?_⟩
      · exact LLe.r
      · exact ALe.nil

set_option maxRecDepth 8000 in
theorem slices_rotateCmpFunc_impl_Row__impl_RowsFor_1_ac {a0 : List Row} {a1 : Int} {a2 : Int} {a3 : Int} {a4c0v_Table : Int} {a4c0v_Where : List Cond} {a4c0v_Order : Int} {a4c0v_Down : Bool} {a4c0v_First : Int} {a4c0v_Show : List Int} {a4c0v_Kids : Bool} {a4c0v_KidTable : Int} {a4c0v_KidCol : Int} {r : (List Row)} (h : slices_rotateCmpFunc_impl_Row__impl_RowsFor_1.f a0 a1 a2 a3 (Query.mk a4c0v_Table a4c0v_Where a4c0v_Order a4c0v_Down a4c0v_First a4c0v_Show a4c0v_Kids a4c0v_KidTable a4c0v_KidCol) = some r) : AC Try.prog 94 [.v (.ow 66 (rowsOf Row_o a0)), .v (.s (.int .i64 a1)), .v (.s (.int .i64 a2)), .v (.s (.int .i64 a3)), .v (.fn 40 [.ip [.s (.int .i64 a4c0v_Table), .im false (rowsOf Cond_c a4c0v_Where), .s (.int .i64 a4c0v_Order), .s (.bool a4c0v_Down), .s (.int .i64 a4c0v_First), .im false (rowsOf Int_c a4c0v_Show), .s (.bool a4c0v_Kids), .s (.int .i64 a4c0v_KidTable), .s (.int .i64 a4c0v_KidCol)]])] [.v (.ow 66 (rowsOf Row_o r)), .v (.jk), .v (.jk), .v (.jk), .v (.jk)] [] := by
  unfold slices_rotateCmpFunc_impl_Row__impl_RowsFor_1.f at h
  let ar := Ls.ar; let cm := Ls.cm; let bo := Ls.bo; let sc := Ls.sc; let sa := Ls.sa; let sx := Ls.sx; let ss := Ls.ss; let sl := Ls.sl; let bs := Ls.bs; let sb := Ls.sb; let ln := Ls.ln; let sr := Ls.sr; let ap := Ls.ap; let up := Ls.up; let rp := Ls.rp; let fr := Ls.fr; let ge := Ls.ge; let le := Ls.le; let lt := Ls.lt; let nz := Ls.nz; let mm := Ls.mm; let ma := Ls.ma; let sm := Ls.sm; let fl := Ls.fl; let al := Ls.al; let ci := Ls.ci
  let eCond_c := rowsOf Cond_c
  let eInt_c := rowsOf Int_c
  let eRow_o := rowsOf Row_o
  have hL : (⟨ar, cm, bo, sc, sa, sx, ss, sl, bs, sb, ln, sr, ap, up, rp, fr, ge, le, lt, nz, mm, ma, sm, fl, al, ci⟩ : Lf) = Ls := rfl
  show AC Try.prog 94 [.v (.ow 66 (eRow_o a0)), .v (.s (.int .i64 a1)), .v (.s (.int .i64 a2)), .v (.s (.int .i64 a3)), .v (.fn 40 [.ip [.s (.int .i64 a4c0v_Table), .im false (eCond_c a4c0v_Where), .s (.int .i64 a4c0v_Order), .s (.bool a4c0v_Down), .s (.int .i64 a4c0v_First), .im false (eInt_c a4c0v_Show), .s (.bool a4c0v_Kids), .s (.int .i64 a4c0v_KidTable), .s (.int .i64 a4c0v_KidCol)]])] _ _
  refine AC.of_run2 tab_ok Try.func94 (by rfl) (by rfl) (by cbv) ⟨by decide, rfl⟩ fun F hP hA => ?_
  have hT : TabOk F.P tab := hP ▸ tab_ok
  have hM : F.P.follows .mixedOrders = true := hP ▸ mixed
  have hC : ∀ {f a o r}, AC Try.prog f a o r → AC F.P f a o r := fun h => hP ▸ h
  refine Run.weak ?_ (Weak.fnT 4 (by cbv))
  refine Run.seq ?_
  refine Run.region hL hT [] (by cbv) ?_ ?_
  · exact (hq trivial hq0)
  refine Run.seq ?_
  refine Run.region hL hT [] (by cbv) ?_ ?_
  · exact (hq trivial hq0)
  obtain ⟨K3, h_K3, h⟩ := joinE h
  refine Run.join2 K3 (r := r) (fun (y1 : List Row) (y2 : Int) => ⟨58, 100000, [(0, .rf 0), (2, .t (.s (.int .i64 a2))), (4, .fn 40 [.t (.ip [.s (.int .i64 a4c0v_Table), .im false (eCond_c a4c0v_Where), .s (.int .i64 a4c0v_Order), .s (.bool a4c0v_Down), .s (.int .i64 a4c0v_First), .im false (eInt_c a4c0v_Show), .s (.bool a4c0v_Kids), .s (.int .i64 a4c0v_KidTable), .s (.int .i64 a4c0v_KidCol)])]), (10, .t (.s (.int .i64 y2)))], [(0, .row 0 66 2 (eRow_o y1))]⟩) ?_ ?_
  · skip
    refine Run.block ?_
    refine Run.loop3 (fun (z17 : List Row) (z18 : Int) (z19 : Int) => ⟨58, 100000, [(0, .rf 0), (2, .t (.s (.int .i64 a2))), (4, .fn 40 [.t (.ip [.s (.int .i64 a4c0v_Table), .im false (eCond_c a4c0v_Where), .s (.int .i64 a4c0v_Order), .s (.bool a4c0v_Down), .s (.int .i64 a4c0v_First), .im false (eInt_c a4c0v_Show), .s (.bool a4c0v_Kids), .s (.int .i64 a4c0v_KidTable), .s (.int .i64 a4c0v_KidCol)])]), (10, .t (.s (.int .i64 z18))), (11, .t (.s (.int .i64 z19)))], [(0, .row 0 66 2 (eRow_o z17))]⟩) (x0 := a0) (x1 := (ar .sub .i64 a2 a1)) (x2 := (ar .sub .i64 a3 a2)) h (Weak.of _ [(0, 0)] hA (by cbv) ?_) (fun _ _ _ => rfl) ?_
    · repeat (first | exact hq0 | refine hq (by first | exact True.intro | rfl) ?_)
    · intro k z17 z18 z19 h
      rw [slices_rotateCmpFunc_impl_Row__impl_RowsFor_1.l0] at h
      refine Run.seq ?_
      refine Run.seq ?_
      refine Run.region hL hT [] (by cbv) ?_ ?_
      · exact (hq trivial hq0)
      refine Run.cond (by cbv) (hq0) (fun c20 => ?_) (fun c20 => ?_)
      · have h := if_t c20 h
        refine Run.skip ?_
        refine Run.block ?_
        refine Run.seq ?_
        refine Run.region hL hT [] (by cbv) ?_ ?_
        · exact (hq trivial hq0)
        refine Run.cond (by cbv) (hq0) (fun c21 => ?_) (fun c21 => ?_)
        · have h := if_t c21 h
          refine Run.seq ?_
          obtain ⟨r22, h_r22, h⟩ := bnd h
          refine Run.region hL hT [(7, .call [true, false, false, false, false] [.v (.ow 66 (eRow_o r22)), .v (.jk), .v (.jk), .v (.jk), .v (.jk)] [])] (by cbv) ?_ ?_
          · exact (hq trivial (hq (hC (slices_swapRangeCmpFunc_impl_Row__impl_RowsFor_1_ac h_r22)) hq0))
          refine Run.region hL hT [] (by cbv) ?_ ?_
          · exact (hq trivial hq0)
          refine ⟨r22, (ar .sub .i64 z18 z19), z19, h, Weak.of _ [(0, 0)] hA (by cbv) ?_⟩
          repeat (first | exact hq0 | refine hq (by first | exact True.intro | rfl) ?_)
        · have h := if_f c21 h
          refine Run.seq ?_
          obtain ⟨r23, h_r23, h⟩ := bnd h
          refine Run.region hL hT [(11, .call [true, false, false, false, false] [.v (.ow 66 (eRow_o r23)), .v (.jk), .v (.jk), .v (.jk), .v (.jk)] [])] (by cbv) ?_ ?_
          · exact (hq trivial (hq trivial (hq trivial (hq (hC (slices_swapRangeCmpFunc_impl_Row__impl_RowsFor_1_ac h_r23)) hq0))))
          refine Run.region hL hT [] (by cbv) ?_ ?_
          · exact (hq trivial hq0)
          refine ⟨r23, z18, (ar .sub .i64 z19 z18), h, Weak.of _ [(0, 0)] hA (by cbv) ?_⟩
          repeat (first | exact hq0 | refine hq (by first | exact True.intro | rfl) ?_)
      · have h := if_f c20 h
        refine Run.exit ?_
        refine ⟨z17, z18, h, Weak.of _ [(0, 0)] hA (by cbv) ?_⟩
        repeat (first | exact hq0 | refine hq (by first | exact True.intro | rfl) ?_)
  · intro y1 y2 h
    rw [h_K3] at h
    obtain ⟨r24, h_r24, h⟩ := bnd h
    refine Run.region hL hT [(7, .call [true, false, false, false, false] [.v (.ow 66 (eRow_o r24)), .v (.jk), .v (.jk), .v (.jk), .v (.jk)] [])] (by cbv) ?_ ?_
    · exact (hq trivial (hq (hC (slices_swapRangeCmpFunc_impl_Row__impl_RowsFor_1_ac h_r24)) hq0))
    cases h
    refine ⟨_, _, by cbv, ?_, ?_⟩
    · exact LLe.r
    · exact ALe.nil

set_option maxRecDepth 8000 in
theorem slices_symMergeCmpFunc_impl_Row__impl_RowsFor_1_acs (self : (List Row) → Int → Int → Int → Query → Option ((List Row))) (hself : ∀ {a0 : List Row} {a1 : Int} {a2 : Int} {a3 : Int} {a4c0v_Table : Int} {a4c0v_Where : List Cond} {a4c0v_Order : Int} {a4c0v_Down : Bool} {a4c0v_First : Int} {a4c0v_Show : List Int} {a4c0v_Kids : Bool} {a4c0v_KidTable : Int} {a4c0v_KidCol : Int} {r : (List Row)} (h : self a0 a1 a2 a3 (Query.mk a4c0v_Table a4c0v_Where a4c0v_Order a4c0v_Down a4c0v_First a4c0v_Show a4c0v_Kids a4c0v_KidTable a4c0v_KidCol) = some r), AC Try.prog 91 [.v (.ow 66 (rowsOf Row_o a0)), .v (.s (.int .i64 a1)), .v (.s (.int .i64 a2)), .v (.s (.int .i64 a3)), .v (.fn 40 [.ip [.s (.int .i64 a4c0v_Table), .im false (rowsOf Cond_c a4c0v_Where), .s (.int .i64 a4c0v_Order), .s (.bool a4c0v_Down), .s (.int .i64 a4c0v_First), .im false (rowsOf Int_c a4c0v_Show), .s (.bool a4c0v_Kids), .s (.int .i64 a4c0v_KidTable), .s (.int .i64 a4c0v_KidCol)]])] [.v (.ow 66 (rowsOf Row_o r)), .v (.jk), .v (.jk), .v (.jk), .v (.jk)] []) {a0 : List Row} {a1 : Int} {a2 : Int} {a3 : Int} {a4c0v_Table : Int} {a4c0v_Where : List Cond} {a4c0v_Order : Int} {a4c0v_Down : Bool} {a4c0v_First : Int} {a4c0v_Show : List Int} {a4c0v_Kids : Bool} {a4c0v_KidTable : Int} {a4c0v_KidCol : Int} {r : (List Row)} (h : slices_symMergeCmpFunc_impl_Row__impl_RowsFor_1.b self a0 a1 a2 a3 (Query.mk a4c0v_Table a4c0v_Where a4c0v_Order a4c0v_Down a4c0v_First a4c0v_Show a4c0v_Kids a4c0v_KidTable a4c0v_KidCol) = some r) : AC Try.prog 91 [.v (.ow 66 (rowsOf Row_o a0)), .v (.s (.int .i64 a1)), .v (.s (.int .i64 a2)), .v (.s (.int .i64 a3)), .v (.fn 40 [.ip [.s (.int .i64 a4c0v_Table), .im false (rowsOf Cond_c a4c0v_Where), .s (.int .i64 a4c0v_Order), .s (.bool a4c0v_Down), .s (.int .i64 a4c0v_First), .im false (rowsOf Int_c a4c0v_Show), .s (.bool a4c0v_Kids), .s (.int .i64 a4c0v_KidTable), .s (.int .i64 a4c0v_KidCol)]])] [.v (.ow 66 (rowsOf Row_o r)), .v (.jk), .v (.jk), .v (.jk), .v (.jk)] [] := by
  unfold slices_symMergeCmpFunc_impl_Row__impl_RowsFor_1.b at h
  let ar := Ls.ar; let cm := Ls.cm; let bo := Ls.bo; let sc := Ls.sc; let sa := Ls.sa; let sx := Ls.sx; let ss := Ls.ss; let sl := Ls.sl; let bs := Ls.bs; let sb := Ls.sb; let ln := Ls.ln; let sr := Ls.sr; let ap := Ls.ap; let up := Ls.up; let rp := Ls.rp; let fr := Ls.fr; let ge := Ls.ge; let le := Ls.le; let lt := Ls.lt; let nz := Ls.nz; let mm := Ls.mm; let ma := Ls.ma; let sm := Ls.sm; let fl := Ls.fl; let al := Ls.al; let ci := Ls.ci
  let eCond_c := rowsOf Cond_c
  let eInt_c := rowsOf Int_c
  let eRow_o := rowsOf Row_o
  have hL : (⟨ar, cm, bo, sc, sa, sx, ss, sl, bs, sb, ln, sr, ap, up, rp, fr, ge, le, lt, nz, mm, ma, sm, fl, al, ci⟩ : Lf) = Ls := rfl
  show AC Try.prog 91 [.v (.ow 66 (eRow_o a0)), .v (.s (.int .i64 a1)), .v (.s (.int .i64 a2)), .v (.s (.int .i64 a3)), .v (.fn 40 [.ip [.s (.int .i64 a4c0v_Table), .im false (eCond_c a4c0v_Where), .s (.int .i64 a4c0v_Order), .s (.bool a4c0v_Down), .s (.int .i64 a4c0v_First), .im false (eInt_c a4c0v_Show), .s (.bool a4c0v_Kids), .s (.int .i64 a4c0v_KidTable), .s (.int .i64 a4c0v_KidCol)]])] _ _
  refine AC.of_run2 tab_ok Try.func91 (by rfl) (by rfl) (by cbv) ⟨by decide, rfl⟩ fun F hP hA => ?_
  have hT : TabOk F.P tab := hP ▸ tab_ok
  have hM : F.P.follows .mixedOrders = true := hP ▸ mixed
  have hC : ∀ {f a o r}, AC Try.prog f a o r → AC F.P f a o r := fun h => hP ▸ h
  refine Run.weak ?_ (Weak.fnT 4 (by cbv))
  obtain ⟨K2, h_K2, h⟩ := joinE h
  refine Run.join1 K2 (r := r) (fun (y1 : Unit) => ⟨220, 100000, [(0, .rf 0), (1, .t (.s (.int .i64 a1))), (2, .t (.s (.int .i64 a2))), (3, .t (.s (.int .i64 a3))), (4, .fn 40 [.t (.ip [.s (.int .i64 a4c0v_Table), .im false (eCond_c a4c0v_Where), .s (.int .i64 a4c0v_Order), .s (.bool a4c0v_Down), .s (.int .i64 a4c0v_First), .im false (eInt_c a4c0v_Show), .s (.bool a4c0v_Kids), .s (.int .i64 a4c0v_KidTable), .s (.int .i64 a4c0v_KidCol)])])], [(0, .row 0 66 2 (eRow_o a0))]⟩) ?_ ?_
  · skip
    refine Run.seq ?_
    refine Run.region hL hT [] (by cbv) ?_ ?_
    · exact (hq trivial (hq trivial hq0))
    refine Run.cond (by cbv) (hq0) (fun c3 => ?_) (fun c3 => ?_)
    · have h := if_t c3 h
      refine Run.seq ?_
      refine Run.region hL hT [] (by cbv) ?_ ?_
      · exact hq0
      refine Run.seq ?_
      refine Run.region hL hT [] (by cbv) ?_ ?_
      · exact hq0
      obtain ⟨K5, h_K5, h⟩ := joinE h
      refine Run.join1 K5 (r := r) (fun (y4 : Int) => ⟨220, 100000, [(0, .rf 0), (1, .t (.s (.int .i64 a1))), (10, .t (.s (.int .i64 y4)))], [(0, .row 0 66 2 (eRow_o a0))]⟩) ?_ ?_
      · skip
        refine Run.block ?_
        refine Run.loop2 (fun (z19 : Int) (z20 : Int) => ⟨220, 100000, [(0, .rf 0), (1, .t (.s (.int .i64 a1))), (4, .fn 40 [.t (.ip [.s (.int .i64 a4c0v_Table), .im false (eCond_c a4c0v_Where), .s (.int .i64 a4c0v_Order), .s (.bool a4c0v_Down), .s (.int .i64 a4c0v_First), .im false (eInt_c a4c0v_Show), .s (.bool a4c0v_Kids), .s (.int .i64 a4c0v_KidTable), .s (.int .i64 a4c0v_KidCol)])]), (10, .t (.s (.int .i64 z19))), (11, .t (.s (.int .i64 z20)))], [(0, .row 0 66 2 (eRow_o a0))]⟩) (x0 := a2) (x1 := a3) h (Weak.of _ [(0, 0)] hA (by cbv) ?_) (fun _ _ => rfl) ?_
        · repeat (first | exact hq0 | refine hq (by first | exact True.intro | rfl) ?_)
        · intro k z19 z20 h
          rw [slices_symMergeCmpFunc_impl_Row__impl_RowsFor_1.l0] at h
          refine Run.seq ?_
          refine Run.seq ?_
          refine Run.region hL hT [] (by cbv) ?_ ?_
          · exact (hq trivial hq0)
          refine Run.cond (by cbv) (hq0) (fun c21 => ?_) (fun c21 => ?_)
          · have h := if_t c21 h
            refine Run.skip ?_
            refine Run.block ?_
            refine Run.seq ?_
            refine Run.region hL hT [] (by cbv) ?_ ?_
            · exact (hq trivial (hq trivial (hq trivial (hq (by decide : (0 : Int) ≤ 1) (hq (by decide : (1 : Int) < 64) hq0)))))
            refine Run.seq ?_
            obtain ⟨⟨x22v_Id, x22v_Cells⟩, h_x22, h⟩ := bnd h
            obtain ⟨⟨x23v_Id, x23v_Cells⟩, h_x23, h⟩ := bnd h
            obtain ⟨r24, h_r24, h⟩ := bnd h
            refine Run.draw hL hT hM [(4, .el [.s (.int .i64 x22v_Id), .ow 3 (eInt_c x22v_Cells)]), (8, .el [.s (.int .i64 x23v_Id), .ow 3 (eInt_c x23v_Cells)]), (9, .call [false, false] [.ag [.jk, .jk], .ag [.jk, .jk], .v (.jk)] [.v (.s (.int .i64 r24))])] (by cbv) (by cbv) (by cbv) (by cbv) (by cbv) ?_ ?_
            · exact (hq (get_le h_x22) (hq (get_lt (f := Row_o) h_x22) (hq (get_le h_x22) (hq (get_lt (f := Row_o) h_x22) (hq (get_ge (f := Row_o) h_x22) (hq (get_le h_x23) (hq (get_lt (f := Row_o) h_x23) (hq (get_le h_x23) (hq (get_lt (f := Row_o) h_x23) (hq (get_ge (f := Row_o) h_x23) (hq (hC (AC.args (impl_RowsFor_1_ac h_r24) (ALe.ag rfl (LLe.c (LLe.cons (LLe.im (RLe.eq (fr_row Int_c_z _))) LLe.nil)) (ALe.ag rfl (LLe.c (LLe.cons (LLe.im (RLe.eq (fr_row Int_c_z _))) LLe.nil)) (ALe.v LLe.r ALe.nil))))) (hq trivial hq0))))))))))))
            refine Run.cond (by cbv) (hq0) (fun c25 => ?_) (fun c25 => ?_)
            · have h := if_t c25 h
              refine Run.region hL hT [] (by cbv) ?_ ?_
              · exact (hq trivial hq0)
              refine ⟨(ar .add .i64 (ar .or .i64 (ar .shr .u64 (ar .or .u64 (ar .add .i64 z19 z20) 0) 1) 0) 1), z20, h, Weak.of _ [(0, 0)] hA (by cbv) ?_⟩
              repeat (first | exact hq0 | refine hq (by first | exact True.intro | rfl) ?_)
            · have h := if_f c25 h
              refine Run.region hL hT [] (by cbv) ?_ ?_
              · exact hq0
              refine ⟨z19, (ar .or .i64 (ar .shr .u64 (ar .or .u64 (ar .add .i64 z19 z20) 0) 1) 0), h, Weak.of _ [(0, 0)] hA (by cbv) ?_⟩
              repeat (first | exact hq0 | refine hq (by first | exact True.intro | rfl) ?_)
          · have h := if_f c21 h
            refine Run.exit ?_
            refine ⟨z19, h, Weak.of _ [(0, 0)] hA (by cbv) ?_⟩
            repeat (first | exact hq0 | refine hq (by first | exact True.intro | rfl) ?_)
      · intro y4 h
        rw [h_K5] at h
        refine Run.seq ?_
        refine Run.seq ?_
        refine Run.region hL hT [] (by cbv) ?_ ?_
        · exact hq0
        refine Run.block ?_
        refine Run.loop2 (fun (z29 : List Row) (z30 : Int) => ⟨220, 100000, [(0, .rf 0), (10, .t (.s (.int .i64 y4))), (13, .t (.s (.int .i64 z30)))], [(0, .row 0 66 2 (eRow_o z29))]⟩) (x0 := a0) (x1 := a1) h (Weak.of _ [(0, 0)] hA (by cbv) ?_) (fun _ _ => rfl) ?_
        · repeat (first | exact hq0 | refine hq (by first | exact True.intro | rfl) ?_)
        · intro k z29 z30 h
          rw [slices_symMergeCmpFunc_impl_Row__impl_RowsFor_1.l1] at h
          refine Run.seq ?_
          refine Run.seq ?_
          refine Run.region hL hT [] (by cbv) ?_ ?_
          · exact (hq trivial (hq trivial hq0))
          refine Run.cond (by cbv) (hq0) (fun c31 => ?_) (fun c31 => ?_)
          · have h := if_t c31 h
            refine Run.skip ?_
            refine Run.seq ?_
            refine Run.block ?_
            obtain ⟨⟨x32v_Id, x32v_Cells⟩, h_x32, h⟩ := bnd h
            obtain ⟨⟨x33v_Id, x33v_Cells⟩, h_x33, h⟩ := bnd h
            obtain ⟨u34, h_u34, h⟩ := bnd h
            obtain ⟨l35, h_l35, h⟩ := bnd h
            refine Run.weak ?_ (Weak.take2 (rows := eRow_o z29) (e2 := 3) (r1 := eInt_c x32v_Cells) (r2 := eInt_c x33v_Cells) hT 0 (ar .add .i64 z30 1) z30 1 107096 1107096 107097 1107097 (by cbv) (by cbv) (by cbv) (by cbv) (by cbv) (by cbv) (get_le' h_x32) (get_lt' Row_o h_x32) ((congrArg (fun q => q[1]?) (get_ge (f := Row_o) h_x32)).trans rfl) rfl (get_le' h_x33) (get_lt' Row_o h_x33) (ne_t h_u34) ((congrArg (fun q => q[1]?) (get_ge (f := Row_o) h_x33)).trans rfl) rfl (by cbv) (up (up (eRow_o z29) (ar .add .i64 z30 1) 1 [.jk]) z30 1 [.jk]) rfl)
            refine Run.draw hL hT hM [(9, .lk [.s (.int .i64 x32v_Id), .jk] [(1, 1107096)]), (13, .lk [.s (.int .i64 x33v_Id), .jk] [(1, 1107097)])] (by cbv) (by cbv) (by cbv) (by cbv) (by cbv) ?_ ?_
            · exact (hq trivial (hq trivial (hq (get_le h_x32) (hq (sw_lt Row_o h_x32) (hq trivial (hq (get_le h_x32) (hq (sw_lt Row_o h_x32) (hq (sw_ge1 Row_o h_x32 h_x33 (ne_t h_u34)) (hq (get_le h_x33) (hq (sw_lt Row_o h_x33) (hq trivial (hq (get_le h_x33) (hq (sw_lt Row_o h_x33) (hq (sw_ge2 Row_o h_x32 h_x33 (ne_t h_u34)) (hq (get_le h_x33) (hq (sw_lt Row_o h_x33) (hq (get_le h_x33) (hq (sw_lt Row_o h_x33) (hq (get_le h_x32) (hq (sw_lt3 Row_o h_x32) (hq (get_le h_x32) (hq (sw_lt3 Row_o h_x32) hq0))))))))))))))))))))))
            refine Run.row (rows := (up (up (up (up (eRow_o z29) (ar .add .i64 z30 1) 1 [.jk]) z30 1 [.jk]) z30 0 [.s (.int .i64 x32v_Id), .ow 3 (eInt_c x32v_Cells)]) (ar .add .i64 z30 1) 0 [.s (.int .i64 x33v_Id), .ow 3 (eInt_c x33v_Cells)])) 0 (eRow_o l35) (by cbv) (swap_le (f := Row_o) Row_o_n h_x32 h_x33 (ne_t h_u34) (by decide) (.inr ⟨rfl, rfl⟩) h_l35 rfl rfl) ?_
            refine Run.region hL hT [] (by cbv) ?_ ?_
            · exact (hq trivial hq0)
            refine ⟨l35, (ar .add .i64 z30 1), h, Weak.of _ [(0, 0)] hA (by cbv) ?_⟩
            repeat (first | exact hq0 | refine hq (by first | exact True.intro | rfl) ?_)
          · have h := if_f c31 h
            refine Run.exit ?_
            refine Run.ret ?_
            cases h
            refine ⟨_, _, by cbv, ?_, ?_⟩
            · exact LLe.r
            · exact ALe.nil
    · have h := if_f c3 h
      refine Run.skip ?_
      refine ⟨(), h, Weak.of _ [(0, 0)] hA (by cbv) ?_⟩
      repeat (first | exact hq0 | refine hq (by first | exact True.intro | rfl) ?_)
  · intro y1 h
    rw [h_K2] at h
    obtain ⟨K37, h_K37, h⟩ := joinE h
    refine Run.join1 K37 (r := r) (fun (y36 : Unit) => ⟨220, 100000, [(0, .rf 0), (1, .t (.s (.int .i64 a1))), (2, .t (.s (.int .i64 a2))), (3, .t (.s (.int .i64 a3))), (4, .fn 40 [.t (.ip [.s (.int .i64 a4c0v_Table), .im false (eCond_c a4c0v_Where), .s (.int .i64 a4c0v_Order), .s (.bool a4c0v_Down), .s (.int .i64 a4c0v_First), .im false (eInt_c a4c0v_Show), .s (.bool a4c0v_Kids), .s (.int .i64 a4c0v_KidTable), .s (.int .i64 a4c0v_KidCol)])])], [(0, .row 0 66 2 (eRow_o a0))]⟩) ?_ ?_
    · skip
      refine Run.seq ?_
      refine Run.region hL hT [] (by cbv) ?_ ?_
      · exact (hq trivial (hq trivial hq0))
      refine Run.cond (by cbv) (hq0) (fun c38 => ?_) (fun c38 => ?_)
      · have h := if_t c38 h
        refine Run.seq ?_
        refine Run.region hL hT [] (by cbv) ?_ ?_
        · exact hq0
        refine Run.seq ?_
        refine Run.region hL hT [] (by cbv) ?_ ?_
        · exact hq0
        obtain ⟨K40, h_K40, h⟩ := joinE h
        refine Run.join1 K40 (r := r) (fun (y39 : Int) => ⟨220, 100000, [(0, .rf 0), (2, .t (.s (.int .i64 a2))), (14, .t (.s (.int .i64 y39)))], [(0, .row 0 66 2 (eRow_o a0))]⟩) ?_ ?_
        · skip
          refine Run.block ?_
          refine Run.loop2 (fun (z54 : Int) (z55 : Int) => ⟨220, 100000, [(0, .rf 0), (2, .t (.s (.int .i64 a2))), (4, .fn 40 [.t (.ip [.s (.int .i64 a4c0v_Table), .im false (eCond_c a4c0v_Where), .s (.int .i64 a4c0v_Order), .s (.bool a4c0v_Down), .s (.int .i64 a4c0v_First), .im false (eInt_c a4c0v_Show), .s (.bool a4c0v_Kids), .s (.int .i64 a4c0v_KidTable), .s (.int .i64 a4c0v_KidCol)])]), (14, .t (.s (.int .i64 z54))), (15, .t (.s (.int .i64 z55)))], [(0, .row 0 66 2 (eRow_o a0))]⟩) (x0 := a1) (x1 := a2) h (Weak.of _ [(0, 0)] hA (by cbv) ?_) (fun _ _ => rfl) ?_
          · repeat (first | exact hq0 | refine hq (by first | exact True.intro | rfl) ?_)
          · intro k z54 z55 h
            rw [slices_symMergeCmpFunc_impl_Row__impl_RowsFor_1.l2] at h
            refine Run.seq ?_
            refine Run.seq ?_
            refine Run.region hL hT [] (by cbv) ?_ ?_
            · exact (hq trivial hq0)
            refine Run.cond (by cbv) (hq0) (fun c56 => ?_) (fun c56 => ?_)
            · have h := if_t c56 h
              refine Run.skip ?_
              refine Run.block ?_
              refine Run.seq ?_
              refine Run.region hL hT [] (by cbv) ?_ ?_
              · exact (hq trivial (hq trivial (hq trivial (hq (by decide : (0 : Int) ≤ 1) (hq (by decide : (1 : Int) < 64) hq0)))))
              refine Run.seq ?_
              obtain ⟨⟨x57v_Id, x57v_Cells⟩, h_x57, h⟩ := bnd h
              obtain ⟨⟨x58v_Id, x58v_Cells⟩, h_x58, h⟩ := bnd h
              obtain ⟨r59, h_r59, h⟩ := bnd h
              refine Run.draw hL hT hM [(4, .el [.s (.int .i64 x57v_Id), .ow 3 (eInt_c x57v_Cells)]), (8, .el [.s (.int .i64 x58v_Id), .ow 3 (eInt_c x58v_Cells)]), (9, .call [false, false] [.ag [.jk, .jk], .ag [.jk, .jk], .v (.jk)] [.v (.s (.int .i64 r59))])] (by cbv) (by cbv) (by cbv) (by cbv) (by cbv) ?_ ?_
              · exact (hq (get_le h_x57) (hq (get_lt (f := Row_o) h_x57) (hq (get_le h_x57) (hq (get_lt (f := Row_o) h_x57) (hq (get_ge (f := Row_o) h_x57) (hq (get_le h_x58) (hq (get_lt (f := Row_o) h_x58) (hq (get_le h_x58) (hq (get_lt (f := Row_o) h_x58) (hq (get_ge (f := Row_o) h_x58) (hq (hC (AC.args (impl_RowsFor_1_ac h_r59) (ALe.ag rfl (LLe.c (LLe.cons (LLe.im (RLe.eq (fr_row Int_c_z _))) LLe.nil)) (ALe.ag rfl (LLe.c (LLe.cons (LLe.im (RLe.eq (fr_row Int_c_z _))) LLe.nil)) (ALe.v LLe.r ALe.nil))))) (hq trivial hq0))))))))))))
              refine Run.cond (by cbv) (hq0) (fun c60 => ?_) (fun c60 => ?_)
              · have h := if_t c60 h
                refine Run.region hL hT [] (by cbv) ?_ ?_
                · exact (hq trivial hq0)
                refine ⟨(ar .add .i64 (ar .or .i64 (ar .shr .u64 (ar .or .u64 (ar .add .i64 z54 z55) 0) 1) 0) 1), z55, h, Weak.of _ [(0, 0)] hA (by cbv) ?_⟩
                repeat (first | exact hq0 | refine hq (by first | exact True.intro | rfl) ?_)
              · have h := if_f c60 h
                refine Run.region hL hT [] (by cbv) ?_ ?_
                · exact hq0
                refine ⟨z54, (ar .or .i64 (ar .shr .u64 (ar .or .u64 (ar .add .i64 z54 z55) 0) 1) 0), h, Weak.of _ [(0, 0)] hA (by cbv) ?_⟩
                repeat (first | exact hq0 | refine hq (by first | exact True.intro | rfl) ?_)
            · have h := if_f c56 h
              refine Run.exit ?_
              refine ⟨z54, h, Weak.of _ [(0, 0)] hA (by cbv) ?_⟩
              repeat (first | exact hq0 | refine hq (by first | exact True.intro | rfl) ?_)
        · intro y39 h
          rw [h_K40] at h
          refine Run.seq ?_
          refine Run.seq ?_
          refine Run.region hL hT [] (by cbv) ?_ ?_
          · exact hq0
          refine Run.block ?_
          refine Run.loop2 (fun (z64 : List Row) (z65 : Int) => ⟨220, 100000, [(0, .rf 0), (14, .t (.s (.int .i64 y39))), (17, .t (.s (.int .i64 z65)))], [(0, .row 0 66 2 (eRow_o z64))]⟩) (x0 := a0) (x1 := a2) h (Weak.of _ [(0, 0)] hA (by cbv) ?_) (fun _ _ => rfl) ?_
          · repeat (first | exact hq0 | refine hq (by first | exact True.intro | rfl) ?_)
          · intro k z64 z65 h
            rw [slices_symMergeCmpFunc_impl_Row__impl_RowsFor_1.l3] at h
            refine Run.seq ?_
            refine Run.seq ?_
            refine Run.region hL hT [] (by cbv) ?_ ?_
            · exact (hq trivial hq0)
            refine Run.cond (by cbv) (hq0) (fun c66 => ?_) (fun c66 => ?_)
            · have h := if_t c66 h
              refine Run.skip ?_
              refine Run.seq ?_
              refine Run.block ?_
              obtain ⟨⟨x67v_Id, x67v_Cells⟩, h_x67, h⟩ := bnd h
              obtain ⟨⟨x68v_Id, x68v_Cells⟩, h_x68, h⟩ := bnd h
              obtain ⟨u69, h_u69, h⟩ := bnd h
              obtain ⟨l70, h_l70, h⟩ := bnd h
              refine Run.weak ?_ (Weak.take2 (rows := eRow_o z64) (e2 := 3) (r1 := eInt_c x67v_Cells) (r2 := eInt_c x68v_Cells) hT 0 (ar .sub .i64 z65 1) z65 1 107096 1107096 107097 1107097 (by cbv) (by cbv) (by cbv) (by cbv) (by cbv) (by cbv) (get_le' h_x67) (get_lt' Row_o h_x67) ((congrArg (fun q => q[1]?) (get_ge (f := Row_o) h_x67)).trans rfl) rfl (get_le' h_x68) (get_lt' Row_o h_x68) (ne_t h_u69) ((congrArg (fun q => q[1]?) (get_ge (f := Row_o) h_x68)).trans rfl) rfl (by cbv) (up (up (eRow_o z64) (ar .sub .i64 z65 1) 1 [.jk]) z65 1 [.jk]) rfl)
              refine Run.draw hL hT hM [(9, .lk [.s (.int .i64 x67v_Id), .jk] [(1, 1107096)]), (13, .lk [.s (.int .i64 x68v_Id), .jk] [(1, 1107097)])] (by cbv) (by cbv) (by cbv) (by cbv) (by cbv) ?_ ?_
              · exact (hq trivial (hq trivial (hq (get_le h_x67) (hq (sw_lt Row_o h_x67) (hq trivial (hq (get_le h_x67) (hq (sw_lt Row_o h_x67) (hq (sw_ge1 Row_o h_x67 h_x68 (ne_t h_u69)) (hq (get_le h_x68) (hq (sw_lt Row_o h_x68) (hq trivial (hq (get_le h_x68) (hq (sw_lt Row_o h_x68) (hq (sw_ge2 Row_o h_x67 h_x68 (ne_t h_u69)) (hq (get_le h_x68) (hq (sw_lt Row_o h_x68) (hq (get_le h_x68) (hq (sw_lt Row_o h_x68) (hq (get_le h_x67) (hq (sw_lt3 Row_o h_x67) (hq (get_le h_x67) (hq (sw_lt3 Row_o h_x67) hq0))))))))))))))))))))))
              refine Run.row (rows := (up (up (up (up (eRow_o z64) (ar .sub .i64 z65 1) 1 [.jk]) z65 1 [.jk]) z65 0 [.s (.int .i64 x67v_Id), .ow 3 (eInt_c x67v_Cells)]) (ar .sub .i64 z65 1) 0 [.s (.int .i64 x68v_Id), .ow 3 (eInt_c x68v_Cells)])) 0 (eRow_o l70) (by cbv) (swap_le (f := Row_o) Row_o_n h_x67 h_x68 (ne_t h_u69) (by decide) (.inr ⟨rfl, rfl⟩) h_l70 rfl rfl) ?_
              refine Run.region hL hT [] (by cbv) ?_ ?_
              · exact (hq trivial hq0)
              refine ⟨l70, (ar .sub .i64 z65 1), h, Weak.of _ [(0, 0)] hA (by cbv) ?_⟩
              repeat (first | exact hq0 | refine hq (by first | exact True.intro | rfl) ?_)
            · have h := if_f c66 h
              refine Run.exit ?_
              refine Run.ret ?_
              cases h
              refine ⟨_, _, by cbv, ?_, ?_⟩
              · exact LLe.r
              · exact ALe.nil
      · have h := if_f c38 h
        refine Run.skip ?_
        refine ⟨(), h, Weak.of _ [(0, 0)] hA (by cbv) ?_⟩
        repeat (first | exact hq0 | refine hq (by first | exact True.intro | rfl) ?_)
    · intro y36 h
      rw [h_K37] at h
      refine Run.seq ?_
      refine Run.region hL hT [] (by cbv) ?_ ?_
      · exact (hq trivial (hq trivial (hq trivial (hq (by decide : (0 : Int) ≤ 1) (hq (by decide : (1 : Int) < 64) hq0)))))
      refine Run.seq ?_
      refine Run.region hL hT [] (by cbv) ?_ ?_
      · exact (hq trivial hq0)
      refine Run.seq ?_
      refine Run.region hL hT [] (by cbv) ?_ ?_
      · exact hq0
      obtain ⟨K75, h_K75, h⟩ := joinE h
      refine Run.join4 K75 (r := r) (fun (y71 : Int) (y72 : Int) (y73 : Int) (y74 : Int) => ⟨220, 100000, [(0, .rf 0), (1, .t (.s (.int .i64 a1))), (2, .t (.s (.int .i64 a2))), (3, .t (.s (.int .i64 a3))), (4, .fn 40 [.t (.ip [.s (.int .i64 a4c0v_Table), .im false (eCond_c a4c0v_Where), .s (.int .i64 a4c0v_Order), .s (.bool a4c0v_Down), .s (.int .i64 a4c0v_First), .im false (eInt_c a4c0v_Show), .s (.bool a4c0v_Kids), .s (.int .i64 a4c0v_KidTable), .s (.int .i64 a4c0v_KidCol)])]), (18, .t (.s (.int .i64 y71))), (19, .t (.s (.int .i64 y72))), (20, .t (.s (.int .i64 y73))), (21, .t (.s (.int .i64 y74)))], [(0, .row 0 66 2 (eRow_o a0))]⟩) ?_ ?_
      · skip
        refine Run.seq ?_
        refine Run.region hL hT [] (by cbv) ?_ ?_
        · exact (hq trivial hq0)
        refine Run.cond (by cbv) (hq0) (fun c76 => ?_) (fun c76 => ?_)
        · have h := if_t c76 h
          refine Run.seq ?_
          refine Run.region hL hT [] (by cbv) ?_ ?_
          · exact (hq trivial hq0)
          refine Run.region hL hT [] (by cbv) ?_ ?_
          · exact hq0
          refine ⟨(ar .or .i64 (ar .shr .u64 (ar .or .u64 (ar .add .i64 a1 a3) 0) 1) 0), (ar .add .i64 (ar .or .i64 (ar .shr .u64 (ar .or .u64 (ar .add .i64 a1 a3) 0) 1) 0) a2), (ar .sub .i64 (ar .add .i64 (ar .or .i64 (ar .shr .u64 (ar .or .u64 (ar .add .i64 a1 a3) 0) 1) 0) a2) a3), (ar .or .i64 (ar .shr .u64 (ar .or .u64 (ar .add .i64 a1 a3) 0) 1) 0), h, Weak.of _ [(0, 0)] hA (by cbv) ?_⟩
          repeat (first | exact hq0 | refine hq (by first | exact True.intro | rfl) ?_)
        · have h := if_f c76 h
          refine Run.seq ?_
          refine Run.region hL hT [] (by cbv) ?_ ?_
          · exact hq0
          refine Run.region hL hT [] (by cbv) ?_ ?_
          · exact hq0
          refine ⟨(ar .or .i64 (ar .shr .u64 (ar .or .u64 (ar .add .i64 a1 a3) 0) 1) 0), (ar .add .i64 (ar .or .i64 (ar .shr .u64 (ar .or .u64 (ar .add .i64 a1 a3) 0) 1) 0) a2), a1, a2, h, Weak.of _ [(0, 0)] hA (by cbv) ?_⟩
          repeat (first | exact hq0 | refine hq (by first | exact True.intro | rfl) ?_)
      · intro y71 y72 y73 y74 h
        rw [h_K75] at h
        refine Run.seq ?_
        refine Run.region hL hT [] (by cbv) ?_ ?_
        · exact (hq trivial hq0)
        obtain ⟨K78, h_K78, h⟩ := joinE h
        refine Run.join1 K78 (r := r) (fun (y77 : Int) => ⟨220, 100000, [(0, .rf 0), (1, .t (.s (.int .i64 a1))), (2, .t (.s (.int .i64 a2))), (3, .t (.s (.int .i64 a3))), (4, .fn 40 [.t (.ip [.s (.int .i64 a4c0v_Table), .im false (eCond_c a4c0v_Where), .s (.int .i64 a4c0v_Order), .s (.bool a4c0v_Down), .s (.int .i64 a4c0v_First), .im false (eInt_c a4c0v_Show), .s (.bool a4c0v_Kids), .s (.int .i64 a4c0v_KidTable), .s (.int .i64 a4c0v_KidCol)])]), (18, .t (.s (.int .i64 y71))), (19, .t (.s (.int .i64 y72))), (20, .t (.s (.int .i64 y77)))], [(0, .row 0 66 2 (eRow_o a0))]⟩) ?_ ?_
        · skip
          refine Run.block ?_
          refine Run.loop3 (fun (z97 : Int) (z98 : Int) (z99 : Int) => ⟨220, 100000, [(0, .rf 0), (1, .t (.s (.int .i64 a1))), (2, .t (.s (.int .i64 a2))), (3, .t (.s (.int .i64 a3))), (4, .fn 40 [.t (.ip [.s (.int .i64 a4c0v_Table), .im false (eCond_c a4c0v_Where), .s (.int .i64 a4c0v_Order), .s (.bool a4c0v_Down), .s (.int .i64 a4c0v_First), .im false (eInt_c a4c0v_Show), .s (.bool a4c0v_Kids), .s (.int .i64 a4c0v_KidTable), .s (.int .i64 a4c0v_KidCol)])]), (18, .t (.s (.int .i64 y71))), (19, .t (.s (.int .i64 y72))), (20, .t (.s (.int .i64 z97))), (21, .t (.s (.int .i64 z98))), (22, .t (.s (.int .i64 z99)))], [(0, .row 0 66 2 (eRow_o a0))]⟩) (x0 := y73) (x1 := y74) (x2 := (ar .sub .i64 y72 1)) h (Weak.of _ [(0, 0)] hA (by cbv) ?_) (fun _ _ _ => rfl) ?_
          · repeat (first | exact hq0 | refine hq (by first | exact True.intro | rfl) ?_)
          · intro k z97 z98 z99 h
            rw [slices_symMergeCmpFunc_impl_Row__impl_RowsFor_1.l4] at h
            refine Run.seq ?_
            refine Run.seq ?_
            refine Run.region hL hT [] (by cbv) ?_ ?_
            · exact (hq trivial hq0)
            refine Run.cond (by cbv) (hq0) (fun c100 => ?_) (fun c100 => ?_)
            · have h := if_t c100 h
              refine Run.skip ?_
              refine Run.block ?_
              refine Run.seq ?_
              refine Run.region hL hT [] (by cbv) ?_ ?_
              · exact (hq trivial (hq trivial (hq trivial (hq (by decide : (0 : Int) ≤ 1) (hq (by decide : (1 : Int) < 64) hq0)))))
              refine Run.seq ?_
              obtain ⟨⟨x101v_Id, x101v_Cells⟩, h_x101, h⟩ := bnd h
              obtain ⟨⟨x102v_Id, x102v_Cells⟩, h_x102, h⟩ := bnd h
              obtain ⟨r103, h_r103, h⟩ := bnd h
              refine Run.draw hL hT hM [(6, .el [.s (.int .i64 x101v_Id), .ow 3 (eInt_c x101v_Cells)]), (10, .el [.s (.int .i64 x102v_Id), .ow 3 (eInt_c x102v_Cells)]), (11, .call [false, false] [.ag [.jk, .jk], .ag [.jk, .jk], .v (.jk)] [.v (.s (.int .i64 r103))])] (by cbv) (by cbv) (by cbv) (by cbv) (by cbv) ?_ ?_
              · exact (hq trivial (hq (get_le h_x101) (hq (get_lt (f := Row_o) h_x101) (hq (get_le h_x101) (hq (get_lt (f := Row_o) h_x101) (hq (get_ge (f := Row_o) h_x101) (hq (get_le h_x102) (hq (get_lt (f := Row_o) h_x102) (hq (get_le h_x102) (hq (get_lt (f := Row_o) h_x102) (hq (get_ge (f := Row_o) h_x102) (hq (hC (AC.args (impl_RowsFor_1_ac h_r103) (ALe.ag rfl (LLe.c (LLe.cons (LLe.im (RLe.eq (fr_row Int_c_z _))) LLe.nil)) (ALe.ag rfl (LLe.c (LLe.cons (LLe.im (RLe.eq (fr_row Int_c_z _))) LLe.nil)) (ALe.v LLe.r ALe.nil))))) (hq trivial hq0)))))))))))))
              refine Run.cond (by cbv) (hq0) (fun c104 => ?_) (fun c104 => ?_)
              · have h := if_t c104 h
                refine Run.region hL hT [] (by cbv) ?_ ?_
                · exact (hq trivial hq0)
                refine ⟨(ar .add .i64 (ar .or .i64 (ar .shr .u64 (ar .or .u64 (ar .add .i64 z97 z98) 0) 1) 0) 1), z98, z99, h, Weak.of _ [(0, 0)] hA (by cbv) ?_⟩
                repeat (first | exact hq0 | refine hq (by first | exact True.intro | rfl) ?_)
              · have h := if_f c104 h
                refine Run.region hL hT [] (by cbv) ?_ ?_
                · exact hq0
                refine ⟨z97, (ar .or .i64 (ar .shr .u64 (ar .or .u64 (ar .add .i64 z97 z98) 0) 1) 0), z99, h, Weak.of _ [(0, 0)] hA (by cbv) ?_⟩
                repeat (first | exact hq0 | refine hq (by first | exact True.intro | rfl) ?_)
            · have h := if_f c100 h
              refine Run.exit ?_
              refine ⟨z97, h, Weak.of _ [(0, 0)] hA (by cbv) ?_⟩
              repeat (first | exact hq0 | refine hq (by first | exact True.intro | rfl) ?_)
        · intro y77 h
          rw [h_K78] at h
          refine Run.seq ?_
          refine Run.region hL hT [] (by cbv) ?_ ?_
          · exact (hq trivial hq0)
          obtain ⟨K107, h_K107, h⟩ := joinE h
          refine Run.join2 K107 (r := r) (fun (y105 : List Row) (y106 : Int) => ⟨220, 100000, [(0, .rf 0), (1, .t (.s (.int .i64 a1))), (3, .t (.s (.int .i64 a3))), (4, .fn 40 [.t (.ip [.s (.int .i64 a4c0v_Table), .im false (eCond_c a4c0v_Where), .s (.int .i64 a4c0v_Order), .s (.bool a4c0v_Down), .s (.int .i64 a4c0v_First), .im false (eInt_c a4c0v_Show), .s (.bool a4c0v_Kids), .s (.int .i64 a4c0v_KidTable), .s (.int .i64 a4c0v_KidCol)])]), (18, .t (.s (.int .i64 y71))), (20, .t (.s (.int .i64 y77))), (24, .t (.s (.int .i64 y106)))], [(0, .row 0 66 2 (eRow_o y105))]⟩) ?_ ?_
          · skip
            refine Run.seq ?_
            refine Run.region hL hT [] (by cbv) ?_ ?_
            · exact (hq trivial (hq (fun _ => hq0) (hq (fun _ => hq0) (hq (fun g110 => (hq g110 (hq g110 (hq trivial hq0)))) (hq (fun q111 => (hq q111 hq0)) (hq (fun _ => hq0) hq0))))))
            refine Run.cond (by cbv) (hq0) (fun c113 => ?_) (fun c113 => ?_)
            · have h := if_t c113 h
              obtain ⟨r114, h_r114, h⟩ := bnd h
              refine Run.region hL hT [(5, .call [true, false, false, false, false] [.v (.ow 66 (eRow_o r114)), .v (.jk), .v (.jk), .v (.jk), .v (.jk)] [])] (by cbv) ?_ ?_
              · exact (hq (hC (slices_rotateCmpFunc_impl_Row__impl_RowsFor_1_ac h_r114)) hq0)
              refine ⟨r114, (ar .sub .i64 y72 y77), h, Weak.of _ [(0, 0)] hA (by cbv) ?_⟩
              repeat (first | exact hq0 | refine hq (by first | exact True.intro | rfl) ?_)
            · have h := if_f c113 h
              refine Run.skip ?_
              refine ⟨a0, (ar .sub .i64 y72 y77), h, Weak.of _ [(0, 0)] hA (by cbv) ?_⟩
              repeat (first | exact hq0 | refine hq (by first | exact True.intro | rfl) ?_)
          · intro y105 y106 h
            rw [h_K107] at h
            obtain ⟨K116, h_K116, h⟩ := joinE h
            refine Run.join1 K116 (r := r) (fun (y115 : List Row) => ⟨220, 100000, [(0, .rf 0), (3, .t (.s (.int .i64 a3))), (4, .fn 40 [.t (.ip [.s (.int .i64 a4c0v_Table), .im false (eCond_c a4c0v_Where), .s (.int .i64 a4c0v_Order), .s (.bool a4c0v_Down), .s (.int .i64 a4c0v_First), .im false (eInt_c a4c0v_Show), .s (.bool a4c0v_Kids), .s (.int .i64 a4c0v_KidTable), .s (.int .i64 a4c0v_KidCol)])]), (18, .t (.s (.int .i64 y71))), (24, .t (.s (.int .i64 y106)))], [(0, .row 0 66 2 (eRow_o y115))]⟩) ?_ ?_
            · skip
              refine Run.seq ?_
              refine Run.region hL hT [] (by cbv) ?_ ?_
              · exact (hq trivial (hq (fun _ => hq0) (hq (fun _ => hq0) (hq (fun g119 => (hq g119 (hq g119 (hq trivial hq0)))) (hq (fun q120 => (hq q120 hq0)) (hq (fun _ => hq0) hq0))))))
              refine Run.cond (by cbv) (hq0) (fun c122 => ?_) (fun c122 => ?_)
              · have h := if_t c122 h
                obtain ⟨r123, h_r123, h⟩ := bnd h
                refine Run.region hL hT [(5, .call [true, false, false, false, false] [.v (.ow 66 (eRow_o r123)), .v (.jk), .v (.jk), .v (.jk), .v (.jk)] [])] (by cbv) ?_ ?_
                · exact (hq (hC (hself h_r123)) hq0)
                refine ⟨r123, h, Weak.of _ [(0, 0)] hA (by cbv) ?_⟩
                repeat (first | exact hq0 | refine hq (by first | exact True.intro | rfl) ?_)
              · have h := if_f c122 h
                refine Run.skip ?_
                refine ⟨y105, h, Weak.of _ [(0, 0)] hA (by cbv) ?_⟩
                repeat (first | exact hq0 | refine hq (by first | exact True.intro | rfl) ?_)
            · intro y115 h
              rw [h_K116] at h
              refine Run.seq ?_
              refine Run.region hL hT [] (by cbv) ?_ ?_
              · exact (hq trivial (hq (fun _ => hq0) (hq (fun _ => hq0) (hq (fun g126 => (hq g126 (hq g126 (hq trivial hq0)))) (hq (fun q127 => (hq q127 hq0)) (hq (fun _ => hq0) hq0))))))
              refine Run.cond (by cbv) (hq0) (fun c129 => ?_) (fun c129 => ?_)
              · have h := if_t c129 h
                obtain ⟨r130, h_r130, h⟩ := bnd h
                refine Run.region hL hT [(5, .call [true, false, false, false, false] [.v (.ow 66 (eRow_o r130)), .v (.jk), .v (.jk), .v (.jk), .v (.jk)] [])] (by cbv) ?_ ?_
                · exact (hq (hC (hself h_r130)) hq0)
                cases h
                refine ⟨_, _, by cbv, ?_, ?_⟩
                · exact LLe.r
                · exact ALe.nil
              · have h := if_f c129 h
                refine Run.skip ?_
                cases h
                refine ⟨_, _, by cbv, ?_, ?_⟩
                · exact LLe.r
                · exact ALe.nil
theorem slices_symMergeCmpFunc_impl_Row__impl_RowsFor_1_acg : ∀ (k : Nat) {a0 : List Row} {a1 : Int} {a2 : Int} {a3 : Int} {a4c0v_Table : Int} {a4c0v_Where : List Cond} {a4c0v_Order : Int} {a4c0v_Down : Bool} {a4c0v_First : Int} {a4c0v_Show : List Int} {a4c0v_Kids : Bool} {a4c0v_KidTable : Int} {a4c0v_KidCol : Int} {r : (List Row)} (h : slices_symMergeCmpFunc_impl_Row__impl_RowsFor_1.g k a0 a1 a2 a3 (Query.mk a4c0v_Table a4c0v_Where a4c0v_Order a4c0v_Down a4c0v_First a4c0v_Show a4c0v_Kids a4c0v_KidTable a4c0v_KidCol) = some r), AC Try.prog 91 [.v (.ow 66 (rowsOf Row_o a0)), .v (.s (.int .i64 a1)), .v (.s (.int .i64 a2)), .v (.s (.int .i64 a3)), .v (.fn 40 [.ip [.s (.int .i64 a4c0v_Table), .im false (rowsOf Cond_c a4c0v_Where), .s (.int .i64 a4c0v_Order), .s (.bool a4c0v_Down), .s (.int .i64 a4c0v_First), .im false (rowsOf Int_c a4c0v_Show), .s (.bool a4c0v_Kids), .s (.int .i64 a4c0v_KidTable), .s (.int .i64 a4c0v_KidCol)]])] [.v (.ow 66 (rowsOf Row_o r)), .v (.jk), .v (.jk), .v (.jk), .v (.jk)] []
  | 0 => fun h => by cases h
  | k + 1 => fun h => slices_symMergeCmpFunc_impl_Row__impl_RowsFor_1_acs (slices_symMergeCmpFunc_impl_Row__impl_RowsFor_1.g k) (slices_symMergeCmpFunc_impl_Row__impl_RowsFor_1_acg k) h
theorem slices_symMergeCmpFunc_impl_Row__impl_RowsFor_1_ac {a0 : List Row} {a1 : Int} {a2 : Int} {a3 : Int} {a4c0v_Table : Int} {a4c0v_Where : List Cond} {a4c0v_Order : Int} {a4c0v_Down : Bool} {a4c0v_First : Int} {a4c0v_Show : List Int} {a4c0v_Kids : Bool} {a4c0v_KidTable : Int} {a4c0v_KidCol : Int} {r : (List Row)} (h : slices_symMergeCmpFunc_impl_Row__impl_RowsFor_1.f a0 a1 a2 a3 (Query.mk a4c0v_Table a4c0v_Where a4c0v_Order a4c0v_Down a4c0v_First a4c0v_Show a4c0v_Kids a4c0v_KidTable a4c0v_KidCol) = some r) : AC Try.prog 91 [.v (.ow 66 (rowsOf Row_o a0)), .v (.s (.int .i64 a1)), .v (.s (.int .i64 a2)), .v (.s (.int .i64 a3)), .v (.fn 40 [.ip [.s (.int .i64 a4c0v_Table), .im false (rowsOf Cond_c a4c0v_Where), .s (.int .i64 a4c0v_Order), .s (.bool a4c0v_Down), .s (.int .i64 a4c0v_First), .im false (rowsOf Int_c a4c0v_Show), .s (.bool a4c0v_Kids), .s (.int .i64 a4c0v_KidTable), .s (.int .i64 a4c0v_KidCol)]])] [.v (.ow 66 (rowsOf Row_o r)), .v (.jk), .v (.jk), .v (.jk), .v (.jk)] [] := slices_symMergeCmpFunc_impl_Row__impl_RowsFor_1_acg 1000 h

set_option maxRecDepth 8000 in
theorem slices_stableCmpFunc_impl_Row__impl_RowsFor_1_ac {a0 : List Row} {a1 : Int} {a2c0v_Table : Int} {a2c0v_Where : List Cond} {a2c0v_Order : Int} {a2c0v_Down : Bool} {a2c0v_First : Int} {a2c0v_Show : List Int} {a2c0v_Kids : Bool} {a2c0v_KidTable : Int} {a2c0v_KidCol : Int} {r : (List Row)} (h : slices_stableCmpFunc_impl_Row__impl_RowsFor_1.f a0 a1 (Query.mk a2c0v_Table a2c0v_Where a2c0v_Order a2c0v_Down a2c0v_First a2c0v_Show a2c0v_Kids a2c0v_KidTable a2c0v_KidCol) = some r) : AC Try.prog 78 [.v (.ow 66 (rowsOf Row_o a0)), .v (.s (.int .i64 a1)), .v (.fn 40 [.ip [.s (.int .i64 a2c0v_Table), .im false (rowsOf Cond_c a2c0v_Where), .s (.int .i64 a2c0v_Order), .s (.bool a2c0v_Down), .s (.int .i64 a2c0v_First), .im false (rowsOf Int_c a2c0v_Show), .s (.bool a2c0v_Kids), .s (.int .i64 a2c0v_KidTable), .s (.int .i64 a2c0v_KidCol)]])] [.v (.ow 66 (rowsOf Row_o r)), .v (.jk), .v (.jk)] [] := by
  unfold slices_stableCmpFunc_impl_Row__impl_RowsFor_1.f at h
  let ar := Ls.ar; let cm := Ls.cm; let bo := Ls.bo; let sc := Ls.sc; let sa := Ls.sa; let sx := Ls.sx; let ss := Ls.ss; let sl := Ls.sl; let bs := Ls.bs; let sb := Ls.sb; let ln := Ls.ln; let sr := Ls.sr; let ap := Ls.ap; let up := Ls.up; let rp := Ls.rp; let fr := Ls.fr; let ge := Ls.ge; let le := Ls.le; let lt := Ls.lt; let nz := Ls.nz; let mm := Ls.mm; let ma := Ls.ma; let sm := Ls.sm; let fl := Ls.fl; let al := Ls.al; let ci := Ls.ci
  let eCond_c := rowsOf Cond_c
  let eInt_c := rowsOf Int_c
  let eRow_o := rowsOf Row_o
  have hL : (⟨ar, cm, bo, sc, sa, sx, ss, sl, bs, sb, ln, sr, ap, up, rp, fr, ge, le, lt, nz, mm, ma, sm, fl, al, ci⟩ : Lf) = Ls := rfl
  show AC Try.prog 78 [.v (.ow 66 (eRow_o a0)), .v (.s (.int .i64 a1)), .v (.fn 40 [.ip [.s (.int .i64 a2c0v_Table), .im false (eCond_c a2c0v_Where), .s (.int .i64 a2c0v_Order), .s (.bool a2c0v_Down), .s (.int .i64 a2c0v_First), .im false (eInt_c a2c0v_Show), .s (.bool a2c0v_Kids), .s (.int .i64 a2c0v_KidTable), .s (.int .i64 a2c0v_KidCol)]])] _ _
  refine AC.of_run2 tab_ok Try.func78 (by rfl) (by rfl) (by cbv) ⟨by decide, rfl⟩ fun F hP hA => ?_
  have hT : TabOk F.P tab := hP ▸ tab_ok
  have hM : F.P.follows .mixedOrders = true := hP ▸ mixed
  have hC : ∀ {f a o r}, AC Try.prog f a o r → AC F.P f a o r := fun h => hP ▸ h
  refine Run.weak ?_ (Weak.fnT 2 (by cbv))
  refine Run.seq ?_
  refine Run.region hL hT [] (by cbv) ?_ ?_
  · exact hq0
  refine Run.seq ?_
  refine Run.region hL hT [] (by cbv) ?_ ?_
  · exact hq0
  obtain ⟨K3, h_K3, h⟩ := joinE h
  refine Run.join2 K3 (r := r) (fun (y1 : List Row) (y2 : Int) => ⟨63, 100000, [(0, .rf 0), (1, .t (.s (.int .i64 a1))), (2, .fn 40 [.t (.ip [.s (.int .i64 a2c0v_Table), .im false (eCond_c a2c0v_Where), .s (.int .i64 a2c0v_Order), .s (.bool a2c0v_Down), .s (.int .i64 a2c0v_First), .im false (eInt_c a2c0v_Show), .s (.bool a2c0v_Kids), .s (.int .i64 a2c0v_KidTable), .s (.int .i64 a2c0v_KidCol)])]), (6, .t (.s (.int .i64 20))), (7, .t (.s (.int .i64 y2)))], [(0, .row 0 66 2 (eRow_o y1))]⟩) ?_ ?_
  · skip
    refine Run.block ?_
    refine Run.loop3 (fun (z18 : List Row) (z19 : Int) (z20 : Int) => ⟨63, 100000, [(0, .rf 0), (1, .t (.s (.int .i64 a1))), (2, .fn 40 [.t (.ip [.s (.int .i64 a2c0v_Table), .im false (eCond_c a2c0v_Where), .s (.int .i64 a2c0v_Order), .s (.bool a2c0v_Down), .s (.int .i64 a2c0v_First), .im false (eInt_c a2c0v_Show), .s (.bool a2c0v_Kids), .s (.int .i64 a2c0v_KidTable), .s (.int .i64 a2c0v_KidCol)])]), (6, .t (.s (.int .i64 20))), (7, .t (.s (.int .i64 z19))), (8, .t (.s (.int .i64 z20)))], [(0, .row 0 66 2 (eRow_o z18))]⟩) (x0 := a0) (x1 := 0) (x2 := 20) h (Weak.of _ [(0, 0)] hA (by cbv) ?_) (fun _ _ _ => rfl) ?_
    · repeat (first | exact hq0 | refine hq (by first | exact True.intro | rfl) ?_)
    · intro k z18 z19 z20 h
      rw [slices_stableCmpFunc_impl_Row__impl_RowsFor_1.l0] at h
      refine Run.seq ?_
      refine Run.seq ?_
      refine Run.region hL hT [] (by cbv) ?_ ?_
      · exact (hq trivial hq0)
      refine Run.cond (by cbv) (hq0) (fun c21 => ?_) (fun c21 => ?_)
      · have h := if_t c21 h
        refine Run.skip ?_
        refine Run.block ?_
        refine Run.seq ?_
        obtain ⟨r22, h_r22, h⟩ := bnd h
        refine Run.region hL hT [(4, .call [true, false, false, false] [.v (.ow 66 (eRow_o r22)), .v (.jk), .v (.jk), .v (.jk)] [])] (by cbv) ?_ ?_
        · exact (hq (hC (slices_insertionSortCmpFunc_impl_Row__impl_RowsFor_1_ac h_r22)) hq0)
        refine Run.seq ?_
        refine Run.region hL hT [] (by cbv) ?_ ?_
        · exact hq0
        refine Run.region hL hT [] (by cbv) ?_ ?_
        · exact (hq trivial hq0)
        refine ⟨r22, z20, (ar .add .i64 z20 20), h, Weak.of _ [(0, 0)] hA (by cbv) ?_⟩
        repeat (first | exact hq0 | refine hq (by first | exact True.intro | rfl) ?_)
      · have h := if_f c21 h
        refine Run.exit ?_
        refine ⟨z18, z19, h, Weak.of _ [(0, 0)] hA (by cbv) ?_⟩
        repeat (first | exact hq0 | refine hq (by first | exact True.intro | rfl) ?_)
  · intro y1 y2 h
    rw [h_K3] at h
    refine Run.seq ?_
    obtain ⟨r23, h_r23, h⟩ := bnd h
    refine Run.region hL hT [(4, .call [true, false, false, false] [.v (.ow 66 (eRow_o r23)), .v (.jk), .v (.jk), .v (.jk)] [])] (by cbv) ?_ ?_
    · exact (hq (hC (slices_insertionSortCmpFunc_impl_Row__impl_RowsFor_1_ac h_r23)) hq0)
    refine Run.block ?_
    refine Run.loop2 (fun (z36 : List Row) (z37 : Int) => ⟨63, 100000, [(0, .rf 0), (1, .t (.s (.int .i64 a1))), (2, .fn 40 [.t (.ip [.s (.int .i64 a2c0v_Table), .im false (eCond_c a2c0v_Where), .s (.int .i64 a2c0v_Order), .s (.bool a2c0v_Down), .s (.int .i64 a2c0v_First), .im false (eInt_c a2c0v_Show), .s (.bool a2c0v_Kids), .s (.int .i64 a2c0v_KidTable), .s (.int .i64 a2c0v_KidCol)])]), (6, .t (.s (.int .i64 z37)))], [(0, .row 0 66 2 (eRow_o z36))]⟩) (x0 := r23) (x1 := 20) h (Weak.of _ [(0, 0)] hA (by cbv) ?_) (fun _ _ => rfl) ?_
    · repeat (first | exact hq0 | refine hq (by first | exact True.intro | rfl) ?_)
    · intro k z36 z37 h
      rw [slices_stableCmpFunc_impl_Row__impl_RowsFor_1.l1] at h
      refine Run.seq ?_
      refine Run.seq ?_
      refine Run.region hL hT [] (by cbv) ?_ ?_
      · exact (hq trivial hq0)
      refine Run.cond (by cbv) (hq0) (fun c38 => ?_) (fun c38 => ?_)
      · have h := if_t c38 h
        refine Run.skip ?_
        refine Run.block ?_
        refine Run.seq ?_
        refine Run.region hL hT [] (by cbv) ?_ ?_
        · exact (hq trivial hq0)
        obtain ⟨K41, h_K41, h⟩ := joinE h
        refine Run.join2 K41 (r := r) (fun (y39 : List Row) (y40 : Int) => ⟨63, 100000, [(0, .rf 0), (1, .t (.s (.int .i64 a1))), (2, .fn 40 [.t (.ip [.s (.int .i64 a2c0v_Table), .im false (eCond_c a2c0v_Where), .s (.int .i64 a2c0v_Order), .s (.bool a2c0v_Down), .s (.int .i64 a2c0v_First), .im false (eInt_c a2c0v_Show), .s (.bool a2c0v_Kids), .s (.int .i64 a2c0v_KidTable), .s (.int .i64 a2c0v_KidCol)])]), (6, .t (.s (.int .i64 z37))), (7, .t (.s (.int .i64 y40)))], [(0, .row 0 66 2 (eRow_o y39))]⟩) ?_ ?_
        · skip
          refine Run.block ?_
          refine Run.loop3 (fun (z56 : List Row) (z57 : Int) (z58 : Int) => ⟨63, 100000, [(0, .rf 0), (1, .t (.s (.int .i64 a1))), (2, .fn 40 [.t (.ip [.s (.int .i64 a2c0v_Table), .im false (eCond_c a2c0v_Where), .s (.int .i64 a2c0v_Order), .s (.bool a2c0v_Down), .s (.int .i64 a2c0v_First), .im false (eInt_c a2c0v_Show), .s (.bool a2c0v_Kids), .s (.int .i64 a2c0v_KidTable), .s (.int .i64 a2c0v_KidCol)])]), (6, .t (.s (.int .i64 z37))), (7, .t (.s (.int .i64 z57))), (8, .t (.s (.int .i64 z58)))], [(0, .row 0 66 2 (eRow_o z56))]⟩) (x0 := z36) (x1 := 0) (x2 := (ar .mul .i64 2 z37)) h (Weak.of _ [(0, 0)] hA (by cbv) ?_) (fun _ _ _ => rfl) ?_
          · repeat (first | exact hq0 | refine hq (by first | exact True.intro | rfl) ?_)
          · intro k z56 z57 z58 h
            rw [slices_stableCmpFunc_impl_Row__impl_RowsFor_1.l2] at h
            refine Run.seq ?_
            refine Run.seq ?_
            refine Run.region hL hT [] (by cbv) ?_ ?_
            · exact (hq trivial hq0)
            refine Run.cond (by cbv) (hq0) (fun c59 => ?_) (fun c59 => ?_)
            · have h := if_t c59 h
              refine Run.skip ?_
              refine Run.block ?_
              refine Run.seq ?_
              obtain ⟨r60, h_r60, h⟩ := bnd h
              refine Run.region hL hT [(7, .call [true, false, false, false, false] [.v (.ow 66 (eRow_o r60)), .v (.jk), .v (.jk), .v (.jk), .v (.jk)] [])] (by cbv) ?_ ?_
              · exact (hq trivial (hq (hC (slices_symMergeCmpFunc_impl_Row__impl_RowsFor_1_ac h_r60)) hq0))
              refine Run.seq ?_
              refine Run.region hL hT [] (by cbv) ?_ ?_
              · exact hq0
              refine Run.region hL hT [] (by cbv) ?_ ?_
              · exact (hq trivial (hq trivial hq0))
              refine ⟨r60, z58, (ar .add .i64 z58 (ar .mul .i64 2 z37)), h, Weak.of _ [(0, 0)] hA (by cbv) ?_⟩
              repeat (first | exact hq0 | refine hq (by first | exact True.intro | rfl) ?_)
            · have h := if_f c59 h
              refine Run.exit ?_
              refine ⟨z56, z57, h, Weak.of _ [(0, 0)] hA (by cbv) ?_⟩
              repeat (first | exact hq0 | refine hq (by first | exact True.intro | rfl) ?_)
        · intro y39 y40 h
          rw [h_K41] at h
          refine Run.seq ?_
          refine Run.seq ?_
          refine Run.region hL hT [] (by cbv) ?_ ?_
          · exact (hq trivial hq0)
          refine Run.seq ?_
          refine Run.region hL hT [] (by cbv) ?_ ?_
          · exact (hq trivial hq0)
          refine Run.cond (by cbv) (hq0) (fun c61 => ?_) (fun c61 => ?_)
          · have h := if_t c61 h
            obtain ⟨r62, h_r62, h⟩ := bnd h
            refine Run.region hL hT [(5, .call [true, false, false, false, false] [.v (.ow 66 (eRow_o r62)), .v (.jk), .v (.jk), .v (.jk), .v (.jk)] [])] (by cbv) ?_ ?_
            · exact (hq (hC (slices_symMergeCmpFunc_impl_Row__impl_RowsFor_1_ac h_r62)) hq0)
            refine Run.region hL hT [] (by cbv) ?_ ?_
            · exact (hq trivial hq0)
            refine ⟨r62, (ar .mul .i64 z37 2), h, Weak.of _ [(0, 0)] hA (by cbv) ?_⟩
            repeat (first | exact hq0 | refine hq (by first | exact True.intro | rfl) ?_)
          · have h := if_f c61 h
            refine Run.skip ?_
            refine Run.region hL hT [] (by cbv) ?_ ?_
            · exact (hq trivial hq0)
            refine ⟨y39, (ar .mul .i64 z37 2), h, Weak.of _ [(0, 0)] hA (by cbv) ?_⟩
            repeat (first | exact hq0 | refine hq (by first | exact True.intro | rfl) ?_)
      · have h := if_f c38 h
        refine Run.exit ?_
        cases h
        refine ⟨_, _, by cbv, ?_, ?_⟩
        · exact LLe.r
        · exact ALe.nil

set_option maxRecDepth 8000 in
theorem slices_SortStableFunc_impl_Row__impl_RowsFor_1_ac {a0 : List Row} {a1c0v_Table : Int} {a1c0v_Where : List Cond} {a1c0v_Order : Int} {a1c0v_Down : Bool} {a1c0v_First : Int} {a1c0v_Show : List Int} {a1c0v_Kids : Bool} {a1c0v_KidTable : Int} {a1c0v_KidCol : Int} {r : (List Row)} (h : slices_SortStableFunc_impl_Row__impl_RowsFor_1.f a0 (Query.mk a1c0v_Table a1c0v_Where a1c0v_Order a1c0v_Down a1c0v_First a1c0v_Show a1c0v_Kids a1c0v_KidTable a1c0v_KidCol) = some r) : AC Try.prog 39 [.v (.ow 66 (rowsOf Row_o a0)), .v (.fn 40 [.ip [.s (.int .i64 a1c0v_Table), .im false (rowsOf Cond_c a1c0v_Where), .s (.int .i64 a1c0v_Order), .s (.bool a1c0v_Down), .s (.int .i64 a1c0v_First), .im false (rowsOf Int_c a1c0v_Show), .s (.bool a1c0v_Kids), .s (.int .i64 a1c0v_KidTable), .s (.int .i64 a1c0v_KidCol)]])] [.v (.ow 66 (rowsOf Row_o r)), .v (.jk)] [] := by
  unfold slices_SortStableFunc_impl_Row__impl_RowsFor_1.f at h
  let ar := Ls.ar; let cm := Ls.cm; let bo := Ls.bo; let sc := Ls.sc; let sa := Ls.sa; let sx := Ls.sx; let ss := Ls.ss; let sl := Ls.sl; let bs := Ls.bs; let sb := Ls.sb; let ln := Ls.ln; let sr := Ls.sr; let ap := Ls.ap; let up := Ls.up; let rp := Ls.rp; let fr := Ls.fr; let ge := Ls.ge; let le := Ls.le; let lt := Ls.lt; let nz := Ls.nz; let mm := Ls.mm; let ma := Ls.ma; let sm := Ls.sm; let fl := Ls.fl; let al := Ls.al; let ci := Ls.ci
  let eCond_c := rowsOf Cond_c
  let eInt_c := rowsOf Int_c
  let eRow_o := rowsOf Row_o
  let lenI_Row := @lenI Row
  have hL : (⟨ar, cm, bo, sc, sa, sx, ss, sl, bs, sb, ln, sr, ap, up, rp, fr, ge, le, lt, nz, mm, ma, sm, fl, al, ci⟩ : Lf) = Ls := rfl
  show AC Try.prog 39 [.v (.ow 66 (eRow_o a0)), .v (.fn 40 [.ip [.s (.int .i64 a1c0v_Table), .im false (eCond_c a1c0v_Where), .s (.int .i64 a1c0v_Order), .s (.bool a1c0v_Down), .s (.int .i64 a1c0v_First), .im false (eInt_c a1c0v_Show), .s (.bool a1c0v_Kids), .s (.int .i64 a1c0v_KidTable), .s (.int .i64 a1c0v_KidCol)]])] _ _
  refine AC.of_run2 tab_ok Try.func39 (by rfl) (by rfl) (by cbv) ⟨by decide, rfl⟩ fun F hP hA => ?_
  have hT : TabOk F.P tab := hP ▸ tab_ok
  have hM : F.P.follows .mixedOrders = true := hP ▸ mixed
  have hC : ∀ {f a o r}, AC Try.prog f a o r → AC F.P f a o r := fun h => hP ▸ h
  refine Run.weak ?_ (Weak.fnT 1 (by cbv))
  obtain ⟨r1, h_r1, h⟩ := bnd h
  refine Run.region hL hT [(4, .call [true, false, false] [.v (.ow 66 (eRow_o r1)), .v (.jk), .v (.jk)] [])] (by cbv) ?_ ?_
  · exact (hq (by rw [show ln (eRow_o a0) = lenI_Row a0 from ln_eq Row_o _]; exact (hC (slices_stableCmpFunc_impl_Row__impl_RowsFor_1_ac h_r1))) hq0)
  rw [show ln (eRow_o a0) = lenI_Row a0 from ln_eq Row_o _]
  cases h
  refine ⟨_, _, by cbv, ?_, ?_⟩
  · exact LLe.r
  · exact ALe.nil

set_option maxRecDepth 8000 in
theorem impl_RowsFor_ac {a0v_Schemav_Cols : List Int} {a0v_Version : Int} {a0v_Tables : List (List Row)} {a1v_Table : Int} {a1v_Where : List Cond} {a1v_Order : Int} {a1v_Down : Bool} {a1v_First : Int} {a1v_Show : List Int} {a1v_Kids : Bool} {a1v_KidTable : Int} {a1v_KidCol : Int} {r : (List Row)} (h : impl_RowsFor.f (Store.mk (Schema.mk a0v_Schemav_Cols) a0v_Version a0v_Tables) (Query.mk a1v_Table a1v_Where a1v_Order a1v_Down a1v_First a1v_Show a1v_Kids a1v_KidTable a1v_KidCol) = some r) : AC Try.prog 10 [.ag [.im false (rowsOf Int_c a0v_Schemav_Cols), .s (.int .i64 a0v_Version), .im false (rowsOf RowS_i a0v_Tables)], .ag [.s (.int .i64 a1v_Table), .im false (rowsOf Cond_c a1v_Where), .s (.int .i64 a1v_Order), .s (.bool a1v_Down), .s (.int .i64 a1v_First), .im false (rowsOf Int_c a1v_Show), .s (.bool a1v_Kids), .s (.int .i64 a1v_KidTable), .s (.int .i64 a1v_KidCol)]] [.ag [.jk, .jk, .jk], .ag [.jk, .jk, .jk, .jk, .jk, .jk, .jk, .jk, .jk]] [.v (.ow 66 (rowsOf Row_o r))] := by
  unfold impl_RowsFor.f at h
  let ar := Ls.ar; let cm := Ls.cm; let bo := Ls.bo; let sc := Ls.sc; let sa := Ls.sa; let sx := Ls.sx; let ss := Ls.ss; let sl := Ls.sl; let bs := Ls.bs; let sb := Ls.sb; let ln := Ls.ln; let sr := Ls.sr; let ap := Ls.ap; let up := Ls.up; let rp := Ls.rp; let fr := Ls.fr; let ge := Ls.ge; let le := Ls.le; let lt := Ls.lt; let nz := Ls.nz; let mm := Ls.mm; let ma := Ls.ma; let sm := Ls.sm; let fl := Ls.fl; let al := Ls.al; let ci := Ls.ci
  let eCond_c := rowsOf Cond_c
  let eInt_c := rowsOf Int_c
  let eRowS_i := rowsOf RowS_i
  let eRow_i := rowsOf Row_i
  let eRow_o := rowsOf Row_o
  let lenI_Row := @lenI Row
  have hL : (⟨ar, cm, bo, sc, sa, sx, ss, sl, bs, sb, ln, sr, ap, up, rp, fr, ge, le, lt, nz, mm, ma, sm, fl, al, ci⟩ : Lf) = Ls := rfl
  show AC Try.prog 10 [.ag [.im false (eInt_c a0v_Schemav_Cols), .s (.int .i64 a0v_Version), .im false (eRowS_i a0v_Tables)], .ag [.s (.int .i64 a1v_Table), .im false (eCond_c a1v_Where), .s (.int .i64 a1v_Order), .s (.bool a1v_Down), .s (.int .i64 a1v_First), .im false (eInt_c a1v_Show), .s (.bool a1v_Kids), .s (.int .i64 a1v_KidTable), .s (.int .i64 a1v_KidCol)]] _ _
  refine AC.of_run2 tab_ok Try.func10 (by rfl) (by rfl) (by cbv) ⟨by decide, rfl⟩ fun F hP hA => ?_
  have hT : TabOk F.P tab := hP ▸ tab_ok
  have hM : F.P.follows .mixedOrders = true := hP ▸ mixed
  have hC : ∀ {f a o r}, AC Try.prog f a o r → AC F.P f a o r := fun h => hP ▸ h
  refine Run.seq ?_
  refine Run.region hL hT [] (by cbv) ?_ ?_
  · exact hq0
  refine Run.seq ?_
  refine Run.region hL hT [] (by cbv) ?_ ?_
  · exact hq0
  refine Run.seq ?_
  refine Run.seq ?_
  obtain ⟨r1, h_r1, h⟩ := bnd h
  obtain ⟨r2, h_r2, h⟩ := bnd h
  refine Run.region hL hT [(1, .call [false] [.ag [.jk, .jk, .jk]] [.v (.s (.bool r1))]), (7, .call [false, false] [.ag [.jk], .ag [.jk, .jk, .jk, .jk, .jk, .jk, .jk, .jk, .jk]] [.v (.s (.bool r2))])] (by cbv) ?_ ?_
  · exact (hq trivial (hq (hC (impl_StoreOk_ac h_r1)) (hq (fun _ => hq0) (hq (fun g4 => (hq g4 (hq trivial hq0))) (hq (fun g5 => (hq trivial hq0)) (hq (fun g6 => (hq g6 (hq g6 (hq (hC (impl_QueryOk_ac (gd_t h_r2 g6))) hq0)))) (hq (fun g7 => (hq g7 hq0)) (hq (fun _ => hq0) (hq (fun q9 => (hq (bo_m q9) hq0)) hq0)))))))))
  refine Run.cond (by cbv) (hq0) (fun c10 => ?_) (fun c10 => ?_)
  · have h := if_t c10 h
    refine Run.seq ?_
    refine Run.region hL hT [] (by cbv) ?_ ?_
    · exact hq0
    refine Run.ret ?_
    cases h
    refine ⟨_, _, by cbv, ?_, ?_⟩
    · exact LLe.r
    · exact (ALe.v LLe.r ALe.nil)
  · have h := if_f c10 h
    refine Run.skip ?_
    obtain ⟨K12, h_K12, h⟩ := joinE h
    refine Run.join1 K12 (r := r) (fun (y11 : List Row) => ⟨44, 100000, [(3, .pt 1 0 0), (5, .rf 2)], [(1, .box 42 [.t (.s (.int .i64 a1v_Table)), .t (.im false (eCond_c a1v_Where)), .t (.s (.int .i64 a1v_Order)), .t (.s (.bool a1v_Down)), .t (.s (.int .i64 a1v_First)), .t (.im false (eInt_c a1v_Show)), .t (.s (.bool a1v_Kids)), .t (.s (.int .i64 a1v_KidTable)), .t (.s (.int .i64 a1v_KidCol))]), (2, .row 0 66 2 (eRow_o y11))]⟩) ?_ ?_
    · skip
      refine Run.seq ?_
      obtain ⟨x13, h_x13, h⟩ := bnd h
      refine Run.region hL hT [(4, .el [.im false (eRow_i x13)])] (by cbv) ?_ ?_
      · exact (hq trivial (hq trivial (hq (get_le h_x13) (hq (get_lt (f := RowS_i) h_x13) (hq (get_ge (f := RowS_i) h_x13) hq0)))))
      rw [show ln (eRow_i x13) = lenI_Row x13 from ln_eq Row_i _]
      refine Run.block ?_
      refine Run.loop2 (fun (z27 : List Row) (z28 : Int) => ⟨44, 100000, [(3, .pt 1 0 0), (5, .rf 2), (25, .t (.im false (eRow_i x13))), (26, .t (.s (.int .i64 (lenI_Row x13)))), (27, .t (.s (.int .i64 z28)))], [(1, .box 42 [.t (.s (.int .i64 a1v_Table)), .t (.im false (eCond_c a1v_Where)), .t (.s (.int .i64 a1v_Order)), .t (.s (.bool a1v_Down)), .t (.s (.int .i64 a1v_First)), .t (.im false (eInt_c a1v_Show)), .t (.s (.bool a1v_Kids)), .t (.s (.int .i64 a1v_KidTable)), .t (.s (.int .i64 a1v_KidCol))]), (2, .row 0 66 2 (eRow_o z27))]⟩) (x0 := []) (x1 := 0) h (Weak.of _ [(1, 1), (2, 4096)] hA (by cbv) ?_) (fun _ _ => rfl) ?_
      · repeat (first | exact hq0 | refine hq (by first | exact True.intro | rfl) ?_)
      · intro k z27 z28 h
        rw [impl_RowsFor.l0] at h
        refine Run.seq ?_
        refine Run.region hL hT [] (by cbv) ?_ ?_
        · exact (hq trivial hq0)
        refine Run.seq ?_
        refine Run.cond (by cbv) (hq0) (fun c29 => ?_) (fun c29 => ?_)
        · have h := if_t c29 h
          refine Run.skip ?_
          refine Run.seq ?_
          refine Run.block ?_
          refine Run.seq ?_
          obtain ⟨⟨x30v_Id, x30v_Cells⟩, h_x30, h⟩ := bnd h
          refine Run.region hL hT [(0, .el [.s (.int .i64 x30v_Id), .im false (eInt_c x30v_Cells)])] (by cbv) ?_ ?_
          · exact (hq (get_le h_x30) (hq (get_lt (f := Row_i) h_x30) (hq (get_ge (f := Row_i) h_x30) (hq trivial hq0))))
          refine Run.seq ?_
          obtain ⟨r31, h_r31, h⟩ := bnd h
          refine Run.region hL hT [(2, .call [false, false] [.ag [.jk, .jk, .jk, .jk, .jk, .jk, .jk, .jk, .jk], .ag [.jk, .jk]] [.v (.s (.bool r31))])] (by cbv) ?_ ?_
          · exact (hq trivial (hq trivial (hq (hC (impl_Matches_ac h_r31)) hq0)))
          refine Run.cond (by cbv) (hq0) (fun c32 => ?_) (fun c32 => ?_)
          · have h := if_t c32 h
            obtain ⟨⟨r33v_Id, r33v_Cells⟩, h_r33, h⟩ := bnd h
            obtain ⟨l34, h_l34, h⟩ := bnd h
            obtain ⟨l35, h_l35, h⟩ := bnd h
            refine Run.region hL hT [(2, .call [false] [.ag [.jk, .jk]] [.ag [.s (.int .i64 r33v_Id), .ow 3 (eInt_c r33v_Cells)]])] (by cbv) ?_ ?_
            · exact (hq trivial (hq (hC (impl_copyRow_ac h_r33)) (hq (app_mb (P := Try.prog) (f := Row_o) RLe.r (some_le (f := Row_o) h_l34 (RLe.cons rfl LLe.r RLe.nil)) h_l35) hq0)))
            refine Run.row (rows := (ap (eRow_o z27) ([[.s (.int .i64 r33v_Id), .ow 3 (eInt_c r33v_Cells)]]))) 112292 (eRow_o l35) (by cbv) (app_le (f := Row_o) RLe.r (some_le (f := Row_o) h_l34 (RLe.cons rfl LLe.r RLe.nil)) h_l35) ?_
            refine Run.region hL hT [] (by cbv) ?_ ?_
            · exact (hq trivial hq0)
            refine ⟨l35, (ar .add .i64 z28 1), h, Weak.of _ [(1, 1), (2, 112292)] hA (by cbv) ?_⟩
            repeat (first | exact hq0 | refine hq (by first | exact True.intro | rfl) ?_)
          · have h := if_f c32 h
            refine Run.skip ?_
            refine Run.region hL hT [] (by cbv) ?_ ?_
            · exact (hq trivial hq0)
            refine ⟨z27, (ar .add .i64 z28 1), h, Weak.of _ [(1, 1), (2, 2)] hA (by cbv) ?_⟩
            repeat (first | exact hq0 | refine hq (by first | exact True.intro | rfl) ?_)
        · have h := if_f c29 h
          refine Run.exit ?_
          refine ⟨z27, h, Weak.of _ [(1, 1), (2, 2)] hA (by cbv) ?_⟩
          repeat (first | exact hq0 | refine hq (by first | exact True.intro | rfl) ?_)
    · intro y11 h
      rw [h_K12] at h
      refine Run.seq ?_
      obtain ⟨r36, h_r36, h⟩ := bnd h
      refine Run.region hL hT [(2, .call [true, false] [.v (.ow 66 (eRow_o r36)), .v (.jk)] [])] (by cbv) ?_ ?_
      · exact (hq (hC (slices_SortStableFunc_impl_Row__impl_RowsFor_1_ac h_r36)) hq0)
      refine Run.seq ?_
      refine Run.region hL hT [] (by cbv) ?_ ?_
      · exact hq0
      refine Run.ret ?_
      cases h
      refine ⟨_, _, by cbv, ?_, ?_⟩
      · exact LLe.r
      · exact (ALe.v LLe.r ALe.nil)

set_option maxRecDepth 8000 in
theorem impl_copyQuery_ac {a0v_Table : Int} {a0v_Where : List Cond} {a0v_Order : Int} {a0v_Down : Bool} {a0v_First : Int} {a0v_Show : List Int} {a0v_Kids : Bool} {a0v_KidTable : Int} {a0v_KidCol : Int} {r : Query} (h : impl_copyQuery.f (Query.mk a0v_Table a0v_Where a0v_Order a0v_Down a0v_First a0v_Show a0v_Kids a0v_KidTable a0v_KidCol) = some r) : AC Try.prog 54 [.ag [.s (.int .i64 a0v_Table), .im false (rowsOf Cond_c a0v_Where), .s (.int .i64 a0v_Order), .s (.bool a0v_Down), .s (.int .i64 a0v_First), .im false (rowsOf Int_c a0v_Show), .s (.bool a0v_Kids), .s (.int .i64 a0v_KidTable), .s (.int .i64 a0v_KidCol)]] [.ag [.jk, .jk, .jk, .jk, .jk, .jk, .jk, .jk, .jk]] [.ag [.s (.int .i64 r.Table), .ow 94 (rowsOf Cond_c r.Where), .s (.int .i64 r.Order), .s (.bool r.Down), .s (.int .i64 r.First), .ow 3 (rowsOf Int_c r.Show), .s (.bool r.Kids), .s (.int .i64 r.KidTable), .s (.int .i64 r.KidCol)]] := by
  unfold impl_copyQuery.f at h
  let ar := Ls.ar; let cm := Ls.cm; let bo := Ls.bo; let sc := Ls.sc; let sa := Ls.sa; let sx := Ls.sx; let ss := Ls.ss; let sl := Ls.sl; let bs := Ls.bs; let sb := Ls.sb; let ln := Ls.ln; let sr := Ls.sr; let ap := Ls.ap; let up := Ls.up; let rp := Ls.rp; let fr := Ls.fr; let ge := Ls.ge; let le := Ls.le; let lt := Ls.lt; let nz := Ls.nz; let mm := Ls.mm; let ma := Ls.ma; let sm := Ls.sm; let fl := Ls.fl; let al := Ls.al; let ci := Ls.ci
  let eCond_c := rowsOf Cond_c
  let eInt_c := rowsOf Int_c
  have hL : (⟨ar, cm, bo, sc, sa, sx, ss, sl, bs, sb, ln, sr, ap, up, rp, fr, ge, le, lt, nz, mm, ma, sm, fl, al, ci⟩ : Lf) = Ls := rfl
  show AC Try.prog 54 [.ag [.s (.int .i64 a0v_Table), .im false (eCond_c a0v_Where), .s (.int .i64 a0v_Order), .s (.bool a0v_Down), .s (.int .i64 a0v_First), .im false (eInt_c a0v_Show), .s (.bool a0v_Kids), .s (.int .i64 a0v_KidTable), .s (.int .i64 a0v_KidCol)]] _ _
  refine AC.of_run2 tab_ok Try.func54 (by rfl) (by rfl) (by cbv) ⟨by decide, rfl⟩ fun F hP hA => ?_
  have hT : TabOk F.P tab := hP ▸ tab_ok
  have hM : F.P.follows .mixedOrders = true := hP ▸ mixed
  have hC : ∀ {f a o r}, AC Try.prog f a o r → AC F.P f a o r := fun h => hP ▸ h
  refine Run.seq ?_
  refine Run.region hL hT [] (by cbv) ?_ ?_
  · exact hq0
  refine Run.seq ?_
  obtain ⟨l1, h_l1, h⟩ := bnd h
  obtain ⟨r2, h_r2, h⟩ := bnd h
  refine Run.draw hL hT hM [(6, .call [false] [.v (.jk)] [.v (.ow 3 (eInt_c r2))])] (by cbv) (by cbv) (by cbv) (by cbv) (by cbv) ?_ ?_
  · exact (hq trivial (hq (fl_row Cond_c_f _) (hq (app_mb (P := Try.prog) (f := Cond_c) RLe.r RLe.r h_l1) (hq trivial (hq (hC (impl_copyInts_ac h_r2)) (hq trivial (hq trivial hq0)))))))
  refine Run.row (rows := (ap ([]) ((eCond_c a0v_Where)))) 4099 (eCond_c l1) (by cbv) (app_le (f := Cond_c) RLe.r RLe.r h_l1) ?_
  refine Run.seq ?_
  refine Run.region hL hT [] (by cbv) ?_ ?_
  · exact (hq trivial (hq trivial hq0))
  refine Run.ret ?_
  cases h
  refine ⟨_, _, by cbv, ?_, ?_⟩
  · exact LLe.r
  · exact (ALe.ag rfl LLe.r ALe.nil)

set_option maxHeartbeats 4000000 in
set_option maxRecDepth 100000 in
theorem slices_Insert_impl_Kid_end0 (w : World) (g2 c2 : Nat)
  (v' : Value) (w' : World) (hrun : (Builtin.append_ #[51, 51] 51 #[.slice none 0 0, .slice (some ⟨g2, 0, none⟩) 1 c2]).run Try.prog w = .ok v' w') :
  Calls Try.prog 81 #[.slice none 0 0, .int .i64 0, .slice (some ⟨g2, 0, none⟩) 1 c2] w fun ex w2 => ex = .returned v' ∧ w2 = w' := by
  go_enter Try.func81, Try.ntmps81
  go_wp2_with (at_builtin; refine wpList_run rfl (exec_append rfl rfl rfl hrun) ?_)
  all_goals go_ret
  all_goals exact ⟨rfl, rfl⟩

set_option maxHeartbeats 4000000 in
set_option maxRecDepth 100000 in
theorem slices_Insert_impl_Kid_end (w : World) (g c g2 c2 n : Nat) (hnc : n ≤ c)
  (v' : Value) (w' : World) (hrun : (Builtin.append_ #[51, 51] 51 #[.slice (some ⟨g, 0, none⟩) n c, .slice (some ⟨g2, 0, none⟩) 1 c2]).run Try.prog w = .ok v' w') :
  Calls Try.prog 81 #[.slice (some ⟨g, 0, none⟩) n c, .int .i64 n, .slice (some ⟨g2, 0, none⟩) 1 c2] w fun ex w2 => ex = .returned v' ∧ w2 = w' := by
  go_enter Try.func81, Try.ntmps81
  go_wp2_with (at_builtin; refine wpList_run rfl (exec_append rfl rfl rfl hrun) ?_)
  all_goals go_ret
  all_goals exact ⟨rfl, rfl⟩

set_option maxHeartbeats 4000000 in
set_option maxRecDepth 100000 in
theorem slices_Insert_impl_Kid_in (w : World) (g c g2 c2 n i : Nat) (cur cur2 A B : Array Value) (hi : i < n) (hroom : n + 1 ≤ c) (hc63 : c ≤ maxLen) (hne : g2 ≠ g) (hg : w.heap[g]? = some (.cells cur 105 (0, 0))) (hcs : cur.size = c * 2) (hg2 : w.heap[g2]? = some (.cells cur2 105 (0, 0)))
  (hcp1 : ∀ ty dc sc, (Builtin.copy_ #[51, 51] ty #[.slice (some ⟨g, (i + 1) * 2, none⟩) (n + 1 - (i + 1)) dc, .slice (some ⟨g, i * 2, none⟩) (n + 1 - i) sc]).run Try.prog w.drew = .ok (goInt (n - i : Nat)) (w.drew.setRow g A))
  (hcp2 : ∀ ty dc, (Builtin.copy_ #[51, 51] ty #[.slice (some ⟨g, i * 2, none⟩) (n + 1 - i) dc, .slice (some ⟨g2, 0, none⟩) 1 c2]).run Try.prog (w.drew.setRow g A) = .ok (goInt (1 : Nat)) ((w.drew.setRow g A).setRow g B)) :
  Calls Try.prog 81 #[.slice (some ⟨g, 0, none⟩) n c, .int .i64 i, .slice (some ⟨g2, 0, none⟩) 1 c2] w fun ex w2 => ex = .returned (.slice (some ⟨g, 0, none⟩) (n + 1) c) ∧ w2 = (w.drew.setRow g A).setRow g B := by
  have mixed := mixed
  have TE : TyOk Try.prog 105 _ := tab_ok 105 _ rfl
  have TS : TyOk Try.prog 51 _ := tab_ok 51 _ rfl
  obtain ⟨ti, hti, htz, htb, _⟩ := TE.info
  have u92 := TS.isS rfl
  have hz1 : ¬ ((1 : Int) = 0) := by omega
  have hz2 : ¬ ((i : Int) = (n : Int)) := by omega
  have hw1 : IntKind.i64.wrap ((i : Int) + (1 : Int)) = (i : Int) + (1 : Int) := by unfold maxLen at hc63; rw [IntKind.wrap_i64]; omega
  have hw2 : IntKind.i64.wrap ((n : Int) + (1 : Int)) = (n : Int) + (1 : Int) := by unfold maxLen at hc63; rw [IntKind.wrap_i64]; omega
  have hb1 : (0 : Int) ≤ (i : Int) + (1 : Int) := by omega
  have hin : i ≤ n := by omega
  have htn : ((i : Int) + (1 : Int)).toNat = i + 1 := by omega
  have hb2 : ¬ (c = i + 1) := by omega
  have hb3 : (i : Int) ≤ (n : Int) + (1 : Int) := by omega
  have hb4 : ¬ (c = i) := by omega
  have hov : ∀ lb cb o, (callFunc 92 #[.slice (some ⟨g2, 0, none⟩) 1 c2, .slice (some ⟨g, o, none⟩) lb cb]).run Try.prog w = .ok (.value (.bool false)) w := fun lb cb o => by
    rw [run_callFunc_extern Try.func92 (by kernel_rfl) (by kernel_rfl) (by kernel_rfl) (e := Extern.SlicesOverlaps.overlaps #[51, 51] #[4]) (by kernel_rfl),
      Lib.run_overlaps_apart w 51 4 105 u92 2 (fun w => by simp [sizeOf, typeInfo, hti, htz]) ⟨g2, 0, none⟩ ⟨g, o, none⟩ 1 c2 lb cb hne 105 105 cur2.size cur.size (by simp [World.shape?, hg2]) (by simp [World.shape?, hg]) (by omega) (by simp [World.frozen?, hg2]) (by simp [World.frozen?, hg2])]
    rfl
  go_enter Try.func81, Try.ntmps81
  go_wp2_with (simp only [hov])
  go_region_law_o (refine step_run rfl (exec_copy rfl (by simp [Act.eval, Act.put]; rfl) (by simp [Act.eval, Act.put]; rfl) (hcp1 _ _ _)) ?_)
  go_wp2_with (at_builtin; refine wpList_run rfl (exec_copy rfl rfl rfl (hcp2 _ _)) ?_)
  go_ret
  exact ⟨rfl, rfl⟩

set_option maxHeartbeats 4000000 in
set_option maxRecDepth 100000 in
theorem slices_Insert_impl_Kid_grow (w : World) (g c g2 c2 n i G : Nat) (R A B : Array Value) (hi : i < n) (hnc : n ≤ c) (hroom : c < n + 1) (hc63 : n + 1 ≤ maxLen) (hG : n + 1 ≤ G) (hGm : G ≤ maxLen)
  (hrz : ∀ ty, (Builtin.append_ #[51, 3] ty #[.slice (some ⟨g, 0, none⟩) i c, .int .i64 ((n : Int) + 1 - i)]).run Try.prog w = .ok (.slice (some ⟨w.heap.size, 0, none⟩) (n + 1) G) (w.drew.alloc (.cells R 105)))
  (hcp2 : ∀ ty dc, (Builtin.copy_ #[51, 51] ty #[.slice (some ⟨w.heap.size, i * 2, none⟩) (n + 1 - i) dc, .slice (some ⟨g2, 0, none⟩) 1 c2]).run Try.prog (w.alloc (.cells R 105)).drew = .ok (goInt (1 : Nat)) ((w.alloc (.cells R 105)).drew.setRow w.heap.size A))
  (hcp1 : ∀ ty dc sc, (Builtin.copy_ #[51, 51] ty #[.slice (some ⟨w.heap.size, (i + 1) * 2, none⟩) (n + 1 - (i + 1)) dc, .slice (some ⟨g, i * 2, none⟩) (n - i) sc]).run Try.prog ((w.alloc (.cells R 105)).drew.setRow w.heap.size A).drew = .ok (goInt (n - i : Nat)) (((w.alloc (.cells R 105)).drew.setRow w.heap.size A).drew.setRow w.heap.size B)) :
  Calls Try.prog 81 #[.slice (some ⟨g, 0, none⟩) n c, .int .i64 i, .slice (some ⟨g2, 0, none⟩) 1 c2] w fun ex w2 => ex = .returned (.slice (some ⟨w.heap.size, 0, none⟩) (n + 1) G) ∧ w2 = ((w.alloc (.cells R 105)).drew.setRow w.heap.size A).drew.setRow w.heap.size B := by
  have mixed := mixed
  have hz1 : ¬ ((1 : Int) = 0) := by omega
  have hz2 : ¬ ((i : Int) = (n : Int)) := by omega
  have hz3 : (c : Int) < (n : Int) + (1 : Int) := by omega
  have hw1 : IntKind.i64.wrap ((i : Int) + (1 : Int)) = (i : Int) + (1 : Int) := by unfold maxLen at hc63; rw [IntKind.wrap_i64]; omega
  have hw2 : IntKind.i64.wrap ((n : Int) + (1 : Int)) = (n : Int) + (1 : Int) := by unfold maxLen at hc63; rw [IntKind.wrap_i64]; omega
  have hw3 : IntKind.i64.wrap ((n : Int) + (1 : Int) - (i : Int)) = (n : Int) + (1 : Int) - (i : Int) := by unfold maxLen at hc63; rw [IntKind.wrap_i64]; omega
  have hb1 : (0 : Int) ≤ (i : Int) + (1 : Int) := by omega
  have hin : i ≤ n := by omega
  have htn : ((i : Int) + (1 : Int)).toNat = i + 1 := by omega
  have hGi : ¬ (G = i) := by omega
  have hGim : ¬ (G = i + 1) := by omega
  have hci : ¬ (c = i) := by omega
  have hb3 : (i : Int) ≤ (n : Int) := by omega
  go_enter Try.func81, Try.ntmps81
  go_wp2_with (first
    | (at_builtin; refine wpList_run rfl (exec_append rfl rfl rfl (hrz _)) ?_)
    | (at_builtin; refine wpList_run rfl (exec_copy rfl rfl rfl (hcp2 _ _)) ?_))
  go_region_law_o (refine step_run rfl (exec_copy rfl (by simp [Act.eval, Act.put]; rfl) (by simp [Act.eval, Act.put]; rfl) (hcp1 _ _ _)) ?_)
  go_wp2
  go_ret
  exact ⟨rfl, rfl⟩
theorem slices_Insert_impl_Kid_roads : Roads Try.prog 81 51 105 2 3 where
  end0 := fun w g2 c2 v' w' h => slices_Insert_impl_Kid_end0 w g2 c2 v' w' h
  end1 := fun w g c g2 c2 n v' w' hnc h => slices_Insert_impl_Kid_end w g c g2 c2 n hnc v' w' h
  inn := fun w g c g2 c2 n i cur cur2 A B h1 h2 h3 h4 h5 h6 h7 h8 h9 => slices_Insert_impl_Kid_in w g c g2 c2 n i cur cur2 A B h1 h2 h3 h4 h5 h6 h7 h8 h9
  grow := fun w g c g2 c2 n i G R A B h1 h2 h3 h4 h5 h6 h7 h8 h9 => slices_Insert_impl_Kid_grow w g c g2 c2 n i G R A B h1 h2 h3 h4 h5 h6 h7 h8 h9
theorem slices_Insert_impl_Kid_ac {a0 a2 : List Kid} {a1 : Int} {r : List Kid} (h : slices_Insert_impl_Kid.f a0 a1 a2 = some r) : AC Try.prog 81 [.v (.ow 105 (rowsOf Kid_c a0)), .v (.s (.int .i64 a1)), .v (.ow 105 (rowsOf Kid_c a2))] [.v .jk, .v .jk, .v .jk] [.v (.ow 105 (rowsOf Kid_c r))] := by
  unfold slices_Insert_impl_Kid.f insO at h
  split at h
  · rename_i hc
    obtain ⟨h1, c0, c1, c2, c3⟩ := hc
    obtain ⟨i, rfl⟩ : ∃ k : Nat, a1 = k := ⟨a1.toNat, by omega⟩
    obtain ⟨x, rfl⟩ := List.length_eq_one_iff.1 h1
    simp only [Option.some.injEq] at h
    subst h
    have hr : rowsOf Kid_c (a0.take ((i : Nat) : Int).toNat ++ [x] ++ a0.drop ((i : Nat) : Int).toNat) = (rowsOf Kid_c a0).take i ++ [Kid_c x] ++ (rowsOf Kid_c a0).drop i := by simp [rowsOf, List.map_take, List.map_drop]
    rw [hr]
    have hl := rowsOf_len Kid_c a0
    simp only [List.length_singleton] at c2 c3
    exact AC.of_ins ⟨_, Try.func81, by rfl, by rfl⟩ (cellsOf_ty (tab_ok 105 _ rfl)) (slices_Insert_impl_Kid_roads.raw (tab_ok 51 _ rfl) rfl (tab_ok 105 _ rfl) (by simp) (underlying_int (tab_ok 3 _ rfl) rfl)) (by omega) (by rw [hl]; show (a0.length + 1) * 16 ≤ _; omega) (by omega)
  · cases h


set_option maxRecDepth 8000 in
theorem slices_Delete_impl_Kid_ac {a0 : List Kid} {a1 a2 : Int} {r : List Kid} (h : slices_Delete_impl_Kid.f a0 a1 a2 = some r) : AC Try.prog 82 [.v (.ow 105 (rowsOf Kid_c a0)), .v (.s (.int .i64 a1)), .v (.s (.int .i64 a2))] [.v .jk, .v .jk, .v .jk] [.v (.ow 105 (rowsOf Kid_c r))] := by
  unfold slices_Delete_impl_Kid.f delO at h
  split at h
  · rename_i hc
    obtain ⟨c0, c1, c2⟩ := hc
    obtain ⟨i, rfl⟩ : ∃ k : Nat, a1 = k := ⟨a1.toNat, by omega⟩
    obtain ⟨j, rfl⟩ : ∃ k : Nat, a2 = k := ⟨a2.toNat, by omega⟩
    simp only [Option.some.injEq] at h
    subst h
    have hr : rowsOf Kid_c (a0.take ((i : Nat) : Int).toNat ++ a0.drop ((j : Nat) : Int).toNat) = (rowsOf Kid_c a0).take i ++ (rowsOf Kid_c a0).drop j := by simp [rowsOf, List.map_take, List.map_drop]
    rw [hr]
    have hl := rowsOf_len Kid_c a0
    generalize rowsOf Kid_c a0 = R at *
    obtain ⟨D3, hD3⟩ : ∃ D, D = R.take i ++ R.drop j := ⟨_, rfl⟩
    rw [← hD3]
    have c1 : i ≤ j := by omega
    have c2 : j ≤ R.length := by omega
    have hlR : Ls.ln R = (R.length : Int) := rfl
    let ar := Ls.ar; let cm := Ls.cm; let bo := Ls.bo; let sc := Ls.sc; let sa := Ls.sa; let sx := Ls.sx; let ss := Ls.ss; let sl := Ls.sl; let bs := Ls.bs; let sb := Ls.sb; let ln := Ls.ln; let sr := Ls.sr; let ap := Ls.ap; let up := Ls.up; let rp := Ls.rp; let fr := Ls.fr; let ge := Ls.ge; let le := Ls.le; let lt := Ls.lt; let nz := Ls.nz; let mm := Ls.mm; let ma := Ls.ma; let sm := Ls.sm; let fl := Ls.fl; let al := Ls.al; let ci := Ls.ci
    have hL : (⟨ar, cm, bo, sc, sa, sx, ss, sl, bs, sb, ln, sr, ap, up, rp, fr, ge, le, lt, nz, mm, ma, sm, fl, al, ci⟩ : Lf) = Ls := rfl
    refine AC.of_run2 tab_ok Try.func82 (by rfl) (by rfl) (by cbv) ⟨by decide, rfl⟩ fun F hP hA => ?_
    have hT : TabOk F.P tab := hP ▸ tab_ok
    have hM : F.P.follows .mixedOrders = true := hP ▸ mixed
    refine Run.seq ?_
    refine Run.region hL hT [] (by cbv) ?_ ?_
    · exact hq0
    refine Run.seq ?_
    refine Run.region hL hT [(5, .hd [0] .u [])] (by cbv) ?_ ?_
    · exact hq (hand_slice3r (hT 51 _ rfl) rfl (hT 105 _ rfl) (by omega) (by omega) (by show (j : Int) ≤ (R.length : Int); omega) (Int.le_refl _)) hq0
    refine Run.seq ?_
    refine Run.seq ?_
    refine Run.region hL hT [] (by cbv) ?_ ?_
    · exact hq trivial hq0
    refine Run.cond (by cbv) hq0 (fun c => ?_) (fun c => ?_)
    · have e : (i : Int) = j := of_decide_eq_true c
      obtain rfl : i = j := by omega
      rw [List.take_append_drop] at hD3
      subst hD3
      refine Run.seq ?_
      refine Run.region hL hT [] (by cbv) ?_ ?_
      · exact hq0
      refine Run.weak ?_ (Weak.mv (v := .rf 0) 0 900000 6 (by cbv) (by cbv) (by cbv) (by cbv))
      refine Run.ret ?_
      refine ⟨_, _, by cbv, ?_, ?_⟩
      · exact LLe.r
      · exact ALe.r
    have e : ¬ (i : Int) = j := of_decide_eq_false c
    have c1 : i < j := by omega
    obtain ⟨D1, hD1⟩ : ∃ D, D = delR R i j R.length 2 := ⟨_, rfl⟩
    obtain ⟨D2, hD2⟩ : ∃ D, D = delR D1 (i + (R.length - j)) D1.length D1.length 2 := ⟨_, rfl⟩
    have hl1 : D1.length = R.length := by rw [hD1]; exact delR_len (by omega) (by omega) (Nat.le_refl _)
    have hl2 : D2.take (i + (R.length - j)) = D3 := by rw [hD3]; rw [hD2, hl1, hD1]; exact delR_take2 (by omega) (by omega)
    have hj1 := hand_append_in (P := F.P) (x := .tmp 22) (y := .tmp 25) (id := 0) (ver := 0) (hT 51 _ rfl) rfl (hT 105 _ rfl) (h := R.length) (rows := R) c1 c2 (Nat.le_refl _) (rfl : ((i + (R.length - j) : Nat) : Int) = _)
    rw [← hD1] at hj1
    obtain ⟨ki, hki⟩ : ∃ k : Int, k = ((i + (R.length - j) : Nat) : Int) := ⟨_, rfl⟩
    rw [← hki] at hj1
    refine Run.skip ?_
    refine Run.seq ?_
    refine Run.region hL hT [] (by cbv) ?_ ?_
    · exact hq0
    refine Run.seq ?_
    refine Run.draw hL hT hM [(6, .hd [0] (.sb 0 0 ki) [(0, .row 1 105 2 D1)])] (by cbv) (by cbv) (by cbv) (by cbv) (by cbv) ?_ ?_
    · exact hq (Int.le_refl _) (hq (by show (0 : Int) ≤ (i : Int); omega) (hq (by show (i : Int) ≤ (R.length : Int); omega) (hq (by show (0 : Int) ≤ (j : Int); omega) (hq (by show (j : Int) ≤ (R.length : Int); omega) (hq (Int.le_refl _) (hq hj1 hq0))))))
    refine Run.seq ?_
    refine Run.region hL hT [(2, .hd [0] (.t (.s (.int .i64 ki))) []), (4, .hd [0] (.sb 0 ki (ln R)) []), (5, .hd [0] .u [(0, .row 2 105 2 D2)])] (by cbv) ?_ ?_
    · have hj2 := hand_clear (P := F.P) (x := .tmp 31) (id := 0) (ver := 1) (hT 51 _ rfl) rfl (hT 105 _ rfl) (by simp) (b0 := i + (R.length - j)) (b1 := R.length) (rows := D1) (by omega) (by omega)
      rw [← hD2, ← hki] at hj2
      exact hq (hand_len (hT 51 _ rfl) rfl (by omega)) (hq (hand_slice (hT 51 _ rfl) rfl (hT 105 _ rfl) (l := ki) (hh := R.length) rfl (.inr ⟨_, _, rfl, rfl⟩) (.inr ⟨_, _, rfl, rfl⟩) (by omega) (by omega) (by show (0 : Int) + (R.length : Int) ≤ (D1.length : Int); omega) (by omega) (by show (R.length : Int) = _; omega)) (hq hj2 hq0))
    refine Run.seq ?_
    refine Run.region hL hT [] (by cbv) ?_ ?_
    · exact hq0
    refine Run.weak ?_ (Weak.shrink 0 900000 6 (by cbv) (by cbv) (by cbv) (by cbv) hki _ hl2)
    refine Run.ret ?_
    refine ⟨_, _, by cbv, ?_, ?_⟩
    · exact LLe.r
    · exact ALe.r
  · cases h

set_option maxRecDepth 8000 in
theorem impl_KidPut_ac {a0 : List Kid} {a1 : Int} {a2 : Int} {r : (List Kid)} (h : impl_KidPut.f a0 a1 a2 = some r) : AC Try.prog 55 [.v (.im false (rowsOf Kid_c a0)), .v (.s (.int .i64 a1)), .v (.s (.int .i64 a2))] [.v (.jk), .v (.jk), .v (.jk)] [.v (.ow 105 (rowsOf Kid_c r))] := by
  unfold impl_KidPut.f at h
  let ar := Ls.ar; let cm := Ls.cm; let bo := Ls.bo; let sc := Ls.sc; let sa := Ls.sa; let sx := Ls.sx; let ss := Ls.ss; let sl := Ls.sl; let bs := Ls.bs; let sb := Ls.sb; let ln := Ls.ln; let sr := Ls.sr; let ap := Ls.ap; let up := Ls.up; let rp := Ls.rp; let fr := Ls.fr; let ge := Ls.ge; let le := Ls.le; let lt := Ls.lt; let nz := Ls.nz; let mm := Ls.mm; let ma := Ls.ma; let sm := Ls.sm; let fl := Ls.fl; let al := Ls.al; let ci := Ls.ci
  let eKid_c := rowsOf Kid_c
  let lenI_Kid := @lenI Kid
  have hL : (⟨ar, cm, bo, sc, sa, sx, ss, sl, bs, sb, ln, sr, ap, up, rp, fr, ge, le, lt, nz, mm, ma, sm, fl, al, ci⟩ : Lf) = Ls := rfl
  show AC Try.prog 55 [.v (.im false (eKid_c a0)), .v (.s (.int .i64 a1)), .v (.s (.int .i64 a2))] _ _
  refine AC.of_run2 tab_ok Try.func55 (by rfl) (by rfl) (by cbv) ⟨by decide, rfl⟩ fun F hP hA => ?_
  have hT : TabOk F.P tab := hP ▸ tab_ok
  have hM : F.P.follows .mixedOrders = true := hP ▸ mixed
  have hC : ∀ {f a o r}, AC Try.prog f a o r → AC F.P f a o r := fun h => hP ▸ h
  refine Run.seq ?_
  refine Run.region hL hT [] (by cbv) ?_ ?_
  · exact hq0
  refine Run.seq ?_
  obtain ⟨l1, h_l1, h⟩ := bnd h
  refine Run.region hL hT [] (by cbv) ?_ ?_
  · exact (hq (fl_row Kid_c_f _) (hq (app_mb (P := Try.prog) (f := Kid_c) RLe.r RLe.r h_l1) hq0))
  refine Run.row (rows := (ap ([]) ((eKid_c a0)))) 4098 (eKid_c l1) (by cbv) (app_le (f := Kid_c) RLe.r RLe.r h_l1) ?_
  refine Run.seq ?_
  refine Run.region hL hT [] (by cbv) ?_ ?_
  · exact hq0
  obtain ⟨K3, h_K3, h⟩ := joinE h
  refine Run.join1 K3 (r := r) (fun (y2 : Int) => ⟨71, 100000, [(1, .t (.s (.int .i64 a1))), (2, .t (.s (.int .i64 a2))), (7, .rf 1), (8, .t (.s (.int .i64 y2)))], [(1, .row 0 105 2 (eKid_c l1))]⟩) ?_ ?_
  · skip
    refine Run.block ?_
    refine Run.loop1 (fun (z8 : Int) => ⟨71, 100000, [(1, .t (.s (.int .i64 a1))), (2, .t (.s (.int .i64 a2))), (7, .rf 1), (8, .t (.s (.int .i64 z8)))], [(1, .row 0 105 2 (eKid_c l1))]⟩) (x0 := 0) h (Weak.of _ [(1, 4098)] hA (by cbv) ?_) (fun _ => rfl) ?_
    · repeat (first | exact hq0 | refine hq (by first | exact True.intro | rfl) ?_)
    · intro k z8 h
      rw [impl_KidPut.l0] at h
      refine Run.seq ?_
      refine Run.seq ?_
      obtain ⟨⟨x9v_Id, x9v_N⟩, h_x9, h⟩ := bnd h
      refine Run.region hL hT [(9, .el [.s (.int .i64 x9v_Id), .s (.int .i64 x9v_N)])] (by cbv) ?_ ?_
      · exact (hq trivial (hq (fun _ => hq0) (hq (fun _ => hq0) (hq (fun g12 => (by have g12C := g12; rw [show ln (eKid_c l1) = lenI_Kid l1 from ln_eq Kid_c _] at g12C; exact (hq g12 (hq g12 (hq (get_le (gd_t h_x9 g12C)) (hq (get_lt (f := Kid_c) (gd_t h_x9 g12C)) hq0)))))) (hq (fun g13 => (by have g13C := g13; rw [show ln (eKid_c l1) = lenI_Kid l1 from ln_eq Kid_c _] at g13C; exact (hq g13 hq0))) (hq (fun g14 => (by have g14C := g14; rw [show ln (eKid_c l1) = lenI_Kid l1 from ln_eq Kid_c _] at g14C; exact (hq g14 (hq (get_le (gd_t h_x9 g14C)) (hq (get_lt (f := Kid_c) (gd_t h_x9 g14C)) (hq (get_ge (f := Kid_c) (gd_t h_x9 g14C)) hq0)))))) (hq (fun _ => hq0) (hq (fun g16 => (by have g16C := g16; rw [show ln (eKid_c l1) = lenI_Kid l1 from ln_eq Kid_c _] at g16C; exact (hq g16 (hq g16 (hq trivial hq0))))) (hq (fun q17 => (by have q17C := q17; rw [show ln (eKid_c l1) = lenI_Kid l1 from ln_eq Kid_c _] at q17C; exact (hq q17 hq0))) (hq (fun _ => hq0) hq0))))))))))
      rw [show ln (eKid_c l1) = lenI_Kid l1 from ln_eq Kid_c _]
      refine Run.cond (by cbv) (hq0) (fun c19 => ?_) (fun c19 => ?_)
      · have h := if_t c19 h
        refine Run.skip ?_
        refine Run.block ?_
        refine Run.region hL hT [] (by cbv) ?_ ?_
        · exact (hq trivial hq0)
        refine ⟨(ar .add .i64 z8 1), h, Weak.of _ [(1, 1)] hA (by cbv) ?_⟩
        repeat (first | exact hq0 | refine hq (by first | exact True.intro | rfl) ?_)
      · have h := if_f c19 h
        refine Run.exit ?_
        refine ⟨z8, h, Weak.of _ [(1, 1)] hA (by cbv) ?_⟩
        repeat (first | exact hq0 | refine hq (by first | exact True.intro | rfl) ?_)
  · intro y2 h
    rw [h_K3] at h
    refine Run.seq ?_
    refine Run.seq ?_
    obtain ⟨⟨x20v_Id, x20v_N⟩, h_x20, h⟩ := bnd h
    refine Run.region hL hT [(9, .el [.s (.int .i64 x20v_Id), .s (.int .i64 x20v_N)])] (by cbv) ?_ ?_
    · exact (hq trivial (hq (fun _ => hq0) (hq (fun _ => hq0) (hq (fun g23 => (by have g23C := g23; rw [show ln (eKid_c l1) = lenI_Kid l1 from ln_eq Kid_c _] at g23C; exact (hq g23 (hq g23 (hq (get_le (gd_t h_x20 g23C)) (hq (get_lt (f := Kid_c) (gd_t h_x20 g23C)) hq0)))))) (hq (fun g24 => (by have g24C := g24; rw [show ln (eKid_c l1) = lenI_Kid l1 from ln_eq Kid_c _] at g24C; exact (hq g24 hq0))) (hq (fun g25 => (by have g25C := g25; rw [show ln (eKid_c l1) = lenI_Kid l1 from ln_eq Kid_c _] at g25C; exact (hq g25 (hq (get_le (gd_t h_x20 g25C)) (hq (get_lt (f := Kid_c) (gd_t h_x20 g25C)) (hq (get_ge (f := Kid_c) (gd_t h_x20 g25C)) hq0)))))) (hq (fun _ => hq0) (hq (fun g27 => (by have g27C := g27; rw [show ln (eKid_c l1) = lenI_Kid l1 from ln_eq Kid_c _] at g27C; exact (hq g27 (hq g27 (hq trivial hq0))))) (hq (fun _ => hq0) (hq (fun q29 => (by have q29C := q29; rw [show ln (eKid_c l1) = lenI_Kid l1 from ln_eq Kid_c _] at q29C; exact (hq (bo_m q29) hq0))) hq0))))))))))
    rw [show ln (eKid_c l1) = lenI_Kid l1 from ln_eq Kid_c _]
    refine Run.cond (by cbv) (hq0) (fun c30 => ?_) (fun c30 => ?_)
    · have h := if_t c30 h
      refine Run.seq ?_
      refine Run.seq ?_
      refine Run.region hL hT [] (by cbv) ?_ ?_
      · exact (hq trivial hq0)
      refine Run.cond (by cbv) (hq0) (fun c31 => ?_) (fun c31 => ?_)
      · have h := if_t c31 h
        refine Run.seq ?_
        refine Run.region hL hT [] (by cbv) ?_ ?_
        · exact hq0
        refine Run.ret ?_
        cases h
        refine ⟨_, _, by cbv, ?_, ?_⟩
        · exact LLe.r
        · exact (ALe.v LLe.r ALe.nil)
      · have h := if_f c31 h
        refine Run.skip ?_
        refine Run.seq ?_
        obtain ⟨l32, h_l32, h⟩ := bnd h
        obtain ⟨r33, h_r33, h⟩ := bnd h
        refine Run.region hL hT [(6, .call [true, false, true] [.v (.jk), .v (.jk), .v (.jk)] [.v (.ow 105 (eKid_c r33))])] (by cbv) ?_ ?_
        · exact (hq (hC (AC.args (slices_Insert_impl_Kid_ac h_r33) (ALe.v LLe.r (ALe.v LLe.r (ALe.v (LLe.ow (some_le (f := Kid_c) h_l32 (RLe.cons rfl LLe.r RLe.nil))) ALe.nil))))) hq0)
        refine Run.ret ?_
        cases h
        refine ⟨_, _, by cbv, ?_, ?_⟩
        · exact LLe.r
        · exact (ALe.v LLe.r ALe.nil)
    · have h := if_f c30 h
      refine Run.skip ?_
      refine Run.seq ?_
      obtain ⟨⟨x34v_Id, x34v_N⟩, h_x34, h⟩ := bnd h
      obtain ⟨l35, h_l35, h⟩ := bnd h
      refine Run.region hL hT [(4, .el [.s (.int .i64 x34v_Id), .s (.int .i64 x34v_N)])] (by cbv) ?_ ?_
      · exact (hq (get_le h_x34) (hq (get_lt (f := Kid_c) h_x34) (hq (get_le h_x34) (hq (get_lt (f := Kid_c) h_x34) (hq (get_ge (f := Kid_c) h_x34) (hq trivial (hq (get_le h_x34) (hq (get_lt (f := Kid_c) h_x34) (hq (get_le h_x34) (hq (get_lt (f := Kid_c) h_x34) hq0))))))))))
      refine Run.row (rows := (up (eKid_c l1) y2 1 [.s (.int .i64 (ar .add .i64 x34v_N a2))])) 1 (eKid_c l35) (by cbv) (sto_le (f := Kid_c) h_x34 h_l35 rfl LLe.r) ?_
      refine Run.seq ?_
      refine Run.seq ?_
      obtain ⟨⟨x36v_Id, x36v_N⟩, h_x36, h⟩ := bnd h
      refine Run.region hL hT [(4, .el [.s (.int .i64 x36v_Id), .s (.int .i64 x36v_N)])] (by cbv) ?_ ?_
      · exact (hq (get_le h_x36) (hq (get_lt (f := Kid_c) h_x36) (hq (get_le h_x36) (hq (get_lt (f := Kid_c) h_x36) (hq (get_ge (f := Kid_c) h_x36) (hq trivial hq0))))))
      refine Run.cond (by cbv) (hq0) (fun c37 => ?_) (fun c37 => ?_)
      · have h := if_t c37 h
        refine Run.seq ?_
        obtain ⟨r38, h_r38, h⟩ := bnd h
        refine Run.region hL hT [(4, .call [true, false, false] [.v (.jk), .v (.jk), .v (.jk)] [.v (.ow 105 (eKid_c r38))])] (by cbv) ?_ ?_
        · exact (hq trivial (hq (hC (slices_Delete_impl_Kid_ac h_r38)) hq0))
        refine Run.ret ?_
        cases h
        refine ⟨_, _, by cbv, ?_, ?_⟩
        · exact LLe.r
        · exact (ALe.v LLe.r ALe.nil)
      · have h := if_f c37 h
        refine Run.skip ?_
        refine Run.seq ?_
        refine Run.region hL hT [] (by cbv) ?_ ?_
        · exact hq0
        refine Run.ret ?_
        cases h
        refine ⟨_, _, by cbv, ?_, ?_⟩
        · exact LLe.r
        · exact (ALe.v LLe.r ALe.nil)

set_option maxRecDepth 8000 in
theorem impl_ViewOf_ac {a0v_Schemav_Cols : List Int} {a0v_Version : Int} {a0v_Tables : List (List Row)} {a1v_Table : Int} {a1v_Where : List Cond} {a1v_Order : Int} {a1v_Down : Bool} {a1v_First : Int} {a1v_Show : List Int} {a1v_Kids : Bool} {a1v_KidTable : Int} {a1v_KidCol : Int} {r : View × Bool} (h : impl_ViewOf.f (Store.mk (Schema.mk a0v_Schemav_Cols) a0v_Version a0v_Tables) (Query.mk a1v_Table a1v_Where a1v_Order a1v_Down a1v_First a1v_Show a1v_Kids a1v_KidTable a1v_KidCol) = some r) : AC Try.prog 19 [.ag [.im false (rowsOf Int_c a0v_Schemav_Cols), .s (.int .i64 a0v_Version), .im false (rowsOf RowS_i a0v_Tables)], .ag [.s (.int .i64 a1v_Table), .im false (rowsOf Cond_c a1v_Where), .s (.int .i64 a1v_Order), .s (.bool a1v_Down), .s (.int .i64 a1v_First), .im false (rowsOf Int_c a1v_Show), .s (.bool a1v_Kids), .s (.int .i64 a1v_KidTable), .s (.int .i64 a1v_KidCol)]] [.ag [.jk, .jk, .jk], .ag [.jk, .jk, .jk, .jk, .jk, .jk, .jk, .jk, .jk]] [.ag [.s (.int .i64 r.1.Q.Table), .ow 94 (rowsOf Cond_c r.1.Q.Where), .s (.int .i64 r.1.Q.Order), .s (.bool r.1.Q.Down), .s (.int .i64 r.1.Q.First), .ow 3 (rowsOf Int_c r.1.Q.Show), .s (.bool r.1.Q.Kids), .s (.int .i64 r.1.Q.KidTable), .s (.int .i64 r.1.Q.KidCol), .ow 66 (rowsOf Row_o r.1.Rows), .ow 105 (rowsOf Kid_c r.1.Kids)], .v (.s (.bool r.2))] := by
  unfold impl_ViewOf.f at h
  let ar := Ls.ar; let cm := Ls.cm; let bo := Ls.bo; let sc := Ls.sc; let sa := Ls.sa; let sx := Ls.sx; let ss := Ls.ss; let sl := Ls.sl; let bs := Ls.bs; let sb := Ls.sb; let ln := Ls.ln; let sr := Ls.sr; let ap := Ls.ap; let up := Ls.up; let rp := Ls.rp; let fr := Ls.fr; let ge := Ls.ge; let le := Ls.le; let lt := Ls.lt; let nz := Ls.nz; let mm := Ls.mm; let ma := Ls.ma; let sm := Ls.sm; let fl := Ls.fl; let al := Ls.al; let ci := Ls.ci
  let eCond_c := rowsOf Cond_c
  let eInt_c := rowsOf Int_c
  let eKid_c := rowsOf Kid_c
  let eRowS_i := rowsOf RowS_i
  let eRow_i := rowsOf Row_i
  let eRow_o := rowsOf Row_o
  let lenI_Row := @lenI Row
  have hL : (⟨ar, cm, bo, sc, sa, sx, ss, sl, bs, sb, ln, sr, ap, up, rp, fr, ge, le, lt, nz, mm, ma, sm, fl, al, ci⟩ : Lf) = Ls := rfl
  show AC Try.prog 19 [.ag [.im false (eInt_c a0v_Schemav_Cols), .s (.int .i64 a0v_Version), .im false (eRowS_i a0v_Tables)], .ag [.s (.int .i64 a1v_Table), .im false (eCond_c a1v_Where), .s (.int .i64 a1v_Order), .s (.bool a1v_Down), .s (.int .i64 a1v_First), .im false (eInt_c a1v_Show), .s (.bool a1v_Kids), .s (.int .i64 a1v_KidTable), .s (.int .i64 a1v_KidCol)]] _ _
  refine AC.of_run2 tab_ok Try.func19 (by rfl) (by rfl) (by cbv) ⟨by decide, rfl⟩ fun F hP hA => ?_
  have hT : TabOk F.P tab := hP ▸ tab_ok
  have hM : F.P.follows .mixedOrders = true := hP ▸ mixed
  have hC : ∀ {f a o r}, AC Try.prog f a o r → AC F.P f a o r := fun h => hP ▸ h
  refine Run.seq ?_
  refine Run.region hL hT [] (by cbv) ?_ ?_
  · exact hq0
  refine Run.seq ?_
  refine Run.seq ?_
  obtain ⟨r1, h_r1, h⟩ := bnd h
  obtain ⟨r2, h_r2, h⟩ := bnd h
  refine Run.region hL hT [(1, .call [false] [.ag [.jk, .jk, .jk]] [.v (.s (.bool r1))]), (7, .call [false, false] [.ag [.jk], .ag [.jk, .jk, .jk, .jk, .jk, .jk, .jk, .jk, .jk]] [.v (.s (.bool r2))])] (by cbv) ?_ ?_
  · exact (hq trivial (hq (hC (impl_StoreOk_ac h_r1)) (hq (fun _ => hq0) (hq (fun g4 => (hq g4 (hq trivial hq0))) (hq (fun g5 => (hq trivial hq0)) (hq (fun g6 => (hq g6 (hq g6 (hq (hC (impl_QueryOk_ac (gd_t h_r2 g6))) hq0)))) (hq (fun g7 => (hq g7 hq0)) (hq (fun _ => hq0) (hq (fun q9 => (hq (bo_m q9) hq0)) hq0)))))))))
  refine Run.cond (by cbv) (hq0) (fun c10 => ?_) (fun c10 => ?_)
  · have h := if_t c10 h
    refine Run.seq ?_
    refine Run.region hL hT [] (by cbv) ?_ ?_
    · exact (hq trivial hq0)
    refine Run.ret ?_
    cases h
    refine ⟨_, _, by cbv, ?_, ?_⟩
    · exact LLe.r
    · exact (ALe.ag rfl (LLe.c (LLe.cons LLe.nilO (LLe.c (LLe.c (LLe.c (LLe.cons LLe.nilO (LLe.c (LLe.c (LLe.c (LLe.cons LLe.nilO (LLe.cons LLe.nilO LLe.nil))))))))))) (ALe.v LLe.r ALe.nil))
  · have h := if_f c10 h
    refine Run.skip ?_
    refine Run.seq ?_
    obtain ⟨⟨r11v_Table, r11v_Where, r11v_Order, r11v_Down, r11v_First, r11v_Show, r11v_Kids, r11v_KidTable, r11v_KidCol⟩, h_r11, h⟩ := bnd h
    obtain ⟨r12, h_r12, h⟩ := bnd h
    refine Run.draw hL hT hM [(1, .call [false] [.ag [.jk, .jk, .jk, .jk, .jk, .jk, .jk, .jk, .jk]] [.ag [.s (.int .i64 r11v_Table), .ow 94 (eCond_c r11v_Where), .s (.int .i64 r11v_Order), .s (.bool r11v_Down), .s (.int .i64 r11v_First), .ow 3 (eInt_c r11v_Show), .s (.bool r11v_Kids), .s (.int .i64 r11v_KidTable), .s (.int .i64 r11v_KidCol)]]), (4, .call [false, false] [.ag [.jk, .jk, .jk], .ag [.jk, .jk, .jk, .jk, .jk, .jk, .jk, .jk, .jk]] [.v (.ow 66 (eRow_o r12))])] (by cbv) (by cbv) (by cbv) (by cbv) (by cbv) ?_ ?_
    · exact (hq trivial (hq (hC (impl_copyQuery_ac h_r11)) (hq trivial (hq trivial (hq (hC (impl_RowsFor_ac h_r12)) (hq trivial hq0))))))
    refine Run.seq ?_
    refine Run.seq ?_
    refine Run.region hL hT [] (by cbv) ?_ ?_
    · exact (hq trivial hq0)
    refine Run.cond (by cbv) (hq0) (fun c13 => ?_) (fun c13 => ?_)
    · have h := if_t c13 h
      refine Run.seq ?_
      obtain ⟨x14, h_x14, h⟩ := bnd h
      refine Run.region hL hT [(4, .el [.im false (eRow_i x14)])] (by cbv) ?_ ?_
      · exact (hq trivial (hq trivial (hq (get_le h_x14) (hq (get_lt (f := RowS_i) h_x14) (hq (get_ge (f := RowS_i) h_x14) hq0)))))
      rw [show ln (eRow_i x14) = lenI_Row x14 from ln_eq Row_i _]
      refine Run.block ?_
      refine Run.loop2 (fun (z74 : List Kid) (z75 : Int) => ⟨51, 100000, [(3, .pt 1 0 0), (4, .pt 2 0 0), (6, .pt 3 0 0), (33, .t (.im false (eRow_i x14))), (34, .t (.s (.int .i64 (lenI_Row x14)))), (35, .t (.s (.int .i64 z75)))], [(1, .box 42 [.t (.s (.int .i64 a1v_Table)), .t (.im false (eCond_c a1v_Where)), .t (.s (.int .i64 a1v_Order)), .t (.s (.bool a1v_Down)), .t (.s (.int .i64 a1v_First)), .t (.im false (eInt_c a1v_Show)), .t (.s (.bool a1v_Kids)), .t (.s (.int .i64 a1v_KidTable)), .t (.s (.int .i64 a1v_KidCol))]), (2, .box 53 [.t (.s (.int .i64 0)), .t (.s (.slice none 0 0)), .t (.s (.int .i64 0)), .t (.s (.bool false)), .t (.s (.int .i64 0)), .t (.s (.slice none 0 0)), .t (.s (.bool false)), .t (.s (.int .i64 0)), .t (.s (.int .i64 0)), .t (.s (.slice none 0 0)), .t (.s (.slice none 0 0))]), (3, .box 53 [.t (.s (.int .i64 r11v_Table)), .rf 4, .t (.s (.int .i64 r11v_Order)), .t (.s (.bool r11v_Down)), .t (.s (.int .i64 r11v_First)), .rf 5, .t (.s (.bool r11v_Kids)), .t (.s (.int .i64 r11v_KidTable)), .t (.s (.int .i64 r11v_KidCol)), .rf 6, .rf 7]), (4, .row 0 94 3 (eCond_c r11v_Where)), (5, .row 0 3 1 (eInt_c r11v_Show)), (6, .row 0 66 2 (eRow_o r12)), (7, .row 0 105 2 (eKid_c z74))]⟩) (x0 := []) (x1 := 0) h ((Weak.nilB (l := [.t (.s (.int .i64 r11v_Table)), .rf 8193, .t (.s (.int .i64 r11v_Order)), .t (.s (.bool r11v_Down)), .t (.s (.int .i64 r11v_First)), .rf 8449, .t (.s (.bool r11v_Kids)), .t (.s (.int .i64 r11v_KidTable)), .t (.s (.int .i64 r11v_KidCol)), .rf 8196]) hT 8198 10 21480 105 rfl (by cbv) (by cbv) (by cbv)).trans (Weak.of _ [(1, 1), (2, 2), (3, 8198), (4, 8193), (5, 8449), (6, 8196), (7, 21480)] hA (by cbv) ?_)) (fun _ _ => rfl) ?_
      · repeat (first | exact hq0 | refine hq (by first | exact True.intro | rfl) ?_)
      · intro k z74 z75 h
        rw [impl_ViewOf.l0] at h
        refine Run.seq ?_
        refine Run.region hL hT [] (by cbv) ?_ ?_
        · exact (hq trivial hq0)
        refine Run.seq ?_
        refine Run.cond (by cbv) (hq0) (fun c76 => ?_) (fun c76 => ?_)
        · have h := if_t c76 h
          refine Run.skip ?_
          refine Run.seq ?_
          refine Run.block ?_
          refine Run.seq ?_
          obtain ⟨⟨x77v_Id, x77v_Cells⟩, h_x77, h⟩ := bnd h
          refine Run.region hL hT [(0, .el [.s (.int .i64 x77v_Id), .im false (eInt_c x77v_Cells)])] (by cbv) ?_ ?_
          · exact (hq (get_le h_x77) (hq (get_lt (f := Row_i) h_x77) (hq (get_ge (f := Row_i) h_x77) (hq trivial hq0))))
          obtain ⟨x78, h_x78, h⟩ := bnd h
          obtain ⟨r79, h_r79, h⟩ := bnd h
          refine Run.draw hL hT hM [(6, .el [.s (.int .i64 x78)]), (8, .call [false, false, false] [.v (.jk), .v (.jk), .v (.jk)] [.v (.ow 105 (eKid_c r79))])] (by cbv) (by cbv) (by cbv) (by cbv) (by cbv) ?_ ?_
          · exact (hq trivial (hq trivial (hq trivial (hq (get_le h_x78) (hq (get_lt (f := Int_c) h_x78) (hq (get_ge (f := Int_c) h_x78) (hq (hC (AC.args (impl_KidPut_ac h_r79) (ALe.v (LLe.im (RLe.eq (fr_row Kid_c_z _))) (ALe.v LLe.r (ALe.v LLe.r ALe.nil))))) (hq trivial hq0))))))))
          refine Run.region hL hT [] (by cbv) ?_ ?_
          · exact (hq trivial hq0)
          refine ⟨r79, (ar .add .i64 z75 1), h, Weak.of _ [(1, 1), (2, 2), (3, 3), (4, 4), (5, 5), (6, 6), (7, 108200)] hA (by cbv) ?_⟩
          repeat (first | exact hq0 | refine hq (by first | exact True.intro | rfl) ?_)
        · have h := if_f c76 h
          refine Run.exit ?_
          refine Run.seq ?_
          refine Run.region hL hT [] (by cbv) ?_ ?_
          · exact (hq trivial (hq trivial hq0))
          refine Run.ret ?_
          cases h
          refine ⟨_, _, by cbv, ?_, ?_⟩
          · exact LLe.r
          · exact (ALe.ag rfl LLe.r (ALe.v LLe.r ALe.nil))
    · have h := if_f c13 h
      refine Run.skip ?_
      refine Run.seq ?_
      refine Run.region hL hT [] (by cbv) ?_ ?_
      · exact (hq trivial (hq trivial hq0))
      refine Run.ret ?_
      cases h
      refine ⟨_, _, by cbv, ?_, ?_⟩
      · exact LLe.r
      · exact (ALe.ag rfl (LLe.c (LLe.c (LLe.c (LLe.c (LLe.c (LLe.c (LLe.c (LLe.c (LLe.c (LLe.c (LLe.cons LLe.nilO LLe.nil))))))))))) (ALe.v LLe.r ALe.nil))

set_option maxRecDepth 8000 in
theorem laws_eqKid_ac {a0v_Id : Int} {a0v_N : Int} {a1v_Id : Int} {a1v_N : Int} {r : Bool} (h : laws_eqKid.f (Kid.mk a0v_Id a0v_N) (Kid.mk a1v_Id a1v_N) = some r) : AC Try.prog 83 [.ag [.s (.int .i64 a0v_Id), .s (.int .i64 a0v_N)], .ag [.s (.int .i64 a1v_Id), .s (.int .i64 a1v_N)]] [.ag [.jk, .jk], .ag [.jk, .jk]] [.v (.s (.bool r))] := by
  unfold laws_eqKid.f at h
  let ar := Ls.ar; let cm := Ls.cm; let bo := Ls.bo; let sc := Ls.sc; let sa := Ls.sa; let sx := Ls.sx; let ss := Ls.ss; let sl := Ls.sl; let bs := Ls.bs; let sb := Ls.sb; let ln := Ls.ln; let sr := Ls.sr; let ap := Ls.ap; let up := Ls.up; let rp := Ls.rp; let fr := Ls.fr; let ge := Ls.ge; let le := Ls.le; let lt := Ls.lt; let nz := Ls.nz; let mm := Ls.mm; let ma := Ls.ma; let sm := Ls.sm; let fl := Ls.fl; let al := Ls.al; let ci := Ls.ci
  have hL : (⟨ar, cm, bo, sc, sa, sx, ss, sl, bs, sb, ln, sr, ap, up, rp, fr, ge, le, lt, nz, mm, ma, sm, fl, al, ci⟩ : Lf) = Ls := rfl
  show AC Try.prog 83 [.ag [.s (.int .i64 a0v_Id), .s (.int .i64 a0v_N)], .ag [.s (.int .i64 a1v_Id), .s (.int .i64 a1v_N)]] _ _
  refine AC.of_run2 tab_ok Try.func83 (by rfl) (by rfl) (by cbv) ⟨by decide, rfl⟩ fun F hP hA => ?_
  have hT : TabOk F.P tab := hP ▸ tab_ok
  have hM : F.P.follows .mixedOrders = true := hP ▸ mixed
  have hC : ∀ {f a o r}, AC Try.prog f a o r → AC F.P f a o r := fun h => hP ▸ h
  refine Run.seq ?_
  refine Run.region hL hT [] (by cbv) ?_ ?_
  · exact hq0
  refine Run.seq ?_
  refine Run.seq ?_
  refine Run.region hL hT [] (by cbv) ?_ ?_
  · exact (hq trivial (hq trivial (hq trivial hq0)))
  refine Run.cond (by cbv) (hq0) (fun c1 => ?_) (fun c1 => ?_)
  · have h := if_t c1 h
    refine Run.seq ?_
    refine Run.region hL hT [] (by cbv) ?_ ?_
    · exact hq0
    refine Run.ret ?_
    cases h
    refine ⟨_, _, by cbv, ?_, ?_⟩
    · exact LLe.r
    · exact (ALe.v LLe.r ALe.nil)
  · have h := if_f c1 h
    refine Run.skip ?_
    refine Run.seq ?_
    refine Run.seq ?_
    refine Run.region hL hT [] (by cbv) ?_ ?_
    · exact (hq trivial (hq trivial (hq trivial hq0)))
    refine Run.cond (by cbv) (hq0) (fun c2 => ?_) (fun c2 => ?_)
    · have h := if_t c2 h
      refine Run.seq ?_
      refine Run.region hL hT [] (by cbv) ?_ ?_
      · exact hq0
      refine Run.ret ?_
      cases h
      refine ⟨_, _, by cbv, ?_, ?_⟩
      · exact LLe.r
      · exact (ALe.v LLe.r ALe.nil)
    · have h := if_f c2 h
      refine Run.skip ?_
      refine Run.seq ?_
      refine Run.region hL hT [] (by cbv) ?_ ?_
      · exact hq0
      refine Run.ret ?_
      cases h
      refine ⟨_, _, by cbv, ?_, ?_⟩
      · exact LLe.r
      · exact (ALe.v LLe.r ALe.nil)

set_option maxRecDepth 8000 in
theorem laws_eqKidS_ac {a0 : List Kid} {a1 : List Kid} {r : Bool} (h : laws_eqKidS.f a0 a1 = some r) : AC Try.prog 56 [.v (.im false (rowsOf Kid_c a0)), .v (.im false (rowsOf Kid_c a1))] [.v (.jk), .v (.jk)] [.v (.s (.bool r))] := by
  unfold laws_eqKidS.f at h
  let ar := Ls.ar; let cm := Ls.cm; let bo := Ls.bo; let sc := Ls.sc; let sa := Ls.sa; let sx := Ls.sx; let ss := Ls.ss; let sl := Ls.sl; let bs := Ls.bs; let sb := Ls.sb; let ln := Ls.ln; let sr := Ls.sr; let ap := Ls.ap; let up := Ls.up; let rp := Ls.rp; let fr := Ls.fr; let ge := Ls.ge; let le := Ls.le; let lt := Ls.lt; let nz := Ls.nz; let mm := Ls.mm; let ma := Ls.ma; let sm := Ls.sm; let fl := Ls.fl; let al := Ls.al; let ci := Ls.ci
  let eKid_c := rowsOf Kid_c
  let lenI_Kid := @lenI Kid
  have hL : (⟨ar, cm, bo, sc, sa, sx, ss, sl, bs, sb, ln, sr, ap, up, rp, fr, ge, le, lt, nz, mm, ma, sm, fl, al, ci⟩ : Lf) = Ls := rfl
  show AC Try.prog 56 [.v (.im false (eKid_c a0)), .v (.im false (eKid_c a1))] _ _
  refine AC.of_run2 tab_ok Try.func56 (by rfl) (by rfl) (by cbv) ⟨by decide, rfl⟩ fun F hP hA => ?_
  have hT : TabOk F.P tab := hP ▸ tab_ok
  have hM : F.P.follows .mixedOrders = true := hP ▸ mixed
  have hC : ∀ {f a o r}, AC Try.prog f a o r → AC F.P f a o r := fun h => hP ▸ h
  refine Run.seq ?_
  refine Run.region hL hT [] (by cbv) ?_ ?_
  · exact hq0
  refine Run.seq ?_
  refine Run.seq ?_
  refine Run.region hL hT [] (by cbv) ?_ ?_
  · exact (hq trivial hq0)
  rw [show ln (eKid_c a0) = lenI_Kid a0 from ln_eq Kid_c _]
  rw [show ln (eKid_c a1) = lenI_Kid a1 from ln_eq Kid_c _]
  refine Run.cond (by cbv) (hq0) (fun c1 => ?_) (fun c1 => ?_)
  · have h := if_t c1 h
    refine Run.seq ?_
    refine Run.region hL hT [] (by cbv) ?_ ?_
    · exact hq0
    refine Run.ret ?_
    cases h
    refine ⟨_, _, by cbv, ?_, ?_⟩
    · exact LLe.r
    · exact (ALe.v LLe.r ALe.nil)
  · have h := if_f c1 h
    refine Run.skip ?_
    refine Run.seq ?_
    refine Run.seq ?_
    refine Run.region hL hT [] (by cbv) ?_ ?_
    · exact hq0
    refine Run.block ?_
    refine Run.loop1 (fun (z5 : Int) => ⟨27, 100000, [(0, .t (.im false (eKid_c a0))), (1, .t (.im false (eKid_c a1))), (5, .t (.s (.int .i64 z5)))], []⟩) (x0 := 0) h (Weak.of _ [] hA (by cbv) ?_) (fun _ => rfl) ?_
    · repeat (first | exact hq0 | refine hq (by first | exact True.intro | rfl) ?_)
    · intro k z5 h
      rw [laws_eqKidS.l0] at h
      refine Run.seq ?_
      refine Run.seq ?_
      refine Run.region hL hT [] (by cbv) ?_ ?_
      · exact (hq trivial hq0)
      rw [show ln (eKid_c a0) = lenI_Kid a0 from ln_eq Kid_c _]
      refine Run.cond (by cbv) (hq0) (fun c6 => ?_) (fun c6 => ?_)
      · have h := if_t c6 h
        refine Run.skip ?_
        refine Run.seq ?_
        refine Run.block ?_
        refine Run.seq ?_
        obtain ⟨⟨x7v_Id, x7v_N⟩, h_x7, h⟩ := bnd h
        obtain ⟨⟨x8v_Id, x8v_N⟩, h_x8, h⟩ := bnd h
        obtain ⟨r9, h_r9, h⟩ := bnd h
        refine Run.draw hL hT hM [(2, .el [.s (.int .i64 x7v_Id), .s (.int .i64 x7v_N)]), (6, .el [.s (.int .i64 x8v_Id), .s (.int .i64 x8v_N)]), (8, .call [false, false] [.ag [.jk, .jk], .ag [.jk, .jk]] [.v (.s (.bool r9))])] (by cbv) (by cbv) (by cbv) (by cbv) (by cbv) ?_ ?_
        · exact (hq (get_le h_x7) (hq (get_lt (f := Kid_c) h_x7) (hq (get_ge (f := Kid_c) h_x7) (hq (get_le h_x8) (hq (get_lt (f := Kid_c) h_x8) (hq (get_ge (f := Kid_c) h_x8) (hq (hC (laws_eqKid_ac h_r9)) hq0)))))))
        refine Run.cond (by cbv) (hq0) (fun c10 => ?_) (fun c10 => ?_)
        · have h := if_t c10 h
          refine Run.seq ?_
          refine Run.region hL hT [] (by cbv) ?_ ?_
          · exact hq0
          refine Run.ret ?_
          cases h
          refine ⟨_, _, by cbv, ?_, ?_⟩
          · exact LLe.r
          · exact (ALe.v LLe.r ALe.nil)
        · have h := if_f c10 h
          refine Run.skip ?_
          refine Run.region hL hT [] (by cbv) ?_ ?_
          · exact (hq trivial hq0)
          refine ⟨(ar .add .i64 z5 1), h, Weak.of _ [] hA (by cbv) ?_⟩
          repeat (first | exact hq0 | refine hq (by first | exact True.intro | rfl) ?_)
      · have h := if_f c6 h
        refine Run.exit ?_
        refine Run.seq ?_
        refine Run.region hL hT [] (by cbv) ?_ ?_
        · exact hq0
        refine Run.ret ?_
        cases h
        refine ⟨_, _, by cbv, ?_, ?_⟩
        · exact LLe.r
        · exact (ALe.v LLe.r ALe.nil)

set_option maxRecDepth 8000 in
theorem laws_eqView_ac {a0v_Qv_Table : Int} {a0v_Qv_Where : List Cond} {a0v_Qv_Order : Int} {a0v_Qv_Down : Bool} {a0v_Qv_First : Int} {a0v_Qv_Show : List Int} {a0v_Qv_Kids : Bool} {a0v_Qv_KidTable : Int} {a0v_Qv_KidCol : Int} {a0v_Rows : List Row} {a0v_Kids : List Kid} {a1v_Qv_Table : Int} {a1v_Qv_Where : List Cond} {a1v_Qv_Order : Int} {a1v_Qv_Down : Bool} {a1v_Qv_First : Int} {a1v_Qv_Show : List Int} {a1v_Qv_Kids : Bool} {a1v_Qv_KidTable : Int} {a1v_Qv_KidCol : Int} {a1v_Rows : List Row} {a1v_Kids : List Kid} {r : Bool} (h : laws_eqView.f (View.mk (Query.mk a0v_Qv_Table a0v_Qv_Where a0v_Qv_Order a0v_Qv_Down a0v_Qv_First a0v_Qv_Show a0v_Qv_Kids a0v_Qv_KidTable a0v_Qv_KidCol) a0v_Rows a0v_Kids) (View.mk (Query.mk a1v_Qv_Table a1v_Qv_Where a1v_Qv_Order a1v_Qv_Down a1v_Qv_First a1v_Qv_Show a1v_Qv_Kids a1v_Qv_KidTable a1v_Qv_KidCol) a1v_Rows a1v_Kids) = some r) : AC Try.prog 20 [.ag [.s (.int .i64 a0v_Qv_Table), .im false (rowsOf Cond_c a0v_Qv_Where), .s (.int .i64 a0v_Qv_Order), .s (.bool a0v_Qv_Down), .s (.int .i64 a0v_Qv_First), .im false (rowsOf Int_c a0v_Qv_Show), .s (.bool a0v_Qv_Kids), .s (.int .i64 a0v_Qv_KidTable), .s (.int .i64 a0v_Qv_KidCol), .im false (rowsOf Row_i a0v_Rows), .im false (rowsOf Kid_c a0v_Kids)], .ag [.s (.int .i64 a1v_Qv_Table), .im false (rowsOf Cond_c a1v_Qv_Where), .s (.int .i64 a1v_Qv_Order), .s (.bool a1v_Qv_Down), .s (.int .i64 a1v_Qv_First), .im false (rowsOf Int_c a1v_Qv_Show), .s (.bool a1v_Qv_Kids), .s (.int .i64 a1v_Qv_KidTable), .s (.int .i64 a1v_Qv_KidCol), .im false (rowsOf Row_i a1v_Rows), .im false (rowsOf Kid_c a1v_Kids)]] [.ag [.jk, .jk, .jk, .jk, .jk, .jk, .jk, .jk, .jk, .jk, .jk], .ag [.jk, .jk, .jk, .jk, .jk, .jk, .jk, .jk, .jk, .jk, .jk]] [.v (.s (.bool r))] := by
  unfold laws_eqView.f at h
  let ar := Ls.ar; let cm := Ls.cm; let bo := Ls.bo; let sc := Ls.sc; let sa := Ls.sa; let sx := Ls.sx; let ss := Ls.ss; let sl := Ls.sl; let bs := Ls.bs; let sb := Ls.sb; let ln := Ls.ln; let sr := Ls.sr; let ap := Ls.ap; let up := Ls.up; let rp := Ls.rp; let fr := Ls.fr; let ge := Ls.ge; let le := Ls.le; let lt := Ls.lt; let nz := Ls.nz; let mm := Ls.mm; let ma := Ls.ma; let sm := Ls.sm; let fl := Ls.fl; let al := Ls.al; let ci := Ls.ci
  let eCond_c := rowsOf Cond_c
  let eInt_c := rowsOf Int_c
  let eKid_c := rowsOf Kid_c
  let eRow_i := rowsOf Row_i
  have hL : (⟨ar, cm, bo, sc, sa, sx, ss, sl, bs, sb, ln, sr, ap, up, rp, fr, ge, le, lt, nz, mm, ma, sm, fl, al, ci⟩ : Lf) = Ls := rfl
  show AC Try.prog 20 [.ag [.s (.int .i64 a0v_Qv_Table), .im false (eCond_c a0v_Qv_Where), .s (.int .i64 a0v_Qv_Order), .s (.bool a0v_Qv_Down), .s (.int .i64 a0v_Qv_First), .im false (eInt_c a0v_Qv_Show), .s (.bool a0v_Qv_Kids), .s (.int .i64 a0v_Qv_KidTable), .s (.int .i64 a0v_Qv_KidCol), .im false (eRow_i a0v_Rows), .im false (eKid_c a0v_Kids)], .ag [.s (.int .i64 a1v_Qv_Table), .im false (eCond_c a1v_Qv_Where), .s (.int .i64 a1v_Qv_Order), .s (.bool a1v_Qv_Down), .s (.int .i64 a1v_Qv_First), .im false (eInt_c a1v_Qv_Show), .s (.bool a1v_Qv_Kids), .s (.int .i64 a1v_Qv_KidTable), .s (.int .i64 a1v_Qv_KidCol), .im false (eRow_i a1v_Rows), .im false (eKid_c a1v_Kids)]] _ _
  refine AC.of_run2 tab_ok Try.func20 (by rfl) (by rfl) (by cbv) ⟨by decide, rfl⟩ fun F hP hA => ?_
  have hT : TabOk F.P tab := hP ▸ tab_ok
  have hM : F.P.follows .mixedOrders = true := hP ▸ mixed
  have hC : ∀ {f a o r}, AC Try.prog f a o r → AC F.P f a o r := fun h => hP ▸ h
  refine Run.seq ?_
  refine Run.region hL hT [] (by cbv) ?_ ?_
  · exact hq0
  refine Run.seq ?_
  refine Run.seq ?_
  obtain ⟨r1, h_r1, h⟩ := bnd h
  refine Run.region hL hT [(4, .call [false, false] [.ag [.jk, .jk, .jk, .jk, .jk, .jk, .jk, .jk, .jk], .ag [.jk, .jk, .jk, .jk, .jk, .jk, .jk, .jk, .jk]] [.v (.s (.bool r1))])] (by cbv) ?_ ?_
  · exact (hq trivial (hq trivial (hq (hC (laws_eqQuery_ac h_r1)) hq0)))
  refine Run.cond (by cbv) (hq0) (fun c2 => ?_) (fun c2 => ?_)
  · have h := if_t c2 h
    refine Run.seq ?_
    refine Run.region hL hT [] (by cbv) ?_ ?_
    · exact hq0
    refine Run.ret ?_
    cases h
    refine ⟨_, _, by cbv, ?_, ?_⟩
    · exact LLe.r
    · exact (ALe.v LLe.r ALe.nil)
  · have h := if_f c2 h
    refine Run.skip ?_
    refine Run.seq ?_
    refine Run.seq ?_
    obtain ⟨r3, h_r3, h⟩ := bnd h
    refine Run.region hL hT [(4, .call [false, false] [.v (.jk), .v (.jk)] [.v (.s (.bool r3))])] (by cbv) ?_ ?_
    · exact (hq trivial (hq trivial (hq (hC (laws_eqRowS_ac h_r3)) hq0)))
    refine Run.cond (by cbv) (hq0) (fun c4 => ?_) (fun c4 => ?_)
    · have h := if_t c4 h
      refine Run.seq ?_
      refine Run.region hL hT [] (by cbv) ?_ ?_
      · exact hq0
      refine Run.ret ?_
      cases h
      refine ⟨_, _, by cbv, ?_, ?_⟩
      · exact LLe.r
      · exact (ALe.v LLe.r ALe.nil)
    · have h := if_f c4 h
      refine Run.skip ?_
      refine Run.seq ?_
      refine Run.seq ?_
      obtain ⟨r5, h_r5, h⟩ := bnd h
      refine Run.region hL hT [(4, .call [false, false] [.v (.jk), .v (.jk)] [.v (.s (.bool r5))])] (by cbv) ?_ ?_
      · exact (hq trivial (hq trivial (hq (hC (laws_eqKidS_ac h_r5)) hq0)))
      refine Run.cond (by cbv) (hq0) (fun c6 => ?_) (fun c6 => ?_)
      · have h := if_t c6 h
        refine Run.seq ?_
        refine Run.region hL hT [] (by cbv) ?_ ?_
        · exact hq0
        refine Run.ret ?_
        cases h
        refine ⟨_, _, by cbv, ?_, ?_⟩
        · exact LLe.r
        · exact (ALe.v LLe.r ALe.nil)
      · have h := if_f c6 h
        refine Run.skip ?_
        refine Run.seq ?_
        refine Run.region hL hT [] (by cbv) ?_ ?_
        · exact hq0
        refine Run.ret ?_
        cases h
        refine ⟨_, _, by cbv, ?_, ?_⟩
        · exact LLe.r
        · exact (ALe.v LLe.r ALe.nil)

set_option maxRecDepth 8000 in
theorem laws_markKidS_ac {a0 : List Kid} {a1 : Int} {r : (List Kid) × Int} (h : laws_markKidS.f a0 a1 = some r) : AC Try.prog 57 [.v (.ow 105 (rowsOf Kid_c a0)), .v (.s (.int .i64 a1))] [.v (.ow 105 (rowsOf Kid_c r.1)), .v (.jk)] [.v (.s (.int .i64 r.2))] := by
  unfold laws_markKidS.f at h
  let ar := Ls.ar; let cm := Ls.cm; let bo := Ls.bo; let sc := Ls.sc; let sa := Ls.sa; let sx := Ls.sx; let ss := Ls.ss; let sl := Ls.sl; let bs := Ls.bs; let sb := Ls.sb; let ln := Ls.ln; let sr := Ls.sr; let ap := Ls.ap; let up := Ls.up; let rp := Ls.rp; let fr := Ls.fr; let ge := Ls.ge; let le := Ls.le; let lt := Ls.lt; let nz := Ls.nz; let mm := Ls.mm; let ma := Ls.ma; let sm := Ls.sm; let fl := Ls.fl; let al := Ls.al; let ci := Ls.ci
  let eKid_c := rowsOf Kid_c
  let lenI_Kid := @lenI Kid
  have hL : (⟨ar, cm, bo, sc, sa, sx, ss, sl, bs, sb, ln, sr, ap, up, rp, fr, ge, le, lt, nz, mm, ma, sm, fl, al, ci⟩ : Lf) = Ls := rfl
  show AC Try.prog 57 [.v (.ow 105 (eKid_c a0)), .v (.s (.int .i64 a1))] _ _
  refine AC.of_run2 tab_ok Try.func57 (by rfl) (by rfl) (by cbv) ⟨by decide, rfl⟩ fun F hP hA => ?_
  have hT : TabOk F.P tab := hP ▸ tab_ok
  have hM : F.P.follows .mixedOrders = true := hP ▸ mixed
  have hC : ∀ {f a o r}, AC Try.prog f a o r → AC F.P f a o r := fun h => hP ▸ h
  refine Run.seq ?_
  refine Run.region hL hT [] (by cbv) ?_ ?_
  · exact hq0
  refine Run.seq ?_
  refine Run.seq ?_
  refine Run.region hL hT [] (by cbv) ?_ ?_
  · exact hq0
  refine Run.block ?_
  refine Run.loop3 (fun (z4 : List Kid) (z5 : Int) (z6 : Int) => ⟨27, 100000, [(0, .rf 0), (1, .t (.s (.int .i64 z5))), (5, .t (.s (.int .i64 z6)))], [(0, .row 0 105 2 (eKid_c z4))]⟩) (x0 := a0) (x1 := a1) (x2 := 0) h (Weak.of _ [(0, 0)] hA (by cbv) ?_) (fun _ _ _ => rfl) ?_
  · repeat (first | exact hq0 | refine hq (by first | exact True.intro | rfl) ?_)
  · intro k z4 z5 z6 h
    rw [laws_markKidS.l0] at h
    refine Run.seq ?_
    refine Run.seq ?_
    refine Run.region hL hT [] (by cbv) ?_ ?_
    · exact (hq trivial hq0)
    rw [show ln (eKid_c z4) = lenI_Kid z4 from ln_eq Kid_c _]
    refine Run.cond (by cbv) (hq0) (fun c7 => ?_) (fun c7 => ?_)
    · have h := if_t c7 h
      refine Run.skip ?_
      refine Run.seq ?_
      refine Run.block ?_
      refine Run.seq ?_
      obtain ⟨⟨x8v_Id, x8v_N⟩, h_x8, h⟩ := bnd h
      obtain ⟨l9, h_l9, h⟩ := bnd h
      refine Run.region hL hT [] (by cbv) ?_ ?_
      · exact (hq (get_le h_x8) (hq (get_lt (f := Kid_c) h_x8) (hq (get_le h_x8) (hq (get_lt (f := Kid_c) h_x8) hq0))))
      refine Run.row (rows := (up (eKid_c z4) z6 0 [.s (.int .i64 z5)])) 0 (eKid_c l9) (by cbv) (sto_le (f := Kid_c) h_x8 h_l9 rfl LLe.r) ?_
      refine Run.seq ?_
      refine Run.region hL hT [] (by cbv) ?_ ?_
      · exact (hq trivial hq0)
      refine Run.seq ?_
      obtain ⟨⟨x10v_Id, x10v_N⟩, h_x10, h⟩ := bnd h
      obtain ⟨l11, h_l11, h⟩ := bnd h
      refine Run.region hL hT [] (by cbv) ?_ ?_
      · exact (hq (get_le h_x10) (hq (get_lt (f := Kid_c) h_x10) (hq (get_le h_x10) (hq (get_lt (f := Kid_c) h_x10) hq0))))
      refine Run.row (rows := (up (eKid_c l9) z6 1 [.s (.int .i64 (ar .add .i64 z5 1))])) 0 (eKid_c l11) (by cbv) (sto_le (f := Kid_c) h_x10 h_l11 rfl LLe.r) ?_
      refine Run.region hL hT [] (by cbv) ?_ ?_
      · exact (hq trivial hq0)
      refine Run.region hL hT [] (by cbv) ?_ ?_
      · exact (hq trivial hq0)
      refine ⟨l11, (ar .add .i64 (ar .add .i64 z5 1) 1), (ar .add .i64 z6 1), h, Weak.of _ [(0, 0)] hA (by cbv) ?_⟩
      repeat (first | exact hq0 | refine hq (by first | exact True.intro | rfl) ?_)
    · have h := if_f c7 h
      refine Run.exit ?_
      refine Run.seq ?_
      refine Run.region hL hT [] (by cbv) ?_ ?_
      · exact hq0
      refine Run.ret ?_
      cases h
      refine ⟨_, _, by cbv, ?_, ?_⟩
      · exact LLe.r
      · exact (ALe.v LLe.r ALe.nil)

set_option maxRecDepth 8000 in
theorem laws_markView_ac {a0v_Qv_Table : Int} {a0v_Qv_Where : List Cond} {a0v_Qv_Order : Int} {a0v_Qv_Down : Bool} {a0v_Qv_First : Int} {a0v_Qv_Show : List Int} {a0v_Qv_Kids : Bool} {a0v_Qv_KidTable : Int} {a0v_Qv_KidCol : Int} {a0v_Rows : List Row} {a0v_Kids : List Kid} {a1 : Int} {r : View × Int} (h : laws_markView.f (View.mk (Query.mk a0v_Qv_Table a0v_Qv_Where a0v_Qv_Order a0v_Qv_Down a0v_Qv_First a0v_Qv_Show a0v_Qv_Kids a0v_Qv_KidTable a0v_Qv_KidCol) a0v_Rows a0v_Kids) a1 = some r) : AC Try.prog 21 [.ag [.s (.int .i64 a0v_Qv_Table), .ow 94 (rowsOf Cond_c a0v_Qv_Where), .s (.int .i64 a0v_Qv_Order), .s (.bool a0v_Qv_Down), .s (.int .i64 a0v_Qv_First), .ow 3 (rowsOf Int_c a0v_Qv_Show), .s (.bool a0v_Qv_Kids), .s (.int .i64 a0v_Qv_KidTable), .s (.int .i64 a0v_Qv_KidCol), .ow 66 (rowsOf Row_o a0v_Rows), .ow 105 (rowsOf Kid_c a0v_Kids)], .v (.s (.int .i64 a1))] [.ag [.jk, .ow 94 (rowsOf Cond_c r.1.Q.Where), .jk, .jk, .jk, .ow 3 (rowsOf Int_c r.1.Q.Show), .jk, .jk, .jk, .ow 66 (rowsOf Row_o r.1.Rows), .ow 105 (rowsOf Kid_c r.1.Kids)], .v (.jk)] [.v (.s (.int .i64 r.2))] := by
  unfold laws_markView.f at h
  let ar := Ls.ar; let cm := Ls.cm; let bo := Ls.bo; let sc := Ls.sc; let sa := Ls.sa; let sx := Ls.sx; let ss := Ls.ss; let sl := Ls.sl; let bs := Ls.bs; let sb := Ls.sb; let ln := Ls.ln; let sr := Ls.sr; let ap := Ls.ap; let up := Ls.up; let rp := Ls.rp; let fr := Ls.fr; let ge := Ls.ge; let le := Ls.le; let lt := Ls.lt; let nz := Ls.nz; let mm := Ls.mm; let ma := Ls.ma; let sm := Ls.sm; let fl := Ls.fl; let al := Ls.al; let ci := Ls.ci
  let eCond_c := rowsOf Cond_c
  let eInt_c := rowsOf Int_c
  let eKid_c := rowsOf Kid_c
  let eRow_o := rowsOf Row_o
  have hL : (⟨ar, cm, bo, sc, sa, sx, ss, sl, bs, sb, ln, sr, ap, up, rp, fr, ge, le, lt, nz, mm, ma, sm, fl, al, ci⟩ : Lf) = Ls := rfl
  show AC Try.prog 21 [.ag [.s (.int .i64 a0v_Qv_Table), .ow 94 (eCond_c a0v_Qv_Where), .s (.int .i64 a0v_Qv_Order), .s (.bool a0v_Qv_Down), .s (.int .i64 a0v_Qv_First), .ow 3 (eInt_c a0v_Qv_Show), .s (.bool a0v_Qv_Kids), .s (.int .i64 a0v_Qv_KidTable), .s (.int .i64 a0v_Qv_KidCol), .ow 66 (eRow_o a0v_Rows), .ow 105 (eKid_c a0v_Kids)], .v (.s (.int .i64 a1))] _ _
  refine AC.of_run2 tab_ok Try.func21 (by rfl) (by rfl) (by cbv) ⟨by decide, rfl⟩ fun F hP hA => ?_
  have hT : TabOk F.P tab := hP ▸ tab_ok
  have hM : F.P.follows .mixedOrders = true := hP ▸ mixed
  have hC : ∀ {f a o r}, AC Try.prog f a o r → AC F.P f a o r := fun h => hP ▸ h
  refine Run.seq ?_
  refine Run.region hL hT [] (by cbv) ?_ ?_
  · exact hq0
  refine Run.seq ?_
  obtain ⟨⟨⟨r1v_1v_Table, r1v_1v_Where, r1v_1v_Order, r1v_1v_Down, r1v_1v_First, r1v_1v_Show, r1v_1v_Kids, r1v_1v_KidTable, r1v_1v_KidCol⟩, r1v_2⟩, h_r1, h⟩ := bnd h
  refine Run.region hL hT [(3, .call [true, false] [.ag [.jk, .ow 94 (eCond_c r1v_1v_Where), .jk, .jk, .jk, .ow 3 (eInt_c r1v_1v_Show), .jk, .jk, .jk], .v (.jk)] [.v (.s (.int .i64 r1v_2))])] (by cbv) ?_ ?_
  · exact (hq trivial (hq (hC (laws_markQuery_ac h_r1)) hq0))
  refine Run.seq ?_
  obtain ⟨⟨r2v_1, r2v_2⟩, h_r2, h⟩ := bnd h
  refine Run.region hL hT [(3, .call [true, false] [.v (.ow 66 (eRow_o r2v_1)), .v (.jk)] [.v (.s (.int .i64 r2v_2))])] (by cbv) ?_ ?_
  · exact (hq trivial (hq (hC (laws_markRowS_ac h_r2)) hq0))
  refine Run.seq ?_
  obtain ⟨⟨r3v_1, r3v_2⟩, h_r3, h⟩ := bnd h
  refine Run.region hL hT [(3, .call [true, false] [.v (.ow 105 (eKid_c r3v_1)), .v (.jk)] [.v (.s (.int .i64 r3v_2))])] (by cbv) ?_ ?_
  · exact (hq trivial (hq (hC (laws_markKidS_ac h_r3)) hq0))
  refine Run.seq ?_
  refine Run.region hL hT [] (by cbv) ?_ ?_
  · exact hq0
  refine Run.ret ?_
  cases h
  refine ⟨_, _, by cbv, ?_, ?_⟩
  · exact LLe.r
  · exact (ALe.v LLe.r ALe.nil)

set_option maxRecDepth 8000 in
theorem laws_heldIntS_ac {a0 : List Int} {a1 : Int} {r : Int} (h : laws_heldIntS.f a0 a1 = some r) : AC Try.prog 51 [.v (.im false (rowsOf Int_c a0)), .v (.s (.int .i64 a1))] [.v (.jk), .v (.jk)] [.v (.s (.int .i64 r))] := by
  unfold laws_heldIntS.f at h
  let ar := Ls.ar; let cm := Ls.cm; let bo := Ls.bo; let sc := Ls.sc; let sa := Ls.sa; let sx := Ls.sx; let ss := Ls.ss; let sl := Ls.sl; let bs := Ls.bs; let sb := Ls.sb; let ln := Ls.ln; let sr := Ls.sr; let ap := Ls.ap; let up := Ls.up; let rp := Ls.rp; let fr := Ls.fr; let ge := Ls.ge; let le := Ls.le; let lt := Ls.lt; let nz := Ls.nz; let mm := Ls.mm; let ma := Ls.ma; let sm := Ls.sm; let fl := Ls.fl; let al := Ls.al; let ci := Ls.ci
  let eInt_c := rowsOf Int_c
  let lenI_Int := @lenI Int
  have hL : (⟨ar, cm, bo, sc, sa, sx, ss, sl, bs, sb, ln, sr, ap, up, rp, fr, ge, le, lt, nz, mm, ma, sm, fl, al, ci⟩ : Lf) = Ls := rfl
  show AC Try.prog 51 [.v (.im false (eInt_c a0)), .v (.s (.int .i64 a1))] _ _
  refine AC.of_run2 tab_ok Try.func51 (by rfl) (by rfl) (by cbv) ⟨by decide, rfl⟩ fun F hP hA => ?_
  have hT : TabOk F.P tab := hP ▸ tab_ok
  have hM : F.P.follows .mixedOrders = true := hP ▸ mixed
  have hC : ∀ {f a o r}, AC Try.prog f a o r → AC F.P f a o r := fun h => hP ▸ h
  refine Run.seq ?_
  refine Run.region hL hT [] (by cbv) ?_ ?_
  · exact hq0
  refine Run.seq ?_
  refine Run.seq ?_
  refine Run.region hL hT [] (by cbv) ?_ ?_
  · exact hq0
  refine Run.block ?_
  refine Run.loop2 (fun (z4 : Int) (z5 : Int) => ⟨21, 100000, [(0, .t (.im false (eInt_c a0))), (1, .t (.s (.int .i64 z4))), (5, .t (.s (.int .i64 z5)))], []⟩) (x0 := a1) (x1 := 0) h (Weak.of _ [] hA (by cbv) ?_) (fun _ _ => rfl) ?_
  · repeat (first | exact hq0 | refine hq (by first | exact True.intro | rfl) ?_)
  · intro k z4 z5 h
    rw [laws_heldIntS.l0] at h
    refine Run.seq ?_
    refine Run.seq ?_
    refine Run.region hL hT [] (by cbv) ?_ ?_
    · exact (hq trivial hq0)
    rw [show ln (eInt_c a0) = lenI_Int a0 from ln_eq Int_c _]
    refine Run.cond (by cbv) (hq0) (fun c6 => ?_) (fun c6 => ?_)
    · have h := if_t c6 h
      refine Run.skip ?_
      refine Run.seq ?_
      refine Run.block ?_
      refine Run.seq ?_
      refine Run.seq ?_
      obtain ⟨x7, h_x7, h⟩ := bnd h
      refine Run.region hL hT [(2, .el [.s (.int .i64 x7)])] (by cbv) ?_ ?_
      · exact (hq (get_le h_x7) (hq (get_lt (f := Int_c) h_x7) (hq (get_ge (f := Int_c) h_x7) (hq trivial hq0))))
      refine Run.cond (by cbv) (hq0) (fun c8 => ?_) (fun c8 => ?_)
      · have h := if_t c8 h
        refine Run.seq ?_
        refine Run.region hL hT [] (by cbv) ?_ ?_
        · exact hq0
        refine Run.ret ?_
        cases h
        refine ⟨_, _, by cbv, ?_, ?_⟩
        · exact LLe.r
        · exact (ALe.v LLe.r ALe.nil)
      · have h := if_f c8 h
        refine Run.skip ?_
        refine Run.region hL hT [] (by cbv) ?_ ?_
        · exact (hq trivial hq0)
        refine Run.region hL hT [] (by cbv) ?_ ?_
        · exact (hq trivial hq0)
        refine ⟨(ar .add .i64 z4 1), (ar .add .i64 z5 1), h, Weak.of _ [] hA (by cbv) ?_⟩
        repeat (first | exact hq0 | refine hq (by first | exact True.intro | rfl) ?_)
    · have h := if_f c6 h
      refine Run.exit ?_
      refine Run.seq ?_
      refine Run.region hL hT [] (by cbv) ?_ ?_
      · exact hq0
      refine Run.ret ?_
      cases h
      refine ⟨_, _, by cbv, ?_, ?_⟩
      · exact LLe.r
      · exact (ALe.v LLe.r ALe.nil)

set_option maxRecDepth 8000 in
theorem laws_heldRowS_ac {a0 : List Row} {a1 : Int} {r : Int} (h : laws_heldRowS.f a0 a1 = some r) : AC Try.prog 17 [.v (.im false (rowsOf Row_i a0)), .v (.s (.int .i64 a1))] [.v (.jk), .v (.jk)] [.v (.s (.int .i64 r))] := by
  unfold laws_heldRowS.f at h
  let ar := Ls.ar; let cm := Ls.cm; let bo := Ls.bo; let sc := Ls.sc; let sa := Ls.sa; let sx := Ls.sx; let ss := Ls.ss; let sl := Ls.sl; let bs := Ls.bs; let sb := Ls.sb; let ln := Ls.ln; let sr := Ls.sr; let ap := Ls.ap; let up := Ls.up; let rp := Ls.rp; let fr := Ls.fr; let ge := Ls.ge; let le := Ls.le; let lt := Ls.lt; let nz := Ls.nz; let mm := Ls.mm; let ma := Ls.ma; let sm := Ls.sm; let fl := Ls.fl; let al := Ls.al; let ci := Ls.ci
  let eInt_c := rowsOf Int_c
  let eRow_i := rowsOf Row_i
  let lenI_Row := @lenI Row
  have hL : (⟨ar, cm, bo, sc, sa, sx, ss, sl, bs, sb, ln, sr, ap, up, rp, fr, ge, le, lt, nz, mm, ma, sm, fl, al, ci⟩ : Lf) = Ls := rfl
  show AC Try.prog 17 [.v (.im false (eRow_i a0)), .v (.s (.int .i64 a1))] _ _
  refine AC.of_run2 tab_ok Try.func17 (by rfl) (by rfl) (by cbv) ⟨by decide, rfl⟩ fun F hP hA => ?_
  have hT : TabOk F.P tab := hP ▸ tab_ok
  have hM : F.P.follows .mixedOrders = true := hP ▸ mixed
  have hC : ∀ {f a o r}, AC Try.prog f a o r → AC F.P f a o r := fun h => hP ▸ h
  refine Run.seq ?_
  refine Run.region hL hT [] (by cbv) ?_ ?_
  · exact hq0
  refine Run.seq ?_
  refine Run.seq ?_
  refine Run.region hL hT [] (by cbv) ?_ ?_
  · exact hq0
  refine Run.block ?_
  refine Run.loop2 (fun (z4 : Int) (z5 : Int) => ⟨31, 100000, [(0, .t (.im false (eRow_i a0))), (1, .t (.s (.int .i64 z4))), (5, .t (.s (.int .i64 z5)))], []⟩) (x0 := a1) (x1 := 0) h (Weak.of _ [] hA (by cbv) ?_) (fun _ _ => rfl) ?_
  · repeat (first | exact hq0 | refine hq (by first | exact True.intro | rfl) ?_)
  · intro k z4 z5 h
    rw [laws_heldRowS.l0] at h
    refine Run.seq ?_
    refine Run.seq ?_
    refine Run.region hL hT [] (by cbv) ?_ ?_
    · exact (hq trivial hq0)
    rw [show ln (eRow_i a0) = lenI_Row a0 from ln_eq Row_i _]
    refine Run.cond (by cbv) (hq0) (fun c6 => ?_) (fun c6 => ?_)
    · have h := if_t c6 h
      refine Run.skip ?_
      refine Run.seq ?_
      refine Run.block ?_
      refine Run.seq ?_
      refine Run.seq ?_
      obtain ⟨⟨x7v_Id, x7v_Cells⟩, h_x7, h⟩ := bnd h
      refine Run.region hL hT [(2, .el [.s (.int .i64 x7v_Id), .im false (eInt_c x7v_Cells)])] (by cbv) ?_ ?_
      · exact (hq (get_le h_x7) (hq (get_lt (f := Row_i) h_x7) (hq (get_ge (f := Row_i) h_x7) (hq trivial hq0))))
      refine Run.cond (by cbv) (hq0) (fun c8 => ?_) (fun c8 => ?_)
      · have h := if_t c8 h
        refine Run.seq ?_
        refine Run.region hL hT [] (by cbv) ?_ ?_
        · exact hq0
        refine Run.ret ?_
        cases h
        refine ⟨_, _, by cbv, ?_, ?_⟩
        · exact LLe.r
        · exact (ALe.v LLe.r ALe.nil)
      · have h := if_f c8 h
        refine Run.skip ?_
        refine Run.seq ?_
        refine Run.region hL hT [] (by cbv) ?_ ?_
        · exact (hq trivial hq0)
        refine Run.seq ?_
        obtain ⟨r9, h_r9, h⟩ := bnd h
        refine Run.region hL hT [(2, .el [.s (.int .i64 x7v_Id), .im false (eInt_c x7v_Cells)]), (6, .call [false, false] [.v (.jk), .v (.jk)] [.v (.s (.int .i64 r9))])] (by cbv) ?_ ?_
        · exact (hq (get_le h_x7) (hq (get_lt (f := Row_i) h_x7) (hq (get_ge (f := Row_i) h_x7) (hq (hC (laws_heldIntS_ac h_r9)) hq0))))
        refine Run.seq ?_
        refine Run.region hL hT [] (by cbv) ?_ ?_
        · exact (hq trivial hq0)
        refine Run.cond (by cbv) (hq0) (fun c10 => ?_) (fun c10 => ?_)
        · have h := if_t c10 h
          refine Run.seq ?_
          refine Run.region hL hT [] (by cbv) ?_ ?_
          · exact hq0
          refine Run.ret ?_
          cases h
          refine ⟨_, _, by cbv, ?_, ?_⟩
          · exact LLe.r
          · exact (ALe.v LLe.r ALe.nil)
        · have h := if_f c10 h
          refine Run.skip ?_
          refine Run.region hL hT [] (by cbv) ?_ ?_
          · exact (hq trivial hq0)
          refine ⟨r9, (ar .add .i64 z5 1), h, Weak.of _ [] hA (by cbv) ?_⟩
          repeat (first | exact hq0 | refine hq (by first | exact True.intro | rfl) ?_)
    · have h := if_f c6 h
      refine Run.exit ?_
      refine Run.seq ?_
      refine Run.region hL hT [] (by cbv) ?_ ?_
      · exact hq0
      refine Run.ret ?_
      cases h
      refine ⟨_, _, by cbv, ?_, ?_⟩
      · exact LLe.r
      · exact (ALe.v LLe.r ALe.nil)

set_option maxRecDepth 8000 in
theorem laws_heldCondS_ac {a0 : List Cond} {a1 : Int} {r : Int} (h : laws_heldCondS.f a0 a1 = some r) : AC Try.prog 84 [.v (.im false (rowsOf Cond_c a0)), .v (.s (.int .i64 a1))] [.v (.jk), .v (.jk)] [.v (.s (.int .i64 r))] := by
  unfold laws_heldCondS.f at h
  let ar := Ls.ar; let cm := Ls.cm; let bo := Ls.bo; let sc := Ls.sc; let sa := Ls.sa; let sx := Ls.sx; let ss := Ls.ss; let sl := Ls.sl; let bs := Ls.bs; let sb := Ls.sb; let ln := Ls.ln; let sr := Ls.sr; let ap := Ls.ap; let up := Ls.up; let rp := Ls.rp; let fr := Ls.fr; let ge := Ls.ge; let le := Ls.le; let lt := Ls.lt; let nz := Ls.nz; let mm := Ls.mm; let ma := Ls.ma; let sm := Ls.sm; let fl := Ls.fl; let al := Ls.al; let ci := Ls.ci
  let eCond_c := rowsOf Cond_c
  let lenI_Cond := @lenI Cond
  have hL : (⟨ar, cm, bo, sc, sa, sx, ss, sl, bs, sb, ln, sr, ap, up, rp, fr, ge, le, lt, nz, mm, ma, sm, fl, al, ci⟩ : Lf) = Ls := rfl
  show AC Try.prog 84 [.v (.im false (eCond_c a0)), .v (.s (.int .i64 a1))] _ _
  refine AC.of_run2 tab_ok Try.func84 (by rfl) (by rfl) (by cbv) ⟨by decide, rfl⟩ fun F hP hA => ?_
  have hT : TabOk F.P tab := hP ▸ tab_ok
  have hM : F.P.follows .mixedOrders = true := hP ▸ mixed
  have hC : ∀ {f a o r}, AC Try.prog f a o r → AC F.P f a o r := fun h => hP ▸ h
  refine Run.seq ?_
  refine Run.region hL hT [] (by cbv) ?_ ?_
  · exact hq0
  refine Run.seq ?_
  refine Run.seq ?_
  refine Run.region hL hT [] (by cbv) ?_ ?_
  · exact hq0
  refine Run.block ?_
  refine Run.loop2 (fun (z4 : Int) (z5 : Int) => ⟨40, 100000, [(0, .t (.im false (eCond_c a0))), (1, .t (.s (.int .i64 z4))), (5, .t (.s (.int .i64 z5)))], []⟩) (x0 := a1) (x1 := 0) h (Weak.of _ [] hA (by cbv) ?_) (fun _ _ => rfl) ?_
  · repeat (first | exact hq0 | refine hq (by first | exact True.intro | rfl) ?_)
  · intro k z4 z5 h
    rw [laws_heldCondS.l0] at h
    refine Run.seq ?_
    refine Run.seq ?_
    refine Run.region hL hT [] (by cbv) ?_ ?_
    · exact (hq trivial hq0)
    rw [show ln (eCond_c a0) = lenI_Cond a0 from ln_eq Cond_c _]
    refine Run.cond (by cbv) (hq0) (fun c6 => ?_) (fun c6 => ?_)
    · have h := if_t c6 h
      refine Run.skip ?_
      refine Run.seq ?_
      refine Run.block ?_
      refine Run.seq ?_
      refine Run.seq ?_
      obtain ⟨⟨x7v_Col, x7v_Op, x7v_V⟩, h_x7, h⟩ := bnd h
      refine Run.region hL hT [(2, .el [.s (.int .i64 x7v_Col), .s (.int .i64 x7v_Op), .s (.int .i64 x7v_V)])] (by cbv) ?_ ?_
      · exact (hq (get_le h_x7) (hq (get_lt (f := Cond_c) h_x7) (hq (get_ge (f := Cond_c) h_x7) (hq trivial hq0))))
      refine Run.cond (by cbv) (hq0) (fun c8 => ?_) (fun c8 => ?_)
      · have h := if_t c8 h
        refine Run.seq ?_
        refine Run.region hL hT [] (by cbv) ?_ ?_
        · exact hq0
        refine Run.ret ?_
        cases h
        refine ⟨_, _, by cbv, ?_, ?_⟩
        · exact LLe.r
        · exact (ALe.v LLe.r ALe.nil)
      · have h := if_f c8 h
        refine Run.skip ?_
        refine Run.seq ?_
        refine Run.region hL hT [] (by cbv) ?_ ?_
        · exact (hq trivial hq0)
        refine Run.seq ?_
        refine Run.seq ?_
        refine Run.region hL hT [(2, .el [.s (.int .i64 x7v_Col), .s (.int .i64 x7v_Op), .s (.int .i64 x7v_V)])] (by cbv) ?_ ?_
        · exact (hq (get_le h_x7) (hq (get_lt (f := Cond_c) h_x7) (hq (get_ge (f := Cond_c) h_x7) (hq trivial hq0))))
        refine Run.cond (by cbv) (hq0) (fun c9 => ?_) (fun c9 => ?_)
        · have h := if_t c9 h
          refine Run.seq ?_
          refine Run.region hL hT [] (by cbv) ?_ ?_
          · exact hq0
          refine Run.ret ?_
          cases h
          refine ⟨_, _, by cbv, ?_, ?_⟩
          · exact LLe.r
          · exact (ALe.v LLe.r ALe.nil)
        · have h := if_f c9 h
          refine Run.skip ?_
          refine Run.seq ?_
          refine Run.region hL hT [] (by cbv) ?_ ?_
          · exact (hq trivial hq0)
          refine Run.seq ?_
          refine Run.seq ?_
          refine Run.region hL hT [(2, .el [.s (.int .i64 x7v_Col), .s (.int .i64 x7v_Op), .s (.int .i64 x7v_V)])] (by cbv) ?_ ?_
          · exact (hq (get_le h_x7) (hq (get_lt (f := Cond_c) h_x7) (hq (get_ge (f := Cond_c) h_x7) (hq trivial hq0))))
          refine Run.cond (by cbv) (hq0) (fun c10 => ?_) (fun c10 => ?_)
          · have h := if_t c10 h
            refine Run.seq ?_
            refine Run.region hL hT [] (by cbv) ?_ ?_
            · exact hq0
            refine Run.ret ?_
            cases h
            refine ⟨_, _, by cbv, ?_, ?_⟩
            · exact LLe.r
            · exact (ALe.v LLe.r ALe.nil)
          · have h := if_f c10 h
            refine Run.skip ?_
            refine Run.region hL hT [] (by cbv) ?_ ?_
            · exact (hq trivial hq0)
            refine Run.region hL hT [] (by cbv) ?_ ?_
            · exact (hq trivial hq0)
            refine ⟨(ar .add .i64 (ar .add .i64 (ar .add .i64 z4 1) 1) 1), (ar .add .i64 z5 1), h, Weak.of _ [] hA (by cbv) ?_⟩
            repeat (first | exact hq0 | refine hq (by first | exact True.intro | rfl) ?_)
    · have h := if_f c6 h
      refine Run.exit ?_
      refine Run.seq ?_
      refine Run.region hL hT [] (by cbv) ?_ ?_
      · exact hq0
      refine Run.ret ?_
      cases h
      refine ⟨_, _, by cbv, ?_, ?_⟩
      · exact LLe.r
      · exact (ALe.v LLe.r ALe.nil)

set_option maxRecDepth 8000 in
theorem laws_heldQuery_ac {a0v_Table : Int} {a0v_Where : List Cond} {a0v_Order : Int} {a0v_Down : Bool} {a0v_First : Int} {a0v_Show : List Int} {a0v_Kids : Bool} {a0v_KidTable : Int} {a0v_KidCol : Int} {a1 : Int} {r : Int} (h : laws_heldQuery.f (Query.mk a0v_Table a0v_Where a0v_Order a0v_Down a0v_First a0v_Show a0v_Kids a0v_KidTable a0v_KidCol) a1 = some r) : AC Try.prog 58 [.ag [.s (.int .i64 a0v_Table), .im false (rowsOf Cond_c a0v_Where), .s (.int .i64 a0v_Order), .s (.bool a0v_Down), .s (.int .i64 a0v_First), .im false (rowsOf Int_c a0v_Show), .s (.bool a0v_Kids), .s (.int .i64 a0v_KidTable), .s (.int .i64 a0v_KidCol)], .v (.s (.int .i64 a1))] [.ag [.jk, .jk, .jk, .jk, .jk, .jk, .jk, .jk, .jk], .v (.jk)] [.v (.s (.int .i64 r))] := by
  unfold laws_heldQuery.f at h
  let ar := Ls.ar; let cm := Ls.cm; let bo := Ls.bo; let sc := Ls.sc; let sa := Ls.sa; let sx := Ls.sx; let ss := Ls.ss; let sl := Ls.sl; let bs := Ls.bs; let sb := Ls.sb; let ln := Ls.ln; let sr := Ls.sr; let ap := Ls.ap; let up := Ls.up; let rp := Ls.rp; let fr := Ls.fr; let ge := Ls.ge; let le := Ls.le; let lt := Ls.lt; let nz := Ls.nz; let mm := Ls.mm; let ma := Ls.ma; let sm := Ls.sm; let fl := Ls.fl; let al := Ls.al; let ci := Ls.ci
  let eCond_c := rowsOf Cond_c
  let eInt_c := rowsOf Int_c
  have hL : (⟨ar, cm, bo, sc, sa, sx, ss, sl, bs, sb, ln, sr, ap, up, rp, fr, ge, le, lt, nz, mm, ma, sm, fl, al, ci⟩ : Lf) = Ls := rfl
  show AC Try.prog 58 [.ag [.s (.int .i64 a0v_Table), .im false (eCond_c a0v_Where), .s (.int .i64 a0v_Order), .s (.bool a0v_Down), .s (.int .i64 a0v_First), .im false (eInt_c a0v_Show), .s (.bool a0v_Kids), .s (.int .i64 a0v_KidTable), .s (.int .i64 a0v_KidCol)], .v (.s (.int .i64 a1))] _ _
  refine AC.of_run2 tab_ok Try.func58 (by rfl) (by rfl) (by cbv) ⟨by decide, rfl⟩ fun F hP hA => ?_
  have hT : TabOk F.P tab := hP ▸ tab_ok
  have hM : F.P.follows .mixedOrders = true := hP ▸ mixed
  have hC : ∀ {f a o r}, AC Try.prog f a o r → AC F.P f a o r := fun h => hP ▸ h
  refine Run.seq ?_
  refine Run.region hL hT [] (by cbv) ?_ ?_
  · exact hq0
  refine Run.seq ?_
  obtain ⟨r1, h_r1, h⟩ := bnd h
  refine Run.region hL hT [(3, .call [false, false] [.v (.jk), .v (.jk)] [.v (.s (.int .i64 r1))])] (by cbv) ?_ ?_
  · exact (hq trivial (hq (hC (laws_heldCondS_ac h_r1)) hq0))
  refine Run.seq ?_
  refine Run.seq ?_
  refine Run.region hL hT [] (by cbv) ?_ ?_
  · exact (hq trivial hq0)
  refine Run.cond (by cbv) (hq0) (fun c2 => ?_) (fun c2 => ?_)
  · have h := if_t c2 h
    refine Run.seq ?_
    refine Run.region hL hT [] (by cbv) ?_ ?_
    · exact hq0
    refine Run.ret ?_
    cases h
    refine ⟨_, _, by cbv, ?_, ?_⟩
    · exact LLe.r
    · exact (ALe.v LLe.r ALe.nil)
  · have h := if_f c2 h
    refine Run.skip ?_
    refine Run.seq ?_
    obtain ⟨r3, h_r3, h⟩ := bnd h
    refine Run.region hL hT [(3, .call [false, false] [.v (.jk), .v (.jk)] [.v (.s (.int .i64 r3))])] (by cbv) ?_ ?_
    · exact (hq trivial (hq (hC (laws_heldIntS_ac h_r3)) hq0))
    refine Run.seq ?_
    refine Run.seq ?_
    refine Run.region hL hT [] (by cbv) ?_ ?_
    · exact (hq trivial hq0)
    refine Run.cond (by cbv) (hq0) (fun c4 => ?_) (fun c4 => ?_)
    · have h := if_t c4 h
      refine Run.seq ?_
      refine Run.region hL hT [] (by cbv) ?_ ?_
      · exact hq0
      refine Run.ret ?_
      cases h
      refine ⟨_, _, by cbv, ?_, ?_⟩
      · exact LLe.r
      · exact (ALe.v LLe.r ALe.nil)
    · have h := if_f c4 h
      refine Run.skip ?_
      refine Run.seq ?_
      refine Run.region hL hT [] (by cbv) ?_ ?_
      · exact hq0
      refine Run.ret ?_
      cases h
      refine ⟨_, _, by cbv, ?_, ?_⟩
      · exact LLe.r
      · exact (ALe.v LLe.r ALe.nil)

set_option maxRecDepth 8000 in
theorem laws_heldKidS_ac {a0 : List Kid} {a1 : Int} {r : Int} (h : laws_heldKidS.f a0 a1 = some r) : AC Try.prog 59 [.v (.im false (rowsOf Kid_c a0)), .v (.s (.int .i64 a1))] [.v (.jk), .v (.jk)] [.v (.s (.int .i64 r))] := by
  unfold laws_heldKidS.f at h
  let ar := Ls.ar; let cm := Ls.cm; let bo := Ls.bo; let sc := Ls.sc; let sa := Ls.sa; let sx := Ls.sx; let ss := Ls.ss; let sl := Ls.sl; let bs := Ls.bs; let sb := Ls.sb; let ln := Ls.ln; let sr := Ls.sr; let ap := Ls.ap; let up := Ls.up; let rp := Ls.rp; let fr := Ls.fr; let ge := Ls.ge; let le := Ls.le; let lt := Ls.lt; let nz := Ls.nz; let mm := Ls.mm; let ma := Ls.ma; let sm := Ls.sm; let fl := Ls.fl; let al := Ls.al; let ci := Ls.ci
  let eKid_c := rowsOf Kid_c
  let lenI_Kid := @lenI Kid
  have hL : (⟨ar, cm, bo, sc, sa, sx, ss, sl, bs, sb, ln, sr, ap, up, rp, fr, ge, le, lt, nz, mm, ma, sm, fl, al, ci⟩ : Lf) = Ls := rfl
  show AC Try.prog 59 [.v (.im false (eKid_c a0)), .v (.s (.int .i64 a1))] _ _
  refine AC.of_run2 tab_ok Try.func59 (by rfl) (by rfl) (by cbv) ⟨by decide, rfl⟩ fun F hP hA => ?_
  have hT : TabOk F.P tab := hP ▸ tab_ok
  have hM : F.P.follows .mixedOrders = true := hP ▸ mixed
  have hC : ∀ {f a o r}, AC Try.prog f a o r → AC F.P f a o r := fun h => hP ▸ h
  refine Run.seq ?_
  refine Run.region hL hT [] (by cbv) ?_ ?_
  · exact hq0
  refine Run.seq ?_
  refine Run.seq ?_
  refine Run.region hL hT [] (by cbv) ?_ ?_
  · exact hq0
  refine Run.block ?_
  refine Run.loop2 (fun (z4 : Int) (z5 : Int) => ⟨31, 100000, [(0, .t (.im false (eKid_c a0))), (1, .t (.s (.int .i64 z4))), (5, .t (.s (.int .i64 z5)))], []⟩) (x0 := a1) (x1 := 0) h (Weak.of _ [] hA (by cbv) ?_) (fun _ _ => rfl) ?_
  · repeat (first | exact hq0 | refine hq (by first | exact True.intro | rfl) ?_)
  · intro k z4 z5 h
    rw [laws_heldKidS.l0] at h
    refine Run.seq ?_
    refine Run.seq ?_
    refine Run.region hL hT [] (by cbv) ?_ ?_
    · exact (hq trivial hq0)
    rw [show ln (eKid_c a0) = lenI_Kid a0 from ln_eq Kid_c _]
    refine Run.cond (by cbv) (hq0) (fun c6 => ?_) (fun c6 => ?_)
    · have h := if_t c6 h
      refine Run.skip ?_
      refine Run.seq ?_
      refine Run.block ?_
      refine Run.seq ?_
      refine Run.seq ?_
      obtain ⟨⟨x7v_Id, x7v_N⟩, h_x7, h⟩ := bnd h
      refine Run.region hL hT [(2, .el [.s (.int .i64 x7v_Id), .s (.int .i64 x7v_N)])] (by cbv) ?_ ?_
      · exact (hq (get_le h_x7) (hq (get_lt (f := Kid_c) h_x7) (hq (get_ge (f := Kid_c) h_x7) (hq trivial hq0))))
      refine Run.cond (by cbv) (hq0) (fun c8 => ?_) (fun c8 => ?_)
      · have h := if_t c8 h
        refine Run.seq ?_
        refine Run.region hL hT [] (by cbv) ?_ ?_
        · exact hq0
        refine Run.ret ?_
        cases h
        refine ⟨_, _, by cbv, ?_, ?_⟩
        · exact LLe.r
        · exact (ALe.v LLe.r ALe.nil)
      · have h := if_f c8 h
        refine Run.skip ?_
        refine Run.seq ?_
        refine Run.region hL hT [] (by cbv) ?_ ?_
        · exact (hq trivial hq0)
        refine Run.seq ?_
        refine Run.seq ?_
        refine Run.region hL hT [(2, .el [.s (.int .i64 x7v_Id), .s (.int .i64 x7v_N)])] (by cbv) ?_ ?_
        · exact (hq (get_le h_x7) (hq (get_lt (f := Kid_c) h_x7) (hq (get_ge (f := Kid_c) h_x7) (hq trivial hq0))))
        refine Run.cond (by cbv) (hq0) (fun c9 => ?_) (fun c9 => ?_)
        · have h := if_t c9 h
          refine Run.seq ?_
          refine Run.region hL hT [] (by cbv) ?_ ?_
          · exact hq0
          refine Run.ret ?_
          cases h
          refine ⟨_, _, by cbv, ?_, ?_⟩
          · exact LLe.r
          · exact (ALe.v LLe.r ALe.nil)
        · have h := if_f c9 h
          refine Run.skip ?_
          refine Run.region hL hT [] (by cbv) ?_ ?_
          · exact (hq trivial hq0)
          refine Run.region hL hT [] (by cbv) ?_ ?_
          · exact (hq trivial hq0)
          refine ⟨(ar .add .i64 (ar .add .i64 z4 1) 1), (ar .add .i64 z5 1), h, Weak.of _ [] hA (by cbv) ?_⟩
          repeat (first | exact hq0 | refine hq (by first | exact True.intro | rfl) ?_)
    · have h := if_f c6 h
      refine Run.exit ?_
      refine Run.seq ?_
      refine Run.region hL hT [] (by cbv) ?_ ?_
      · exact hq0
      refine Run.ret ?_
      cases h
      refine ⟨_, _, by cbv, ?_, ?_⟩
      · exact LLe.r
      · exact (ALe.v LLe.r ALe.nil)

set_option maxRecDepth 8000 in
theorem laws_heldView_ac {a0v_Qv_Table : Int} {a0v_Qv_Where : List Cond} {a0v_Qv_Order : Int} {a0v_Qv_Down : Bool} {a0v_Qv_First : Int} {a0v_Qv_Show : List Int} {a0v_Qv_Kids : Bool} {a0v_Qv_KidTable : Int} {a0v_Qv_KidCol : Int} {a0v_Rows : List Row} {a0v_Kids : List Kid} {a1 : Int} {r : Int} (h : laws_heldView.f (View.mk (Query.mk a0v_Qv_Table a0v_Qv_Where a0v_Qv_Order a0v_Qv_Down a0v_Qv_First a0v_Qv_Show a0v_Qv_Kids a0v_Qv_KidTable a0v_Qv_KidCol) a0v_Rows a0v_Kids) a1 = some r) : AC Try.prog 22 [.ag [.s (.int .i64 a0v_Qv_Table), .im false (rowsOf Cond_c a0v_Qv_Where), .s (.int .i64 a0v_Qv_Order), .s (.bool a0v_Qv_Down), .s (.int .i64 a0v_Qv_First), .im false (rowsOf Int_c a0v_Qv_Show), .s (.bool a0v_Qv_Kids), .s (.int .i64 a0v_Qv_KidTable), .s (.int .i64 a0v_Qv_KidCol), .im false (rowsOf Row_i a0v_Rows), .im false (rowsOf Kid_c a0v_Kids)], .v (.s (.int .i64 a1))] [.ag [.jk, .jk, .jk, .jk, .jk, .jk, .jk, .jk, .jk, .jk, .jk], .v (.jk)] [.v (.s (.int .i64 r))] := by
  unfold laws_heldView.f at h
  let ar := Ls.ar; let cm := Ls.cm; let bo := Ls.bo; let sc := Ls.sc; let sa := Ls.sa; let sx := Ls.sx; let ss := Ls.ss; let sl := Ls.sl; let bs := Ls.bs; let sb := Ls.sb; let ln := Ls.ln; let sr := Ls.sr; let ap := Ls.ap; let up := Ls.up; let rp := Ls.rp; let fr := Ls.fr; let ge := Ls.ge; let le := Ls.le; let lt := Ls.lt; let nz := Ls.nz; let mm := Ls.mm; let ma := Ls.ma; let sm := Ls.sm; let fl := Ls.fl; let al := Ls.al; let ci := Ls.ci
  let eCond_c := rowsOf Cond_c
  let eInt_c := rowsOf Int_c
  let eKid_c := rowsOf Kid_c
  let eRow_i := rowsOf Row_i
  have hL : (⟨ar, cm, bo, sc, sa, sx, ss, sl, bs, sb, ln, sr, ap, up, rp, fr, ge, le, lt, nz, mm, ma, sm, fl, al, ci⟩ : Lf) = Ls := rfl
  show AC Try.prog 22 [.ag [.s (.int .i64 a0v_Qv_Table), .im false (eCond_c a0v_Qv_Where), .s (.int .i64 a0v_Qv_Order), .s (.bool a0v_Qv_Down), .s (.int .i64 a0v_Qv_First), .im false (eInt_c a0v_Qv_Show), .s (.bool a0v_Qv_Kids), .s (.int .i64 a0v_Qv_KidTable), .s (.int .i64 a0v_Qv_KidCol), .im false (eRow_i a0v_Rows), .im false (eKid_c a0v_Kids)], .v (.s (.int .i64 a1))] _ _
  refine AC.of_run2 tab_ok Try.func22 (by rfl) (by rfl) (by cbv) ⟨by decide, rfl⟩ fun F hP hA => ?_
  have hT : TabOk F.P tab := hP ▸ tab_ok
  have hM : F.P.follows .mixedOrders = true := hP ▸ mixed
  have hC : ∀ {f a o r}, AC Try.prog f a o r → AC F.P f a o r := fun h => hP ▸ h
  refine Run.seq ?_
  refine Run.region hL hT [] (by cbv) ?_ ?_
  · exact hq0
  refine Run.seq ?_
  obtain ⟨r1, h_r1, h⟩ := bnd h
  refine Run.region hL hT [(3, .call [false, false] [.ag [.jk, .jk, .jk, .jk, .jk, .jk, .jk, .jk, .jk], .v (.jk)] [.v (.s (.int .i64 r1))])] (by cbv) ?_ ?_
  · exact (hq trivial (hq (hC (laws_heldQuery_ac h_r1)) hq0))
  refine Run.seq ?_
  refine Run.seq ?_
  refine Run.region hL hT [] (by cbv) ?_ ?_
  · exact (hq trivial hq0)
  refine Run.cond (by cbv) (hq0) (fun c2 => ?_) (fun c2 => ?_)
  · have h := if_t c2 h
    refine Run.seq ?_
    refine Run.region hL hT [] (by cbv) ?_ ?_
    · exact hq0
    refine Run.ret ?_
    cases h
    refine ⟨_, _, by cbv, ?_, ?_⟩
    · exact LLe.r
    · exact (ALe.v LLe.r ALe.nil)
  · have h := if_f c2 h
    refine Run.skip ?_
    refine Run.seq ?_
    obtain ⟨r3, h_r3, h⟩ := bnd h
    refine Run.region hL hT [(3, .call [false, false] [.v (.jk), .v (.jk)] [.v (.s (.int .i64 r3))])] (by cbv) ?_ ?_
    · exact (hq trivial (hq (hC (laws_heldRowS_ac h_r3)) hq0))
    refine Run.seq ?_
    refine Run.seq ?_
    refine Run.region hL hT [] (by cbv) ?_ ?_
    · exact (hq trivial hq0)
    refine Run.cond (by cbv) (hq0) (fun c4 => ?_) (fun c4 => ?_)
    · have h := if_t c4 h
      refine Run.seq ?_
      refine Run.region hL hT [] (by cbv) ?_ ?_
      · exact hq0
      refine Run.ret ?_
      cases h
      refine ⟨_, _, by cbv, ?_, ?_⟩
      · exact LLe.r
      · exact (ALe.v LLe.r ALe.nil)
    · have h := if_f c4 h
      refine Run.skip ?_
      refine Run.seq ?_
      obtain ⟨r5, h_r5, h⟩ := bnd h
      refine Run.region hL hT [(3, .call [false, false] [.v (.jk), .v (.jk)] [.v (.s (.int .i64 r5))])] (by cbv) ?_ ?_
      · exact (hq trivial (hq (hC (laws_heldKidS_ac h_r5)) hq0))
      refine Run.seq ?_
      refine Run.seq ?_
      refine Run.region hL hT [] (by cbv) ?_ ?_
      · exact (hq trivial hq0)
      refine Run.cond (by cbv) (hq0) (fun c6 => ?_) (fun c6 => ?_)
      · have h := if_t c6 h
        refine Run.seq ?_
        refine Run.region hL hT [] (by cbv) ?_ ?_
        · exact hq0
        refine Run.ret ?_
        cases h
        refine ⟨_, _, by cbv, ?_, ?_⟩
        · exact LLe.r
        · exact (ALe.v LLe.r ALe.nil)
      · have h := if_f c6 h
        refine Run.skip ?_
        refine Run.seq ?_
        refine Run.region hL hT [] (by cbv) ?_ ?_
        · exact hq0
        refine Run.ret ?_
        cases h
        refine ⟨_, _, by cbv, ?_, ?_⟩
        · exact LLe.r
        · exact (ALe.v LLe.r ALe.nil)

set_option maxRecDepth 8000 in
theorem laws_szIntS_ac {a0 : List Int} {a1 : Int} {r : Int} (h : laws_szIntS.f a0 a1 = some r) : AC Try.prog 26 [.v (.im false (rowsOf Int_c a0)), .v (.s (.int .i64 a1))] [.v (.jk), .v (.jk)] [.v (.s (.int .i64 r))] := by
  unfold laws_szIntS.f at h
  let ar := Ls.ar; let cm := Ls.cm; let bo := Ls.bo; let sc := Ls.sc; let sa := Ls.sa; let sx := Ls.sx; let ss := Ls.ss; let sl := Ls.sl; let bs := Ls.bs; let sb := Ls.sb; let ln := Ls.ln; let sr := Ls.sr; let ap := Ls.ap; let up := Ls.up; let rp := Ls.rp; let fr := Ls.fr; let ge := Ls.ge; let le := Ls.le; let lt := Ls.lt; let nz := Ls.nz; let mm := Ls.mm; let ma := Ls.ma; let sm := Ls.sm; let fl := Ls.fl; let al := Ls.al; let ci := Ls.ci
  let eInt_c := rowsOf Int_c
  let lenI_Int := @lenI Int
  have hL : (⟨ar, cm, bo, sc, sa, sx, ss, sl, bs, sb, ln, sr, ap, up, rp, fr, ge, le, lt, nz, mm, ma, sm, fl, al, ci⟩ : Lf) = Ls := rfl
  show AC Try.prog 26 [.v (.im false (eInt_c a0)), .v (.s (.int .i64 a1))] _ _
  refine AC.of_run2 tab_ok Try.func26 (by rfl) (by rfl) (by cbv) ⟨by decide, rfl⟩ fun F hP hA => ?_
  have hT : TabOk F.P tab := hP ▸ tab_ok
  have hM : F.P.follows .mixedOrders = true := hP ▸ mixed
  have hC : ∀ {f a o r}, AC Try.prog f a o r → AC F.P f a o r := fun h => hP ▸ h
  refine Run.seq ?_
  refine Run.region hL hT [] (by cbv) ?_ ?_
  · exact hq0
  refine Run.seq ?_
  refine Run.region hL hT [] (by cbv) ?_ ?_
  · exact (hq trivial hq0)
  rw [show ln (eInt_c a0) = lenI_Int a0 from ln_eq Int_c _]
  refine Run.seq ?_
  refine Run.seq ?_
  refine Run.region hL hT [] (by cbv) ?_ ?_
  · exact (hq trivial hq0)
  refine Run.cond (by cbv) (hq0) (fun c1 => ?_) (fun c1 => ?_)
  · have h := if_t c1 h
    refine Run.seq ?_
    refine Run.region hL hT [] (by cbv) ?_ ?_
    · exact hq0
    refine Run.ret ?_
    cases h
    refine ⟨_, _, by cbv, ?_, ?_⟩
    · exact LLe.r
    · exact (ALe.v LLe.r ALe.nil)
  · have h := if_f c1 h
    refine Run.skip ?_
    refine Run.seq ?_
    refine Run.region hL hT [] (by cbv) ?_ ?_
    · exact hq0
    refine Run.ret ?_
    cases h
    refine ⟨_, _, by cbv, ?_, ?_⟩
    · exact LLe.r
    · exact (ALe.v LLe.r ALe.nil)

set_option maxRecDepth 8000 in
theorem laws_szSchema_ac {a0v_Cols : List Int} {a1 : Int} {r : Int} (h : laws_szSchema.f (Schema.mk a0v_Cols) a1 = some r) : AC Try.prog 23 [.ag [.im false (rowsOf Int_c a0v_Cols)], .v (.s (.int .i64 a1))] [.ag [.jk], .v (.jk)] [.v (.s (.int .i64 r))] := by
  unfold laws_szSchema.f at h
  let ar := Ls.ar; let cm := Ls.cm; let bo := Ls.bo; let sc := Ls.sc; let sa := Ls.sa; let sx := Ls.sx; let ss := Ls.ss; let sl := Ls.sl; let bs := Ls.bs; let sb := Ls.sb; let ln := Ls.ln; let sr := Ls.sr; let ap := Ls.ap; let up := Ls.up; let rp := Ls.rp; let fr := Ls.fr; let ge := Ls.ge; let le := Ls.le; let lt := Ls.lt; let nz := Ls.nz; let mm := Ls.mm; let ma := Ls.ma; let sm := Ls.sm; let fl := Ls.fl; let al := Ls.al; let ci := Ls.ci
  let eInt_c := rowsOf Int_c
  have hL : (⟨ar, cm, bo, sc, sa, sx, ss, sl, bs, sb, ln, sr, ap, up, rp, fr, ge, le, lt, nz, mm, ma, sm, fl, al, ci⟩ : Lf) = Ls := rfl
  show AC Try.prog 23 [.ag [.im false (eInt_c a0v_Cols)], .v (.s (.int .i64 a1))] _ _
  refine AC.of_run2 tab_ok Try.func23 (by rfl) (by rfl) (by cbv) ⟨by decide, rfl⟩ fun F hP hA => ?_
  have hT : TabOk F.P tab := hP ▸ tab_ok
  have hM : F.P.follows .mixedOrders = true := hP ▸ mixed
  have hC : ∀ {f a o r}, AC Try.prog f a o r → AC F.P f a o r := fun h => hP ▸ h
  refine Run.seq ?_
  refine Run.region hL hT [] (by cbv) ?_ ?_
  · exact hq0
  refine Run.seq ?_
  obtain ⟨r1, h_r1, h⟩ := bnd h
  refine Run.region hL hT [(3, .call [false, false] [.v (.jk), .v (.jk)] [.v (.s (.int .i64 r1))])] (by cbv) ?_ ?_
  · exact (hq trivial (hq (hC (laws_szIntS_ac h_r1)) hq0))
  refine Run.seq ?_
  refine Run.seq ?_
  refine Run.region hL hT [] (by cbv) ?_ ?_
  · exact (hq trivial hq0)
  refine Run.cond (by cbv) (hq0) (fun c2 => ?_) (fun c2 => ?_)
  · have h := if_t c2 h
    refine Run.seq ?_
    refine Run.region hL hT [] (by cbv) ?_ ?_
    · exact hq0
    refine Run.ret ?_
    cases h
    refine ⟨_, _, by cbv, ?_, ?_⟩
    · exact LLe.r
    · exact (ALe.v LLe.r ALe.nil)
  · have h := if_f c2 h
    refine Run.skip ?_
    refine Run.seq ?_
    refine Run.region hL hT [] (by cbv) ?_ ?_
    · exact hq0
    refine Run.ret ?_
    cases h
    refine ⟨_, _, by cbv, ?_, ?_⟩
    · exact LLe.r
    · exact (ALe.v LLe.r ALe.nil)

set_option maxRecDepth 8000 in
theorem laws_szRow_ac {a0v_Id : Int} {a0v_Cells : List Int} {a1 : Int} {r : Int} (h : laws_szRow.f (Row.mk a0v_Id a0v_Cells) a1 = some r) : AC Try.prog 85 [.ag [.s (.int .i64 a0v_Id), .im false (rowsOf Int_c a0v_Cells)], .v (.s (.int .i64 a1))] [.ag [.jk, .jk], .v (.jk)] [.v (.s (.int .i64 r))] := by
  unfold laws_szRow.f at h
  let ar := Ls.ar; let cm := Ls.cm; let bo := Ls.bo; let sc := Ls.sc; let sa := Ls.sa; let sx := Ls.sx; let ss := Ls.ss; let sl := Ls.sl; let bs := Ls.bs; let sb := Ls.sb; let ln := Ls.ln; let sr := Ls.sr; let ap := Ls.ap; let up := Ls.up; let rp := Ls.rp; let fr := Ls.fr; let ge := Ls.ge; let le := Ls.le; let lt := Ls.lt; let nz := Ls.nz; let mm := Ls.mm; let ma := Ls.ma; let sm := Ls.sm; let fl := Ls.fl; let al := Ls.al; let ci := Ls.ci
  let eInt_c := rowsOf Int_c
  have hL : (⟨ar, cm, bo, sc, sa, sx, ss, sl, bs, sb, ln, sr, ap, up, rp, fr, ge, le, lt, nz, mm, ma, sm, fl, al, ci⟩ : Lf) = Ls := rfl
  show AC Try.prog 85 [.ag [.s (.int .i64 a0v_Id), .im false (eInt_c a0v_Cells)], .v (.s (.int .i64 a1))] _ _
  refine AC.of_run2 tab_ok Try.func85 (by rfl) (by rfl) (by cbv) ⟨by decide, rfl⟩ fun F hP hA => ?_
  have hT : TabOk F.P tab := hP ▸ tab_ok
  have hM : F.P.follows .mixedOrders = true := hP ▸ mixed
  have hC : ∀ {f a o r}, AC Try.prog f a o r → AC F.P f a o r := fun h => hP ▸ h
  refine Run.seq ?_
  refine Run.region hL hT [] (by cbv) ?_ ?_
  · exact hq0
  refine Run.seq ?_
  obtain ⟨r1, h_r1, h⟩ := bnd h
  refine Run.region hL hT [(3, .call [false, false] [.v (.jk), .v (.jk)] [.v (.s (.int .i64 r1))])] (by cbv) ?_ ?_
  · exact (hq trivial (hq (hC (laws_szIntS_ac h_r1)) hq0))
  refine Run.seq ?_
  refine Run.seq ?_
  refine Run.region hL hT [] (by cbv) ?_ ?_
  · exact (hq trivial hq0)
  refine Run.cond (by cbv) (hq0) (fun c2 => ?_) (fun c2 => ?_)
  · have h := if_t c2 h
    refine Run.seq ?_
    refine Run.region hL hT [] (by cbv) ?_ ?_
    · exact hq0
    refine Run.ret ?_
    cases h
    refine ⟨_, _, by cbv, ?_, ?_⟩
    · exact LLe.r
    · exact (ALe.v LLe.r ALe.nil)
  · have h := if_f c2 h
    refine Run.skip ?_
    refine Run.seq ?_
    refine Run.region hL hT [] (by cbv) ?_ ?_
    · exact hq0
    refine Run.ret ?_
    cases h
    refine ⟨_, _, by cbv, ?_, ?_⟩
    · exact LLe.r
    · exact (ALe.v LLe.r ALe.nil)

set_option maxRecDepth 8000 in
theorem laws_szRowS_ac {a0 : List Row} {a1 : Int} {r : Int} (h : laws_szRowS.f a0 a1 = some r) : AC Try.prog 60 [.v (.im false (rowsOf Row_i a0)), .v (.s (.int .i64 a1))] [.v (.jk), .v (.jk)] [.v (.s (.int .i64 r))] := by
  unfold laws_szRowS.f at h
  let ar := Ls.ar; let cm := Ls.cm; let bo := Ls.bo; let sc := Ls.sc; let sa := Ls.sa; let sx := Ls.sx; let ss := Ls.ss; let sl := Ls.sl; let bs := Ls.bs; let sb := Ls.sb; let ln := Ls.ln; let sr := Ls.sr; let ap := Ls.ap; let up := Ls.up; let rp := Ls.rp; let fr := Ls.fr; let ge := Ls.ge; let le := Ls.le; let lt := Ls.lt; let nz := Ls.nz; let mm := Ls.mm; let ma := Ls.ma; let sm := Ls.sm; let fl := Ls.fl; let al := Ls.al; let ci := Ls.ci
  let eInt_c := rowsOf Int_c
  let eRow_i := rowsOf Row_i
  let lenI_Row := @lenI Row
  have hL : (⟨ar, cm, bo, sc, sa, sx, ss, sl, bs, sb, ln, sr, ap, up, rp, fr, ge, le, lt, nz, mm, ma, sm, fl, al, ci⟩ : Lf) = Ls := rfl
  show AC Try.prog 60 [.v (.im false (eRow_i a0)), .v (.s (.int .i64 a1))] _ _
  refine AC.of_run2 tab_ok Try.func60 (by rfl) (by rfl) (by cbv) ⟨by decide, rfl⟩ fun F hP hA => ?_
  have hT : TabOk F.P tab := hP ▸ tab_ok
  have hM : F.P.follows .mixedOrders = true := hP ▸ mixed
  have hC : ∀ {f a o r}, AC Try.prog f a o r → AC F.P f a o r := fun h => hP ▸ h
  refine Run.seq ?_
  refine Run.region hL hT [] (by cbv) ?_ ?_
  · exact hq0
  refine Run.seq ?_
  refine Run.region hL hT [] (by cbv) ?_ ?_
  · exact (hq trivial hq0)
  rw [show ln (eRow_i a0) = lenI_Row a0 from ln_eq Row_i _]
  refine Run.seq ?_
  refine Run.seq ?_
  refine Run.region hL hT [] (by cbv) ?_ ?_
  · exact (hq trivial hq0)
  refine Run.cond (by cbv) (hq0) (fun c1 => ?_) (fun c1 => ?_)
  · have h := if_t c1 h
    refine Run.seq ?_
    refine Run.region hL hT [] (by cbv) ?_ ?_
    · exact hq0
    refine Run.ret ?_
    cases h
    refine ⟨_, _, by cbv, ?_, ?_⟩
    · exact LLe.r
    · exact (ALe.v LLe.r ALe.nil)
  · have h := if_f c1 h
    refine Run.skip ?_
    refine Run.seq ?_
    refine Run.seq ?_
    refine Run.region hL hT [] (by cbv) ?_ ?_
    · exact hq0
    refine Run.block ?_
    refine Run.loop2 (fun (z5 : Int) (z6 : Int) => ⟨27, 100000, [(0, .t (.im false (eRow_i a0))), (1, .t (.s (.int .i64 z5))), (5, .t (.s (.int .i64 z6)))], []⟩) (x0 := (ar .sub .i64 a1 (lenI_Row a0))) (x1 := 0) h (Weak.of _ [] hA (by cbv) ?_) (fun _ _ => rfl) ?_
    · repeat (first | exact hq0 | refine hq (by first | exact True.intro | rfl) ?_)
    · intro k z5 z6 h
      rw [laws_szRowS.l0] at h
      refine Run.seq ?_
      refine Run.seq ?_
      refine Run.region hL hT [] (by cbv) ?_ ?_
      · exact (hq trivial hq0)
      rw [show ln (eRow_i a0) = lenI_Row a0 from ln_eq Row_i _]
      refine Run.cond (by cbv) (hq0) (fun c7 => ?_) (fun c7 => ?_)
      · have h := if_t c7 h
        refine Run.skip ?_
        refine Run.seq ?_
        refine Run.block ?_
        refine Run.seq ?_
        obtain ⟨⟨x8v_Id, x8v_Cells⟩, h_x8, h⟩ := bnd h
        obtain ⟨r9, h_r9, h⟩ := bnd h
        refine Run.region hL hT [(2, .el [.s (.int .i64 x8v_Id), .im false (eInt_c x8v_Cells)]), (5, .call [false, false] [.ag [.jk, .jk], .v (.jk)] [.v (.s (.int .i64 r9))])] (by cbv) ?_ ?_
        · exact (hq (get_le h_x8) (hq (get_lt (f := Row_i) h_x8) (hq (get_ge (f := Row_i) h_x8) (hq (hC (laws_szRow_ac h_r9)) hq0))))
        refine Run.seq ?_
        refine Run.region hL hT [] (by cbv) ?_ ?_
        · exact (hq trivial hq0)
        refine Run.cond (by cbv) (hq0) (fun c10 => ?_) (fun c10 => ?_)
        · have h := if_t c10 h
          refine Run.seq ?_
          refine Run.region hL hT [] (by cbv) ?_ ?_
          · exact hq0
          refine Run.ret ?_
          cases h
          refine ⟨_, _, by cbv, ?_, ?_⟩
          · exact LLe.r
          · exact (ALe.v LLe.r ALe.nil)
        · have h := if_f c10 h
          refine Run.skip ?_
          refine Run.region hL hT [] (by cbv) ?_ ?_
          · exact (hq trivial hq0)
          refine ⟨r9, (ar .add .i64 z6 1), h, Weak.of _ [] hA (by cbv) ?_⟩
          repeat (first | exact hq0 | refine hq (by first | exact True.intro | rfl) ?_)
      · have h := if_f c7 h
        refine Run.exit ?_
        refine Run.seq ?_
        refine Run.region hL hT [] (by cbv) ?_ ?_
        · exact hq0
        refine Run.ret ?_
        cases h
        refine ⟨_, _, by cbv, ?_, ?_⟩
        · exact LLe.r
        · exact (ALe.v LLe.r ALe.nil)

set_option maxRecDepth 8000 in
theorem laws_szRowSS_ac {a0 : List (List Row)} {a1 : Int} {r : Int} (h : laws_szRowSS.f a0 a1 = some r) : AC Try.prog 24 [.v (.im false (rowsOf RowS_i a0)), .v (.s (.int .i64 a1))] [.v (.jk), .v (.jk)] [.v (.s (.int .i64 r))] := by
  unfold laws_szRowSS.f at h
  let ar := Ls.ar; let cm := Ls.cm; let bo := Ls.bo; let sc := Ls.sc; let sa := Ls.sa; let sx := Ls.sx; let ss := Ls.ss; let sl := Ls.sl; let bs := Ls.bs; let sb := Ls.sb; let ln := Ls.ln; let sr := Ls.sr; let ap := Ls.ap; let up := Ls.up; let rp := Ls.rp; let fr := Ls.fr; let ge := Ls.ge; let le := Ls.le; let lt := Ls.lt; let nz := Ls.nz; let mm := Ls.mm; let ma := Ls.ma; let sm := Ls.sm; let fl := Ls.fl; let al := Ls.al; let ci := Ls.ci
  let eRowS_i := rowsOf RowS_i
  let eRow_i := rowsOf Row_i
  let lenI_RowS := @lenI (List Row)
  have hL : (⟨ar, cm, bo, sc, sa, sx, ss, sl, bs, sb, ln, sr, ap, up, rp, fr, ge, le, lt, nz, mm, ma, sm, fl, al, ci⟩ : Lf) = Ls := rfl
  show AC Try.prog 24 [.v (.im false (eRowS_i a0)), .v (.s (.int .i64 a1))] _ _
  refine AC.of_run2 tab_ok Try.func24 (by rfl) (by rfl) (by cbv) ⟨by decide, rfl⟩ fun F hP hA => ?_
  have hT : TabOk F.P tab := hP ▸ tab_ok
  have hM : F.P.follows .mixedOrders = true := hP ▸ mixed
  have hC : ∀ {f a o r}, AC Try.prog f a o r → AC F.P f a o r := fun h => hP ▸ h
  refine Run.seq ?_
  refine Run.region hL hT [] (by cbv) ?_ ?_
  · exact hq0
  refine Run.seq ?_
  refine Run.region hL hT [] (by cbv) ?_ ?_
  · exact (hq trivial hq0)
  rw [show ln (eRowS_i a0) = lenI_RowS a0 from ln_eq RowS_i _]
  refine Run.seq ?_
  refine Run.seq ?_
  refine Run.region hL hT [] (by cbv) ?_ ?_
  · exact (hq trivial hq0)
  refine Run.cond (by cbv) (hq0) (fun c1 => ?_) (fun c1 => ?_)
  · have h := if_t c1 h
    refine Run.seq ?_
    refine Run.region hL hT [] (by cbv) ?_ ?_
    · exact hq0
    refine Run.ret ?_
    cases h
    refine ⟨_, _, by cbv, ?_, ?_⟩
    · exact LLe.r
    · exact (ALe.v LLe.r ALe.nil)
  · have h := if_f c1 h
    refine Run.skip ?_
    refine Run.seq ?_
    refine Run.seq ?_
    refine Run.region hL hT [] (by cbv) ?_ ?_
    · exact hq0
    refine Run.block ?_
    refine Run.loop2 (fun (z5 : Int) (z6 : Int) => ⟨27, 100000, [(0, .t (.im false (eRowS_i a0))), (1, .t (.s (.int .i64 z5))), (5, .t (.s (.int .i64 z6)))], []⟩) (x0 := (ar .sub .i64 a1 (lenI_RowS a0))) (x1 := 0) h (Weak.of _ [] hA (by cbv) ?_) (fun _ _ => rfl) ?_
    · repeat (first | exact hq0 | refine hq (by first | exact True.intro | rfl) ?_)
    · intro k z5 z6 h
      rw [laws_szRowSS.l0] at h
      refine Run.seq ?_
      refine Run.seq ?_
      refine Run.region hL hT [] (by cbv) ?_ ?_
      · exact (hq trivial hq0)
      rw [show ln (eRowS_i a0) = lenI_RowS a0 from ln_eq RowS_i _]
      refine Run.cond (by cbv) (hq0) (fun c7 => ?_) (fun c7 => ?_)
      · have h := if_t c7 h
        refine Run.skip ?_
        refine Run.seq ?_
        refine Run.block ?_
        refine Run.seq ?_
        obtain ⟨x8, h_x8, h⟩ := bnd h
        obtain ⟨r9, h_r9, h⟩ := bnd h
        refine Run.region hL hT [(2, .el [.im false (eRow_i x8)]), (5, .call [false, false] [.v (.jk), .v (.jk)] [.v (.s (.int .i64 r9))])] (by cbv) ?_ ?_
        · exact (hq (get_le h_x8) (hq (get_lt (f := RowS_i) h_x8) (hq (get_ge (f := RowS_i) h_x8) (hq (hC (laws_szRowS_ac h_r9)) hq0))))
        refine Run.seq ?_
        refine Run.region hL hT [] (by cbv) ?_ ?_
        · exact (hq trivial hq0)
        refine Run.cond (by cbv) (hq0) (fun c10 => ?_) (fun c10 => ?_)
        · have h := if_t c10 h
          refine Run.seq ?_
          refine Run.region hL hT [] (by cbv) ?_ ?_
          · exact hq0
          refine Run.ret ?_
          cases h
          refine ⟨_, _, by cbv, ?_, ?_⟩
          · exact LLe.r
          · exact (ALe.v LLe.r ALe.nil)
        · have h := if_f c10 h
          refine Run.skip ?_
          refine Run.region hL hT [] (by cbv) ?_ ?_
          · exact (hq trivial hq0)
          refine ⟨r9, (ar .add .i64 z6 1), h, Weak.of _ [] hA (by cbv) ?_⟩
          repeat (first | exact hq0 | refine hq (by first | exact True.intro | rfl) ?_)
      · have h := if_f c7 h
        refine Run.exit ?_
        refine Run.seq ?_
        refine Run.region hL hT [] (by cbv) ?_ ?_
        · exact hq0
        refine Run.ret ?_
        cases h
        refine ⟨_, _, by cbv, ?_, ?_⟩
        · exact LLe.r
        · exact (ALe.v LLe.r ALe.nil)

set_option maxRecDepth 8000 in
theorem laws_szStore_ac {a0v_Schemav_Cols : List Int} {a0v_Version : Int} {a0v_Tables : List (List Row)} {a1 : Int} {r : Int} (h : laws_szStore.f (Store.mk (Schema.mk a0v_Schemav_Cols) a0v_Version a0v_Tables) a1 = some r) : AC Try.prog 5 [.ag [.im false (rowsOf Int_c a0v_Schemav_Cols), .s (.int .i64 a0v_Version), .im false (rowsOf RowS_i a0v_Tables)], .v (.s (.int .i64 a1))] [.ag [.jk, .jk, .jk], .v (.jk)] [.v (.s (.int .i64 r))] := by
  unfold laws_szStore.f at h
  let ar := Ls.ar; let cm := Ls.cm; let bo := Ls.bo; let sc := Ls.sc; let sa := Ls.sa; let sx := Ls.sx; let ss := Ls.ss; let sl := Ls.sl; let bs := Ls.bs; let sb := Ls.sb; let ln := Ls.ln; let sr := Ls.sr; let ap := Ls.ap; let up := Ls.up; let rp := Ls.rp; let fr := Ls.fr; let ge := Ls.ge; let le := Ls.le; let lt := Ls.lt; let nz := Ls.nz; let mm := Ls.mm; let ma := Ls.ma; let sm := Ls.sm; let fl := Ls.fl; let al := Ls.al; let ci := Ls.ci
  let eInt_c := rowsOf Int_c
  let eRowS_i := rowsOf RowS_i
  have hL : (⟨ar, cm, bo, sc, sa, sx, ss, sl, bs, sb, ln, sr, ap, up, rp, fr, ge, le, lt, nz, mm, ma, sm, fl, al, ci⟩ : Lf) = Ls := rfl
  show AC Try.prog 5 [.ag [.im false (eInt_c a0v_Schemav_Cols), .s (.int .i64 a0v_Version), .im false (eRowS_i a0v_Tables)], .v (.s (.int .i64 a1))] _ _
  refine AC.of_run2 tab_ok Try.func5 (by rfl) (by rfl) (by cbv) ⟨by decide, rfl⟩ fun F hP hA => ?_
  have hT : TabOk F.P tab := hP ▸ tab_ok
  have hM : F.P.follows .mixedOrders = true := hP ▸ mixed
  have hC : ∀ {f a o r}, AC Try.prog f a o r → AC F.P f a o r := fun h => hP ▸ h
  refine Run.seq ?_
  refine Run.region hL hT [] (by cbv) ?_ ?_
  · exact hq0
  refine Run.seq ?_
  obtain ⟨r1, h_r1, h⟩ := bnd h
  refine Run.region hL hT [(3, .call [false, false] [.ag [.jk], .v (.jk)] [.v (.s (.int .i64 r1))])] (by cbv) ?_ ?_
  · exact (hq trivial (hq (hC (laws_szSchema_ac h_r1)) hq0))
  refine Run.seq ?_
  refine Run.seq ?_
  refine Run.region hL hT [] (by cbv) ?_ ?_
  · exact (hq trivial hq0)
  refine Run.cond (by cbv) (hq0) (fun c2 => ?_) (fun c2 => ?_)
  · have h := if_t c2 h
    refine Run.seq ?_
    refine Run.region hL hT [] (by cbv) ?_ ?_
    · exact hq0
    refine Run.ret ?_
    cases h
    refine ⟨_, _, by cbv, ?_, ?_⟩
    · exact LLe.r
    · exact (ALe.v LLe.r ALe.nil)
  · have h := if_f c2 h
    refine Run.skip ?_
    refine Run.seq ?_
    obtain ⟨r3, h_r3, h⟩ := bnd h
    refine Run.region hL hT [(3, .call [false, false] [.v (.jk), .v (.jk)] [.v (.s (.int .i64 r3))])] (by cbv) ?_ ?_
    · exact (hq trivial (hq (hC (laws_szRowSS_ac h_r3)) hq0))
    refine Run.seq ?_
    refine Run.seq ?_
    refine Run.region hL hT [] (by cbv) ?_ ?_
    · exact (hq trivial hq0)
    refine Run.cond (by cbv) (hq0) (fun c4 => ?_) (fun c4 => ?_)
    · have h := if_t c4 h
      refine Run.seq ?_
      refine Run.region hL hT [] (by cbv) ?_ ?_
      · exact hq0
      refine Run.ret ?_
      cases h
      refine ⟨_, _, by cbv, ?_, ?_⟩
      · exact LLe.r
      · exact (ALe.v LLe.r ALe.nil)
    · have h := if_f c4 h
      refine Run.skip ?_
      refine Run.seq ?_
      refine Run.region hL hT [] (by cbv) ?_ ?_
      · exact hq0
      refine Run.ret ?_
      cases h
      refine ⟨_, _, by cbv, ?_, ?_⟩
      · exact LLe.r
      · exact (ALe.v LLe.r ALe.nil)

set_option maxRecDepth 8000 in
theorem laws_szCondS_ac {a0 : List Cond} {a1 : Int} {r : Int} (h : laws_szCondS.f a0 a1 = some r) : AC Try.prog 25 [.v (.im false (rowsOf Cond_c a0)), .v (.s (.int .i64 a1))] [.v (.jk), .v (.jk)] [.v (.s (.int .i64 r))] := by
  unfold laws_szCondS.f at h
  let ar := Ls.ar; let cm := Ls.cm; let bo := Ls.bo; let sc := Ls.sc; let sa := Ls.sa; let sx := Ls.sx; let ss := Ls.ss; let sl := Ls.sl; let bs := Ls.bs; let sb := Ls.sb; let ln := Ls.ln; let sr := Ls.sr; let ap := Ls.ap; let up := Ls.up; let rp := Ls.rp; let fr := Ls.fr; let ge := Ls.ge; let le := Ls.le; let lt := Ls.lt; let nz := Ls.nz; let mm := Ls.mm; let ma := Ls.ma; let sm := Ls.sm; let fl := Ls.fl; let al := Ls.al; let ci := Ls.ci
  let eCond_c := rowsOf Cond_c
  let lenI_Cond := @lenI Cond
  have hL : (⟨ar, cm, bo, sc, sa, sx, ss, sl, bs, sb, ln, sr, ap, up, rp, fr, ge, le, lt, nz, mm, ma, sm, fl, al, ci⟩ : Lf) = Ls := rfl
  show AC Try.prog 25 [.v (.im false (eCond_c a0)), .v (.s (.int .i64 a1))] _ _
  refine AC.of_run2 tab_ok Try.func25 (by rfl) (by rfl) (by cbv) ⟨by decide, rfl⟩ fun F hP hA => ?_
  have hT : TabOk F.P tab := hP ▸ tab_ok
  have hM : F.P.follows .mixedOrders = true := hP ▸ mixed
  have hC : ∀ {f a o r}, AC Try.prog f a o r → AC F.P f a o r := fun h => hP ▸ h
  refine Run.seq ?_
  refine Run.region hL hT [] (by cbv) ?_ ?_
  · exact hq0
  refine Run.seq ?_
  refine Run.region hL hT [] (by cbv) ?_ ?_
  · exact (hq trivial hq0)
  rw [show ln (eCond_c a0) = lenI_Cond a0 from ln_eq Cond_c _]
  refine Run.seq ?_
  refine Run.seq ?_
  refine Run.region hL hT [] (by cbv) ?_ ?_
  · exact (hq trivial hq0)
  refine Run.cond (by cbv) (hq0) (fun c1 => ?_) (fun c1 => ?_)
  · have h := if_t c1 h
    refine Run.seq ?_
    refine Run.region hL hT [] (by cbv) ?_ ?_
    · exact hq0
    refine Run.ret ?_
    cases h
    refine ⟨_, _, by cbv, ?_, ?_⟩
    · exact LLe.r
    · exact (ALe.v LLe.r ALe.nil)
  · have h := if_f c1 h
    refine Run.skip ?_
    refine Run.seq ?_
    refine Run.region hL hT [] (by cbv) ?_ ?_
    · exact hq0
    refine Run.ret ?_
    cases h
    refine ⟨_, _, by cbv, ?_, ?_⟩
    · exact LLe.r
    · exact (ALe.v LLe.r ALe.nil)

set_option maxRecDepth 8000 in
theorem laws_szQuery_ac {a0v_Table : Int} {a0v_Where : List Cond} {a0v_Order : Int} {a0v_Down : Bool} {a0v_First : Int} {a0v_Show : List Int} {a0v_Kids : Bool} {a0v_KidTable : Int} {a0v_KidCol : Int} {a1 : Int} {r : Int} (h : laws_szQuery.f (Query.mk a0v_Table a0v_Where a0v_Order a0v_Down a0v_First a0v_Show a0v_Kids a0v_KidTable a0v_KidCol) a1 = some r) : AC Try.prog 6 [.ag [.s (.int .i64 a0v_Table), .im false (rowsOf Cond_c a0v_Where), .s (.int .i64 a0v_Order), .s (.bool a0v_Down), .s (.int .i64 a0v_First), .im false (rowsOf Int_c a0v_Show), .s (.bool a0v_Kids), .s (.int .i64 a0v_KidTable), .s (.int .i64 a0v_KidCol)], .v (.s (.int .i64 a1))] [.ag [.jk, .jk, .jk, .jk, .jk, .jk, .jk, .jk, .jk], .v (.jk)] [.v (.s (.int .i64 r))] := by
  unfold laws_szQuery.f at h
  let ar := Ls.ar; let cm := Ls.cm; let bo := Ls.bo; let sc := Ls.sc; let sa := Ls.sa; let sx := Ls.sx; let ss := Ls.ss; let sl := Ls.sl; let bs := Ls.bs; let sb := Ls.sb; let ln := Ls.ln; let sr := Ls.sr; let ap := Ls.ap; let up := Ls.up; let rp := Ls.rp; let fr := Ls.fr; let ge := Ls.ge; let le := Ls.le; let lt := Ls.lt; let nz := Ls.nz; let mm := Ls.mm; let ma := Ls.ma; let sm := Ls.sm; let fl := Ls.fl; let al := Ls.al; let ci := Ls.ci
  let eCond_c := rowsOf Cond_c
  let eInt_c := rowsOf Int_c
  have hL : (⟨ar, cm, bo, sc, sa, sx, ss, sl, bs, sb, ln, sr, ap, up, rp, fr, ge, le, lt, nz, mm, ma, sm, fl, al, ci⟩ : Lf) = Ls := rfl
  show AC Try.prog 6 [.ag [.s (.int .i64 a0v_Table), .im false (eCond_c a0v_Where), .s (.int .i64 a0v_Order), .s (.bool a0v_Down), .s (.int .i64 a0v_First), .im false (eInt_c a0v_Show), .s (.bool a0v_Kids), .s (.int .i64 a0v_KidTable), .s (.int .i64 a0v_KidCol)], .v (.s (.int .i64 a1))] _ _
  refine AC.of_run2 tab_ok Try.func6 (by rfl) (by rfl) (by cbv) ⟨by decide, rfl⟩ fun F hP hA => ?_
  have hT : TabOk F.P tab := hP ▸ tab_ok
  have hM : F.P.follows .mixedOrders = true := hP ▸ mixed
  have hC : ∀ {f a o r}, AC Try.prog f a o r → AC F.P f a o r := fun h => hP ▸ h
  refine Run.seq ?_
  refine Run.region hL hT [] (by cbv) ?_ ?_
  · exact hq0
  refine Run.seq ?_
  obtain ⟨r1, h_r1, h⟩ := bnd h
  refine Run.region hL hT [(3, .call [false, false] [.v (.jk), .v (.jk)] [.v (.s (.int .i64 r1))])] (by cbv) ?_ ?_
  · exact (hq trivial (hq (hC (laws_szCondS_ac h_r1)) hq0))
  refine Run.seq ?_
  refine Run.seq ?_
  refine Run.region hL hT [] (by cbv) ?_ ?_
  · exact (hq trivial hq0)
  refine Run.cond (by cbv) (hq0) (fun c2 => ?_) (fun c2 => ?_)
  · have h := if_t c2 h
    refine Run.seq ?_
    refine Run.region hL hT [] (by cbv) ?_ ?_
    · exact hq0
    refine Run.ret ?_
    cases h
    refine ⟨_, _, by cbv, ?_, ?_⟩
    · exact LLe.r
    · exact (ALe.v LLe.r ALe.nil)
  · have h := if_f c2 h
    refine Run.skip ?_
    refine Run.seq ?_
    obtain ⟨r3, h_r3, h⟩ := bnd h
    refine Run.region hL hT [(3, .call [false, false] [.v (.jk), .v (.jk)] [.v (.s (.int .i64 r3))])] (by cbv) ?_ ?_
    · exact (hq trivial (hq (hC (laws_szIntS_ac h_r3)) hq0))
    refine Run.seq ?_
    refine Run.seq ?_
    refine Run.region hL hT [] (by cbv) ?_ ?_
    · exact (hq trivial hq0)
    refine Run.cond (by cbv) (hq0) (fun c4 => ?_) (fun c4 => ?_)
    · have h := if_t c4 h
      refine Run.seq ?_
      refine Run.region hL hT [] (by cbv) ?_ ?_
      · exact hq0
      refine Run.ret ?_
      cases h
      refine ⟨_, _, by cbv, ?_, ?_⟩
      · exact LLe.r
      · exact (ALe.v LLe.r ALe.nil)
    · have h := if_f c4 h
      refine Run.skip ?_
      refine Run.seq ?_
      refine Run.region hL hT [] (by cbv) ?_ ?_
      · exact hq0
      refine Run.ret ?_
      cases h
      refine ⟨_, _, by cbv, ?_, ?_⟩
      · exact LLe.r
      · exact (ALe.v LLe.r ALe.nil)

set_option maxRecDepth 8000 in
theorem laws_toIntS_ac {a0 : List Int} {r : (List Int)} (h : laws_toIntS.f a0 = some r) : AC Try.prog 34 [.v (.im false (rowsOf Int_c a0))] [.v (.jk)] [.v (.ow 3 (rowsOf Int_c r))] := by
  unfold laws_toIntS.f at h
  let ar := Ls.ar; let cm := Ls.cm; let bo := Ls.bo; let sc := Ls.sc; let sa := Ls.sa; let sx := Ls.sx; let ss := Ls.ss; let sl := Ls.sl; let bs := Ls.bs; let sb := Ls.sb; let ln := Ls.ln; let sr := Ls.sr; let ap := Ls.ap; let up := Ls.up; let rp := Ls.rp; let fr := Ls.fr; let ge := Ls.ge; let le := Ls.le; let lt := Ls.lt; let nz := Ls.nz; let mm := Ls.mm; let ma := Ls.ma; let sm := Ls.sm; let fl := Ls.fl; let al := Ls.al; let ci := Ls.ci
  let eInt_c := rowsOf Int_c
  let lenI_Int := @lenI Int
  have hL : (⟨ar, cm, bo, sc, sa, sx, ss, sl, bs, sb, ln, sr, ap, up, rp, fr, ge, le, lt, nz, mm, ma, sm, fl, al, ci⟩ : Lf) = Ls := rfl
  show AC Try.prog 34 [.v (.im false (eInt_c a0))] _ _
  refine AC.of_run2 tab_ok Try.func34 (by rfl) (by rfl) (by cbv) ⟨by decide, rfl⟩ fun F hP hA => ?_
  have hT : TabOk F.P tab := hP ▸ tab_ok
  have hM : F.P.follows .mixedOrders = true := hP ▸ mixed
  have hC : ∀ {f a o r}, AC Try.prog f a o r → AC F.P f a o r := fun h => hP ▸ h
  refine Run.seq ?_
  refine Run.region hL hT [] (by cbv) ?_ ?_
  · exact hq0
  refine Run.seq ?_
  obtain ⟨l1, h_l1, h⟩ := bnd h
  refine Run.region hL hT [] (by cbv) ?_ ?_
  · exact (hq trivial (hq (by rw [show ln (eInt_c a0) = lenI_Int a0 from ln_eq Int_c _]; exact (mk_0 h_l1)) (hq (by rw [show ln (eInt_c a0) = lenI_Int a0 from ln_eq Int_c _]; exact (mk_mm h_l1)) hq0)))
  rw [show ln (eInt_c a0) = lenI_Int a0 from ln_eq Int_c _]
  refine Run.row (rows := (rp (lenI_Int a0) [.s (.int .i64 0)])) 4098 (eInt_c l1) (by cbv) (mk_le (f := Int_c) rfl LLe.r h_l1) ?_
  refine Run.seq ?_
  refine Run.seq ?_
  refine Run.region hL hT [] (by cbv) ?_ ?_
  · exact hq0
  refine Run.block ?_
  refine Run.loop2 (fun (z5 : List Int) (z6 : Int) => ⟨22, 100000, [(0, .t (.im false (eInt_c a0))), (3, .rf 1), (4, .t (.s (.int .i64 z6)))], [(1, .row 0 3 1 (eInt_c z5))]⟩) (x0 := l1) (x1 := 0) h (Weak.of _ [(1, 4098)] hA (by cbv) ?_) (fun _ _ => rfl) ?_
  · repeat (first | exact hq0 | refine hq (by first | exact True.intro | rfl) ?_)
  · intro k z5 z6 h
    rw [laws_toIntS.l0] at h
    refine Run.seq ?_
    refine Run.seq ?_
    refine Run.region hL hT [] (by cbv) ?_ ?_
    · exact (hq trivial hq0)
    rw [show ln (eInt_c a0) = lenI_Int a0 from ln_eq Int_c _]
    refine Run.cond (by cbv) (hq0) (fun c7 => ?_) (fun c7 => ?_)
    · have h := if_t c7 h
      refine Run.skip ?_
      refine Run.seq ?_
      refine Run.block ?_
      obtain ⟨x8, h_x8, h⟩ := bnd h
      obtain ⟨x9, h_x9, h⟩ := bnd h
      obtain ⟨l10, h_l10, h⟩ := bnd h
      refine Run.region hL hT [(4, .el [.s (.int .i64 x8)])] (by cbv) ?_ ?_
      · exact (hq (get_le h_x8) (hq (get_lt (f := Int_c) h_x8) (hq (get_ge (f := Int_c) h_x8) (hq (get_le h_x9) (hq (get_lt (f := Int_c) h_x9) (hq (get_le h_x9) (hq (get_lt (f := Int_c) h_x9) hq0)))))))
      refine Run.row (rows := (up (eInt_c z5) z6 0 [.s (.int .i64 x8)])) 1 (eInt_c l10) (by cbv) (sto_le (f := Int_c) h_x9 h_l10 rfl LLe.r) ?_
      refine Run.region hL hT [] (by cbv) ?_ ?_
      · exact (hq trivial hq0)
      refine ⟨l10, (ar .add .i64 z6 1), h, Weak.of _ [(1, 1)] hA (by cbv) ?_⟩
      repeat (first | exact hq0 | refine hq (by first | exact True.intro | rfl) ?_)
    · have h := if_f c7 h
      refine Run.exit ?_
      refine Run.seq ?_
      refine Run.region hL hT [] (by cbv) ?_ ?_
      · exact hq0
      refine Run.ret ?_
      cases h
      refine ⟨_, _, by cbv, ?_, ?_⟩
      · exact LLe.r
      · exact (ALe.v LLe.r ALe.nil)

set_option maxRecDepth 8000 in
theorem laws_toSchema_ac {a0v_Cols : List Int} {r : Schema} (h : laws_toSchema.f (Schema.mk a0v_Cols) = some r) : AC Try.prog 31 [.ag [.im false (rowsOf Int_c a0v_Cols)]] [.ag [.jk]] [.ag [.ow 3 (rowsOf Int_c r.Cols)]] := by
  unfold laws_toSchema.f at h
  let ar := Ls.ar; let cm := Ls.cm; let bo := Ls.bo; let sc := Ls.sc; let sa := Ls.sa; let sx := Ls.sx; let ss := Ls.ss; let sl := Ls.sl; let bs := Ls.bs; let sb := Ls.sb; let ln := Ls.ln; let sr := Ls.sr; let ap := Ls.ap; let up := Ls.up; let rp := Ls.rp; let fr := Ls.fr; let ge := Ls.ge; let le := Ls.le; let lt := Ls.lt; let nz := Ls.nz; let mm := Ls.mm; let ma := Ls.ma; let sm := Ls.sm; let fl := Ls.fl; let al := Ls.al; let ci := Ls.ci
  let eInt_c := rowsOf Int_c
  have hL : (⟨ar, cm, bo, sc, sa, sx, ss, sl, bs, sb, ln, sr, ap, up, rp, fr, ge, le, lt, nz, mm, ma, sm, fl, al, ci⟩ : Lf) = Ls := rfl
  show AC Try.prog 31 [.ag [.im false (eInt_c a0v_Cols)]] _ _
  refine AC.of_run2 tab_ok Try.func31 (by rfl) (by rfl) (by cbv) ⟨by decide, rfl⟩ fun F hP hA => ?_
  have hT : TabOk F.P tab := hP ▸ tab_ok
  have hM : F.P.follows .mixedOrders = true := hP ▸ mixed
  have hC : ∀ {f a o r}, AC Try.prog f a o r → AC F.P f a o r := fun h => hP ▸ h
  refine Run.seq ?_
  refine Run.region hL hT [] (by cbv) ?_ ?_
  · exact hq0
  refine Run.seq ?_
  refine Run.region hL hT [] (by cbv) ?_ ?_
  · exact hq0
  refine Run.seq ?_
  obtain ⟨r1, h_r1, h⟩ := bnd h
  refine Run.region hL hT [(2, .call [false] [.v (.jk)] [.v (.ow 3 (eInt_c r1))])] (by cbv) ?_ ?_
  · exact (hq trivial (hq (hC (laws_toIntS_ac h_r1)) (hq trivial hq0)))
  refine Run.seq ?_
  refine Run.region hL hT [] (by cbv) ?_ ?_
  · exact (hq trivial (hq trivial hq0))
  refine Run.ret ?_
  cases h
  refine ⟨_, _, by cbv, ?_, ?_⟩
  · exact LLe.r
  · exact (ALe.ag rfl LLe.r ALe.nil)

set_option maxRecDepth 8000 in
theorem laws_toRow_ac {a0v_Id : Int} {a0v_Cells : List Int} {r : Row} (h : laws_toRow.f (Row.mk a0v_Id a0v_Cells) = some r) : AC Try.prog 88 [.ag [.s (.int .i64 a0v_Id), .im false (rowsOf Int_c a0v_Cells)]] [.ag [.jk, .jk]] [.ag [.s (.int .i64 r.Id), .ow 3 (rowsOf Int_c r.Cells)]] := by
  unfold laws_toRow.f at h
  let ar := Ls.ar; let cm := Ls.cm; let bo := Ls.bo; let sc := Ls.sc; let sa := Ls.sa; let sx := Ls.sx; let ss := Ls.ss; let sl := Ls.sl; let bs := Ls.bs; let sb := Ls.sb; let ln := Ls.ln; let sr := Ls.sr; let ap := Ls.ap; let up := Ls.up; let rp := Ls.rp; let fr := Ls.fr; let ge := Ls.ge; let le := Ls.le; let lt := Ls.lt; let nz := Ls.nz; let mm := Ls.mm; let ma := Ls.ma; let sm := Ls.sm; let fl := Ls.fl; let al := Ls.al; let ci := Ls.ci
  let eInt_c := rowsOf Int_c
  have hL : (⟨ar, cm, bo, sc, sa, sx, ss, sl, bs, sb, ln, sr, ap, up, rp, fr, ge, le, lt, nz, mm, ma, sm, fl, al, ci⟩ : Lf) = Ls := rfl
  show AC Try.prog 88 [.ag [.s (.int .i64 a0v_Id), .im false (eInt_c a0v_Cells)]] _ _
  refine AC.of_run2 tab_ok Try.func88 (by rfl) (by rfl) (by cbv) ⟨by decide, rfl⟩ fun F hP hA => ?_
  have hT : TabOk F.P tab := hP ▸ tab_ok
  have hM : F.P.follows .mixedOrders = true := hP ▸ mixed
  have hC : ∀ {f a o r}, AC Try.prog f a o r → AC F.P f a o r := fun h => hP ▸ h
  refine Run.seq ?_
  refine Run.region hL hT [] (by cbv) ?_ ?_
  · exact hq0
  refine Run.seq ?_
  refine Run.region hL hT [] (by cbv) ?_ ?_
  · exact hq0
  refine Run.seq ?_
  refine Run.region hL hT [] (by cbv) ?_ ?_
  · exact (hq trivial (hq trivial hq0))
  refine Run.seq ?_
  obtain ⟨r1, h_r1, h⟩ := bnd h
  refine Run.region hL hT [(2, .call [false] [.v (.jk)] [.v (.ow 3 (eInt_c r1))])] (by cbv) ?_ ?_
  · exact (hq trivial (hq (hC (laws_toIntS_ac h_r1)) (hq trivial hq0)))
  refine Run.seq ?_
  refine Run.region hL hT [] (by cbv) ?_ ?_
  · exact (hq trivial (hq trivial hq0))
  refine Run.ret ?_
  cases h
  refine ⟨_, _, by cbv, ?_, ?_⟩
  · exact LLe.r
  · exact (ALe.ag rfl LLe.r ALe.nil)

set_option maxRecDepth 8000 in
theorem laws_toRowS_ac {a0 : List Row} {r : (List Row)} (h : laws_toRowS.f a0 = some r) : AC Try.prog 67 [.v (.im false (rowsOf Row_i a0))] [.v (.jk)] [.v (.ow 66 (rowsOf Row_o r))] := by
  unfold laws_toRowS.f at h
  let ar := Ls.ar; let cm := Ls.cm; let bo := Ls.bo; let sc := Ls.sc; let sa := Ls.sa; let sx := Ls.sx; let ss := Ls.ss; let sl := Ls.sl; let bs := Ls.bs; let sb := Ls.sb; let ln := Ls.ln; let sr := Ls.sr; let ap := Ls.ap; let up := Ls.up; let rp := Ls.rp; let fr := Ls.fr; let ge := Ls.ge; let le := Ls.le; let lt := Ls.lt; let nz := Ls.nz; let mm := Ls.mm; let ma := Ls.ma; let sm := Ls.sm; let fl := Ls.fl; let al := Ls.al; let ci := Ls.ci
  let eInt_c := rowsOf Int_c
  let eRow_i := rowsOf Row_i
  let eRow_o := rowsOf Row_o
  let lenI_Row := @lenI Row
  have hL : (⟨ar, cm, bo, sc, sa, sx, ss, sl, bs, sb, ln, sr, ap, up, rp, fr, ge, le, lt, nz, mm, ma, sm, fl, al, ci⟩ : Lf) = Ls := rfl
  show AC Try.prog 67 [.v (.im false (eRow_i a0))] _ _
  refine AC.of_run2 tab_ok Try.func67 (by rfl) (by rfl) (by cbv) ⟨by decide, rfl⟩ fun F hP hA => ?_
  have hT : TabOk F.P tab := hP ▸ tab_ok
  have hM : F.P.follows .mixedOrders = true := hP ▸ mixed
  have hC : ∀ {f a o r}, AC Try.prog f a o r → AC F.P f a o r := fun h => hP ▸ h
  refine Run.seq ?_
  refine Run.region hL hT [] (by cbv) ?_ ?_
  · exact hq0
  refine Run.seq ?_
  obtain ⟨l1, h_l1, h⟩ := bnd h
  refine Run.region hL hT [] (by cbv) ?_ ?_
  · exact (hq trivial (hq (by rw [show ln (eRow_i a0) = lenI_Row a0 from ln_eq Row_i _]; exact (mk_0 h_l1)) (hq (by rw [show ln (eRow_i a0) = lenI_Row a0 from ln_eq Row_i _]; exact (mk_mm h_l1)) hq0)))
  rw [show ln (eRow_i a0) = lenI_Row a0 from ln_eq Row_i _]
  refine Run.row (rows := (rp (lenI_Row a0) [.s (.int .i64 0), .s (.slice none 0 0)])) 4098 (eRow_o l1) (by cbv) (mk_le (f := Row_o) rfl (LLe.c (LLe.cons LLe.nilO LLe.nil)) h_l1) ?_
  refine Run.seq ?_
  refine Run.seq ?_
  refine Run.region hL hT [] (by cbv) ?_ ?_
  · exact hq0
  refine Run.block ?_
  refine Run.loop2 (fun (z5 : List Row) (z6 : Int) => ⟨23, 100000, [(0, .t (.im false (eRow_i a0))), (3, .rf 1), (4, .t (.s (.int .i64 z6)))], [(1, .row 0 66 2 (eRow_o z5))]⟩) (x0 := l1) (x1 := 0) h (Weak.of _ [(1, 4098)] hA (by cbv) ?_) (fun _ _ => rfl) ?_
  · repeat (first | exact hq0 | refine hq (by first | exact True.intro | rfl) ?_)
  · intro k z5 z6 h
    rw [laws_toRowS.l0] at h
    refine Run.seq ?_
    refine Run.seq ?_
    refine Run.region hL hT [] (by cbv) ?_ ?_
    · exact (hq trivial hq0)
    rw [show ln (eRow_i a0) = lenI_Row a0 from ln_eq Row_i _]
    refine Run.cond (by cbv) (hq0) (fun c7 => ?_) (fun c7 => ?_)
    · have h := if_t c7 h
      refine Run.skip ?_
      refine Run.seq ?_
      refine Run.block ?_
      obtain ⟨⟨x8v_Id, x8v_Cells⟩, h_x8, h⟩ := bnd h
      obtain ⟨⟨r9v_Id, r9v_Cells⟩, h_r9, h⟩ := bnd h
      obtain ⟨⟨x10v_Id, x10v_Cells⟩, h_x10, h⟩ := bnd h
      obtain ⟨l11, h_l11, h⟩ := bnd h
      refine Run.region hL hT [(4, .el [.s (.int .i64 x8v_Id), .im false (eInt_c x8v_Cells)]), (6, .call [false] [.ag [.jk, .jk]] [.ag [.s (.int .i64 r9v_Id), .ow 3 (eInt_c r9v_Cells)]])] (by cbv) ?_ ?_
      · exact (hq (get_le h_x8) (hq (get_lt (f := Row_i) h_x8) (hq (get_ge (f := Row_i) h_x8) (hq (hC (laws_toRow_ac h_r9)) (hq (get_le h_x10) (hq (get_lt (f := Row_o) h_x10) (hq (get_le h_x10) (hq (get_lt (f := Row_o) h_x10) hq0))))))))
      refine Run.row (rows := (up (eRow_o z5) z6 0 [.s (.int .i64 r9v_Id), .ow 3 (eInt_c r9v_Cells)])) 1 (eRow_o l11) (by cbv) (sto_le (f := Row_o) h_x10 h_l11 rfl LLe.r) ?_
      refine Run.region hL hT [] (by cbv) ?_ ?_
      · exact (hq trivial hq0)
      refine ⟨l11, (ar .add .i64 z6 1), h, Weak.of _ [(1, 1)] hA (by cbv) ?_⟩
      repeat (first | exact hq0 | refine hq (by first | exact True.intro | rfl) ?_)
    · have h := if_f c7 h
      refine Run.exit ?_
      refine Run.seq ?_
      refine Run.region hL hT [] (by cbv) ?_ ?_
      · exact hq0
      refine Run.ret ?_
      cases h
      refine ⟨_, _, by cbv, ?_, ?_⟩
      · exact LLe.r
      · exact (ALe.v LLe.r ALe.nil)

set_option maxRecDepth 8000 in
theorem laws_toRowSS_ac {a0 : List (List Row)} {r : (List (List Row))} (h : laws_toRowSS.f a0 = some r) : AC Try.prog 32 [.v (.im false (rowsOf RowS_i a0))] [.v (.jk)] [.v (.ow 33 (rowsOf RowS_o r))] := by
  unfold laws_toRowSS.f at h
  let ar := Ls.ar; let cm := Ls.cm; let bo := Ls.bo; let sc := Ls.sc; let sa := Ls.sa; let sx := Ls.sx; let ss := Ls.ss; let sl := Ls.sl; let bs := Ls.bs; let sb := Ls.sb; let ln := Ls.ln; let sr := Ls.sr; let ap := Ls.ap; let up := Ls.up; let rp := Ls.rp; let fr := Ls.fr; let ge := Ls.ge; let le := Ls.le; let lt := Ls.lt; let nz := Ls.nz; let mm := Ls.mm; let ma := Ls.ma; let sm := Ls.sm; let fl := Ls.fl; let al := Ls.al; let ci := Ls.ci
  let eRowS_i := rowsOf RowS_i
  let eRowS_o := rowsOf RowS_o
  let eRow_i := rowsOf Row_i
  let eRow_o := rowsOf Row_o
  let lenI_RowS := @lenI (List Row)
  have hL : (⟨ar, cm, bo, sc, sa, sx, ss, sl, bs, sb, ln, sr, ap, up, rp, fr, ge, le, lt, nz, mm, ma, sm, fl, al, ci⟩ : Lf) = Ls := rfl
  show AC Try.prog 32 [.v (.im false (eRowS_i a0))] _ _
  refine AC.of_run2 tab_ok Try.func32 (by rfl) (by rfl) (by cbv) ⟨by decide, rfl⟩ fun F hP hA => ?_
  have hT : TabOk F.P tab := hP ▸ tab_ok
  have hM : F.P.follows .mixedOrders = true := hP ▸ mixed
  have hC : ∀ {f a o r}, AC Try.prog f a o r → AC F.P f a o r := fun h => hP ▸ h
  refine Run.seq ?_
  refine Run.region hL hT [] (by cbv) ?_ ?_
  · exact hq0
  refine Run.seq ?_
  obtain ⟨l1, h_l1, h⟩ := bnd h
  refine Run.region hL hT [] (by cbv) ?_ ?_
  · exact (hq trivial (hq (by rw [show ln (eRowS_i a0) = lenI_RowS a0 from ln_eq RowS_i _]; exact (mk_0 h_l1)) (hq (by rw [show ln (eRowS_i a0) = lenI_RowS a0 from ln_eq RowS_i _]; exact (mk_mm h_l1)) hq0)))
  rw [show ln (eRowS_i a0) = lenI_RowS a0 from ln_eq RowS_i _]
  refine Run.row (rows := (rp (lenI_RowS a0) [.s (.slice none 0 0)])) 4098 (eRowS_o l1) (by cbv) (mk_le (f := RowS_o) rfl (LLe.cons LLe.nilO LLe.nil) h_l1) ?_
  refine Run.seq ?_
  refine Run.seq ?_
  refine Run.region hL hT [] (by cbv) ?_ ?_
  · exact hq0
  refine Run.block ?_
  refine Run.loop2 (fun (z5 : List (List Row)) (z6 : Int) => ⟨23, 100000, [(0, .t (.im false (eRowS_i a0))), (3, .rf 1), (4, .t (.s (.int .i64 z6)))], [(1, .row 0 33 1 (eRowS_o z5))]⟩) (x0 := l1) (x1 := 0) h (Weak.of _ [(1, 4098)] hA (by cbv) ?_) (fun _ _ => rfl) ?_
  · repeat (first | exact hq0 | refine hq (by first | exact True.intro | rfl) ?_)
  · intro k z5 z6 h
    rw [laws_toRowSS.l0] at h
    refine Run.seq ?_
    refine Run.seq ?_
    refine Run.region hL hT [] (by cbv) ?_ ?_
    · exact (hq trivial hq0)
    rw [show ln (eRowS_i a0) = lenI_RowS a0 from ln_eq RowS_i _]
    refine Run.cond (by cbv) (hq0) (fun c7 => ?_) (fun c7 => ?_)
    · have h := if_t c7 h
      refine Run.skip ?_
      refine Run.seq ?_
      refine Run.block ?_
      obtain ⟨x8, h_x8, h⟩ := bnd h
      obtain ⟨r9, h_r9, h⟩ := bnd h
      obtain ⟨x10, h_x10, h⟩ := bnd h
      obtain ⟨l11, h_l11, h⟩ := bnd h
      refine Run.region hL hT [(4, .el [.im false (eRow_i x8)]), (6, .call [false] [.v (.jk)] [.v (.ow 66 (eRow_o r9))])] (by cbv) ?_ ?_
      · exact (hq (get_le h_x8) (hq (get_lt (f := RowS_i) h_x8) (hq (get_ge (f := RowS_i) h_x8) (hq (hC (laws_toRowS_ac h_r9)) (hq (get_le h_x10) (hq (get_lt (f := RowS_o) h_x10) (hq (get_le h_x10) (hq (get_lt (f := RowS_o) h_x10) hq0))))))))
      refine Run.row (rows := (up (eRowS_o z5) z6 0 [.ow 66 (eRow_o r9)])) 1 (eRowS_o l11) (by cbv) (sto_le (f := RowS_o) h_x10 h_l11 rfl LLe.r) ?_
      refine Run.region hL hT [] (by cbv) ?_ ?_
      · exact (hq trivial hq0)
      refine ⟨l11, (ar .add .i64 z6 1), h, Weak.of _ [(1, 1)] hA (by cbv) ?_⟩
      repeat (first | exact hq0 | refine hq (by first | exact True.intro | rfl) ?_)
    · have h := if_f c7 h
      refine Run.exit ?_
      refine Run.seq ?_
      refine Run.region hL hT [] (by cbv) ?_ ?_
      · exact hq0
      refine Run.ret ?_
      cases h
      refine ⟨_, _, by cbv, ?_, ?_⟩
      · exact LLe.r
      · exact (ALe.v LLe.r ALe.nil)

set_option maxRecDepth 8000 in
theorem laws_toStore_ac {a0v_Schemav_Cols : List Int} {a0v_Version : Int} {a0v_Tables : List (List Row)} {r : Store} (h : laws_toStore.f (Store.mk (Schema.mk a0v_Schemav_Cols) a0v_Version a0v_Tables) = some r) : AC Try.prog 8 [.ag [.im false (rowsOf Int_c a0v_Schemav_Cols), .s (.int .i64 a0v_Version), .im false (rowsOf RowS_i a0v_Tables)]] [.ag [.jk, .jk, .jk]] [.ag [.ow 3 (rowsOf Int_c r.Schema.Cols), .s (.int .i64 r.Version), .ow 33 (rowsOf RowS_o r.Tables)]] := by
  unfold laws_toStore.f at h
  let ar := Ls.ar; let cm := Ls.cm; let bo := Ls.bo; let sc := Ls.sc; let sa := Ls.sa; let sx := Ls.sx; let ss := Ls.ss; let sl := Ls.sl; let bs := Ls.bs; let sb := Ls.sb; let ln := Ls.ln; let sr := Ls.sr; let ap := Ls.ap; let up := Ls.up; let rp := Ls.rp; let fr := Ls.fr; let ge := Ls.ge; let le := Ls.le; let lt := Ls.lt; let nz := Ls.nz; let mm := Ls.mm; let ma := Ls.ma; let sm := Ls.sm; let fl := Ls.fl; let al := Ls.al; let ci := Ls.ci
  let eInt_c := rowsOf Int_c
  let eRowS_i := rowsOf RowS_i
  let eRowS_o := rowsOf RowS_o
  have hL : (⟨ar, cm, bo, sc, sa, sx, ss, sl, bs, sb, ln, sr, ap, up, rp, fr, ge, le, lt, nz, mm, ma, sm, fl, al, ci⟩ : Lf) = Ls := rfl
  show AC Try.prog 8 [.ag [.im false (eInt_c a0v_Schemav_Cols), .s (.int .i64 a0v_Version), .im false (eRowS_i a0v_Tables)]] _ _
  refine AC.of_run2 tab_ok Try.func8 (by rfl) (by rfl) (by cbv) ⟨by decide, rfl⟩ fun F hP hA => ?_
  have hT : TabOk F.P tab := hP ▸ tab_ok
  have hM : F.P.follows .mixedOrders = true := hP ▸ mixed
  have hC : ∀ {f a o r}, AC Try.prog f a o r → AC F.P f a o r := fun h => hP ▸ h
  refine Run.seq ?_
  refine Run.region hL hT [] (by cbv) ?_ ?_
  · exact hq0
  refine Run.seq ?_
  refine Run.region hL hT [] (by cbv) ?_ ?_
  · exact hq0
  refine Run.seq ?_
  obtain ⟨⟨r1v_Cols⟩, h_r1, h⟩ := bnd h
  refine Run.region hL hT [(2, .call [false] [.ag [.jk]] [.ag [.ow 3 (eInt_c r1v_Cols)]])] (by cbv) ?_ ?_
  · exact (hq trivial (hq (hC (laws_toSchema_ac h_r1)) (hq trivial hq0)))
  refine Run.seq ?_
  refine Run.region hL hT [] (by cbv) ?_ ?_
  · exact (hq trivial (hq trivial hq0))
  refine Run.seq ?_
  obtain ⟨r2, h_r2, h⟩ := bnd h
  refine Run.region hL hT [(2, .call [false] [.v (.jk)] [.v (.ow 33 (eRowS_o r2))])] (by cbv) ?_ ?_
  · exact (hq trivial (hq (hC (laws_toRowSS_ac h_r2)) (hq trivial hq0)))
  refine Run.seq ?_
  refine Run.region hL hT [] (by cbv) ?_ ?_
  · exact (hq trivial (hq trivial hq0))
  refine Run.ret ?_
  cases h
  refine ⟨_, _, by cbv, ?_, ?_⟩
  · exact LLe.r
  · exact (ALe.ag rfl LLe.r ALe.nil)

set_option maxRecDepth 8000 in
theorem laws_toCond_ac {a0v_Col : Int} {a0v_Op : Int} {a0v_V : Int} {r : Cond} (h : laws_toCond.f (Cond.mk a0v_Col a0v_Op a0v_V) = some r) : AC Try.prog 68 [.ag [.s (.int .i64 a0v_Col), .s (.int .i64 a0v_Op), .s (.int .i64 a0v_V)]] [.ag [.jk, .jk, .jk]] [.ag [.s (.int .i64 r.Col), .s (.int .i64 r.Op), .s (.int .i64 r.V)]] := by
  unfold laws_toCond.f at h
  let ar := Ls.ar; let cm := Ls.cm; let bo := Ls.bo; let sc := Ls.sc; let sa := Ls.sa; let sx := Ls.sx; let ss := Ls.ss; let sl := Ls.sl; let bs := Ls.bs; let sb := Ls.sb; let ln := Ls.ln; let sr := Ls.sr; let ap := Ls.ap; let up := Ls.up; let rp := Ls.rp; let fr := Ls.fr; let ge := Ls.ge; let le := Ls.le; let lt := Ls.lt; let nz := Ls.nz; let mm := Ls.mm; let ma := Ls.ma; let sm := Ls.sm; let fl := Ls.fl; let al := Ls.al; let ci := Ls.ci
  have hL : (⟨ar, cm, bo, sc, sa, sx, ss, sl, bs, sb, ln, sr, ap, up, rp, fr, ge, le, lt, nz, mm, ma, sm, fl, al, ci⟩ : Lf) = Ls := rfl
  show AC Try.prog 68 [.ag [.s (.int .i64 a0v_Col), .s (.int .i64 a0v_Op), .s (.int .i64 a0v_V)]] _ _
  refine AC.of_run2 tab_ok Try.func68 (by rfl) (by rfl) (by cbv) ⟨by decide, rfl⟩ fun F hP hA => ?_
  have hT : TabOk F.P tab := hP ▸ tab_ok
  have hM : F.P.follows .mixedOrders = true := hP ▸ mixed
  have hC : ∀ {f a o r}, AC Try.prog f a o r → AC F.P f a o r := fun h => hP ▸ h
  refine Run.seq ?_
  refine Run.region hL hT [] (by cbv) ?_ ?_
  · exact hq0
  refine Run.seq ?_
  refine Run.region hL hT [] (by cbv) ?_ ?_
  · exact hq0
  refine Run.seq ?_
  refine Run.region hL hT [] (by cbv) ?_ ?_
  · exact (hq trivial (hq trivial hq0))
  refine Run.seq ?_
  refine Run.region hL hT [] (by cbv) ?_ ?_
  · exact (hq trivial (hq trivial hq0))
  refine Run.seq ?_
  refine Run.region hL hT [] (by cbv) ?_ ?_
  · exact (hq trivial (hq trivial hq0))
  refine Run.seq ?_
  refine Run.region hL hT [] (by cbv) ?_ ?_
  · exact (hq trivial (hq trivial hq0))
  refine Run.ret ?_
  cases h
  refine ⟨_, _, by cbv, ?_, ?_⟩
  · exact LLe.r
  · exact (ALe.ag rfl LLe.r ALe.nil)

set_option maxRecDepth 8000 in
theorem laws_toCondS_ac {a0 : List Cond} {r : (List Cond)} (h : laws_toCondS.f a0 = some r) : AC Try.prog 33 [.v (.im false (rowsOf Cond_c a0))] [.v (.jk)] [.v (.ow 94 (rowsOf Cond_c r))] := by
  unfold laws_toCondS.f at h
  let ar := Ls.ar; let cm := Ls.cm; let bo := Ls.bo; let sc := Ls.sc; let sa := Ls.sa; let sx := Ls.sx; let ss := Ls.ss; let sl := Ls.sl; let bs := Ls.bs; let sb := Ls.sb; let ln := Ls.ln; let sr := Ls.sr; let ap := Ls.ap; let up := Ls.up; let rp := Ls.rp; let fr := Ls.fr; let ge := Ls.ge; let le := Ls.le; let lt := Ls.lt; let nz := Ls.nz; let mm := Ls.mm; let ma := Ls.ma; let sm := Ls.sm; let fl := Ls.fl; let al := Ls.al; let ci := Ls.ci
  let eCond_c := rowsOf Cond_c
  let lenI_Cond := @lenI Cond
  have hL : (⟨ar, cm, bo, sc, sa, sx, ss, sl, bs, sb, ln, sr, ap, up, rp, fr, ge, le, lt, nz, mm, ma, sm, fl, al, ci⟩ : Lf) = Ls := rfl
  show AC Try.prog 33 [.v (.im false (eCond_c a0))] _ _
  refine AC.of_run2 tab_ok Try.func33 (by rfl) (by rfl) (by cbv) ⟨by decide, rfl⟩ fun F hP hA => ?_
  have hT : TabOk F.P tab := hP ▸ tab_ok
  have hM : F.P.follows .mixedOrders = true := hP ▸ mixed
  have hC : ∀ {f a o r}, AC Try.prog f a o r → AC F.P f a o r := fun h => hP ▸ h
  refine Run.seq ?_
  refine Run.region hL hT [] (by cbv) ?_ ?_
  · exact hq0
  refine Run.seq ?_
  obtain ⟨l1, h_l1, h⟩ := bnd h
  refine Run.region hL hT [] (by cbv) ?_ ?_
  · exact (hq trivial (hq (by rw [show ln (eCond_c a0) = lenI_Cond a0 from ln_eq Cond_c _]; exact (mk_0 h_l1)) (hq (by rw [show ln (eCond_c a0) = lenI_Cond a0 from ln_eq Cond_c _]; exact (mk_mm h_l1)) hq0)))
  rw [show ln (eCond_c a0) = lenI_Cond a0 from ln_eq Cond_c _]
  refine Run.row (rows := (rp (lenI_Cond a0) [.s (.int .i64 0), .s (.int .i64 0), .s (.int .i64 0)])) 4098 (eCond_c l1) (by cbv) (mk_le (f := Cond_c) rfl LLe.r h_l1) ?_
  refine Run.seq ?_
  refine Run.seq ?_
  refine Run.region hL hT [] (by cbv) ?_ ?_
  · exact hq0
  refine Run.block ?_
  refine Run.loop2 (fun (z5 : List Cond) (z6 : Int) => ⟨23, 100000, [(0, .t (.im false (eCond_c a0))), (3, .rf 1), (4, .t (.s (.int .i64 z6)))], [(1, .row 0 94 3 (eCond_c z5))]⟩) (x0 := l1) (x1 := 0) h (Weak.of _ [(1, 4098)] hA (by cbv) ?_) (fun _ _ => rfl) ?_
  · repeat (first | exact hq0 | refine hq (by first | exact True.intro | rfl) ?_)
  · intro k z5 z6 h
    rw [laws_toCondS.l0] at h
    refine Run.seq ?_
    refine Run.seq ?_
    refine Run.region hL hT [] (by cbv) ?_ ?_
    · exact (hq trivial hq0)
    rw [show ln (eCond_c a0) = lenI_Cond a0 from ln_eq Cond_c _]
    refine Run.cond (by cbv) (hq0) (fun c7 => ?_) (fun c7 => ?_)
    · have h := if_t c7 h
      refine Run.skip ?_
      refine Run.seq ?_
      refine Run.block ?_
      obtain ⟨⟨x8v_Col, x8v_Op, x8v_V⟩, h_x8, h⟩ := bnd h
      obtain ⟨⟨r9v_Col, r9v_Op, r9v_V⟩, h_r9, h⟩ := bnd h
      obtain ⟨⟨x10v_Col, x10v_Op, x10v_V⟩, h_x10, h⟩ := bnd h
      obtain ⟨l11, h_l11, h⟩ := bnd h
      refine Run.region hL hT [(4, .el [.s (.int .i64 x8v_Col), .s (.int .i64 x8v_Op), .s (.int .i64 x8v_V)]), (6, .call [false] [.ag [.jk, .jk, .jk]] [.ag [.s (.int .i64 r9v_Col), .s (.int .i64 r9v_Op), .s (.int .i64 r9v_V)]])] (by cbv) ?_ ?_
      · exact (hq (get_le h_x8) (hq (get_lt (f := Cond_c) h_x8) (hq (get_ge (f := Cond_c) h_x8) (hq (hC (laws_toCond_ac h_r9)) (hq (get_le h_x10) (hq (get_lt (f := Cond_c) h_x10) (hq (get_le h_x10) (hq (get_lt (f := Cond_c) h_x10) hq0))))))))
      refine Run.row (rows := (up (eCond_c z5) z6 0 [.s (.int .i64 r9v_Col), .s (.int .i64 r9v_Op), .s (.int .i64 r9v_V)])) 1 (eCond_c l11) (by cbv) (sto_le (f := Cond_c) h_x10 h_l11 rfl LLe.r) ?_
      refine Run.region hL hT [] (by cbv) ?_ ?_
      · exact (hq trivial hq0)
      refine ⟨l11, (ar .add .i64 z6 1), h, Weak.of _ [(1, 1)] hA (by cbv) ?_⟩
      repeat (first | exact hq0 | refine hq (by first | exact True.intro | rfl) ?_)
    · have h := if_f c7 h
      refine Run.exit ?_
      refine Run.seq ?_
      refine Run.region hL hT [] (by cbv) ?_ ?_
      · exact hq0
      refine Run.ret ?_
      cases h
      refine ⟨_, _, by cbv, ?_, ?_⟩
      · exact LLe.r
      · exact (ALe.v LLe.r ALe.nil)

set_option maxRecDepth 8000 in
theorem laws_toQuery_ac {a0v_Table : Int} {a0v_Where : List Cond} {a0v_Order : Int} {a0v_Down : Bool} {a0v_First : Int} {a0v_Show : List Int} {a0v_Kids : Bool} {a0v_KidTable : Int} {a0v_KidCol : Int} {r : Query} (h : laws_toQuery.f (Query.mk a0v_Table a0v_Where a0v_Order a0v_Down a0v_First a0v_Show a0v_Kids a0v_KidTable a0v_KidCol) = some r) : AC Try.prog 9 [.ag [.s (.int .i64 a0v_Table), .im false (rowsOf Cond_c a0v_Where), .s (.int .i64 a0v_Order), .s (.bool a0v_Down), .s (.int .i64 a0v_First), .im false (rowsOf Int_c a0v_Show), .s (.bool a0v_Kids), .s (.int .i64 a0v_KidTable), .s (.int .i64 a0v_KidCol)]] [.ag [.jk, .jk, .jk, .jk, .jk, .jk, .jk, .jk, .jk]] [.ag [.s (.int .i64 r.Table), .ow 94 (rowsOf Cond_c r.Where), .s (.int .i64 r.Order), .s (.bool r.Down), .s (.int .i64 r.First), .ow 3 (rowsOf Int_c r.Show), .s (.bool r.Kids), .s (.int .i64 r.KidTable), .s (.int .i64 r.KidCol)]] := by
  unfold laws_toQuery.f at h
  let ar := Ls.ar; let cm := Ls.cm; let bo := Ls.bo; let sc := Ls.sc; let sa := Ls.sa; let sx := Ls.sx; let ss := Ls.ss; let sl := Ls.sl; let bs := Ls.bs; let sb := Ls.sb; let ln := Ls.ln; let sr := Ls.sr; let ap := Ls.ap; let up := Ls.up; let rp := Ls.rp; let fr := Ls.fr; let ge := Ls.ge; let le := Ls.le; let lt := Ls.lt; let nz := Ls.nz; let mm := Ls.mm; let ma := Ls.ma; let sm := Ls.sm; let fl := Ls.fl; let al := Ls.al; let ci := Ls.ci
  let eCond_c := rowsOf Cond_c
  let eInt_c := rowsOf Int_c
  have hL : (⟨ar, cm, bo, sc, sa, sx, ss, sl, bs, sb, ln, sr, ap, up, rp, fr, ge, le, lt, nz, mm, ma, sm, fl, al, ci⟩ : Lf) = Ls := rfl
  show AC Try.prog 9 [.ag [.s (.int .i64 a0v_Table), .im false (eCond_c a0v_Where), .s (.int .i64 a0v_Order), .s (.bool a0v_Down), .s (.int .i64 a0v_First), .im false (eInt_c a0v_Show), .s (.bool a0v_Kids), .s (.int .i64 a0v_KidTable), .s (.int .i64 a0v_KidCol)]] _ _
  refine AC.of_run2 tab_ok Try.func9 (by rfl) (by rfl) (by cbv) ⟨by decide, rfl⟩ fun F hP hA => ?_
  have hT : TabOk F.P tab := hP ▸ tab_ok
  have hM : F.P.follows .mixedOrders = true := hP ▸ mixed
  have hC : ∀ {f a o r}, AC Try.prog f a o r → AC F.P f a o r := fun h => hP ▸ h
  refine Run.seq ?_
  refine Run.region hL hT [] (by cbv) ?_ ?_
  · exact hq0
  refine Run.seq ?_
  refine Run.region hL hT [] (by cbv) ?_ ?_
  · exact hq0
  refine Run.seq ?_
  refine Run.region hL hT [] (by cbv) ?_ ?_
  · exact (hq trivial (hq trivial hq0))
  refine Run.seq ?_
  obtain ⟨r1, h_r1, h⟩ := bnd h
  refine Run.region hL hT [(2, .call [false] [.v (.jk)] [.v (.ow 94 (eCond_c r1))])] (by cbv) ?_ ?_
  · exact (hq trivial (hq (hC (laws_toCondS_ac h_r1)) (hq trivial hq0)))
  refine Run.seq ?_
  refine Run.region hL hT [] (by cbv) ?_ ?_
  · exact (hq trivial (hq trivial hq0))
  refine Run.seq ?_
  refine Run.region hL hT [] (by cbv) ?_ ?_
  · exact (hq trivial (hq trivial hq0))
  refine Run.seq ?_
  refine Run.region hL hT [] (by cbv) ?_ ?_
  · exact (hq trivial (hq trivial hq0))
  refine Run.seq ?_
  obtain ⟨r2, h_r2, h⟩ := bnd h
  refine Run.region hL hT [(2, .call [false] [.v (.jk)] [.v (.ow 3 (eInt_c r2))])] (by cbv) ?_ ?_
  · exact (hq trivial (hq (hC (laws_toIntS_ac h_r2)) (hq trivial hq0)))
  refine Run.seq ?_
  refine Run.region hL hT [] (by cbv) ?_ ?_
  · exact (hq trivial (hq trivial hq0))
  refine Run.seq ?_
  refine Run.region hL hT [] (by cbv) ?_ ?_
  · exact (hq trivial (hq trivial hq0))
  refine Run.seq ?_
  refine Run.region hL hT [] (by cbv) ?_ ?_
  · exact (hq trivial (hq trivial hq0))
  refine Run.seq ?_
  refine Run.region hL hT [] (by cbv) ?_ ?_
  · exact (hq trivial (hq trivial hq0))
  refine Run.ret ?_
  cases h
  refine ⟨_, _, by cbv, ?_, ?_⟩
  · exact LLe.r
  · exact (ALe.ag rfl LLe.r ALe.nil)

set_option maxRecDepth 8000 in
theorem laws_FnExactViewOf_ac {a0v_Schemav_Cols : List Int} {a0v_Version : Int} {a0v_Tables : List (List Row)} {a1v_Table : Int} {a1v_Where : List Cond} {a1v_Order : Int} {a1v_Down : Bool} {a1v_First : Int} {a1v_Show : List Int} {a1v_Kids : Bool} {a1v_KidTable : Int} {a1v_KidCol : Int} {r : Bool} (h : laws_FnExactViewOf.f (Store.mk (Schema.mk a0v_Schemav_Cols) a0v_Version a0v_Tables) (Query.mk a1v_Table a1v_Where a1v_Order a1v_Down a1v_First a1v_Show a1v_Kids a1v_KidTable a1v_KidCol) = some r) : AC Try.prog 4 [.ag [.im false (rowsOf Int_c a0v_Schemav_Cols), .s (.int .i64 a0v_Version), .im false (rowsOf RowS_i a0v_Tables)], .ag [.s (.int .i64 a1v_Table), .im false (rowsOf Cond_c a1v_Where), .s (.int .i64 a1v_Order), .s (.bool a1v_Down), .s (.int .i64 a1v_First), .im false (rowsOf Int_c a1v_Show), .s (.bool a1v_Kids), .s (.int .i64 a1v_KidTable), .s (.int .i64 a1v_KidCol)]] [.ag [.jk, .jk, .jk], .ag [.jk, .jk, .jk, .jk, .jk, .jk, .jk, .jk, .jk]] [.v (.s (.bool r))] := by
  unfold laws_FnExactViewOf.f at h
  let ar := Ls.ar; let cm := Ls.cm; let bo := Ls.bo; let sc := Ls.sc; let sa := Ls.sa; let sx := Ls.sx; let ss := Ls.ss; let sl := Ls.sl; let bs := Ls.bs; let sb := Ls.sb; let ln := Ls.ln; let sr := Ls.sr; let ap := Ls.ap; let up := Ls.up; let rp := Ls.rp; let fr := Ls.fr; let ge := Ls.ge; let le := Ls.le; let lt := Ls.lt; let nz := Ls.nz; let mm := Ls.mm; let ma := Ls.ma; let sm := Ls.sm; let fl := Ls.fl; let al := Ls.al; let ci := Ls.ci
  let eCond_c := rowsOf Cond_c
  let eInt_c := rowsOf Int_c
  let eKid_c := rowsOf Kid_c
  let eRowS_i := rowsOf RowS_i
  let eRowS_o := rowsOf RowS_o
  let eRow_o := rowsOf Row_o
  have hL : (⟨ar, cm, bo, sc, sa, sx, ss, sl, bs, sb, ln, sr, ap, up, rp, fr, ge, le, lt, nz, mm, ma, sm, fl, al, ci⟩ : Lf) = Ls := rfl
  show AC Try.prog 4 [.ag [.im false (eInt_c a0v_Schemav_Cols), .s (.int .i64 a0v_Version), .im false (eRowS_i a0v_Tables)], .ag [.s (.int .i64 a1v_Table), .im false (eCond_c a1v_Where), .s (.int .i64 a1v_Order), .s (.bool a1v_Down), .s (.int .i64 a1v_First), .im false (eInt_c a1v_Show), .s (.bool a1v_Kids), .s (.int .i64 a1v_KidTable), .s (.int .i64 a1v_KidCol)]] _ _
  refine AC.of_run2 tab_ok Try.func4 (by rfl) (by rfl) (by cbv) ⟨by decide, rfl⟩ fun F hP hA => ?_
  have hT : TabOk F.P tab := hP ▸ tab_ok
  have hM : F.P.follows .mixedOrders = true := hP ▸ mixed
  have hC : ∀ {f a o r}, AC Try.prog f a o r → AC F.P f a o r := fun h => hP ▸ h
  refine Run.seq ?_
  refine Run.region hL hT [] (by cbv) ?_ ?_
  · exact hq0
  refine Run.seq ?_
  refine Run.region hL hT [] (by cbv) ?_ ?_
  · exact hq0
  refine Run.seq ?_
  obtain ⟨r1, h_r1, h⟩ := bnd h
  refine Run.region hL hT [(2, .call [false, false] [.ag [.jk, .jk, .jk], .v (.jk)] [.v (.s (.int .i64 r1))])] (by cbv) ?_ ?_
  · exact (hq trivial (hq (hC (laws_szStore_ac h_r1)) hq0))
  refine Run.seq ?_
  refine Run.seq ?_
  refine Run.region hL hT [] (by cbv) ?_ ?_
  · exact (hq trivial hq0)
  refine Run.cond (by cbv) (hq0) (fun c2 => ?_) (fun c2 => ?_)
  · have h := if_t c2 h
    refine Run.seq ?_
    refine Run.region hL hT [] (by cbv) ?_ ?_
    · exact hq0
    refine Run.ret ?_
    cases h
    refine ⟨_, _, by cbv, ?_, ?_⟩
    · exact LLe.r
    · exact (ALe.v LLe.r ALe.nil)
  · have h := if_f c2 h
    refine Run.skip ?_
    refine Run.seq ?_
    obtain ⟨r3, h_r3, h⟩ := bnd h
    refine Run.region hL hT [(2, .call [false, false] [.ag [.jk, .jk, .jk, .jk, .jk, .jk, .jk, .jk, .jk], .v (.jk)] [.v (.s (.int .i64 r3))])] (by cbv) ?_ ?_
    · exact (hq trivial (hq (hC (laws_szQuery_ac h_r3)) hq0))
    refine Run.seq ?_
    refine Run.seq ?_
    refine Run.region hL hT [] (by cbv) ?_ ?_
    · exact (hq trivial hq0)
    refine Run.cond (by cbv) (hq0) (fun c4 => ?_) (fun c4 => ?_)
    · have h := if_t c4 h
      refine Run.seq ?_
      refine Run.region hL hT [] (by cbv) ?_ ?_
      · exact hq0
      refine Run.ret ?_
      cases h
      refine ⟨_, _, by cbv, ?_, ?_⟩
      · exact LLe.r
      · exact (ALe.v LLe.r ALe.nil)
    · have h := if_f c4 h
      refine Run.skip ?_
      refine Run.seq ?_
      obtain ⟨⟨⟨r5v_Schemav_Cols⟩, r5v_Version, r5v_Tables⟩, h_r5, h⟩ := bnd h
      obtain ⟨⟨r6v_Table, r6v_Where, r6v_Order, r6v_Down, r6v_First, r6v_Show, r6v_Kids, r6v_KidTable, r6v_KidCol⟩, h_r6, h⟩ := bnd h
      obtain ⟨⟨⟨⟨r7v_1v_Qv_Table, r7v_1v_Qv_Where, r7v_1v_Qv_Order, r7v_1v_Qv_Down, r7v_1v_Qv_First, r7v_1v_Qv_Show, r7v_1v_Qv_Kids, r7v_1v_Qv_KidTable, r7v_1v_Qv_KidCol⟩, r7v_1v_Rows, r7v_1v_Kids⟩, r7v_2⟩, h_r7, h⟩ := bnd h
      refine Run.draw hL hT hM [(1, .call [false] [.ag [.jk, .jk, .jk]] [.ag [.ow 3 (eInt_c r5v_Schemav_Cols), .s (.int .i64 r5v_Version), .ow 33 (eRowS_o r5v_Tables)]]), (3, .call [false] [.ag [.jk, .jk, .jk, .jk, .jk, .jk, .jk, .jk, .jk]] [.ag [.s (.int .i64 r6v_Table), .ow 94 (eCond_c r6v_Where), .s (.int .i64 r6v_Order), .s (.bool r6v_Down), .s (.int .i64 r6v_First), .ow 3 (eInt_c r6v_Show), .s (.bool r6v_Kids), .s (.int .i64 r6v_KidTable), .s (.int .i64 r6v_KidCol)]]), (4, .call [false, false] [.ag [.jk, .jk, .jk], .ag [.jk, .jk, .jk, .jk, .jk, .jk, .jk, .jk, .jk]] [.ag [.s (.int .i64 r7v_1v_Qv_Table), .ow 94 (eCond_c r7v_1v_Qv_Where), .s (.int .i64 r7v_1v_Qv_Order), .s (.bool r7v_1v_Qv_Down), .s (.int .i64 r7v_1v_Qv_First), .ow 3 (eInt_c r7v_1v_Qv_Show), .s (.bool r7v_1v_Qv_Kids), .s (.int .i64 r7v_1v_Qv_KidTable), .s (.int .i64 r7v_1v_Qv_KidCol), .ow 66 (eRow_o r7v_1v_Rows), .ow 105 (eKid_c r7v_1v_Kids)], .v (.s (.bool r7v_2))])] (by cbv) (by cbv) (by cbv) (by cbv) (by cbv) ?_ ?_
      · exact (hq trivial (hq (hC (laws_toStore_ac h_r5)) (hq trivial (hq (hC (laws_toQuery_ac h_r6)) (hq (hC (AC.args (spec_ViewOf_ac h_r7) (ALe.ag rfl (LLe.cons (LLe.im (RLe.eq (fr_row Int_c_z _))) (LLe.c (LLe.cons (LLe.im (RLe.eq (fr_row RowS_o_z _))) LLe.nil))) (ALe.ag rfl (LLe.c (LLe.cons (LLe.im (RLe.eq (fr_row Cond_c_z _))) (LLe.c (LLe.c (LLe.c (LLe.cons (LLe.im (RLe.eq (fr_row Int_c_z _))) (LLe.c (LLe.c (LLe.c LLe.nil))))))))) ALe.nil)))) (hq trivial hq0))))))
      refine Run.seq ?_
      obtain ⟨⟨⟨r8v_Schemav_Cols⟩, r8v_Version, r8v_Tables⟩, h_r8, h⟩ := bnd h
      refine Run.region hL hT [(1, .call [false] [.ag [.jk, .jk, .jk]] [.ag [.ow 3 (eInt_c r8v_Schemav_Cols), .s (.int .i64 r8v_Version), .ow 33 (eRowS_o r8v_Tables)]])] (by cbv) ?_ ?_
      · exact (hq trivial (hq (hC (laws_toStore_ac h_r8)) (hq trivial hq0)))
      refine Run.seq ?_
      obtain ⟨⟨r9v_Table, r9v_Where, r9v_Order, r9v_Down, r9v_First, r9v_Show, r9v_Kids, r9v_KidTable, r9v_KidCol⟩, h_r9, h⟩ := bnd h
      refine Run.region hL hT [(1, .call [false] [.ag [.jk, .jk, .jk, .jk, .jk, .jk, .jk, .jk, .jk]] [.ag [.s (.int .i64 r9v_Table), .ow 94 (eCond_c r9v_Where), .s (.int .i64 r9v_Order), .s (.bool r9v_Down), .s (.int .i64 r9v_First), .ow 3 (eInt_c r9v_Show), .s (.bool r9v_Kids), .s (.int .i64 r9v_KidTable), .s (.int .i64 r9v_KidCol)]])] (by cbv) ?_ ?_
      · exact (hq trivial (hq (hC (laws_toQuery_ac h_r9)) (hq trivial hq0)))
      refine Run.seq ?_
      obtain ⟨⟨⟨⟨r10v_1v_Qv_Table, r10v_1v_Qv_Where, r10v_1v_Qv_Order, r10v_1v_Qv_Down, r10v_1v_Qv_First, r10v_1v_Qv_Show, r10v_1v_Qv_Kids, r10v_1v_Qv_KidTable, r10v_1v_Qv_KidCol⟩, r10v_1v_Rows, r10v_1v_Kids⟩, r10v_2⟩, h_r10, h⟩ := bnd h
      refine Run.region hL hT [(2, .call [false, false] [.ag [.jk, .jk, .jk], .ag [.jk, .jk, .jk, .jk, .jk, .jk, .jk, .jk, .jk]] [.ag [.s (.int .i64 r10v_1v_Qv_Table), .ow 94 (eCond_c r10v_1v_Qv_Where), .s (.int .i64 r10v_1v_Qv_Order), .s (.bool r10v_1v_Qv_Down), .s (.int .i64 r10v_1v_Qv_First), .ow 3 (eInt_c r10v_1v_Qv_Show), .s (.bool r10v_1v_Qv_Kids), .s (.int .i64 r10v_1v_Qv_KidTable), .s (.int .i64 r10v_1v_Qv_KidCol), .ow 66 (eRow_o r10v_1v_Rows), .ow 105 (eKid_c r10v_1v_Kids)], .v (.s (.bool r10v_2))])] (by cbv) ?_ ?_
      · exact (hq trivial (hq trivial (hq (hC (AC.args (impl_ViewOf_ac h_r10) (ALe.ag rfl (LLe.cons (LLe.im (RLe.eq (fr_row Int_c_z _))) (LLe.c (LLe.cons (LLe.im (RLe.eq (fr_row RowS_o_z _))) LLe.nil))) (ALe.ag rfl (LLe.c (LLe.cons (LLe.im (RLe.eq (fr_row Cond_c_z _))) (LLe.c (LLe.c (LLe.c (LLe.cons (LLe.im (RLe.eq (fr_row Int_c_z _))) (LLe.c (LLe.c (LLe.c LLe.nil))))))))) ALe.nil)))) (hq trivial hq0))))
      refine Run.seq ?_
      refine Run.seq ?_
      obtain ⟨r11, h_r11, h⟩ := bnd h
      refine Run.region hL hT [(2, .call [false, false] [.ag [.jk, .jk, .jk, .jk, .jk, .jk, .jk, .jk, .jk, .jk, .jk], .ag [.jk, .jk, .jk, .jk, .jk, .jk, .jk, .jk, .jk, .jk, .jk]] [.v (.s (.bool r11))])] (by cbv) ?_ ?_
      · exact (hq trivial (hq trivial (hq (hC (AC.args (laws_eqView_ac h_r11) (ALe.ag rfl (LLe.c (LLe.cons (LLe.im (RLe.eq (fr_row Cond_c_z _))) (LLe.c (LLe.c (LLe.c (LLe.cons (LLe.im (RLe.eq (fr_row Int_c_z _))) (LLe.c (LLe.c (LLe.c (LLe.cons (LLe.im (RLe.eq (fr_row Row_o_z _))) (LLe.cons (LLe.im (RLe.eq (fr_row Kid_c_z _))) LLe.nil))))))))))) (ALe.ag rfl (LLe.c (LLe.cons (LLe.im (RLe.eq (fr_row Cond_c_z _))) (LLe.c (LLe.c (LLe.c (LLe.cons (LLe.im (RLe.eq (fr_row Int_c_z _))) (LLe.c (LLe.c (LLe.c (LLe.cons (LLe.im (RLe.eq (fr_row Row_o_z _))) (LLe.cons (LLe.im (RLe.eq (fr_row Kid_c_z _))) LLe.nil))))))))))) ALe.nil)))) (hq (fun _ => hq0) (hq (fun _ => hq0) (hq (fun g14 => (hq g14 (hq g14 hq0))) (hq (fun _ => hq0) (hq (fun q16 => (hq (bo_m q16) hq0)) hq0))))))))
      refine Run.cond (by cbv) (hq0) (fun c17 => ?_) (fun c17 => ?_)
      · have h := if_t c17 h
        refine Run.seq ?_
        refine Run.region hL hT [] (by cbv) ?_ ?_
        · exact hq0
        refine Run.ret ?_
        cases h
        refine ⟨_, _, by cbv, ?_, ?_⟩
        · exact LLe.r
        · exact (ALe.v LLe.r ALe.nil)
      · have h := if_f c17 h
        refine Run.skip ?_
        refine Run.seq ?_
        refine Run.seq ?_
        obtain ⟨⟨⟨r18v_Schemav_Cols⟩, r18v_Version, r18v_Tables⟩, h_r18, h⟩ := bnd h
        obtain ⟨r19, h_r19, h⟩ := bnd h
        refine Run.draw hL hT hM [(2, .call [false] [.ag [.jk, .jk, .jk]] [.ag [.ow 3 (eInt_c r18v_Schemav_Cols), .s (.int .i64 r18v_Version), .ow 33 (eRowS_o r18v_Tables)]]), (3, .call [false, false] [.ag [.jk, .jk, .jk], .ag [.jk, .jk, .jk]] [.v (.s (.bool r19))])] (by cbv) (by cbv) (by cbv) (by cbv) (by cbv) ?_ ?_
        · exact (hq trivial (hq trivial (hq (hC (laws_toStore_ac h_r18)) (hq (hC (AC.args (laws_eqStore_ac h_r19) (ALe.ag rfl (LLe.cons (LLe.im (RLe.eq (fr_row Int_c_z _))) (LLe.c (LLe.cons (LLe.im (RLe.eq (fr_row RowS_o_z _))) LLe.nil))) (ALe.ag rfl (LLe.cons (LLe.im (RLe.eq (fr_row Int_c_z _))) (LLe.c (LLe.cons (LLe.im (RLe.eq (fr_row RowS_o_z _))) LLe.nil))) ALe.nil)))) hq0))))
        refine Run.cond (by cbv) (hq0) (fun c20 => ?_) (fun c20 => ?_)
        · have h := if_t c20 h
          refine Run.seq ?_
          refine Run.region hL hT [] (by cbv) ?_ ?_
          · exact hq0
          refine Run.ret ?_
          cases h
          refine ⟨_, _, by cbv, ?_, ?_⟩
          · exact LLe.r
          · exact (ALe.v LLe.r ALe.nil)
        · have h := if_f c20 h
          refine Run.skip ?_
          refine Run.seq ?_
          refine Run.seq ?_
          obtain ⟨⟨r21v_Table, r21v_Where, r21v_Order, r21v_Down, r21v_First, r21v_Show, r21v_Kids, r21v_KidTable, r21v_KidCol⟩, h_r21, h⟩ := bnd h
          obtain ⟨r22, h_r22, h⟩ := bnd h
          refine Run.draw hL hT hM [(2, .call [false] [.ag [.jk, .jk, .jk, .jk, .jk, .jk, .jk, .jk, .jk]] [.ag [.s (.int .i64 r21v_Table), .ow 94 (eCond_c r21v_Where), .s (.int .i64 r21v_Order), .s (.bool r21v_Down), .s (.int .i64 r21v_First), .ow 3 (eInt_c r21v_Show), .s (.bool r21v_Kids), .s (.int .i64 r21v_KidTable), .s (.int .i64 r21v_KidCol)]]), (3, .call [false, false] [.ag [.jk, .jk, .jk, .jk, .jk, .jk, .jk, .jk, .jk], .ag [.jk, .jk, .jk, .jk, .jk, .jk, .jk, .jk, .jk]] [.v (.s (.bool r22))])] (by cbv) (by cbv) (by cbv) (by cbv) (by cbv) ?_ ?_
          · exact (hq trivial (hq trivial (hq (hC (laws_toQuery_ac h_r21)) (hq (hC (AC.args (laws_eqQuery_ac h_r22) (ALe.ag rfl (LLe.c (LLe.cons (LLe.im (RLe.eq (fr_row Cond_c_z _))) (LLe.c (LLe.c (LLe.c (LLe.cons (LLe.im (RLe.eq (fr_row Int_c_z _))) (LLe.c (LLe.c (LLe.c LLe.nil))))))))) (ALe.ag rfl (LLe.c (LLe.cons (LLe.im (RLe.eq (fr_row Cond_c_z _))) (LLe.c (LLe.c (LLe.c (LLe.cons (LLe.im (RLe.eq (fr_row Int_c_z _))) (LLe.c (LLe.c (LLe.c LLe.nil))))))))) ALe.nil)))) hq0))))
          refine Run.cond (by cbv) (hq0) (fun c23 => ?_) (fun c23 => ?_)
          · have h := if_t c23 h
            refine Run.seq ?_
            refine Run.region hL hT [] (by cbv) ?_ ?_
            · exact hq0
            refine Run.ret ?_
            cases h
            refine ⟨_, _, by cbv, ?_, ?_⟩
            · exact LLe.r
            · exact (ALe.v LLe.r ALe.nil)
          · have h := if_f c23 h
            refine Run.skip ?_
            refine Run.seq ?_
            refine Run.region hL hT [] (by cbv) ?_ ?_
            · exact hq0
            refine Run.seq ?_
            obtain ⟨⟨⟨⟨r24v_1v_Schemav_Cols⟩, r24v_1v_Version, r24v_1v_Tables⟩, r24v_2⟩, h_r24, h⟩ := bnd h
            refine Run.region hL hT [(2, .call [true, false] [.ag [.ow 3 (eInt_c r24v_1v_Schemav_Cols), .jk, .ow 33 (eRowS_o r24v_1v_Tables)], .v (.jk)] [.v (.s (.int .i64 r24v_2))])] (by cbv) ?_ ?_
            · exact (hq trivial (hq (hC (laws_markStore_ac h_r24)) hq0))
            refine Run.seq ?_
            obtain ⟨⟨⟨r25v_1v_Table, r25v_1v_Where, r25v_1v_Order, r25v_1v_Down, r25v_1v_First, r25v_1v_Show, r25v_1v_Kids, r25v_1v_KidTable, r25v_1v_KidCol⟩, r25v_2⟩, h_r25, h⟩ := bnd h
            refine Run.region hL hT [(2, .call [true, false] [.ag [.jk, .ow 94 (eCond_c r25v_1v_Where), .jk, .jk, .jk, .ow 3 (eInt_c r25v_1v_Show), .jk, .jk, .jk], .v (.jk)] [.v (.s (.int .i64 r25v_2))])] (by cbv) ?_ ?_
            · exact (hq trivial (hq (hC (laws_markQuery_ac h_r25)) hq0))
            refine Run.seq ?_
            refine Run.seq ?_
            obtain ⟨r26, h_r26, h⟩ := bnd h
            refine Run.region hL hT [(5, .call [false, false] [.ag [.jk, .jk, .jk, .jk, .jk, .jk, .jk, .jk, .jk, .jk, .jk], .ag [.jk, .jk, .jk, .jk, .jk, .jk, .jk, .jk, .jk, .jk, .jk]] [.v (.s (.bool r26))])] (by cbv) ?_ ?_
            · exact (hq trivial (hq (fun g27 => (hq trivial hq0)) (hq (fun g28 => (hq trivial hq0)) (hq (fun g29 => (hq g29 (hq g29 (hq (hC (AC.args (laws_eqView_ac (gd_t h_r26 g29)) (ALe.ag rfl (LLe.c (LLe.cons (LLe.im (RLe.eq (fr_row Cond_c_z _))) (LLe.c (LLe.c (LLe.c (LLe.cons (LLe.im (RLe.eq (fr_row Int_c_z _))) (LLe.c (LLe.c (LLe.c (LLe.cons (LLe.im (RLe.eq (fr_row Row_o_z _))) (LLe.cons (LLe.im (RLe.eq (fr_row Kid_c_z _))) LLe.nil))))))))))) (ALe.ag rfl (LLe.c (LLe.cons (LLe.im (RLe.eq (fr_row Cond_c_z _))) (LLe.c (LLe.c (LLe.c (LLe.cons (LLe.im (RLe.eq (fr_row Int_c_z _))) (LLe.c (LLe.c (LLe.c (LLe.cons (LLe.im (RLe.eq (fr_row Row_o_z _))) (LLe.cons (LLe.im (RLe.eq (fr_row Kid_c_z _))) LLe.nil))))))))))) ALe.nil)))) hq0)))) (hq (fun g30 => (hq g30 hq0)) (hq (fun _ => hq0) (hq (fun q32 => (hq (bo_m q32) hq0)) (hq (fun _ => hq0) (hq (fun _ => hq0) (hq (fun g35 => (hq g35 (hq g35 hq0))) (hq (fun _ => hq0) (hq (fun q37 => (hq (bo_m q37) hq0)) hq0))))))))))))
            refine Run.cond (by cbv) (hq0) (fun c38 => ?_) (fun c38 => ?_)
            · have h := if_t c38 h
              refine Run.seq ?_
              refine Run.region hL hT [] (by cbv) ?_ ?_
              · exact hq0
              refine Run.ret ?_
              cases h
              refine ⟨_, _, by cbv, ?_, ?_⟩
              · exact LLe.r
              · exact (ALe.v LLe.r ALe.nil)
            · have h := if_f c38 h
              refine Run.skip ?_
              refine Run.seq ?_
              refine Run.region hL hT [] (by cbv) ?_ ?_
              · exact hq0
              refine Run.seq ?_
              obtain ⟨⟨⟨⟨r39v_1v_Qv_Table, r39v_1v_Qv_Where, r39v_1v_Qv_Order, r39v_1v_Qv_Down, r39v_1v_Qv_First, r39v_1v_Qv_Show, r39v_1v_Qv_Kids, r39v_1v_Qv_KidTable, r39v_1v_Qv_KidCol⟩, r39v_1v_Rows, r39v_1v_Kids⟩, r39v_2⟩, h_r39, h⟩ := bnd h
              refine Run.region hL hT [(2, .call [true, false] [.ag [.jk, .ow 94 (eCond_c r39v_1v_Qv_Where), .jk, .jk, .jk, .ow 3 (eInt_c r39v_1v_Qv_Show), .jk, .jk, .jk, .ow 66 (eRow_o r39v_1v_Rows), .ow 105 (eKid_c r39v_1v_Kids)], .v (.jk)] [.v (.s (.int .i64 r39v_2))])] (by cbv) ?_ ?_
              · exact (hq trivial (hq (hC (laws_markView_ac h_r39)) hq0))
              refine Run.seq ?_
              refine Run.region hL hT [] (by cbv) ?_ ?_
              · exact hq0
              refine Run.seq ?_
              obtain ⟨r40, h_r40, h⟩ := bnd h
              refine Run.region hL hT [(2, .call [false, false] [.ag [.jk, .jk, .jk, .jk, .jk, .jk, .jk, .jk, .jk, .jk, .jk], .v (.jk)] [.v (.s (.int .i64 r40))])] (by cbv) ?_ ?_
              · exact (hq trivial (hq (hC (AC.args (laws_heldView_ac h_r40) (ALe.ag rfl (LLe.c (LLe.cons (LLe.im (RLe.eq (fr_row Cond_c_z _))) (LLe.c (LLe.c (LLe.c (LLe.cons (LLe.im (RLe.eq (fr_row Int_c_z _))) (LLe.c (LLe.c (LLe.c (LLe.cons (LLe.im (RLe.eq (fr_row Row_o_z _))) (LLe.cons (LLe.im (RLe.eq (fr_row Kid_c_z _))) LLe.nil))))))))))) (ALe.v LLe.r ALe.nil)))) hq0))
              refine Run.seq ?_
              refine Run.seq ?_
              refine Run.region hL hT [] (by cbv) ?_ ?_
              · exact (hq trivial hq0)
              refine Run.cond (by cbv) (hq0) (fun c41 => ?_) (fun c41 => ?_)
              · have h := if_t c41 h
                refine Run.seq ?_
                refine Run.region hL hT [] (by cbv) ?_ ?_
                · exact hq0
                refine Run.ret ?_
                cases h
                refine ⟨_, _, by cbv, ?_, ?_⟩
                · exact LLe.r
                · exact (ALe.v LLe.r ALe.nil)
              · have h := if_f c41 h
                refine Run.skip ?_
                refine Run.seq ?_
                refine Run.seq ?_
                refine Run.region hL hT [] (by cbv) ?_ ?_
                · exact (hq trivial hq0)
                refine Run.cond (by cbv) (hq0) (fun c42 => ?_) (fun c42 => ?_)
                · have h := if_t c42 h
                  refine Run.seq ?_
                  refine Run.region hL hT [] (by cbv) ?_ ?_
                  · exact hq0
                  refine Run.ret ?_
                  cases h
                  refine ⟨_, _, by cbv, ?_, ?_⟩
                  · exact LLe.r
                  · exact (ALe.v LLe.r ALe.nil)
                · have h := if_f c42 h
                  refine Run.skip ?_
                  refine Run.seq ?_
                  obtain ⟨⟨⟨r43v_Schemav_Cols⟩, r43v_Version, r43v_Tables⟩, h_r43, h⟩ := bnd h
                  obtain ⟨⟨r44v_Table, r44v_Where, r44v_Order, r44v_Down, r44v_First, r44v_Show, r44v_Kids, r44v_KidTable, r44v_KidCol⟩, h_r44, h⟩ := bnd h
                  obtain ⟨⟨⟨⟨r45v_1v_Qv_Table, r45v_1v_Qv_Where, r45v_1v_Qv_Order, r45v_1v_Qv_Down, r45v_1v_Qv_First, r45v_1v_Qv_Show, r45v_1v_Qv_Kids, r45v_1v_Qv_KidTable, r45v_1v_Qv_KidCol⟩, r45v_1v_Rows, r45v_1v_Kids⟩, r45v_2⟩, h_r45, h⟩ := bnd h
                  refine Run.draw hL hT hM [(1, .call [false] [.ag [.jk, .jk, .jk]] [.ag [.ow 3 (eInt_c r43v_Schemav_Cols), .s (.int .i64 r43v_Version), .ow 33 (eRowS_o r43v_Tables)]]), (3, .call [false] [.ag [.jk, .jk, .jk, .jk, .jk, .jk, .jk, .jk, .jk]] [.ag [.s (.int .i64 r44v_Table), .ow 94 (eCond_c r44v_Where), .s (.int .i64 r44v_Order), .s (.bool r44v_Down), .s (.int .i64 r44v_First), .ow 3 (eInt_c r44v_Show), .s (.bool r44v_Kids), .s (.int .i64 r44v_KidTable), .s (.int .i64 r44v_KidCol)]]), (4, .call [false, false] [.ag [.jk, .jk, .jk], .ag [.jk, .jk, .jk, .jk, .jk, .jk, .jk, .jk, .jk]] [.ag [.s (.int .i64 r45v_1v_Qv_Table), .ow 94 (eCond_c r45v_1v_Qv_Where), .s (.int .i64 r45v_1v_Qv_Order), .s (.bool r45v_1v_Qv_Down), .s (.int .i64 r45v_1v_Qv_First), .ow 3 (eInt_c r45v_1v_Qv_Show), .s (.bool r45v_1v_Qv_Kids), .s (.int .i64 r45v_1v_Qv_KidTable), .s (.int .i64 r45v_1v_Qv_KidCol), .ow 66 (eRow_o r45v_1v_Rows), .ow 105 (eKid_c r45v_1v_Kids)], .v (.s (.bool r45v_2))])] (by cbv) (by cbv) (by cbv) (by cbv) (by cbv) ?_ ?_
                  · exact (hq trivial (hq (hC (laws_toStore_ac h_r43)) (hq trivial (hq (hC (laws_toQuery_ac h_r44)) (hq (hC (AC.args (impl_ViewOf_ac h_r45) (ALe.ag rfl (LLe.cons (LLe.im (RLe.eq (fr_row Int_c_z _))) (LLe.c (LLe.cons (LLe.im (RLe.eq (fr_row RowS_o_z _))) LLe.nil))) (ALe.ag rfl (LLe.c (LLe.cons (LLe.im (RLe.eq (fr_row Cond_c_z _))) (LLe.c (LLe.c (LLe.c (LLe.cons (LLe.im (RLe.eq (fr_row Int_c_z _))) (LLe.c (LLe.c (LLe.c LLe.nil))))))))) ALe.nil)))) (hq trivial hq0))))))
                  refine Run.seq ?_
                  refine Run.seq ?_
                  obtain ⟨r46, h_r46, h⟩ := bnd h
                  refine Run.region hL hT [(2, .call [false, false] [.ag [.jk, .jk, .jk, .jk, .jk, .jk, .jk, .jk, .jk, .jk, .jk], .ag [.jk, .jk, .jk, .jk, .jk, .jk, .jk, .jk, .jk, .jk, .jk]] [.v (.s (.bool r46))])] (by cbv) ?_ ?_
                  · exact (hq trivial (hq trivial (hq (hC (AC.args (laws_eqView_ac h_r46) (ALe.ag rfl (LLe.c (LLe.cons (LLe.im (RLe.eq (fr_row Cond_c_z _))) (LLe.c (LLe.c (LLe.c (LLe.cons (LLe.im (RLe.eq (fr_row Int_c_z _))) (LLe.c (LLe.c (LLe.c (LLe.cons (LLe.im (RLe.eq (fr_row Row_o_z _))) (LLe.cons (LLe.im (RLe.eq (fr_row Kid_c_z _))) LLe.nil))))))))))) (ALe.ag rfl (LLe.c (LLe.cons (LLe.im (RLe.eq (fr_row Cond_c_z _))) (LLe.c (LLe.c (LLe.c (LLe.cons (LLe.im (RLe.eq (fr_row Int_c_z _))) (LLe.c (LLe.c (LLe.c (LLe.cons (LLe.im (RLe.eq (fr_row Row_o_z _))) (LLe.cons (LLe.im (RLe.eq (fr_row Kid_c_z _))) LLe.nil))))))))))) ALe.nil)))) (hq (fun _ => hq0) (hq (fun _ => hq0) (hq (fun g49 => (hq g49 (hq g49 hq0))) (hq (fun _ => hq0) (hq (fun q51 => (hq (bo_m q51) hq0)) hq0))))))))
                  refine Run.cond (by cbv) (hq0) (fun c52 => ?_) (fun c52 => ?_)
                  · have h := if_t c52 h
                    refine Run.seq ?_
                    refine Run.region hL hT [] (by cbv) ?_ ?_
                    · exact hq0
                    refine Run.ret ?_
                    cases h
                    refine ⟨_, _, by cbv, ?_, ?_⟩
                    · exact LLe.r
                    · exact (ALe.v LLe.r ALe.nil)
                  · have h := if_f c52 h
                    refine Run.skip ?_
                    refine Run.seq ?_
                    refine Run.region hL hT [] (by cbv) ?_ ?_
                    · exact hq0
                    refine Run.seq ?_
                    obtain ⟨r53, h_r53, h⟩ := bnd h
                    refine Run.region hL hT [(2, .call [false, false] [.ag [.jk, .jk, .jk, .jk, .jk, .jk, .jk, .jk, .jk, .jk, .jk], .v (.jk)] [.v (.s (.int .i64 r53))])] (by cbv) ?_ ?_
                    · exact (hq trivial (hq (hC (AC.args (laws_heldView_ac h_r53) (ALe.ag rfl (LLe.c (LLe.cons (LLe.im (RLe.eq (fr_row Cond_c_z _))) (LLe.c (LLe.c (LLe.c (LLe.cons (LLe.im (RLe.eq (fr_row Int_c_z _))) (LLe.c (LLe.c (LLe.c (LLe.cons (LLe.im (RLe.eq (fr_row Row_o_z _))) (LLe.cons (LLe.im (RLe.eq (fr_row Kid_c_z _))) LLe.nil))))))))))) (ALe.v LLe.r ALe.nil)))) hq0))
                    refine Run.seq ?_
                    refine Run.seq ?_
                    refine Run.region hL hT [] (by cbv) ?_ ?_
                    · exact (hq trivial hq0)
                    refine Run.cond (by cbv) (hq0) (fun c54 => ?_) (fun c54 => ?_)
                    · have h := if_t c54 h
                      refine Run.seq ?_
                      refine Run.region hL hT [] (by cbv) ?_ ?_
                      · exact hq0
                      refine Run.ret ?_
                      cases h
                      refine ⟨_, _, by cbv, ?_, ?_⟩
                      · exact LLe.r
                      · exact (ALe.v LLe.r ALe.nil)
                    · have h := if_f c54 h
                      refine Run.skip ?_
                      refine Run.seq ?_
                      refine Run.seq ?_
                      refine Run.region hL hT [] (by cbv) ?_ ?_
                      · exact (hq trivial hq0)
                      refine Run.cond (by cbv) (hq0) (fun c55 => ?_) (fun c55 => ?_)
                      · have h := if_t c55 h
                        refine Run.seq ?_
                        refine Run.region hL hT [] (by cbv) ?_ ?_
                        · exact hq0
                        refine Run.ret ?_
                        cases h
                        refine ⟨_, _, by cbv, ?_, ?_⟩
                        · exact LLe.r
                        · exact (ALe.v LLe.r ALe.nil)
                      · have h := if_f c55 h
                        refine Run.skip ?_
                        refine Run.seq ?_
                        refine Run.region hL hT [] (by cbv) ?_ ?_
                        · exact hq0
                        refine Run.ret ?_
                        cases h
                        refine ⟨_, _, by cbv, ?_, ?_⟩
                        · exact LLe.r
                        · exact (ALe.v LLe.r ALe.nil)


end Go.Proofs.Ytgicjbeaomjdgaa.L
