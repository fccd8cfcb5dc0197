/- The contracts of the program's functions. -/
import Derived.Test.YtnhnehckapldeaaDoorProg
import Derived.Test.YtnhnehckapldeaaDoorFnKidsC0
import Derived.KernelRfl
namespace Go.Proofs.YtnhnehckapldeaaDoor.L
open Go Go.Proofs
set_option linter.unusedVariables false
set_option linter.unusedSimpArgs false
set_option maxRecDepth 8000 in
theorem impl_kidsFit_ac {a0v_Cols : List Int} {a1v_Table : Int} {a1v_Where : List Cond} {a1v_Order : Int} {a1v_Down : Bool} {a1v_First : Int} {a1v_Show : List Int} {a1v_Kids : Bool} {a1v_KidTable : Int} {a1v_KidCol : Int} {r : Bool} (h : impl_kidsFit.f (Schema.mk a0v_Cols) (Query.mk a1v_Table a1v_Where a1v_Order a1v_Down a1v_First a1v_Show a1v_Kids a1v_KidTable a1v_KidCol) = some r) : AC Tryd.prog 80 [.ag [.im false (rowsOf Int_c a0v_Cols)], .ag [.s (.int .i64 a1v_Table), .im false (rowsOf Cond_c a1v_Where), .s (.int .i64 a1v_Order), .s (.bool a1v_Down), .s (.int .i64 a1v_First), .im false (rowsOf Int_c a1v_Show), .s (.bool a1v_Kids), .s (.int .i64 a1v_KidTable), .s (.int .i64 a1v_KidCol)]] [.ag [.jk], .ag [.jk, .jk, .jk, .jk, .jk, .jk, .jk, .jk, .jk]] [.v (.s (.bool r))] := by
  unfold impl_kidsFit.f at h
  let ar := Ls.ar; let cm := Ls.cm; let bo := Ls.bo; let sc := Ls.sc; let sa := Ls.sa; let sx := Ls.sx; let ss := Ls.ss; let sl := Ls.sl; let bs := Ls.bs; let sb := Ls.sb; let ln := Ls.ln; let sr := Ls.sr; let ap := Ls.ap; let up := Ls.up; let rp := Ls.rp; let fr := Ls.fr; let ge := Ls.ge; let le := Ls.le; let lt := Ls.lt; let nz := Ls.nz; let mm := Ls.mm; let ma := Ls.ma; let sm := Ls.sm; let fl := Ls.fl; let al := Ls.al; let ci := Ls.ci
  let eCond_c := rowsOf Cond_c
  let eInt_c := rowsOf Int_c
  have hL : (⟨ar, cm, bo, sc, sa, sx, ss, sl, bs, sb, ln, sr, ap, up, rp, fr, ge, le, lt, nz, mm, ma, sm, fl, al, ci⟩ : Lf) = Ls := rfl
  show AC Tryd.prog 80 [.ag [.im false (eInt_c a0v_Cols)], .ag [.s (.int .i64 a1v_Table), .im false (eCond_c a1v_Where), .s (.int .i64 a1v_Order), .s (.bool a1v_Down), .s (.int .i64 a1v_First), .im false (eInt_c a1v_Show), .s (.bool a1v_Kids), .s (.int .i64 a1v_KidTable), .s (.int .i64 a1v_KidCol)]] _ _
  refine AC.of_run2 tab_ok Tryd.func80 (by rfl) (by rfl) (by cbv) ⟨by decide, rfl⟩ fun F hP hA => ?_
  have hT : TabOk F.P tab := hP ▸ tab_ok
  have hM : F.P.follows .mixedOrders = true := hP ▸ mixed
  have hC : ∀ {f a o r}, AC Tryd.prog f a o r → AC F.P f a o r := fun h => hP ▸ h
  refine Run.seq ?_
  refine Run.region hL hT [] (by cbv) ?_ ?_
  · exact hq0
  refine Run.seq ?_
  refine Run.seq ?_
  refine Run.region hL hT [] (by cbv) ?_ ?_
  · exact (hq trivial hq0)
  refine Run.cond (by cbv) (hq0) (fun c1 => ?_) (fun c1 => ?_)
  · have h := if_t c1 h
    refine Run.seq ?_
    refine Run.region hL hT [] (by cbv) ?_ ?_
    · exact (hq trivial (hq trivial (hq (fun _ => hq0) (hq (fun g3 => (hq g3 (hq trivial hq0))) (hq (fun g4 => (hq g4 (hq trivial hq0))) (hq (fun q5 => (hq q5 hq0)) (hq (fun _ => hq0) hq0)))))))
    refine Run.ret ?_
    cases h
    refine ⟨_, _, by cbv, ?_, ?_⟩
    · exact LLe.r
    · exact (ALe.v LLe.r ALe.nil)
  · have h := if_f c1 h
    refine Run.skip ?_
    refine Run.seq ?_
    obtain ⟨r7, h_r7, h⟩ := bnd h
    obtain ⟨x8, h_x8, h⟩ := bnd h
    obtain ⟨r9, h_r9, h⟩ := bnd h
    refine Run.draw hL hT hM [(3, .call [false, false] [.ag [.jk], .v (.jk)] [.v (.s (.bool r7))]), (11, .el [.s (.int .i64 x8)]), (14, .call [false, false, false] [.v (.jk), .v (.jk), .v (.jk)] [.v (.s (.bool r9))])] (by cbv) (by cbv) (by cbv) (by cbv) (by cbv) ?_ ?_
    · exact (hq trivial (hq trivial (hq (hC (impl_hasTable_ac h_r7)) (hq (fun _ => hq0) (hq (fun g11 => (hq g11 (hq trivial hq0))) (hq (fun _ => hq0) (hq (fun g13 => (hq g13 (hq trivial hq0))) (hq (fun _ => hq0) (hq (fun g15 => (hq g15 (hq trivial hq0))) (hq (fun g16 => (hq g16 (hq g16 (hq (get_le (gd_t h_x8 g16)) (hq (get_lt (f := Int_c) (gd_t h_x8 g16)) (hq (get_ge (f := Int_c) (gd_t h_x8 g16)) hq0)))))) (hq (fun g17 => (hq g17 hq0)) (hq (fun g18 => (hq g18 (hq trivial hq0))) (hq (fun g19 => (hq g19 (hq g19 (hq (hC (impl_within_ac (gd_t h_r9 g19))) hq0)))) (hq (fun q20 => (hq q20 hq0)) (hq (fun _ => hq0) hq0)))))))))))))))
    refine Run.ret ?_
    cases h
    refine ⟨_, _, by cbv, ?_, ?_⟩
    · exact LLe.r
    · exact (ALe.v LLe.r ALe.nil)

set_option maxRecDepth 8000 in
theorem impl_QueryOk_ac {a0v_Cols : List Int} {a1v_Table : Int} {a1v_Where : List Cond} {a1v_Order : Int} {a1v_Down : Bool} {a1v_First : Int} {a1v_Show : List Int} {a1v_Kids : Bool} {a1v_KidTable : Int} {a1v_KidCol : Int} {r : Bool} (h : impl_QueryOk.f (Schema.mk a0v_Cols) (Query.mk a1v_Table a1v_Where a1v_Order a1v_Down a1v_First a1v_Show a1v_Kids a1v_KidTable a1v_KidCol) = some r) : AC Tryd.prog 47 [.ag [.im false (rowsOf Int_c a0v_Cols)], .ag [.s (.int .i64 a1v_Table), .im false (rowsOf Cond_c a1v_Where), .s (.int .i64 a1v_Order), .s (.bool a1v_Down), .s (.int .i64 a1v_First), .im false (rowsOf Int_c a1v_Show), .s (.bool a1v_Kids), .s (.int .i64 a1v_KidTable), .s (.int .i64 a1v_KidCol)]] [.ag [.jk], .ag [.jk, .jk, .jk, .jk, .jk, .jk, .jk, .jk, .jk]] [.v (.s (.bool r))] := by
  unfold impl_QueryOk.f at h
  let ar := Ls.ar; let cm := Ls.cm; let bo := Ls.bo; let sc := Ls.sc; let sa := Ls.sa; let sx := Ls.sx; let ss := Ls.ss; let sl := Ls.sl; let bs := Ls.bs; let sb := Ls.sb; let ln := Ls.ln; let sr := Ls.sr; let ap := Ls.ap; let up := Ls.up; let rp := Ls.rp; let fr := Ls.fr; let ge := Ls.ge; let le := Ls.le; let lt := Ls.lt; let nz := Ls.nz; let mm := Ls.mm; let ma := Ls.ma; let sm := Ls.sm; let fl := Ls.fl; let al := Ls.al; let ci := Ls.ci
  let eCond_c := rowsOf Cond_c
  let eInt_c := rowsOf Int_c
  let lenI_Cond := @lenI Cond
  let lenI_Int := @lenI Int
  have hL : (⟨ar, cm, bo, sc, sa, sx, ss, sl, bs, sb, ln, sr, ap, up, rp, fr, ge, le, lt, nz, mm, ma, sm, fl, al, ci⟩ : Lf) = Ls := rfl
  show AC Tryd.prog 47 [.ag [.im false (eInt_c a0v_Cols)], .ag [.s (.int .i64 a1v_Table), .im false (eCond_c a1v_Where), .s (.int .i64 a1v_Order), .s (.bool a1v_Down), .s (.int .i64 a1v_First), .im false (eInt_c a1v_Show), .s (.bool a1v_Kids), .s (.int .i64 a1v_KidTable), .s (.int .i64 a1v_KidCol)]] _ _
  refine AC.of_run2 tab_ok Tryd.func47 (by rfl) (by rfl) (by cbv) ⟨by decide, rfl⟩ fun F hP hA => ?_
  have hT : TabOk F.P tab := hP ▸ tab_ok
  have hM : F.P.follows .mixedOrders = true := hP ▸ mixed
  have hC : ∀ {f a o r}, AC Tryd.prog f a o r → AC F.P f a o r := fun h => hP ▸ h
  refine Run.seq ?_
  refine Run.region hL hT [] (by cbv) ?_ ?_
  · exact hq0
  refine Run.seq ?_
  refine Run.seq ?_
  obtain ⟨r1, h_r1, h⟩ := bnd h
  obtain ⟨r2, h_r2, h⟩ := bnd h
  refine Run.region hL hT [(1, .call [false] [.ag [.jk]] [.v (.s (.bool r1))]), (7, .call [false, false] [.ag [.jk], .v (.jk)] [.v (.s (.bool r2))])] (by cbv) ?_ ?_
  · exact (hq trivial (hq (hC (impl_SchemaOk_ac h_r1)) (hq (fun g3 => (hq trivial hq0)) (hq (fun _ => hq0) (hq (fun g5 => (hq g5 (hq trivial hq0))) (hq (fun g6 => (hq g6 (hq g6 (hq (hC (impl_hasTable_ac (gd_t h_r2 g6))) hq0)))) (hq (fun g7 => (hq g7 hq0)) (hq (fun _ => hq0) (hq (fun q9 => (hq (bo_m q9) hq0)) hq0)))))))))
  refine Run.cond (by cbv) (hq0) (fun c10 => ?_) (fun c10 => ?_)
  · have h := if_t c10 h
    refine Run.seq ?_
    refine Run.region hL hT [] (by cbv) ?_ ?_
    · exact hq0
    refine Run.ret ?_
    cases h
    refine ⟨_, _, by cbv, ?_, ?_⟩
    · exact LLe.r
    · exact (ALe.v LLe.r ALe.nil)
  · have h := if_f c10 h
    refine Run.skip ?_
    refine Run.seq ?_
    obtain ⟨x11, h_x11, h⟩ := bnd h
    refine Run.region hL hT [(4, .el [.s (.int .i64 x11)])] (by cbv) ?_ ?_
    · exact (hq trivial (hq trivial (hq (get_le h_x11) (hq (get_lt (f := Int_c) h_x11) (hq (get_ge (f := Int_c) h_x11) hq0)))))
    obtain ⟨K13, h_K13, h⟩ := joinE h
    refine Run.join1 K13 (r := r) (fun (y12 : Unit) => ⟨112, 100000, [(2, .pt 1 0 0), (3, .pt 2 0 0), (5, .t (.s (.int .i64 x11)))], [(1, .box 43 [.t (.im false (eInt_c a0v_Cols))]), (2, .box 27 [.t (.s (.int .i64 a1v_Table)), .t (.im false (eCond_c a1v_Where)), .t (.s (.int .i64 a1v_Order)), .t (.s (.bool a1v_Down)), .t (.s (.int .i64 a1v_First)), .t (.im false (eInt_c a1v_Show)), .t (.s (.bool a1v_Kids)), .t (.s (.int .i64 a1v_KidTable)), .t (.s (.int .i64 a1v_KidCol))])]⟩) ?_ ?_
    · skip
      refine Run.seq ?_
      refine Run.region hL hT [] (by cbv) ?_ ?_
      · exact (hq trivial hq0)
      rw [show ln (eCond_c a1v_Where) = lenI_Cond a1v_Where from ln_eq Cond_c _]
      refine Run.block ?_
      refine Run.loop1 (fun (z28 : Int) => ⟨112, 100000, [(2, .pt 1 0 0), (3, .pt 2 0 0), (5, .t (.s (.int .i64 x11))), (28, .t (.im false (eCond_c a1v_Where))), (29, .t (.s (.int .i64 (lenI_Cond a1v_Where)))), (30, .t (.s (.int .i64 z28)))], [(1, .box 43 [.t (.im false (eInt_c a0v_Cols))]), (2, .box 27 [.t (.s (.int .i64 a1v_Table)), .t (.im false (eCond_c a1v_Where)), .t (.s (.int .i64 a1v_Order)), .t (.s (.bool a1v_Down)), .t (.s (.int .i64 a1v_First)), .t (.im false (eInt_c a1v_Show)), .t (.s (.bool a1v_Kids)), .t (.s (.int .i64 a1v_KidTable)), .t (.s (.int .i64 a1v_KidCol))])]⟩) (x0 := 0) h (Weak.of _ [(1, 0), (2, 1)] hA (by cbv) ?_) (fun _ => rfl) ?_
      · repeat (first | exact hq0 | refine hq (by first | exact True.intro | rfl) ?_)
      · intro k z28 h
        rw [impl_QueryOk.l0] at h
        refine Run.seq ?_
        refine Run.region hL hT [] (by cbv) ?_ ?_
        · exact (hq trivial hq0)
        refine Run.seq ?_
        refine Run.cond (by cbv) (hq0) (fun c29 => ?_) (fun c29 => ?_)
        · have h := if_t c29 h
          refine Run.skip ?_
          refine Run.seq ?_
          refine Run.block ?_
          refine Run.seq ?_
          obtain ⟨⟨x30v_Col, x30v_Op, x30v_V⟩, h_x30, h⟩ := bnd h
          refine Run.region hL hT [(0, .el [.s (.int .i64 x30v_Col), .s (.int .i64 x30v_Op), .s (.int .i64 x30v_V)])] (by cbv) ?_ ?_
          · exact (hq (get_le h_x30) (hq (get_lt (f := Cond_c) h_x30) (hq (get_ge (f := Cond_c) h_x30) (hq trivial hq0))))
          refine Run.seq ?_
          obtain ⟨r31, h_r31, h⟩ := bnd h
          obtain ⟨r32, h_r32, h⟩ := bnd h
          obtain ⟨r33, h_r33, h⟩ := bnd h
          refine Run.region hL hT [(4, .call [false, false, false] [.v (.jk), .v (.jk), .v (.jk)] [.v (.s (.bool r31))]), (9, .call [false, false, false] [.v (.jk), .v (.jk), .v (.jk)] [.v (.s (.bool r32))]), (15, .call [false] [.v (.jk)] [.v (.s (.bool r33))])] (by cbv) ?_ ?_
          · exact (hq trivial (hq trivial (hq (hC (impl_within_ac h_r31)) (hq (fun _ => hq0) (hq (fun g35 => (hq g35 (hq trivial hq0))) (hq (fun g36 => (hq g36 (hq (hC (impl_within_ac (gd_t h_r32 g36))) hq0))) (hq (fun g37 => (hq g37 hq0)) (hq (fun _ => hq0) (hq (fun q39 => (hq (bo_m q39) hq0)) (hq (fun _ => hq0) (hq (fun g41 => (hq g41 (hq trivial hq0))) (hq (fun g42 => (hq g42 (hq (hC (impl_isNum_ac (gd_t h_r33 g42))) hq0))) (hq (fun g43 => (hq g43 hq0)) (hq (fun _ => hq0) (hq (fun q45 => (hq (bo_m q45) hq0)) hq0)))))))))))))))
          refine Run.cond (by cbv) (hq0) (fun c46 => ?_) (fun c46 => ?_)
          · have h := if_t c46 h
            refine Run.seq ?_
            refine Run.region hL hT [] (by cbv) ?_ ?_
            · exact hq0
            refine Run.ret ?_
            cases h
            refine ⟨_, _, by cbv, ?_, ?_⟩
            · exact LLe.r
            · exact (ALe.v LLe.r ALe.nil)
          · have h := if_f c46 h
            refine Run.skip ?_
            refine Run.region hL hT [] (by cbv) ?_ ?_
            · exact (hq trivial hq0)
            refine ⟨(ar .add .i64 z28 1), h, Weak.of _ [(1, 1), (2, 2)] hA (by cbv) ?_⟩
            repeat (first | exact hq0 | refine hq (by first | exact True.intro | rfl) ?_)
        · have h := if_f c29 h
          refine Run.exit ?_
          refine ⟨(), h, Weak.of _ [(1, 1), (2, 2)] hA (by cbv) ?_⟩
          repeat (first | exact hq0 | refine hq (by first | exact True.intro | rfl) ?_)
    · intro y12 h
      rw [h_K13] at h
      obtain ⟨K48, h_K48, h⟩ := joinE h
      refine Run.join1 K48 (r := r) (fun (y47 : Unit) => ⟨112, 100000, [(2, .pt 1 0 0), (3, .pt 2 0 0), (5, .t (.s (.int .i64 x11)))], [(1, .box 43 [.t (.im false (eInt_c a0v_Cols))]), (2, .box 27 [.t (.s (.int .i64 a1v_Table)), .t (.im false (eCond_c a1v_Where)), .t (.s (.int .i64 a1v_Order)), .t (.s (.bool a1v_Down)), .t (.s (.int .i64 a1v_First)), .t (.im false (eInt_c a1v_Show)), .t (.s (.bool a1v_Kids)), .t (.s (.int .i64 a1v_KidTable)), .t (.s (.int .i64 a1v_KidCol))])]⟩) ?_ ?_
      · skip
        refine Run.seq ?_
        refine Run.region hL hT [] (by cbv) ?_ ?_
        · exact (hq trivial hq0)
        rw [show ln (eInt_c a1v_Show) = lenI_Int a1v_Show from ln_eq Int_c _]
        refine Run.block ?_
        refine Run.loop1 (fun (z63 : Int) => ⟨112, 100000, [(2, .pt 1 0 0), (3, .pt 2 0 0), (5, .t (.s (.int .i64 x11))), (54, .t (.im false (eInt_c a1v_Show))), (55, .t (.s (.int .i64 (lenI_Int a1v_Show)))), (56, .t (.s (.int .i64 z63)))], [(1, .box 43 [.t (.im false (eInt_c a0v_Cols))]), (2, .box 27 [.t (.s (.int .i64 a1v_Table)), .t (.im false (eCond_c a1v_Where)), .t (.s (.int .i64 a1v_Order)), .t (.s (.bool a1v_Down)), .t (.s (.int .i64 a1v_First)), .t (.im false (eInt_c a1v_Show)), .t (.s (.bool a1v_Kids)), .t (.s (.int .i64 a1v_KidTable)), .t (.s (.int .i64 a1v_KidCol))])]⟩) (x0 := 0) h (Weak.of _ [(1, 1), (2, 2)] hA (by cbv) ?_) (fun _ => rfl) ?_
        · repeat (first | exact hq0 | refine hq (by first | exact True.intro | rfl) ?_)
        · intro k z63 h
          rw [impl_QueryOk.l1] at h
          refine Run.seq ?_
          refine Run.region hL hT [] (by cbv) ?_ ?_
          · exact (hq trivial hq0)
          refine Run.seq ?_
          refine Run.cond (by cbv) (hq0) (fun c64 => ?_) (fun c64 => ?_)
          · have h := if_t c64 h
            refine Run.skip ?_
            refine Run.seq ?_
            refine Run.block ?_
            refine Run.seq ?_
            obtain ⟨x65, h_x65, h⟩ := bnd h
            refine Run.region hL hT [(1, .el [.s (.int .i64 x65)])] (by cbv) ?_ ?_
            · exact (hq (get_le h_x65) (hq (get_lt (f := Int_c) h_x65) (hq (get_ge (f := Int_c) h_x65) hq0)))
            refine Run.seq ?_
            obtain ⟨r66, h_r66, h⟩ := bnd h
            obtain ⟨x67, h_x67, h⟩ := bnd h
            refine Run.region hL hT [(3, .call [false, false, false] [.v (.jk), .v (.jk), .v (.jk)] [.v (.s (.bool r66))]), (13, .el [.s (.int .i64 x67)])] (by cbv) ?_ ?_
            · exact (hq trivial (hq (hC (impl_within_ac h_r66)) (hq (fun _ => hq0) (hq (fun g69 => (hq g69 (hq trivial hq0))) (hq (fun g70 => (hq g70 hq0)) (hq (fun _ => hq0) (hq (fun g72 => (hq g72 (hq trivial hq0))) (hq (fun _ => hq0) (hq (fun g74 => (hq g74 (hq trivial hq0))) (hq (fun g75 => (hq g75 (hq g75 (hq (get_le (gd_t h_x67 g75)) (hq (get_lt (f := Int_c) (gd_t h_x67 g75)) (hq (get_ge (f := Int_c) (gd_t h_x67 g75)) hq0)))))) (hq (fun g76 => (hq g76 hq0)) (hq (fun _ => hq0) (hq (fun g78 => (hq g78 (hq g78 (hq trivial hq0)))) (hq (fun g79 => (hq g79 (hq (fun q80 => (hq (bo_a g79 q80) hq0)) (hq (fun _ => hq0) hq0)))) (hq (fun _ => hq0) (hq (fun q83 => (hq (bo_m q83) hq0)) hq0))))))))))))))))
            refine Run.cond (by cbv) (hq0) (fun c84 => ?_) (fun c84 => ?_)
            · have h := if_t c84 h
              refine Run.seq ?_
              refine Run.region hL hT [] (by cbv) ?_ ?_
              · exact hq0
              refine Run.ret ?_
              cases h
              refine ⟨_, _, by cbv, ?_, ?_⟩
              · exact LLe.r
              · exact (ALe.v LLe.r ALe.nil)
            · have h := if_f c84 h
              refine Run.skip ?_
              refine Run.region hL hT [] (by cbv) ?_ ?_
              · exact (hq trivial hq0)
              refine ⟨(ar .add .i64 z63 1), h, Weak.of _ [(1, 1), (2, 2)] hA (by cbv) ?_⟩
              repeat (first | exact hq0 | refine hq (by first | exact True.intro | rfl) ?_)
          · have h := if_f c64 h
            refine Run.exit ?_
            refine ⟨(), h, Weak.of _ [(1, 1), (2, 2)] hA (by cbv) ?_⟩
            repeat (first | exact hq0 | refine hq (by first | exact True.intro | rfl) ?_)
      · intro y47 h
        rw [h_K48] at h
        refine Run.seq ?_
        obtain ⟨r85, h_r85, h⟩ := bnd h
        refine Run.region hL hT [(3, .call [false, false, false] [.v (.jk), .v (.jk), .v (.jk)] [.v (.s (.bool r85))])] (by cbv) ?_ ?_
        · exact (hq trivial (hq (hC (impl_within_ac h_r85)) (hq (fun _ => hq0) (hq (fun g87 => (hq g87 (hq trivial hq0))) (hq (fun g88 => (hq g88 hq0)) (hq (fun g89 => (hq g89 hq0)) (hq (fun _ => hq0) (hq (fun g91 => (hq g91 (hq trivial hq0))) (hq (fun g92 => (hq g92 (hq trivial hq0))) (hq (fun g93 => (hq g93 (hq (fun _ => hq0) (hq (fun q95 => (hq (bo_a g93 (bo_m q95)) hq0)) hq0)))) (hq (fun q96 => (hq q96 hq0)) (hq (fun _ => hq0) hq0))))))))))))
        refine Run.seq ?_
        obtain ⟨r98, h_r98, h⟩ := bnd h
        obtain ⟨r99, h_r99, h⟩ := bnd h
        refine Run.region hL hT [(10, .call [false, false, false] [.v (.jk), .v (.jk), .v (.jk)] [.v (.s (.bool r98))]), (15, .call [false, false] [.ag [.jk], .ag [.jk, .jk, .jk, .jk, .jk, .jk, .jk, .jk, .jk]] [.v (.s (.bool r99))])] (by cbv) ?_ ?_
        · exact (hq trivial (hq trivial (hq (fun _ => hq0) (hq (fun q101 => (by have q101C := q101; rw [show ln (eCond_c a1v_Where) = lenI_Cond a1v_Where from ln_eq Cond_c _] at q101C; exact (hq q101 hq0))) (hq (fun _ => hq0) (hq (fun _ => hq0) (hq (fun g104 => (by have g104C := g104; rw [show ln (eCond_c a1v_Where) = lenI_Cond a1v_Where from ln_eq Cond_c _] at g104C; exact (hq g104 (hq trivial hq0)))) (hq (fun g105 => (by have g105C := g105; rw [show ln (eCond_c a1v_Where) = lenI_Cond a1v_Where from ln_eq Cond_c _] at g105C; exact (hq g105 (hq (hC (impl_within_ac (gd_t h_r98 g105C))) hq0)))) (hq (fun q106 => (by have q106C := q106; rw [show ln (eCond_c a1v_Where) = lenI_Cond a1v_Where from ln_eq Cond_c _] at q106C; exact (hq q106 hq0))) (hq (fun _ => hq0) (hq (fun g108 => (by have g108C := g108; rw [show ln (eCond_c a1v_Where) = lenI_Cond a1v_Where from ln_eq Cond_c _] at g108C; exact (hq trivial hq0))) (hq (fun g109 => (by have g109C := g109; rw [show ln (eCond_c a1v_Where) = lenI_Cond a1v_Where from ln_eq Cond_c _] at g109C; exact (hq trivial hq0))) (hq (fun g110 => (by have g110C := g110; rw [show ln (eCond_c a1v_Where) = lenI_Cond a1v_Where from ln_eq Cond_c _] at g110C; exact (hq g110 (hq g110 (hq (hC (impl_kidsFit_ac (gd_t h_r99 g110C))) hq0))))) (hq (fun q111 => (by have q111C := q111; rw [show ln (eCond_c a1v_Where) = lenI_Cond a1v_Where from ln_eq Cond_c _] at q111C; exact (hq q111 hq0))) (hq (fun _ => hq0) hq0)))))))))))))))
        rw [show ln (eCond_c a1v_Where) = lenI_Cond a1v_Where from ln_eq Cond_c _]
        refine Run.ret ?_
        cases h
        refine ⟨_, _, by cbv, ?_, ?_⟩
        · exact LLe.r
        · exact (ALe.v LLe.r ALe.nil)

set_option maxRecDepth 8000 in
theorem impl_KidsOf_ac {a0v_Schemav_Cols : List Int} {a0v_Version : Int} {a0v_Tables : List (List Row)} {a1v_Table : Int} {a1v_Where : List Cond} {a1v_Order : Int} {a1v_Down : Bool} {a1v_First : Int} {a1v_Show : List Int} {a1v_Kids : Bool} {a1v_KidTable : Int} {a1v_KidCol : Int} {a2 : Int} {r : Int} (h : impl_KidsOf.f (Store.mk (Schema.mk a0v_Schemav_Cols) a0v_Version a0v_Tables) (Query.mk a1v_Table a1v_Where a1v_Order a1v_Down a1v_First a1v_Show a1v_Kids a1v_KidTable a1v_KidCol) a2 = some r) : AC Tryd.prog 14 [.ag [.im false (rowsOf Int_c a0v_Schemav_Cols), .s (.int .i64 a0v_Version), .im false (rowsOf RowS_i a0v_Tables)], .ag [.s (.int .i64 a1v_Table), .im false (rowsOf Cond_c a1v_Where), .s (.int .i64 a1v_Order), .s (.bool a1v_Down), .s (.int .i64 a1v_First), .im false (rowsOf Int_c a1v_Show), .s (.bool a1v_Kids), .s (.int .i64 a1v_KidTable), .s (.int .i64 a1v_KidCol)], .v (.s (.int .i64 a2))] [.ag [.jk, .jk, .jk], .ag [.jk, .jk, .jk, .jk, .jk, .jk, .jk, .jk, .jk], .v (.jk)] [.v (.s (.int .i64 r))] := by
  unfold impl_KidsOf.f at h
  let ar := Ls.ar; let cm := Ls.cm; let bo := Ls.bo; let sc := Ls.sc; let sa := Ls.sa; let sx := Ls.sx; let ss := Ls.ss; let sl := Ls.sl; let bs := Ls.bs; let sb := Ls.sb; let ln := Ls.ln; let sr := Ls.sr; let ap := Ls.ap; let up := Ls.up; let rp := Ls.rp; let fr := Ls.fr; let ge := Ls.ge; let le := Ls.le; let lt := Ls.lt; let nz := Ls.nz; let mm := Ls.mm; let ma := Ls.ma; let sm := Ls.sm; let fl := Ls.fl; let al := Ls.al; let ci := Ls.ci
  let eCond_c := rowsOf Cond_c
  let eInt_c := rowsOf Int_c
  let eRowS_i := rowsOf RowS_i
  let eRow_i := rowsOf Row_i
  let lenI_Row := @lenI Row
  have hL : (⟨ar, cm, bo, sc, sa, sx, ss, sl, bs, sb, ln, sr, ap, up, rp, fr, ge, le, lt, nz, mm, ma, sm, fl, al, ci⟩ : Lf) = Ls := rfl
  show AC Tryd.prog 14 [.ag [.im false (eInt_c a0v_Schemav_Cols), .s (.int .i64 a0v_Version), .im false (eRowS_i a0v_Tables)], .ag [.s (.int .i64 a1v_Table), .im false (eCond_c a1v_Where), .s (.int .i64 a1v_Order), .s (.bool a1v_Down), .s (.int .i64 a1v_First), .im false (eInt_c a1v_Show), .s (.bool a1v_Kids), .s (.int .i64 a1v_KidTable), .s (.int .i64 a1v_KidCol)], .v (.s (.int .i64 a2))] _ _
  refine AC.of_run2 tab_ok Tryd.func14 (by rfl) (by rfl) (by cbv) ⟨by decide, rfl⟩ fun F hP hA => ?_
  have hT : TabOk F.P tab := hP ▸ tab_ok
  have hM : F.P.follows .mixedOrders = true := hP ▸ mixed
  have hC : ∀ {f a o r}, AC Tryd.prog f a o r → AC F.P f a o r := fun h => hP ▸ h
  refine Run.seq ?_
  refine Run.region hL hT [] (by cbv) ?_ ?_
  · exact hq0
  refine Run.seq ?_
  refine Run.seq ?_
  obtain ⟨r1, h_r1, h⟩ := bnd h
  obtain ⟨r2, h_r2, h⟩ := bnd h
  refine Run.region hL hT [(1, .call [false] [.ag [.jk, .jk, .jk]] [.v (.s (.bool r1))]), (7, .call [false, false] [.ag [.jk], .ag [.jk, .jk, .jk, .jk, .jk, .jk, .jk, .jk, .jk]] [.v (.s (.bool r2))])] (by cbv) ?_ ?_
  · exact (hq trivial (hq (hC (impl_StoreOk_ac h_r1)) (hq (fun _ => hq0) (hq (fun g4 => (hq g4 (hq trivial hq0))) (hq (fun g5 => (hq trivial hq0)) (hq (fun g6 => (hq g6 (hq g6 (hq (hC (impl_QueryOk_ac (gd_t h_r2 g6))) hq0)))) (hq (fun g7 => (hq g7 hq0)) (hq (fun _ => hq0) (hq (fun q9 => (hq (bo_m q9) hq0)) (hq (fun _ => hq0) (hq (fun g11 => (hq g11 (hq trivial hq0))) (hq (fun g12 => (hq g12 hq0)) (hq (fun _ => hq0) (hq (fun q14 => (hq (bo_m q14) hq0)) hq0))))))))))))))
  refine Run.cond (by cbv) (hq0) (fun c15 => ?_) (fun c15 => ?_)
  · have h := if_t c15 h
    refine Run.seq ?_
    refine Run.region hL hT [] (by cbv) ?_ ?_
    · exact hq0
    refine Run.ret ?_
    cases h
    refine ⟨_, _, by cbv, ?_, ?_⟩
    · exact LLe.r
    · exact (ALe.v LLe.r ALe.nil)
  · have h := if_f c15 h
    refine Run.skip ?_
    refine Run.seq ?_
    refine Run.region hL hT [] (by cbv) ?_ ?_
    · exact hq0
    refine Run.seq ?_
    refine Run.seq ?_
    obtain ⟨x16, h_x16, h⟩ := bnd h
    refine Run.region hL hT [(4, .el [.im false (eRow_i x16)])] (by cbv) ?_ ?_
    · exact (hq trivial (hq trivial (hq (get_le h_x16) (hq (get_lt (f := RowS_i) h_x16) (hq (get_ge (f := RowS_i) h_x16) hq0)))))
    rw [show ln (eRow_i x16) = lenI_Row x16 from ln_eq Row_i _]
    refine Run.block ?_
    refine Run.loop2 (fun (z31 : Int) (z32 : Int) => ⟨48, 100000, [(2, .t (.s (.int .i64 a2))), (4, .pt 1 0 0), (7, .t (.s (.int .i64 z31))), (30, .t (.im false (eRow_i x16))), (31, .t (.s (.int .i64 (lenI_Row x16)))), (32, .t (.s (.int .i64 z32)))], [(1, .box 27 [.t (.s (.int .i64 a1v_Table)), .t (.im false (eCond_c a1v_Where)), .t (.s (.int .i64 a1v_Order)), .t (.s (.bool a1v_Down)), .t (.s (.int .i64 a1v_First)), .t (.im false (eInt_c a1v_Show)), .t (.s (.bool a1v_Kids)), .t (.s (.int .i64 a1v_KidTable)), .t (.s (.int .i64 a1v_KidCol))])]⟩) (x0 := 0) (x1 := 0) h (Weak.of _ [(1, 1)] hA (by cbv) ?_) (fun _ _ => rfl) ?_
    · repeat (first | exact hq0 | refine hq (by first | exact True.intro | rfl) ?_)
    · intro k z31 z32 h
      rw [impl_KidsOf.l0] at h
      refine Run.seq ?_
      refine Run.region hL hT [] (by cbv) ?_ ?_
      · exact (hq trivial hq0)
      refine Run.seq ?_
      refine Run.cond (by cbv) (hq0) (fun c33 => ?_) (fun c33 => ?_)
      · have h := if_t c33 h
        refine Run.skip ?_
        refine Run.seq ?_
        refine Run.block ?_
        refine Run.seq ?_
        obtain ⟨⟨x34v_Id, x34v_Cells⟩, h_x34, h⟩ := bnd h
        refine Run.region hL hT [(0, .el [.s (.int .i64 x34v_Id), .im false (eInt_c x34v_Cells)])] (by cbv) ?_ ?_
        · exact (hq (get_le h_x34) (hq (get_lt (f := Row_i) h_x34) (hq (get_ge (f := Row_i) h_x34) (hq trivial hq0))))
        refine Run.seq ?_
        obtain ⟨x35, h_x35, h⟩ := bnd h
        refine Run.region hL hT [(4, .el [.s (.int .i64 x35)])] (by cbv) ?_ ?_
        · exact (hq trivial (hq trivial (hq (get_le h_x35) (hq (get_lt (f := Int_c) h_x35) (hq (get_ge (f := Int_c) h_x35) (hq trivial hq0))))))
        refine Run.cond (by cbv) (hq0) (fun c36 => ?_) (fun c36 => ?_)
        · have h := if_t c36 h
          refine Run.region hL hT [] (by cbv) ?_ ?_
          · exact (hq trivial hq0)
          refine Run.region hL hT [] (by cbv) ?_ ?_
          · exact (hq trivial hq0)
          refine ⟨(ar .add .i64 z31 1), (ar .add .i64 z32 1), h, Weak.of _ [(1, 1)] hA (by cbv) ?_⟩
          repeat (first | exact hq0 | refine hq (by first | exact True.intro | rfl) ?_)
        · have h := if_f c36 h
          refine Run.skip ?_
          refine Run.region hL hT [] (by cbv) ?_ ?_
          · exact (hq trivial hq0)
          refine ⟨z31, (ar .add .i64 z32 1), h, Weak.of _ [(1, 1)] hA (by cbv) ?_⟩
          repeat (first | exact hq0 | refine hq (by first | exact True.intro | rfl) ?_)
      · have h := if_f c33 h
        refine Run.exit ?_
        refine Run.seq ?_
        refine Run.region hL hT [] (by cbv) ?_ ?_
        · exact hq0
        refine Run.ret ?_
        cases h
        refine ⟨_, _, by cbv, ?_, ?_⟩
        · exact LLe.r
        · exact (ALe.v LLe.r ALe.nil)

set_option maxRecDepth 8000 in
theorem spec_RowOk_ac {a0v_Cols : List Int} {a1 : Int} {a2v_Id : Int} {a2v_Cells : List Int} {r : Bool} (h : spec_RowOk.f (Schema.mk a0v_Cols) a1 (Row.mk a2v_Id a2v_Cells) = some r) : AC Tryd.prog 81 [.ag [.im false (rowsOf Int_c a0v_Cols)], .v (.s (.int .i64 a1)), .ag [.s (.int .i64 a2v_Id), .im false (rowsOf Int_c a2v_Cells)]] [.ag [.jk], .v (.jk), .ag [.jk, .jk]] [.v (.s (.bool r))] := by
  unfold spec_RowOk.f at h
  let ar := Ls.ar; let cm := Ls.cm; let bo := Ls.bo; let sc := Ls.sc; let sa := Ls.sa; let sx := Ls.sx; let ss := Ls.ss; let sl := Ls.sl; let bs := Ls.bs; let sb := Ls.sb; let ln := Ls.ln; let sr := Ls.sr; let ap := Ls.ap; let up := Ls.up; let rp := Ls.rp; let fr := Ls.fr; let ge := Ls.ge; let le := Ls.le; let lt := Ls.lt; let nz := Ls.nz; let mm := Ls.mm; let ma := Ls.ma; let sm := Ls.sm; let fl := Ls.fl; let al := Ls.al; let ci := Ls.ci
  let eInt_c := rowsOf Int_c
  let lenI_Int := @lenI Int
  have hL : (⟨ar, cm, bo, sc, sa, sx, ss, sl, bs, sb, ln, sr, ap, up, rp, fr, ge, le, lt, nz, mm, ma, sm, fl, al, ci⟩ : Lf) = Ls := rfl
  show AC Tryd.prog 81 [.ag [.im false (eInt_c a0v_Cols)], .v (.s (.int .i64 a1)), .ag [.s (.int .i64 a2v_Id), .im false (eInt_c a2v_Cells)]] _ _
  refine AC.of_run2 tab_ok Tryd.func81 (by rfl) (by rfl) (by cbv) ⟨by decide, rfl⟩ fun F hP hA => ?_
  have hT : TabOk F.P tab := hP ▸ tab_ok
  have hM : F.P.follows .mixedOrders = true := hP ▸ mixed
  have hC : ∀ {f a o r}, AC Tryd.prog f a o r → AC F.P f a o r := fun h => hP ▸ h
  refine Run.seq ?_
  refine Run.region hL hT [] (by cbv) ?_ ?_
  · exact hq0
  refine Run.seq ?_
  refine Run.seq ?_
  obtain ⟨r1, h_r1, h⟩ := bnd h
  obtain ⟨r2, h_r2, h⟩ := bnd h
  obtain ⟨r3, h_r3, h⟩ := bnd h
  obtain ⟨x4, h_x4, h⟩ := bnd h
  refine Run.draw hL hT hM [(1, .call [false] [.ag [.jk]] [.v (.s (.bool r1))]), (9, .call [false, false, false] [.v (.jk), .v (.jk), .v (.jk)] [.v (.s (.bool r2))]), (15, .call [false, false, false] [.v (.jk), .v (.jk), .v (.jk)] [.v (.s (.bool r3))]), (25, .el [.s (.int .i64 x4)])] (by cbv) (by cbv) (by cbv) (by cbv) (by cbv) ?_ ?_
  · exact (hq trivial (hq (hC (spec_SchemaOk_ac h_r1)) (hq (fun _ => hq0) (hq (fun _ => hq0) (hq (fun g7 => (hq g7 (hq trivial hq0))) (hq (fun g8 => (hq g8 hq0)) (hq (fun g9 => (hq g9 (hq trivial hq0))) (hq (fun g10 => (hq g10 (hq g10 (hq (by rw [show ln (eInt_c a0v_Cols) = lenI_Int a0v_Cols from ln_eq Int_c _]; exact (hC (spec_l1In_ac (gd_t h_r2 g10)))) hq0)))) (hq (fun g11 => (hq g11 hq0)) (hq (fun _ => hq0) (hq (fun q13 => (hq (bo_m q13) hq0)) (hq (fun _ => hq0) (hq (fun g15 => (hq g15 (hq trivial hq0))) (hq (fun g16 => (hq g16 (hq (hC (spec_l1In_ac (gd_t h_r3 g16))) hq0))) (hq (fun g17 => (hq g17 hq0)) (hq (fun _ => hq0) (hq (fun q19 => (hq (bo_m q19) hq0)) (hq (fun _ => hq0) (hq (fun g21 => (hq g21 (hq trivial hq0))) (hq (fun g22 => (hq g22 hq0)) (hq (fun _ => hq0) (hq (fun g24 => (hq g24 (hq trivial hq0))) (hq (fun _ => hq0) (hq (fun g26 => (hq g26 (hq g26 (hq (get_le (gd_t h_x4 g26)) (hq (get_lt (f := Int_c) (gd_t h_x4 g26)) (hq (get_ge (f := Int_c) (gd_t h_x4 g26)) hq0)))))) (hq (fun g27 => (hq g27 hq0)) (hq (fun g28 => (hq g28 (hq g28 (hq trivial hq0)))) (hq (fun _ => hq0) (hq (fun q30 => (hq (bo_m q30) hq0)) hq0))))))))))))))))))))))))))))
  rw [show ln (eInt_c a0v_Cols) = lenI_Int a0v_Cols from ln_eq Int_c _]
  rw [show ln (eInt_c a2v_Cells) = lenI_Int a2v_Cells from ln_eq Int_c _]
  refine Run.cond (by cbv) (hq0) (fun c31 => ?_) (fun c31 => ?_)
  · have h := if_t c31 h
    refine Run.seq ?_
    refine Run.region hL hT [] (by cbv) ?_ ?_
    · exact hq0
    refine Run.ret ?_
    cases h
    refine ⟨_, _, by cbv, ?_, ?_⟩
    · exact LLe.r
    · exact (ALe.v LLe.r ALe.nil)
  · have h := if_f c31 h
    refine Run.skip ?_
    refine Run.seq ?_
    refine Run.seq ?_
    refine Run.region hL hT [] (by cbv) ?_ ?_
    · exact hq0
    refine Run.block ?_
    refine Run.loop1 (fun (z35 : Int) => ⟨51, 100000, [(5, .pt 1 0 0), (7, .t (.s (.int .i64 z35)))], [(1, .box 41 [.t (.s (.int .i64 a2v_Id)), .t (.im false (eInt_c a2v_Cells))])]⟩) (x0 := 0) h (Weak.of _ [(1, 1)] hA (by cbv) ?_) (fun _ => rfl) ?_
    · repeat (first | exact hq0 | refine hq (by first | exact True.intro | rfl) ?_)
    · intro k z35 h
      rw [spec_RowOk.l0] at h
      refine Run.seq ?_
      refine Run.seq ?_
      refine Run.region hL hT [] (by cbv) ?_ ?_
      · exact (hq trivial (hq trivial hq0))
      rw [show ln (eInt_c a2v_Cells) = lenI_Int a2v_Cells from ln_eq Int_c _]
      refine Run.cond (by cbv) (hq0) (fun c36 => ?_) (fun c36 => ?_)
      · have h := if_t c36 h
        refine Run.skip ?_
        refine Run.seq ?_
        refine Run.block ?_
        refine Run.seq ?_
        obtain ⟨x37, h_x37, h⟩ := bnd h
        obtain ⟨r38, h_r38, h⟩ := bnd h
        refine Run.region hL hT [(3, .el [.s (.int .i64 x37)]), (5, .call [false, false, false] [.v (.jk), .v (.jk), .v (.jk)] [.v (.s (.bool r38))])] (by cbv) ?_ ?_
        · exact (hq trivial (hq (get_le h_x37) (hq (get_lt (f := Int_c) h_x37) (hq (get_ge (f := Int_c) h_x37) (hq (hC (spec_l1In_ac h_r38)) hq0)))))
        refine Run.cond (by cbv) (hq0) (fun c39 => ?_) (fun c39 => ?_)
        · have h := if_t c39 h
          refine Run.seq ?_
          refine Run.region hL hT [] (by cbv) ?_ ?_
          · exact hq0
          refine Run.ret ?_
          cases h
          refine ⟨_, _, by cbv, ?_, ?_⟩
          · exact LLe.r
          · exact (ALe.v LLe.r ALe.nil)
        · have h := if_f c39 h
          refine Run.skip ?_
          refine Run.region hL hT [] (by cbv) ?_ ?_
          · exact (hq trivial hq0)
          refine ⟨(ar .add .i64 z35 1), h, Weak.of _ [(1, 1)] hA (by cbv) ?_⟩
          repeat (first | exact hq0 | refine hq (by first | exact True.intro | rfl) ?_)
      · have h := if_f c36 h
        refine Run.exit ?_
        refine Run.seq ?_
        refine Run.region hL hT [] (by cbv) ?_ ?_
        · exact hq0
        refine Run.ret ?_
        cases h
        refine ⟨_, _, by cbv, ?_, ?_⟩
        · exact LLe.r
        · exact (ALe.v LLe.r ALe.nil)

set_option maxRecDepth 8000 in
theorem spec_RowsOk_ac {a0v_Cols : List Int} {a1 : Int} {a2 : List Row} {r : Bool} (h : spec_RowsOk.f (Schema.mk a0v_Cols) a1 a2 = some r) : AC Tryd.prog 52 [.ag [.im false (rowsOf Int_c a0v_Cols)], .v (.s (.int .i64 a1)), .v (.im false (rowsOf Row_i a2))] [.ag [.jk], .v (.jk), .v (.jk)] [.v (.s (.bool r))] := by
  unfold spec_RowsOk.f at h
  let ar := Ls.ar; let cm := Ls.cm; let bo := Ls.bo; let sc := Ls.sc; let sa := Ls.sa; let sx := Ls.sx; let ss := Ls.ss; let sl := Ls.sl; let bs := Ls.bs; let sb := Ls.sb; let ln := Ls.ln; let sr := Ls.sr; let ap := Ls.ap; let up := Ls.up; let rp := Ls.rp; let fr := Ls.fr; let ge := Ls.ge; let le := Ls.le; let lt := Ls.lt; let nz := Ls.nz; let mm := Ls.mm; let ma := Ls.ma; let sm := Ls.sm; let fl := Ls.fl; let al := Ls.al; let ci := Ls.ci
  let eInt_c := rowsOf Int_c
  let eRow_i := rowsOf Row_i
  let lenI_Int := @lenI Int
  let lenI_Row := @lenI Row
  have hL : (⟨ar, cm, bo, sc, sa, sx, ss, sl, bs, sb, ln, sr, ap, up, rp, fr, ge, le, lt, nz, mm, ma, sm, fl, al, ci⟩ : Lf) = Ls := rfl
  show AC Tryd.prog 52 [.ag [.im false (eInt_c a0v_Cols)], .v (.s (.int .i64 a1)), .v (.im false (eRow_i a2))] _ _
  refine AC.of_run2 tab_ok Tryd.func52 (by rfl) (by rfl) (by cbv) ⟨by decide, rfl⟩ fun F hP hA => ?_
  have hT : TabOk F.P tab := hP ▸ tab_ok
  have hM : F.P.follows .mixedOrders = true := hP ▸ mixed
  have hC : ∀ {f a o r}, AC Tryd.prog f a o r → AC F.P f a o r := fun h => hP ▸ h
  refine Run.seq ?_
  refine Run.region hL hT [] (by cbv) ?_ ?_
  · exact hq0
  obtain ⟨K2, h_K2, h⟩ := joinE h
  refine Run.join1 K2 (r := r) (fun (y1 : Unit) => ⟨55, 100000, [(1, .t (.s (.int .i64 a1))), (2, .t (.im false (eRow_i a2))), (3, .pt 1 0 0)], [(1, .box 43 [.t (.im false (eInt_c a0v_Cols))])]⟩) ?_ ?_
  · skip
    refine Run.seq ?_
    refine Run.region hL hT [] (by cbv) ?_ ?_
    · exact hq0
    refine Run.block ?_
    refine Run.loop1 (fun (z7 : Int) => ⟨55, 100000, [(1, .t (.s (.int .i64 a1))), (2, .t (.im false (eRow_i a2))), (3, .pt 1 0 0), (7, .t (.s (.int .i64 z7)))], [(1, .box 43 [.t (.im false (eInt_c a0v_Cols))])]⟩) (x0 := 0) h (Weak.of _ [(1, 0)] hA (by cbv) ?_) (fun _ => rfl) ?_
    · repeat (first | exact hq0 | refine hq (by first | exact True.intro | rfl) ?_)
    · intro k z7 h
      rw [spec_RowsOk.l0] at h
      refine Run.seq ?_
      refine Run.seq ?_
      refine Run.region hL hT [] (by cbv) ?_ ?_
      · exact (hq trivial hq0)
      rw [show ln (eRow_i a2) = lenI_Row a2 from ln_eq Row_i _]
      refine Run.cond (by cbv) (hq0) (fun c8 => ?_) (fun c8 => ?_)
      · have h := if_t c8 h
        refine Run.skip ?_
        refine Run.seq ?_
        refine Run.block ?_
        refine Run.seq ?_
        obtain ⟨⟨x9v_Id, x9v_Cells⟩, h_x9, h⟩ := bnd h
        obtain ⟨r10, h_r10, h⟩ := bnd h
        obtain ⟨⟨x11v_Id, x11v_Cells⟩, h_x11, h⟩ := bnd h
        refine Run.draw hL hT hM [(4, .el [.s (.int .i64 x9v_Id), .im false (eInt_c x9v_Cells)]), (6, .call [false, false, false] [.ag [.jk], .v (.jk), .ag [.jk, .jk]] [.v (.s (.bool r10))]), (15, .el [.s (.int .i64 x11v_Id), .im false (eInt_c x11v_Cells)]), (20, .el [.s (.int .i64 x9v_Id), .im false (eInt_c x9v_Cells)])] (by cbv) (by cbv) (by cbv) (by cbv) (by cbv) ?_ ?_
        · exact (hq trivial (hq (get_le h_x9) (hq (get_lt (f := Row_i) h_x9) (hq (get_ge (f := Row_i) h_x9) (hq (hC (spec_RowOk_ac h_r10)) (hq (fun _ => hq0) (hq (fun g13 => (hq g13 (hq trivial hq0))) (hq (fun g14 => (hq g14 hq0)) (hq (fun _ => hq0) (hq (fun _ => hq0) (hq (fun g17 => (hq g17 (hq trivial hq0))) (hq (fun g18 => (hq g18 (hq g18 (hq (get_le (gd_t h_x11 g18)) (hq (get_lt (f := Row_i) (gd_t h_x11 g18)) (hq (get_ge (f := Row_i) (gd_t h_x11 g18)) hq0)))))) (hq (fun g19 => (hq g19 hq0)) (hq (fun g20 => (hq g20 hq0)) (hq (fun _ => hq0) (hq (fun _ => hq0) (hq (fun g23 => (hq g23 (hq g23 (hq (get_le h_x9) (hq (get_lt (f := Row_i) h_x9) (hq (get_ge (f := Row_i) h_x9) hq0)))))) (hq (fun g24 => (hq g24 hq0)) (hq (fun g25 => (hq g25 hq0)) (hq (fun g26 => (hq g26 (hq g26 (hq trivial hq0)))) (hq (fun g27 => (hq g27 (hq (fun q28 => (hq (bo_a g27 q28) hq0)) (hq (fun _ => hq0) hq0)))) (hq (fun _ => hq0) (hq (fun q31 => (hq (bo_m q31) hq0)) hq0)))))))))))))))))))))))
        refine Run.cond (by cbv) (hq0) (fun c32 => ?_) (fun c32 => ?_)
        · have h := if_t c32 h
          refine Run.seq ?_
          refine Run.region hL hT [] (by cbv) ?_ ?_
          · exact hq0
          refine Run.ret ?_
          cases h
          refine ⟨_, _, by cbv, ?_, ?_⟩
          · exact LLe.r
          · exact (ALe.v LLe.r ALe.nil)
        · have h := if_f c32 h
          refine Run.skip ?_
          refine Run.region hL hT [] (by cbv) ?_ ?_
          · exact (hq trivial hq0)
          refine ⟨(ar .add .i64 z7 1), h, Weak.of _ [(1, 1)] hA (by cbv) ?_⟩
          repeat (first | exact hq0 | refine hq (by first | exact True.intro | rfl) ?_)
      · have h := if_f c8 h
        refine Run.exit ?_
        refine ⟨(), h, Weak.of _ [(1, 1)] hA (by cbv) ?_⟩
        repeat (first | exact hq0 | refine hq (by first | exact True.intro | rfl) ?_)
  · intro y1 h
    rw [h_K2] at h
    refine Run.seq ?_
    obtain ⟨r33, h_r33, h⟩ := bnd h
    obtain ⟨r34, h_r34, h⟩ := bnd h
    refine Run.region hL hT [(1, .call [false] [.ag [.jk]] [.v (.s (.bool r33))]), (8, .call [false, false, false] [.v (.jk), .v (.jk), .v (.jk)] [.v (.s (.bool r34))])] (by cbv) ?_ ?_
    · exact (hq trivial (hq (hC (spec_SchemaOk_ac h_r33)) (hq (fun _ => hq0) (hq (fun _ => hq0) (hq (fun g37 => (hq g37 (hq trivial hq0))) (hq (fun g38 => (hq g38 hq0)) (hq (fun g39 => (hq g39 (hq trivial hq0))) (hq (fun g40 => (hq g40 (hq g40 (hq (by rw [show ln (eInt_c a0v_Cols) = lenI_Int a0v_Cols from ln_eq Int_c _]; exact (hC (spec_l1In_ac (gd_t h_r34 g40)))) hq0)))) (hq (fun q41 => (hq q41 hq0)) (hq (fun _ => hq0) (hq (fun _ => hq0) (hq (fun g44 => (hq g44 hq0)) (hq (fun g45 => (hq g45 (hq trivial hq0))) (hq (fun q46 => (hq q46 hq0)) (hq (fun _ => hq0) hq0)))))))))))))))
    rw [show ln (eInt_c a0v_Cols) = lenI_Int a0v_Cols from ln_eq Int_c _]
    rw [show ln (eRow_i a2) = lenI_Row a2 from ln_eq Row_i _]
    refine Run.ret ?_
    cases h
    refine ⟨_, _, by cbv, ?_, ?_⟩
    · exact LLe.r
    · exact (ALe.v LLe.r ALe.nil)

set_option maxRecDepth 8000 in
theorem spec_StoreOk_ac {a0v_Schemav_Cols : List Int} {a0v_Version : Int} {a0v_Tables : List (List Row)} {r : Bool} (h : spec_StoreOk.f (Store.mk (Schema.mk a0v_Schemav_Cols) a0v_Version a0v_Tables) = some r) : AC Tryd.prog 18 [.ag [.im false (rowsOf Int_c a0v_Schemav_Cols), .s (.int .i64 a0v_Version), .im false (rowsOf RowS_i a0v_Tables)]] [.ag [.jk, .jk, .jk]] [.v (.s (.bool r))] := by
  unfold spec_StoreOk.f at h
  let ar := Ls.ar; let cm := Ls.cm; let bo := Ls.bo; let sc := Ls.sc; let sa := Ls.sa; let sx := Ls.sx; let ss := Ls.ss; let sl := Ls.sl; let bs := Ls.bs; let sb := Ls.sb; let ln := Ls.ln; let sr := Ls.sr; let ap := Ls.ap; let up := Ls.up; let rp := Ls.rp; let fr := Ls.fr; let ge := Ls.ge; let le := Ls.le; let lt := Ls.lt; let nz := Ls.nz; let mm := Ls.mm; let ma := Ls.ma; let sm := Ls.sm; let fl := Ls.fl; let al := Ls.al; let ci := Ls.ci
  let eInt_c := rowsOf Int_c
  let eRowS_i := rowsOf RowS_i
  let eRow_i := rowsOf Row_i
  let lenI_Int := @lenI Int
  let lenI_RowS := @lenI (List Row)
  have hL : (⟨ar, cm, bo, sc, sa, sx, ss, sl, bs, sb, ln, sr, ap, up, rp, fr, ge, le, lt, nz, mm, ma, sm, fl, al, ci⟩ : Lf) = Ls := rfl
  show AC Tryd.prog 18 [.ag [.im false (eInt_c a0v_Schemav_Cols), .s (.int .i64 a0v_Version), .im false (eRowS_i a0v_Tables)]] _ _
  refine AC.of_run2 tab_ok Tryd.func18 (by rfl) (by rfl) (by cbv) ⟨by decide, rfl⟩ fun F hP hA => ?_
  have hT : TabOk F.P tab := hP ▸ tab_ok
  have hM : F.P.follows .mixedOrders = true := hP ▸ mixed
  have hC : ∀ {f a o r}, AC Tryd.prog f a o r → AC F.P f a o r := fun h => hP ▸ h
  refine Run.seq ?_
  refine Run.region hL hT [] (by cbv) ?_ ?_
  · exact hq0
  refine Run.seq ?_
  refine Run.seq ?_
  obtain ⟨r1, h_r1, h⟩ := bnd h
  obtain ⟨r2, h_r2, h⟩ := bnd h
  refine Run.region hL hT [(2, .call [false] [.ag [.jk]] [.v (.s (.bool r1))]), (7, .call [false, false, false] [.v (.jk), .v (.jk), .v (.jk)] [.v (.s (.bool r2))])] (by cbv) ?_ ?_
  · exact (hq trivial (hq (hC (spec_SchemaOk_ac h_r1)) (hq (fun _ => hq0) (hq (fun g4 => (hq g4 (hq trivial hq0))) (hq (fun g5 => (hq g5 (hq (hC (spec_l1In_ac (gd_t h_r2 g5))) hq0))) (hq (fun g6 => (hq g6 hq0)) (hq (fun _ => hq0) (hq (fun q8 => (hq (bo_m q8) hq0)) (hq (fun _ => hq0) (hq (fun g10 => (hq g10 (hq trivial hq0))) (hq (fun g11 => (hq g11 hq0)) (hq (fun _ => hq0) (hq (fun g13 => (hq g13 hq0)) (hq (fun g14 => (hq g14 (hq trivial hq0))) (hq (fun g15 => (hq g15 hq0)) (hq (fun g16 => (hq g16 (hq g16 (hq trivial hq0)))) (hq (fun _ => hq0) (hq (fun q18 => (hq (bo_m q18) hq0)) hq0))))))))))))))))))
  rw [show ln (eInt_c a0v_Schemav_Cols) = lenI_Int a0v_Schemav_Cols from ln_eq Int_c _]
  rw [show ln (eRowS_i a0v_Tables) = lenI_RowS a0v_Tables from ln_eq RowS_i _]
  refine Run.cond (by cbv) (hq0) (fun c19 => ?_) (fun c19 => ?_)
  · have h := if_t c19 h
    refine Run.seq ?_
    refine Run.region hL hT [] (by cbv) ?_ ?_
    · exact hq0
    refine Run.ret ?_
    cases h
    refine ⟨_, _, by cbv, ?_, ?_⟩
    · exact LLe.r
    · exact (ALe.v LLe.r ALe.nil)
  · have h := if_f c19 h
    refine Run.skip ?_
    refine Run.seq ?_
    refine Run.seq ?_
    refine Run.region hL hT [] (by cbv) ?_ ?_
    · exact hq0
    refine Run.block ?_
    refine Run.loop1 (fun (z24 : Int) => ⟨41, 100000, [(1, .pt 1 0 0), (3, .t (.s (.int .i64 z24)))], [(1, .box 46 [.t (.im false (eInt_c a0v_Schemav_Cols)), .t (.s (.int .i64 a0v_Version)), .t (.im false (eRowS_i a0v_Tables))])]⟩) (x0 := 0) h (Weak.of _ [(1, 0)] hA (by cbv) ?_) (fun _ => rfl) ?_
    · repeat (first | exact hq0 | refine hq (by first | exact True.intro | rfl) ?_)
    · intro k z24 h
      rw [spec_StoreOk.l0] at h
      refine Run.seq ?_
      refine Run.seq ?_
      refine Run.region hL hT [] (by cbv) ?_ ?_
      · exact (hq trivial (hq trivial hq0))
      rw [show ln (eRowS_i a0v_Tables) = lenI_RowS a0v_Tables from ln_eq RowS_i _]
      refine Run.cond (by cbv) (hq0) (fun c25 => ?_) (fun c25 => ?_)
      · have h := if_t c25 h
        refine Run.skip ?_
        refine Run.seq ?_
        refine Run.block ?_
        refine Run.seq ?_
        obtain ⟨x26, h_x26, h⟩ := bnd h
        obtain ⟨r27, h_r27, h⟩ := bnd h
        refine Run.draw hL hT hM [(6, .el [.im false (eRow_i x26)]), (8, .call [false, false, false] [.ag [.jk], .v (.jk), .v (.jk)] [.v (.s (.bool r27))])] (by cbv) (by cbv) (by cbv) (by cbv) (by cbv) ?_ ?_
        · exact (hq trivial (hq trivial (hq (get_le h_x26) (hq (get_lt (f := RowS_i) h_x26) (hq (get_ge (f := RowS_i) h_x26) (hq (hC (spec_RowsOk_ac h_r27)) hq0))))))
        refine Run.cond (by cbv) (hq0) (fun c28 => ?_) (fun c28 => ?_)
        · have h := if_t c28 h
          refine Run.seq ?_
          refine Run.region hL hT [] (by cbv) ?_ ?_
          · exact hq0
          refine Run.ret ?_
          cases h
          refine ⟨_, _, by cbv, ?_, ?_⟩
          · exact LLe.r
          · exact (ALe.v LLe.r ALe.nil)
        · have h := if_f c28 h
          refine Run.skip ?_
          refine Run.region hL hT [] (by cbv) ?_ ?_
          · exact (hq trivial hq0)
          refine ⟨(ar .add .i64 z24 1), h, Weak.of _ [(1, 1)] hA (by cbv) ?_⟩
          repeat (first | exact hq0 | refine hq (by first | exact True.intro | rfl) ?_)
      · have h := if_f c25 h
        refine Run.exit ?_
        refine Run.seq ?_
        refine Run.region hL hT [] (by cbv) ?_ ?_
        · exact hq0
        refine Run.ret ?_
        cases h
        refine ⟨_, _, by cbv, ?_, ?_⟩
        · exact LLe.r
        · exact (ALe.v LLe.r ALe.nil)

set_option maxRecDepth 8000 in
theorem spec_QueryOk_ac {a0v_Cols : List Int} {a1v_Table : Int} {a1v_Where : List Cond} {a1v_Order : Int} {a1v_Down : Bool} {a1v_First : Int} {a1v_Show : List Int} {a1v_Kids : Bool} {a1v_KidTable : Int} {a1v_KidCol : Int} {r : Bool} (h : spec_QueryOk.f (Schema.mk a0v_Cols) (Query.mk a1v_Table a1v_Where a1v_Order a1v_Down a1v_First a1v_Show a1v_Kids a1v_KidTable a1v_KidCol) = some r) : AC Tryd.prog 19 [.ag [.im false (rowsOf Int_c a0v_Cols)], .ag [.s (.int .i64 a1v_Table), .im false (rowsOf Cond_c a1v_Where), .s (.int .i64 a1v_Order), .s (.bool a1v_Down), .s (.int .i64 a1v_First), .im false (rowsOf Int_c a1v_Show), .s (.bool a1v_Kids), .s (.int .i64 a1v_KidTable), .s (.int .i64 a1v_KidCol)]] [.ag [.jk], .ag [.jk, .jk, .jk, .jk, .jk, .jk, .jk, .jk, .jk]] [.v (.s (.bool r))] := by
  unfold spec_QueryOk.f at h
  let ar := Ls.ar; let cm := Ls.cm; let bo := Ls.bo; let sc := Ls.sc; let sa := Ls.sa; let sx := Ls.sx; let ss := Ls.ss; let sl := Ls.sl; let bs := Ls.bs; let sb := Ls.sb; let ln := Ls.ln; let sr := Ls.sr; let ap := Ls.ap; let up := Ls.up; let rp := Ls.rp; let fr := Ls.fr; let ge := Ls.ge; let le := Ls.le; let lt := Ls.lt; let nz := Ls.nz; let mm := Ls.mm; let ma := Ls.ma; let sm := Ls.sm; let fl := Ls.fl; let al := Ls.al; let ci := Ls.ci
  let eCond_c := rowsOf Cond_c
  let eInt_c := rowsOf Int_c
  let lenI_Cond := @lenI Cond
  let lenI_Int := @lenI Int
  have hL : (⟨ar, cm, bo, sc, sa, sx, ss, sl, bs, sb, ln, sr, ap, up, rp, fr, ge, le, lt, nz, mm, ma, sm, fl, al, ci⟩ : Lf) = Ls := rfl
  show AC Tryd.prog 19 [.ag [.im false (eInt_c a0v_Cols)], .ag [.s (.int .i64 a1v_Table), .im false (eCond_c a1v_Where), .s (.int .i64 a1v_Order), .s (.bool a1v_Down), .s (.int .i64 a1v_First), .im false (eInt_c a1v_Show), .s (.bool a1v_Kids), .s (.int .i64 a1v_KidTable), .s (.int .i64 a1v_KidCol)]] _ _
  refine AC.of_run2 tab_ok Tryd.func19 (by rfl) (by rfl) (by cbv) ⟨by decide, rfl⟩ fun F hP hA => ?_
  have hT : TabOk F.P tab := hP ▸ tab_ok
  have hM : F.P.follows .mixedOrders = true := hP ▸ mixed
  have hC : ∀ {f a o r}, AC Tryd.prog f a o r → AC F.P f a o r := fun h => hP ▸ h
  refine Run.seq ?_
  refine Run.region hL hT [] (by cbv) ?_ ?_
  · exact hq0
  refine Run.seq ?_
  refine Run.seq ?_
  obtain ⟨r1, h_r1, h⟩ := bnd h
  obtain ⟨r2, h_r2, h⟩ := bnd h
  refine Run.region hL hT [(1, .call [false] [.ag [.jk]] [.v (.s (.bool r1))]), (10, .call [false, false, false] [.v (.jk), .v (.jk), .v (.jk)] [.v (.s (.bool r2))])] (by cbv) ?_ ?_
  · exact (hq trivial (hq (hC (spec_SchemaOk_ac h_r1)) (hq (fun _ => hq0) (hq (fun g4 => (hq g4 (hq trivial hq0))) (hq (fun _ => hq0) (hq (fun g6 => (hq g6 (hq trivial hq0))) (hq (fun g7 => (hq g7 hq0)) (hq (fun g8 => (hq g8 (hq trivial hq0))) (hq (fun g9 => (hq g9 (hq g9 (hq (by rw [show ln (eInt_c a0v_Cols) = lenI_Int a0v_Cols from ln_eq Int_c _]; exact (hC (spec_l1In_ac (gd_t h_r2 g9)))) hq0)))) (hq (fun g10 => (hq g10 hq0)) (hq (fun _ => hq0) (hq (fun q12 => (hq (bo_m q12) hq0)) (hq (fun _ => hq0) (hq (fun g14 => (hq g14 (hq trivial hq0))) (hq (fun g15 => (hq g15 hq0)) (hq (fun g16 => (hq g16 (hq trivial hq0))) (hq (fun _ => hq0) (hq (fun q18 => (hq (bo_m q18) hq0)) hq0))))))))))))))))))
  rw [show ln (eCond_c a1v_Where) = lenI_Cond a1v_Where from ln_eq Cond_c _]
  rw [show ln (eInt_c a0v_Cols) = lenI_Int a0v_Cols from ln_eq Int_c _]
  refine Run.cond (by cbv) (hq0) (fun c19 => ?_) (fun c19 => ?_)
  · have h := if_t c19 h
    refine Run.seq ?_
    refine Run.region hL hT [] (by cbv) ?_ ?_
    · exact hq0
    refine Run.ret ?_
    cases h
    refine ⟨_, _, by cbv, ?_, ?_⟩
    · exact LLe.r
    · exact (ALe.v LLe.r ALe.nil)
  · have h := if_f c19 h
    refine Run.skip ?_
    refine Run.seq ?_
    obtain ⟨x20, h_x20, h⟩ := bnd h
    refine Run.region hL hT [(4, .el [.s (.int .i64 x20)])] (by cbv) ?_ ?_
    · exact (hq trivial (hq trivial (hq (get_le h_x20) (hq (get_lt (f := Int_c) h_x20) (hq (get_ge (f := Int_c) h_x20) hq0)))))
    obtain ⟨K22, h_K22, h⟩ := joinE h
    refine Run.join1 K22 (r := r) (fun (y21 : Unit) => ⟨148, 100000, [(2, .pt 1 0 0), (3, .pt 2 0 0), (5, .t (.s (.int .i64 x20)))], [(1, .box 43 [.t (.im false (eInt_c a0v_Cols))]), (2, .box 27 [.t (.s (.int .i64 a1v_Table)), .t (.im false (eCond_c a1v_Where)), .t (.s (.int .i64 a1v_Order)), .t (.s (.bool a1v_Down)), .t (.s (.int .i64 a1v_First)), .t (.im false (eInt_c a1v_Show)), .t (.s (.bool a1v_Kids)), .t (.s (.int .i64 a1v_KidTable)), .t (.s (.int .i64 a1v_KidCol))])]⟩) ?_ ?_
    · skip
      refine Run.seq ?_
      refine Run.region hL hT [] (by cbv) ?_ ?_
      · exact hq0
      refine Run.block ?_
      refine Run.loop1 (fun (z35 : Int) => ⟨148, 100000, [(2, .pt 1 0 0), (3, .pt 2 0 0), (5, .t (.s (.int .i64 x20))), (6, .t (.s (.int .i64 z35)))], [(1, .box 43 [.t (.im false (eInt_c a0v_Cols))]), (2, .box 27 [.t (.s (.int .i64 a1v_Table)), .t (.im false (eCond_c a1v_Where)), .t (.s (.int .i64 a1v_Order)), .t (.s (.bool a1v_Down)), .t (.s (.int .i64 a1v_First)), .t (.im false (eInt_c a1v_Show)), .t (.s (.bool a1v_Kids)), .t (.s (.int .i64 a1v_KidTable)), .t (.s (.int .i64 a1v_KidCol))])]⟩) (x0 := 0) h (Weak.of _ [(1, 0), (2, 1)] hA (by cbv) ?_) (fun _ => rfl) ?_
      · repeat (first | exact hq0 | refine hq (by first | exact True.intro | rfl) ?_)
      · intro k z35 h
        rw [spec_QueryOk.l0] at h
        refine Run.seq ?_
        refine Run.seq ?_
        refine Run.region hL hT [] (by cbv) ?_ ?_
        · exact (hq trivial (hq trivial hq0))
        rw [show ln (eCond_c a1v_Where) = lenI_Cond a1v_Where from ln_eq Cond_c _]
        refine Run.cond (by cbv) (hq0) (fun c36 => ?_) (fun c36 => ?_)
        · have h := if_t c36 h
          refine Run.skip ?_
          refine Run.seq ?_
          refine Run.block ?_
          refine Run.seq ?_
          obtain ⟨⟨x37v_Col, x37v_Op, x37v_V⟩, h_x37, h⟩ := bnd h
          refine Run.region hL hT [(3, .el [.s (.int .i64 x37v_Col), .s (.int .i64 x37v_Op), .s (.int .i64 x37v_V)])] (by cbv) ?_ ?_
          · exact (hq trivial (hq (get_le h_x37) (hq (get_lt (f := Cond_c) h_x37) (hq (get_ge (f := Cond_c) h_x37) (hq trivial hq0)))))
          refine Run.seq ?_
          obtain ⟨r38, h_r38, h⟩ := bnd h
          obtain ⟨r39, h_r39, h⟩ := bnd h
          obtain ⟨r40, h_r40, h⟩ := bnd h
          refine Run.region hL hT [(4, .call [false, false, false] [.v (.jk), .v (.jk), .v (.jk)] [.v (.s (.bool r38))]), (9, .call [false, false, false] [.v (.jk), .v (.jk), .v (.jk)] [.v (.s (.bool r39))]), (15, .call [false, false, false] [.v (.jk), .v (.jk), .v (.jk)] [.v (.s (.bool r40))])] (by cbv) ?_ ?_
          · exact (hq trivial (hq trivial (hq (hC (spec_l1In_ac h_r38)) (hq (fun _ => hq0) (hq (fun g42 => (hq g42 (hq trivial hq0))) (hq (fun g43 => (hq g43 (hq (hC (spec_l1In_ac (gd_t h_r39 g43))) hq0))) (hq (fun g44 => (hq g44 hq0)) (hq (fun _ => hq0) (hq (fun q46 => (hq (bo_m q46) hq0)) (hq (fun _ => hq0) (hq (fun g48 => (hq g48 (hq trivial hq0))) (hq (fun g49 => (hq g49 (hq (hC (spec_l1In_ac (gd_t h_r40 g49))) hq0))) (hq (fun g50 => (hq g50 hq0)) (hq (fun _ => hq0) (hq (fun q52 => (hq (bo_m q52) hq0)) hq0)))))))))))))))
          refine Run.cond (by cbv) (hq0) (fun c53 => ?_) (fun c53 => ?_)
          · have h := if_t c53 h
            refine Run.seq ?_
            refine Run.region hL hT [] (by cbv) ?_ ?_
            · exact hq0
            refine Run.ret ?_
            cases h
            refine ⟨_, _, by cbv, ?_, ?_⟩
            · exact LLe.r
            · exact (ALe.v LLe.r ALe.nil)
          · have h := if_f c53 h
            refine Run.skip ?_
            refine Run.region hL hT [] (by cbv) ?_ ?_
            · exact (hq trivial hq0)
            refine ⟨(ar .add .i64 z35 1), h, Weak.of _ [(1, 1), (2, 2)] hA (by cbv) ?_⟩
            repeat (first | exact hq0 | refine hq (by first | exact True.intro | rfl) ?_)
        · have h := if_f c36 h
          refine Run.exit ?_
          refine ⟨(), h, Weak.of _ [(1, 1), (2, 2)] hA (by cbv) ?_⟩
          repeat (first | exact hq0 | refine hq (by first | exact True.intro | rfl) ?_)
    · intro y21 h
      rw [h_K22] at h
      obtain ⟨K55, h_K55, h⟩ := joinE h
      refine Run.join1 K55 (r := r) (fun (y54 : Unit) => ⟨148, 100000, [(2, .pt 1 0 0), (3, .pt 2 0 0), (5, .t (.s (.int .i64 x20)))], [(1, .box 43 [.t (.im false (eInt_c a0v_Cols))]), (2, .box 27 [.t (.s (.int .i64 a1v_Table)), .t (.im false (eCond_c a1v_Where)), .t (.s (.int .i64 a1v_Order)), .t (.s (.bool a1v_Down)), .t (.s (.int .i64 a1v_First)), .t (.im false (eInt_c a1v_Show)), .t (.s (.bool a1v_Kids)), .t (.s (.int .i64 a1v_KidTable)), .t (.s (.int .i64 a1v_KidCol))])]⟩) ?_ ?_
      · skip
        refine Run.seq ?_
        refine Run.region hL hT [] (by cbv) ?_ ?_
        · exact hq0
        refine Run.block ?_
        refine Run.loop1 (fun (z68 : Int) => ⟨148, 100000, [(2, .pt 1 0 0), (3, .pt 2 0 0), (5, .t (.s (.int .i64 x20))), (8, .t (.s (.int .i64 z68)))], [(1, .box 43 [.t (.im false (eInt_c a0v_Cols))]), (2, .box 27 [.t (.s (.int .i64 a1v_Table)), .t (.im false (eCond_c a1v_Where)), .t (.s (.int .i64 a1v_Order)), .t (.s (.bool a1v_Down)), .t (.s (.int .i64 a1v_First)), .t (.im false (eInt_c a1v_Show)), .t (.s (.bool a1v_Kids)), .t (.s (.int .i64 a1v_KidTable)), .t (.s (.int .i64 a1v_KidCol))])]⟩) (x0 := 0) h (Weak.of _ [(1, 1), (2, 2)] hA (by cbv) ?_) (fun _ => rfl) ?_
        · repeat (first | exact hq0 | refine hq (by first | exact True.intro | rfl) ?_)
        · intro k z68 h
          rw [spec_QueryOk.l1] at h
          refine Run.seq ?_
          refine Run.seq ?_
          refine Run.region hL hT [] (by cbv) ?_ ?_
          · exact (hq trivial (hq trivial hq0))
          rw [show ln (eInt_c a1v_Show) = lenI_Int a1v_Show from ln_eq Int_c _]
          refine Run.cond (by cbv) (hq0) (fun c69 => ?_) (fun c69 => ?_)
          · have h := if_t c69 h
            refine Run.skip ?_
            refine Run.seq ?_
            refine Run.block ?_
            refine Run.seq ?_
            obtain ⟨x70, h_x70, h⟩ := bnd h
            obtain ⟨r71, h_r71, h⟩ := bnd h
            obtain ⟨x72, h_x72, h⟩ := bnd h
            refine Run.draw hL hT hM [(3, .el [.s (.int .i64 x70)]), (7, .call [false, false, false] [.v (.jk), .v (.jk), .v (.jk)] [.v (.s (.bool r71))]), (17, .el [.s (.int .i64 x72)]), (22, .el [.s (.int .i64 x70)])] (by cbv) (by cbv) (by cbv) (by cbv) (by cbv) ?_ ?_
            · exact (hq trivial (hq (get_le h_x70) (hq (get_lt (f := Int_c) h_x70) (hq (get_ge (f := Int_c) h_x70) (hq trivial (hq (hC (spec_l1In_ac h_r71)) (hq (fun _ => hq0) (hq (fun g74 => (hq g74 (hq trivial hq0))) (hq (fun g75 => (hq g75 hq0)) (hq (fun _ => hq0) (hq (fun g77 => (hq g77 (hq trivial hq0))) (hq (fun _ => hq0) (hq (fun g79 => (hq g79 (hq trivial hq0))) (hq (fun g80 => (hq g80 (hq g80 (hq (get_le (gd_t h_x72 g80)) (hq (get_lt (f := Int_c) (gd_t h_x72 g80)) (hq (get_ge (f := Int_c) (gd_t h_x72 g80)) hq0)))))) (hq (fun g81 => (hq g81 hq0)) (hq (fun _ => hq0) (hq (fun g83 => (hq g83 (hq trivial hq0))) (hq (fun _ => hq0) (hq (fun g85 => (hq g85 (hq g85 (hq (get_le h_x70) (hq (get_lt (f := Int_c) h_x70) (hq (get_ge (f := Int_c) h_x70) hq0)))))) (hq (fun g86 => (hq g86 hq0)) (hq (fun g87 => (hq g87 (hq g87 (hq trivial hq0)))) (hq (fun g88 => (hq g88 (hq (fun q89 => (hq (bo_a g88 q89) hq0)) (hq (fun _ => hq0) hq0)))) (hq (fun _ => hq0) (hq (fun q92 => (hq (bo_m q92) hq0)) hq0))))))))))))))))))))))))
            refine Run.cond (by cbv) (hq0) (fun c93 => ?_) (fun c93 => ?_)
            · have h := if_t c93 h
              refine Run.seq ?_
              refine Run.region hL hT [] (by cbv) ?_ ?_
              · exact hq0
              refine Run.ret ?_
              cases h
              refine ⟨_, _, by cbv, ?_, ?_⟩
              · exact LLe.r
              · exact (ALe.v LLe.r ALe.nil)
            · have h := if_f c93 h
              refine Run.skip ?_
              refine Run.region hL hT [] (by cbv) ?_ ?_
              · exact (hq trivial hq0)
              refine ⟨(ar .add .i64 z68 1), h, Weak.of _ [(1, 1), (2, 2)] hA (by cbv) ?_⟩
              repeat (first | exact hq0 | refine hq (by first | exact True.intro | rfl) ?_)
          · have h := if_f c69 h
            refine Run.exit ?_
            refine ⟨(), h, Weak.of _ [(1, 1), (2, 2)] hA (by cbv) ?_⟩
            repeat (first | exact hq0 | refine hq (by first | exact True.intro | rfl) ?_)
      · intro y54 h
        rw [h_K55] at h
        refine Run.seq ?_
        refine Run.seq ?_
        obtain ⟨r94, h_r94, h⟩ := bnd h
        obtain ⟨r95, h_r95, h⟩ := bnd h
        refine Run.region hL hT [(3, .call [false, false, false] [.v (.jk), .v (.jk), .v (.jk)] [.v (.s (.bool r94))]), (8, .call [false, false, false] [.v (.jk), .v (.jk), .v (.jk)] [.v (.s (.bool r95))])] (by cbv) ?_ ?_
        · exact (hq trivial (hq (hC (spec_l1In_ac h_r94)) (hq (fun _ => hq0) (hq (fun g97 => (hq g97 (hq trivial hq0))) (hq (fun g98 => (hq g98 (hq (hC (spec_l1In_ac (gd_t h_r95 g98))) hq0))) (hq (fun g99 => (hq g99 hq0)) (hq (fun _ => hq0) (hq (fun q101 => (hq (bo_m q101) hq0)) (hq (fun _ => hq0) (hq (fun g103 => (hq g103 (hq trivial hq0))) (hq (fun g104 => (hq g104 (hq trivial hq0))) (hq (fun g105 => (hq g105 hq0)) (hq (fun _ => hq0) (hq (fun g107 => (hq g107 (hq trivial hq0))) (hq (fun g108 => (hq g108 (hq (fun q109 => (hq (bo_a g108 q109) hq0)) (hq (fun _ => hq0) hq0)))) (hq (fun _ => hq0) (hq (fun q112 => (hq (bo_m q112) hq0)) hq0)))))))))))))))))
        refine Run.cond (by cbv) (hq0) (fun c113 => ?_) (fun c113 => ?_)
        · have h := if_t c113 h
          refine Run.seq ?_
          refine Run.region hL hT [] (by cbv) ?_ ?_
          · exact hq0
          refine Run.ret ?_
          cases h
          refine ⟨_, _, by cbv, ?_, ?_⟩
          · exact LLe.r
          · exact (ALe.v LLe.r ALe.nil)
        · have h := if_f c113 h
          refine Run.skip ?_
          refine Run.seq ?_
          refine Run.seq ?_
          refine Run.region hL hT [] (by cbv) ?_ ?_
          · exact (hq trivial hq0)
          refine Run.cond (by cbv) (hq0) (fun c114 => ?_) (fun c114 => ?_)
          · have h := if_t c114 h
            refine Run.seq ?_
            refine Run.region hL hT [] (by cbv) ?_ ?_
            · exact (hq trivial (hq trivial (hq (fun _ => hq0) (hq (fun g116 => (hq g116 (hq trivial hq0))) (hq (fun g117 => (hq g117 (hq trivial hq0))) (hq (fun q118 => (hq q118 hq0)) (hq (fun _ => hq0) hq0)))))))
            refine Run.ret ?_
            cases h
            refine ⟨_, _, by cbv, ?_, ?_⟩
            · exact LLe.r
            · exact (ALe.v LLe.r ALe.nil)
          · have h := if_f c114 h
            refine Run.skip ?_
            refine Run.seq ?_
            obtain ⟨r120, h_r120, h⟩ := bnd h
            obtain ⟨x121, h_x121, h⟩ := bnd h
            obtain ⟨r122, h_r122, h⟩ := bnd h
            refine Run.draw hL hT hM [(6, .call [false, false, false] [.v (.jk), .v (.jk), .v (.jk)] [.v (.s (.bool r120))]), (14, .el [.s (.int .i64 x121)]), (17, .call [false, false, false] [.v (.jk), .v (.jk), .v (.jk)] [.v (.s (.bool r122))])] (by cbv) (by cbv) (by cbv) (by cbv) (by cbv) ?_ ?_
            · exact (hq trivial (hq trivial (hq trivial (hq (by rw [show ln (eInt_c a0v_Cols) = lenI_Int a0v_Cols from ln_eq Int_c _]; exact (hC (spec_l1In_ac h_r120))) (hq (fun _ => hq0) (hq (fun g124 => (hq g124 (hq trivial hq0))) (hq (fun _ => hq0) (hq (fun g126 => (hq g126 (hq trivial hq0))) (hq (fun _ => hq0) (hq (fun g128 => (hq g128 (hq trivial hq0))) (hq (fun g129 => (hq g129 (hq g129 (hq (get_le (gd_t h_x121 g129)) (hq (get_lt (f := Int_c) (gd_t h_x121 g129)) (hq (get_ge (f := Int_c) (gd_t h_x121 g129)) hq0)))))) (hq (fun g130 => (hq g130 hq0)) (hq (fun g131 => (hq g131 (hq trivial hq0))) (hq (fun g132 => (hq g132 (hq g132 (hq (hC (spec_l1In_ac (gd_t h_r122 g132))) hq0)))) (hq (fun q133 => (hq q133 hq0)) (hq (fun _ => hq0) hq0))))))))))))))))
            rw [show ln (eInt_c a0v_Cols) = lenI_Int a0v_Cols from ln_eq Int_c _]
            refine Run.ret ?_
            cases h
            refine ⟨_, _, by cbv, ?_, ?_⟩
            · exact LLe.r
            · exact (ALe.v LLe.r ALe.nil)

set_option maxRecDepth 8000 in
theorem spec_KidsOf_ac {a0v_Schemav_Cols : List Int} {a0v_Version : Int} {a0v_Tables : List (List Row)} {a1v_Table : Int} {a1v_Where : List Cond} {a1v_Order : Int} {a1v_Down : Bool} {a1v_First : Int} {a1v_Show : List Int} {a1v_Kids : Bool} {a1v_KidTable : Int} {a1v_KidCol : Int} {a2 : Int} {r : Int} (h : spec_KidsOf.f (Store.mk (Schema.mk a0v_Schemav_Cols) a0v_Version a0v_Tables) (Query.mk a1v_Table a1v_Where a1v_Order a1v_Down a1v_First a1v_Show a1v_Kids a1v_KidTable a1v_KidCol) a2 = some r) : AC Tryd.prog 15 [.ag [.im false (rowsOf Int_c a0v_Schemav_Cols), .s (.int .i64 a0v_Version), .im false (rowsOf RowS_i a0v_Tables)], .ag [.s (.int .i64 a1v_Table), .im false (rowsOf Cond_c a1v_Where), .s (.int .i64 a1v_Order), .s (.bool a1v_Down), .s (.int .i64 a1v_First), .im false (rowsOf Int_c a1v_Show), .s (.bool a1v_Kids), .s (.int .i64 a1v_KidTable), .s (.int .i64 a1v_KidCol)], .v (.s (.int .i64 a2))] [.ag [.jk, .jk, .jk], .ag [.jk, .jk, .jk, .jk, .jk, .jk, .jk, .jk, .jk], .v (.jk)] [.v (.s (.int .i64 r))] := by
  unfold spec_KidsOf.f at h
  let ar := Ls.ar; let cm := Ls.cm; let bo := Ls.bo; let sc := Ls.sc; let sa := Ls.sa; let sx := Ls.sx; let ss := Ls.ss; let sl := Ls.sl; let bs := Ls.bs; let sb := Ls.sb; let ln := Ls.ln; let sr := Ls.sr; let ap := Ls.ap; let up := Ls.up; let rp := Ls.rp; let fr := Ls.fr; let ge := Ls.ge; let le := Ls.le; let lt := Ls.lt; let nz := Ls.nz; let mm := Ls.mm; let ma := Ls.ma; let sm := Ls.sm; let fl := Ls.fl; let al := Ls.al; let ci := Ls.ci
  let eCond_c := rowsOf Cond_c
  let eInt_c := rowsOf Int_c
  let eRowS_i := rowsOf RowS_i
  let eRow_i := rowsOf Row_i
  let lenI_Row := @lenI Row
  have hL : (⟨ar, cm, bo, sc, sa, sx, ss, sl, bs, sb, ln, sr, ap, up, rp, fr, ge, le, lt, nz, mm, ma, sm, fl, al, ci⟩ : Lf) = Ls := rfl
  show AC Tryd.prog 15 [.ag [.im false (eInt_c a0v_Schemav_Cols), .s (.int .i64 a0v_Version), .im false (eRowS_i a0v_Tables)], .ag [.s (.int .i64 a1v_Table), .im false (eCond_c a1v_Where), .s (.int .i64 a1v_Order), .s (.bool a1v_Down), .s (.int .i64 a1v_First), .im false (eInt_c a1v_Show), .s (.bool a1v_Kids), .s (.int .i64 a1v_KidTable), .s (.int .i64 a1v_KidCol)], .v (.s (.int .i64 a2))] _ _
  refine AC.of_run2 tab_ok Tryd.func15 (by rfl) (by rfl) (by cbv) ⟨by decide, rfl⟩ fun F hP hA => ?_
  have hT : TabOk F.P tab := hP ▸ tab_ok
  have hM : F.P.follows .mixedOrders = true := hP ▸ mixed
  have hC : ∀ {f a o r}, AC Tryd.prog f a o r → AC F.P f a o r := fun h => hP ▸ h
  refine Run.seq ?_
  refine Run.region hL hT [] (by cbv) ?_ ?_
  · exact hq0
  refine Run.seq ?_
  refine Run.region hL hT [] (by cbv) ?_ ?_
  · exact hq0
  refine Run.seq ?_
  refine Run.seq ?_
  obtain ⟨r1, h_r1, h⟩ := bnd h
  obtain ⟨r2, h_r2, h⟩ := bnd h
  refine Run.region hL hT [(1, .call [false] [.ag [.jk, .jk, .jk]] [.v (.s (.bool r1))]), (7, .call [false, false] [.ag [.jk], .ag [.jk, .jk, .jk, .jk, .jk, .jk, .jk, .jk, .jk]] [.v (.s (.bool r2))])] (by cbv) ?_ ?_
  · exact (hq trivial (hq (hC (spec_StoreOk_ac h_r1)) (hq (fun _ => hq0) (hq (fun g4 => (hq g4 (hq trivial hq0))) (hq (fun g5 => (hq trivial hq0)) (hq (fun g6 => (hq g6 (hq g6 (hq (hC (spec_QueryOk_ac (gd_t h_r2 g6))) hq0)))) (hq (fun g7 => (hq g7 hq0)) (hq (fun _ => hq0) (hq (fun q9 => (hq (bo_m q9) hq0)) (hq (fun _ => hq0) (hq (fun g11 => (hq g11 (hq trivial hq0))) (hq (fun g12 => (hq g12 hq0)) (hq (fun _ => hq0) (hq (fun q14 => (hq (bo_m q14) hq0)) hq0))))))))))))))
  refine Run.cond (by cbv) (hq0) (fun c15 => ?_) (fun c15 => ?_)
  · have h := if_t c15 h
    refine Run.seq ?_
    refine Run.region hL hT [] (by cbv) ?_ ?_
    · exact hq0
    refine Run.ret ?_
    cases h
    refine ⟨_, _, by cbv, ?_, ?_⟩
    · exact LLe.r
    · exact (ALe.v LLe.r ALe.nil)
  · have h := if_f c15 h
    refine Run.skip ?_
    refine Run.seq ?_
    obtain ⟨x16, h_x16, h⟩ := bnd h
    refine Run.region hL hT [(4, .el [.im false (eRow_i x16)])] (by cbv) ?_ ?_
    · exact (hq trivial (hq trivial (hq (get_le h_x16) (hq (get_lt (f := RowS_i) h_x16) (hq (get_ge (f := RowS_i) h_x16) hq0)))))
    refine Run.seq ?_
    refine Run.seq ?_
    refine Run.region hL hT [] (by cbv) ?_ ?_
    · exact hq0
    refine Run.block ?_
    refine Run.loop2 (fun (z30 : Int) (z31 : Int) => ⟨52, 100000, [(2, .t (.s (.int .i64 a2))), (4, .pt 1 0 0), (7, .t (.s (.int .i64 z30))), (8, .t (.im false (eRow_i x16))), (9, .t (.s (.int .i64 z31)))], [(1, .box 27 [.t (.s (.int .i64 a1v_Table)), .t (.im false (eCond_c a1v_Where)), .t (.s (.int .i64 a1v_Order)), .t (.s (.bool a1v_Down)), .t (.s (.int .i64 a1v_First)), .t (.im false (eInt_c a1v_Show)), .t (.s (.bool a1v_Kids)), .t (.s (.int .i64 a1v_KidTable)), .t (.s (.int .i64 a1v_KidCol))])]⟩) (x0 := 0) (x1 := 0) h (Weak.of _ [(1, 1)] hA (by cbv) ?_) (fun _ _ => rfl) ?_
    · repeat (first | exact hq0 | refine hq (by first | exact True.intro | rfl) ?_)
    · intro k z30 z31 h
      rw [spec_KidsOf.l0] at h
      refine Run.seq ?_
      refine Run.seq ?_
      refine Run.region hL hT [] (by cbv) ?_ ?_
      · exact (hq trivial hq0)
      rw [show ln (eRow_i x16) = lenI_Row x16 from ln_eq Row_i _]
      refine Run.cond (by cbv) (hq0) (fun c32 => ?_) (fun c32 => ?_)
      · have h := if_t c32 h
        refine Run.skip ?_
        refine Run.seq ?_
        refine Run.block ?_
        refine Run.seq ?_
        obtain ⟨⟨x33v_Id, x33v_Cells⟩, h_x33, h⟩ := bnd h
        obtain ⟨x34, h_x34, h⟩ := bnd h
        refine Run.draw hL hT hM [(2, .el [.s (.int .i64 x33v_Id), .im false (eInt_c x33v_Cells)]), (7, .el [.s (.int .i64 x34)])] (by cbv) (by cbv) (by cbv) (by cbv) (by cbv) ?_ ?_
        · exact (hq (get_le h_x33) (hq (get_lt (f := Row_i) h_x33) (hq (get_ge (f := Row_i) h_x33) (hq trivial (hq (get_le h_x34) (hq (get_lt (f := Int_c) h_x34) (hq (get_ge (f := Int_c) h_x34) (hq trivial hq0))))))))
        refine Run.cond (by cbv) (hq0) (fun c35 => ?_) (fun c35 => ?_)
        · have h := if_t c35 h
          refine Run.region hL hT [] (by cbv) ?_ ?_
          · exact (hq trivial hq0)
          refine Run.region hL hT [] (by cbv) ?_ ?_
          · exact (hq trivial hq0)
          refine ⟨(ar .add .i64 z30 1), (ar .add .i64 z31 1), h, Weak.of _ [(1, 1)] hA (by cbv) ?_⟩
          repeat (first | exact hq0 | refine hq (by first | exact True.intro | rfl) ?_)
        · have h := if_f c35 h
          refine Run.skip ?_
          refine Run.region hL hT [] (by cbv) ?_ ?_
          · exact (hq trivial hq0)
          refine ⟨z30, (ar .add .i64 z31 1), h, Weak.of _ [(1, 1)] hA (by cbv) ?_⟩
          repeat (first | exact hq0 | refine hq (by first | exact True.intro | rfl) ?_)
      · have h := if_f c32 h
        refine Run.exit ?_
        refine Run.seq ?_
        refine Run.region hL hT [] (by cbv) ?_ ?_
        · exact hq0
        refine Run.ret ?_
        cases h
        refine ⟨_, _, by cbv, ?_, ?_⟩
        · exact LLe.r
        · exact (ALe.v LLe.r ALe.nil)

set_option maxRecDepth 8000 in
theorem spec_l9DrawOne_ac {a0 : List Int} {r : Query × Row × Row} (h : spec_l9DrawOne.f a0 = some r) : AC Tryd.prog 48 [.v (.im true (rowsOf u8_c a0))] [.v (.jk)] [.ag [.s (.int .i64 r.1.Table), .ow 83 (rowsOf Cond_c r.1.Where), .s (.int .i64 r.1.Order), .s (.bool r.1.Down), .s (.int .i64 r.1.First), .ow 3 (rowsOf Int_c r.1.Show), .s (.bool r.1.Kids), .s (.int .i64 r.1.KidTable), .s (.int .i64 r.1.KidCol)], .ag [.s (.int .i64 r.2.1.Id), .ow 3 (rowsOf Int_c r.2.1.Cells)], .ag [.s (.int .i64 r.2.2.Id), .ow 3 (rowsOf Int_c r.2.2.Cells)]] := by
  unfold spec_l9DrawOne.f at h
  let ar := Ls.ar; let cm := Ls.cm; let bo := Ls.bo; let sc := Ls.sc; let sa := Ls.sa; let sx := Ls.sx; let ss := Ls.ss; let sl := Ls.sl; let bs := Ls.bs; let sb := Ls.sb; let ln := Ls.ln; let sr := Ls.sr; let ap := Ls.ap; let up := Ls.up; let rp := Ls.rp; let fr := Ls.fr; let ge := Ls.ge; let le := Ls.le; let lt := Ls.lt; let nz := Ls.nz; let mm := Ls.mm; let ma := Ls.ma; let sm := Ls.sm; let fl := Ls.fl; let al := Ls.al; let ci := Ls.ci
  let eCond_c := rowsOf Cond_c
  let eInt_c := rowsOf Int_c
  let eu8_c := rowsOf u8_c
  let lenI_Int := @lenI Int
  have hL : (⟨ar, cm, bo, sc, sa, sx, ss, sl, bs, sb, ln, sr, ap, up, rp, fr, ge, le, lt, nz, mm, ma, sm, fl, al, ci⟩ : Lf) = Ls := rfl
  show AC Tryd.prog 48 [.v (.im true (eu8_c a0))] _ _
  refine AC.of_run2 tab_ok Tryd.func48 (by rfl) (by rfl) (by cbv) ⟨by decide, rfl⟩ fun F hP hA => ?_
  have hT : TabOk F.P tab := hP ▸ tab_ok
  have hM : F.P.follows .mixedOrders = true := hP ▸ mixed
  have hC : ∀ {f a o r}, AC Tryd.prog f a o r → AC F.P f a o r := fun h => hP ▸ h
  refine Run.seq ?_
  refine Run.region hL hT [] (by cbv) ?_ ?_
  · exact hq0
  refine Run.seq ?_
  obtain ⟨⟨r1v_b, r1v_i, r1v_h⟩, h_r1, h⟩ := bnd h
  refine Run.region hL hT [(1, .call [true] [.v (.jk)] [.v (.bx 85 [.im true (eu8_c r1v_b), .s (.int .i64 r1v_i), .s (.int .i64 r1v_h)])])] (by cbv) ?_ ?_
  · exact (hq (hC (spec_l1New_ac h_r1)) hq0)
  refine Run.seq ?_
  obtain ⟨⟨⟨r2v_1v_b, r2v_1v_i, r2v_1v_h⟩, ⟨r2v_2v_Cols⟩⟩, h_r2, h⟩ := bnd h
  refine Run.region hL hT [(1, .call [true] [.v (.bx 85 [.im true (eu8_c r1v_b), .s (.int .i64 r2v_1v_i), .s (.int .i64 r2v_1v_h)])] [.ag [.ow 3 (eInt_c r2v_2v_Cols)]])] (by cbv) ?_ ?_
  · exact (hq (hC (spec_l6DrawSchema_ac h_r2)) (hq trivial hq0))
  refine Run.seq ?_
  obtain ⟨⟨⟨r3v_1v_b, r3v_1v_i, r3v_1v_h⟩, ⟨r3v_2v_Table, r3v_2v_Where, r3v_2v_Order, r3v_2v_Down, r3v_2v_First, r3v_2v_Show, r3v_2v_Kids, r3v_2v_KidTable, r3v_2v_KidCol⟩⟩, h_r3, h⟩ := bnd h
  refine Run.region hL hT [(2, .call [true, false] [.v (.bx 85 [.im true (eu8_c r1v_b), .s (.int .i64 r3v_1v_i), .s (.int .i64 r3v_1v_h)]), .ag [.jk]] [.ag [.s (.int .i64 r3v_2v_Table), .ow 83 (eCond_c r3v_2v_Where), .s (.int .i64 r3v_2v_Order), .s (.bool r3v_2v_Down), .s (.int .i64 r3v_2v_First), .ow 3 (eInt_c r3v_2v_Show), .s (.bool r3v_2v_Kids), .s (.int .i64 r3v_2v_KidTable), .s (.int .i64 r3v_2v_KidCol)]])] (by cbv) ?_ ?_
  · exact (hq trivial (hq (hC (AC.args (spec_l9Draw_ac h_r3) (ALe.v LLe.r (ALe.ag rfl (LLe.cons (LLe.im (RLe.eq (fr_row Int_c_z _))) LLe.nil) ALe.nil)))) (hq trivial hq0)))
  refine Run.seq ?_
  refine Run.region hL hT [] (by cbv) ?_ ?_
  · exact hq0
  obtain ⟨K5, h_K5, h⟩ := joinE h
  refine Run.join1 K5 (r := r) (fun (y4 : Int) => ⟨38, 100000, [(2, .pt 1 0 0), (3, .pt 2 0 0), (4, .pt 3 0 0), (5, .pt 4 0 0), (7, .pt 5 0 0), (8, .t (.s (.int .i64 y4)))], [(1, .box 27 [.t (.s (.int .i64 0)), .t (.s (.slice none 0 0)), .t (.s (.int .i64 0)), .t (.s (.bool false)), .t (.s (.int .i64 0)), .t (.s (.slice none 0 0)), .t (.s (.bool false)), .t (.s (.int .i64 0)), .t (.s (.int .i64 0))]), (2, .box 41 [.t (.s (.int .i64 0)), .t (.s (.slice none 0 0))]), (3, .box 41 [.t (.s (.int .i64 0)), .t (.s (.slice none 0 0))]), (4, .box 85 [.t (.im true (eu8_c r1v_b)), .t (.s (.int .i64 r3v_1v_i)), .t (.s (.int .i64 r3v_1v_h))]), (5, .box 27 [.t (.s (.int .i64 r3v_2v_Table)), .rf 6, .t (.s (.int .i64 r3v_2v_Order)), .t (.s (.bool r3v_2v_Down)), .t (.s (.int .i64 r3v_2v_First)), .rf 7, .t (.s (.bool r3v_2v_Kids)), .t (.s (.int .i64 r3v_2v_KidTable)), .t (.s (.int .i64 r3v_2v_KidCol))]), (6, .row 0 83 3 (eCond_c r3v_2v_Where)), (7, .row 0 3 1 (eInt_c r3v_2v_Show))]⟩) ?_ ?_
  · skip
    refine Run.seq ?_
    obtain ⟨r6, h_r6, h⟩ := bnd h
    refine Run.region hL hT [(6, .call [false, false, false] [.v (.jk), .v (.jk), .v (.jk)] [.v (.s (.bool r6))])] (by cbv) ?_ ?_
    · exact (hq trivial (hq trivial (hq trivial (hq (by rw [show ln (eInt_c r2v_2v_Cols) = lenI_Int r2v_2v_Cols from ln_eq Int_c _]; exact (hC (spec_l1In_ac h_r6))) hq0))))
    rw [show ln (eInt_c r2v_2v_Cols) = lenI_Int r2v_2v_Cols from ln_eq Int_c _]
    refine Run.cond (by cbv) (hq0) (fun c7 => ?_) (fun c7 => ?_)
    · have h := if_t c7 h
      obtain ⟨x8, h_x8, h⟩ := bnd h
      refine Run.region hL hT [(5, .el [.s (.int .i64 x8)])] (by cbv) ?_ ?_
      · exact (hq trivial (hq trivial (hq (get_le h_x8) (hq (get_lt (f := Int_c) h_x8) (hq (get_le h_x8) (hq (get_lt (f := Int_c) h_x8) (hq (get_ge (f := Int_c) h_x8) hq0)))))))
      refine ⟨x8, h, Weak.of _ [(1, 0), (2, 1), (3, 2), (4, 4097), (5, 12291), (6, 12290), (7, 12546)] hA (by cbv) ?_⟩
      repeat (first | exact hq0 | refine hq (by first | exact True.intro | rfl) ?_)
    · have h := if_f c7 h
      refine Run.skip ?_
      refine ⟨2, h, Weak.of _ [(1, 0), (2, 1), (3, 2), (4, 4097), (5, 12291), (6, 12290), (7, 12546)] hA (by cbv) ?_⟩
      repeat (first | exact hq0 | refine hq (by first | exact True.intro | rfl) ?_)
  · intro y4 h
    rw [h_K5] at h
    refine Run.seq ?_
    obtain ⟨⟨⟨r9v_1v_b, r9v_1v_i, r9v_1v_h⟩, ⟨r9v_2v_Id, r9v_2v_Cells⟩⟩, h_r9, h⟩ := bnd h
    refine Run.region hL hT [(2, .call [true, false] [.v (.bx 85 [.im true (eu8_c r1v_b), .s (.int .i64 r9v_1v_i), .s (.int .i64 r9v_1v_h)]), .v (.jk)] [.ag [.s (.int .i64 r9v_2v_Id), .ow 3 (eInt_c r9v_2v_Cells)]])] (by cbv) ?_ ?_
    · exact (hq (hC (spec_l6DrawRow_ac h_r9)) (hq trivial hq0))
    refine Run.seq ?_
    obtain ⟨⟨⟨r10v_1v_b, r10v_1v_i, r10v_1v_h⟩, ⟨r10v_2v_Id, r10v_2v_Cells⟩⟩, h_r10, h⟩ := bnd h
    refine Run.draw hL hT hM [(4, .call [true, false] [.v (.bx 85 [.im true (eu8_c r1v_b), .s (.int .i64 r10v_1v_i), .s (.int .i64 r10v_1v_h)]), .v (.jk)] [.ag [.s (.int .i64 r10v_2v_Id), .ow 3 (eInt_c r10v_2v_Cells)]])] (by cbv) (by cbv) (by cbv) (by cbv) (by cbv) ?_ ?_
    · exact (hq trivial (hq trivial (hq (hC (spec_l6DrawRow_ac h_r10)) (hq trivial (hq trivial (hq trivial hq0))))))
    refine Run.ret ?_
    cases h
    refine ⟨_, _, by cbv, ?_, ?_⟩
    · exact LLe.r
    · exact (ALe.ag rfl LLe.r (ALe.ag rfl LLe.r (ALe.ag rfl LLe.r ALe.nil)))

set_option maxRecDepth 8000 in
theorem spec_DrawRowDoc_ac {a0 : List Int} {r : Query × Row × Int} (h : spec_DrawRowDoc.f a0 = some r) : AC Tryd.prog 16 [.v (.im true (rowsOf u8_c a0))] [.v (.jk)] [.ag [.s (.int .i64 r.1.Table), .ow 83 (rowsOf Cond_c r.1.Where), .s (.int .i64 r.1.Order), .s (.bool r.1.Down), .s (.int .i64 r.1.First), .ow 3 (rowsOf Int_c r.1.Show), .s (.bool r.1.Kids), .s (.int .i64 r.1.KidTable), .s (.int .i64 r.1.KidCol)], .ag [.s (.int .i64 r.2.1.Id), .ow 3 (rowsOf Int_c r.2.1.Cells)], .v (.s (.int .i64 r.2.2))] := by
  unfold spec_DrawRowDoc.f at h
  let ar := Ls.ar; let cm := Ls.cm; let bo := Ls.bo; let sc := Ls.sc; let sa := Ls.sa; let sx := Ls.sx; let ss := Ls.ss; let sl := Ls.sl; let bs := Ls.bs; let sb := Ls.sb; let ln := Ls.ln; let sr := Ls.sr; let ap := Ls.ap; let up := Ls.up; let rp := Ls.rp; let fr := Ls.fr; let ge := Ls.ge; let le := Ls.le; let lt := Ls.lt; let nz := Ls.nz; let mm := Ls.mm; let ma := Ls.ma; let sm := Ls.sm; let fl := Ls.fl; let al := Ls.al; let ci := Ls.ci
  let eCond_c := rowsOf Cond_c
  let eInt_c := rowsOf Int_c
  let eu8_c := rowsOf u8_c
  have hL : (⟨ar, cm, bo, sc, sa, sx, ss, sl, bs, sb, ln, sr, ap, up, rp, fr, ge, le, lt, nz, mm, ma, sm, fl, al, ci⟩ : Lf) = Ls := rfl
  show AC Tryd.prog 16 [.v (.im true (eu8_c a0))] _ _
  refine AC.of_run2 tab_ok Tryd.func16 (by rfl) (by rfl) (by cbv) ⟨by decide, rfl⟩ fun F hP hA => ?_
  have hT : TabOk F.P tab := hP ▸ tab_ok
  have hM : F.P.follows .mixedOrders = true := hP ▸ mixed
  have hC : ∀ {f a o r}, AC Tryd.prog f a o r → AC F.P f a o r := fun h => hP ▸ h
  refine Run.seq ?_
  refine Run.region hL hT [] (by cbv) ?_ ?_
  · exact hq0
  refine Run.seq ?_
  obtain ⟨⟨⟨r1v_1v_Table, r1v_1v_Where, r1v_1v_Order, r1v_1v_Down, r1v_1v_First, r1v_1v_Show, r1v_1v_Kids, r1v_1v_KidTable, r1v_1v_KidCol⟩, ⟨r1v_2v_1v_Id, r1v_2v_1v_Cells⟩, ⟨r1v_2v_2v_Id, r1v_2v_2v_Cells⟩⟩, h_r1, h⟩ := bnd h
  refine Run.region hL hT [(1, .call [true] [.v (.jk)] [.ag [.s (.int .i64 r1v_1v_Table), .ow 83 (eCond_c r1v_1v_Where), .s (.int .i64 r1v_1v_Order), .s (.bool r1v_1v_Down), .s (.int .i64 r1v_1v_First), .ow 3 (eInt_c r1v_1v_Show), .s (.bool r1v_1v_Kids), .s (.int .i64 r1v_1v_KidTable), .s (.int .i64 r1v_1v_KidCol)], .ag [.s (.int .i64 r1v_2v_1v_Id), .ow 3 (eInt_c r1v_2v_1v_Cells)], .ag [.s (.int .i64 r1v_2v_2v_Id), .ow 3 (eInt_c r1v_2v_2v_Cells)]])] (by cbv) ?_ ?_
  · exact (hq (hC (spec_l9DrawOne_ac h_r1)) (hq trivial (hq trivial (hq trivial hq0))))
  refine Run.seq ?_
  obtain ⟨⟨r2v_b, r2v_i, r2v_h⟩, h_r2, h⟩ := bnd h
  refine Run.region hL hT [(1, .call [true] [.v (.jk)] [.v (.bx 85 [.im true (eu8_c r2v_b), .s (.int .i64 r2v_i), .s (.int .i64 r2v_h)])])] (by cbv) ?_ ?_
  · exact (hq (hC (spec_l1New_ac h_r2)) hq0)
  refine Run.seq ?_
  obtain ⟨l3, h_l3, h⟩ := bnd h
  obtain ⟨⟨⟨r4v_1v_b, r4v_1v_i, r4v_1v_h⟩, r4v_2⟩, h_r4, h⟩ := bnd h
  refine Run.draw hL hT hM [(4, .call [true, false] [.v (.bx 85 [.im true (eu8_c r2v_b), .s (.int .i64 r4v_1v_i), .s (.int .i64 r4v_1v_h)]), .v (.jk)] [.v (.s (.int .i64 r4v_2))])] (by cbv) (by cbv) (by cbv) (by cbv) (by cbv) ?_ ?_
  · exact (hq trivial (hq trivial (hq (hC (AC.args (spec_l1PickInt_ac h_r4) (ALe.v LLe.r (ALe.v (fr_lit rfl (some_le (f := Int_c) h_l3 (RLe.cons rfl LLe.r (RLe.cons rfl LLe.r (RLe.cons rfl LLe.r (RLe.cons rfl LLe.r RLe.nil)))))) ALe.nil)))) (hq trivial (hq trivial hq0)))))
  refine Run.row (rows := [[.s (.int .i64 0)], [.s (.int .i64 3)], [.s (.int .i64 1000000000)], [.s (.int .i64 1000000001)]]) 12291 (eInt_c l3) (by cbv) (some_le (f := Int_c) h_l3 (RLe.cons rfl LLe.r (RLe.cons rfl LLe.r (RLe.cons rfl LLe.r (RLe.cons rfl LLe.r RLe.nil))))) ?_
  refine Run.ret ?_
  cases h
  refine ⟨_, _, by cbv, ?_, ?_⟩
  · exact LLe.r
  · exact (ALe.ag rfl LLe.r (ALe.ag rfl LLe.r (ALe.v LLe.r ALe.nil)))

set_option maxRecDepth 8000 in
theorem spec_l11Num_ac {a0 : Int} {r : Json} (h : spec_l11Num.f a0 = some r) : AC Tryd.prog 36 [.v (.s (.int .i64 a0))] [.v (.jk)] [.ag [.s (.int .i64 r.Kind), .s (.int .i64 r.N), .s (.string r.S), .im true (rowsOf Json_k r.List_), .im true (rowsOf Str_c r.Names)]] := by
  unfold spec_l11Num.f at h
  let ar := Ls.ar; let cm := Ls.cm; let bo := Ls.bo; let sc := Ls.sc; let sa := Ls.sa; let sx := Ls.sx; let ss := Ls.ss; let sl := Ls.sl; let bs := Ls.bs; let sb := Ls.sb; let ln := Ls.ln; let sr := Ls.sr; let ap := Ls.ap; let up := Ls.up; let rp := Ls.rp; let fr := Ls.fr; let ge := Ls.ge; let le := Ls.le; let lt := Ls.lt; let nz := Ls.nz; let mm := Ls.mm; let ma := Ls.ma; let sm := Ls.sm; let fl := Ls.fl; let al := Ls.al; let ci := Ls.ci
  have hL : (⟨ar, cm, bo, sc, sa, sx, ss, sl, bs, sb, ln, sr, ap, up, rp, fr, ge, le, lt, nz, mm, ma, sm, fl, al, ci⟩ : Lf) = Ls := rfl
  show AC Tryd.prog 36 [.v (.s (.int .i64 a0))] _ _
  refine AC.of_run2 tab_ok Tryd.func36 (by rfl) (by rfl) (by cbv) ⟨by decide, rfl⟩ fun F hP hA => ?_
  have hT : TabOk F.P tab := hP ▸ tab_ok
  have hM : F.P.follows .mixedOrders = true := hP ▸ mixed
  have hC : ∀ {f a o r}, AC Tryd.prog f a o r → AC F.P f a o r := fun h => hP ▸ h
  refine Run.seq ?_
  refine Run.region hL hT [] (by cbv) ?_ ?_
  · exact hq0
  refine Run.seq ?_
  refine Run.region hL hT [] (by cbv) ?_ ?_
  · exact (hq trivial hq0)
  refine Run.ret ?_
  cases h
  refine ⟨_, _, by cbv, ?_, ?_⟩
  · exact LLe.r
  · exact (ALe.ag rfl (LLe.c (LLe.c (LLe.c (LLe.cons LLe.nilI (LLe.cons LLe.nilI LLe.nil))))) ALe.nil)

set_option maxRecDepth 8000 in
theorem spec_l1Put_ac {a0v_Kind : Int} {a0v_N : Int} {a0v_S : ByteArray} {a0v_List_ : List Json} {a0v_Names : List ByteArray} {a1 : ByteArray} {a2v_Kind : Int} {a2v_N : Int} {a2v_S : ByteArray} {a2v_List_ : List Json} {a2v_Names : List ByteArray} {r : Json} (h : spec_l1Put.f (Json.mk a0v_Kind a0v_N a0v_S a0v_List_ a0v_Names) a1 (Json.mk a2v_Kind a2v_N a2v_S a2v_List_ a2v_Names) = some r) : AC Tryd.prog 60 [.ag [.s (.int .i64 a0v_Kind), .s (.int .i64 a0v_N), .s (.string a0v_S), .im true (rowsOf Json_k a0v_List_), .im true (rowsOf Str_c a0v_Names)], .v (.s (.string a1)), .ag [.s (.int .i64 a2v_Kind), .s (.int .i64 a2v_N), .s (.string a2v_S), .im true (rowsOf Json_k a2v_List_), .im true (rowsOf Str_c a2v_Names)]] [.ag [.jk, .jk, .jk, .jk, .jk], .v (.jk), .ag [.jk, .jk, .jk, .jk, .jk]] [.ag [.s (.int .i64 r.Kind), .s (.int .i64 r.N), .s (.string r.S), .im true (rowsOf Json_k r.List_), .im true (rowsOf Str_c r.Names)]] := by
  unfold spec_l1Put.f at h
  let ar := Ls.ar; let cm := Ls.cm; let bo := Ls.bo; let sc := Ls.sc; let sa := Ls.sa; let sx := Ls.sx; let ss := Ls.ss; let sl := Ls.sl; let bs := Ls.bs; let sb := Ls.sb; let ln := Ls.ln; let sr := Ls.sr; let ap := Ls.ap; let up := Ls.up; let rp := Ls.rp; let fr := Ls.fr; let ge := Ls.ge; let le := Ls.le; let lt := Ls.lt; let nz := Ls.nz; let mm := Ls.mm; let ma := Ls.ma; let sm := Ls.sm; let fl := Ls.fl; let al := Ls.al; let ci := Ls.ci
  let eJson_k := rowsOf Json_k
  let eJson_o := rowsOf Json_o
  let eStr_c := rowsOf Str_c
  let lenI_Str := @lenI ByteArray
  have hL : (⟨ar, cm, bo, sc, sa, sx, ss, sl, bs, sb, ln, sr, ap, up, rp, fr, ge, le, lt, nz, mm, ma, sm, fl, al, ci⟩ : Lf) = Ls := rfl
  show AC Tryd.prog 60 [.ag [.s (.int .i64 a0v_Kind), .s (.int .i64 a0v_N), .s (.string a0v_S), .im true (eJson_k a0v_List_), .im true (eStr_c a0v_Names)], .v (.s (.string a1)), .ag [.s (.int .i64 a2v_Kind), .s (.int .i64 a2v_N), .s (.string a2v_S), .im true (eJson_k a2v_List_), .im true (eStr_c a2v_Names)]] _ _
  refine AC.of_run2 tab_ok Tryd.func60 (by rfl) (by rfl) (by cbv) ⟨by decide, rfl⟩ fun F hP hA => ?_
  have hT : TabOk F.P tab := hP ▸ tab_ok
  have hM : F.P.follows .mixedOrders = true := hP ▸ mixed
  have hC : ∀ {f a o r}, AC Tryd.prog f a o r → AC F.P f a o r := fun h => hP ▸ h
  refine Run.seq ?_
  refine Run.region hL hT [] (by cbv) ?_ ?_
  · exact hq0
  refine Run.seq ?_
  refine Run.region hL hT [] (by cbv) ?_ ?_
  · exact (hq trivial hq0)
  refine Run.seq ?_
  refine Run.region hL hT [] (by cbv) ?_ ?_
  · exact hq0
  obtain ⟨K4, h_K4, h⟩ := joinE h
  refine Run.join3 K4 (r := r) (fun (y1 : List Json) (y2 : List ByteArray) (y3 : Bool) => ⟨83, 100000, [(1, .t (.s (.string a1))), (5, .pt 1 0 0), (6, .pt 2 0 0), (7, .pt 3 0 0), (8, .t (.s (.bool y3)))], [(1, .box 34 [.t (.s (.int .i64 a2v_Kind)), .t (.s (.int .i64 a2v_N)), .t (.s (.string a2v_S)), .t (.im true (eJson_k a2v_List_)), .t (.im true (eStr_c a2v_Names))]), (2, .box 34 [.t (.s (.int .i64 0)), .t (.s (.int .i64 0)), .t (.s (.string ByteArray.empty)), .t (.s (.slice none 0 0)), .t (.s (.slice none 0 0))]), (3, .box 34 [.t (.s (.int .i64 5)), .t (.s (.int .i64 0)), .t (.s (.string ByteArray.empty)), .rf 4, .rf 5]), (4, .row 0 34 5 (eJson_k y1)), (5, .row 0 9 1 (eStr_c y2))]⟩) ?_ ?_
  · skip
    refine Run.seq ?_
    refine Run.region hL hT [] (by cbv) ?_ ?_
    · exact hq0
    refine Run.block ?_
    refine Run.loop4 (fun (z45 : List Json) (z46 : List ByteArray) (z47 : Bool) (z48 : Int) => ⟨83, 100000, [(1, .t (.s (.string a1))), (3, .pt 1 0 0), (5, .pt 2 0 0), (6, .pt 3 0 0), (7, .pt 4 0 0), (8, .t (.s (.bool z47))), (9, .t (.s (.int .i64 z48)))], [(1, .box 34 [.t (.s (.int .i64 a0v_Kind)), .t (.s (.int .i64 a0v_N)), .t (.s (.string a0v_S)), .t (.im true (eJson_k a0v_List_)), .t (.im true (eStr_c a0v_Names))]), (2, .box 34 [.t (.s (.int .i64 a2v_Kind)), .t (.s (.int .i64 a2v_N)), .t (.s (.string a2v_S)), .t (.im true (eJson_k a2v_List_)), .t (.im true (eStr_c a2v_Names))]), (3, .box 34 [.t (.s (.int .i64 0)), .t (.s (.int .i64 0)), .t (.s (.string ByteArray.empty)), .t (.s (.slice none 0 0)), .t (.s (.slice none 0 0))]), (4, .box 34 [.t (.s (.int .i64 5)), .t (.s (.int .i64 0)), .t (.s (.string ByteArray.empty)), .rf 5, .rf 6]), (5, .row 0 34 5 (eJson_k z45)), (6, .row 0 9 1 (eStr_c z46))]⟩) (x0 := []) (x1 := []) (x2 := false) (x3 := 0) h ((Weak.nilB (l := [.t (.s (.int .i64 5)), .t (.s (.int .i64 0)), .t (.s (.string ByteArray.empty))]) hT 4097 3 17384 34 rfl (by cbv) (by cbv) (by cbv)).trans ((Weak.nilB (l := [.t (.s (.int .i64 5)), .t (.s (.int .i64 0)), .t (.s (.string ByteArray.empty)), .rf 17384]) hT 4097 4 17385 9 rfl (by cbv) (by cbv) (by cbv)).trans (Weak.of _ [(1, 0), (2, 1), (3, 2), (4, 4097), (5, 17384), (6, 17385)] hA (by cbv) ?_))) (fun _ _ _ _ => rfl) ?_
    · repeat (first | exact hq0 | refine hq (by first | exact True.intro | rfl) ?_)
    · intro k z45 z46 z47 z48 h
      rw [spec_l1Put.l0] at h
      refine Run.seq ?_
      refine Run.seq ?_
      refine Run.region hL hT [] (by cbv) ?_ ?_
      · exact (hq trivial (hq trivial hq0))
      rw [show ln (eStr_c a0v_Names) = lenI_Str a0v_Names from ln_eq Str_c _]
      refine Run.cond (by cbv) (hq0) (fun c49 => ?_) (fun c49 => ?_)
      · have h := if_t c49 h
        refine Run.skip ?_
        refine Run.seq ?_
        refine Run.block ?_
        obtain ⟨K53, h_K53, h⟩ := joinE h
        refine Run.join3 K53 (r := r) (fun (y50 : List Json) (y51 : List ByteArray) (y52 : Bool) => ⟨83, 100000, [(1, .t (.s (.string a1))), (3, .pt 1 0 0), (5, .pt 2 0 0), (6, .pt 3 0 0), (7, .pt 4 0 0), (8, .t (.s (.bool y52))), (9, .t (.s (.int .i64 z48)))], [(1, .box 34 [.t (.s (.int .i64 a0v_Kind)), .t (.s (.int .i64 a0v_N)), .t (.s (.string a0v_S)), .t (.im true (eJson_k a0v_List_)), .t (.im true (eStr_c a0v_Names))]), (2, .box 34 [.t (.s (.int .i64 a2v_Kind)), .t (.s (.int .i64 a2v_N)), .t (.s (.string a2v_S)), .t (.im true (eJson_k a2v_List_)), .t (.im true (eStr_c a2v_Names))]), (3, .box 34 [.t (.s (.int .i64 0)), .t (.s (.int .i64 0)), .t (.s (.string ByteArray.empty)), .t (.s (.slice none 0 0)), .t (.s (.slice none 0 0))]), (4, .box 34 [.t (.s (.int .i64 5)), .t (.s (.int .i64 0)), .t (.s (.string ByteArray.empty)), .rf 5, .rf 6]), (5, .row 0 34 5 (eJson_k y50)), (6, .row 0 9 1 (eStr_c y51))]⟩) ?_ ?_
        · skip
          refine Run.seq ?_
          obtain ⟨x54, h_x54, h⟩ := bnd h
          refine Run.region hL hT [(6, .el [.s (.string x54)])] (by cbv) ?_ ?_
          · exact (hq (fun _ => hq0) (hq (fun g56 => (hq g56 (hq trivial hq0))) (hq (fun _ => hq0) (hq (fun g58 => (hq g58 (hq g58 (hq (get_le (gd_t h_x54 g58)) (hq (get_lt (f := Str_c) (gd_t h_x54 g58)) (hq (get_ge (f := Str_c) (gd_t h_x54 g58)) hq0)))))) (hq (fun g59 => (hq g59 hq0)) (hq (fun _ => hq0) (hq (fun g61 => (hq g61 (hq g61 hq0))) (hq (fun q62 => (hq q62 hq0)) (hq (fun _ => hq0) hq0)))))))))
          refine Run.cond (by cbv) (hq0) (fun c64 => ?_) (fun c64 => ?_)
          · have h := if_t c64 h
            refine Run.seq ?_
            obtain ⟨l65, h_l65, h⟩ := bnd h
            obtain ⟨l66, h_l66, h⟩ := bnd h
            refine Run.region hL hT [] (by cbv) ?_ ?_
            · exact (hq trivial (hq (app_mb (P := Tryd.prog) (f := Str_c) RLe.r (some_le (f := Str_c) h_l65 (RLe.cons rfl LLe.r RLe.nil)) h_l66) (hq trivial hq0)))
            refine Run.row (rows := (ap (eStr_c z46) ([[.s (.string a1)]]))) 108196 (eStr_c l66) (by cbv) (app_le (f := Str_c) RLe.r (some_le (f := Str_c) h_l65 (RLe.cons rfl LLe.r RLe.nil)) h_l66) ?_
            refine Run.seq ?_
            obtain ⟨l67, h_l67, h⟩ := bnd h
            obtain ⟨l68, h_l68, h⟩ := bnd h
            refine Run.region hL hT [] (by cbv) ?_ ?_
            · exact (hq trivial (hq trivial (hq (app_mb (P := Tryd.prog) (f := Json_k) RLe.r (some_leU Json_k_u h_l67 (RLe.cons rfl LLe.r RLe.nil)) h_l68) (hq trivial hq0))))
            refine Run.row (rows := (ap (eJson_k z45) ([[.s (.int .i64 a2v_Kind), .s (.int .i64 a2v_N), .s (.string a2v_S), .im true (eJson_k a2v_List_), .im true (eStr_c a2v_Names)]]))) 112292 (eJson_k l68) (by cbv) (app_le (f := Json_k) RLe.r (some_leU Json_k_u h_l67 (RLe.cons rfl LLe.r RLe.nil)) h_l68) ?_
            refine Run.region hL hT [] (by cbv) ?_ ?_
            · exact hq0
            refine ⟨l68, l66, true, h, Weak.of _ [(1, 1), (2, 2), (3, 3), (4, 4), (5, 112292), (6, 108196)] hA (by cbv) ?_⟩
            repeat (first | exact hq0 | refine hq (by first | exact True.intro | rfl) ?_)
          · have h := if_f c64 h
            refine Run.skip ?_
            refine ⟨z45, z46, z47, h, Weak.of _ [(1, 1), (2, 2), (3, 3), (4, 4), (5, 5), (6, 6)] hA (by cbv) ?_⟩
            repeat (first | exact hq0 | refine hq (by first | exact True.intro | rfl) ?_)
        · intro y50 y51 y52 h
          rw [h_K53] at h
          refine Run.seq ?_
          obtain ⟨x69, h_x69, h⟩ := bnd h
          refine Run.region hL hT [(3, .el [.s (.string x69)])] (by cbv) ?_ ?_
          · exact (hq trivial (hq (get_le h_x69) (hq (get_lt (f := Str_c) h_x69) (hq (get_ge (f := Str_c) h_x69) hq0))))
          refine Run.cond (by cbv) (hq0) (fun c70 => ?_) (fun c70 => ?_)
          · have h := if_t c70 h
            refine Run.seq ?_
            obtain ⟨l71, h_l71, h⟩ := bnd h
            obtain ⟨l72, h_l72, h⟩ := bnd h
            refine Run.draw hL hT hM [(5, .el [.s (.string x69)])] (by cbv) (by cbv) (by cbv) (by cbv) (by cbv) ?_ ?_
            · exact (hq trivial (hq trivial (hq (get_le h_x69) (hq (get_lt (f := Str_c) h_x69) (hq (get_ge (f := Str_c) h_x69) (hq (app_mb (P := Tryd.prog) (f := Str_c) RLe.r (some_le (f := Str_c) h_l71 (RLe.cons rfl LLe.r RLe.nil)) h_l72) (hq trivial hq0)))))))
            refine Run.row (rows := (ap (eStr_c y51) ([[.s (.string x69)]]))) 104104 (eStr_c l72) (by cbv) (app_le (f := Str_c) RLe.r (some_le (f := Str_c) h_l71 (RLe.cons rfl LLe.r RLe.nil)) h_l72) ?_
            obtain ⟨⟨x73v_Kind, x73v_N, x73v_S, x73v_List_, x73v_Names⟩, h_x73, h⟩ := bnd h
            obtain ⟨l74, h_l74, h⟩ := bnd h
            obtain ⟨l75, h_l75, h⟩ := bnd h
            refine Run.draw hL hT hM [(5, .el [.s (.int .i64 x73v_Kind), .s (.int .i64 x73v_N), .s (.string x73v_S), .im true (eJson_k x73v_List_), .im true (eStr_c x73v_Names)])] (by cbv) (by cbv) (by cbv) (by cbv) (by cbv) ?_ ?_
            · exact (hq trivial (hq trivial (hq (get_le h_x73) (hq (get_lt (f := Json_k) h_x73) (hq (get_geU Json_k_u h_x73) (hq (app_mb (P := Tryd.prog) (f := Json_k) RLe.r (some_leU Json_k_u h_l74 (RLe.cons rfl LLe.r RLe.nil)) h_l75) (hq trivial hq0)))))))
            refine Run.row (rows := (ap (eJson_k y50) ([[.s (.int .i64 x73v_Kind), .s (.int .i64 x73v_N), .s (.string x73v_S), .im true (eJson_k x73v_List_), .im true (eStr_c x73v_Names)]]))) 108200 (eJson_k l75) (by cbv) (app_le (f := Json_k) RLe.r (some_leU Json_k_u h_l74 (RLe.cons rfl LLe.r RLe.nil)) h_l75) ?_
            refine Run.region hL hT [] (by cbv) ?_ ?_
            · exact (hq trivial hq0)
            refine ⟨l75, l72, y52, (ar .add .i64 z48 1), h, Weak.of _ [(1, 1), (2, 2), (3, 3), (4, 4), (5, 108200), (6, 104104)] hA (by cbv) ?_⟩
            repeat (first | exact hq0 | refine hq (by first | exact True.intro | rfl) ?_)
          · have h := if_f c70 h
            refine Run.skip ?_
            refine Run.region hL hT [] (by cbv) ?_ ?_
            · exact (hq trivial hq0)
            refine ⟨y50, y51, y52, (ar .add .i64 z48 1), h, Weak.of _ [(1, 1), (2, 2), (3, 3), (4, 4), (5, 5), (6, 6)] hA (by cbv) ?_⟩
            repeat (first | exact hq0 | refine hq (by first | exact True.intro | rfl) ?_)
      · have h := if_f c49 h
        refine Run.exit ?_
        refine ⟨z45, z46, z47, h, Weak.of _ [(1, 2), (2, 3), (3, 4), (4, 5), (5, 6)] hA (by cbv) ?_⟩
        repeat (first | exact hq0 | refine hq (by first | exact True.intro | rfl) ?_)
  · intro y1 y2 y3 h
    rw [h_K4] at h
    refine Run.seq ?_
    refine Run.seq ?_
    refine Run.region hL hT [] (by cbv) ?_ ?_
    · exact hq0
    refine Run.cond (by cbv) (hq0) (fun c76 => ?_) (fun c76 => ?_)
    · have h := if_t c76 h
      refine Run.seq ?_
      obtain ⟨l77, h_l77, h⟩ := bnd h
      obtain ⟨l78, h_l78, h⟩ := bnd h
      refine Run.region hL hT [] (by cbv) ?_ ?_
      · exact (hq trivial (hq (app_mb (P := Tryd.prog) (f := Str_c) RLe.r (some_le (f := Str_c) h_l77 (RLe.cons rfl LLe.r RLe.nil)) h_l78) (hq trivial hq0)))
      refine Run.row (rows := (ap (eStr_c y2) ([[.s (.string a1)]]))) 104100 (eStr_c l78) (by cbv) (app_le (f := Str_c) RLe.r (some_le (f := Str_c) h_l77 (RLe.cons rfl LLe.r RLe.nil)) h_l78) ?_
      obtain ⟨l79, h_l79, h⟩ := bnd h
      obtain ⟨l80, h_l80, h⟩ := bnd h
      refine Run.region hL hT [] (by cbv) ?_ ?_
      · exact (hq trivial (hq trivial (hq (app_mb (P := Tryd.prog) (f := Json_k) RLe.r (some_leU Json_k_u h_l79 (RLe.cons rfl LLe.r RLe.nil)) h_l80) (hq trivial hq0))))
      refine Run.row (rows := (ap (eJson_k y1) ([[.s (.int .i64 a2v_Kind), .s (.int .i64 a2v_N), .s (.string a2v_S), .im true (eJson_k a2v_List_), .im true (eStr_c a2v_Names)]]))) 108196 (eJson_k l80) (by cbv) (app_le (f := Json_k) RLe.r (some_leU Json_k_u h_l79 (RLe.cons rfl LLe.r RLe.nil)) h_l80) ?_
      refine Run.seq ?_
      refine Run.region hL hT [] (by cbv) ?_ ?_
      · exact (hq trivial (hq trivial hq0))
      refine Run.weak ?_ (Weak.keepL (rows := eJson_k l80) 108196 (by cbv) (eJson_k l80) (Json_k_kv _))
      refine Run.weak ?_ (Weak.keep (rows := eStr_c l78) 104100 (by cbv) (eStr_c l78) (fr_row Str_c_z _))
      refine Run.ret ?_
      cases h
      refine ⟨_, _, by cbv, ?_, ?_⟩
      · exact LLe.r
      · exact (ALe.ag rfl LLe.r ALe.nil)
    · have h := if_f c76 h
      refine Run.skip ?_
      refine Run.seq ?_
      refine Run.region hL hT [] (by cbv) ?_ ?_
      · exact (hq trivial (hq trivial hq0))
      refine Run.weak ?_ (Weak.keepL (rows := eJson_k y1) 4 (by cbv) (eJson_k y1) (Json_k_kv _))
      refine Run.weak ?_ (Weak.keep (rows := eStr_c y2) 5 (by cbv) (eStr_c y2) (fr_row Str_c_z _))
      refine Run.ret ?_
      cases h
      refine ⟨_, _, by cbv, ?_, ?_⟩
      · exact LLe.r
      · exact (ALe.ag rfl LLe.r ALe.nil)

set_option maxRecDepth 8000 in
theorem spec_l2Digits_ac {a0 : Int} {r : ByteArray} (h : spec_l2Digits.f a0 = some r) : AC Tryd.prog 61 [.v (.s (.int .i64 a0))] [.v (.jk)] [.v (.s (.string r))] := by
  unfold spec_l2Digits.f at h
  let ar := Ls.ar; let cm := Ls.cm; let bo := Ls.bo; let sc := Ls.sc; let sa := Ls.sa; let sx := Ls.sx; let ss := Ls.ss; let sl := Ls.sl; let bs := Ls.bs; let sb := Ls.sb; let ln := Ls.ln; let sr := Ls.sr; let ap := Ls.ap; let up := Ls.up; let rp := Ls.rp; let fr := Ls.fr; let ge := Ls.ge; let le := Ls.le; let lt := Ls.lt; let nz := Ls.nz; let mm := Ls.mm; let ma := Ls.ma; let sm := Ls.sm; let fl := Ls.fl; let al := Ls.al; let ci := Ls.ci
  let eu8_c := rowsOf u8_c
  have hL : (⟨ar, cm, bo, sc, sa, sx, ss, sl, bs, sb, ln, sr, ap, up, rp, fr, ge, le, lt, nz, mm, ma, sm, fl, al, ci⟩ : Lf) = Ls := rfl
  show AC Tryd.prog 61 [.v (.s (.int .i64 a0))] _ _
  refine AC.of_run2 tab_ok Tryd.func61 (by rfl) (by rfl) (by cbv) ⟨by decide, rfl⟩ fun F hP hA => ?_
  have hT : TabOk F.P tab := hP ▸ tab_ok
  have hM : F.P.follows .mixedOrders = true := hP ▸ mixed
  have hC : ∀ {f a o r}, AC Tryd.prog f a o r → AC F.P f a o r := fun h => hP ▸ h
  refine Run.seq ?_
  refine Run.region hL hT [] (by cbv) ?_ ?_
  · exact hq0
  refine Run.seq ?_
  refine Run.seq ?_
  refine Run.region hL hT [] (by cbv) ?_ ?_
  · exact (hq trivial hq0)
  refine Run.cond (by cbv) (hq0) (fun c1 => ?_) (fun c1 => ?_)
  · have h := if_t c1 h
    refine Run.seq ?_
    refine Run.region hL hT [] (by cbv) ?_ ?_
    · exact hq0
    refine Run.ret ?_
    cases h
    refine ⟨_, _, by cbv, ?_, ?_⟩
    · exact LLe.r
    · exact (ALe.v LLe.r ALe.nil)
  · have h := if_f c1 h
    refine Run.skip ?_
    refine Run.seq ?_
    refine Run.region hL hT [] (by cbv) ?_ ?_
    · exact (hq trivial hq0)
    refine Run.seq ?_
    refine Run.region hL hT [] (by cbv) ?_ ?_
    · exact hq0
    obtain ⟨K4, h_K4, h⟩ := joinE h
    refine Run.join2 K4 (r := r) (fun (y2 : Bool) (y3 : ByteArray) => ⟨31, 100000, [(3, .t (.s (.bool y2))), (4, .t (.s (.string y3)))], []⟩) ?_ ?_
    · skip
      refine Run.block ?_
      refine Run.loop3 (fun (z8 : Int) (z9 : Bool) (z10 : ByteArray) => ⟨31, 100000, [(0, .t (.s (.int .i64 z8))), (3, .t (.s (.bool z9))), (4, .t (.s (.string z10)))], []⟩) (x0 := a0) (x1 := (cm .lss a0 0)) (x2 := (ByteArray.mk #[])) h (Weak.of _ [] hA (by cbv) ?_) (fun _ _ _ => rfl) ?_
      · repeat (first | exact hq0 | refine hq (by first | exact True.intro | rfl) ?_)
      · intro k z8 z9 z10 h
        rw [spec_l2Digits.l0] at h
        refine Run.seq ?_
        refine Run.seq ?_
        refine Run.region hL hT [] (by cbv) ?_ ?_
        · exact (hq trivial hq0)
        refine Run.cond (by cbv) (hq0) (fun c11 => ?_) (fun c11 => ?_)
        · have h := if_t c11 h
          refine Run.skip ?_
          refine Run.block ?_
          refine Run.seq ?_
          refine Run.region hL hT [] (by cbv) ?_ ?_
          · exact (hq trivial (hq (show Ls.nz 10 from (by decide : (10 : Int) ≠ 0)) hq0))
          refine Run.seq ?_
          refine Run.seq ?_
          refine Run.region hL hT [] (by cbv) ?_ ?_
          · exact (hq trivial hq0)
          refine Run.cond (by cbv) (hq0) (fun c12 => ?_) (fun c12 => ?_)
          · have h := if_t c12 h
            refine Run.region hL hT [] (by cbv) ?_ ?_
            · exact (hq trivial hq0)
            refine Run.seq ?_
            obtain ⟨l13, h_l13, h⟩ := bnd h
            obtain ⟨s14, h_s14, h⟩ := bnd h
            obtain ⟨u15, h_u15, h⟩ := bnd h
            refine Run.region hL hT [(4, .hd [116387] (.t (.s (.string s14))) [])] (by cbv) ?_ ?_
            · exact (hq trivial (hq (hand_conv (ns := [(IntKind.wrap .u8 (w64 (48 + (w64 (0 - (Int.tmod z8 10))))))]) hT (by rfl) (by rfl) (by rfl) (by rfl) (by rfl) (by rfl) (by rfl) (conv_lit h_l13 h_s14)) (hq (sm_t h_u15) hq0)))
            refine Run.row (rows := [[.s (.int .u8 (ar .or .u8 (ar .add .i64 48 (ar .sub .i64 0 (ar .rem .i64 z8 10))) 0))]]) 116387 (eu8_c l13) (by cbv) (some_le (f := u8_c) h_l13 (RLe.cons rfl LLe.r RLe.nil)) ?_
            refine Run.region hL hT [] (by cbv) ?_ ?_
            · exact (hq trivial (hq (show Ls.nz 10 from (by decide : (10 : Int) ≠ 0)) hq0))
            refine ⟨(ar .quo .i64 z8 10), z9, (sa s14 z10), h, Weak.of _ [] hA (by cbv) ?_⟩
            repeat (first | exact hq0 | refine hq (by first | exact True.intro | rfl) ?_)
          · have h := if_f c12 h
            refine Run.skip ?_
            refine Run.seq ?_
            obtain ⟨l16, h_l16, h⟩ := bnd h
            obtain ⟨s17, h_s17, h⟩ := bnd h
            obtain ⟨u18, h_u18, h⟩ := bnd h
            refine Run.region hL hT [(4, .hd [112291] (.t (.s (.string s17))) [])] (by cbv) ?_ ?_
            · exact (hq trivial (hq (hand_conv (ns := [(IntKind.wrap .u8 (w64 (48 + (Int.tmod z8 10))))]) hT (by rfl) (by rfl) (by rfl) (by rfl) (by rfl) (by rfl) (by rfl) (conv_lit h_l16 h_s17)) (hq (sm_t h_u18) hq0)))
            refine Run.row (rows := [[.s (.int .u8 (ar .or .u8 (ar .add .i64 48 (ar .rem .i64 z8 10)) 0))]]) 112291 (eu8_c l16) (by cbv) (some_le (f := u8_c) h_l16 (RLe.cons rfl LLe.r RLe.nil)) ?_
            refine Run.region hL hT [] (by cbv) ?_ ?_
            · exact (hq trivial (hq (show Ls.nz 10 from (by decide : (10 : Int) ≠ 0)) hq0))
            refine ⟨(ar .quo .i64 z8 10), z9, (sa s17 z10), h, Weak.of _ [] hA (by cbv) ?_⟩
            repeat (first | exact hq0 | refine hq (by first | exact True.intro | rfl) ?_)
        · have h := if_f c11 h
          refine Run.exit ?_
          refine ⟨z9, z10, h, Weak.of _ [] hA (by cbv) ?_⟩
          repeat (first | exact hq0 | refine hq (by first | exact True.intro | rfl) ?_)
    · intro y2 y3 h
      rw [h_K4] at h
      refine Run.seq ?_
      refine Run.seq ?_
      refine Run.region hL hT [] (by cbv) ?_ ?_
      · exact hq0
      refine Run.cond (by cbv) (hq0) (fun c19 => ?_) (fun c19 => ?_)
      · have h := if_t c19 h
        refine Run.seq ?_
        obtain ⟨u20, h_u20, h⟩ := bnd h
        refine Run.region hL hT [] (by cbv) ?_ ?_
        · exact (hq (sm_t h_u20) hq0)
        refine Run.ret ?_
        cases h
        refine ⟨_, _, by cbv, ?_, ?_⟩
        · exact LLe.r
        · exact (ALe.v LLe.r ALe.nil)
      · have h := if_f c19 h
        refine Run.skip ?_
        refine Run.seq ?_
        refine Run.region hL hT [] (by cbv) ?_ ?_
        · exact hq0
        refine Run.ret ?_
        cases h
        refine ⟨_, _, by cbv, ?_, ?_⟩
        · exact LLe.r
        · exact (ALe.v LLe.r ALe.nil)

set_option maxRecDepth 8000 in
theorem spec_l9Cell_ac {a0v_Id : Int} {a0v_Cells : List Int} {a1 : Int} {r : Int} (h : spec_l9Cell.f (Row.mk a0v_Id a0v_Cells) a1 = some r) : AC Tryd.prog 62 [.ag [.s (.int .i64 a0v_Id), .im false (rowsOf Int_c a0v_Cells)], .v (.s (.int .i64 a1))] [.ag [.jk, .jk], .v (.jk)] [.v (.s (.int .i64 r))] := by
  unfold spec_l9Cell.f at h
  let ar := Ls.ar; let cm := Ls.cm; let bo := Ls.bo; let sc := Ls.sc; let sa := Ls.sa; let sx := Ls.sx; let ss := Ls.ss; let sl := Ls.sl; let bs := Ls.bs; let sb := Ls.sb; let ln := Ls.ln; let sr := Ls.sr; let ap := Ls.ap; let up := Ls.up; let rp := Ls.rp; let fr := Ls.fr; let ge := Ls.ge; let le := Ls.le; let lt := Ls.lt; let nz := Ls.nz; let mm := Ls.mm; let ma := Ls.ma; let sm := Ls.sm; let fl := Ls.fl; let al := Ls.al; let ci := Ls.ci
  let eInt_c := rowsOf Int_c
  let lenI_Int := @lenI Int
  have hL : (⟨ar, cm, bo, sc, sa, sx, ss, sl, bs, sb, ln, sr, ap, up, rp, fr, ge, le, lt, nz, mm, ma, sm, fl, al, ci⟩ : Lf) = Ls := rfl
  show AC Tryd.prog 62 [.ag [.s (.int .i64 a0v_Id), .im false (eInt_c a0v_Cells)], .v (.s (.int .i64 a1))] _ _
  refine AC.of_run2 tab_ok Tryd.func62 (by rfl) (by rfl) (by cbv) ⟨by decide, rfl⟩ fun F hP hA => ?_
  have hT : TabOk F.P tab := hP ▸ tab_ok
  have hM : F.P.follows .mixedOrders = true := hP ▸ mixed
  have hC : ∀ {f a o r}, AC Tryd.prog f a o r → AC F.P f a o r := fun h => hP ▸ h
  refine Run.seq ?_
  refine Run.region hL hT [] (by cbv) ?_ ?_
  · exact hq0
  refine Run.seq ?_
  refine Run.seq ?_
  obtain ⟨r1, h_r1, h⟩ := bnd h
  refine Run.region hL hT [(5, .call [false, false, false] [.v (.jk), .v (.jk), .v (.jk)] [.v (.s (.bool r1))])] (by cbv) ?_ ?_
  · exact (hq trivial (hq trivial (hq (by rw [show ln (eInt_c a0v_Cells) = lenI_Int a0v_Cells from ln_eq Int_c _]; exact (hC (spec_l1In_ac h_r1))) hq0)))
  rw [show ln (eInt_c a0v_Cells) = lenI_Int a0v_Cells from ln_eq Int_c _]
  refine Run.cond (by cbv) (hq0) (fun c2 => ?_) (fun c2 => ?_)
  · have h := if_t c2 h
    refine Run.seq ?_
    refine Run.region hL hT [] (by cbv) ?_ ?_
    · exact hq0
    refine Run.ret ?_
    cases h
    refine ⟨_, _, by cbv, ?_, ?_⟩
    · exact LLe.r
    · exact (ALe.v LLe.r ALe.nil)
  · have h := if_f c2 h
    refine Run.skip ?_
    refine Run.seq ?_
    obtain ⟨x3, h_x3, h⟩ := bnd h
    refine Run.region hL hT [(3, .el [.s (.int .i64 x3)])] (by cbv) ?_ ?_
    · exact (hq trivial (hq (get_le h_x3) (hq (get_lt (f := Int_c) h_x3) (hq (get_ge (f := Int_c) h_x3) hq0))))
    refine Run.ret ?_
    cases h
    refine ⟨_, _, by cbv, ?_, ?_⟩
    · exact LLe.r
    · exact (ALe.v LLe.r ALe.nil)

set_option maxRecDepth 8000 in
theorem spec_l11Row_ac {a0v_Table : Int} {a0v_Where : List Cond} {a0v_Order : Int} {a0v_Down : Bool} {a0v_First : Int} {a0v_Show : List Int} {a0v_Kids : Bool} {a0v_KidTable : Int} {a0v_KidCol : Int} {a1v_Id : Int} {a1v_Cells : List Int} {a2 : Int} {r : Json} (h : spec_l11Row.f (Query.mk a0v_Table a0v_Where a0v_Order a0v_Down a0v_First a0v_Show a0v_Kids a0v_KidTable a0v_KidCol) (Row.mk a1v_Id a1v_Cells) a2 = some r) : AC Tryd.prog 34 [.ag [.s (.int .i64 a0v_Table), .im false (rowsOf Cond_c a0v_Where), .s (.int .i64 a0v_Order), .s (.bool a0v_Down), .s (.int .i64 a0v_First), .im false (rowsOf Int_c a0v_Show), .s (.bool a0v_Kids), .s (.int .i64 a0v_KidTable), .s (.int .i64 a0v_KidCol)], .ag [.s (.int .i64 a1v_Id), .im false (rowsOf Int_c a1v_Cells)], .v (.s (.int .i64 a2))] [.ag [.jk, .jk, .jk, .jk, .jk, .jk, .jk, .jk, .jk], .ag [.jk, .jk], .v (.jk)] [.ag [.s (.int .i64 r.Kind), .s (.int .i64 r.N), .s (.string r.S), .im true (rowsOf Json_k r.List_), .im true (rowsOf Str_c r.Names)]] := by
  unfold spec_l11Row.f at h
  let ar := Ls.ar; let cm := Ls.cm; let bo := Ls.bo; let sc := Ls.sc; let sa := Ls.sa; let sx := Ls.sx; let ss := Ls.ss; let sl := Ls.sl; let bs := Ls.bs; let sb := Ls.sb; let ln := Ls.ln; let sr := Ls.sr; let ap := Ls.ap; let up := Ls.up; let rp := Ls.rp; let fr := Ls.fr; let ge := Ls.ge; let le := Ls.le; let lt := Ls.lt; let nz := Ls.nz; let mm := Ls.mm; let ma := Ls.ma; let sm := Ls.sm; let fl := Ls.fl; let al := Ls.al; let ci := Ls.ci
  let eCond_c := rowsOf Cond_c
  let eInt_c := rowsOf Int_c
  let eJson_k := rowsOf Json_k
  let eStr_c := rowsOf Str_c
  let lenI_Int := @lenI Int
  have hL : (⟨ar, cm, bo, sc, sa, sx, ss, sl, bs, sb, ln, sr, ap, up, rp, fr, ge, le, lt, nz, mm, ma, sm, fl, al, ci⟩ : Lf) = Ls := rfl
  show AC Tryd.prog 34 [.ag [.s (.int .i64 a0v_Table), .im false (eCond_c a0v_Where), .s (.int .i64 a0v_Order), .s (.bool a0v_Down), .s (.int .i64 a0v_First), .im false (eInt_c a0v_Show), .s (.bool a0v_Kids), .s (.int .i64 a0v_KidTable), .s (.int .i64 a0v_KidCol)], .ag [.s (.int .i64 a1v_Id), .im false (eInt_c a1v_Cells)], .v (.s (.int .i64 a2))] _ _
  refine AC.of_run2 tab_ok Tryd.func34 (by rfl) (by rfl) (by cbv) ⟨by decide, rfl⟩ fun F hP hA => ?_
  have hT : TabOk F.P tab := hP ▸ tab_ok
  have hM : F.P.follows .mixedOrders = true := hP ▸ mixed
  have hC : ∀ {f a o r}, AC Tryd.prog f a o r → AC F.P f a o r := fun h => hP ▸ h
  refine Run.seq ?_
  refine Run.region hL hT [] (by cbv) ?_ ?_
  · exact hq0
  refine Run.seq ?_
  refine Run.region hL hT [] (by cbv) ?_ ?_
  · exact (hq trivial hq0)
  obtain ⟨K6, h_K6, h⟩ := joinE h
  refine Run.join5 K6 (r := r) (fun (y1 : Int) (y2 : Int) (y3 : ByteArray) (y4 : List Json) (y5 : List ByteArray) => ⟨46, 100000, [(2, .t (.s (.int .i64 a2))), (3, .pt 1 0 0), (4, .pt 2 0 0), (6, .pt 3 0 0), (7, .pt 4 0 0)], [(1, .box 27 [.t (.s (.int .i64 a0v_Table)), .t (.im false (eCond_c a0v_Where)), .t (.s (.int .i64 a0v_Order)), .t (.s (.bool a0v_Down)), .t (.s (.int .i64 a0v_First)), .t (.im false (eInt_c a0v_Show)), .t (.s (.bool a0v_Kids)), .t (.s (.int .i64 a0v_KidTable)), .t (.s (.int .i64 a0v_KidCol))]), (2, .box 41 [.t (.s (.int .i64 a1v_Id)), .t (.im false (eInt_c a1v_Cells))]), (3, .box 34 [.t (.s (.int .i64 0)), .t (.s (.int .i64 0)), .t (.s (.string ByteArray.empty)), .t (.s (.slice none 0 0)), .t (.s (.slice none 0 0))]), (4, .box 34 [.t (.s (.int .i64 y1)), .t (.s (.int .i64 y2)), .t (.s (.string y3)), .t (.im true (eJson_k y4)), .t (.im true (eStr_c y5))])]⟩) ?_ ?_
  · skip
    refine Run.seq ?_
    refine Run.region hL hT [] (by cbv) ?_ ?_
    · exact hq0
    refine Run.block ?_
    refine Run.loop6 (fun (z47 : Int) (z48 : Int) (z49 : ByteArray) (z50 : List Json) (z51 : List ByteArray) (z52 : Int) => ⟨46, 100000, [(2, .t (.s (.int .i64 a2))), (3, .pt 1 0 0), (4, .pt 2 0 0), (6, .pt 3 0 0), (7, .pt 4 0 0), (8, .t (.s (.int .i64 z52)))], [(1, .box 27 [.t (.s (.int .i64 a0v_Table)), .t (.im false (eCond_c a0v_Where)), .t (.s (.int .i64 a0v_Order)), .t (.s (.bool a0v_Down)), .t (.s (.int .i64 a0v_First)), .t (.im false (eInt_c a0v_Show)), .t (.s (.bool a0v_Kids)), .t (.s (.int .i64 a0v_KidTable)), .t (.s (.int .i64 a0v_KidCol))]), (2, .box 41 [.t (.s (.int .i64 a1v_Id)), .t (.im false (eInt_c a1v_Cells))]), (3, .box 34 [.t (.s (.int .i64 0)), .t (.s (.int .i64 0)), .t (.s (.string ByteArray.empty)), .t (.s (.slice none 0 0)), .t (.s (.slice none 0 0))]), (4, .box 34 [.t (.s (.int .i64 z47)), .t (.s (.int .i64 z48)), .t (.s (.string z49)), .t (.im true (eJson_k z50)), .t (.im true (eStr_c z51))])]⟩) (x0 := 5) (x1 := 0) (x2 := ByteArray.empty) (x3 := []) (x4 := []) (x5 := 0) h ((Weak.cellB (l := [.t (.s (.int .i64 5)), .t (.s (.int .i64 0)), .t (.s (.string ByteArray.empty))]) (y := .im true (eJson_k [])) 4097 (by cbv) LLe.nilI).trans ((Weak.cellB (l := [.t (.s (.int .i64 5)), .t (.s (.int .i64 0)), .t (.s (.string ByteArray.empty)), .t (.im true (eJson_k []))]) (y := .im true (eStr_c [])) 4097 (by cbv) LLe.nilI).trans (Weak.of _ [(1, 0), (2, 1), (3, 2), (4, 4097)] hA (by cbv) ?_))) (fun _ _ _ _ _ _ => rfl) ?_
    · repeat (first | exact hq0 | refine hq (by first | exact True.intro | rfl) ?_)
    · intro k z47 z48 z49 z50 z51 z52 h
      rw [spec_l11Row.l0] at h
      refine Run.seq ?_
      refine Run.seq ?_
      refine Run.region hL hT [] (by cbv) ?_ ?_
      · exact (hq trivial (hq trivial hq0))
      rw [show ln (eInt_c a0v_Show) = lenI_Int a0v_Show from ln_eq Int_c _]
      refine Run.cond (by cbv) (hq0) (fun c53 => ?_) (fun c53 => ?_)
      · have h := if_t c53 h
        refine Run.skip ?_
        refine Run.seq ?_
        refine Run.block ?_
        obtain ⟨x54, h_x54, h⟩ := bnd h
        obtain ⟨r55, h_r55, h⟩ := bnd h
        obtain ⟨u56, h_u56, h⟩ := bnd h
        obtain ⟨r57, h_r57, h⟩ := bnd h
        obtain ⟨⟨r58v_Kind, r58v_N, r58v_S, r58v_List_, r58v_Names⟩, h_r58, h⟩ := bnd h
        obtain ⟨⟨r59v_Kind, r59v_N, r59v_S, r59v_List_, r59v_Names⟩, h_r59, h⟩ := bnd h
        refine Run.draw hL hT hM [(4, .el [.s (.int .i64 x54)]), (6, .call [false] [.v (.jk)] [.v (.s (.string r55))]), (12, .el [.s (.int .i64 x54)]), (14, .call [false, false] [.ag [.jk, .jk], .v (.jk)] [.v (.s (.int .i64 r57))]), (15, .call [false] [.v (.jk)] [.ag [.s (.int .i64 r58v_Kind), .s (.int .i64 r58v_N), .s (.string r58v_S), .im true (eJson_k r58v_List_), .im true (eStr_c r58v_Names)]]), (16, .call [true, false, true] [.ag [.jk, .jk, .jk, .jk, .jk], .v (.jk), .ag [.jk, .jk, .jk, .jk, .jk]] [.ag [.s (.int .i64 r59v_Kind), .s (.int .i64 r59v_N), .s (.string r59v_S), .im true (eJson_k r59v_List_), .im true (eStr_c r59v_Names)]])] (by cbv) (by cbv) (by cbv) (by cbv) (by cbv) ?_ ?_
        · exact (hq trivial (hq trivial (hq (get_le h_x54) (hq (get_lt (f := Int_c) h_x54) (hq (get_ge (f := Int_c) h_x54) (hq (hC (spec_l2Digits_ac h_r55)) (hq (sm_t h_u56) (hq trivial (hq trivial (hq (get_le h_x54) (hq (get_lt (f := Int_c) h_x54) (hq (get_ge (f := Int_c) h_x54) (hq (hC (spec_l9Cell_ac h_r57)) (hq (hC (spec_l11Num_ac h_r58)) (hq (hC (spec_l1Put_ac h_r59)) (hq trivial hq0))))))))))))))))
        refine Run.region hL hT [] (by cbv) ?_ ?_
        · exact (hq trivial hq0)
        refine ⟨r59v_Kind, r59v_N, r59v_S, r59v_List_, r59v_Names, (ar .add .i64 z52 1), h, Weak.of _ [(1, 1), (2, 2), (3, 3), (4, 4)] hA (by cbv) ?_⟩
        repeat (first | exact hq0 | refine hq (by first | exact True.intro | rfl) ?_)
      · have h := if_f c53 h
        refine Run.exit ?_
        refine ⟨z47, z48, z49, z50, z51, h, Weak.of _ [(1, 1), (2, 2), (3, 3), (4, 4)] hA (by cbv) ?_⟩
        repeat (first | exact hq0 | refine hq (by first | exact True.intro | rfl) ?_)
  · intro y1 y2 y3 y4 y5 h
    rw [h_K6] at h
    refine Run.seq ?_
    obtain ⟨⟨r60v_Kind, r60v_N, r60v_S, r60v_List_, r60v_Names⟩, h_r60, h⟩ := bnd h
    obtain ⟨⟨r61v_Kind, r61v_N, r61v_S, r61v_List_, r61v_Names⟩, h_r61, h⟩ := bnd h
    refine Run.draw hL hT hM [(3, .call [false] [.v (.jk)] [.ag [.s (.int .i64 r60v_Kind), .s (.int .i64 r60v_N), .s (.string r60v_S), .im true (eJson_k r60v_List_), .im true (eStr_c r60v_Names)]]), (4, .call [true, false, true] [.ag [.jk, .jk, .jk, .jk, .jk], .v (.jk), .ag [.jk, .jk, .jk, .jk, .jk]] [.ag [.s (.int .i64 r61v_Kind), .s (.int .i64 r61v_N), .s (.string r61v_S), .im true (eJson_k r61v_List_), .im true (eStr_c r61v_Names)]])] (by cbv) (by cbv) (by cbv) (by cbv) (by cbv) ?_ ?_
    · exact (hq trivial (hq trivial (hq (hC (spec_l11Num_ac h_r60)) (hq (hC (spec_l1Put_ac h_r61)) (hq trivial hq0)))))
    refine Run.seq ?_
    refine Run.seq ?_
    refine Run.region hL hT [] (by cbv) ?_ ?_
    · exact (hq trivial hq0)
    refine Run.cond (by cbv) (hq0) (fun c62 => ?_) (fun c62 => ?_)
    · have h := if_t c62 h
      obtain ⟨⟨r63v_Kind, r63v_N, r63v_S, r63v_List_, r63v_Names⟩, h_r63, h⟩ := bnd h
      obtain ⟨⟨r64v_Kind, r64v_N, r64v_S, r64v_List_, r64v_Names⟩, h_r64, h⟩ := bnd h
      refine Run.draw hL hT hM [(2, .call [false] [.v (.jk)] [.ag [.s (.int .i64 r63v_Kind), .s (.int .i64 r63v_N), .s (.string r63v_S), .im true (eJson_k r63v_List_), .im true (eStr_c r63v_Names)]]), (3, .call [true, false, true] [.ag [.jk, .jk, .jk, .jk, .jk], .v (.jk), .ag [.jk, .jk, .jk, .jk, .jk]] [.ag [.s (.int .i64 r64v_Kind), .s (.int .i64 r64v_N), .s (.string r64v_S), .im true (eJson_k r64v_List_), .im true (eStr_c r64v_Names)]])] (by cbv) (by cbv) (by cbv) (by cbv) (by cbv) ?_ ?_
      · exact (hq trivial (hq (hC (spec_l11Num_ac h_r63)) (hq (hC (spec_l1Put_ac h_r64)) (hq trivial hq0))))
      refine Run.seq ?_
      refine Run.region hL hT [] (by cbv) ?_ ?_
      · exact (hq trivial (hq trivial hq0))
      refine Run.ret ?_
      cases h
      refine ⟨_, _, by cbv, ?_, ?_⟩
      · exact LLe.r
      · exact (ALe.ag rfl LLe.r ALe.nil)
    · have h := if_f c62 h
      refine Run.skip ?_
      refine Run.seq ?_
      refine Run.region hL hT [] (by cbv) ?_ ?_
      · exact (hq trivial (hq trivial hq0))
      refine Run.ret ?_
      cases h
      refine ⟨_, _, by cbv, ?_, ?_⟩
      · exact LLe.r
      · exact (ALe.ag rfl LLe.r ALe.nil)

set_option maxRecDepth 8000 in
theorem spec_l1Text_ac {a0 : ByteArray} {r : Bool} (h : spec_l1Text.f a0 = some r) : AC Tryd.prog 97 [.v (.s (.string a0))] [.v (.jk)] [.v (.s (.bool r))] := by
  unfold spec_l1Text.f at h
  let ar := Ls.ar; let cm := Ls.cm; let bo := Ls.bo; let sc := Ls.sc; let sa := Ls.sa; let sx := Ls.sx; let ss := Ls.ss; let sl := Ls.sl; let bs := Ls.bs; let sb := Ls.sb; let ln := Ls.ln; let sr := Ls.sr; let ap := Ls.ap; let up := Ls.up; let rp := Ls.rp; let fr := Ls.fr; let ge := Ls.ge; let le := Ls.le; let lt := Ls.lt; let nz := Ls.nz; let mm := Ls.mm; let ma := Ls.ma; let sm := Ls.sm; let fl := Ls.fl; let al := Ls.al; let ci := Ls.ci
  have hL : (⟨ar, cm, bo, sc, sa, sx, ss, sl, bs, sb, ln, sr, ap, up, rp, fr, ge, le, lt, nz, mm, ma, sm, fl, al, ci⟩ : Lf) = Ls := rfl
  show AC Tryd.prog 97 [.v (.s (.string a0))] _ _
  refine AC.of_run2 tab_ok Tryd.func97 (by rfl) (by rfl) (by cbv) ⟨by decide, rfl⟩ fun F hP hA => ?_
  have hT : TabOk F.P tab := hP ▸ tab_ok
  have hM : F.P.follows .mixedOrders = true := hP ▸ mixed
  have hC : ∀ {f a o r}, AC Tryd.prog f a o r → AC F.P f a o r := fun h => hP ▸ h
  refine Run.seq ?_
  refine Run.region hL hT [] (by cbv) ?_ ?_
  · exact hq0
  refine Run.seq ?_
  refine Run.seq ?_
  refine Run.region hL hT [] (by cbv) ?_ ?_
  · exact hq0
  refine Run.block ?_
  refine Run.loop1 (fun (z3 : Int) => ⟨23, 100000, [(0, .t (.s (.string a0))), (3, .t (.s (.int .i64 z3)))], []⟩) (x0 := 0) h (Weak.of _ [] hA (by cbv) ?_) (fun _ => rfl) ?_
  · repeat (first | exact hq0 | refine hq (by first | exact True.intro | rfl) ?_)
  · intro k z3 h
    rw [spec_l1Text.l0] at h
    refine Run.seq ?_
    refine Run.seq ?_
    refine Run.region hL hT [] (by cbv) ?_ ?_
    · exact (hq trivial hq0)
    refine Run.cond (by cbv) (hq0) (fun c4 => ?_) (fun c4 => ?_)
    · have h := if_t c4 h
      refine Run.skip ?_
      refine Run.seq ?_
      refine Run.block ?_
      refine Run.seq ?_
      obtain ⟨u5, h_u5, h⟩ := bnd h
      obtain ⟨u6, h_u6, h⟩ := bnd h
      refine Run.region hL hT [] (by cbv) ?_ ?_
      · exact (hq (inS_0 h_u5) (hq (inS_1 h_u5) (hq trivial (hq (fun _ => hq0) (hq (fun _ => hq0) (hq (fun g9 => (hq g9 (hq g9 (hq (inS_0 (gd_t h_u6 g9)) (hq (inS_1 (gd_t h_u6 g9)) hq0))))) (hq (fun g10 => (hq g10 (hq trivial hq0))) (hq (fun _ => hq0) (hq (fun q12 => (hq (bo_m q12) hq0)) hq0)))))))))
      refine Run.cond (by cbv) (hq0) (fun c13 => ?_) (fun c13 => ?_)
      · have h := if_t c13 h
        refine Run.seq ?_
        refine Run.region hL hT [] (by cbv) ?_ ?_
        · exact hq0
        refine Run.ret ?_
        cases h
        refine ⟨_, _, by cbv, ?_, ?_⟩
        · exact LLe.r
        · exact (ALe.v LLe.r ALe.nil)
      · have h := if_f c13 h
        refine Run.skip ?_
        refine Run.region hL hT [] (by cbv) ?_ ?_
        · exact (hq trivial hq0)
        refine ⟨(ar .add .i64 z3 1), h, Weak.of _ [] hA (by cbv) ?_⟩
        repeat (first | exact hq0 | refine hq (by first | exact True.intro | rfl) ?_)
    · have h := if_f c4 h
      refine Run.exit ?_
      refine Run.seq ?_
      refine Run.region hL hT [] (by cbv) ?_ ?_
      · exact (hq trivial hq0)
      refine Run.ret ?_
      cases h
      refine ⟨_, _, by cbv, ?_, ?_⟩
      · exact LLe.r
      · exact (ALe.v LLe.r ALe.nil)

set_option maxRecDepth 8000 in
theorem spec_l1Names_ac {a0v_Kind : Int} {a0v_N : Int} {a0v_S : ByteArray} {a0v_List_ : List Json} {a0v_Names : List ByteArray} {r : Bool} (h : spec_l1Names.f (Json.mk a0v_Kind a0v_N a0v_S a0v_List_ a0v_Names) = some r) : AC Tryd.prog 98 [.ag [.s (.int .i64 a0v_Kind), .s (.int .i64 a0v_N), .s (.string a0v_S), .im false (rowsOf Json_i a0v_List_), .im false (rowsOf Str_c a0v_Names)]] [.ag [.jk, .jk, .jk, .jk, .jk]] [.v (.s (.bool r))] := by
  unfold spec_l1Names.f at h
  let ar := Ls.ar; let cm := Ls.cm; let bo := Ls.bo; let sc := Ls.sc; let sa := Ls.sa; let sx := Ls.sx; let ss := Ls.ss; let sl := Ls.sl; let bs := Ls.bs; let sb := Ls.sb; let ln := Ls.ln; let sr := Ls.sr; let ap := Ls.ap; let up := Ls.up; let rp := Ls.rp; let fr := Ls.fr; let ge := Ls.ge; let le := Ls.le; let lt := Ls.lt; let nz := Ls.nz; let mm := Ls.mm; let ma := Ls.ma; let sm := Ls.sm; let fl := Ls.fl; let al := Ls.al; let ci := Ls.ci
  let eJson_i := rowsOf Json_i
  let eStr_c := rowsOf Str_c
  let lenI_Json := @lenI Json
  let lenI_Str := @lenI ByteArray
  have hL : (⟨ar, cm, bo, sc, sa, sx, ss, sl, bs, sb, ln, sr, ap, up, rp, fr, ge, le, lt, nz, mm, ma, sm, fl, al, ci⟩ : Lf) = Ls := rfl
  show AC Tryd.prog 98 [.ag [.s (.int .i64 a0v_Kind), .s (.int .i64 a0v_N), .s (.string a0v_S), .im false (eJson_i a0v_List_), .im false (eStr_c a0v_Names)]] _ _
  refine AC.of_run2 tab_ok Tryd.func98 (by rfl) (by rfl) (by cbv) ⟨by decide, rfl⟩ fun F hP hA => ?_
  have hT : TabOk F.P tab := hP ▸ tab_ok
  have hM : F.P.follows .mixedOrders = true := hP ▸ mixed
  have hC : ∀ {f a o r}, AC Tryd.prog f a o r → AC F.P f a o r := fun h => hP ▸ h
  refine Run.seq ?_
  refine Run.region hL hT [] (by cbv) ?_ ?_
  · exact hq0
  refine Run.seq ?_
  refine Run.seq ?_
  refine Run.region hL hT [] (by cbv) ?_ ?_
  · exact (hq trivial (hq trivial hq0))
  refine Run.cond (by cbv) (hq0) (fun c1 => ?_) (fun c1 => ?_)
  · have h := if_t c1 h
    refine Run.seq ?_
    refine Run.region hL hT [] (by cbv) ?_ ?_
    · exact (hq trivial (hq trivial hq0))
    rw [show ln (eStr_c a0v_Names) = lenI_Str a0v_Names from ln_eq Str_c _]
    refine Run.ret ?_
    cases h
    refine ⟨_, _, by cbv, ?_, ?_⟩
    · exact LLe.r
    · exact (ALe.v LLe.r ALe.nil)
  · have h := if_f c1 h
    refine Run.skip ?_
    refine Run.seq ?_
    refine Run.seq ?_
    refine Run.region hL hT [] (by cbv) ?_ ?_
    · exact hq0
    refine Run.block ?_
    refine Run.loop1 (fun (z8 : Int) => ⟨50, 100000, [(1, .pt 1 0 0), (3, .t (.s (.int .i64 z8)))], [(1, .box 34 [.t (.s (.int .i64 a0v_Kind)), .t (.s (.int .i64 a0v_N)), .t (.s (.string a0v_S)), .t (.im false (eJson_i a0v_List_)), .t (.im false (eStr_c a0v_Names))])]⟩) (x0 := 0) h (Weak.of _ [(1, 0)] hA (by cbv) ?_) (fun _ => rfl) ?_
    · repeat (first | exact hq0 | refine hq (by first | exact True.intro | rfl) ?_)
    · intro k z8 h
      rw [spec_l1Names.l0] at h
      refine Run.seq ?_
      refine Run.seq ?_
      refine Run.region hL hT [] (by cbv) ?_ ?_
      · exact (hq trivial (hq trivial hq0))
      rw [show ln (eStr_c a0v_Names) = lenI_Str a0v_Names from ln_eq Str_c _]
      refine Run.cond (by cbv) (hq0) (fun c9 => ?_) (fun c9 => ?_)
      · have h := if_t c9 h
        refine Run.skip ?_
        refine Run.seq ?_
        refine Run.block ?_
        refine Run.seq ?_
        obtain ⟨x10, h_x10, h⟩ := bnd h
        obtain ⟨r11, h_r11, h⟩ := bnd h
        obtain ⟨x12, h_x12, h⟩ := bnd h
        refine Run.draw hL hT hM [(3, .el [.s (.string x10)]), (5, .call [false] [.v (.jk)] [.v (.s (.bool r11))]), (15, .el [.s (.string x12)]), (20, .el [.s (.string x10)])] (by cbv) (by cbv) (by cbv) (by cbv) (by cbv) ?_ ?_
        · exact (hq trivial (hq (get_le h_x10) (hq (get_lt (f := Str_c) h_x10) (hq (get_ge (f := Str_c) h_x10) (hq (hC (spec_l1Text_ac h_r11)) (hq (fun _ => hq0) (hq (fun g14 => (hq g14 (hq trivial hq0))) (hq (fun g15 => (hq g15 hq0)) (hq (fun _ => hq0) (hq (fun g17 => (hq g17 (hq trivial hq0))) (hq (fun _ => hq0) (hq (fun g19 => (hq g19 (hq trivial hq0))) (hq (fun g20 => (hq g20 (hq g20 (hq (get_le (gd_t h_x12 g20)) (hq (get_lt (f := Str_c) (gd_t h_x12 g20)) (hq (get_ge (f := Str_c) (gd_t h_x12 g20)) hq0)))))) (hq (fun g21 => (hq g21 hq0)) (hq (fun _ => hq0) (hq (fun g23 => (hq g23 (hq trivial hq0))) (hq (fun _ => hq0) (hq (fun g25 => (hq g25 (hq g25 (hq (get_le h_x10) (hq (get_lt (f := Str_c) h_x10) (hq (get_ge (f := Str_c) h_x10) hq0)))))) (hq (fun g26 => (hq g26 hq0)) (hq (fun g27 => (hq g27 (hq g27 hq0))) (hq (fun g28 => (hq g28 (hq (fun q29 => (hq (bo_a g28 q29) hq0)) (hq (fun _ => hq0) hq0)))) (hq (fun _ => hq0) (hq (fun q32 => (hq (bo_m q32) hq0)) hq0)))))))))))))))))))))))
        refine Run.cond (by cbv) (hq0) (fun c33 => ?_) (fun c33 => ?_)
        · have h := if_t c33 h
          refine Run.seq ?_
          refine Run.region hL hT [] (by cbv) ?_ ?_
          · exact hq0
          refine Run.ret ?_
          cases h
          refine ⟨_, _, by cbv, ?_, ?_⟩
          · exact LLe.r
          · exact (ALe.v LLe.r ALe.nil)
        · have h := if_f c33 h
          refine Run.skip ?_
          refine Run.region hL hT [] (by cbv) ?_ ?_
          · exact (hq trivial hq0)
          refine ⟨(ar .add .i64 z8 1), h, Weak.of _ [(1, 1)] hA (by cbv) ?_⟩
          repeat (first | exact hq0 | refine hq (by first | exact True.intro | rfl) ?_)
      · have h := if_f c9 h
        refine Run.exit ?_
        refine Run.seq ?_
        refine Run.region hL hT [] (by cbv) ?_ ?_
        · exact (hq trivial (hq trivial (hq trivial hq0)))
        rw [show ln (eJson_i a0v_List_) = lenI_Json a0v_List_ from ln_eq Json_i _]
        rw [show ln (eStr_c a0v_Names) = lenI_Str a0v_Names from ln_eq Str_c _]
        refine Run.ret ?_
        cases h
        refine ⟨_, _, by cbv, ?_, ?_⟩
        · exact LLe.r
        · exact (ALe.v LLe.r ALe.nil)

set_option maxRecDepth 8000 in
theorem spec_l1Great_acs (self : Json → Int → Option Int) (hself : ∀ {a0v_Kind : Int} {a0v_N : Int} {a0v_S : ByteArray} {a0v_List_ : List Json} {a0v_Names : List ByteArray} {a1 : Int} {r : Int} (h : self (Json.mk a0v_Kind a0v_N a0v_S a0v_List_ a0v_Names) a1 = some r), AC Tryd.prog 85 [.ag [.s (.int .i64 a0v_Kind), .s (.int .i64 a0v_N), .s (.string a0v_S), .im false (rowsOf Json_i a0v_List_), .im false (rowsOf Str_c a0v_Names)], .v (.s (.int .i64 a1))] [.ag [.jk, .jk, .jk, .jk, .jk], .v (.jk)] [.v (.s (.int .i64 r))]) {a0v_Kind : Int} {a0v_N : Int} {a0v_S : ByteArray} {a0v_List_ : List Json} {a0v_Names : List ByteArray} {a1 : Int} {r : Int} (h : spec_l1Great.b self (Json.mk a0v_Kind a0v_N a0v_S a0v_List_ a0v_Names) a1 = some r) : AC Tryd.prog 85 [.ag [.s (.int .i64 a0v_Kind), .s (.int .i64 a0v_N), .s (.string a0v_S), .im false (rowsOf Json_i a0v_List_), .im false (rowsOf Str_c a0v_Names)], .v (.s (.int .i64 a1))] [.ag [.jk, .jk, .jk, .jk, .jk], .v (.jk)] [.v (.s (.int .i64 r))] := by
  unfold spec_l1Great.b at h
  let ar := Ls.ar; let cm := Ls.cm; let bo := Ls.bo; let sc := Ls.sc; let sa := Ls.sa; let sx := Ls.sx; let ss := Ls.ss; let sl := Ls.sl; let bs := Ls.bs; let sb := Ls.sb; let ln := Ls.ln; let sr := Ls.sr; let ap := Ls.ap; let up := Ls.up; let rp := Ls.rp; let fr := Ls.fr; let ge := Ls.ge; let le := Ls.le; let lt := Ls.lt; let nz := Ls.nz; let mm := Ls.mm; let ma := Ls.ma; let sm := Ls.sm; let fl := Ls.fl; let al := Ls.al; let ci := Ls.ci
  let eJson_i := rowsOf Json_i
  let eStr_c := rowsOf Str_c
  let lenI_Json := @lenI Json
  have hL : (⟨ar, cm, bo, sc, sa, sx, ss, sl, bs, sb, ln, sr, ap, up, rp, fr, ge, le, lt, nz, mm, ma, sm, fl, al, ci⟩ : Lf) = Ls := rfl
  show AC Tryd.prog 85 [.ag [.s (.int .i64 a0v_Kind), .s (.int .i64 a0v_N), .s (.string a0v_S), .im false (eJson_i a0v_List_), .im false (eStr_c a0v_Names)], .v (.s (.int .i64 a1))] _ _
  refine AC.of_run2 tab_ok Tryd.func85 (by rfl) (by rfl) (by cbv) ⟨by decide, rfl⟩ fun F hP hA => ?_
  have hT : TabOk F.P tab := hP ▸ tab_ok
  have hM : F.P.follows .mixedOrders = true := hP ▸ mixed
  have hC : ∀ {f a o r}, AC Tryd.prog f a o r → AC F.P f a o r := fun h => hP ▸ h
  refine Run.seq ?_
  refine Run.region hL hT [] (by cbv) ?_ ?_
  · exact hq0
  refine Run.seq ?_
  refine Run.region hL hT [] (by cbv) ?_ ?_
  · exact hq0
  refine Run.seq ?_
  refine Run.seq ?_
  refine Run.region hL hT [] (by cbv) ?_ ?_
  · exact (hq trivial hq0)
  refine Run.cond (by cbv) (hq0) (fun c1 => ?_) (fun c1 => ?_)
  · have h := if_t c1 h
    refine Run.seq ?_
    refine Run.region hL hT [] (by cbv) ?_ ?_
    · exact hq0
    refine Run.ret ?_
    cases h
    refine ⟨_, _, by cbv, ?_, ?_⟩
    · exact LLe.r
    · exact (ALe.v LLe.r ALe.nil)
  · have h := if_f c1 h
    refine Run.skip ?_
    refine Run.seq ?_
    refine Run.region hL hT [] (by cbv) ?_ ?_
    · exact hq0
    obtain ⟨K3, h_K3, h⟩ := joinE h
    refine Run.join1 K3 (r := r) (fun (y2 : Int) => ⟨106, 100000, [(2, .pt 1 0 0), (5, .t (.s (.int .i64 401))), (6, .t (.s (.int .i64 y2)))], [(1, .box 34 [.t (.s (.int .i64 a0v_Kind)), .t (.s (.int .i64 a0v_N)), .t (.s (.string a0v_S)), .t (.im false (eJson_i a0v_List_)), .t (.im false (eStr_c a0v_Names))])]⟩) ?_ ?_
    · skip
      refine Run.seq ?_
      refine Run.region hL hT [] (by cbv) ?_ ?_
      · exact (hq trivial hq0)
      refine Run.block ?_
      refine Run.seq ?_
      refine Run.region hL hT [] (by cbv) ?_ ?_
      · exact (hq trivial hq0)
      refine Run.cond (by cbv) (hq0) (fun c4 => ?_) (fun c4 => ?_)
      · have h := if_t c4 h
        refine Run.seq ?_
        refine Run.region hL hT [] (by cbv) ?_ ?_
        · exact (hq trivial (hq trivial hq0))
        refine Run.cond (by cbv) (hq0) (fun c5 => ?_) (fun c5 => ?_)
        · have h := if_t c5 h
          refine Run.seq ?_
          refine Run.region hL hT [] (by cbv) ?_ ?_
          · exact hq0
          refine Run.ret ?_
          cases h
          refine ⟨_, _, by cbv, ?_, ?_⟩
          · exact LLe.r
          · exact (ALe.v LLe.r ALe.nil)
        · have h := if_f c5 h
          refine Run.skip ?_
          refine ⟨1, h, Weak.of _ [(1, 0)] hA (by cbv) ?_⟩
          repeat (first | exact hq0 | refine hq (by first | exact True.intro | rfl) ?_)
      · have h := if_f c4 h
        refine Run.seq ?_
        refine Run.region hL hT [] (by cbv) ?_ ?_
        · exact (hq trivial hq0)
        refine Run.cond (by cbv) (hq0) (fun c6 => ?_) (fun c6 => ?_)
        · have h := if_t c6 h
          refine Run.seq ?_
          obtain ⟨r7, h_r7, h⟩ := bnd h
          refine Run.region hL hT [(2, .call [false, false, false] [.v (.jk), .v (.jk), .v (.jk)] [.v (.s (.bool r7))])] (by cbv) ?_ ?_
          · exact (hq trivial (hq (hC (spec_l1In_ac h_r7)) hq0))
          refine Run.cond (by cbv) (hq0) (fun c8 => ?_) (fun c8 => ?_)
          · have h := if_t c8 h
            refine Run.seq ?_
            refine Run.region hL hT [] (by cbv) ?_ ?_
            · exact hq0
            refine Run.ret ?_
            cases h
            refine ⟨_, _, by cbv, ?_, ?_⟩
            · exact LLe.r
            · exact (ALe.v LLe.r ALe.nil)
          · have h := if_f c8 h
            refine Run.skip ?_
            refine ⟨1, h, Weak.of _ [(1, 0)] hA (by cbv) ?_⟩
            repeat (first | exact hq0 | refine hq (by first | exact True.intro | rfl) ?_)
        · have h := if_f c6 h
          refine Run.seq ?_
          refine Run.region hL hT [] (by cbv) ?_ ?_
          · exact (hq trivial hq0)
          refine Run.cond (by cbv) (hq0) (fun c9 => ?_) (fun c9 => ?_)
          · have h := if_t c9 h
            refine Run.seq ?_
            obtain ⟨r10, h_r10, h⟩ := bnd h
            refine Run.region hL hT [(2, .call [false, false, false] [.v (.jk), .v (.jk), .v (.jk)] [.v (.s (.bool r10))])] (by cbv) ?_ ?_
            · exact (hq trivial (hq (hC (spec_l1In_ac h_r10)) hq0))
            refine Run.cond (by cbv) (hq0) (fun c11 => ?_) (fun c11 => ?_)
            · have h := if_t c11 h
              refine Run.seq ?_
              refine Run.region hL hT [] (by cbv) ?_ ?_
              · exact hq0
              refine Run.ret ?_
              cases h
              refine ⟨_, _, by cbv, ?_, ?_⟩
              · exact LLe.r
              · exact (ALe.v LLe.r ALe.nil)
            · have h := if_f c11 h
              refine Run.skip ?_
              refine ⟨1, h, Weak.of _ [(1, 0)] hA (by cbv) ?_⟩
              repeat (first | exact hq0 | refine hq (by first | exact True.intro | rfl) ?_)
          · have h := if_f c9 h
            refine Run.seq ?_
            refine Run.region hL hT [] (by cbv) ?_ ?_
            · exact (hq trivial hq0)
            refine Run.cond (by cbv) (hq0) (fun c12 => ?_) (fun c12 => ?_)
            · have h := if_t c12 h
              refine Run.seq ?_
              obtain ⟨r13, h_r13, h⟩ := bnd h
              refine Run.region hL hT [(2, .call [false] [.v (.jk)] [.v (.s (.bool r13))])] (by cbv) ?_ ?_
              · exact (hq trivial (hq (hC (spec_l1Text_ac h_r13)) hq0))
              refine Run.cond (by cbv) (hq0) (fun c14 => ?_) (fun c14 => ?_)
              · have h := if_t c14 h
                refine Run.seq ?_
                refine Run.region hL hT [] (by cbv) ?_ ?_
                · exact hq0
                refine Run.ret ?_
                cases h
                refine ⟨_, _, by cbv, ?_, ?_⟩
                · exact LLe.r
                · exact (ALe.v LLe.r ALe.nil)
              · have h := if_f c14 h
                refine Run.skip ?_
                refine ⟨1, h, Weak.of _ [(1, 0)] hA (by cbv) ?_⟩
                repeat (first | exact hq0 | refine hq (by first | exact True.intro | rfl) ?_)
            · have h := if_f c12 h
              obtain ⟨K16, h_K16, h⟩ := joinE h
              refine Run.join1 K16 (r := r) (fun (y15 : Bool) => ⟨106, 100000, [(1, .t (.s (.int .i64 a1))), (2, .pt 1 0 0), (5, .t (.s (.int .i64 401))), (6, .t (.s (.int .i64 1))), (41, .t (.s (.bool y15)))], [(1, .box 34 [.t (.s (.int .i64 a0v_Kind)), .t (.s (.int .i64 a0v_N)), .t (.s (.string a0v_S)), .t (.im false (eJson_i a0v_List_)), .t (.im false (eStr_c a0v_Names))])]⟩) ?_ ?_
              · skip
                refine Run.seq ?_
                refine Run.region hL hT [] (by cbv) ?_ ?_
                · exact (hq trivial hq0)
                refine Run.cond (by cbv) (hq0) (fun c17 => ?_) (fun c17 => ?_)
                · have h := if_t c17 h
                  refine Run.skip ?_
                  refine ⟨(cm .eql a0v_Kind 4), h, Weak.of _ [(1, 0)] hA (by cbv) ?_⟩
                  repeat (first | exact hq0 | refine hq (by first | exact True.intro | rfl) ?_)
                · have h := if_f c17 h
                  refine Run.region hL hT [] (by cbv) ?_ ?_
                  · exact (hq trivial hq0)
                  refine ⟨(cm .eql a0v_Kind 5), h, Weak.of _ [(1, 0)] hA (by cbv) ?_⟩
                  repeat (first | exact hq0 | refine hq (by first | exact True.intro | rfl) ?_)
              · intro y15 h
                rw [h_K16] at h
                refine Run.cond (by cbv) (hq0) (fun c18 => ?_) (fun c18 => ?_)
                · have h := if_t c18 h
                  refine Run.seq ?_
                  refine Run.region hL hT [] (by cbv) ?_ ?_
                  · exact hq0
                  refine Run.block ?_
                  refine Run.loop2 (fun (z28 : Int) (z29 : Int) => ⟨106, 100000, [(1, .t (.s (.int .i64 a1))), (2, .pt 1 0 0), (5, .t (.s (.int .i64 401))), (6, .t (.s (.int .i64 z28))), (7, .t (.s (.int .i64 z29)))], [(1, .box 34 [.t (.s (.int .i64 a0v_Kind)), .t (.s (.int .i64 a0v_N)), .t (.s (.string a0v_S)), .t (.im false (eJson_i a0v_List_)), .t (.im false (eStr_c a0v_Names))])]⟩) (x0 := 1) (x1 := 0) h (Weak.of _ [(1, 1)] hA (by cbv) ?_) (fun _ _ => rfl) ?_
                  · repeat (first | exact hq0 | refine hq (by first | exact True.intro | rfl) ?_)
                  · intro k z28 z29 h
                    rw [spec_l1Great.l0] at h
                    refine Run.seq ?_
                    refine Run.seq ?_
                    refine Run.region hL hT [] (by cbv) ?_ ?_
                    · exact (hq trivial (hq trivial (hq (fun _ => hq0) (hq (fun g31 => (by have g31C := g31; rw [show ln (eJson_i a0v_List_) = lenI_Json a0v_List_ from ln_eq Json_i _] at g31C; exact (hq g31 (hq trivial hq0)))) (hq (fun q32 => (by have q32C := q32; rw [show ln (eJson_i a0v_List_) = lenI_Json a0v_List_ from ln_eq Json_i _] at q32C; exact (hq q32 hq0))) (hq (fun _ => hq0) hq0))))))
                    rw [show ln (eJson_i a0v_List_) = lenI_Json a0v_List_ from ln_eq Json_i _]
                    refine Run.cond (by cbv) (hq0) (fun c34 => ?_) (fun c34 => ?_)
                    · have h := if_t c34 h
                      refine Run.skip ?_
                      refine Run.seq ?_
                      refine Run.block ?_
                      obtain ⟨⟨x35v_Kind, x35v_N, x35v_S, x35v_List_, x35v_Names⟩, h_x35, h⟩ := bnd h
                      obtain ⟨r36, h_r36, h⟩ := bnd h
                      refine Run.region hL hT [(4, .el [.s (.int .i64 x35v_Kind), .s (.int .i64 x35v_N), .s (.string x35v_S), .im false (eJson_i x35v_List_), .im false (eStr_c x35v_Names)]), (8, .call [false, false] [.ag [.jk, .jk, .jk, .jk, .jk], .v (.jk)] [.v (.s (.int .i64 r36))])] (by cbv) ?_ ?_
                      · exact (hq trivial (hq (get_le h_x35) (hq (get_lt (f := Json_i) h_x35) (hq (get_geU Json_i_u h_x35) (hq trivial (hq (hC (hself h_r36)) (hq trivial hq0)))))))
                      refine Run.region hL hT [] (by cbv) ?_ ?_
                      · exact (hq trivial hq0)
                      refine ⟨(ar .add .i64 z28 r36), (ar .add .i64 z29 1), h, Weak.of _ [(1, 1)] hA (by cbv) ?_⟩
                      repeat (first | exact hq0 | refine hq (by first | exact True.intro | rfl) ?_)
                    · have h := if_f c34 h
                      refine Run.exit ?_
                      refine ⟨z28, h, Weak.of _ [(1, 1)] hA (by cbv) ?_⟩
                      repeat (first | exact hq0 | refine hq (by first | exact True.intro | rfl) ?_)
                · have h := if_f c18 h
                  refine Run.seq ?_
                  refine Run.region hL hT [] (by cbv) ?_ ?_
                  · exact hq0
                  refine Run.ret ?_
                  cases h
                  refine ⟨_, _, by cbv, ?_, ?_⟩
                  · exact LLe.r
                  · exact (ALe.v LLe.r ALe.nil)
    · intro y2 h
      rw [h_K3] at h
      refine Run.seq ?_
      refine Run.seq ?_
      obtain ⟨r37, h_r37, h⟩ := bnd h
      refine Run.region hL hT [(36, .call [false] [.ag [.jk, .jk, .jk, .jk, .jk]] [.v (.s (.bool r37))])] (by cbv) ?_ ?_
      · exact (hq trivial (hq trivial (hq (fun _ => hq0) (hq (fun g39 => (hq g39 (hq trivial hq0))) (hq (fun g40 => (hq g40 hq0)) (hq (fun q41 => (hq q41 hq0)) (hq (fun _ => hq0) (hq (fun _ => hq0) (hq (fun g44 => (hq g44 (hq trivial hq0))) (hq (fun g45 => (hq g45 (hq trivial hq0))) (hq (fun g46 => (hq g46 hq0)) (hq (fun _ => hq0) (hq (fun g48 => (hq g48 (hq trivial hq0))) (hq (fun g49 => (hq g49 (hq trivial hq0))) (hq (fun g50 => (hq g50 (hq (fun _ => hq0) (hq (fun q52 => (hq (bo_a g50 (bo_m q52)) hq0)) hq0)))) (hq (fun g53 => (hq g53 hq0)) (hq (fun _ => hq0) (hq (fun g55 => (hq g55 (hq trivial hq0))) (hq (fun g56 => (hq g56 (hq trivial hq0))) (hq (fun g57 => (hq g57 (hq (fun q58 => (hq (bo_a g57 q58) hq0)) (hq (fun _ => hq0) hq0)))) (hq (fun _ => hq0) (hq (fun q61 => (hq (bo_m q61) hq0)) (hq (fun _ => hq0) (hq (fun g63 => (hq g63 (hq trivial hq0))) (hq (fun g64 => (hq g64 (hq trivial hq0))) (hq (fun g65 => (hq g65 hq0)) (hq (fun _ => hq0) (hq (fun g67 => (hq g67 (hq trivial hq0))) (hq (fun g68 => (hq g68 hq0)) (hq (fun g69 => (hq g69 (hq trivial hq0))) (hq (fun g70 => (hq g70 (hq (fun q71 => (hq (bo_a g70 q71) hq0)) (hq (fun _ => hq0) hq0)))) (hq (fun _ => hq0) (hq (fun q74 => (hq (bo_m q74) hq0)) (hq (fun g75 => (by have g75C := g75; rw [show ln (eJson_i a0v_List_) = lenI_Json a0v_List_ from ln_eq Json_i _] at g75C; exact (hq trivial hq0))) (hq (fun g76 => (by have g76C := g76; rw [show ln (eJson_i a0v_List_) = lenI_Json a0v_List_ from ln_eq Json_i _] at g76C; exact (hq g76 (hq (hC (spec_l1Names_ac (gd_t h_r37 g76C))) hq0)))) (hq (fun g77 => (by have g77C := g77; rw [show ln (eJson_i a0v_List_) = lenI_Json a0v_List_ from ln_eq Json_i _] at g77C; exact (hq g77 hq0))) (hq (fun _ => hq0) (hq (fun q79 => (by have q79C := q79; rw [show ln (eJson_i a0v_List_) = lenI_Json a0v_List_ from ln_eq Json_i _] at q79C; exact (hq (bo_m q79) hq0))) hq0))))))))))))))))))))))))))))))))))))))
      rw [show ln (eJson_i a0v_List_) = lenI_Json a0v_List_ from ln_eq Json_i _]
      refine Run.cond (by cbv) (hq0) (fun c80 => ?_) (fun c80 => ?_)
      · have h := if_t c80 h
        refine Run.seq ?_
        refine Run.region hL hT [] (by cbv) ?_ ?_
        · exact hq0
        refine Run.ret ?_
        cases h
        refine ⟨_, _, by cbv, ?_, ?_⟩
        · exact LLe.r
        · exact (ALe.v LLe.r ALe.nil)
      · have h := if_f c80 h
        refine Run.skip ?_
        refine Run.seq ?_
        refine Run.region hL hT [] (by cbv) ?_ ?_
        · exact hq0
        refine Run.ret ?_
        cases h
        refine ⟨_, _, by cbv, ?_, ?_⟩
        · exact LLe.r
        · exact (ALe.v LLe.r ALe.nil)
theorem spec_l1Great_acg : ∀ (k : Nat) {a0v_Kind : Int} {a0v_N : Int} {a0v_S : ByteArray} {a0v_List_ : List Json} {a0v_Names : List ByteArray} {a1 : Int} {r : Int} (h : spec_l1Great.g k (Json.mk a0v_Kind a0v_N a0v_S a0v_List_ a0v_Names) a1 = some r), AC Tryd.prog 85 [.ag [.s (.int .i64 a0v_Kind), .s (.int .i64 a0v_N), .s (.string a0v_S), .im false (rowsOf Json_i a0v_List_), .im false (rowsOf Str_c a0v_Names)], .v (.s (.int .i64 a1))] [.ag [.jk, .jk, .jk, .jk, .jk], .v (.jk)] [.v (.s (.int .i64 r))]
  | 0 => fun h => by cases h
  | k + 1 => fun h => spec_l1Great_acs (spec_l1Great.g k) (spec_l1Great_acg k) h
theorem spec_l1Great_ac {a0v_Kind : Int} {a0v_N : Int} {a0v_S : ByteArray} {a0v_List_ : List Json} {a0v_Names : List ByteArray} {a1 : Int} {r : Int} (h : spec_l1Great.f (Json.mk a0v_Kind a0v_N a0v_S a0v_List_ a0v_Names) a1 = some r) : AC Tryd.prog 85 [.ag [.s (.int .i64 a0v_Kind), .s (.int .i64 a0v_N), .s (.string a0v_S), .im false (rowsOf Json_i a0v_List_), .im false (rowsOf Str_c a0v_Names)], .v (.s (.int .i64 a1))] [.ag [.jk, .jk, .jk, .jk, .jk], .v (.jk)] [.v (.s (.int .i64 r))] := spec_l1Great_acg 20 h

set_option maxRecDepth 8000 in
theorem spec_JsonOk_ac {a0v_Kind : Int} {a0v_N : Int} {a0v_S : ByteArray} {a0v_List_ : List Json} {a0v_Names : List ByteArray} {r : Bool} (h : spec_JsonOk.f (Json.mk a0v_Kind a0v_N a0v_S a0v_List_ a0v_Names) = some r) : AC Tryd.prog 63 [.ag [.s (.int .i64 a0v_Kind), .s (.int .i64 a0v_N), .s (.string a0v_S), .im false (rowsOf Json_i a0v_List_), .im false (rowsOf Str_c a0v_Names)]] [.ag [.jk, .jk, .jk, .jk, .jk]] [.v (.s (.bool r))] := by
  unfold spec_JsonOk.f at h
  let ar := Ls.ar; let cm := Ls.cm; let bo := Ls.bo; let sc := Ls.sc; let sa := Ls.sa; let sx := Ls.sx; let ss := Ls.ss; let sl := Ls.sl; let bs := Ls.bs; let sb := Ls.sb; let ln := Ls.ln; let sr := Ls.sr; let ap := Ls.ap; let up := Ls.up; let rp := Ls.rp; let fr := Ls.fr; let ge := Ls.ge; let le := Ls.le; let lt := Ls.lt; let nz := Ls.nz; let mm := Ls.mm; let ma := Ls.ma; let sm := Ls.sm; let fl := Ls.fl; let al := Ls.al; let ci := Ls.ci
  let eJson_i := rowsOf Json_i
  let eStr_c := rowsOf Str_c
  have hL : (⟨ar, cm, bo, sc, sa, sx, ss, sl, bs, sb, ln, sr, ap, up, rp, fr, ge, le, lt, nz, mm, ma, sm, fl, al, ci⟩ : Lf) = Ls := rfl
  show AC Tryd.prog 63 [.ag [.s (.int .i64 a0v_Kind), .s (.int .i64 a0v_N), .s (.string a0v_S), .im false (eJson_i a0v_List_), .im false (eStr_c a0v_Names)]] _ _
  refine AC.of_run2 tab_ok Tryd.func63 (by rfl) (by rfl) (by cbv) ⟨by decide, rfl⟩ fun F hP hA => ?_
  have hT : TabOk F.P tab := hP ▸ tab_ok
  have hM : F.P.follows .mixedOrders = true := hP ▸ mixed
  have hC : ∀ {f a o r}, AC Tryd.prog f a o r → AC F.P f a o r := fun h => hP ▸ h
  refine Run.seq ?_
  refine Run.region hL hT [] (by cbv) ?_ ?_
  · exact hq0
  refine Run.seq ?_
  obtain ⟨r1, h_r1, h⟩ := bnd h
  refine Run.region hL hT [(1, .call [false, false] [.ag [.jk, .jk, .jk, .jk, .jk], .v (.jk)] [.v (.s (.int .i64 r1))])] (by cbv) ?_ ?_
  · exact (hq trivial (hq (hC (spec_l1Great_ac h_r1)) (hq trivial hq0)))
  refine Run.ret ?_
  cases h
  refine ⟨_, _, by cbv, ?_, ?_⟩
  · exact LLe.r
  · exact (ALe.v LLe.r ALe.nil)

set_option maxRecDepth 8000 in
theorem spec_l11Right_ac {a0v_Kind : Int} {a0v_N : Int} {a0v_S : ByteArray} {a0v_List_ : List Json} {a0v_Names : List ByteArray} {r : Json} (h : spec_l11Right.f (Json.mk a0v_Kind a0v_N a0v_S a0v_List_ a0v_Names) = some r) : AC Tryd.prog 35 [.ag [.s (.int .i64 a0v_Kind), .s (.int .i64 a0v_N), .s (.string a0v_S), .im true (rowsOf Json_k a0v_List_), .im true (rowsOf Str_c a0v_Names)]] [.ag [.jk, .jk, .jk, .jk, .jk]] [.ag [.s (.int .i64 r.Kind), .s (.int .i64 r.N), .s (.string r.S), .im true (rowsOf Json_k r.List_), .im true (rowsOf Str_c r.Names)]] := by
  unfold spec_l11Right.f at h
  let ar := Ls.ar; let cm := Ls.cm; let bo := Ls.bo; let sc := Ls.sc; let sa := Ls.sa; let sx := Ls.sx; let ss := Ls.ss; let sl := Ls.sl; let bs := Ls.bs; let sb := Ls.sb; let ln := Ls.ln; let sr := Ls.sr; let ap := Ls.ap; let up := Ls.up; let rp := Ls.rp; let fr := Ls.fr; let ge := Ls.ge; let le := Ls.le; let lt := Ls.lt; let nz := Ls.nz; let mm := Ls.mm; let ma := Ls.ma; let sm := Ls.sm; let fl := Ls.fl; let al := Ls.al; let ci := Ls.ci
  let eJson_i := rowsOf Json_i
  let eJson_k := rowsOf Json_k
  let eStr_c := rowsOf Str_c
  have hL : (⟨ar, cm, bo, sc, sa, sx, ss, sl, bs, sb, ln, sr, ap, up, rp, fr, ge, le, lt, nz, mm, ma, sm, fl, al, ci⟩ : Lf) = Ls := rfl
  show AC Tryd.prog 35 [.ag [.s (.int .i64 a0v_Kind), .s (.int .i64 a0v_N), .s (.string a0v_S), .im true (eJson_k a0v_List_), .im true (eStr_c a0v_Names)]] _ _
  refine AC.of_run2 tab_ok Tryd.func35 (by rfl) (by rfl) (by cbv) ⟨by decide, rfl⟩ fun F hP hA => ?_
  have hT : TabOk F.P tab := hP ▸ tab_ok
  have hM : F.P.follows .mixedOrders = true := hP ▸ mixed
  have hC : ∀ {f a o r}, AC Tryd.prog f a o r → AC F.P f a o r := fun h => hP ▸ h
  refine Run.seq ?_
  refine Run.region hL hT [] (by cbv) ?_ ?_
  · exact hq0
  refine Run.seq ?_
  refine Run.seq ?_
  obtain ⟨r1, h_r1, h⟩ := bnd h
  refine Run.region hL hT [(1, .call [false] [.ag [.jk, .jk, .jk, .jk, .jk]] [.v (.s (.bool r1))])] (by cbv) ?_ ?_
  · exact (hq trivial (hq (hC (AC.args (spec_JsonOk_ac h_r1) (ALe.ag rfl (LLe.c (LLe.c (LLe.c (LLe.cons (LLe.im (Json_k_le _)) (LLe.c LLe.nil))))) ALe.nil))) hq0))
  refine Run.cond (by cbv) (hq0) (fun c2 => ?_) (fun c2 => ?_)
  · have h := if_t c2 h
    refine Run.seq ?_
    refine Run.region hL hT [] (by cbv) ?_ ?_
    · exact (hq trivial hq0)
    refine Run.ret ?_
    cases h
    refine ⟨_, _, by cbv, ?_, ?_⟩
    · exact LLe.r
    · exact (ALe.ag rfl (LLe.c (LLe.c (LLe.c (LLe.cons LLe.nilI (LLe.cons LLe.nilI LLe.nil))))) ALe.nil)
  · have h := if_f c2 h
    refine Run.skip ?_
    refine Run.seq ?_
    refine Run.region hL hT [] (by cbv) ?_ ?_
    · exact (hq trivial (hq trivial hq0))
    refine Run.ret ?_
    cases h
    refine ⟨_, _, by cbv, ?_, ?_⟩
    · exact LLe.r
    · exact (ALe.ag rfl LLe.r ALe.nil)

set_option maxRecDepth 8000 in
theorem spec_RowDoc_ac {a0v_Table : Int} {a0v_Where : List Cond} {a0v_Order : Int} {a0v_Down : Bool} {a0v_First : Int} {a0v_Show : List Int} {a0v_Kids : Bool} {a0v_KidTable : Int} {a0v_KidCol : Int} {a1v_Id : Int} {a1v_Cells : List Int} {a2 : Int} {r : Json} (h : spec_RowDoc.f (Query.mk a0v_Table a0v_Where a0v_Order a0v_Down a0v_First a0v_Show a0v_Kids a0v_KidTable a0v_KidCol) (Row.mk a1v_Id a1v_Cells) a2 = some r) : AC Tryd.prog 17 [.ag [.s (.int .i64 a0v_Table), .im false (rowsOf Cond_c a0v_Where), .s (.int .i64 a0v_Order), .s (.bool a0v_Down), .s (.int .i64 a0v_First), .im false (rowsOf Int_c a0v_Show), .s (.bool a0v_Kids), .s (.int .i64 a0v_KidTable), .s (.int .i64 a0v_KidCol)], .ag [.s (.int .i64 a1v_Id), .im false (rowsOf Int_c a1v_Cells)], .v (.s (.int .i64 a2))] [.ag [.jk, .jk, .jk, .jk, .jk, .jk, .jk, .jk, .jk], .ag [.jk, .jk], .v (.jk)] [.ag [.s (.int .i64 r.Kind), .s (.int .i64 r.N), .s (.string r.S), .im true (rowsOf Json_k r.List_), .im true (rowsOf Str_c r.Names)]] := by
  unfold spec_RowDoc.f at h
  let ar := Ls.ar; let cm := Ls.cm; let bo := Ls.bo; let sc := Ls.sc; let sa := Ls.sa; let sx := Ls.sx; let ss := Ls.ss; let sl := Ls.sl; let bs := Ls.bs; let sb := Ls.sb; let ln := Ls.ln; let sr := Ls.sr; let ap := Ls.ap; let up := Ls.up; let rp := Ls.rp; let fr := Ls.fr; let ge := Ls.ge; let le := Ls.le; let lt := Ls.lt; let nz := Ls.nz; let mm := Ls.mm; let ma := Ls.ma; let sm := Ls.sm; let fl := Ls.fl; let al := Ls.al; let ci := Ls.ci
  let eCond_c := rowsOf Cond_c
  let eInt_c := rowsOf Int_c
  let eJson_k := rowsOf Json_k
  let eStr_c := rowsOf Str_c
  have hL : (⟨ar, cm, bo, sc, sa, sx, ss, sl, bs, sb, ln, sr, ap, up, rp, fr, ge, le, lt, nz, mm, ma, sm, fl, al, ci⟩ : Lf) = Ls := rfl
  show AC Tryd.prog 17 [.ag [.s (.int .i64 a0v_Table), .im false (eCond_c a0v_Where), .s (.int .i64 a0v_Order), .s (.bool a0v_Down), .s (.int .i64 a0v_First), .im false (eInt_c a0v_Show), .s (.bool a0v_Kids), .s (.int .i64 a0v_KidTable), .s (.int .i64 a0v_KidCol)], .ag [.s (.int .i64 a1v_Id), .im false (eInt_c a1v_Cells)], .v (.s (.int .i64 a2))] _ _
  refine AC.of_run2 tab_ok Tryd.func17 (by rfl) (by rfl) (by cbv) ⟨by decide, rfl⟩ fun F hP hA => ?_
  have hT : TabOk F.P tab := hP ▸ tab_ok
  have hM : F.P.follows .mixedOrders = true := hP ▸ mixed
  have hC : ∀ {f a o r}, AC Tryd.prog f a o r → AC F.P f a o r := fun h => hP ▸ h
  refine Run.seq ?_
  refine Run.region hL hT [] (by cbv) ?_ ?_
  · exact hq0
  refine Run.seq ?_
  obtain ⟨⟨r1v_Kind, r1v_N, r1v_S, r1v_List_, r1v_Names⟩, h_r1, h⟩ := bnd h
  obtain ⟨⟨r2v_Kind, r2v_N, r2v_S, r2v_List_, r2v_Names⟩, h_r2, h⟩ := bnd h
  refine Run.region hL hT [(3, .call [false, false, false] [.ag [.jk, .jk, .jk, .jk, .jk, .jk, .jk, .jk, .jk], .ag [.jk, .jk], .v (.jk)] [.ag [.s (.int .i64 r1v_Kind), .s (.int .i64 r1v_N), .s (.string r1v_S), .im true (eJson_k r1v_List_), .im true (eStr_c r1v_Names)]]), (4, .call [true] [.ag [.jk, .jk, .jk, .jk, .jk]] [.ag [.s (.int .i64 r2v_Kind), .s (.int .i64 r2v_N), .s (.string r2v_S), .im true (eJson_k r2v_List_), .im true (eStr_c r2v_Names)]])] (by cbv) ?_ ?_
  · exact (hq trivial (hq trivial (hq (hC (spec_l11Row_ac h_r1)) (hq (hC (spec_l11Right_ac h_r2)) (hq trivial hq0)))))
  refine Run.ret ?_
  cases h
  refine ⟨_, _, by cbv, ?_, ?_⟩
  · exact LLe.r
  · exact (ALe.ag rfl LLe.r ALe.nil)

set_option maxRecDepth 8000 in
theorem laws_within_ac {a0 : List Int} {a1 : Int} {r : Bool} (h : laws_within.f a0 a1 = some r) : AC Tryd.prog 20 [.v (.im false (rowsOf Int_c a0)), .v (.s (.int .i64 a1))] [.v (.jk), .v (.jk)] [.v (.s (.bool r))] := by
  unfold laws_within.f at h
  let ar := Ls.ar; let cm := Ls.cm; let bo := Ls.bo; let sc := Ls.sc; let sa := Ls.sa; let sx := Ls.sx; let ss := Ls.ss; let sl := Ls.sl; let bs := Ls.bs; let sb := Ls.sb; let ln := Ls.ln; let sr := Ls.sr; let ap := Ls.ap; let up := Ls.up; let rp := Ls.rp; let fr := Ls.fr; let ge := Ls.ge; let le := Ls.le; let lt := Ls.lt; let nz := Ls.nz; let mm := Ls.mm; let ma := Ls.ma; let sm := Ls.sm; let fl := Ls.fl; let al := Ls.al; let ci := Ls.ci
  let eInt_c := rowsOf Int_c
  let lenI_Int := @lenI Int
  have hL : (⟨ar, cm, bo, sc, sa, sx, ss, sl, bs, sb, ln, sr, ap, up, rp, fr, ge, le, lt, nz, mm, ma, sm, fl, al, ci⟩ : Lf) = Ls := rfl
  show AC Tryd.prog 20 [.v (.im false (eInt_c a0)), .v (.s (.int .i64 a1))] _ _
  refine AC.of_run2 tab_ok Tryd.func20 (by rfl) (by rfl) (by cbv) ⟨by decide, rfl⟩ fun F hP hA => ?_
  have hT : TabOk F.P tab := hP ▸ tab_ok
  have hM : F.P.follows .mixedOrders = true := hP ▸ mixed
  have hC : ∀ {f a o r}, AC Tryd.prog f a o r → AC F.P f a o r := fun h => hP ▸ h
  refine Run.seq ?_
  refine Run.region hL hT [] (by cbv) ?_ ?_
  · exact hq0
  refine Run.seq ?_
  refine Run.seq ?_
  refine Run.region hL hT [] (by cbv) ?_ ?_
  · exact hq0
  refine Run.block ?_
  refine Run.loop1 (fun (z4 : Int) => ⟨18, 100000, [(0, .t (.im false (eInt_c a0))), (1, .t (.s (.int .i64 a1))), (5, .t (.s (.int .i64 z4)))], []⟩) (x0 := 0) h (Weak.of _ [] hA (by cbv) ?_) (fun _ => rfl) ?_
  · repeat (first | exact hq0 | refine hq (by first | exact True.intro | rfl) ?_)
  · intro k z4 h
    rw [laws_within.l0] at h
    refine Run.seq ?_
    refine Run.seq ?_
    refine Run.region hL hT [] (by cbv) ?_ ?_
    · exact (hq trivial hq0)
    rw [show ln (eInt_c a0) = lenI_Int a0 from ln_eq Int_c _]
    refine Run.cond (by cbv) (hq0) (fun c5 => ?_) (fun c5 => ?_)
    · have h := if_t c5 h
      refine Run.skip ?_
      refine Run.seq ?_
      refine Run.block ?_
      refine Run.seq ?_
      obtain ⟨x6, h_x6, h⟩ := bnd h
      refine Run.region hL hT [(2, .el [.s (.int .i64 x6)])] (by cbv) ?_ ?_
      · exact (hq (get_le h_x6) (hq (get_lt (f := Int_c) h_x6) (hq (get_ge (f := Int_c) h_x6) (hq trivial hq0))))
      refine Run.cond (by cbv) (hq0) (fun c7 => ?_) (fun c7 => ?_)
      · have h := if_t c7 h
        refine Run.seq ?_
        refine Run.region hL hT [] (by cbv) ?_ ?_
        · exact hq0
        refine Run.ret ?_
        cases h
        refine ⟨_, _, by cbv, ?_, ?_⟩
        · exact LLe.r
        · exact (ALe.v LLe.r ALe.nil)
      · have h := if_f c7 h
        refine Run.skip ?_
        refine Run.region hL hT [] (by cbv) ?_ ?_
        · exact (hq trivial hq0)
        refine ⟨(ar .add .i64 z4 1), h, Weak.of _ [] hA (by cbv) ?_⟩
        repeat (first | exact hq0 | refine hq (by first | exact True.intro | rfl) ?_)
    · have h := if_f c5 h
      refine Run.exit ?_
      refine Run.seq ?_
      refine Run.region hL hT [] (by cbv) ?_ ?_
      · exact hq0
      refine Run.ret ?_
      cases h
      refine ⟨_, _, by cbv, ?_, ?_⟩
      · exact LLe.r
      · exact (ALe.v LLe.r ALe.nil)

set_option maxRecDepth 8000 in
theorem laws_big_ac {a0 : List Int} {r : Bool} (h : laws_big.f a0 = some r) : AC Tryd.prog 5 [.v (.im false (rowsOf u8_c a0))] [.v (.jk)] [.v (.s (.bool r))] := by
  unfold laws_big.f at h
  let ar := Ls.ar; let cm := Ls.cm; let bo := Ls.bo; let sc := Ls.sc; let sa := Ls.sa; let sx := Ls.sx; let ss := Ls.ss; let sl := Ls.sl; let bs := Ls.bs; let sb := Ls.sb; let ln := Ls.ln; let sr := Ls.sr; let ap := Ls.ap; let up := Ls.up; let rp := Ls.rp; let fr := Ls.fr; let ge := Ls.ge; let le := Ls.le; let lt := Ls.lt; let nz := Ls.nz; let mm := Ls.mm; let ma := Ls.ma; let sm := Ls.sm; let fl := Ls.fl; let al := Ls.al; let ci := Ls.ci
  let eu8_c := rowsOf u8_c
  let lenI_u8 := @lenI Int
  have hL : (⟨ar, cm, bo, sc, sa, sx, ss, sl, bs, sb, ln, sr, ap, up, rp, fr, ge, le, lt, nz, mm, ma, sm, fl, al, ci⟩ : Lf) = Ls := rfl
  show AC Tryd.prog 5 [.v (.im false (eu8_c a0))] _ _
  refine AC.of_run2 tab_ok Tryd.func5 (by rfl) (by rfl) (by cbv) ⟨by decide, rfl⟩ fun F hP hA => ?_
  have hT : TabOk F.P tab := hP ▸ tab_ok
  have hM : F.P.follows .mixedOrders = true := hP ▸ mixed
  have hC : ∀ {f a o r}, AC Tryd.prog f a o r → AC F.P f a o r := fun h => hP ▸ h
  refine Run.seq ?_
  refine Run.region hL hT [] (by cbv) ?_ ?_
  · exact hq0
  refine Run.seq ?_
  refine Run.region hL hT [] (by cbv) ?_ ?_
  · exact (hq trivial hq0)
  rw [show ln (eu8_c a0) = lenI_u8 a0 from ln_eq u8_c _]
  refine Run.ret ?_
  cases h
  refine ⟨_, _, by cbv, ?_, ?_⟩
  · exact LLe.r
  · exact (ALe.v LLe.r ALe.nil)

set_option maxRecDepth 8000 in
theorem laws_sameTexts_ac {a0 : List ByteArray} {a1 : List ByteArray} {r : Bool} (h : laws_sameTexts.f a0 a1 = some r) : AC Tryd.prog 32 [.v (.im false (rowsOf Str_c a0)), .v (.im false (rowsOf Str_c a1))] [.v (.jk), .v (.jk)] [.v (.s (.bool r))] := by
  unfold laws_sameTexts.f at h
  let ar := Ls.ar; let cm := Ls.cm; let bo := Ls.bo; let sc := Ls.sc; let sa := Ls.sa; let sx := Ls.sx; let ss := Ls.ss; let sl := Ls.sl; let bs := Ls.bs; let sb := Ls.sb; let ln := Ls.ln; let sr := Ls.sr; let ap := Ls.ap; let up := Ls.up; let rp := Ls.rp; let fr := Ls.fr; let ge := Ls.ge; let le := Ls.le; let lt := Ls.lt; let nz := Ls.nz; let mm := Ls.mm; let ma := Ls.ma; let sm := Ls.sm; let fl := Ls.fl; let al := Ls.al; let ci := Ls.ci
  let eStr_c := rowsOf Str_c
  let lenI_Str := @lenI ByteArray
  have hL : (⟨ar, cm, bo, sc, sa, sx, ss, sl, bs, sb, ln, sr, ap, up, rp, fr, ge, le, lt, nz, mm, ma, sm, fl, al, ci⟩ : Lf) = Ls := rfl
  show AC Tryd.prog 32 [.v (.im false (eStr_c a0)), .v (.im false (eStr_c a1))] _ _
  refine AC.of_run2 tab_ok Tryd.func32 (by rfl) (by rfl) (by cbv) ⟨by decide, rfl⟩ fun F hP hA => ?_
  have hT : TabOk F.P tab := hP ▸ tab_ok
  have hM : F.P.follows .mixedOrders = true := hP ▸ mixed
  have hC : ∀ {f a o r}, AC Tryd.prog f a o r → AC F.P f a o r := fun h => hP ▸ h
  refine Run.seq ?_
  refine Run.region hL hT [] (by cbv) ?_ ?_
  · exact hq0
  refine Run.seq ?_
  refine Run.seq ?_
  refine Run.region hL hT [] (by cbv) ?_ ?_
  · exact (hq trivial hq0)
  rw [show ln (eStr_c a0) = lenI_Str a0 from ln_eq Str_c _]
  rw [show ln (eStr_c a1) = lenI_Str a1 from ln_eq Str_c _]
  refine Run.cond (by cbv) (hq0) (fun c1 => ?_) (fun c1 => ?_)
  · have h := if_t c1 h
    refine Run.seq ?_
    refine Run.region hL hT [] (by cbv) ?_ ?_
    · exact hq0
    refine Run.ret ?_
    cases h
    refine ⟨_, _, by cbv, ?_, ?_⟩
    · exact LLe.r
    · exact (ALe.v LLe.r ALe.nil)
  · have h := if_f c1 h
    refine Run.skip ?_
    refine Run.seq ?_
    refine Run.seq ?_
    refine Run.region hL hT [] (by cbv) ?_ ?_
    · exact hq0
    refine Run.block ?_
    refine Run.loop1 (fun (z5 : Int) => ⟨26, 100000, [(0, .t (.im false (eStr_c a0))), (1, .t (.im false (eStr_c a1))), (5, .t (.s (.int .i64 z5)))], []⟩) (x0 := 0) h (Weak.of _ [] hA (by cbv) ?_) (fun _ => rfl) ?_
    · repeat (first | exact hq0 | refine hq (by first | exact True.intro | rfl) ?_)
    · intro k z5 h
      rw [laws_sameTexts.l0] at h
      refine Run.seq ?_
      refine Run.seq ?_
      refine Run.region hL hT [] (by cbv) ?_ ?_
      · exact (hq trivial hq0)
      rw [show ln (eStr_c a0) = lenI_Str a0 from ln_eq Str_c _]
      refine Run.cond (by cbv) (hq0) (fun c6 => ?_) (fun c6 => ?_)
      · have h := if_t c6 h
        refine Run.skip ?_
        refine Run.seq ?_
        refine Run.block ?_
        refine Run.seq ?_
        obtain ⟨x7, h_x7, h⟩ := bnd h
        obtain ⟨x8, h_x8, h⟩ := bnd h
        refine Run.draw hL hT hM [(2, .el [.s (.string x7)]), (6, .el [.s (.string x8)])] (by cbv) (by cbv) (by cbv) (by cbv) (by cbv) ?_ ?_
        · exact (hq (get_le h_x7) (hq (get_lt (f := Str_c) h_x7) (hq (get_ge (f := Str_c) h_x7) (hq (get_le h_x8) (hq (get_lt (f := Str_c) h_x8) (hq (get_ge (f := Str_c) h_x8) hq0))))))
        refine Run.cond (by cbv) (hq0) (fun c9 => ?_) (fun c9 => ?_)
        · have h := if_t c9 h
          refine Run.seq ?_
          refine Run.region hL hT [] (by cbv) ?_ ?_
          · exact hq0
          refine Run.ret ?_
          cases h
          refine ⟨_, _, by cbv, ?_, ?_⟩
          · exact LLe.r
          · exact (ALe.v LLe.r ALe.nil)
        · have h := if_f c9 h
          refine Run.skip ?_
          refine Run.region hL hT [] (by cbv) ?_ ?_
          · exact (hq trivial hq0)
          refine ⟨(ar .add .i64 z5 1), h, Weak.of _ [] hA (by cbv) ?_⟩
          repeat (first | exact hq0 | refine hq (by first | exact True.intro | rfl) ?_)
      · have h := if_f c6 h
        refine Run.exit ?_
        refine Run.seq ?_
        refine Run.region hL hT [] (by cbv) ?_ ?_
        · exact hq0
        refine Run.ret ?_
        cases h
        refine ⟨_, _, by cbv, ?_, ?_⟩
        · exact LLe.r
        · exact (ALe.v LLe.r ALe.nil)

set_option maxRecDepth 8000 in
theorem laws_sameJson_acs (self : Json → Json → Option Bool) (hself : ∀ {a0v_Kind : Int} {a0v_N : Int} {a0v_S : ByteArray} {a0v_List_ : List Json} {a0v_Names : List ByteArray} {a1v_Kind : Int} {a1v_N : Int} {a1v_S : ByteArray} {a1v_List_ : List Json} {a1v_Names : List ByteArray} {r : Bool} (h : self (Json.mk a0v_Kind a0v_N a0v_S a0v_List_ a0v_Names) (Json.mk a1v_Kind a1v_N a1v_S a1v_List_ a1v_Names) = some r), AC Tryd.prog 8 [.ag [.s (.int .i64 a0v_Kind), .s (.int .i64 a0v_N), .s (.string a0v_S), .im false (rowsOf Json_i a0v_List_), .im false (rowsOf Str_c a0v_Names)], .ag [.s (.int .i64 a1v_Kind), .s (.int .i64 a1v_N), .s (.string a1v_S), .im false (rowsOf Json_i a1v_List_), .im false (rowsOf Str_c a1v_Names)]] [.ag [.jk, .jk, .jk, .jk, .jk], .ag [.jk, .jk, .jk, .jk, .jk]] [.v (.s (.bool r))]) {a0v_Kind : Int} {a0v_N : Int} {a0v_S : ByteArray} {a0v_List_ : List Json} {a0v_Names : List ByteArray} {a1v_Kind : Int} {a1v_N : Int} {a1v_S : ByteArray} {a1v_List_ : List Json} {a1v_Names : List ByteArray} {r : Bool} (h : laws_sameJson.b self (Json.mk a0v_Kind a0v_N a0v_S a0v_List_ a0v_Names) (Json.mk a1v_Kind a1v_N a1v_S a1v_List_ a1v_Names) = some r) : AC Tryd.prog 8 [.ag [.s (.int .i64 a0v_Kind), .s (.int .i64 a0v_N), .s (.string a0v_S), .im false (rowsOf Json_i a0v_List_), .im false (rowsOf Str_c a0v_Names)], .ag [.s (.int .i64 a1v_Kind), .s (.int .i64 a1v_N), .s (.string a1v_S), .im false (rowsOf Json_i a1v_List_), .im false (rowsOf Str_c a1v_Names)]] [.ag [.jk, .jk, .jk, .jk, .jk], .ag [.jk, .jk, .jk, .jk, .jk]] [.v (.s (.bool r))] := by
  unfold laws_sameJson.b at h
  let ar := Ls.ar; let cm := Ls.cm; let bo := Ls.bo; let sc := Ls.sc; let sa := Ls.sa; let sx := Ls.sx; let ss := Ls.ss; let sl := Ls.sl; let bs := Ls.bs; let sb := Ls.sb; let ln := Ls.ln; let sr := Ls.sr; let ap := Ls.ap; let up := Ls.up; let rp := Ls.rp; let fr := Ls.fr; let ge := Ls.ge; let le := Ls.le; let lt := Ls.lt; let nz := Ls.nz; let mm := Ls.mm; let ma := Ls.ma; let sm := Ls.sm; let fl := Ls.fl; let al := Ls.al; let ci := Ls.ci
  let eJson_i := rowsOf Json_i
  let eStr_c := rowsOf Str_c
  let lenI_Json := @lenI Json
  have hL : (⟨ar, cm, bo, sc, sa, sx, ss, sl, bs, sb, ln, sr, ap, up, rp, fr, ge, le, lt, nz, mm, ma, sm, fl, al, ci⟩ : Lf) = Ls := rfl
  show AC Tryd.prog 8 [.ag [.s (.int .i64 a0v_Kind), .s (.int .i64 a0v_N), .s (.string a0v_S), .im false (eJson_i a0v_List_), .im false (eStr_c a0v_Names)], .ag [.s (.int .i64 a1v_Kind), .s (.int .i64 a1v_N), .s (.string a1v_S), .im false (eJson_i a1v_List_), .im false (eStr_c a1v_Names)]] _ _
  refine AC.of_run2 tab_ok Tryd.func8 (by rfl) (by rfl) (by cbv) ⟨by decide, rfl⟩ fun F hP hA => ?_
  have hT : TabOk F.P tab := hP ▸ tab_ok
  have hM : F.P.follows .mixedOrders = true := hP ▸ mixed
  have hC : ∀ {f a o r}, AC Tryd.prog f a o r → AC F.P f a o r := fun h => hP ▸ h
  refine Run.seq ?_
  refine Run.region hL hT [] (by cbv) ?_ ?_
  · exact hq0
  refine Run.seq ?_
  refine Run.seq ?_
  obtain ⟨r1, h_r1, h⟩ := bnd h
  refine Run.region hL hT [(33, .call [false, false] [.v (.jk), .v (.jk)] [.v (.s (.bool r1))])] (by cbv) ?_ ?_
  · exact (hq trivial (hq trivial (hq trivial (hq (fun _ => hq0) (hq (fun g3 => (hq g3 (hq trivial hq0))) (hq (fun _ => hq0) (hq (fun g5 => (hq g5 (hq trivial hq0))) (hq (fun g6 => (hq g6 (hq g6 (hq trivial hq0)))) (hq (fun _ => hq0) (hq (fun q8 => (hq (bo_m q8) hq0)) (hq (fun _ => hq0) (hq (fun g10 => (hq g10 (hq trivial hq0))) (hq (fun _ => hq0) (hq (fun g12 => (hq g12 (hq trivial hq0))) (hq (fun g13 => (hq g13 (hq g13 hq0))) (hq (fun _ => hq0) (hq (fun q15 => (hq (bo_m q15) hq0)) (hq (fun _ => hq0) (hq (fun g17 => (hq g17 (hq trivial hq0))) (hq (fun g18 => (hq g18 hq0)) (hq (fun _ => hq0) (hq (fun g20 => (hq g20 (hq trivial hq0))) (hq (fun g21 => (hq g21 hq0)) (hq (fun g22 => (hq g22 (hq g22 (hq trivial hq0)))) (hq (fun _ => hq0) (hq (fun q24 => (hq (bo_m q24) hq0)) (hq (fun _ => hq0) (hq (fun g26 => (by have g26C := g26; rw [show ln (eJson_i a0v_List_) = lenI_Json a0v_List_ from ln_eq Json_i _, show ln (eJson_i a1v_List_) = lenI_Json a1v_List_ from ln_eq Json_i _] at g26C; exact (hq g26 (hq trivial hq0)))) (hq (fun _ => hq0) (hq (fun g28 => (by have g28C := g28; rw [show ln (eJson_i a0v_List_) = lenI_Json a0v_List_ from ln_eq Json_i _, show ln (eJson_i a1v_List_) = lenI_Json a1v_List_ from ln_eq Json_i _] at g28C; exact (hq g28 (hq trivial hq0)))) (hq (fun g29 => (by have g29C := g29; rw [show ln (eJson_i a0v_List_) = lenI_Json a0v_List_ from ln_eq Json_i _, show ln (eJson_i a1v_List_) = lenI_Json a1v_List_ from ln_eq Json_i _] at g29C; exact (hq g29 (hq g29 (hq (hC (laws_sameTexts_ac (gd_t h_r1 g29C))) hq0))))) (hq (fun g30 => (by have g30C := g30; rw [show ln (eJson_i a0v_List_) = lenI_Json a0v_List_ from ln_eq Json_i _, show ln (eJson_i a1v_List_) = lenI_Json a1v_List_ from ln_eq Json_i _] at g30C; exact (hq g30 hq0))) (hq (fun _ => hq0) (hq (fun q32 => (by have q32C := q32; rw [show ln (eJson_i a0v_List_) = lenI_Json a0v_List_ from ln_eq Json_i _, show ln (eJson_i a1v_List_) = lenI_Json a1v_List_ from ln_eq Json_i _] at q32C; exact (hq (bo_m q32) hq0))) hq0))))))))))))))))))))))))))))))))))
  rw [show ln (eJson_i a0v_List_) = lenI_Json a0v_List_ from ln_eq Json_i _]
  rw [show ln (eJson_i a1v_List_) = lenI_Json a1v_List_ from ln_eq Json_i _]
  refine Run.cond (by cbv) (hq0) (fun c33 => ?_) (fun c33 => ?_)
  · have h := if_t c33 h
    refine Run.seq ?_
    refine Run.region hL hT [] (by cbv) ?_ ?_
    · exact hq0
    refine Run.ret ?_
    cases h
    refine ⟨_, _, by cbv, ?_, ?_⟩
    · exact LLe.r
    · exact (ALe.v LLe.r ALe.nil)
  · have h := if_f c33 h
    refine Run.skip ?_
    refine Run.seq ?_
    refine Run.seq ?_
    refine Run.region hL hT [] (by cbv) ?_ ?_
    · exact hq0
    refine Run.block ?_
    refine Run.loop1 (fun (z45 : Int) => ⟨61, 100000, [(2, .pt 1 0 0), (3, .pt 2 0 0), (5, .t (.s (.int .i64 z45)))], [(1, .box 34 [.t (.s (.int .i64 a0v_Kind)), .t (.s (.int .i64 a0v_N)), .t (.s (.string a0v_S)), .t (.im false (eJson_i a0v_List_)), .t (.im false (eStr_c a0v_Names))]), (2, .box 34 [.t (.s (.int .i64 a1v_Kind)), .t (.s (.int .i64 a1v_N)), .t (.s (.string a1v_S)), .t (.im false (eJson_i a1v_List_)), .t (.im false (eStr_c a1v_Names))])]⟩) (x0 := 0) h (Weak.of _ [(1, 0), (2, 1)] hA (by cbv) ?_) (fun _ => rfl) ?_
    · repeat (first | exact hq0 | refine hq (by first | exact True.intro | rfl) ?_)
    · intro k z45 h
      rw [laws_sameJson.l0] at h
      refine Run.seq ?_
      refine Run.seq ?_
      refine Run.region hL hT [] (by cbv) ?_ ?_
      · exact (hq trivial (hq trivial hq0))
      rw [show ln (eJson_i a0v_List_) = lenI_Json a0v_List_ from ln_eq Json_i _]
      refine Run.cond (by cbv) (hq0) (fun c46 => ?_) (fun c46 => ?_)
      · have h := if_t c46 h
        refine Run.skip ?_
        refine Run.seq ?_
        refine Run.block ?_
        refine Run.seq ?_
        obtain ⟨⟨x47v_Kind, x47v_N, x47v_S, x47v_List_, x47v_Names⟩, h_x47, h⟩ := bnd h
        obtain ⟨⟨x48v_Kind, x48v_N, x48v_S, x48v_List_, x48v_Names⟩, h_x48, h⟩ := bnd h
        obtain ⟨r49, h_r49, h⟩ := bnd h
        refine Run.draw hL hT hM [(3, .el [.s (.int .i64 x47v_Kind), .s (.int .i64 x47v_N), .s (.string x47v_S), .im false (eJson_i x47v_List_), .im false (eStr_c x47v_Names)]), (8, .el [.s (.int .i64 x48v_Kind), .s (.int .i64 x48v_N), .s (.string x48v_S), .im false (eJson_i x48v_List_), .im false (eStr_c x48v_Names)]), (10, .call [false, false] [.ag [.jk, .jk, .jk, .jk, .jk], .ag [.jk, .jk, .jk, .jk, .jk]] [.v (.s (.bool r49))])] (by cbv) (by cbv) (by cbv) (by cbv) (by cbv) ?_ ?_
        · exact (hq trivial (hq (get_le h_x47) (hq (get_lt (f := Json_i) h_x47) (hq (get_geU Json_i_u h_x47) (hq trivial (hq (get_le h_x48) (hq (get_lt (f := Json_i) h_x48) (hq (get_geU Json_i_u h_x48) (hq (hC (hself h_r49)) hq0)))))))))
        refine Run.cond (by cbv) (hq0) (fun c50 => ?_) (fun c50 => ?_)
        · have h := if_t c50 h
          refine Run.seq ?_
          refine Run.region hL hT [] (by cbv) ?_ ?_
          · exact hq0
          refine Run.ret ?_
          cases h
          refine ⟨_, _, by cbv, ?_, ?_⟩
          · exact LLe.r
          · exact (ALe.v LLe.r ALe.nil)
        · have h := if_f c50 h
          refine Run.skip ?_
          refine Run.region hL hT [] (by cbv) ?_ ?_
          · exact (hq trivial hq0)
          refine ⟨(ar .add .i64 z45 1), h, Weak.of _ [(1, 1), (2, 2)] hA (by cbv) ?_⟩
          repeat (first | exact hq0 | refine hq (by first | exact True.intro | rfl) ?_)
      · have h := if_f c46 h
        refine Run.exit ?_
        refine Run.seq ?_
        refine Run.region hL hT [] (by cbv) ?_ ?_
        · exact hq0
        refine Run.ret ?_
        cases h
        refine ⟨_, _, by cbv, ?_, ?_⟩
        · exact LLe.r
        · exact (ALe.v LLe.r ALe.nil)
theorem laws_sameJson_acg : ∀ (k : Nat) {a0v_Kind : Int} {a0v_N : Int} {a0v_S : ByteArray} {a0v_List_ : List Json} {a0v_Names : List ByteArray} {a1v_Kind : Int} {a1v_N : Int} {a1v_S : ByteArray} {a1v_List_ : List Json} {a1v_Names : List ByteArray} {r : Bool} (h : laws_sameJson.g k (Json.mk a0v_Kind a0v_N a0v_S a0v_List_ a0v_Names) (Json.mk a1v_Kind a1v_N a1v_S a1v_List_ a1v_Names) = some r), AC Tryd.prog 8 [.ag [.s (.int .i64 a0v_Kind), .s (.int .i64 a0v_N), .s (.string a0v_S), .im false (rowsOf Json_i a0v_List_), .im false (rowsOf Str_c a0v_Names)], .ag [.s (.int .i64 a1v_Kind), .s (.int .i64 a1v_N), .s (.string a1v_S), .im false (rowsOf Json_i a1v_List_), .im false (rowsOf Str_c a1v_Names)]] [.ag [.jk, .jk, .jk, .jk, .jk], .ag [.jk, .jk, .jk, .jk, .jk]] [.v (.s (.bool r))]
  | 0 => fun h => by cases h
  | k + 1 => fun h => laws_sameJson_acs (laws_sameJson.g k) (laws_sameJson_acg k) h
theorem laws_sameJson_ac {a0v_Kind : Int} {a0v_N : Int} {a0v_S : ByteArray} {a0v_List_ : List Json} {a0v_Names : List ByteArray} {a1v_Kind : Int} {a1v_N : Int} {a1v_S : ByteArray} {a1v_List_ : List Json} {a1v_Names : List ByteArray} {r : Bool} (h : laws_sameJson.f (Json.mk a0v_Kind a0v_N a0v_S a0v_List_ a0v_Names) (Json.mk a1v_Kind a1v_N a1v_S a1v_List_ a1v_Names) = some r) : AC Tryd.prog 8 [.ag [.s (.int .i64 a0v_Kind), .s (.int .i64 a0v_N), .s (.string a0v_S), .im false (rowsOf Json_i a0v_List_), .im false (rowsOf Str_c a0v_Names)], .ag [.s (.int .i64 a1v_Kind), .s (.int .i64 a1v_N), .s (.string a1v_S), .im false (rowsOf Json_i a1v_List_), .im false (rowsOf Str_c a1v_Names)]] [.ag [.jk, .jk, .jk, .jk, .jk], .ag [.jk, .jk, .jk, .jk, .jk]] [.v (.s (.bool r))] := laws_sameJson_acg 20 h

set_option maxRecDepth 8000 in
theorem laws_FnKids_ac {a0 : List Int} {r : Bool} (h : laws_FnKids.f a0 = some r) : AC Tryd.prog 4 [.v (.im true (rowsOf u8_c a0))] [.v (.jk)] [.v (.s (.bool r))] := by
  unfold laws_FnKids.f at h
  let ar := Ls.ar; let cm := Ls.cm; let bo := Ls.bo; let sc := Ls.sc; let sa := Ls.sa; let sx := Ls.sx; let ss := Ls.ss; let sl := Ls.sl; let bs := Ls.bs; let sb := Ls.sb; let ln := Ls.ln; let sr := Ls.sr; let ap := Ls.ap; let up := Ls.up; let rp := Ls.rp; let fr := Ls.fr; let ge := Ls.ge; let le := Ls.le; let lt := Ls.lt; let nz := Ls.nz; let mm := Ls.mm; let ma := Ls.ma; let sm := Ls.sm; let fl := Ls.fl; let al := Ls.al; let ci := Ls.ci
  let eCond_c := rowsOf Cond_c
  let eInt_c := rowsOf Int_c
  let eJson_i := rowsOf Json_i
  let eJson_k := rowsOf Json_k
  let eJson_o := rowsOf Json_o
  let eRowS_i := rowsOf RowS_i
  let eRow_i := rowsOf Row_i
  let eStr_c := rowsOf Str_c
  let eu8_c := rowsOf u8_c
  let lenI_Row := @lenI Row
  have hL : (⟨ar, cm, bo, sc, sa, sx, ss, sl, bs, sb, ln, sr, ap, up, rp, fr, ge, le, lt, nz, mm, ma, sm, fl, al, ci⟩ : Lf) = Ls := rfl
  show AC Tryd.prog 4 [.v (.im true (eu8_c a0))] _ _
  refine AC.of_run2 tab_ok Tryd.func4 (by rfl) (by rfl) (by cbv) ⟨by decide, rfl⟩ fun F hP hA => ?_
  have hT : TabOk F.P tab := hP ▸ tab_ok
  have hM : F.P.follows .mixedOrders = true := hP ▸ mixed
  have hC : ∀ {f a o r}, AC Tryd.prog f a o r → AC F.P f a o r := fun h => hP ▸ h
  refine Run.seq ?_
  refine Run.region hL hT [] (by cbv) ?_ ?_
  · exact hq0
  refine Run.seq ?_
  refine Run.seq ?_
  obtain ⟨r1, h_r1, h⟩ := bnd h
  refine Run.region hL hT [(1, .call [false] [.v (.jk)] [.v (.s (.bool r1))])] (by cbv) ?_ ?_
  · exact (hq (hC (laws_big_ac h_r1)) hq0)
  refine Run.cond (by cbv) (hq0) (fun c2 => ?_) (fun c2 => ?_)
  · have h := if_t c2 h
    refine Run.seq ?_
    refine Run.region hL hT [] (by cbv) ?_ ?_
    · exact hq0
    refine Run.ret ?_
    cases h
    refine ⟨_, _, by cbv, ?_, ?_⟩
    · exact LLe.r
    · exact (ALe.v LLe.r ALe.nil)
  · have h := if_f c2 h
    refine Run.skip ?_
    refine Run.seq ?_
    obtain ⟨⟨⟨⟨r3v_1v_Schemav_Cols⟩, r3v_1v_Version, r3v_1v_Tables⟩, ⟨r3v_2v_1v_Table, r3v_2v_1v_Where, r3v_2v_1v_Order, r3v_2v_1v_Down, r3v_2v_1v_First, r3v_2v_1v_Show, r3v_2v_1v_Kids, r3v_2v_1v_KidTable, r3v_2v_1v_KidCol⟩, r3v_2v_2⟩, h_r3, h⟩ := bnd h
    refine Run.region hL hT [(1, .call [true] [.v (.jk)] [.ag [.im true (eInt_c r3v_1v_Schemav_Cols), .s (.int .i64 r3v_1v_Version), .im true (eRowS_i r3v_1v_Tables)], .ag [.s (.int .i64 r3v_2v_1v_Table), .im true (eCond_c r3v_2v_1v_Where), .s (.int .i64 r3v_2v_1v_Order), .s (.bool r3v_2v_1v_Down), .s (.int .i64 r3v_2v_1v_First), .im true (eInt_c r3v_2v_1v_Show), .s (.bool r3v_2v_1v_Kids), .s (.int .i64 r3v_2v_1v_KidTable), .s (.int .i64 r3v_2v_1v_KidCol)], .v (.s (.int .i64 r3v_2v_2))])] (by cbv) ?_ ?_
    · exact (hq (hC (spec_DrawKidsOf_ac h_r3)) (hq trivial (hq trivial hq0)))
    refine Run.seq ?_
    obtain ⟨r4, h_r4, h⟩ := bnd h
    refine Run.region hL hT [(3, .call [false, false, false] [.ag [.jk, .jk, .jk], .ag [.jk, .jk, .jk, .jk, .jk, .jk, .jk, .jk, .jk], .v (.jk)] [.v (.s (.int .i64 r4))])] (by cbv) ?_ ?_
    · exact (hq trivial (hq trivial (hq (hC (impl_KidsOf_ac h_r4)) hq0)))
    refine Run.seq ?_
    refine Run.seq ?_
    obtain ⟨r5, h_r5, h⟩ := bnd h
    refine Run.region hL hT [(4, .call [false, false, false] [.ag [.jk, .jk, .jk], .ag [.jk, .jk, .jk, .jk, .jk, .jk, .jk, .jk, .jk], .v (.jk)] [.v (.s (.int .i64 r5))])] (by cbv) ?_ ?_
    · exact (hq trivial (hq trivial (hq (hC (spec_KidsOf_ac h_r5)) (hq trivial hq0))))
    refine Run.cond (by cbv) (hq0) (fun c6 => ?_) (fun c6 => ?_)
    · have h := if_t c6 h
      refine Run.seq ?_
      refine Run.region hL hT [] (by cbv) ?_ ?_
      · exact hq0
      refine Run.ret ?_
      cases h
      refine ⟨_, _, by cbv, ?_, ?_⟩
      · exact LLe.r
      · exact (ALe.v LLe.r ALe.nil)
    · have h := if_f c6 h
      refine Run.skip ?_
      refine Run.seq ?_
      obtain ⟨⟨⟨r7v_1v_Table, r7v_1v_Where, r7v_1v_Order, r7v_1v_Down, r7v_1v_First, r7v_1v_Show, r7v_1v_Kids, r7v_1v_KidTable, r7v_1v_KidCol⟩, ⟨r7v_2v_1v_Id, r7v_2v_1v_Cells⟩, r7v_2v_2⟩, h_r7, h⟩ := bnd h
      refine Run.region hL hT [(1, .call [true] [.v (.jk)] [.ag [.s (.int .i64 r7v_1v_Table), .ow 83 (eCond_c r7v_1v_Where), .s (.int .i64 r7v_1v_Order), .s (.bool r7v_1v_Down), .s (.int .i64 r7v_1v_First), .ow 3 (eInt_c r7v_1v_Show), .s (.bool r7v_1v_Kids), .s (.int .i64 r7v_1v_KidTable), .s (.int .i64 r7v_1v_KidCol)], .ag [.s (.int .i64 r7v_2v_1v_Id), .ow 3 (eInt_c r7v_2v_1v_Cells)], .v (.s (.int .i64 r7v_2v_2))])] (by cbv) ?_ ?_
      · exact (hq (hC (spec_DrawRowDoc_ac h_r7)) (hq trivial (hq trivial hq0)))
      refine Run.seq ?_
      refine Run.seq ?_
      obtain ⟨⟨r8v_Kind, r8v_N, r8v_S, r8v_List_, r8v_Names⟩, h_r8, h⟩ := bnd h
      obtain ⟨⟨r9v_Kind, r9v_N, r9v_S, r9v_List_, r9v_Names⟩, h_r9, h⟩ := bnd h
      obtain ⟨r10, h_r10, h⟩ := bnd h
      refine Run.draw hL hT hM [(3, .call [false, false, false] [.ag [.jk, .jk, .jk, .jk, .jk, .jk, .jk, .jk, .jk], .ag [.jk, .jk], .v (.jk)] [.ag [.s (.int .i64 r8v_Kind), .s (.int .i64 r8v_N), .s (.string r8v_S), .ow 34 (eJson_o r8v_List_), .ow 9 (eStr_c r8v_Names)]]), (7, .call [false, false, false] [.ag [.jk, .jk, .jk, .jk, .jk, .jk, .jk, .jk, .jk], .ag [.jk, .jk], .v (.jk)] [.ag [.s (.int .i64 r9v_Kind), .s (.int .i64 r9v_N), .s (.string r9v_S), .im true (eJson_k r9v_List_), .im true (eStr_c r9v_Names)]]), (8, .call [false, false] [.ag [.jk, .jk, .jk, .jk, .jk], .ag [.jk, .jk, .jk, .jk, .jk]] [.v (.s (.bool r10))])] (by cbv) (by cbv) (by cbv) (by cbv) (by cbv) ?_ ?_
      · exact (hq trivial (hq trivial (hq (hC (AC.args (impl_RowDoc_ac h_r8) (ALe.ag rfl (LLe.c (LLe.cons (LLe.im (RLe.eq (fr_row Cond_c_z _))) (LLe.c (LLe.c (LLe.c (LLe.cons (LLe.im (RLe.eq (fr_row Int_c_z _))) (LLe.c (LLe.c (LLe.c LLe.nil))))))))) (ALe.ag rfl (LLe.c (LLe.cons (LLe.im (RLe.eq (fr_row Int_c_z _))) LLe.nil)) (ALe.v LLe.r ALe.nil))))) (hq trivial (hq trivial (hq (hC (AC.args (spec_RowDoc_ac h_r9) (ALe.ag rfl (LLe.c (LLe.cons (LLe.im (RLe.eq (fr_row Cond_c_z _))) (LLe.c (LLe.c (LLe.c (LLe.cons (LLe.im (RLe.eq (fr_row Int_c_z _))) (LLe.c (LLe.c (LLe.c LLe.nil))))))))) (ALe.ag rfl (LLe.c (LLe.cons (LLe.im (RLe.eq (fr_row Int_c_z _))) LLe.nil)) (ALe.v LLe.r ALe.nil))))) (hq (hC (AC.args (laws_sameJson_ac h_r10) (ALe.ag rfl (LLe.c (LLe.c (LLe.c (LLe.cons (LLe.im (RLe.eq (fr_row Json_o_z _))) (LLe.cons (LLe.im (RLe.eq (fr_row Str_c_z _))) LLe.nil))))) (ALe.ag rfl (LLe.c (LLe.c (LLe.c (LLe.cons (LLe.im (Json_k_le _)) (LLe.c LLe.nil))))) ALe.nil)))) hq0)))))))
      refine Run.cond (by cbv) (hq0) (fun c11 => ?_) (fun c11 => ?_)
      · have h := if_t c11 h
        refine Run.seq ?_
        refine Run.region hL hT [] (by cbv) ?_ ?_
        · exact hq0
        refine Run.ret ?_
        cases h
        refine ⟨_, _, by cbv, ?_, ?_⟩
        · exact LLe.r
        · exact (ALe.v LLe.r ALe.nil)
      · have h := if_f c11 h
        refine Run.skip ?_
        refine Run.seq ?_
        refine Run.seq ?_
        obtain ⟨r12, h_r12, h⟩ := bnd h
        obtain ⟨r13, h_r13, h⟩ := bnd h
        refine Run.region hL hT [(1, .call [false] [.ag [.jk, .jk, .jk]] [.v (.s (.bool r12))]), (7, .call [false, false] [.ag [.jk], .ag [.jk, .jk, .jk, .jk, .jk, .jk, .jk, .jk, .jk]] [.v (.s (.bool r13))])] (by cbv) ?_ ?_
        · exact (hq trivial (hq (hC (spec_StoreOk_ac h_r12)) (hq (fun _ => hq0) (hq (fun g15 => (hq g15 (hq trivial hq0))) (hq (fun g16 => (hq trivial hq0)) (hq (fun g17 => (hq g17 (hq g17 (hq (hC (spec_QueryOk_ac (gd_t h_r13 g17))) hq0)))) (hq (fun g18 => (hq g18 hq0)) (hq (fun _ => hq0) (hq (fun q20 => (hq (bo_m q20) hq0)) (hq (fun _ => hq0) (hq (fun g22 => (hq g22 (hq trivial hq0))) (hq (fun g23 => (hq g23 hq0)) (hq (fun _ => hq0) (hq (fun q25 => (hq (bo_m q25) hq0)) hq0))))))))))))))
        refine Run.cond (by cbv) (hq0) (fun c26 => ?_) (fun c26 => ?_)
        · have h := if_t c26 h
          refine Run.seq ?_
          refine Run.region hL hT [] (by cbv) ?_ ?_
          · exact (hq trivial hq0)
          refine Run.ret ?_
          cases h
          refine ⟨_, _, by cbv, ?_, ?_⟩
          · exact LLe.r
          · exact (ALe.v LLe.r ALe.nil)
        · have h := if_f c26 h
          refine Run.skip ?_
          refine Run.seq ?_
          refine Run.region hL hT [] (by cbv) ?_ ?_
          · exact hq0
          refine Run.seq ?_
          obtain ⟨x27, h_x27, h⟩ := bnd h
          refine Run.region hL hT [(4, .el [.im false (eRow_i x27)])] (by cbv) ?_ ?_
          · exact (hq trivial (hq trivial (hq (get_le h_x27) (hq (get_lt (f := RowS_i) h_x27) (hq (get_ge (f := RowS_i) h_x27) hq0)))))
          refine Run.seq ?_
          refine Run.region hL hT [] (by cbv) ?_ ?_
          · exact hq0
          refine Run.seq ?_
          refine Run.seq ?_
          refine Run.region hL hT [] (by cbv) ?_ ?_
          · exact hq0
          refine Run.block ?_
          refine Run.loop3 (fun (z44 : Int) (z45 : List Int) (z46 : Int) => ⟨106, 100000, [(3, .pt 1 0 0), (4, .pt 2 0 0), (10, .t (.s (.int .i64 z44))), (11, .t (.im false (eRow_i x27))), (12, .rf 3), (13, .t (.s (.int .i64 z46)))], [(1, .box 46 [.t (.im true (eInt_c r3v_1v_Schemav_Cols)), .t (.s (.int .i64 r3v_1v_Version)), .t (.im true (eRowS_i r3v_1v_Tables))]), (2, .box 27 [.t (.s (.int .i64 r3v_2v_1v_Table)), .t (.im true (eCond_c r3v_2v_1v_Where)), .t (.s (.int .i64 r3v_2v_1v_Order)), .t (.s (.bool r3v_2v_1v_Down)), .t (.s (.int .i64 r3v_2v_1v_First)), .t (.im true (eInt_c r3v_2v_1v_Show)), .t (.s (.bool r3v_2v_1v_Kids)), .t (.s (.int .i64 r3v_2v_1v_KidTable)), .t (.s (.int .i64 r3v_2v_1v_KidCol))]), (3, .row 0 3 1 (eInt_c z45))]⟩) (x0 := 0) (x1 := []) (x2 := 0) h (Weak.of _ [(1, 8198), (2, 8199), (3, 40960)] hA (by cbv) ?_) (fun _ _ _ => rfl) ?_
          · repeat (first | exact hq0 | refine hq (by first | exact True.intro | rfl) ?_)
          · intro k z44 z45 z46 h
            rw [laws_FnKids.l0] at h
            refine Run.seq ?_
            refine Run.seq ?_
            refine Run.region hL hT [] (by cbv) ?_ ?_
            · exact (hq trivial hq0)
            rw [show ln (eRow_i x27) = lenI_Row x27 from ln_eq Row_i _]
            refine Run.cond (by cbv) (hq0) (fun c47 => ?_) (fun c47 => ?_)
            · have h := if_t c47 h
              refine Run.skip ?_
              refine Run.seq ?_
              refine Run.block ?_
              refine Run.seq ?_
              obtain ⟨⟨x48v_Id, x48v_Cells⟩, h_x48, h⟩ := bnd h
              obtain ⟨x49, h_x49, h⟩ := bnd h
              refine Run.draw hL hT hM [(2, .el [.s (.int .i64 x48v_Id), .im false (eInt_c x48v_Cells)]), (7, .el [.s (.int .i64 x49)])] (by cbv) (by cbv) (by cbv) (by cbv) (by cbv) ?_ ?_
              · exact (hq (get_le h_x48) (hq (get_lt (f := Row_i) h_x48) (hq (get_ge (f := Row_i) h_x48) (hq trivial (hq (get_le h_x49) (hq (get_lt (f := Int_c) h_x49) (hq (get_ge (f := Int_c) h_x49) hq0)))))))
              refine Run.seq ?_
              obtain ⟨r50, h_r50, h⟩ := bnd h
              refine Run.region hL hT [(2, .call [false, false] [.v (.jk), .v (.jk)] [.v (.s (.bool r50))])] (by cbv) ?_ ?_
              · exact (hq (hC (AC.args (laws_within_ac h_r50) (ALe.v (LLe.im (RLe.eq (fr_row Int_c_z _))) (ALe.v LLe.r ALe.nil)))) hq0)
              refine Run.cond (by cbv) (hq0) (fun c51 => ?_) (fun c51 => ?_)
              · have h := if_t c51 h
                refine Run.seq ?_
                obtain ⟨l52, h_l52, h⟩ := bnd h
                obtain ⟨l53, h_l53, h⟩ := bnd h
                refine Run.region hL hT [] (by cbv) ?_ ?_
                · exact (hq (app_mb (P := Tryd.prog) (f := Int_c) RLe.r (some_le (f := Int_c) h_l52 (RLe.cons rfl LLe.r RLe.nil)) h_l53) hq0)
                refine Run.row (rows := (ap (eInt_c z45) ([[.s (.int .i64 x49)]]))) 112291 (eInt_c l53) (by cbv) (app_le (f := Int_c) RLe.r (some_le (f := Int_c) h_l52 (RLe.cons rfl LLe.r RLe.nil)) h_l53) ?_
                obtain ⟨r54, h_r54, h⟩ := bnd h
                refine Run.region hL hT [(4, .call [false, false, false] [.ag [.jk, .jk, .jk], .ag [.jk, .jk, .jk, .jk, .jk, .jk, .jk, .jk, .jk], .v (.jk)] [.v (.s (.int .i64 r54))])] (by cbv) ?_ ?_
                · exact (hq trivial (hq trivial (hq (hC (impl_KidsOf_ac h_r54)) (hq trivial hq0))))
                refine Run.region hL hT [] (by cbv) ?_ ?_
                · exact (hq trivial hq0)
                refine ⟨(ar .add .i64 z44 r54), l53, (ar .add .i64 z46 1), h, Weak.of _ [(1, 1), (2, 2), (3, 112291)] hA (by cbv) ?_⟩
                repeat (first | exact hq0 | refine hq (by first | exact True.intro | rfl) ?_)
              · have h := if_f c51 h
                refine Run.skip ?_
                refine Run.region hL hT [] (by cbv) ?_ ?_
                · exact (hq trivial hq0)
                refine ⟨z44, z45, (ar .add .i64 z46 1), h, Weak.of _ [(1, 1), (2, 2), (3, 3)] hA (by cbv) ?_⟩
                repeat (first | exact hq0 | refine hq (by first | exact True.intro | rfl) ?_)
            · have h := if_f c47 h
              refine Run.exit ?_
              refine Run.seq ?_
              refine Run.region hL hT [] (by cbv) ?_ ?_
              · exact (hq trivial hq0)
              rw [show ln (eRow_i x27) = lenI_Row x27 from ln_eq Row_i _]
              refine Run.ret ?_
              cases h
              refine ⟨_, _, by cbv, ?_, ?_⟩
              · exact LLe.r
              · exact (ALe.v LLe.r ALe.nil)


end Go.Proofs.YtnhnehckapldeaaDoor.L
