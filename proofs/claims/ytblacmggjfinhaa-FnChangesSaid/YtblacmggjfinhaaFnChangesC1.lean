/- The contracts of the program's functions. -/
import Derived.Test.YtblacmggjfinhaaProg
import Derived.Test.YtblacmggjfinhaaFnChangesC0
import Derived.KernelRfl
namespace Go.Proofs.Ytblacmggjfinhaa.L
open Go Go.Proofs
set_option linter.unusedVariables false
set_option linter.unusedSimpArgs false
set_option maxRecDepth 8000 in
theorem spec_ViewOf_ac {a0v_Schemav_Cols : List Int} {a0v_Version : Int} {a0v_Tables : List (List Row)} {a1v_Table : Int} {a1v_Where : List Cond} {a1v_Order : Int} {a1v_Down : Bool} {a1v_First : Int} {a1v_Show : List Int} {a1v_Kids : Bool} {a1v_KidTable : Int} {a1v_KidCol : Int} {r : View × Bool} (h : spec_ViewOf.f (Store.mk (Schema.mk a0v_Schemav_Cols) a0v_Version a0v_Tables) (Query.mk a1v_Table a1v_Where a1v_Order a1v_Down a1v_First a1v_Show a1v_Kids a1v_KidTable a1v_KidCol) = some r) : AC Try.prog 89 [.ag [.im false (rowsOf Int_c a0v_Schemav_Cols), .s (.int .i64 a0v_Version), .im false (rowsOf RowS_i a0v_Tables)], .ag [.s (.int .i64 a1v_Table), .im false (rowsOf Cond_c a1v_Where), .s (.int .i64 a1v_Order), .s (.bool a1v_Down), .s (.int .i64 a1v_First), .im false (rowsOf Int_c a1v_Show), .s (.bool a1v_Kids), .s (.int .i64 a1v_KidTable), .s (.int .i64 a1v_KidCol)]] [.ag [.jk, .jk, .jk], .ag [.jk, .jk, .jk, .jk, .jk, .jk, .jk, .jk, .jk]] [.ag [.s (.int .i64 r.1.Q.Table), .ow 90 (rowsOf Cond_c r.1.Q.Where), .s (.int .i64 r.1.Q.Order), .s (.bool r.1.Q.Down), .s (.int .i64 r.1.Q.First), .ow 3 (rowsOf Int_c r.1.Q.Show), .s (.bool r.1.Q.Kids), .s (.int .i64 r.1.Q.KidTable), .s (.int .i64 r.1.Q.KidCol), .ow 29 (rowsOf Row_o r.1.Rows), .ow 77 (rowsOf Kid_c r.1.Kids)], .v (.s (.bool r.2))] := by
  unfold spec_ViewOf.f at h
  let ar := Ls.ar; let cm := Ls.cm; let bo := Ls.bo; let sc := Ls.sc; let sa := Ls.sa; let sx := Ls.sx; let ss := Ls.ss; let sl := Ls.sl; let bs := Ls.bs; let sb := Ls.sb; let ln := Ls.ln; let sr := Ls.sr; let ap := Ls.ap; let up := Ls.up; let rp := Ls.rp; let fr := Ls.fr; let ge := Ls.ge; let le := Ls.le; let lt := Ls.lt; let nz := Ls.nz; let mm := Ls.mm; let ma := Ls.ma; let sm := Ls.sm; let fl := Ls.fl; let al := Ls.al; let ci := Ls.ci
  let eCond_c := rowsOf Cond_c
  let eInt_c := rowsOf Int_c
  let eKid_c := rowsOf Kid_c
  let eRowS_i := rowsOf RowS_i
  let eRow_i := rowsOf Row_i
  let eRow_o := rowsOf Row_o
  let lenI_Row := @lenI Row
  have hL : (⟨ar, cm, bo, sc, sa, sx, ss, sl, bs, sb, ln, sr, ap, up, rp, fr, ge, le, lt, nz, mm, ma, sm, fl, al, ci⟩ : Lf) = Ls := rfl
  show AC Try.prog 89 [.ag [.im false (eInt_c a0v_Schemav_Cols), .s (.int .i64 a0v_Version), .im false (eRowS_i a0v_Tables)], .ag [.s (.int .i64 a1v_Table), .im false (eCond_c a1v_Where), .s (.int .i64 a1v_Order), .s (.bool a1v_Down), .s (.int .i64 a1v_First), .im false (eInt_c a1v_Show), .s (.bool a1v_Kids), .s (.int .i64 a1v_KidTable), .s (.int .i64 a1v_KidCol)]] _ _
  refine AC.of_run2 tab_ok Try.func89 (by rfl) (by rfl) (by cbv) ⟨by decide, rfl⟩ fun F hP hA => ?_
  have hT : TabOk F.P tab := hP ▸ tab_ok
  have hM : F.P.follows .mixedOrders = true := hP ▸ mixed
  have hC : ∀ {f a o r}, AC Try.prog f a o r → AC F.P f a o r := fun h => hP ▸ h
  refine Run.seq ?_
  refine Run.region hL hT [] (by cbv) ?_ ?_
  · exact hq0
  refine Run.seq ?_
  refine Run.seq ?_
  obtain ⟨r1, h_r1, h⟩ := bnd h
  obtain ⟨r2, h_r2, h⟩ := bnd h
  refine Run.region hL hT [(1, .call [false] [.ag [.jk, .jk, .jk]] [.v (.s (.bool r1))]), (7, .call [false, false] [.ag [.jk], .ag [.jk, .jk, .jk, .jk, .jk, .jk, .jk, .jk, .jk]] [.v (.s (.bool r2))])] (by cbv) ?_ ?_
  · exact (hq trivial (hq (hC (spec_StoreOk_ac h_r1)) (hq (fun _ => hq0) (hq (fun g4 => (hq g4 (hq trivial hq0))) (hq (fun g5 => (hq trivial hq0)) (hq (fun g6 => (hq g6 (hq g6 (hq (hC (spec_QueryOk_ac (gd_t h_r2 g6))) hq0)))) (hq (fun g7 => (hq g7 hq0)) (hq (fun _ => hq0) (hq (fun q9 => (hq (bo_m q9) hq0)) hq0)))))))))
  refine Run.cond (by cbv) (hq0) (fun c10 => ?_) (fun c10 => ?_)
  · have h := if_t c10 h
    refine Run.seq ?_
    refine Run.region hL hT [] (by cbv) ?_ ?_
    · exact (hq trivial hq0)
    refine Run.ret ?_
    cases h
    refine ⟨_, _, by cbv, ?_, ?_⟩
    · exact LLe.r
    · exact (ALe.ag rfl (LLe.c (LLe.cons LLe.nilO (LLe.c (LLe.c (LLe.c (LLe.cons LLe.nilO (LLe.c (LLe.c (LLe.c (LLe.cons LLe.nilO (LLe.cons LLe.nilO LLe.nil))))))))))) (ALe.v LLe.r ALe.nil))
  · have h := if_f c10 h
    refine Run.skip ?_
    refine Run.seq ?_
    obtain ⟨⟨r11v_Table, r11v_Where, r11v_Order, r11v_Down, r11v_First, r11v_Show, r11v_Kids, r11v_KidTable, r11v_KidCol⟩, h_r11, h⟩ := bnd h
    obtain ⟨r12, h_r12, h⟩ := bnd h
    refine Run.draw hL hT hM [(1, .call [false] [.ag [.jk, .jk, .jk, .jk, .jk, .jk, .jk, .jk, .jk]] [.ag [.s (.int .i64 r11v_Table), .ow 90 (eCond_c r11v_Where), .s (.int .i64 r11v_Order), .s (.bool r11v_Down), .s (.int .i64 r11v_First), .ow 3 (eInt_c r11v_Show), .s (.bool r11v_Kids), .s (.int .i64 r11v_KidTable), .s (.int .i64 r11v_KidCol)]]), (4, .call [false, false] [.ag [.jk, .jk, .jk], .ag [.jk, .jk, .jk, .jk, .jk, .jk, .jk, .jk, .jk]] [.v (.ow 29 (eRow_o r12))])] (by cbv) (by cbv) (by cbv) (by cbv) (by cbv) ?_ ?_
    · exact (hq trivial (hq (hC (spec_l9Copy_ac h_r11)) (hq trivial (hq trivial (hq (hC (spec_RowsFor_ac h_r12)) (hq trivial hq0))))))
    refine Run.seq ?_
    obtain ⟨x13, h_x13, h⟩ := bnd h
    refine Run.region hL hT [(4, .el [.im false (eRow_i x13)])] (by cbv) ?_ ?_
    · exact (hq trivial (hq trivial (hq (get_le h_x13) (hq (get_lt (f := RowS_i) h_x13) (hq (get_ge (f := RowS_i) h_x13) hq0)))))
    refine Run.seq ?_
    refine Run.seq ?_
    refine Run.region hL hT [] (by cbv) ?_ ?_
    · exact hq0
    refine Run.block ?_
    refine Run.loop2 (fun (z71 : List Kid) (z72 : Int) => ⟨56, 100000, [(3, .pt 1 0 0), (4, .pt 2 0 0), (6, .pt 3 0 0), (7, .t (.im false (eRow_i x13))), (8, .t (.s (.int .i64 z72)))], [(1, .box 27 [.t (.s (.int .i64 a1v_Table)), .t (.im false (eCond_c a1v_Where)), .t (.s (.int .i64 a1v_Order)), .t (.s (.bool a1v_Down)), .t (.s (.int .i64 a1v_First)), .t (.im false (eInt_c a1v_Show)), .t (.s (.bool a1v_Kids)), .t (.s (.int .i64 a1v_KidTable)), .t (.s (.int .i64 a1v_KidCol))]), (2, .box 49 [.t (.s (.int .i64 0)), .t (.s (.slice none 0 0)), .t (.s (.int .i64 0)), .t (.s (.bool false)), .t (.s (.int .i64 0)), .t (.s (.slice none 0 0)), .t (.s (.bool false)), .t (.s (.int .i64 0)), .t (.s (.int .i64 0)), .t (.s (.slice none 0 0)), .t (.s (.slice none 0 0))]), (3, .box 49 [.t (.s (.int .i64 r11v_Table)), .rf 4, .t (.s (.int .i64 r11v_Order)), .t (.s (.bool r11v_Down)), .t (.s (.int .i64 r11v_First)), .rf 5, .t (.s (.bool r11v_Kids)), .t (.s (.int .i64 r11v_KidTable)), .t (.s (.int .i64 r11v_KidCol)), .rf 6, .rf 7]), (4, .row 0 90 3 (eCond_c r11v_Where)), (5, .row 0 3 1 (eInt_c r11v_Show)), (6, .row 0 29 2 (eRow_o r12)), (7, .row 0 77 2 (eKid_c z71))]⟩) (x0 := []) (x1 := 0) h ((Weak.nilB (l := [.t (.s (.int .i64 r11v_Table)), .rf 8193, .t (.s (.int .i64 r11v_Order)), .t (.s (.bool r11v_Down)), .t (.s (.int .i64 r11v_First)), .rf 8449, .t (.s (.bool r11v_Kids)), .t (.s (.int .i64 r11v_KidTable)), .t (.s (.int .i64 r11v_KidCol)), .rf 8196]) hT 8198 10 21480 77 rfl (by cbv) (by cbv) (by cbv)).trans (Weak.of _ [(1, 1), (2, 2), (3, 8198), (4, 8193), (5, 8449), (6, 8196), (7, 21480)] hA (by cbv) ?_)) (fun _ _ => rfl) ?_
    · repeat (first | exact hq0 | refine hq (by first | exact True.intro | rfl) ?_)
    · intro k z71 z72 h
      rw [spec_ViewOf.l0] at h
      refine Run.seq ?_
      refine Run.seq ?_
      refine Run.region hL hT [] (by cbv) ?_ ?_
      · exact (hq trivial (hq (fun _ => hq0) (hq (fun g74 => (by have g74C := g74; rw [show ln (eRow_i x13) = lenI_Row x13 from ln_eq Row_i _] at g74C; exact (hq g74 (hq trivial hq0)))) (hq (fun q75 => (by have q75C := q75; rw [show ln (eRow_i x13) = lenI_Row x13 from ln_eq Row_i _] at q75C; exact (hq q75 hq0))) (hq (fun _ => hq0) hq0)))))
      rw [show ln (eRow_i x13) = lenI_Row x13 from ln_eq Row_i _]
      refine Run.cond (by cbv) (hq0) (fun c77 => ?_) (fun c77 => ?_)
      · have h := if_t c77 h
        refine Run.skip ?_
        refine Run.seq ?_
        refine Run.block ?_
        obtain ⟨⟨x78v_Id, x78v_Cells⟩, h_x78, h⟩ := bnd h
        obtain ⟨x79, h_x79, h⟩ := bnd h
        obtain ⟨r80, h_r80, h⟩ := bnd h
        refine Run.draw hL hT hM [(4, .el [.s (.int .i64 x78v_Id), .im false (eInt_c x78v_Cells)]), (9, .el [.s (.int .i64 x79)]), (11, .call [false, false, false] [.v (.jk), .v (.jk), .v (.jk)] [.v (.ow 77 (eKid_c r80))])] (by cbv) (by cbv) (by cbv) (by cbv) (by cbv) ?_ ?_
        · exact (hq trivial (hq (get_le h_x78) (hq (get_lt (f := Row_i) h_x78) (hq (get_ge (f := Row_i) h_x78) (hq trivial (hq (get_le h_x79) (hq (get_lt (f := Int_c) h_x79) (hq (get_ge (f := Int_c) h_x79) (hq (hC (AC.args (spec_KidPut_ac h_r80) (ALe.v (LLe.im (RLe.eq (fr_row Kid_c_z _))) (ALe.v LLe.r (ALe.v LLe.r ALe.nil))))) (hq trivial hq0))))))))))
        refine Run.region hL hT [] (by cbv) ?_ ?_
        · exact (hq trivial hq0)
        refine ⟨r80, (ar .add .i64 z72 1), h, Weak.of _ [(1, 1), (2, 2), (3, 3), (4, 4), (5, 5), (6, 6), (7, 104107)] hA (by cbv) ?_⟩
        repeat (first | exact hq0 | refine hq (by first | exact True.intro | rfl) ?_)
      · have h := if_f c77 h
        refine Run.exit ?_
        refine Run.seq ?_
        refine Run.region hL hT [] (by cbv) ?_ ?_
        · exact (hq trivial (hq trivial hq0))
        refine Run.ret ?_
        cases h
        refine ⟨_, _, by cbv, ?_, ?_⟩
        · exact LLe.r
        · exact (ALe.ag rfl LLe.r (ALe.v LLe.r ALe.nil))

set_option maxRecDepth 8000 in
theorem spec_l13DrawRight_ac {a0v_b : List Int} {a0v_i : Int} {a0v_h : Int} {r : l1Cur × Store × View} (h : spec_l13DrawRight.f (l1Cur.mk a0v_b a0v_i a0v_h) = some r) : AC Try.prog 60 [.v (.bx 82 [.im true (rowsOf u8_c a0v_b), .s (.int .i64 a0v_i), .s (.int .i64 a0v_h)])] [.v (.bx 82 [.im true (rowsOf u8_c a0v_b), .s (.int .i64 r.1.i), .s (.int .i64 r.1.h)])] [.ag [.ow 3 (rowsOf Int_c r.2.1.Schema.Cols), .s (.int .i64 r.2.1.Version), .ow 46 (rowsOf RowS_o r.2.1.Tables)], .ag [.s (.int .i64 r.2.2.Q.Table), .ow 90 (rowsOf Cond_c r.2.2.Q.Where), .s (.int .i64 r.2.2.Q.Order), .s (.bool r.2.2.Q.Down), .s (.int .i64 r.2.2.Q.First), .ow 3 (rowsOf Int_c r.2.2.Q.Show), .s (.bool r.2.2.Q.Kids), .s (.int .i64 r.2.2.Q.KidTable), .s (.int .i64 r.2.2.Q.KidCol), .ow 29 (rowsOf Row_o r.2.2.Rows), .ow 77 (rowsOf Kid_c r.2.2.Kids)]] := by
  unfold spec_l13DrawRight.f at h
  let ar := Ls.ar; let cm := Ls.cm; let bo := Ls.bo; let sc := Ls.sc; let sa := Ls.sa; let sx := Ls.sx; let ss := Ls.ss; let sl := Ls.sl; let bs := Ls.bs; let sb := Ls.sb; let ln := Ls.ln; let sr := Ls.sr; let ap := Ls.ap; let up := Ls.up; let rp := Ls.rp; let fr := Ls.fr; let ge := Ls.ge; let le := Ls.le; let lt := Ls.lt; let nz := Ls.nz; let mm := Ls.mm; let ma := Ls.ma; let sm := Ls.sm; let fl := Ls.fl; let al := Ls.al; let ci := Ls.ci
  let eCond_c := rowsOf Cond_c
  let eInt_c := rowsOf Int_c
  let eKid_c := rowsOf Kid_c
  let eRowS_o := rowsOf RowS_o
  let eRow_o := rowsOf Row_o
  let eu8_c := rowsOf u8_c
  have hL : (⟨ar, cm, bo, sc, sa, sx, ss, sl, bs, sb, ln, sr, ap, up, rp, fr, ge, le, lt, nz, mm, ma, sm, fl, al, ci⟩ : Lf) = Ls := rfl
  show AC Try.prog 60 [.v (.bx 82 [.im true (eu8_c a0v_b), .s (.int .i64 a0v_i), .s (.int .i64 a0v_h)])] _ _
  refine AC.of_run2 tab_ok Try.func60 (by rfl) (by rfl) (by cbv) ⟨by decide, rfl⟩ fun F hP hA => ?_
  have hT : TabOk F.P tab := hP ▸ tab_ok
  have hM : F.P.follows .mixedOrders = true := hP ▸ mixed
  have hC : ∀ {f a o r}, AC Try.prog f a o r → AC F.P f a o r := fun h => hP ▸ h
  refine Run.seq ?_
  refine Run.region hL hT [] (by cbv) ?_ ?_
  · exact hq0
  refine Run.seq ?_
  obtain ⟨⟨⟨r1v_1v_b, r1v_1v_i, r1v_1v_h⟩, ⟨⟨r1v_2v_Schemav_Cols⟩, r1v_2v_Version, r1v_2v_Tables⟩⟩, h_r1, h⟩ := bnd h
  refine Run.region hL hT [(1, .call [true] [.v (.bx 82 [.im true (eu8_c a0v_b), .s (.int .i64 r1v_1v_i), .s (.int .i64 r1v_1v_h)])] [.ag [.ow 3 (eInt_c r1v_2v_Schemav_Cols), .s (.int .i64 r1v_2v_Version), .ow 46 (eRowS_o r1v_2v_Tables)]])] (by cbv) ?_ ?_
  · exact (hq (hC (spec_l7DrawRight_ac h_r1)) (hq trivial hq0))
  refine Run.seq ?_
  obtain ⟨⟨⟨r2v_1v_b, r2v_1v_i, r2v_1v_h⟩, ⟨r2v_2v_Table, r2v_2v_Where, r2v_2v_Order, r2v_2v_Down, r2v_2v_First, r2v_2v_Show, r2v_2v_Kids, r2v_2v_KidTable, r2v_2v_KidCol⟩⟩, h_r2, h⟩ := bnd h
  obtain ⟨⟨⟨⟨r3v_1v_Qv_Table, r3v_1v_Qv_Where, r3v_1v_Qv_Order, r3v_1v_Qv_Down, r3v_1v_Qv_First, r3v_1v_Qv_Show, r3v_1v_Qv_Kids, r3v_1v_Qv_KidTable, r3v_1v_Qv_KidCol⟩, r3v_1v_Rows, r3v_1v_Kids⟩, r3v_2⟩, h_r3, h⟩ := bnd h
  refine Run.draw hL hT hM [(4, .call [true, false] [.v (.bx 82 [.im true (eu8_c a0v_b), .s (.int .i64 r2v_1v_i), .s (.int .i64 r2v_1v_h)]), .ag [.jk]] [.ag [.s (.int .i64 r2v_2v_Table), .ow 90 (eCond_c r2v_2v_Where), .s (.int .i64 r2v_2v_Order), .s (.bool r2v_2v_Down), .s (.int .i64 r2v_2v_First), .ow 3 (eInt_c r2v_2v_Show), .s (.bool r2v_2v_Kids), .s (.int .i64 r2v_2v_KidTable), .s (.int .i64 r2v_2v_KidCol)]]), (5, .call [false, false] [.ag [.jk, .jk, .jk], .ag [.jk, .jk, .jk, .jk, .jk, .jk, .jk, .jk, .jk]] [.ag [.s (.int .i64 r3v_1v_Qv_Table), .ow 90 (eCond_c r3v_1v_Qv_Where), .s (.int .i64 r3v_1v_Qv_Order), .s (.bool r3v_1v_Qv_Down), .s (.int .i64 r3v_1v_Qv_First), .ow 3 (eInt_c r3v_1v_Qv_Show), .s (.bool r3v_1v_Qv_Kids), .s (.int .i64 r3v_1v_Qv_KidTable), .s (.int .i64 r3v_1v_Qv_KidCol), .ow 29 (eRow_o r3v_1v_Rows), .ow 77 (eKid_c r3v_1v_Kids)], .v (.s (.bool r3v_2))])] (by cbv) (by cbv) (by cbv) (by cbv) (by cbv) ?_ ?_
  · exact (hq trivial (hq trivial (hq (hC (AC.args (spec_l9DrawRight_ac h_r2) (ALe.v LLe.r (ALe.ag rfl (LLe.cons (LLe.im (RLe.eq (fr_row Int_c_z _))) LLe.nil) ALe.nil)))) (hq (hC (AC.args (spec_ViewOf_ac h_r3) (ALe.ag rfl (LLe.cons (LLe.im (RLe.eq (fr_row Int_c_z _))) (LLe.c (LLe.cons (LLe.im (RLe.eq (fr_row RowS_o_z _))) LLe.nil))) (ALe.ag rfl (LLe.c (LLe.cons (LLe.im (RLe.eq (fr_row Cond_c_z _))) (LLe.c (LLe.c (LLe.c (LLe.cons (LLe.im (RLe.eq (fr_row Int_c_z _))) (LLe.c (LLe.c (LLe.c LLe.nil))))))))) ALe.nil)))) (hq trivial hq0)))))
  refine Run.seq ?_
  refine Run.draw hL hT hM [] (by cbv) (by cbv) (by cbv) (by cbv) (by cbv) ?_ ?_
  · exact (hq trivial (hq trivial (hq trivial (hq trivial hq0))))
  refine Run.ret ?_
  cases h
  refine ⟨_, _, by cbv, ?_, ?_⟩
  · exact LLe.r
  · exact (ALe.ag rfl LLe.r (ALe.ag rfl LLe.r ALe.nil))

set_option maxRecDepth 8000 in
theorem spec_l14Draw_ac {a0 : List Int} {r : View × (List Change)} (h : spec_l14Draw.f a0 = some r) : AC Try.prog 34 [.v (.im true (rowsOf u8_c a0))] [.v (.jk)] [.ag [.s (.int .i64 r.1.Q.Table), .ow 90 (rowsOf Cond_c r.1.Q.Where), .s (.int .i64 r.1.Q.Order), .s (.bool r.1.Q.Down), .s (.int .i64 r.1.Q.First), .ow 3 (rowsOf Int_c r.1.Q.Show), .s (.bool r.1.Q.Kids), .s (.int .i64 r.1.Q.KidTable), .s (.int .i64 r.1.Q.KidCol), .ow 29 (rowsOf Row_o r.1.Rows), .ow 77 (rowsOf Kid_c r.1.Kids)], .v (.ow 31 (rowsOf Change_o r.2))] := by
  unfold spec_l14Draw.f at h
  let ar := Ls.ar; let cm := Ls.cm; let bo := Ls.bo; let sc := Ls.sc; let sa := Ls.sa; let sx := Ls.sx; let ss := Ls.ss; let sl := Ls.sl; let bs := Ls.bs; let sb := Ls.sb; let ln := Ls.ln; let sr := Ls.sr; let ap := Ls.ap; let up := Ls.up; let rp := Ls.rp; let fr := Ls.fr; let ge := Ls.ge; let le := Ls.le; let lt := Ls.lt; let nz := Ls.nz; let mm := Ls.mm; let ma := Ls.ma; let sm := Ls.sm; let fl := Ls.fl; let al := Ls.al; let ci := Ls.ci
  let eChange_o := rowsOf Change_o
  let eCond_c := rowsOf Cond_c
  let eInt_c := rowsOf Int_c
  let eKid_c := rowsOf Kid_c
  let eMut_o := rowsOf Mut_o
  let eRowS_o := rowsOf RowS_o
  let eRow_o := rowsOf Row_o
  let eu8_c := rowsOf u8_c
  have hL : (⟨ar, cm, bo, sc, sa, sx, ss, sl, bs, sb, ln, sr, ap, up, rp, fr, ge, le, lt, nz, mm, ma, sm, fl, al, ci⟩ : Lf) = Ls := rfl
  show AC Try.prog 34 [.v (.im true (eu8_c a0))] _ _
  refine AC.of_run2 tab_ok Try.func34 (by rfl) (by rfl) (by cbv) ⟨by decide, rfl⟩ fun F hP hA => ?_
  have hT : TabOk F.P tab := hP ▸ tab_ok
  have hM : F.P.follows .mixedOrders = true := hP ▸ mixed
  have hC : ∀ {f a o r}, AC Try.prog f a o r → AC F.P f a o r := fun h => hP ▸ h
  refine Run.seq ?_
  refine Run.region hL hT [] (by cbv) ?_ ?_
  · exact hq0
  refine Run.seq ?_
  obtain ⟨⟨r1v_b, r1v_i, r1v_h⟩, h_r1, h⟩ := bnd h
  refine Run.region hL hT [(1, .call [true] [.v (.jk)] [.v (.bx 82 [.im true (eu8_c r1v_b), .s (.int .i64 r1v_i), .s (.int .i64 r1v_h)])])] (by cbv) ?_ ?_
  · exact (hq (hC (spec_l1New_ac h_r1)) hq0)
  refine Run.seq ?_
  obtain ⟨⟨⟨r2v_1v_b, r2v_1v_i, r2v_1v_h⟩, ⟨⟨r2v_2v_1v_Schemav_Cols⟩, r2v_2v_1v_Version, r2v_2v_1v_Tables⟩, ⟨⟨r2v_2v_2v_Qv_Table, r2v_2v_2v_Qv_Where, r2v_2v_2v_Qv_Order, r2v_2v_2v_Qv_Down, r2v_2v_2v_Qv_First, r2v_2v_2v_Qv_Show, r2v_2v_2v_Qv_Kids, r2v_2v_2v_Qv_KidTable, r2v_2v_2v_Qv_KidCol⟩, r2v_2v_2v_Rows, r2v_2v_2v_Kids⟩⟩, h_r2, h⟩ := bnd h
  refine Run.region hL hT [(1, .call [true] [.v (.bx 82 [.im true (eu8_c r1v_b), .s (.int .i64 r2v_1v_i), .s (.int .i64 r2v_1v_h)])] [.ag [.ow 3 (eInt_c r2v_2v_1v_Schemav_Cols), .s (.int .i64 r2v_2v_1v_Version), .ow 46 (eRowS_o r2v_2v_1v_Tables)], .ag [.s (.int .i64 r2v_2v_2v_Qv_Table), .ow 90 (eCond_c r2v_2v_2v_Qv_Where), .s (.int .i64 r2v_2v_2v_Qv_Order), .s (.bool r2v_2v_2v_Qv_Down), .s (.int .i64 r2v_2v_2v_Qv_First), .ow 3 (eInt_c r2v_2v_2v_Qv_Show), .s (.bool r2v_2v_2v_Qv_Kids), .s (.int .i64 r2v_2v_2v_Qv_KidTable), .s (.int .i64 r2v_2v_2v_Qv_KidCol), .ow 29 (eRow_o r2v_2v_2v_Rows), .ow 77 (eKid_c r2v_2v_2v_Kids)]])] (by cbv) ?_ ?_
  · exact (hq (hC (spec_l13DrawRight_ac h_r2)) (hq trivial (hq trivial hq0)))
  refine Run.seq ?_
  obtain ⟨⟨⟨r3v_1v_b, r3v_1v_i, r3v_1v_h⟩, r3v_2⟩, h_r3, h⟩ := bnd h
  obtain ⟨⟨⟨⟨r4v_1v_Schemav_Cols⟩, r4v_1v_Version, r4v_1v_Tables⟩, r4v_2v_1, r4v_2v_2⟩, h_r4, h⟩ := bnd h
  refine Run.draw hL hT hM [(3, .call [true, false] [.v (.bx 82 [.im true (eu8_c r1v_b), .s (.int .i64 r3v_1v_i), .s (.int .i64 r3v_1v_h)]), .ag [.jk, .jk, .jk]] [.v (.ow 121 (eMut_o r3v_2))]), (4, .call [false, false] [.ag [.jk, .jk, .jk], .v (.jk)] [.ag [.ow 3 (eInt_c r4v_1v_Schemav_Cols), .s (.int .i64 r4v_1v_Version), .ow 46 (eRowS_o r4v_1v_Tables)], .v (.ow 31 (eChange_o r4v_2v_1)), .v (.s (.bool r4v_2v_2))])] (by cbv) (by cbv) (by cbv) (by cbv) (by cbv) ?_ ?_
  · exact (hq trivial (hq trivial (hq (hC (AC.args (spec_l7DrawBatch_ac h_r3) (ALe.v LLe.r (ALe.ag rfl (LLe.cons (LLe.im (RLe.eq (fr_row Int_c_z _))) (LLe.c (LLe.cons (LLe.im (RLe.eq (fr_row RowS_o_z _))) LLe.nil))) ALe.nil)))) (hq (hC (AC.args (spec_BatchDo_ac h_r4) (ALe.ag rfl (LLe.cons (LLe.im (RLe.eq (fr_row Int_c_z _))) (LLe.c (LLe.cons (LLe.im (RLe.eq (fr_row RowS_o_z _))) LLe.nil))) (ALe.v (LLe.im (RLe.eq (fr_row Mut_o_z _))) ALe.nil)))) (hq trivial hq0)))))
  refine Run.seq ?_
  refine Run.seq ?_
  obtain ⟨⟨⟨r5v_1v_b, r5v_1v_i, r5v_1v_h⟩, r5v_2⟩, h_r5, h⟩ := bnd h
  refine Run.region hL hT [(1, .call [true, false] [.v (.bx 82 [.im true (eu8_c r1v_b), .s (.int .i64 r5v_1v_i), .s (.int .i64 r5v_1v_h)]), .v (.jk)] [.v (.s (.bool r5v_2))])] (by cbv) ?_ ?_
  · exact (hq (hC (spec_l1Once_ac h_r5)) hq0)
  refine Run.cond (by cbv) (hq0) (fun c6 => ?_) (fun c6 => ?_)
  · have h := if_t c6 h
    obtain ⟨⟨⟨r7v_1v_b, r7v_1v_i, r7v_1v_h⟩, r7v_2⟩, h_r7, h⟩ := bnd h
    obtain ⟨⟨⟨r8v_1v_b, r8v_1v_i, r8v_1v_h⟩, r8v_2⟩, h_r8, h⟩ := bnd h
    obtain ⟨⟨⟨r9v_1v_b, r9v_1v_i, r9v_1v_h⟩, r9v_2⟩, h_r9, h⟩ := bnd h
    obtain ⟨⟨⟨r10v_1v_b, r10v_1v_i, r10v_1v_h⟩, ⟨r10v_2v_Id, r10v_2v_Cells⟩⟩, h_r10, h⟩ := bnd h
    obtain ⟨l11, h_l11, h⟩ := bnd h
    obtain ⟨l12, h_l12, h⟩ := bnd h
    refine Run.region hL hT [(2, .call [true, false] [.v (.bx 82 [.im true (eu8_c r1v_b), .s (.int .i64 r7v_1v_i), .s (.int .i64 r7v_1v_h)]), .v (.jk)] [.v (.s (.int .i64 r7v_2))]), (4, .call [true, false] [.v (.bx 82 [.im true (eu8_c r1v_b), .s (.int .i64 r8v_1v_i), .s (.int .i64 r8v_1v_h)]), .v (.jk)] [.v (.s (.bool r8v_2))]), (6, .call [true, false] [.v (.bx 82 [.im true (eu8_c r1v_b), .s (.int .i64 r9v_1v_i), .s (.int .i64 r9v_1v_h)]), .v (.jk)] [.v (.s (.bool r9v_2))]), (8, .call [true, false] [.v (.bx 82 [.im true (eu8_c r1v_b), .s (.int .i64 r10v_1v_i), .s (.int .i64 r10v_1v_h)]), .v (.jk)] [.ag [.s (.int .i64 r10v_2v_Id), .ow 3 (eInt_c r10v_2v_Cells)]])] (by cbv) ?_ ?_
    · exact (hq (hC (spec_l1Below_ac h_r7)) (hq (hC (spec_l1Once_ac h_r8)) (hq (hC (spec_l1Once_ac h_r9)) (hq (hC (spec_l6DrawRow_ac h_r10)) (hq (app_mb (P := Try.prog) (f := Change_o) RLe.r (some_le (f := Change_o) h_l11 (RLe.cons rfl (LLe.c (LLe.c (LLe.c (LLe.c (LLe.cons LLe.nilO (LLe.c (LLe.c LLe.nil))))))) RLe.nil)) h_l12) hq0)))))
    refine Run.row (rows := (ap (eChange_o r4v_2v_1) ([[.s (.int .i64 r7v_2), .s (.bool r8v_2), .s (.bool r9v_2), .s (.int .i64 0), .s (.slice none 0 0), .s (.int .i64 r10v_2v_Id), .ow 3 (eInt_c r10v_2v_Cells)]]))) 20491 (eChange_o l12) (by cbv) (app_le (f := Change_o) RLe.r (some_le (f := Change_o) h_l11 (RLe.cons rfl (LLe.c (LLe.c (LLe.c (LLe.c (LLe.cons LLe.nilO (LLe.c (LLe.c LLe.nil))))))) RLe.nil)) h_l12) ?_
    refine Run.seq ?_
    refine Run.region hL hT [] (by cbv) ?_ ?_
    · exact (hq trivial (hq trivial hq0))
    refine Run.ret ?_
    cases h
    refine ⟨_, _, by cbv, ?_, ?_⟩
    · exact LLe.r
    · exact (ALe.ag rfl LLe.r (ALe.v LLe.r ALe.nil))
  · have h := if_f c6 h
    refine Run.skip ?_
    refine Run.seq ?_
    refine Run.region hL hT [] (by cbv) ?_ ?_
    · exact (hq trivial (hq trivial hq0))
    refine Run.ret ?_
    cases h
    refine ⟨_, _, by cbv, ?_, ?_⟩
    · exact LLe.r
    · exact (ALe.ag rfl LLe.r (ALe.v LLe.r ALe.nil))

set_option maxRecDepth 8000 in
theorem spec_DrawViewChanges_ac {a0 : List Int} {r : View × (List Change)} (h : spec_DrawViewChanges.f a0 = some r) : AC Try.prog 16 [.v (.im true (rowsOf u8_c a0))] [.v (.jk)] [.ag [.s (.int .i64 r.1.Q.Table), .ow 90 (rowsOf Cond_c r.1.Q.Where), .s (.int .i64 r.1.Q.Order), .s (.bool r.1.Q.Down), .s (.int .i64 r.1.Q.First), .ow 3 (rowsOf Int_c r.1.Q.Show), .s (.bool r.1.Q.Kids), .s (.int .i64 r.1.Q.KidTable), .s (.int .i64 r.1.Q.KidCol), .ow 29 (rowsOf Row_o r.1.Rows), .ow 77 (rowsOf Kid_c r.1.Kids)], .v (.ow 31 (rowsOf Change_o r.2))] := by
  unfold spec_DrawViewChanges.f at h
  let ar := Ls.ar; let cm := Ls.cm; let bo := Ls.bo; let sc := Ls.sc; let sa := Ls.sa; let sx := Ls.sx; let ss := Ls.ss; let sl := Ls.sl; let bs := Ls.bs; let sb := Ls.sb; let ln := Ls.ln; let sr := Ls.sr; let ap := Ls.ap; let up := Ls.up; let rp := Ls.rp; let fr := Ls.fr; let ge := Ls.ge; let le := Ls.le; let lt := Ls.lt; let nz := Ls.nz; let mm := Ls.mm; let ma := Ls.ma; let sm := Ls.sm; let fl := Ls.fl; let al := Ls.al; let ci := Ls.ci
  let eChange_o := rowsOf Change_o
  let eCond_c := rowsOf Cond_c
  let eInt_c := rowsOf Int_c
  let eKid_c := rowsOf Kid_c
  let eRow_o := rowsOf Row_o
  let eu8_c := rowsOf u8_c
  have hL : (⟨ar, cm, bo, sc, sa, sx, ss, sl, bs, sb, ln, sr, ap, up, rp, fr, ge, le, lt, nz, mm, ma, sm, fl, al, ci⟩ : Lf) = Ls := rfl
  show AC Try.prog 16 [.v (.im true (eu8_c a0))] _ _
  refine AC.of_run2 tab_ok Try.func16 (by rfl) (by rfl) (by cbv) ⟨by decide, rfl⟩ fun F hP hA => ?_
  have hT : TabOk F.P tab := hP ▸ tab_ok
  have hM : F.P.follows .mixedOrders = true := hP ▸ mixed
  have hC : ∀ {f a o r}, AC Try.prog f a o r → AC F.P f a o r := fun h => hP ▸ h
  refine Run.seq ?_
  refine Run.region hL hT [] (by cbv) ?_ ?_
  · exact hq0
  refine Run.seq ?_
  obtain ⟨⟨⟨⟨r1v_1v_Qv_Table, r1v_1v_Qv_Where, r1v_1v_Qv_Order, r1v_1v_Qv_Down, r1v_1v_Qv_First, r1v_1v_Qv_Show, r1v_1v_Qv_Kids, r1v_1v_Qv_KidTable, r1v_1v_Qv_KidCol⟩, r1v_1v_Rows, r1v_1v_Kids⟩, r1v_2⟩, h_r1, h⟩ := bnd h
  refine Run.region hL hT [(1, .call [true] [.v (.jk)] [.ag [.s (.int .i64 r1v_1v_Qv_Table), .ow 90 (eCond_c r1v_1v_Qv_Where), .s (.int .i64 r1v_1v_Qv_Order), .s (.bool r1v_1v_Qv_Down), .s (.int .i64 r1v_1v_Qv_First), .ow 3 (eInt_c r1v_1v_Qv_Show), .s (.bool r1v_1v_Qv_Kids), .s (.int .i64 r1v_1v_Qv_KidTable), .s (.int .i64 r1v_1v_Qv_KidCol), .ow 29 (eRow_o r1v_1v_Rows), .ow 77 (eKid_c r1v_1v_Kids)], .v (.ow 31 (eChange_o r1v_2))])] (by cbv) ?_ ?_
  · exact (hq (hC (spec_l14Draw_ac h_r1)) (hq trivial hq0))
  refine Run.seq ?_
  refine Run.region hL hT [] (by cbv) ?_ ?_
  · exact (hq trivial (hq trivial hq0))
  refine Run.ret ?_
  cases h
  refine ⟨_, _, by cbv, ?_, ?_⟩
  · exact LLe.r
  · exact (ALe.ag rfl LLe.r (ALe.v LLe.r ALe.nil))

set_option maxRecDepth 8000 in
theorem impl_within_ac {a0 : Int} {a1 : Int} {a2 : Int} {r : Bool} (h : impl_within.f a0 a1 a2 = some r) : AC Try.prog 51 [.v (.s (.int .i64 a0)), .v (.s (.int .i64 a1)), .v (.s (.int .i64 a2))] [.v (.jk), .v (.jk), .v (.jk)] [.v (.s (.bool r))] := by
  unfold impl_within.f at h
  let ar := Ls.ar; let cm := Ls.cm; let bo := Ls.bo; let sc := Ls.sc; let sa := Ls.sa; let sx := Ls.sx; let ss := Ls.ss; let sl := Ls.sl; let bs := Ls.bs; let sb := Ls.sb; let ln := Ls.ln; let sr := Ls.sr; let ap := Ls.ap; let up := Ls.up; let rp := Ls.rp; let fr := Ls.fr; let ge := Ls.ge; let le := Ls.le; let lt := Ls.lt; let nz := Ls.nz; let mm := Ls.mm; let ma := Ls.ma; let sm := Ls.sm; let fl := Ls.fl; let al := Ls.al; let ci := Ls.ci
  have hL : (⟨ar, cm, bo, sc, sa, sx, ss, sl, bs, sb, ln, sr, ap, up, rp, fr, ge, le, lt, nz, mm, ma, sm, fl, al, ci⟩ : Lf) = Ls := rfl
  show AC Try.prog 51 [.v (.s (.int .i64 a0)), .v (.s (.int .i64 a1)), .v (.s (.int .i64 a2))] _ _
  refine AC.of_run2 tab_ok Try.func51 (by rfl) (by rfl) (by cbv) ⟨by decide, rfl⟩ fun F hP hA => ?_
  have hT : TabOk F.P tab := hP ▸ tab_ok
  have hM : F.P.follows .mixedOrders = true := hP ▸ mixed
  have hC : ∀ {f a o r}, AC Try.prog f a o r → AC F.P f a o r := fun h => hP ▸ h
  refine Run.seq ?_
  refine Run.region hL hT [] (by cbv) ?_ ?_
  · exact hq0
  refine Run.seq ?_
  refine Run.region hL hT [] (by cbv) ?_ ?_
  · exact (hq trivial (hq (fun _ => hq0) (hq (fun _ => hq0) (hq (fun g3 => (hq g3 (hq g3 (hq trivial hq0)))) (hq (fun q4 => (hq q4 hq0)) (hq (fun _ => hq0) hq0))))))
  refine Run.ret ?_
  cases h
  refine ⟨_, _, by cbv, ?_, ?_⟩
  · exact LLe.r
  · exact (ALe.v LLe.r ALe.nil)

set_option maxRecDepth 8000 in
theorem impl_holds_ac {a0v_Col : Int} {a0v_Op : Int} {a0v_V : Int} {a1v_Id : Int} {a1v_Cells : List Int} {r : Bool} (h : impl_holds.f (Cond.mk a0v_Col a0v_Op a0v_V) (Row.mk a1v_Id a1v_Cells) = some r) : AC Try.prog 50 [.ag [.s (.int .i64 a0v_Col), .s (.int .i64 a0v_Op), .s (.int .i64 a0v_V)], .ag [.s (.int .i64 a1v_Id), .im false (rowsOf Int_c a1v_Cells)]] [.ag [.jk, .jk, .jk], .ag [.jk, .jk]] [.v (.s (.bool r))] := by
  unfold impl_holds.f at h
  let ar := Ls.ar; let cm := Ls.cm; let bo := Ls.bo; let sc := Ls.sc; let sa := Ls.sa; let sx := Ls.sx; let ss := Ls.ss; let sl := Ls.sl; let bs := Ls.bs; let sb := Ls.sb; let ln := Ls.ln; let sr := Ls.sr; let ap := Ls.ap; let up := Ls.up; let rp := Ls.rp; let fr := Ls.fr; let ge := Ls.ge; let le := Ls.le; let lt := Ls.lt; let nz := Ls.nz; let mm := Ls.mm; let ma := Ls.ma; let sm := Ls.sm; let fl := Ls.fl; let al := Ls.al; let ci := Ls.ci
  let eInt_c := rowsOf Int_c
  let lenI_Int := @lenI Int
  have hL : (⟨ar, cm, bo, sc, sa, sx, ss, sl, bs, sb, ln, sr, ap, up, rp, fr, ge, le, lt, nz, mm, ma, sm, fl, al, ci⟩ : Lf) = Ls := rfl
  show AC Try.prog 50 [.ag [.s (.int .i64 a0v_Col), .s (.int .i64 a0v_Op), .s (.int .i64 a0v_V)], .ag [.s (.int .i64 a1v_Id), .im false (eInt_c a1v_Cells)]] _ _
  refine AC.of_run2 tab_ok Try.func50 (by rfl) (by rfl) (by cbv) ⟨by decide, rfl⟩ fun F hP hA => ?_
  have hT : TabOk F.P tab := hP ▸ tab_ok
  have hM : F.P.follows .mixedOrders = true := hP ▸ mixed
  have hC : ∀ {f a o r}, AC Try.prog f a o r → AC F.P f a o r := fun h => hP ▸ h
  refine Run.seq ?_
  refine Run.region hL hT [] (by cbv) ?_ ?_
  · exact hq0
  refine Run.seq ?_
  refine Run.seq ?_
  obtain ⟨r1, h_r1, h⟩ := bnd h
  refine Run.region hL hT [(6, .call [false, false, false] [.v (.jk), .v (.jk), .v (.jk)] [.v (.s (.bool r1))])] (by cbv) ?_ ?_
  · exact (hq trivial (hq trivial (hq trivial (hq (by rw [show ln (eInt_c a1v_Cells) = lenI_Int a1v_Cells from ln_eq Int_c _]; exact (hC (impl_within_ac h_r1))) hq0))))
  rw [show ln (eInt_c a1v_Cells) = lenI_Int a1v_Cells from ln_eq Int_c _]
  refine Run.cond (by cbv) (hq0) (fun c2 => ?_) (fun c2 => ?_)
  · have h := if_t c2 h
    refine Run.seq ?_
    refine Run.region hL hT [] (by cbv) ?_ ?_
    · exact hq0
    refine Run.ret ?_
    cases h
    refine ⟨_, _, by cbv, ?_, ?_⟩
    · exact LLe.r
    · exact (ALe.v LLe.r ALe.nil)
  · have h := if_f c2 h
    refine Run.skip ?_
    refine Run.seq ?_
    obtain ⟨x3, h_x3, h⟩ := bnd h
    refine Run.region hL hT [(4, .el [.s (.int .i64 x3)])] (by cbv) ?_ ?_
    · exact (hq trivial (hq trivial (hq (get_le h_x3) (hq (get_lt (f := Int_c) h_x3) (hq (get_ge (f := Int_c) h_x3) hq0)))))
    refine Run.seq ?_
    refine Run.seq ?_
    refine Run.region hL hT [] (by cbv) ?_ ?_
    · exact (hq trivial hq0)
    refine Run.block ?_
    refine Run.seq ?_
    refine Run.region hL hT [] (by cbv) ?_ ?_
    · exact (hq trivial hq0)
    refine Run.cond (by cbv) (hq0) (fun c4 => ?_) (fun c4 => ?_)
    · have h := if_t c4 h
      refine Run.seq ?_
      refine Run.region hL hT [] (by cbv) ?_ ?_
      · exact (hq trivial (hq trivial hq0))
      refine Run.ret ?_
      cases h
      refine ⟨_, _, by cbv, ?_, ?_⟩
      · exact LLe.r
      · exact (ALe.v LLe.r ALe.nil)
    · have h := if_f c4 h
      refine Run.seq ?_
      refine Run.region hL hT [] (by cbv) ?_ ?_
      · exact (hq trivial hq0)
      refine Run.cond (by cbv) (hq0) (fun c5 => ?_) (fun c5 => ?_)
      · have h := if_t c5 h
        refine Run.seq ?_
        refine Run.region hL hT [] (by cbv) ?_ ?_
        · exact (hq trivial (hq trivial hq0))
        refine Run.ret ?_
        cases h
        refine ⟨_, _, by cbv, ?_, ?_⟩
        · exact LLe.r
        · exact (ALe.v LLe.r ALe.nil)
      · have h := if_f c5 h
        refine Run.seq ?_
        refine Run.region hL hT [] (by cbv) ?_ ?_
        · exact (hq trivial hq0)
        refine Run.cond (by cbv) (hq0) (fun c6 => ?_) (fun c6 => ?_)
        · have h := if_t c6 h
          refine Run.seq ?_
          refine Run.region hL hT [] (by cbv) ?_ ?_
          · exact (hq trivial (hq trivial hq0))
          refine Run.ret ?_
          cases h
          refine ⟨_, _, by cbv, ?_, ?_⟩
          · exact LLe.r
          · exact (ALe.v LLe.r ALe.nil)
        · have h := if_f c6 h
          refine Run.skip ?_
          refine Run.seq ?_
          refine Run.region hL hT [] (by cbv) ?_ ?_
          · exact (hq trivial (hq trivial (hq (fun _ => hq0) (hq (fun _ => hq0) (hq (fun g9 => (hq g9 (hq trivial hq0))) (hq (fun g10 => (hq g10 (hq g10 (hq trivial hq0)))) (hq (fun q11 => (hq q11 hq0)) (hq (fun _ => hq0) hq0))))))))
          refine Run.ret ?_
          cases h
          refine ⟨_, _, by cbv, ?_, ?_⟩
          · exact LLe.r
          · exact (ALe.v LLe.r ALe.nil)

set_option maxRecDepth 8000 in
theorem impl_Matches_ac {a0v_Table : Int} {a0v_Where : List Cond} {a0v_Order : Int} {a0v_Down : Bool} {a0v_First : Int} {a0v_Show : List Int} {a0v_Kids : Bool} {a0v_KidTable : Int} {a0v_KidCol : Int} {a1v_Id : Int} {a1v_Cells : List Int} {r : Bool} (h : impl_Matches.f (Query.mk a0v_Table a0v_Where a0v_Order a0v_Down a0v_First a0v_Show a0v_Kids a0v_KidTable a0v_KidCol) (Row.mk a1v_Id a1v_Cells) = some r) : AC Try.prog 27 [.ag [.s (.int .i64 a0v_Table), .im false (rowsOf Cond_c a0v_Where), .s (.int .i64 a0v_Order), .s (.bool a0v_Down), .s (.int .i64 a0v_First), .im false (rowsOf Int_c a0v_Show), .s (.bool a0v_Kids), .s (.int .i64 a0v_KidTable), .s (.int .i64 a0v_KidCol)], .ag [.s (.int .i64 a1v_Id), .im false (rowsOf Int_c a1v_Cells)]] [.ag [.jk, .jk, .jk, .jk, .jk, .jk, .jk, .jk, .jk], .ag [.jk, .jk]] [.v (.s (.bool r))] := by
  unfold impl_Matches.f at h
  let ar := Ls.ar; let cm := Ls.cm; let bo := Ls.bo; let sc := Ls.sc; let sa := Ls.sa; let sx := Ls.sx; let ss := Ls.ss; let sl := Ls.sl; let bs := Ls.bs; let sb := Ls.sb; let ln := Ls.ln; let sr := Ls.sr; let ap := Ls.ap; let up := Ls.up; let rp := Ls.rp; let fr := Ls.fr; let ge := Ls.ge; let le := Ls.le; let lt := Ls.lt; let nz := Ls.nz; let mm := Ls.mm; let ma := Ls.ma; let sm := Ls.sm; let fl := Ls.fl; let al := Ls.al; let ci := Ls.ci
  let eCond_c := rowsOf Cond_c
  let eInt_c := rowsOf Int_c
  let lenI_Cond := @lenI Cond
  have hL : (⟨ar, cm, bo, sc, sa, sx, ss, sl, bs, sb, ln, sr, ap, up, rp, fr, ge, le, lt, nz, mm, ma, sm, fl, al, ci⟩ : Lf) = Ls := rfl
  show AC Try.prog 27 [.ag [.s (.int .i64 a0v_Table), .im false (eCond_c a0v_Where), .s (.int .i64 a0v_Order), .s (.bool a0v_Down), .s (.int .i64 a0v_First), .im false (eInt_c a0v_Show), .s (.bool a0v_Kids), .s (.int .i64 a0v_KidTable), .s (.int .i64 a0v_KidCol)], .ag [.s (.int .i64 a1v_Id), .im false (eInt_c a1v_Cells)]] _ _
  refine AC.of_run2 tab_ok Try.func27 (by rfl) (by rfl) (by cbv) ⟨by decide, rfl⟩ fun F hP hA => ?_
  have hT : TabOk F.P tab := hP ▸ tab_ok
  have hM : F.P.follows .mixedOrders = true := hP ▸ mixed
  have hC : ∀ {f a o r}, AC Try.prog f a o r → AC F.P f a o r := fun h => hP ▸ h
  refine Run.seq ?_
  refine Run.region hL hT [] (by cbv) ?_ ?_
  · exact hq0
  refine Run.seq ?_
  refine Run.seq ?_
  refine Run.region hL hT [] (by cbv) ?_ ?_
  · exact (hq trivial hq0)
  rw [show ln (eCond_c a0v_Where) = lenI_Cond a0v_Where from ln_eq Cond_c _]
  refine Run.block ?_
  refine Run.loop1 (fun (z6 : Int) => ⟨19, 100000, [(3, .pt 1 0 0), (8, .t (.im false (eCond_c a0v_Where))), (9, .t (.s (.int .i64 (lenI_Cond a0v_Where)))), (10, .t (.s (.int .i64 z6)))], [(1, .box 29 [.t (.s (.int .i64 a1v_Id)), .t (.im false (eInt_c a1v_Cells))])]⟩) (x0 := 0) h (Weak.of _ [(1, 1)] hA (by cbv) ?_) (fun _ => rfl) ?_
  · repeat (first | exact hq0 | refine hq (by first | exact True.intro | rfl) ?_)
  · intro k z6 h
    rw [impl_Matches.l0] at h
    refine Run.seq ?_
    refine Run.region hL hT [] (by cbv) ?_ ?_
    · exact (hq trivial hq0)
    refine Run.seq ?_
    refine Run.cond (by cbv) (hq0) (fun c7 => ?_) (fun c7 => ?_)
    · have h := if_t c7 h
      refine Run.skip ?_
      refine Run.seq ?_
      refine Run.block ?_
      refine Run.seq ?_
      obtain ⟨⟨x8v_Col, x8v_Op, x8v_V⟩, h_x8, h⟩ := bnd h
      refine Run.region hL hT [(0, .el [.s (.int .i64 x8v_Col), .s (.int .i64 x8v_Op), .s (.int .i64 x8v_V)])] (by cbv) ?_ ?_
      · exact (hq (get_le h_x8) (hq (get_lt (f := Cond_c) h_x8) (hq (get_ge (f := Cond_c) h_x8) (hq trivial hq0))))
      refine Run.seq ?_
      obtain ⟨r9, h_r9, h⟩ := bnd h
      refine Run.region hL hT [(2, .call [false, false] [.ag [.jk, .jk, .jk], .ag [.jk, .jk]] [.v (.s (.bool r9))])] (by cbv) ?_ ?_
      · exact (hq trivial (hq trivial (hq (hC (impl_holds_ac h_r9)) hq0)))
      refine Run.cond (by cbv) (hq0) (fun c10 => ?_) (fun c10 => ?_)
      · have h := if_t c10 h
        refine Run.seq ?_
        refine Run.region hL hT [] (by cbv) ?_ ?_
        · exact hq0
        refine Run.ret ?_
        cases h
        refine ⟨_, _, by cbv, ?_, ?_⟩
        · exact LLe.r
        · exact (ALe.v LLe.r ALe.nil)
      · have h := if_f c10 h
        refine Run.skip ?_
        refine Run.region hL hT [] (by cbv) ?_ ?_
        · exact (hq trivial hq0)
        refine ⟨(ar .add .i64 z6 1), h, Weak.of _ [(1, 1)] hA (by cbv) ?_⟩
        repeat (first | exact hq0 | refine hq (by first | exact True.intro | rfl) ?_)
    · have h := if_f c7 h
      refine Run.exit ?_
      refine Run.seq ?_
      refine Run.region hL hT [] (by cbv) ?_ ?_
      · exact hq0
      refine Run.ret ?_
      cases h
      refine ⟨_, _, by cbv, ?_, ?_⟩
      · exact LLe.r
      · exact (ALe.v LLe.r ALe.nil)

set_option maxRecDepth 8000 in
theorem impl_cellOf_ac {a0v_Id : Int} {a0v_Cells : List Int} {a1 : Int} {r : Int} (h : impl_cellOf.f (Row.mk a0v_Id a0v_Cells) a1 = some r) : AC Try.prog 28 [.ag [.s (.int .i64 a0v_Id), .im false (rowsOf Int_c a0v_Cells)], .v (.s (.int .i64 a1))] [.ag [.jk, .jk], .v (.jk)] [.v (.s (.int .i64 r))] := by
  unfold impl_cellOf.f at h
  let ar := Ls.ar; let cm := Ls.cm; let bo := Ls.bo; let sc := Ls.sc; let sa := Ls.sa; let sx := Ls.sx; let ss := Ls.ss; let sl := Ls.sl; let bs := Ls.bs; let sb := Ls.sb; let ln := Ls.ln; let sr := Ls.sr; let ap := Ls.ap; let up := Ls.up; let rp := Ls.rp; let fr := Ls.fr; let ge := Ls.ge; let le := Ls.le; let lt := Ls.lt; let nz := Ls.nz; let mm := Ls.mm; let ma := Ls.ma; let sm := Ls.sm; let fl := Ls.fl; let al := Ls.al; let ci := Ls.ci
  let eInt_c := rowsOf Int_c
  let lenI_Int := @lenI Int
  have hL : (⟨ar, cm, bo, sc, sa, sx, ss, sl, bs, sb, ln, sr, ap, up, rp, fr, ge, le, lt, nz, mm, ma, sm, fl, al, ci⟩ : Lf) = Ls := rfl
  show AC Try.prog 28 [.ag [.s (.int .i64 a0v_Id), .im false (eInt_c a0v_Cells)], .v (.s (.int .i64 a1))] _ _
  refine AC.of_run2 tab_ok Try.func28 (by rfl) (by rfl) (by cbv) ⟨by decide, rfl⟩ fun F hP hA => ?_
  have hT : TabOk F.P tab := hP ▸ tab_ok
  have hM : F.P.follows .mixedOrders = true := hP ▸ mixed
  have hC : ∀ {f a o r}, AC Try.prog f a o r → AC F.P f a o r := fun h => hP ▸ h
  refine Run.seq ?_
  refine Run.region hL hT [] (by cbv) ?_ ?_
  · exact hq0
  refine Run.seq ?_
  refine Run.seq ?_
  obtain ⟨r1, h_r1, h⟩ := bnd h
  refine Run.region hL hT [(5, .call [false, false, false] [.v (.jk), .v (.jk), .v (.jk)] [.v (.s (.bool r1))])] (by cbv) ?_ ?_
  · exact (hq trivial (hq trivial (hq (by rw [show ln (eInt_c a0v_Cells) = lenI_Int a0v_Cells from ln_eq Int_c _]; exact (hC (impl_within_ac h_r1))) hq0)))
  rw [show ln (eInt_c a0v_Cells) = lenI_Int a0v_Cells from ln_eq Int_c _]
  refine Run.cond (by cbv) (hq0) (fun c2 => ?_) (fun c2 => ?_)
  · have h := if_t c2 h
    refine Run.seq ?_
    refine Run.region hL hT [] (by cbv) ?_ ?_
    · exact hq0
    refine Run.ret ?_
    cases h
    refine ⟨_, _, by cbv, ?_, ?_⟩
    · exact LLe.r
    · exact (ALe.v LLe.r ALe.nil)
  · have h := if_f c2 h
    refine Run.skip ?_
    refine Run.seq ?_
    obtain ⟨x3, h_x3, h⟩ := bnd h
    refine Run.region hL hT [(3, .el [.s (.int .i64 x3)])] (by cbv) ?_ ?_
    · exact (hq trivial (hq (get_le h_x3) (hq (get_lt (f := Int_c) h_x3) (hq (get_ge (f := Int_c) h_x3) hq0))))
    refine Run.ret ?_
    cases h
    refine ⟨_, _, by cbv, ?_, ?_⟩
    · exact LLe.r
    · exact (ALe.v LLe.r ALe.nil)

set_option maxRecDepth 8000 in
theorem impl_copyInts_ac {a0 : List Int} {r : (List Int)} (h : impl_copyInts.f a0 = some r) : AC Try.prog 90 [.v (.im false (rowsOf Int_c a0))] [.v (.jk)] [.v (.ow 3 (rowsOf Int_c r))] := by
  unfold impl_copyInts.f at h
  let ar := Ls.ar; let cm := Ls.cm; let bo := Ls.bo; let sc := Ls.sc; let sa := Ls.sa; let sx := Ls.sx; let ss := Ls.ss; let sl := Ls.sl; let bs := Ls.bs; let sb := Ls.sb; let ln := Ls.ln; let sr := Ls.sr; let ap := Ls.ap; let up := Ls.up; let rp := Ls.rp; let fr := Ls.fr; let ge := Ls.ge; let le := Ls.le; let lt := Ls.lt; let nz := Ls.nz; let mm := Ls.mm; let ma := Ls.ma; let sm := Ls.sm; let fl := Ls.fl; let al := Ls.al; let ci := Ls.ci
  let eInt_c := rowsOf Int_c
  have hL : (⟨ar, cm, bo, sc, sa, sx, ss, sl, bs, sb, ln, sr, ap, up, rp, fr, ge, le, lt, nz, mm, ma, sm, fl, al, ci⟩ : Lf) = Ls := rfl
  show AC Try.prog 90 [.v (.im false (eInt_c a0))] _ _
  refine AC.of_run2 tab_ok Try.func90 (by rfl) (by rfl) (by cbv) ⟨by decide, rfl⟩ fun F hP hA => ?_
  have hT : TabOk F.P tab := hP ▸ tab_ok
  have hM : F.P.follows .mixedOrders = true := hP ▸ mixed
  have hC : ∀ {f a o r}, AC Try.prog f a o r → AC F.P f a o r := fun h => hP ▸ h
  refine Run.seq ?_
  refine Run.region hL hT [] (by cbv) ?_ ?_
  · exact hq0
  refine Run.seq ?_
  obtain ⟨l1, h_l1, h⟩ := bnd h
  refine Run.region hL hT [] (by cbv) ?_ ?_
  · exact (hq (fl_row Int_c_f _) (hq (app_mb (P := Try.prog) (f := Int_c) RLe.r RLe.r h_l1) hq0))
  refine Run.row (rows := (ap ([]) ((eInt_c a0)))) 4098 (eInt_c l1) (by cbv) (app_le (f := Int_c) RLe.r RLe.r h_l1) ?_
  refine Run.ret ?_
  cases h
  refine ⟨_, _, by cbv, ?_, ?_⟩
  · exact LLe.r
  · exact (ALe.v LLe.r ALe.nil)

set_option maxRecDepth 8000 in
theorem impl_copyQuery_ac {a0v_Table : Int} {a0v_Where : List Cond} {a0v_Order : Int} {a0v_Down : Bool} {a0v_First : Int} {a0v_Show : List Int} {a0v_Kids : Bool} {a0v_KidTable : Int} {a0v_KidCol : Int} {r : Query} (h : impl_copyQuery.f (Query.mk a0v_Table a0v_Where a0v_Order a0v_Down a0v_First a0v_Show a0v_Kids a0v_KidTable a0v_KidCol) = some r) : AC Try.prog 62 [.ag [.s (.int .i64 a0v_Table), .im false (rowsOf Cond_c a0v_Where), .s (.int .i64 a0v_Order), .s (.bool a0v_Down), .s (.int .i64 a0v_First), .im false (rowsOf Int_c a0v_Show), .s (.bool a0v_Kids), .s (.int .i64 a0v_KidTable), .s (.int .i64 a0v_KidCol)]] [.ag [.jk, .jk, .jk, .jk, .jk, .jk, .jk, .jk, .jk]] [.ag [.s (.int .i64 r.Table), .ow 90 (rowsOf Cond_c r.Where), .s (.int .i64 r.Order), .s (.bool r.Down), .s (.int .i64 r.First), .ow 3 (rowsOf Int_c r.Show), .s (.bool r.Kids), .s (.int .i64 r.KidTable), .s (.int .i64 r.KidCol)]] := by
  unfold impl_copyQuery.f at h
  let ar := Ls.ar; let cm := Ls.cm; let bo := Ls.bo; let sc := Ls.sc; let sa := Ls.sa; let sx := Ls.sx; let ss := Ls.ss; let sl := Ls.sl; let bs := Ls.bs; let sb := Ls.sb; let ln := Ls.ln; let sr := Ls.sr; let ap := Ls.ap; let up := Ls.up; let rp := Ls.rp; let fr := Ls.fr; let ge := Ls.ge; let le := Ls.le; let lt := Ls.lt; let nz := Ls.nz; let mm := Ls.mm; let ma := Ls.ma; let sm := Ls.sm; let fl := Ls.fl; let al := Ls.al; let ci := Ls.ci
  let eCond_c := rowsOf Cond_c
  let eInt_c := rowsOf Int_c
  have hL : (⟨ar, cm, bo, sc, sa, sx, ss, sl, bs, sb, ln, sr, ap, up, rp, fr, ge, le, lt, nz, mm, ma, sm, fl, al, ci⟩ : Lf) = Ls := rfl
  show AC Try.prog 62 [.ag [.s (.int .i64 a0v_Table), .im false (eCond_c a0v_Where), .s (.int .i64 a0v_Order), .s (.bool a0v_Down), .s (.int .i64 a0v_First), .im false (eInt_c a0v_Show), .s (.bool a0v_Kids), .s (.int .i64 a0v_KidTable), .s (.int .i64 a0v_KidCol)]] _ _
  refine AC.of_run2 tab_ok Try.func62 (by rfl) (by rfl) (by cbv) ⟨by decide, rfl⟩ fun F hP hA => ?_
  have hT : TabOk F.P tab := hP ▸ tab_ok
  have hM : F.P.follows .mixedOrders = true := hP ▸ mixed
  have hC : ∀ {f a o r}, AC Try.prog f a o r → AC F.P f a o r := fun h => hP ▸ h
  refine Run.seq ?_
  refine Run.region hL hT [] (by cbv) ?_ ?_
  · exact hq0
  refine Run.seq ?_
  obtain ⟨l1, h_l1, h⟩ := bnd h
  obtain ⟨r2, h_r2, h⟩ := bnd h
  refine Run.draw hL hT hM [(6, .call [false] [.v (.jk)] [.v (.ow 3 (eInt_c r2))])] (by cbv) (by cbv) (by cbv) (by cbv) (by cbv) ?_ ?_
  · exact (hq trivial (hq (fl_row Cond_c_f _) (hq (app_mb (P := Try.prog) (f := Cond_c) RLe.r RLe.r h_l1) (hq trivial (hq (hC (impl_copyInts_ac h_r2)) (hq trivial (hq trivial hq0)))))))
  refine Run.row (rows := (ap ([]) ((eCond_c a0v_Where)))) 4099 (eCond_c l1) (by cbv) (app_le (f := Cond_c) RLe.r RLe.r h_l1) ?_
  refine Run.seq ?_
  refine Run.region hL hT [] (by cbv) ?_ ?_
  · exact (hq trivial (hq trivial hq0))
  refine Run.ret ?_
  cases h
  refine ⟨_, _, by cbv, ?_, ?_⟩
  · exact LLe.r
  · exact (ALe.ag rfl LLe.r ALe.nil)

set_option maxRecDepth 8000 in
theorem impl_copyRow_ac {a0v_Id : Int} {a0v_Cells : List Int} {r : Row} (h : impl_copyRow.f (Row.mk a0v_Id a0v_Cells) = some r) : AC Try.prog 77 [.ag [.s (.int .i64 a0v_Id), .im false (rowsOf Int_c a0v_Cells)]] [.ag [.jk, .jk]] [.ag [.s (.int .i64 r.Id), .ow 3 (rowsOf Int_c r.Cells)]] := by
  unfold impl_copyRow.f at h
  let ar := Ls.ar; let cm := Ls.cm; let bo := Ls.bo; let sc := Ls.sc; let sa := Ls.sa; let sx := Ls.sx; let ss := Ls.ss; let sl := Ls.sl; let bs := Ls.bs; let sb := Ls.sb; let ln := Ls.ln; let sr := Ls.sr; let ap := Ls.ap; let up := Ls.up; let rp := Ls.rp; let fr := Ls.fr; let ge := Ls.ge; let le := Ls.le; let lt := Ls.lt; let nz := Ls.nz; let mm := Ls.mm; let ma := Ls.ma; let sm := Ls.sm; let fl := Ls.fl; let al := Ls.al; let ci := Ls.ci
  let eInt_c := rowsOf Int_c
  have hL : (⟨ar, cm, bo, sc, sa, sx, ss, sl, bs, sb, ln, sr, ap, up, rp, fr, ge, le, lt, nz, mm, ma, sm, fl, al, ci⟩ : Lf) = Ls := rfl
  show AC Try.prog 77 [.ag [.s (.int .i64 a0v_Id), .im false (eInt_c a0v_Cells)]] _ _
  refine AC.of_run2 tab_ok Try.func77 (by rfl) (by rfl) (by cbv) ⟨by decide, rfl⟩ fun F hP hA => ?_
  have hT : TabOk F.P tab := hP ▸ tab_ok
  have hM : F.P.follows .mixedOrders = true := hP ▸ mixed
  have hC : ∀ {f a o r}, AC Try.prog f a o r → AC F.P f a o r := fun h => hP ▸ h
  refine Run.seq ?_
  refine Run.region hL hT [] (by cbv) ?_ ?_
  · exact hq0
  refine Run.seq ?_
  obtain ⟨r1, h_r1, h⟩ := bnd h
  refine Run.draw hL hT hM [(4, .call [false] [.v (.jk)] [.v (.ow 3 (eInt_c r1))])] (by cbv) (by cbv) (by cbv) (by cbv) (by cbv) ?_ ?_
  · exact (hq trivial (hq trivial (hq (hC (impl_copyInts_ac h_r1)) (hq trivial hq0))))
  refine Run.ret ?_
  cases h
  refine ⟨_, _, by cbv, ?_, ?_⟩
  · exact LLe.r
  · exact (ALe.ag rfl LLe.r ALe.nil)

set_option maxRecDepth 8000 in
theorem impl_copyRows_ac {a0 : List Row} {r : (List Row)} (h : impl_copyRows.f a0 = some r) : AC Try.prog 63 [.v (.im false (rowsOf Row_i a0))] [.v (.jk)] [.v (.ow 29 (rowsOf Row_o r))] := by
  unfold impl_copyRows.f at h
  let ar := Ls.ar; let cm := Ls.cm; let bo := Ls.bo; let sc := Ls.sc; let sa := Ls.sa; let sx := Ls.sx; let ss := Ls.ss; let sl := Ls.sl; let bs := Ls.bs; let sb := Ls.sb; let ln := Ls.ln; let sr := Ls.sr; let ap := Ls.ap; let up := Ls.up; let rp := Ls.rp; let fr := Ls.fr; let ge := Ls.ge; let le := Ls.le; let lt := Ls.lt; let nz := Ls.nz; let mm := Ls.mm; let ma := Ls.ma; let sm := Ls.sm; let fl := Ls.fl; let al := Ls.al; let ci := Ls.ci
  let eInt_c := rowsOf Int_c
  let eRow_i := rowsOf Row_i
  let eRow_o := rowsOf Row_o
  let lenI_Row := @lenI Row
  have hL : (⟨ar, cm, bo, sc, sa, sx, ss, sl, bs, sb, ln, sr, ap, up, rp, fr, ge, le, lt, nz, mm, ma, sm, fl, al, ci⟩ : Lf) = Ls := rfl
  show AC Try.prog 63 [.v (.im false (eRow_i a0))] _ _
  refine AC.of_run2 tab_ok Try.func63 (by rfl) (by rfl) (by cbv) ⟨by decide, rfl⟩ fun F hP hA => ?_
  have hT : TabOk F.P tab := hP ▸ tab_ok
  have hM : F.P.follows .mixedOrders = true := hP ▸ mixed
  have hC : ∀ {f a o r}, AC Try.prog f a o r → AC F.P f a o r := fun h => hP ▸ h
  refine Run.seq ?_
  refine Run.region hL hT [] (by cbv) ?_ ?_
  · exact hq0
  refine Run.seq ?_
  refine Run.region hL hT [] (by cbv) ?_ ?_
  · exact hq0
  refine Run.seq ?_
  refine Run.seq ?_
  refine Run.region hL hT [] (by cbv) ?_ ?_
  · exact hq0
  rw [show ln (eRow_i a0) = lenI_Row a0 from ln_eq Row_i _]
  refine Run.block ?_
  refine Run.loop2 (fun (z5 : List Row) (z6 : Int) => ⟨20, 100000, [(3, .rf 1), (7, .t (.im false (eRow_i a0))), (8, .t (.s (.int .i64 (lenI_Row a0)))), (9, .t (.s (.int .i64 z6)))], [(1, .row 0 29 2 (eRow_o z5))]⟩) (x0 := []) (x1 := 0) h (Weak.of _ [(1, 4096)] hA (by cbv) ?_) (fun _ _ => rfl) ?_
  · repeat (first | exact hq0 | refine hq (by first | exact True.intro | rfl) ?_)
  · intro k z5 z6 h
    rw [impl_copyRows.l0] at h
    refine Run.seq ?_
    refine Run.region hL hT [] (by cbv) ?_ ?_
    · exact (hq trivial hq0)
    refine Run.seq ?_
    refine Run.cond (by cbv) (hq0) (fun c7 => ?_) (fun c7 => ?_)
    · have h := if_t c7 h
      refine Run.skip ?_
      refine Run.seq ?_
      refine Run.block ?_
      refine Run.seq ?_
      obtain ⟨⟨x8v_Id, x8v_Cells⟩, h_x8, h⟩ := bnd h
      refine Run.region hL hT [(0, .el [.s (.int .i64 x8v_Id), .im false (eInt_c x8v_Cells)])] (by cbv) ?_ ?_
      · exact (hq (get_le h_x8) (hq (get_lt (f := Row_i) h_x8) (hq (get_ge (f := Row_i) h_x8) (hq trivial hq0))))
      obtain ⟨⟨r9v_Id, r9v_Cells⟩, h_r9, h⟩ := bnd h
      obtain ⟨l10, h_l10, h⟩ := bnd h
      obtain ⟨l11, h_l11, h⟩ := bnd h
      refine Run.region hL hT [(2, .call [false] [.ag [.jk, .jk]] [.ag [.s (.int .i64 r9v_Id), .ow 3 (eInt_c r9v_Cells)]])] (by cbv) ?_ ?_
      · exact (hq trivial (hq (hC (impl_copyRow_ac h_r9)) (hq (app_mb (P := Try.prog) (f := Row_o) RLe.r (some_le (f := Row_o) h_l10 (RLe.cons rfl LLe.r RLe.nil)) h_l11) hq0)))
      refine Run.row (rows := (ap (eRow_o z5) ([[.s (.int .i64 r9v_Id), .ow 3 (eInt_c r9v_Cells)]]))) 108196 (eRow_o l11) (by cbv) (app_le (f := Row_o) RLe.r (some_le (f := Row_o) h_l10 (RLe.cons rfl LLe.r RLe.nil)) h_l11) ?_
      refine Run.region hL hT [] (by cbv) ?_ ?_
      · exact (hq trivial hq0)
      refine ⟨l11, (ar .add .i64 z6 1), h, Weak.of _ [(1, 108196)] hA (by cbv) ?_⟩
      repeat (first | exact hq0 | refine hq (by first | exact True.intro | rfl) ?_)
    · have h := if_f c7 h
      refine Run.exit ?_
      refine Run.seq ?_
      refine Run.region hL hT [] (by cbv) ?_ ?_
      · exact hq0
      refine Run.ret ?_
      cases h
      refine ⟨_, _, by cbv, ?_, ?_⟩
      · exact LLe.r
      · exact (ALe.v LLe.r ALe.nil)

set_option maxRecDepth 8000 in
theorem impl_copyView_ac {a0v_Qv_Table : Int} {a0v_Qv_Where : List Cond} {a0v_Qv_Order : Int} {a0v_Qv_Down : Bool} {a0v_Qv_First : Int} {a0v_Qv_Show : List Int} {a0v_Qv_Kids : Bool} {a0v_Qv_KidTable : Int} {a0v_Qv_KidCol : Int} {a0v_Rows : List Row} {a0v_Kids : List Kid} {r : View} (h : impl_copyView.f (View.mk (Query.mk a0v_Qv_Table a0v_Qv_Where a0v_Qv_Order a0v_Qv_Down a0v_Qv_First a0v_Qv_Show a0v_Qv_Kids a0v_Qv_KidTable a0v_Qv_KidCol) a0v_Rows a0v_Kids) = some r) : AC Try.prog 35 [.ag [.s (.int .i64 a0v_Qv_Table), .im false (rowsOf Cond_c a0v_Qv_Where), .s (.int .i64 a0v_Qv_Order), .s (.bool a0v_Qv_Down), .s (.int .i64 a0v_Qv_First), .im false (rowsOf Int_c a0v_Qv_Show), .s (.bool a0v_Qv_Kids), .s (.int .i64 a0v_Qv_KidTable), .s (.int .i64 a0v_Qv_KidCol), .im false (rowsOf Row_i a0v_Rows), .im false (rowsOf Kid_c a0v_Kids)]] [.ag [.jk, .jk, .jk, .jk, .jk, .jk, .jk, .jk, .jk, .jk, .jk]] [.ag [.s (.int .i64 r.Q.Table), .ow 90 (rowsOf Cond_c r.Q.Where), .s (.int .i64 r.Q.Order), .s (.bool r.Q.Down), .s (.int .i64 r.Q.First), .ow 3 (rowsOf Int_c r.Q.Show), .s (.bool r.Q.Kids), .s (.int .i64 r.Q.KidTable), .s (.int .i64 r.Q.KidCol), .ow 29 (rowsOf Row_o r.Rows), .ow 77 (rowsOf Kid_c r.Kids)]] := by
  unfold impl_copyView.f at h
  let ar := Ls.ar; let cm := Ls.cm; let bo := Ls.bo; let sc := Ls.sc; let sa := Ls.sa; let sx := Ls.sx; let ss := Ls.ss; let sl := Ls.sl; let bs := Ls.bs; let sb := Ls.sb; let ln := Ls.ln; let sr := Ls.sr; let ap := Ls.ap; let up := Ls.up; let rp := Ls.rp; let fr := Ls.fr; let ge := Ls.ge; let le := Ls.le; let lt := Ls.lt; let nz := Ls.nz; let mm := Ls.mm; let ma := Ls.ma; let sm := Ls.sm; let fl := Ls.fl; let al := Ls.al; let ci := Ls.ci
  let eCond_c := rowsOf Cond_c
  let eInt_c := rowsOf Int_c
  let eKid_c := rowsOf Kid_c
  let eRow_i := rowsOf Row_i
  let eRow_o := rowsOf Row_o
  have hL : (⟨ar, cm, bo, sc, sa, sx, ss, sl, bs, sb, ln, sr, ap, up, rp, fr, ge, le, lt, nz, mm, ma, sm, fl, al, ci⟩ : Lf) = Ls := rfl
  show AC Try.prog 35 [.ag [.s (.int .i64 a0v_Qv_Table), .im false (eCond_c a0v_Qv_Where), .s (.int .i64 a0v_Qv_Order), .s (.bool a0v_Qv_Down), .s (.int .i64 a0v_Qv_First), .im false (eInt_c a0v_Qv_Show), .s (.bool a0v_Qv_Kids), .s (.int .i64 a0v_Qv_KidTable), .s (.int .i64 a0v_Qv_KidCol), .im false (eRow_i a0v_Rows), .im false (eKid_c a0v_Kids)]] _ _
  refine AC.of_run2 tab_ok Try.func35 (by rfl) (by rfl) (by cbv) ⟨by decide, rfl⟩ fun F hP hA => ?_
  have hT : TabOk F.P tab := hP ▸ tab_ok
  have hM : F.P.follows .mixedOrders = true := hP ▸ mixed
  have hC : ∀ {f a o r}, AC Try.prog f a o r → AC F.P f a o r := fun h => hP ▸ h
  refine Run.seq ?_
  refine Run.region hL hT [] (by cbv) ?_ ?_
  · exact hq0
  refine Run.seq ?_
  obtain ⟨⟨r1v_Table, r1v_Where, r1v_Order, r1v_Down, r1v_First, r1v_Show, r1v_Kids, r1v_KidTable, r1v_KidCol⟩, h_r1, h⟩ := bnd h
  obtain ⟨r2, h_r2, h⟩ := bnd h
  obtain ⟨l3, h_l3, h⟩ := bnd h
  refine Run.draw hL hT hM [(2, .call [false] [.ag [.jk, .jk, .jk, .jk, .jk, .jk, .jk, .jk, .jk]] [.ag [.s (.int .i64 r1v_Table), .ow 90 (eCond_c r1v_Where), .s (.int .i64 r1v_Order), .s (.bool r1v_Down), .s (.int .i64 r1v_First), .ow 3 (eInt_c r1v_Show), .s (.bool r1v_Kids), .s (.int .i64 r1v_KidTable), .s (.int .i64 r1v_KidCol)]]), (5, .call [false] [.v (.jk)] [.v (.ow 29 (eRow_o r2))])] (by cbv) (by cbv) (by cbv) (by cbv) (by cbv) ?_ ?_
  · exact (hq trivial (hq (hC (impl_copyQuery_ac h_r1)) (hq trivial (hq (hC (impl_copyRows_ac h_r2)) (hq trivial (hq (fl_row Kid_c_f _) (hq (app_mb (P := Try.prog) (f := Kid_c) RLe.r RLe.r h_l3) (hq trivial hq0))))))))
  refine Run.row (rows := (ap ([]) ((eKid_c a0v_Kids)))) 4105 (eKid_c l3) (by cbv) (app_le (f := Kid_c) RLe.r RLe.r h_l3) ?_
  refine Run.ret ?_
  cases h
  refine ⟨_, _, by cbv, ?_, ?_⟩
  · exact LLe.r
  · exact (ALe.ag rfl LLe.r ALe.nil)

set_option maxRecDepth 8000 in
theorem impl_RowAt_1_ac {a0v_Id : Int} {a0v_Cells : List Int} {a1 : Int} {r : Bool} (h : impl_RowAt_1.f (Row.mk a0v_Id a0v_Cells) a1 = some r) : AC Try.prog 94 [.ag [.s (.int .i64 a0v_Id), .im false (rowsOf Int_c a0v_Cells)], .v (.ip [.s (.int .i64 a1)])] [.ag [.jk, .jk], .v (.jk)] [.v (.s (.bool r))] := by
  unfold impl_RowAt_1.f at h
  let ar := Ls.ar; let cm := Ls.cm; let bo := Ls.bo; let sc := Ls.sc; let sa := Ls.sa; let sx := Ls.sx; let ss := Ls.ss; let sl := Ls.sl; let bs := Ls.bs; let sb := Ls.sb; let ln := Ls.ln; let sr := Ls.sr; let ap := Ls.ap; let up := Ls.up; let rp := Ls.rp; let fr := Ls.fr; let ge := Ls.ge; let le := Ls.le; let lt := Ls.lt; let nz := Ls.nz; let mm := Ls.mm; let ma := Ls.ma; let sm := Ls.sm; let fl := Ls.fl; let al := Ls.al; let ci := Ls.ci
  let eInt_c := rowsOf Int_c
  have hL : (⟨ar, cm, bo, sc, sa, sx, ss, sl, bs, sb, ln, sr, ap, up, rp, fr, ge, le, lt, nz, mm, ma, sm, fl, al, ci⟩ : Lf) = Ls := rfl
  show AC Try.prog 94 [.ag [.s (.int .i64 a0v_Id), .im false (eInt_c a0v_Cells)], .v (.ip [.s (.int .i64 a1)])] _ _
  refine AC.of_run2 tab_ok Try.func94 (by rfl) (by rfl) (by cbv) ⟨by decide, rfl⟩ fun F hP hA => ?_
  have hT : TabOk F.P tab := hP ▸ tab_ok
  have hM : F.P.follows .mixedOrders = true := hP ▸ mixed
  have hC : ∀ {f a o r}, AC Try.prog f a o r → AC F.P f a o r := fun h => hP ▸ h
  refine Run.seq ?_
  refine Run.region hL hT [] (by cbv) ?_ ?_
  · exact hq0
  refine Run.seq ?_
  refine Run.region hL hT [] (by cbv) ?_ ?_
  · exact (hq trivial (hq trivial hq0))
  refine Run.ret ?_
  cases h
  refine ⟨_, _, by cbv, ?_, ?_⟩
  · exact LLe.r
  · exact (ALe.v LLe.r ALe.nil)

set_option maxRecDepth 8000 in
theorem slices_IndexFunc_impl_Row__impl_RowAt_1_ac {a0 : List Row} {a1c0 : Int} {r : Int} (h : slices_IndexFunc_impl_Row__impl_RowAt_1.f a0 a1c0 = some r) : AC Try.prog 73 [.v (.im false (rowsOf Row_i a0)), .v (.fn 94 [.ip [.s (.int .i64 a1c0)]])] [.v (.jk), .v (.jk)] [.v (.s (.int .i64 r))] := by
  unfold slices_IndexFunc_impl_Row__impl_RowAt_1.f at h
  let ar := Ls.ar; let cm := Ls.cm; let bo := Ls.bo; let sc := Ls.sc; let sa := Ls.sa; let sx := Ls.sx; let ss := Ls.ss; let sl := Ls.sl; let bs := Ls.bs; let sb := Ls.sb; let ln := Ls.ln; let sr := Ls.sr; let ap := Ls.ap; let up := Ls.up; let rp := Ls.rp; let fr := Ls.fr; let ge := Ls.ge; let le := Ls.le; let lt := Ls.lt; let nz := Ls.nz; let mm := Ls.mm; let ma := Ls.ma; let sm := Ls.sm; let fl := Ls.fl; let al := Ls.al; let ci := Ls.ci
  let eInt_c := rowsOf Int_c
  let eRow_i := rowsOf Row_i
  let lenI_Row := @lenI Row
  have hL : (⟨ar, cm, bo, sc, sa, sx, ss, sl, bs, sb, ln, sr, ap, up, rp, fr, ge, le, lt, nz, mm, ma, sm, fl, al, ci⟩ : Lf) = Ls := rfl
  show AC Try.prog 73 [.v (.im false (eRow_i a0)), .v (.fn 94 [.ip [.s (.int .i64 a1c0)]])] _ _
  refine AC.of_run2 tab_ok Try.func73 (by rfl) (by rfl) (by cbv) ⟨by decide, rfl⟩ fun F hP hA => ?_
  have hT : TabOk F.P tab := hP ▸ tab_ok
  have hM : F.P.follows .mixedOrders = true := hP ▸ mixed
  have hC : ∀ {f a o r}, AC Try.prog f a o r → AC F.P f a o r := fun h => hP ▸ h
  refine Run.weak ?_ (Weak.fnT 1 (by cbv))
  refine Run.seq ?_
  refine Run.region hL hT [] (by cbv) ?_ ?_
  · exact hq0
  refine Run.seq ?_
  refine Run.seq ?_
  refine Run.region hL hT [] (by cbv) ?_ ?_
  · exact hq0
  rw [show ln (eRow_i a0) = lenI_Row a0 from ln_eq Row_i _]
  refine Run.block ?_
  refine Run.loop1 (fun (z5 : Int) => ⟨19, 100000, [(0, .t (.im false (eRow_i a0))), (1, .fn 94 [.t (.ip [.s (.int .i64 a1c0)])]), (7, .t (.s (.int .i64 (lenI_Row a0)))), (8, .t (.s (.int .i64 z5)))], []⟩) (x0 := 0) h (Weak.of _ [] hA (by cbv) ?_) (fun _ => rfl) ?_
  · repeat (first | exact hq0 | refine hq (by first | exact True.intro | rfl) ?_)
  · intro k z5 h
    rw [slices_IndexFunc_impl_Row__impl_RowAt_1.l0] at h
    refine Run.seq ?_
    refine Run.region hL hT [] (by cbv) ?_ ?_
    · exact (hq trivial hq0)
    refine Run.seq ?_
    refine Run.cond (by cbv) (hq0) (fun c6 => ?_) (fun c6 => ?_)
    · have h := if_t c6 h
      refine Run.skip ?_
      refine Run.seq ?_
      refine Run.block ?_
      refine Run.seq ?_
      refine Run.region hL hT [] (by cbv) ?_ ?_
      · exact hq0
      refine Run.seq ?_
      obtain ⟨⟨x7v_Id, x7v_Cells⟩, h_x7, h⟩ := bnd h
      obtain ⟨r8, h_r8, h⟩ := bnd h
      refine Run.region hL hT [(3, .el [.s (.int .i64 x7v_Id), .im false (eInt_c x7v_Cells)]), (5, .call [false] [.ag [.jk, .jk], .v (.jk)] [.v (.s (.bool r8))])] (by cbv) ?_ ?_
      · exact (hq (get_le h_x7) (hq (get_lt (f := Row_i) h_x7) (hq (get_ge (f := Row_i) h_x7) (hq (hC (impl_RowAt_1_ac h_r8)) hq0))))
      refine Run.cond (by cbv) (hq0) (fun c9 => ?_) (fun c9 => ?_)
      · have h := if_t c9 h
        refine Run.seq ?_
        refine Run.region hL hT [] (by cbv) ?_ ?_
        · exact hq0
        refine Run.ret ?_
        cases h
        refine ⟨_, _, by cbv, ?_, ?_⟩
        · exact LLe.r
        · exact (ALe.v LLe.r ALe.nil)
      · have h := if_f c9 h
        refine Run.skip ?_
        refine Run.region hL hT [] (by cbv) ?_ ?_
        · exact (hq trivial hq0)
        refine ⟨(ar .add .i64 z5 1), h, Weak.of _ [] hA (by cbv) ?_⟩
        repeat (first | exact hq0 | refine hq (by first | exact True.intro | rfl) ?_)
    · have h := if_f c6 h
      refine Run.exit ?_
      refine Run.seq ?_
      refine Run.region hL hT [] (by cbv) ?_ ?_
      · exact hq0
      refine Run.ret ?_
      cases h
      refine ⟨_, _, by cbv, ?_, ?_⟩
      · exact LLe.r
      · exact (ALe.v LLe.r ALe.nil)

set_option maxRecDepth 8000 in
theorem impl_RowAt_ac {a0 : List Row} {a1 : Int} {r : Int} (h : impl_RowAt.f a0 a1 = some r) : AC Try.prog 71 [.v (.im false (rowsOf Row_i a0)), .v (.s (.int .i64 a1))] [.v (.jk), .v (.jk)] [.v (.s (.int .i64 r))] := by
  unfold impl_RowAt.f at h
  let ar := Ls.ar; let cm := Ls.cm; let bo := Ls.bo; let sc := Ls.sc; let sa := Ls.sa; let sx := Ls.sx; let ss := Ls.ss; let sl := Ls.sl; let bs := Ls.bs; let sb := Ls.sb; let ln := Ls.ln; let sr := Ls.sr; let ap := Ls.ap; let up := Ls.up; let rp := Ls.rp; let fr := Ls.fr; let ge := Ls.ge; let le := Ls.le; let lt := Ls.lt; let nz := Ls.nz; let mm := Ls.mm; let ma := Ls.ma; let sm := Ls.sm; let fl := Ls.fl; let al := Ls.al; let ci := Ls.ci
  let eRow_i := rowsOf Row_i
  have hL : (⟨ar, cm, bo, sc, sa, sx, ss, sl, bs, sb, ln, sr, ap, up, rp, fr, ge, le, lt, nz, mm, ma, sm, fl, al, ci⟩ : Lf) = Ls := rfl
  show AC Try.prog 71 [.v (.im false (eRow_i a0)), .v (.s (.int .i64 a1))] _ _
  refine AC.of_run2 tab_ok Try.func71 (by rfl) (by rfl) (by cbv) ⟨by decide, rfl⟩ fun F hP hA => ?_
  have hT : TabOk F.P tab := hP ▸ tab_ok
  have hM : F.P.follows .mixedOrders = true := hP ▸ mixed
  have hC : ∀ {f a o r}, AC Try.prog f a o r → AC F.P f a o r := fun h => hP ▸ h
  refine Run.seq ?_
  refine Run.region hL hT [] (by cbv) ?_ ?_
  · exact hq0
  refine Run.seq ?_
  obtain ⟨r1, h_r1, h⟩ := bnd h
  refine Run.region hL hT [(2, .call [false, false] [.v (.jk), .v (.jk)] [.v (.s (.int .i64 r1))])] (by cbv) ?_ ?_
  · exact (hq (hC (slices_IndexFunc_impl_Row__impl_RowAt_1_ac h_r1)) hq0)
  refine Run.ret ?_
  cases h
  refine ⟨_, _, by cbv, ?_, ?_⟩
  · exact LLe.r
  · exact (ALe.v LLe.r ALe.nil)

set_option maxRecDepth 8000 in
theorem slices_Delete_impl_Row_ac {a0 : List Row} {a1 a2 : Int} {r : List Row} (h : slices_Delete_impl_Row.f a0 a1 a2 = some r) : AC Try.prog 72 [.v (.ow 29 (rowsOf Row_o a0)), .v (.s (.int .i64 a1)), .v (.s (.int .i64 a2))] [.v .jk, .v .jk, .v .jk] [.v (.ow 29 (rowsOf Row_o r))] := by
  unfold slices_Delete_impl_Row.f delO at h
  split at h
  · rename_i hc
    obtain ⟨c0, c1, c2⟩ := hc
    obtain ⟨i, rfl⟩ : ∃ k : Nat, a1 = k := ⟨a1.toNat, by omega⟩
    obtain ⟨j, rfl⟩ : ∃ k : Nat, a2 = k := ⟨a2.toNat, by omega⟩
    simp only [Option.some.injEq] at h
    subst h
    have hr : rowsOf Row_o (a0.take ((i : Nat) : Int).toNat ++ a0.drop ((j : Nat) : Int).toNat) = (rowsOf Row_o a0).take i ++ (rowsOf Row_o a0).drop j := by simp [rowsOf, List.map_take, List.map_drop]
    rw [hr]
    have hl := rowsOf_len Row_o a0
    generalize rowsOf Row_o a0 = R at *
    obtain ⟨D3, hD3⟩ : ∃ D, D = R.take i ++ R.drop j := ⟨_, rfl⟩
    rw [← hD3]
    have c1 : i ≤ j := by omega
    have c2 : j ≤ R.length := by omega
    have hlR : Ls.ln R = (R.length : Int) := rfl
    let ar := Ls.ar; let cm := Ls.cm; let bo := Ls.bo; let sc := Ls.sc; let sa := Ls.sa; let sx := Ls.sx; let ss := Ls.ss; let sl := Ls.sl; let bs := Ls.bs; let sb := Ls.sb; let ln := Ls.ln; let sr := Ls.sr; let ap := Ls.ap; let up := Ls.up; let rp := Ls.rp; let fr := Ls.fr; let ge := Ls.ge; let le := Ls.le; let lt := Ls.lt; let nz := Ls.nz; let mm := Ls.mm; let ma := Ls.ma; let sm := Ls.sm; let fl := Ls.fl; let al := Ls.al; let ci := Ls.ci
    have hL : (⟨ar, cm, bo, sc, sa, sx, ss, sl, bs, sb, ln, sr, ap, up, rp, fr, ge, le, lt, nz, mm, ma, sm, fl, al, ci⟩ : Lf) = Ls := rfl
    refine AC.of_run2 tab_ok Try.func72 (by rfl) (by rfl) (by cbv) ⟨by decide, rfl⟩ fun F hP hA => ?_
    have hT : TabOk F.P tab := hP ▸ tab_ok
    have hM : F.P.follows .mixedOrders = true := hP ▸ mixed
    refine Run.seq ?_
    refine Run.region hL hT [] (by cbv) ?_ ?_
    · exact hq0
    refine Run.seq ?_
    refine Run.region hL hT [(5, .hd [0] .u [])] (by cbv) ?_ ?_
    · exact hq (hand_slice3r (hT 46 _ rfl) rfl (hT 29 _ rfl) (by omega) (by omega) (by show (j : Int) ≤ (R.length : Int); omega) (Int.le_refl _)) hq0
    refine Run.seq ?_
    refine Run.seq ?_
    refine Run.region hL hT [] (by cbv) ?_ ?_
    · exact hq trivial hq0
    refine Run.cond (by cbv) hq0 (fun c => ?_) (fun c => ?_)
    · have e : (i : Int) = j := of_decide_eq_true c
      obtain rfl : i = j := by omega
      rw [List.take_append_drop] at hD3
      subst hD3
      refine Run.seq ?_
      refine Run.region hL hT [] (by cbv) ?_ ?_
      · exact hq0
      refine Run.weak ?_ (Weak.mv (v := .rf 0) 0 900000 6 (by cbv) (by cbv) (by cbv) (by cbv))
      refine Run.ret ?_
      refine ⟨_, _, by cbv, ?_, ?_⟩
      · exact LLe.r
      · exact ALe.r
    have e : ¬ (i : Int) = j := of_decide_eq_false c
    have c1 : i < j := by omega
    obtain ⟨D1, hD1⟩ : ∃ D, D = delR R i j R.length 2 := ⟨_, rfl⟩
    obtain ⟨D2, hD2⟩ : ∃ D, D = delR D1 (i + (R.length - j)) D1.length D1.length 2 := ⟨_, rfl⟩
    have hl1 : D1.length = R.length := by rw [hD1]; exact delR_len (by omega) (by omega) (Nat.le_refl _)
    have hl2 : D2.take (i + (R.length - j)) = D3 := by rw [hD3]; rw [hD2, hl1, hD1]; exact delR_take2 (by omega) (by omega)
    have hj1 := hand_append_in (P := F.P) (x := .tmp 22) (y := .tmp 25) (id := 0) (ver := 0) (hT 46 _ rfl) rfl (hT 29 _ rfl) (h := R.length) (rows := R) c1 c2 (Nat.le_refl _) (rfl : ((i + (R.length - j) : Nat) : Int) = _)
    rw [← hD1] at hj1
    obtain ⟨ki, hki⟩ : ∃ k : Int, k = ((i + (R.length - j) : Nat) : Int) := ⟨_, rfl⟩
    rw [← hki] at hj1
    refine Run.skip ?_
    refine Run.seq ?_
    refine Run.region hL hT [] (by cbv) ?_ ?_
    · exact hq0
    refine Run.seq ?_
    refine Run.draw hL hT hM [(6, .hd [0] (.sb 0 0 ki) [(0, .row 1 29 2 D1)])] (by cbv) (by cbv) (by cbv) (by cbv) (by cbv) ?_ ?_
    · exact hq (Int.le_refl _) (hq (by show (0 : Int) ≤ (i : Int); omega) (hq (by show (i : Int) ≤ (R.length : Int); omega) (hq (by show (0 : Int) ≤ (j : Int); omega) (hq (by show (j : Int) ≤ (R.length : Int); omega) (hq (Int.le_refl _) (hq hj1 hq0))))))
    refine Run.seq ?_
    refine Run.region hL hT [(2, .hd [0] (.t (.s (.int .i64 ki))) []), (4, .hd [0] (.sb 0 ki (ln R)) []), (5, .hd [0] .u [(0, .row 2 29 2 D2)])] (by cbv) ?_ ?_
    · have hj2 := hand_clear (P := F.P) (x := .tmp 31) (id := 0) (ver := 1) (hT 46 _ rfl) rfl (hT 29 _ rfl) (by simp) (b0 := i + (R.length - j)) (b1 := R.length) (rows := D1) (by omega) (by omega)
      rw [← hD2, ← hki] at hj2
      exact hq (hand_len (hT 46 _ rfl) rfl (by omega)) (hq (hand_slice (hT 46 _ rfl) rfl (hT 29 _ rfl) (l := ki) (hh := R.length) rfl (.inr ⟨_, _, rfl, rfl⟩) (.inr ⟨_, _, rfl, rfl⟩) (by omega) (by omega) (by show (0 : Int) + (R.length : Int) ≤ (D1.length : Int); omega) (by omega) (by show (R.length : Int) = _; omega)) (hq hj2 hq0))
    refine Run.seq ?_
    refine Run.region hL hT [] (by cbv) ?_ ?_
    · exact hq0
    refine Run.weak ?_ (Weak.shrink 0 900000 6 (by cbv) (by cbv) (by cbv) (by cbv) hki _ hl2)
    refine Run.ret ?_
    refine ⟨_, _, by cbv, ?_, ?_⟩
    · exact LLe.r
    · exact ALe.r
  · cases h

set_option maxRecDepth 8000 in
theorem impl_RowDrop_ac {a0 : List Row} {a1 : Int} {r : (List Row)} (h : impl_RowDrop.f a0 a1 = some r) : AC Try.prog 42 [.v (.im false (rowsOf Row_i a0)), .v (.s (.int .i64 a1))] [.v (.jk), .v (.jk)] [.v (.ow 29 (rowsOf Row_o r))] := by
  unfold impl_RowDrop.f at h
  let ar := Ls.ar; let cm := Ls.cm; let bo := Ls.bo; let sc := Ls.sc; let sa := Ls.sa; let sx := Ls.sx; let ss := Ls.ss; let sl := Ls.sl; let bs := Ls.bs; let sb := Ls.sb; let ln := Ls.ln; let sr := Ls.sr; let ap := Ls.ap; let up := Ls.up; let rp := Ls.rp; let fr := Ls.fr; let ge := Ls.ge; let le := Ls.le; let lt := Ls.lt; let nz := Ls.nz; let mm := Ls.mm; let ma := Ls.ma; let sm := Ls.sm; let fl := Ls.fl; let al := Ls.al; let ci := Ls.ci
  let eRow_i := rowsOf Row_i
  let eRow_o := rowsOf Row_o
  have hL : (⟨ar, cm, bo, sc, sa, sx, ss, sl, bs, sb, ln, sr, ap, up, rp, fr, ge, le, lt, nz, mm, ma, sm, fl, al, ci⟩ : Lf) = Ls := rfl
  show AC Try.prog 42 [.v (.im false (eRow_i a0)), .v (.s (.int .i64 a1))] _ _
  refine AC.of_run2 tab_ok Try.func42 (by rfl) (by rfl) (by cbv) ⟨by decide, rfl⟩ fun F hP hA => ?_
  have hT : TabOk F.P tab := hP ▸ tab_ok
  have hM : F.P.follows .mixedOrders = true := hP ▸ mixed
  have hC : ∀ {f a o r}, AC Try.prog f a o r → AC F.P f a o r := fun h => hP ▸ h
  refine Run.seq ?_
  refine Run.region hL hT [] (by cbv) ?_ ?_
  · exact hq0
  refine Run.seq ?_
  obtain ⟨r1, h_r1, h⟩ := bnd h
  refine Run.region hL hT [(1, .call [false] [.v (.jk)] [.v (.ow 29 (eRow_o r1))])] (by cbv) ?_ ?_
  · exact (hq (hC (impl_copyRows_ac h_r1)) hq0)
  refine Run.seq ?_
  obtain ⟨r2, h_r2, h⟩ := bnd h
  refine Run.region hL hT [(2, .call [false, false] [.v (.jk), .v (.jk)] [.v (.s (.int .i64 r2))])] (by cbv) ?_ ?_
  · exact (hq (hC (impl_RowAt_ac h_r2)) hq0)
  refine Run.seq ?_
  refine Run.seq ?_
  refine Run.region hL hT [] (by cbv) ?_ ?_
  · exact (hq trivial hq0)
  refine Run.cond (by cbv) (hq0) (fun c3 => ?_) (fun c3 => ?_)
  · have h := if_t c3 h
    obtain ⟨r4, h_r4, h⟩ := bnd h
    refine Run.region hL hT [(4, .call [true, false, false] [.v (.jk), .v (.jk), .v (.jk)] [.v (.ow 29 (eRow_o r4))])] (by cbv) ?_ ?_
    · exact (hq trivial (hq (hC (slices_Delete_impl_Row_ac h_r4)) hq0))
    refine Run.seq ?_
    refine Run.region hL hT [] (by cbv) ?_ ?_
    · exact hq0
    refine Run.ret ?_
    cases h
    refine ⟨_, _, by cbv, ?_, ?_⟩
    · exact LLe.r
    · exact (ALe.v LLe.r ALe.nil)
  · have h := if_f c3 h
    refine Run.skip ?_
    refine Run.seq ?_
    refine Run.region hL hT [] (by cbv) ?_ ?_
    · exact hq0
    refine Run.ret ?_
    cases h
    refine ⟨_, _, by cbv, ?_, ?_⟩
    · exact LLe.r
    · exact (ALe.v LLe.r ALe.nil)

set_option maxRecDepth 8000 in
theorem impl_Ahead_ac {a0v_Table : Int} {a0v_Where : List Cond} {a0v_Order : Int} {a0v_Down : Bool} {a0v_First : Int} {a0v_Show : List Int} {a0v_Kids : Bool} {a0v_KidTable : Int} {a0v_KidCol : Int} {a1v_Id : Int} {a1v_Cells : List Int} {a2v_Id : Int} {a2v_Cells : List Int} {r : Bool} (h : impl_Ahead.f (Query.mk a0v_Table a0v_Where a0v_Order a0v_Down a0v_First a0v_Show a0v_Kids a0v_KidTable a0v_KidCol) (Row.mk a1v_Id a1v_Cells) (Row.mk a2v_Id a2v_Cells) = some r) : AC Try.prog 75 [.ag [.s (.int .i64 a0v_Table), .im false (rowsOf Cond_c a0v_Where), .s (.int .i64 a0v_Order), .s (.bool a0v_Down), .s (.int .i64 a0v_First), .im false (rowsOf Int_c a0v_Show), .s (.bool a0v_Kids), .s (.int .i64 a0v_KidTable), .s (.int .i64 a0v_KidCol)], .ag [.s (.int .i64 a1v_Id), .im false (rowsOf Int_c a1v_Cells)], .ag [.s (.int .i64 a2v_Id), .im false (rowsOf Int_c a2v_Cells)]] [.ag [.jk, .jk, .jk, .jk, .jk, .jk, .jk, .jk, .jk], .ag [.jk, .jk], .ag [.jk, .jk]] [.v (.s (.bool r))] := by
  unfold impl_Ahead.f at h
  let ar := Ls.ar; let cm := Ls.cm; let bo := Ls.bo; let sc := Ls.sc; let sa := Ls.sa; let sx := Ls.sx; let ss := Ls.ss; let sl := Ls.sl; let bs := Ls.bs; let sb := Ls.sb; let ln := Ls.ln; let sr := Ls.sr; let ap := Ls.ap; let up := Ls.up; let rp := Ls.rp; let fr := Ls.fr; let ge := Ls.ge; let le := Ls.le; let lt := Ls.lt; let nz := Ls.nz; let mm := Ls.mm; let ma := Ls.ma; let sm := Ls.sm; let fl := Ls.fl; let al := Ls.al; let ci := Ls.ci
  let eCond_c := rowsOf Cond_c
  let eInt_c := rowsOf Int_c
  have hL : (⟨ar, cm, bo, sc, sa, sx, ss, sl, bs, sb, ln, sr, ap, up, rp, fr, ge, le, lt, nz, mm, ma, sm, fl, al, ci⟩ : Lf) = Ls := rfl
  show AC Try.prog 75 [.ag [.s (.int .i64 a0v_Table), .im false (eCond_c a0v_Where), .s (.int .i64 a0v_Order), .s (.bool a0v_Down), .s (.int .i64 a0v_First), .im false (eInt_c a0v_Show), .s (.bool a0v_Kids), .s (.int .i64 a0v_KidTable), .s (.int .i64 a0v_KidCol)], .ag [.s (.int .i64 a1v_Id), .im false (eInt_c a1v_Cells)], .ag [.s (.int .i64 a2v_Id), .im false (eInt_c a2v_Cells)]] _ _
  refine AC.of_run2 tab_ok Try.func75 (by rfl) (by rfl) (by cbv) ⟨by decide, rfl⟩ fun F hP hA => ?_
  have hT : TabOk F.P tab := hP ▸ tab_ok
  have hM : F.P.follows .mixedOrders = true := hP ▸ mixed
  have hC : ∀ {f a o r}, AC Try.prog f a o r → AC F.P f a o r := fun h => hP ▸ h
  refine Run.seq ?_
  refine Run.region hL hT [] (by cbv) ?_ ?_
  · exact hq0
  refine Run.seq ?_
  refine Run.seq ?_
  refine Run.region hL hT [] (by cbv) ?_ ?_
  · exact (hq trivial (hq trivial hq0))
  refine Run.cond (by cbv) (hq0) (fun c1 => ?_) (fun c1 => ?_)
  · have h := if_t c1 h
    refine Run.seq ?_
    refine Run.region hL hT [] (by cbv) ?_ ?_
    · exact (hq trivial (hq trivial (hq trivial hq0)))
    refine Run.ret ?_
    cases h
    refine ⟨_, _, by cbv, ?_, ?_⟩
    · exact LLe.r
    · exact (ALe.v LLe.r ALe.nil)
  · have h := if_f c1 h
    refine Run.skip ?_
    refine Run.seq ?_
    obtain ⟨r2, h_r2, h⟩ := bnd h
    obtain ⟨r3, h_r3, h⟩ := bnd h
    refine Run.draw hL hT hM [(4, .call [false, false] [.ag [.jk, .jk], .v (.jk)] [.v (.s (.int .i64 r2))]), (9, .call [false, false] [.ag [.jk, .jk], .v (.jk)] [.v (.s (.int .i64 r3))])] (by cbv) (by cbv) (by cbv) (by cbv) (by cbv) ?_ ?_
    · exact (hq trivial (hq trivial (hq trivial (hq (hC (impl_cellOf_ac h_r2)) (hq trivial (hq trivial (hq trivial (hq (hC (impl_cellOf_ac h_r3)) hq0))))))))
    refine Run.seq ?_
    refine Run.block ?_
    refine Run.seq ?_
    refine Run.region hL hT [] (by cbv) ?_ ?_
    · exact (hq trivial hq0)
    refine Run.cond (by cbv) (hq0) (fun c4 => ?_) (fun c4 => ?_)
    · have h := if_t c4 h
      refine Run.seq ?_
      refine Run.region hL hT [] (by cbv) ?_ ?_
      · exact (hq trivial (hq trivial (hq trivial hq0)))
      refine Run.ret ?_
      cases h
      refine ⟨_, _, by cbv, ?_, ?_⟩
      · exact LLe.r
      · exact (ALe.v LLe.r ALe.nil)
    · have h := if_f c4 h
      refine Run.seq ?_
      refine Run.region hL hT [] (by cbv) ?_ ?_
      · exact (hq trivial hq0)
      refine Run.cond (by cbv) (hq0) (fun c5 => ?_) (fun c5 => ?_)
      · have h := if_t c5 h
        refine Run.seq ?_
        refine Run.region hL hT [] (by cbv) ?_ ?_
        · exact (hq trivial hq0)
        refine Run.ret ?_
        cases h
        refine ⟨_, _, by cbv, ?_, ?_⟩
        · exact LLe.r
        · exact (ALe.v LLe.r ALe.nil)
      · have h := if_f c5 h
        refine Run.skip ?_
        refine Run.seq ?_
        refine Run.region hL hT [] (by cbv) ?_ ?_
        · exact (hq trivial hq0)
        refine Run.ret ?_
        cases h
        refine ⟨_, _, by cbv, ?_, ?_⟩
        · exact LLe.r
        · exact (ALe.v LLe.r ALe.nil)

set_option maxRecDepth 8000 in
theorem impl_rowPut_1_ac {a0v_Id : Int} {a0v_Cells : List Int} {a1v_Table : Int} {a1v_Where : List Cond} {a1v_Order : Int} {a1v_Down : Bool} {a1v_First : Int} {a1v_Show : List Int} {a1v_Kids : Bool} {a1v_KidTable : Int} {a1v_KidCol : Int} {a2v_Id : Int} {a2v_Cells : List Int} {r : Bool} (h : impl_rowPut_1.f (Row.mk a0v_Id a0v_Cells) (Query.mk a1v_Table a1v_Where a1v_Order a1v_Down a1v_First a1v_Show a1v_Kids a1v_KidTable a1v_KidCol) (Row.mk a2v_Id a2v_Cells) = some r) : AC Try.prog 74 [.ag [.s (.int .i64 a0v_Id), .im false (rowsOf Int_c a0v_Cells)], .v (.ip [.s (.int .i64 a1v_Table), .im false (rowsOf Cond_c a1v_Where), .s (.int .i64 a1v_Order), .s (.bool a1v_Down), .s (.int .i64 a1v_First), .im false (rowsOf Int_c a1v_Show), .s (.bool a1v_Kids), .s (.int .i64 a1v_KidTable), .s (.int .i64 a1v_KidCol)]), .v (.ip [.s (.int .i64 a2v_Id), .im false (rowsOf Int_c a2v_Cells)])] [.ag [.jk, .jk], .v (.jk), .v (.jk)] [.v (.s (.bool r))] := by
  unfold impl_rowPut_1.f at h
  let ar := Ls.ar; let cm := Ls.cm; let bo := Ls.bo; let sc := Ls.sc; let sa := Ls.sa; let sx := Ls.sx; let ss := Ls.ss; let sl := Ls.sl; let bs := Ls.bs; let sb := Ls.sb; let ln := Ls.ln; let sr := Ls.sr; let ap := Ls.ap; let up := Ls.up; let rp := Ls.rp; let fr := Ls.fr; let ge := Ls.ge; let le := Ls.le; let lt := Ls.lt; let nz := Ls.nz; let mm := Ls.mm; let ma := Ls.ma; let sm := Ls.sm; let fl := Ls.fl; let al := Ls.al; let ci := Ls.ci
  let eCond_c := rowsOf Cond_c
  let eInt_c := rowsOf Int_c
  have hL : (⟨ar, cm, bo, sc, sa, sx, ss, sl, bs, sb, ln, sr, ap, up, rp, fr, ge, le, lt, nz, mm, ma, sm, fl, al, ci⟩ : Lf) = Ls := rfl
  show AC Try.prog 74 [.ag [.s (.int .i64 a0v_Id), .im false (eInt_c a0v_Cells)], .v (.ip [.s (.int .i64 a1v_Table), .im false (eCond_c a1v_Where), .s (.int .i64 a1v_Order), .s (.bool a1v_Down), .s (.int .i64 a1v_First), .im false (eInt_c a1v_Show), .s (.bool a1v_Kids), .s (.int .i64 a1v_KidTable), .s (.int .i64 a1v_KidCol)]), .v (.ip [.s (.int .i64 a2v_Id), .im false (eInt_c a2v_Cells)])] _ _
  refine AC.of_run2 tab_ok Try.func74 (by rfl) (by rfl) (by cbv) ⟨by decide, rfl⟩ fun F hP hA => ?_
  have hT : TabOk F.P tab := hP ▸ tab_ok
  have hM : F.P.follows .mixedOrders = true := hP ▸ mixed
  have hC : ∀ {f a o r}, AC Try.prog f a o r → AC F.P f a o r := fun h => hP ▸ h
  refine Run.seq ?_
  refine Run.region hL hT [] (by cbv) ?_ ?_
  · exact hq0
  refine Run.seq ?_
  obtain ⟨r1, h_r1, h⟩ := bnd h
  refine Run.region hL hT [(3, .call [false, false, false] [.ag [.jk, .jk, .jk, .jk, .jk, .jk, .jk, .jk, .jk], .ag [.jk, .jk], .ag [.jk, .jk]] [.v (.s (.bool r1))])] (by cbv) ?_ ?_
  · exact (hq trivial (hq (hC (impl_Ahead_ac h_r1)) hq0))
  refine Run.ret ?_
  cases h
  refine ⟨_, _, by cbv, ?_, ?_⟩
  · exact LLe.r
  · exact (ALe.v LLe.r ALe.nil)

set_option maxRecDepth 8000 in
theorem slices_IndexFunc_impl_Row__impl_rowPut_1_ac {a0 : List Row} {a1c0v_Table : Int} {a1c0v_Where : List Cond} {a1c0v_Order : Int} {a1c0v_Down : Bool} {a1c0v_First : Int} {a1c0v_Show : List Int} {a1c0v_Kids : Bool} {a1c0v_KidTable : Int} {a1c0v_KidCol : Int} {a1c1v_Id : Int} {a1c1v_Cells : List Int} {r : Int} (h : slices_IndexFunc_impl_Row__impl_rowPut_1.f a0 (Query.mk a1c0v_Table a1c0v_Where a1c0v_Order a1c0v_Down a1c0v_First a1c0v_Show a1c0v_Kids a1c0v_KidTable a1c0v_KidCol) (Row.mk a1c1v_Id a1c1v_Cells) = some r) : AC Try.prog 73 [.v (.im false (rowsOf Row_i a0)), .v (.fn 74 [.ip [.s (.int .i64 a1c0v_Table), .im false (rowsOf Cond_c a1c0v_Where), .s (.int .i64 a1c0v_Order), .s (.bool a1c0v_Down), .s (.int .i64 a1c0v_First), .im false (rowsOf Int_c a1c0v_Show), .s (.bool a1c0v_Kids), .s (.int .i64 a1c0v_KidTable), .s (.int .i64 a1c0v_KidCol)], .ip [.s (.int .i64 a1c1v_Id), .im false (rowsOf Int_c a1c1v_Cells)]])] [.v (.jk), .v (.jk)] [.v (.s (.int .i64 r))] := by
  unfold slices_IndexFunc_impl_Row__impl_rowPut_1.f at h
  let ar := Ls.ar; let cm := Ls.cm; let bo := Ls.bo; let sc := Ls.sc; let sa := Ls.sa; let sx := Ls.sx; let ss := Ls.ss; let sl := Ls.sl; let bs := Ls.bs; let sb := Ls.sb; let ln := Ls.ln; let sr := Ls.sr; let ap := Ls.ap; let up := Ls.up; let rp := Ls.rp; let fr := Ls.fr; let ge := Ls.ge; let le := Ls.le; let lt := Ls.lt; let nz := Ls.nz; let mm := Ls.mm; let ma := Ls.ma; let sm := Ls.sm; let fl := Ls.fl; let al := Ls.al; let ci := Ls.ci
  let eCond_c := rowsOf Cond_c
  let eInt_c := rowsOf Int_c
  let eRow_i := rowsOf Row_i
  let lenI_Row := @lenI Row
  have hL : (⟨ar, cm, bo, sc, sa, sx, ss, sl, bs, sb, ln, sr, ap, up, rp, fr, ge, le, lt, nz, mm, ma, sm, fl, al, ci⟩ : Lf) = Ls := rfl
  show AC Try.prog 73 [.v (.im false (eRow_i a0)), .v (.fn 74 [.ip [.s (.int .i64 a1c0v_Table), .im false (eCond_c a1c0v_Where), .s (.int .i64 a1c0v_Order), .s (.bool a1c0v_Down), .s (.int .i64 a1c0v_First), .im false (eInt_c a1c0v_Show), .s (.bool a1c0v_Kids), .s (.int .i64 a1c0v_KidTable), .s (.int .i64 a1c0v_KidCol)], .ip [.s (.int .i64 a1c1v_Id), .im false (eInt_c a1c1v_Cells)]])] _ _
  refine AC.of_run2 tab_ok Try.func73 (by rfl) (by rfl) (by cbv) ⟨by decide, rfl⟩ fun F hP hA => ?_
  have hT : TabOk F.P tab := hP ▸ tab_ok
  have hM : F.P.follows .mixedOrders = true := hP ▸ mixed
  have hC : ∀ {f a o r}, AC Try.prog f a o r → AC F.P f a o r := fun h => hP ▸ h
  refine Run.weak ?_ (Weak.fnT 1 (by cbv))
  refine Run.seq ?_
  refine Run.region hL hT [] (by cbv) ?_ ?_
  · exact hq0
  refine Run.seq ?_
  refine Run.seq ?_
  refine Run.region hL hT [] (by cbv) ?_ ?_
  · exact hq0
  rw [show ln (eRow_i a0) = lenI_Row a0 from ln_eq Row_i _]
  refine Run.block ?_
  refine Run.loop1 (fun (z15 : Int) => ⟨19, 100000, [(0, .t (.im false (eRow_i a0))), (1, .fn 74 [.t (.ip [.s (.int .i64 a1c0v_Table), .im false (eCond_c a1c0v_Where), .s (.int .i64 a1c0v_Order), .s (.bool a1c0v_Down), .s (.int .i64 a1c0v_First), .im false (eInt_c a1c0v_Show), .s (.bool a1c0v_Kids), .s (.int .i64 a1c0v_KidTable), .s (.int .i64 a1c0v_KidCol)]), .t (.ip [.s (.int .i64 a1c1v_Id), .im false (eInt_c a1c1v_Cells)])]), (7, .t (.s (.int .i64 (lenI_Row a0)))), (8, .t (.s (.int .i64 z15)))], []⟩) (x0 := 0) h (Weak.of _ [] hA (by cbv) ?_) (fun _ => rfl) ?_
  · repeat (first | exact hq0 | refine hq (by first | exact True.intro | rfl) ?_)
  · intro k z15 h
    rw [slices_IndexFunc_impl_Row__impl_rowPut_1.l0] at h
    refine Run.seq ?_
    refine Run.region hL hT [] (by cbv) ?_ ?_
    · exact (hq trivial hq0)
    refine Run.seq ?_
    refine Run.cond (by cbv) (hq0) (fun c16 => ?_) (fun c16 => ?_)
    · have h := if_t c16 h
      refine Run.skip ?_
      refine Run.seq ?_
      refine Run.block ?_
      refine Run.seq ?_
      refine Run.region hL hT [] (by cbv) ?_ ?_
      · exact hq0
      refine Run.seq ?_
      obtain ⟨⟨x17v_Id, x17v_Cells⟩, h_x17, h⟩ := bnd h
      obtain ⟨r18, h_r18, h⟩ := bnd h
      refine Run.region hL hT [(3, .el [.s (.int .i64 x17v_Id), .im false (eInt_c x17v_Cells)]), (5, .call [false] [.ag [.jk, .jk], .v (.jk), .v (.jk)] [.v (.s (.bool r18))])] (by cbv) ?_ ?_
      · exact (hq (get_le h_x17) (hq (get_lt (f := Row_i) h_x17) (hq (get_ge (f := Row_i) h_x17) (hq (hC (impl_rowPut_1_ac h_r18)) hq0))))
      refine Run.cond (by cbv) (hq0) (fun c19 => ?_) (fun c19 => ?_)
      · have h := if_t c19 h
        refine Run.seq ?_
        refine Run.region hL hT [] (by cbv) ?_ ?_
        · exact hq0
        refine Run.ret ?_
        cases h
        refine ⟨_, _, by cbv, ?_, ?_⟩
        · exact LLe.r
        · exact (ALe.v LLe.r ALe.nil)
      · have h := if_f c19 h
        refine Run.skip ?_
        refine Run.region hL hT [] (by cbv) ?_ ?_
        · exact (hq trivial hq0)
        refine ⟨(ar .add .i64 z15 1), h, Weak.of _ [] hA (by cbv) ?_⟩
        repeat (first | exact hq0 | refine hq (by first | exact True.intro | rfl) ?_)
    · have h := if_f c16 h
      refine Run.exit ?_
      refine Run.seq ?_
      refine Run.region hL hT [] (by cbv) ?_ ?_
      · exact hq0
      refine Run.ret ?_
      cases h
      refine ⟨_, _, by cbv, ?_, ?_⟩
      · exact LLe.r
      · exact (ALe.v LLe.r ALe.nil)

set_option maxHeartbeats 4000000 in
set_option maxRecDepth 100000 in
theorem slices_Insert_impl_Row_end0 (w : World) (g2 c2 : Nat)
  (v' : Value) (w' : World) (hrun : (Builtin.append_ #[46, 46] 46 #[.slice none 0 0, .slice (some ⟨g2, 0, none⟩) 1 c2]).run Try.prog w = .ok v' w') :
  Calls Try.prog 76 #[.slice none 0 0, .int .i64 0, .slice (some ⟨g2, 0, none⟩) 1 c2] w fun ex w2 => ex = .returned v' ∧ w2 = w' := by
  go_enter Try.func76, Try.ntmps76
  go_wp2_with (at_builtin; refine wpList_run rfl (exec_append rfl rfl rfl hrun) ?_)
  all_goals go_ret
  all_goals exact ⟨rfl, rfl⟩

set_option maxHeartbeats 4000000 in
set_option maxRecDepth 100000 in
theorem slices_Insert_impl_Row_end (w : World) (g c g2 c2 n : Nat) (hnc : n ≤ c)
  (v' : Value) (w' : World) (hrun : (Builtin.append_ #[46, 46] 46 #[.slice (some ⟨g, 0, none⟩) n c, .slice (some ⟨g2, 0, none⟩) 1 c2]).run Try.prog w = .ok v' w') :
  Calls Try.prog 76 #[.slice (some ⟨g, 0, none⟩) n c, .int .i64 n, .slice (some ⟨g2, 0, none⟩) 1 c2] w fun ex w2 => ex = .returned v' ∧ w2 = w' := by
  go_enter Try.func76, Try.ntmps76
  go_wp2_with (at_builtin; refine wpList_run rfl (exec_append rfl rfl rfl hrun) ?_)
  all_goals go_ret
  all_goals exact ⟨rfl, rfl⟩

set_option maxHeartbeats 4000000 in
set_option maxRecDepth 100000 in
theorem slices_Insert_impl_Row_in (w : World) (g c g2 c2 n i : Nat) (cur cur2 A B : Array Value) (hi : i < n) (hroom : n + 1 ≤ c) (hc63 : c ≤ maxLen) (hne : g2 ≠ g) (hg : w.heap[g]? = some (.cells cur 29 (0, 0))) (hcs : cur.size = c * 2) (hg2 : w.heap[g2]? = some (.cells cur2 29 (0, 0)))
  (hcp1 : ∀ ty dc sc, (Builtin.copy_ #[46, 46] ty #[.slice (some ⟨g, (i + 1) * 2, none⟩) (n + 1 - (i + 1)) dc, .slice (some ⟨g, i * 2, none⟩) (n + 1 - i) sc]).run Try.prog w.drew = .ok (goInt (n - i : Nat)) (w.drew.setRow g A))
  (hcp2 : ∀ ty dc, (Builtin.copy_ #[46, 46] ty #[.slice (some ⟨g, i * 2, none⟩) (n + 1 - i) dc, .slice (some ⟨g2, 0, none⟩) 1 c2]).run Try.prog (w.drew.setRow g A) = .ok (goInt (1 : Nat)) ((w.drew.setRow g A).setRow g B)) :
  Calls Try.prog 76 #[.slice (some ⟨g, 0, none⟩) n c, .int .i64 i, .slice (some ⟨g2, 0, none⟩) 1 c2] w fun ex w2 => ex = .returned (.slice (some ⟨g, 0, none⟩) (n + 1) c) ∧ w2 = (w.drew.setRow g A).setRow g B := by
  have mixed := mixed
  have TE : TyOk Try.prog 29 _ := tab_ok 29 _ rfl
  have TS : TyOk Try.prog 46 _ := tab_ok 46 _ rfl
  obtain ⟨ti, hti, htz, htb, _⟩ := TE.info
  have u92 := TS.isS rfl
  have hz1 : ¬ ((1 : Int) = 0) := by omega
  have hz2 : ¬ ((i : Int) = (n : Int)) := by omega
  have hw1 : IntKind.i64.wrap ((i : Int) + (1 : Int)) = (i : Int) + (1 : Int) := by unfold maxLen at hc63; rw [IntKind.wrap_i64]; omega
  have hw2 : IntKind.i64.wrap ((n : Int) + (1 : Int)) = (n : Int) + (1 : Int) := by unfold maxLen at hc63; rw [IntKind.wrap_i64]; omega
  have hb1 : (0 : Int) ≤ (i : Int) + (1 : Int) := by omega
  have hin : i ≤ n := by omega
  have htn : ((i : Int) + (1 : Int)).toNat = i + 1 := by omega
  have hb2 : ¬ (c = i + 1) := by omega
  have hb3 : (i : Int) ≤ (n : Int) + (1 : Int) := by omega
  have hb4 : ¬ (c = i) := by omega
  have hov : ∀ lb cb o, (callFunc 95 #[.slice (some ⟨g2, 0, none⟩) 1 c2, .slice (some ⟨g, o, none⟩) lb cb]).run Try.prog w = .ok (.value (.bool false)) w := fun lb cb o => by
    rw [run_callFunc_extern Try.func95 (by kernel_rfl) (by kernel_rfl) (by kernel_rfl) (e := Extern.SlicesOverlaps.overlaps #[46, 46] #[4]) (by kernel_rfl),
      Lib.run_overlaps_apart w 46 4 29 u92 2 (fun w => by simp [sizeOf, typeInfo, hti, htz]) ⟨g2, 0, none⟩ ⟨g, o, none⟩ 1 c2 lb cb hne 29 29 cur2.size cur.size (by simp [World.shape?, hg2]) (by simp [World.shape?, hg]) (by omega) (by simp [World.frozen?, hg2]) (by simp [World.frozen?, hg2])]
    rfl
  go_enter Try.func76, Try.ntmps76
  go_wp2_with (simp only [hov])
  go_region_law_o (refine step_run rfl (exec_copy rfl (by simp [Act.eval, Act.put]; rfl) (by simp [Act.eval, Act.put]; rfl) (hcp1 _ _ _)) ?_)
  go_wp2_with (at_builtin; refine wpList_run rfl (exec_copy rfl rfl rfl (hcp2 _ _)) ?_)
  go_ret
  exact ⟨rfl, rfl⟩

set_option maxHeartbeats 4000000 in
set_option maxRecDepth 100000 in
theorem slices_Insert_impl_Row_grow (w : World) (g c g2 c2 n i G : Nat) (R A B : Array Value) (hi : i < n) (hnc : n ≤ c) (hroom : c < n + 1) (hc63 : n + 1 ≤ maxLen) (hG : n + 1 ≤ G) (hGm : G ≤ maxLen)
  (hrz : ∀ ty, (Builtin.append_ #[46, 3] ty #[.slice (some ⟨g, 0, none⟩) i c, .int .i64 ((n : Int) + 1 - i)]).run Try.prog w = .ok (.slice (some ⟨w.heap.size, 0, none⟩) (n + 1) G) (w.drew.alloc (.cells R 29)))
  (hcp2 : ∀ ty dc, (Builtin.copy_ #[46, 46] ty #[.slice (some ⟨w.heap.size, i * 2, none⟩) (n + 1 - i) dc, .slice (some ⟨g2, 0, none⟩) 1 c2]).run Try.prog (w.alloc (.cells R 29)).drew = .ok (goInt (1 : Nat)) ((w.alloc (.cells R 29)).drew.setRow w.heap.size A))
  (hcp1 : ∀ ty dc sc, (Builtin.copy_ #[46, 46] ty #[.slice (some ⟨w.heap.size, (i + 1) * 2, none⟩) (n + 1 - (i + 1)) dc, .slice (some ⟨g, i * 2, none⟩) (n - i) sc]).run Try.prog ((w.alloc (.cells R 29)).drew.setRow w.heap.size A).drew = .ok (goInt (n - i : Nat)) (((w.alloc (.cells R 29)).drew.setRow w.heap.size A).drew.setRow w.heap.size B)) :
  Calls Try.prog 76 #[.slice (some ⟨g, 0, none⟩) n c, .int .i64 i, .slice (some ⟨g2, 0, none⟩) 1 c2] w fun ex w2 => ex = .returned (.slice (some ⟨w.heap.size, 0, none⟩) (n + 1) G) ∧ w2 = ((w.alloc (.cells R 29)).drew.setRow w.heap.size A).drew.setRow w.heap.size B := by
  have mixed := mixed
  have hz1 : ¬ ((1 : Int) = 0) := by omega
  have hz2 : ¬ ((i : Int) = (n : Int)) := by omega
  have hz3 : (c : Int) < (n : Int) + (1 : Int) := by omega
  have hw1 : IntKind.i64.wrap ((i : Int) + (1 : Int)) = (i : Int) + (1 : Int) := by unfold maxLen at hc63; rw [IntKind.wrap_i64]; omega
  have hw2 : IntKind.i64.wrap ((n : Int) + (1 : Int)) = (n : Int) + (1 : Int) := by unfold maxLen at hc63; rw [IntKind.wrap_i64]; omega
  have hw3 : IntKind.i64.wrap ((n : Int) + (1 : Int) - (i : Int)) = (n : Int) + (1 : Int) - (i : Int) := by unfold maxLen at hc63; rw [IntKind.wrap_i64]; omega
  have hb1 : (0 : Int) ≤ (i : Int) + (1 : Int) := by omega
  have hin : i ≤ n := by omega
  have htn : ((i : Int) + (1 : Int)).toNat = i + 1 := by omega
  have hGi : ¬ (G = i) := by omega
  have hGim : ¬ (G = i + 1) := by omega
  have hci : ¬ (c = i) := by omega
  have hb3 : (i : Int) ≤ (n : Int) := by omega
  go_enter Try.func76, Try.ntmps76
  go_wp2_with (first
    | (at_builtin; refine wpList_run rfl (exec_append rfl rfl rfl (hrz _)) ?_)
    | (at_builtin; refine wpList_run rfl (exec_copy rfl rfl rfl (hcp2 _ _)) ?_))
  go_region_law_o (refine step_run rfl (exec_copy rfl (by simp [Act.eval, Act.put]; rfl) (by simp [Act.eval, Act.put]; rfl) (hcp1 _ _ _)) ?_)
  go_wp2
  go_ret
  exact ⟨rfl, rfl⟩
theorem slices_Insert_impl_Row_roads : Roads Try.prog 76 46 29 2 3 where
  end0 := fun w g2 c2 v' w' h => slices_Insert_impl_Row_end0 w g2 c2 v' w' h
  end1 := fun w g c g2 c2 n v' w' hnc h => slices_Insert_impl_Row_end w g c g2 c2 n hnc v' w' h
  inn := fun w g c g2 c2 n i cur cur2 A B h1 h2 h3 h4 h5 h6 h7 h8 h9 => slices_Insert_impl_Row_in w g c g2 c2 n i cur cur2 A B h1 h2 h3 h4 h5 h6 h7 h8 h9
  grow := fun w g c g2 c2 n i G R A B h1 h2 h3 h4 h5 h6 h7 h8 h9 => slices_Insert_impl_Row_grow w g c g2 c2 n i G R A B h1 h2 h3 h4 h5 h6 h7 h8 h9
theorem slices_Insert_impl_Row_ac {a0 a2 : List Row} {a1 : Int} {r : List Row} (h : slices_Insert_impl_Row.f a0 a1 a2 = some r) : AC Try.prog 76 [.v (.ow 29 (rowsOf Row_o a0)), .v (.s (.int .i64 a1)), .v (.ow 29 (rowsOf Row_o a2))] [.v .jk, .v .jk, .v .jk] [.v (.ow 29 (rowsOf Row_o r))] := by
  unfold slices_Insert_impl_Row.f insO at h
  split at h
  · rename_i hc
    obtain ⟨h1, c0, c1, c2, c3⟩ := hc
    obtain ⟨i, rfl⟩ : ∃ k : Nat, a1 = k := ⟨a1.toNat, by omega⟩
    obtain ⟨x, rfl⟩ := List.length_eq_one_iff.1 h1
    simp only [Option.some.injEq] at h
    subst h
    have hr : rowsOf Row_o (a0.take ((i : Nat) : Int).toNat ++ [x] ++ a0.drop ((i : Nat) : Int).toNat) = (rowsOf Row_o a0).take i ++ [Row_o x] ++ (rowsOf Row_o a0).drop i := by simp [rowsOf, List.map_take, List.map_drop]
    rw [hr]
    have hl := rowsOf_len Row_o a0
    simp only [List.length_singleton] at c2 c3
    exact AC.of_ins ⟨_, Try.func76, by rfl, by rfl⟩ (cellsOf_ty (tab_ok 29 _ rfl)) (slices_Insert_impl_Row_roads.raw (tab_ok 46 _ rfl) rfl (tab_ok 29 _ rfl) (by simp) (underlying_int (tab_ok 3 _ rfl) rfl)) (by omega) (by rw [hl]; show (a0.length + 1) * 32 ≤ _; omega) (by omega)
  · cases h


set_option maxRecDepth 8000 in
theorem impl_rowPut_ac {a0v_Table : Int} {a0v_Where : List Cond} {a0v_Order : Int} {a0v_Down : Bool} {a0v_First : Int} {a0v_Show : List Int} {a0v_Kids : Bool} {a0v_KidTable : Int} {a0v_KidCol : Int} {a1 : List Row} {a2v_Id : Int} {a2v_Cells : List Int} {r : (List Row)} (h : impl_rowPut.f (Query.mk a0v_Table a0v_Where a0v_Order a0v_Down a0v_First a0v_Show a0v_Kids a0v_KidTable a0v_KidCol) a1 (Row.mk a2v_Id a2v_Cells) = some r) : AC Try.prog 43 [.ag [.s (.int .i64 a0v_Table), .im false (rowsOf Cond_c a0v_Where), .s (.int .i64 a0v_Order), .s (.bool a0v_Down), .s (.int .i64 a0v_First), .im false (rowsOf Int_c a0v_Show), .s (.bool a0v_Kids), .s (.int .i64 a0v_KidTable), .s (.int .i64 a0v_KidCol)], .v (.im false (rowsOf Row_i a1)), .ag [.s (.int .i64 a2v_Id), .im false (rowsOf Int_c a2v_Cells)]] [.ag [.jk, .jk, .jk, .jk, .jk, .jk, .jk, .jk, .jk], .v (.jk), .ag [.jk, .jk]] [.v (.ow 29 (rowsOf Row_o r))] := by
  unfold impl_rowPut.f at h
  let ar := Ls.ar; let cm := Ls.cm; let bo := Ls.bo; let sc := Ls.sc; let sa := Ls.sa; let sx := Ls.sx; let ss := Ls.ss; let sl := Ls.sl; let bs := Ls.bs; let sb := Ls.sb; let ln := Ls.ln; let sr := Ls.sr; let ap := Ls.ap; let up := Ls.up; let rp := Ls.rp; let fr := Ls.fr; let ge := Ls.ge; let le := Ls.le; let lt := Ls.lt; let nz := Ls.nz; let mm := Ls.mm; let ma := Ls.ma; let sm := Ls.sm; let fl := Ls.fl; let al := Ls.al; let ci := Ls.ci
  let eCond_c := rowsOf Cond_c
  let eInt_c := rowsOf Int_c
  let eRow_i := rowsOf Row_i
  let eRow_o := rowsOf Row_o
  let lenI_Row := @lenI Row
  have hL : (⟨ar, cm, bo, sc, sa, sx, ss, sl, bs, sb, ln, sr, ap, up, rp, fr, ge, le, lt, nz, mm, ma, sm, fl, al, ci⟩ : Lf) = Ls := rfl
  show AC Try.prog 43 [.ag [.s (.int .i64 a0v_Table), .im false (eCond_c a0v_Where), .s (.int .i64 a0v_Order), .s (.bool a0v_Down), .s (.int .i64 a0v_First), .im false (eInt_c a0v_Show), .s (.bool a0v_Kids), .s (.int .i64 a0v_KidTable), .s (.int .i64 a0v_KidCol)], .v (.im false (eRow_i a1)), .ag [.s (.int .i64 a2v_Id), .im false (eInt_c a2v_Cells)]] _ _
  refine AC.of_run2 tab_ok Try.func43 (by rfl) (by rfl) (by cbv) ⟨by decide, rfl⟩ fun F hP hA => ?_
  have hT : TabOk F.P tab := hP ▸ tab_ok
  have hM : F.P.follows .mixedOrders = true := hP ▸ mixed
  have hC : ∀ {f a o r}, AC Try.prog f a o r → AC F.P f a o r := fun h => hP ▸ h
  refine Run.seq ?_
  refine Run.region hL hT [] (by cbv) ?_ ?_
  · exact hq0
  refine Run.seq ?_
  obtain ⟨r1, h_r1, h⟩ := bnd h
  refine Run.region hL hT [(2, .call [false, false] [.v (.jk), .v (.jk)] [.v (.s (.int .i64 r1))])] (by cbv) ?_ ?_
  · exact (hq (hC (slices_IndexFunc_impl_Row__impl_rowPut_1_ac h_r1)) hq0)
  obtain ⟨K3, h_K3, h⟩ := joinE h
  refine Run.join1 K3 (r := r) (fun (y2 : Int) => ⟨22, 100000, [(1, .t (.im false (eRow_i a1))), (5, .pt 1 0 0), (7, .t (.s (.int .i64 y2)))], [(1, .box 29 [.t (.s (.int .i64 a2v_Id)), .t (.im false (eInt_c a2v_Cells))])]⟩) ?_ ?_
  · skip
    refine Run.seq ?_
    refine Run.region hL hT [] (by cbv) ?_ ?_
    · exact (hq trivial hq0)
    refine Run.cond (by cbv) (hq0) (fun c4 => ?_) (fun c4 => ?_)
    · have h := if_t c4 h
      refine Run.region hL hT [] (by cbv) ?_ ?_
      · exact hq0
      rw [show ln (eRow_i a1) = lenI_Row a1 from ln_eq Row_i _]
      refine ⟨(lenI_Row a1), h, Weak.of _ [(1, 1)] hA (by cbv) ?_⟩
      repeat (first | exact hq0 | refine hq (by first | exact True.intro | rfl) ?_)
    · have h := if_f c4 h
      refine Run.skip ?_
      refine ⟨r1, h, Weak.of _ [(1, 1)] hA (by cbv) ?_⟩
      repeat (first | exact hq0 | refine hq (by first | exact True.intro | rfl) ?_)
  · intro y2 h
    rw [h_K3] at h
    refine Run.seq ?_
    obtain ⟨r5, h_r5, h⟩ := bnd h
    obtain ⟨⟨r6v_Id, r6v_Cells⟩, h_r6, h⟩ := bnd h
    obtain ⟨l7, h_l7, h⟩ := bnd h
    obtain ⟨r8, h_r8, h⟩ := bnd h
    refine Run.draw hL hT hM [(1, .call [false] [.v (.jk)] [.v (.ow 29 (eRow_o r5))]), (4, .call [false] [.ag [.jk, .jk]] [.ag [.s (.int .i64 r6v_Id), .ow 3 (eInt_c r6v_Cells)]]), (6, .call [true, false, true] [.v (.jk), .v (.jk), .v (.jk)] [.v (.ow 29 (eRow_o r8))])] (by cbv) (by cbv) (by cbv) (by cbv) (by cbv) ?_ ?_
    · exact (hq (hC (impl_copyRows_ac h_r5)) (hq trivial (hq (hC (impl_copyRow_ac h_r6)) (hq (hC (AC.args (slices_Insert_impl_Row_ac h_r8) (ALe.v LLe.r (ALe.v LLe.r (ALe.v (LLe.ow (some_le (f := Row_o) h_l7 (RLe.cons rfl LLe.r RLe.nil))) ALe.nil))))) hq0))))
    refine Run.ret ?_
    cases h
    refine ⟨_, _, by cbv, ?_, ?_⟩
    · exact LLe.r
    · exact (ALe.v LLe.r ALe.nil)

set_option maxHeartbeats 4000000 in
set_option maxRecDepth 100000 in
theorem slices_Insert_impl_Kid_end0 (w : World) (g2 c2 : Nat)
  (v' : Value) (w' : World) (hrun : (Builtin.append_ #[47, 47] 47 #[.slice none 0 0, .slice (some ⟨g2, 0, none⟩) 1 c2]).run Try.prog w = .ok v' w') :
  Calls Try.prog 78 #[.slice none 0 0, .int .i64 0, .slice (some ⟨g2, 0, none⟩) 1 c2] w fun ex w2 => ex = .returned v' ∧ w2 = w' := by
  go_enter Try.func78, Try.ntmps78
  go_wp2_with (at_builtin; refine wpList_run rfl (exec_append rfl rfl rfl hrun) ?_)
  all_goals go_ret
  all_goals exact ⟨rfl, rfl⟩

set_option maxHeartbeats 4000000 in
set_option maxRecDepth 100000 in
theorem slices_Insert_impl_Kid_end (w : World) (g c g2 c2 n : Nat) (hnc : n ≤ c)
  (v' : Value) (w' : World) (hrun : (Builtin.append_ #[47, 47] 47 #[.slice (some ⟨g, 0, none⟩) n c, .slice (some ⟨g2, 0, none⟩) 1 c2]).run Try.prog w = .ok v' w') :
  Calls Try.prog 78 #[.slice (some ⟨g, 0, none⟩) n c, .int .i64 n, .slice (some ⟨g2, 0, none⟩) 1 c2] w fun ex w2 => ex = .returned v' ∧ w2 = w' := by
  go_enter Try.func78, Try.ntmps78
  go_wp2_with (at_builtin; refine wpList_run rfl (exec_append rfl rfl rfl hrun) ?_)
  all_goals go_ret
  all_goals exact ⟨rfl, rfl⟩

set_option maxHeartbeats 4000000 in
set_option maxRecDepth 100000 in
theorem slices_Insert_impl_Kid_in (w : World) (g c g2 c2 n i : Nat) (cur cur2 A B : Array Value) (hi : i < n) (hroom : n + 1 ≤ c) (hc63 : c ≤ maxLen) (hne : g2 ≠ g) (hg : w.heap[g]? = some (.cells cur 77 (0, 0))) (hcs : cur.size = c * 2) (hg2 : w.heap[g2]? = some (.cells cur2 77 (0, 0)))
  (hcp1 : ∀ ty dc sc, (Builtin.copy_ #[47, 47] ty #[.slice (some ⟨g, (i + 1) * 2, none⟩) (n + 1 - (i + 1)) dc, .slice (some ⟨g, i * 2, none⟩) (n + 1 - i) sc]).run Try.prog w.drew = .ok (goInt (n - i : Nat)) (w.drew.setRow g A))
  (hcp2 : ∀ ty dc, (Builtin.copy_ #[47, 47] ty #[.slice (some ⟨g, i * 2, none⟩) (n + 1 - i) dc, .slice (some ⟨g2, 0, none⟩) 1 c2]).run Try.prog (w.drew.setRow g A) = .ok (goInt (1 : Nat)) ((w.drew.setRow g A).setRow g B)) :
  Calls Try.prog 78 #[.slice (some ⟨g, 0, none⟩) n c, .int .i64 i, .slice (some ⟨g2, 0, none⟩) 1 c2] w fun ex w2 => ex = .returned (.slice (some ⟨g, 0, none⟩) (n + 1) c) ∧ w2 = (w.drew.setRow g A).setRow g B := by
  have mixed := mixed
  have TE : TyOk Try.prog 77 _ := tab_ok 77 _ rfl
  have TS : TyOk Try.prog 47 _ := tab_ok 47 _ rfl
  obtain ⟨ti, hti, htz, htb, _⟩ := TE.info
  have u92 := TS.isS rfl
  have hz1 : ¬ ((1 : Int) = 0) := by omega
  have hz2 : ¬ ((i : Int) = (n : Int)) := by omega
  have hw1 : IntKind.i64.wrap ((i : Int) + (1 : Int)) = (i : Int) + (1 : Int) := by unfold maxLen at hc63; rw [IntKind.wrap_i64]; omega
  have hw2 : IntKind.i64.wrap ((n : Int) + (1 : Int)) = (n : Int) + (1 : Int) := by unfold maxLen at hc63; rw [IntKind.wrap_i64]; omega
  have hb1 : (0 : Int) ≤ (i : Int) + (1 : Int) := by omega
  have hin : i ≤ n := by omega
  have htn : ((i : Int) + (1 : Int)).toNat = i + 1 := by omega
  have hb2 : ¬ (c = i + 1) := by omega
  have hb3 : (i : Int) ≤ (n : Int) + (1 : Int) := by omega
  have hb4 : ¬ (c = i) := by omega
  have hov : ∀ lb cb o, (callFunc 97 #[.slice (some ⟨g2, 0, none⟩) 1 c2, .slice (some ⟨g, o, none⟩) lb cb]).run Try.prog w = .ok (.value (.bool false)) w := fun lb cb o => by
    rw [run_callFunc_extern Try.func97 (by kernel_rfl) (by kernel_rfl) (by kernel_rfl) (e := Extern.SlicesOverlaps.overlaps #[47, 47] #[4]) (by kernel_rfl),
      Lib.run_overlaps_apart w 47 4 77 u92 2 (fun w => by simp [sizeOf, typeInfo, hti, htz]) ⟨g2, 0, none⟩ ⟨g, o, none⟩ 1 c2 lb cb hne 77 77 cur2.size cur.size (by simp [World.shape?, hg2]) (by simp [World.shape?, hg]) (by omega) (by simp [World.frozen?, hg2]) (by simp [World.frozen?, hg2])]
    rfl
  go_enter Try.func78, Try.ntmps78
  go_wp2_with (simp only [hov])
  go_region_law_o (refine step_run rfl (exec_copy rfl (by simp [Act.eval, Act.put]; rfl) (by simp [Act.eval, Act.put]; rfl) (hcp1 _ _ _)) ?_)
  go_wp2_with (at_builtin; refine wpList_run rfl (exec_copy rfl rfl rfl (hcp2 _ _)) ?_)
  go_ret
  exact ⟨rfl, rfl⟩

set_option maxHeartbeats 4000000 in
set_option maxRecDepth 100000 in
theorem slices_Insert_impl_Kid_grow (w : World) (g c g2 c2 n i G : Nat) (R A B : Array Value) (hi : i < n) (hnc : n ≤ c) (hroom : c < n + 1) (hc63 : n + 1 ≤ maxLen) (hG : n + 1 ≤ G) (hGm : G ≤ maxLen)
  (hrz : ∀ ty, (Builtin.append_ #[47, 3] ty #[.slice (some ⟨g, 0, none⟩) i c, .int .i64 ((n : Int) + 1 - i)]).run Try.prog w = .ok (.slice (some ⟨w.heap.size, 0, none⟩) (n + 1) G) (w.drew.alloc (.cells R 77)))
  (hcp2 : ∀ ty dc, (Builtin.copy_ #[47, 47] ty #[.slice (some ⟨w.heap.size, i * 2, none⟩) (n + 1 - i) dc, .slice (some ⟨g2, 0, none⟩) 1 c2]).run Try.prog (w.alloc (.cells R 77)).drew = .ok (goInt (1 : Nat)) ((w.alloc (.cells R 77)).drew.setRow w.heap.size A))
  (hcp1 : ∀ ty dc sc, (Builtin.copy_ #[47, 47] ty #[.slice (some ⟨w.heap.size, (i + 1) * 2, none⟩) (n + 1 - (i + 1)) dc, .slice (some ⟨g, i * 2, none⟩) (n - i) sc]).run Try.prog ((w.alloc (.cells R 77)).drew.setRow w.heap.size A).drew = .ok (goInt (n - i : Nat)) (((w.alloc (.cells R 77)).drew.setRow w.heap.size A).drew.setRow w.heap.size B)) :
  Calls Try.prog 78 #[.slice (some ⟨g, 0, none⟩) n c, .int .i64 i, .slice (some ⟨g2, 0, none⟩) 1 c2] w fun ex w2 => ex = .returned (.slice (some ⟨w.heap.size, 0, none⟩) (n + 1) G) ∧ w2 = ((w.alloc (.cells R 77)).drew.setRow w.heap.size A).drew.setRow w.heap.size B := by
  have mixed := mixed
  have hz1 : ¬ ((1 : Int) = 0) := by omega
  have hz2 : ¬ ((i : Int) = (n : Int)) := by omega
  have hz3 : (c : Int) < (n : Int) + (1 : Int) := by omega
  have hw1 : IntKind.i64.wrap ((i : Int) + (1 : Int)) = (i : Int) + (1 : Int) := by unfold maxLen at hc63; rw [IntKind.wrap_i64]; omega
  have hw2 : IntKind.i64.wrap ((n : Int) + (1 : Int)) = (n : Int) + (1 : Int) := by unfold maxLen at hc63; rw [IntKind.wrap_i64]; omega
  have hw3 : IntKind.i64.wrap ((n : Int) + (1 : Int) - (i : Int)) = (n : Int) + (1 : Int) - (i : Int) := by unfold maxLen at hc63; rw [IntKind.wrap_i64]; omega
  have hb1 : (0 : Int) ≤ (i : Int) + (1 : Int) := by omega
  have hin : i ≤ n := by omega
  have htn : ((i : Int) + (1 : Int)).toNat = i + 1 := by omega
  have hGi : ¬ (G = i) := by omega
  have hGim : ¬ (G = i + 1) := by omega
  have hci : ¬ (c = i) := by omega
  have hb3 : (i : Int) ≤ (n : Int) := by omega
  go_enter Try.func78, Try.ntmps78
  go_wp2_with (first
    | (at_builtin; refine wpList_run rfl (exec_append rfl rfl rfl (hrz _)) ?_)
    | (at_builtin; refine wpList_run rfl (exec_copy rfl rfl rfl (hcp2 _ _)) ?_))
  go_region_law_o (refine step_run rfl (exec_copy rfl (by simp [Act.eval, Act.put]; rfl) (by simp [Act.eval, Act.put]; rfl) (hcp1 _ _ _)) ?_)
  go_wp2
  go_ret
  exact ⟨rfl, rfl⟩
theorem slices_Insert_impl_Kid_roads : Roads Try.prog 78 47 77 2 3 where
  end0 := fun w g2 c2 v' w' h => slices_Insert_impl_Kid_end0 w g2 c2 v' w' h
  end1 := fun w g c g2 c2 n v' w' hnc h => slices_Insert_impl_Kid_end w g c g2 c2 n hnc v' w' h
  inn := fun w g c g2 c2 n i cur cur2 A B h1 h2 h3 h4 h5 h6 h7 h8 h9 => slices_Insert_impl_Kid_in w g c g2 c2 n i cur cur2 A B h1 h2 h3 h4 h5 h6 h7 h8 h9
  grow := fun w g c g2 c2 n i G R A B h1 h2 h3 h4 h5 h6 h7 h8 h9 => slices_Insert_impl_Kid_grow w g c g2 c2 n i G R A B h1 h2 h3 h4 h5 h6 h7 h8 h9
theorem slices_Insert_impl_Kid_ac {a0 a2 : List Kid} {a1 : Int} {r : List Kid} (h : slices_Insert_impl_Kid.f a0 a1 a2 = some r) : AC Try.prog 78 [.v (.ow 77 (rowsOf Kid_c a0)), .v (.s (.int .i64 a1)), .v (.ow 77 (rowsOf Kid_c a2))] [.v .jk, .v .jk, .v .jk] [.v (.ow 77 (rowsOf Kid_c r))] := by
  unfold slices_Insert_impl_Kid.f insO at h
  split at h
  · rename_i hc
    obtain ⟨h1, c0, c1, c2, c3⟩ := hc
    obtain ⟨i, rfl⟩ : ∃ k : Nat, a1 = k := ⟨a1.toNat, by omega⟩
    obtain ⟨x, rfl⟩ := List.length_eq_one_iff.1 h1
    simp only [Option.some.injEq] at h
    subst h
    have hr : rowsOf Kid_c (a0.take ((i : Nat) : Int).toNat ++ [x] ++ a0.drop ((i : Nat) : Int).toNat) = (rowsOf Kid_c a0).take i ++ [Kid_c x] ++ (rowsOf Kid_c a0).drop i := by simp [rowsOf, List.map_take, List.map_drop]
    rw [hr]
    have hl := rowsOf_len Kid_c a0
    simp only [List.length_singleton] at c2 c3
    exact AC.of_ins ⟨_, Try.func78, by rfl, by rfl⟩ (cellsOf_ty (tab_ok 77 _ rfl)) (slices_Insert_impl_Kid_roads.raw (tab_ok 47 _ rfl) rfl (tab_ok 77 _ rfl) (by simp) (underlying_int (tab_ok 3 _ rfl) rfl)) (by omega) (by rw [hl]; show (a0.length + 1) * 16 ≤ _; omega) (by omega)
  · cases h


set_option maxRecDepth 8000 in
theorem slices_Delete_impl_Kid_ac {a0 : List Kid} {a1 a2 : Int} {r : List Kid} (h : slices_Delete_impl_Kid.f a0 a1 a2 = some r) : AC Try.prog 79 [.v (.ow 77 (rowsOf Kid_c a0)), .v (.s (.int .i64 a1)), .v (.s (.int .i64 a2))] [.v .jk, .v .jk, .v .jk] [.v (.ow 77 (rowsOf Kid_c r))] := by
  unfold slices_Delete_impl_Kid.f delO at h
  split at h
  · rename_i hc
    obtain ⟨c0, c1, c2⟩ := hc
    obtain ⟨i, rfl⟩ : ∃ k : Nat, a1 = k := ⟨a1.toNat, by omega⟩
    obtain ⟨j, rfl⟩ : ∃ k : Nat, a2 = k := ⟨a2.toNat, by omega⟩
    simp only [Option.some.injEq] at h
    subst h
    have hr : rowsOf Kid_c (a0.take ((i : Nat) : Int).toNat ++ a0.drop ((j : Nat) : Int).toNat) = (rowsOf Kid_c a0).take i ++ (rowsOf Kid_c a0).drop j := by simp [rowsOf, List.map_take, List.map_drop]
    rw [hr]
    have hl := rowsOf_len Kid_c a0
    generalize rowsOf Kid_c a0 = R at *
    obtain ⟨D3, hD3⟩ : ∃ D, D = R.take i ++ R.drop j := ⟨_, rfl⟩
    rw [← hD3]
    have c1 : i ≤ j := by omega
    have c2 : j ≤ R.length := by omega
    have hlR : Ls.ln R = (R.length : Int) := rfl
    let ar := Ls.ar; let cm := Ls.cm; let bo := Ls.bo; let sc := Ls.sc; let sa := Ls.sa; let sx := Ls.sx; let ss := Ls.ss; let sl := Ls.sl; let bs := Ls.bs; let sb := Ls.sb; let ln := Ls.ln; let sr := Ls.sr; let ap := Ls.ap; let up := Ls.up; let rp := Ls.rp; let fr := Ls.fr; let ge := Ls.ge; let le := Ls.le; let lt := Ls.lt; let nz := Ls.nz; let mm := Ls.mm; let ma := Ls.ma; let sm := Ls.sm; let fl := Ls.fl; let al := Ls.al; let ci := Ls.ci
    have hL : (⟨ar, cm, bo, sc, sa, sx, ss, sl, bs, sb, ln, sr, ap, up, rp, fr, ge, le, lt, nz, mm, ma, sm, fl, al, ci⟩ : Lf) = Ls := rfl
    refine AC.of_run2 tab_ok Try.func79 (by rfl) (by rfl) (by cbv) ⟨by decide, rfl⟩ fun F hP hA => ?_
    have hT : TabOk F.P tab := hP ▸ tab_ok
    have hM : F.P.follows .mixedOrders = true := hP ▸ mixed
    refine Run.seq ?_
    refine Run.region hL hT [] (by cbv) ?_ ?_
    · exact hq0
    refine Run.seq ?_
    refine Run.region hL hT [(5, .hd [0] .u [])] (by cbv) ?_ ?_
    · exact hq (hand_slice3r (hT 47 _ rfl) rfl (hT 77 _ rfl) (by omega) (by omega) (by show (j : Int) ≤ (R.length : Int); omega) (Int.le_refl _)) hq0
    refine Run.seq ?_
    refine Run.seq ?_
    refine Run.region hL hT [] (by cbv) ?_ ?_
    · exact hq trivial hq0
    refine Run.cond (by cbv) hq0 (fun c => ?_) (fun c => ?_)
    · have e : (i : Int) = j := of_decide_eq_true c
      obtain rfl : i = j := by omega
      rw [List.take_append_drop] at hD3
      subst hD3
      refine Run.seq ?_
      refine Run.region hL hT [] (by cbv) ?_ ?_
      · exact hq0
      refine Run.weak ?_ (Weak.mv (v := .rf 0) 0 900000 6 (by cbv) (by cbv) (by cbv) (by cbv))
      refine Run.ret ?_
      refine ⟨_, _, by cbv, ?_, ?_⟩
      · exact LLe.r
      · exact ALe.r
    have e : ¬ (i : Int) = j := of_decide_eq_false c
    have c1 : i < j := by omega
    obtain ⟨D1, hD1⟩ : ∃ D, D = delR R i j R.length 2 := ⟨_, rfl⟩
    obtain ⟨D2, hD2⟩ : ∃ D, D = delR D1 (i + (R.length - j)) D1.length D1.length 2 := ⟨_, rfl⟩
    have hl1 : D1.length = R.length := by rw [hD1]; exact delR_len (by omega) (by omega) (Nat.le_refl _)
    have hl2 : D2.take (i + (R.length - j)) = D3 := by rw [hD3]; rw [hD2, hl1, hD1]; exact delR_take2 (by omega) (by omega)
    have hj1 := hand_append_in (P := F.P) (x := .tmp 22) (y := .tmp 25) (id := 0) (ver := 0) (hT 47 _ rfl) rfl (hT 77 _ rfl) (h := R.length) (rows := R) c1 c2 (Nat.le_refl _) (rfl : ((i + (R.length - j) : Nat) : Int) = _)
    rw [← hD1] at hj1
    obtain ⟨ki, hki⟩ : ∃ k : Int, k = ((i + (R.length - j) : Nat) : Int) := ⟨_, rfl⟩
    rw [← hki] at hj1
    refine Run.skip ?_
    refine Run.seq ?_
    refine Run.region hL hT [] (by cbv) ?_ ?_
    · exact hq0
    refine Run.seq ?_
    refine Run.draw hL hT hM [(6, .hd [0] (.sb 0 0 ki) [(0, .row 1 77 2 D1)])] (by cbv) (by cbv) (by cbv) (by cbv) (by cbv) ?_ ?_
    · exact hq (Int.le_refl _) (hq (by show (0 : Int) ≤ (i : Int); omega) (hq (by show (i : Int) ≤ (R.length : Int); omega) (hq (by show (0 : Int) ≤ (j : Int); omega) (hq (by show (j : Int) ≤ (R.length : Int); omega) (hq (Int.le_refl _) (hq hj1 hq0))))))
    refine Run.seq ?_
    refine Run.region hL hT [(2, .hd [0] (.t (.s (.int .i64 ki))) []), (4, .hd [0] (.sb 0 ki (ln R)) []), (5, .hd [0] .u [(0, .row 2 77 2 D2)])] (by cbv) ?_ ?_
    · have hj2 := hand_clear (P := F.P) (x := .tmp 31) (id := 0) (ver := 1) (hT 47 _ rfl) rfl (hT 77 _ rfl) (by simp) (b0 := i + (R.length - j)) (b1 := R.length) (rows := D1) (by omega) (by omega)
      rw [← hD2, ← hki] at hj2
      exact hq (hand_len (hT 47 _ rfl) rfl (by omega)) (hq (hand_slice (hT 47 _ rfl) rfl (hT 77 _ rfl) (l := ki) (hh := R.length) rfl (.inr ⟨_, _, rfl, rfl⟩) (.inr ⟨_, _, rfl, rfl⟩) (by omega) (by omega) (by show (0 : Int) + (R.length : Int) ≤ (D1.length : Int); omega) (by omega) (by show (R.length : Int) = _; omega)) (hq hj2 hq0))
    refine Run.seq ?_
    refine Run.region hL hT [] (by cbv) ?_ ?_
    · exact hq0
    refine Run.weak ?_ (Weak.shrink 0 900000 6 (by cbv) (by cbv) (by cbv) (by cbv) hki _ hl2)
    refine Run.ret ?_
    refine ⟨_, _, by cbv, ?_, ?_⟩
    · exact LLe.r
    · exact ALe.r
  · cases h

set_option maxRecDepth 8000 in
theorem impl_KidPut_ac {a0 : List Kid} {a1 : Int} {a2 : Int} {r : (List Kid)} (h : impl_KidPut.f a0 a1 a2 = some r) : AC Try.prog 44 [.v (.im false (rowsOf Kid_c a0)), .v (.s (.int .i64 a1)), .v (.s (.int .i64 a2))] [.v (.jk), .v (.jk), .v (.jk)] [.v (.ow 77 (rowsOf Kid_c r))] := by
  unfold impl_KidPut.f at h
  let ar := Ls.ar; let cm := Ls.cm; let bo := Ls.bo; let sc := Ls.sc; let sa := Ls.sa; let sx := Ls.sx; let ss := Ls.ss; let sl := Ls.sl; let bs := Ls.bs; let sb := Ls.sb; let ln := Ls.ln; let sr := Ls.sr; let ap := Ls.ap; let up := Ls.up; let rp := Ls.rp; let fr := Ls.fr; let ge := Ls.ge; let le := Ls.le; let lt := Ls.lt; let nz := Ls.nz; let mm := Ls.mm; let ma := Ls.ma; let sm := Ls.sm; let fl := Ls.fl; let al := Ls.al; let ci := Ls.ci
  let eKid_c := rowsOf Kid_c
  let lenI_Kid := @lenI Kid
  have hL : (⟨ar, cm, bo, sc, sa, sx, ss, sl, bs, sb, ln, sr, ap, up, rp, fr, ge, le, lt, nz, mm, ma, sm, fl, al, ci⟩ : Lf) = Ls := rfl
  show AC Try.prog 44 [.v (.im false (eKid_c a0)), .v (.s (.int .i64 a1)), .v (.s (.int .i64 a2))] _ _
  refine AC.of_run2 tab_ok Try.func44 (by rfl) (by rfl) (by cbv) ⟨by decide, rfl⟩ fun F hP hA => ?_
  have hT : TabOk F.P tab := hP ▸ tab_ok
  have hM : F.P.follows .mixedOrders = true := hP ▸ mixed
  have hC : ∀ {f a o r}, AC Try.prog f a o r → AC F.P f a o r := fun h => hP ▸ h
  refine Run.seq ?_
  refine Run.region hL hT [] (by cbv) ?_ ?_
  · exact hq0
  refine Run.seq ?_
  obtain ⟨l1, h_l1, h⟩ := bnd h
  refine Run.region hL hT [] (by cbv) ?_ ?_
  · exact (hq (fl_row Kid_c_f _) (hq (app_mb (P := Try.prog) (f := Kid_c) RLe.r RLe.r h_l1) hq0))
  refine Run.row (rows := (ap ([]) ((eKid_c a0)))) 4098 (eKid_c l1) (by cbv) (app_le (f := Kid_c) RLe.r RLe.r h_l1) ?_
  refine Run.seq ?_
  refine Run.region hL hT [] (by cbv) ?_ ?_
  · exact hq0
  obtain ⟨K3, h_K3, h⟩ := joinE h
  refine Run.join1 K3 (r := r) (fun (y2 : Int) => ⟨71, 100000, [(1, .t (.s (.int .i64 a1))), (2, .t (.s (.int .i64 a2))), (7, .rf 1), (8, .t (.s (.int .i64 y2)))], [(1, .row 0 77 2 (eKid_c l1))]⟩) ?_ ?_
  · skip
    refine Run.block ?_
    refine Run.loop1 (fun (z8 : Int) => ⟨71, 100000, [(1, .t (.s (.int .i64 a1))), (2, .t (.s (.int .i64 a2))), (7, .rf 1), (8, .t (.s (.int .i64 z8)))], [(1, .row 0 77 2 (eKid_c l1))]⟩) (x0 := 0) h (Weak.of _ [(1, 4098)] hA (by cbv) ?_) (fun _ => rfl) ?_
    · repeat (first | exact hq0 | refine hq (by first | exact True.intro | rfl) ?_)
    · intro k z8 h
      rw [impl_KidPut.l0] at h
      refine Run.seq ?_
      refine Run.seq ?_
      obtain ⟨⟨x9v_Id, x9v_N⟩, h_x9, h⟩ := bnd h
      refine Run.region hL hT [(9, .el [.s (.int .i64 x9v_Id), .s (.int .i64 x9v_N)])] (by cbv) ?_ ?_
      · exact (hq trivial (hq (fun _ => hq0) (hq (fun _ => hq0) (hq (fun g12 => (by have g12C := g12; rw [show ln (eKid_c l1) = lenI_Kid l1 from ln_eq Kid_c _] at g12C; exact (hq g12 (hq g12 (hq (get_le (gd_t h_x9 g12C)) (hq (get_lt (f := Kid_c) (gd_t h_x9 g12C)) hq0)))))) (hq (fun g13 => (by have g13C := g13; rw [show ln (eKid_c l1) = lenI_Kid l1 from ln_eq Kid_c _] at g13C; exact (hq g13 hq0))) (hq (fun g14 => (by have g14C := g14; rw [show ln (eKid_c l1) = lenI_Kid l1 from ln_eq Kid_c _] at g14C; exact (hq g14 (hq (get_le (gd_t h_x9 g14C)) (hq (get_lt (f := Kid_c) (gd_t h_x9 g14C)) (hq (get_ge (f := Kid_c) (gd_t h_x9 g14C)) hq0)))))) (hq (fun _ => hq0) (hq (fun g16 => (by have g16C := g16; rw [show ln (eKid_c l1) = lenI_Kid l1 from ln_eq Kid_c _] at g16C; exact (hq g16 (hq g16 (hq trivial hq0))))) (hq (fun q17 => (by have q17C := q17; rw [show ln (eKid_c l1) = lenI_Kid l1 from ln_eq Kid_c _] at q17C; exact (hq q17 hq0))) (hq (fun _ => hq0) hq0))))))))))
      rw [show ln (eKid_c l1) = lenI_Kid l1 from ln_eq Kid_c _]
      refine Run.cond (by cbv) (hq0) (fun c19 => ?_) (fun c19 => ?_)
      · have h := if_t c19 h
        refine Run.skip ?_
        refine Run.block ?_
        refine Run.region hL hT [] (by cbv) ?_ ?_
        · exact (hq trivial hq0)
        refine ⟨(ar .add .i64 z8 1), h, Weak.of _ [(1, 1)] hA (by cbv) ?_⟩
        repeat (first | exact hq0 | refine hq (by first | exact True.intro | rfl) ?_)
      · have h := if_f c19 h
        refine Run.exit ?_
        refine ⟨z8, h, Weak.of _ [(1, 1)] hA (by cbv) ?_⟩
        repeat (first | exact hq0 | refine hq (by first | exact True.intro | rfl) ?_)
  · intro y2 h
    rw [h_K3] at h
    refine Run.seq ?_
    refine Run.seq ?_
    obtain ⟨⟨x20v_Id, x20v_N⟩, h_x20, h⟩ := bnd h
    refine Run.region hL hT [(9, .el [.s (.int .i64 x20v_Id), .s (.int .i64 x20v_N)])] (by cbv) ?_ ?_
    · exact (hq trivial (hq (fun _ => hq0) (hq (fun _ => hq0) (hq (fun g23 => (by have g23C := g23; rw [show ln (eKid_c l1) = lenI_Kid l1 from ln_eq Kid_c _] at g23C; exact (hq g23 (hq g23 (hq (get_le (gd_t h_x20 g23C)) (hq (get_lt (f := Kid_c) (gd_t h_x20 g23C)) hq0)))))) (hq (fun g24 => (by have g24C := g24; rw [show ln (eKid_c l1) = lenI_Kid l1 from ln_eq Kid_c _] at g24C; exact (hq g24 hq0))) (hq (fun g25 => (by have g25C := g25; rw [show ln (eKid_c l1) = lenI_Kid l1 from ln_eq Kid_c _] at g25C; exact (hq g25 (hq (get_le (gd_t h_x20 g25C)) (hq (get_lt (f := Kid_c) (gd_t h_x20 g25C)) (hq (get_ge (f := Kid_c) (gd_t h_x20 g25C)) hq0)))))) (hq (fun _ => hq0) (hq (fun g27 => (by have g27C := g27; rw [show ln (eKid_c l1) = lenI_Kid l1 from ln_eq Kid_c _] at g27C; exact (hq g27 (hq g27 (hq trivial hq0))))) (hq (fun _ => hq0) (hq (fun q29 => (by have q29C := q29; rw [show ln (eKid_c l1) = lenI_Kid l1 from ln_eq Kid_c _] at q29C; exact (hq (bo_m q29) hq0))) hq0))))))))))
    rw [show ln (eKid_c l1) = lenI_Kid l1 from ln_eq Kid_c _]
    refine Run.cond (by cbv) (hq0) (fun c30 => ?_) (fun c30 => ?_)
    · have h := if_t c30 h
      refine Run.seq ?_
      refine Run.seq ?_
      refine Run.region hL hT [] (by cbv) ?_ ?_
      · exact (hq trivial hq0)
      refine Run.cond (by cbv) (hq0) (fun c31 => ?_) (fun c31 => ?_)
      · have h := if_t c31 h
        refine Run.seq ?_
        refine Run.region hL hT [] (by cbv) ?_ ?_
        · exact hq0
        refine Run.ret ?_
        cases h
        refine ⟨_, _, by cbv, ?_, ?_⟩
        · exact LLe.r
        · exact (ALe.v LLe.r ALe.nil)
      · have h := if_f c31 h
        refine Run.skip ?_
        refine Run.seq ?_
        obtain ⟨l32, h_l32, h⟩ := bnd h
        obtain ⟨r33, h_r33, h⟩ := bnd h
        refine Run.region hL hT [(6, .call [true, false, true] [.v (.jk), .v (.jk), .v (.jk)] [.v (.ow 77 (eKid_c r33))])] (by cbv) ?_ ?_
        · exact (hq (hC (AC.args (slices_Insert_impl_Kid_ac h_r33) (ALe.v LLe.r (ALe.v LLe.r (ALe.v (LLe.ow (some_le (f := Kid_c) h_l32 (RLe.cons rfl LLe.r RLe.nil))) ALe.nil))))) hq0)
        refine Run.ret ?_
        cases h
        refine ⟨_, _, by cbv, ?_, ?_⟩
        · exact LLe.r
        · exact (ALe.v LLe.r ALe.nil)
    · have h := if_f c30 h
      refine Run.skip ?_
      refine Run.seq ?_
      obtain ⟨⟨x34v_Id, x34v_N⟩, h_x34, h⟩ := bnd h
      obtain ⟨l35, h_l35, h⟩ := bnd h
      refine Run.region hL hT [(4, .el [.s (.int .i64 x34v_Id), .s (.int .i64 x34v_N)])] (by cbv) ?_ ?_
      · exact (hq (get_le h_x34) (hq (get_lt (f := Kid_c) h_x34) (hq (get_le h_x34) (hq (get_lt (f := Kid_c) h_x34) (hq (get_ge (f := Kid_c) h_x34) (hq trivial (hq (get_le h_x34) (hq (get_lt (f := Kid_c) h_x34) (hq (get_le h_x34) (hq (get_lt (f := Kid_c) h_x34) hq0))))))))))
      refine Run.row (rows := (up (eKid_c l1) y2 1 [.s (.int .i64 (ar .add .i64 x34v_N a2))])) 1 (eKid_c l35) (by cbv) (sto_le (f := Kid_c) h_x34 h_l35 rfl LLe.r) ?_
      refine Run.seq ?_
      refine Run.seq ?_
      obtain ⟨⟨x36v_Id, x36v_N⟩, h_x36, h⟩ := bnd h
      refine Run.region hL hT [(4, .el [.s (.int .i64 x36v_Id), .s (.int .i64 x36v_N)])] (by cbv) ?_ ?_
      · exact (hq (get_le h_x36) (hq (get_lt (f := Kid_c) h_x36) (hq (get_le h_x36) (hq (get_lt (f := Kid_c) h_x36) (hq (get_ge (f := Kid_c) h_x36) (hq trivial hq0))))))
      refine Run.cond (by cbv) (hq0) (fun c37 => ?_) (fun c37 => ?_)
      · have h := if_t c37 h
        refine Run.seq ?_
        obtain ⟨r38, h_r38, h⟩ := bnd h
        refine Run.region hL hT [(4, .call [true, false, false] [.v (.jk), .v (.jk), .v (.jk)] [.v (.ow 77 (eKid_c r38))])] (by cbv) ?_ ?_
        · exact (hq trivial (hq (hC (slices_Delete_impl_Kid_ac h_r38)) hq0))
        refine Run.ret ?_
        cases h
        refine ⟨_, _, by cbv, ?_, ?_⟩
        · exact LLe.r
        · exact (ALe.v LLe.r ALe.nil)
      · have h := if_f c37 h
        refine Run.skip ?_
        refine Run.seq ?_
        refine Run.region hL hT [] (by cbv) ?_ ?_
        · exact hq0
        refine Run.ret ?_
        cases h
        refine ⟨_, _, by cbv, ?_, ?_⟩
        · exact LLe.r
        · exact (ALe.v LLe.r ALe.nil)

set_option maxRecDepth 8000 in
theorem impl_ViewChange_ac {a0v_Qv_Table : Int} {a0v_Qv_Where : List Cond} {a0v_Qv_Order : Int} {a0v_Qv_Down : Bool} {a0v_Qv_First : Int} {a0v_Qv_Show : List Int} {a0v_Qv_Kids : Bool} {a0v_Qv_KidTable : Int} {a0v_Qv_KidCol : Int} {a0v_Rows : List Row} {a0v_Kids : List Kid} {a1v_Table : Int} {a1v_Had : Bool} {a1v_Has : Bool} {a1v_Oldv_Id : Int} {a1v_Oldv_Cells : List Int} {a1v_Newv_Id : Int} {a1v_Newv_Cells : List Int} {r : View} (h : impl_ViewChange.f (View.mk (Query.mk a0v_Qv_Table a0v_Qv_Where a0v_Qv_Order a0v_Qv_Down a0v_Qv_First a0v_Qv_Show a0v_Qv_Kids a0v_Qv_KidTable a0v_Qv_KidCol) a0v_Rows a0v_Kids) (Change.mk a1v_Table a1v_Had a1v_Has (Row.mk a1v_Oldv_Id a1v_Oldv_Cells) (Row.mk a1v_Newv_Id a1v_Newv_Cells)) = some r) : AC Try.prog 22 [.ag [.s (.int .i64 a0v_Qv_Table), .im false (rowsOf Cond_c a0v_Qv_Where), .s (.int .i64 a0v_Qv_Order), .s (.bool a0v_Qv_Down), .s (.int .i64 a0v_Qv_First), .im false (rowsOf Int_c a0v_Qv_Show), .s (.bool a0v_Qv_Kids), .s (.int .i64 a0v_Qv_KidTable), .s (.int .i64 a0v_Qv_KidCol), .im false (rowsOf Row_i a0v_Rows), .im false (rowsOf Kid_c a0v_Kids)], .ag [.s (.int .i64 a1v_Table), .s (.bool a1v_Had), .s (.bool a1v_Has), .s (.int .i64 a1v_Oldv_Id), .im false (rowsOf Int_c a1v_Oldv_Cells), .s (.int .i64 a1v_Newv_Id), .im false (rowsOf Int_c a1v_Newv_Cells)]] [.ag [.jk, .jk, .jk, .jk, .jk, .jk, .jk, .jk, .jk, .jk, .jk], .ag [.jk, .jk, .jk, .jk, .jk, .jk, .jk]] [.ag [.s (.int .i64 r.Q.Table), .ow 90 (rowsOf Cond_c r.Q.Where), .s (.int .i64 r.Q.Order), .s (.bool r.Q.Down), .s (.int .i64 r.Q.First), .ow 3 (rowsOf Int_c r.Q.Show), .s (.bool r.Q.Kids), .s (.int .i64 r.Q.KidTable), .s (.int .i64 r.Q.KidCol), .ow 29 (rowsOf Row_o r.Rows), .ow 77 (rowsOf Kid_c r.Kids)]] := by
  unfold impl_ViewChange.f at h
  let ar := Ls.ar; let cm := Ls.cm; let bo := Ls.bo; let sc := Ls.sc; let sa := Ls.sa; let sx := Ls.sx; let ss := Ls.ss; let sl := Ls.sl; let bs := Ls.bs; let sb := Ls.sb; let ln := Ls.ln; let sr := Ls.sr; let ap := Ls.ap; let up := Ls.up; let rp := Ls.rp; let fr := Ls.fr; let ge := Ls.ge; let le := Ls.le; let lt := Ls.lt; let nz := Ls.nz; let mm := Ls.mm; let ma := Ls.ma; let sm := Ls.sm; let fl := Ls.fl; let al := Ls.al; let ci := Ls.ci
  let eCond_c := rowsOf Cond_c
  let eInt_c := rowsOf Int_c
  let eKid_c := rowsOf Kid_c
  let eRow_i := rowsOf Row_i
  let eRow_o := rowsOf Row_o
  have hL : (⟨ar, cm, bo, sc, sa, sx, ss, sl, bs, sb, ln, sr, ap, up, rp, fr, ge, le, lt, nz, mm, ma, sm, fl, al, ci⟩ : Lf) = Ls := rfl
  show AC Try.prog 22 [.ag [.s (.int .i64 a0v_Qv_Table), .im false (eCond_c a0v_Qv_Where), .s (.int .i64 a0v_Qv_Order), .s (.bool a0v_Qv_Down), .s (.int .i64 a0v_Qv_First), .im false (eInt_c a0v_Qv_Show), .s (.bool a0v_Qv_Kids), .s (.int .i64 a0v_Qv_KidTable), .s (.int .i64 a0v_Qv_KidCol), .im false (eRow_i a0v_Rows), .im false (eKid_c a0v_Kids)], .ag [.s (.int .i64 a1v_Table), .s (.bool a1v_Had), .s (.bool a1v_Has), .s (.int .i64 a1v_Oldv_Id), .im false (eInt_c a1v_Oldv_Cells), .s (.int .i64 a1v_Newv_Id), .im false (eInt_c a1v_Newv_Cells)]] _ _
  refine AC.of_run2 tab_ok Try.func22 (by rfl) (by rfl) (by cbv) ⟨by decide, rfl⟩ fun F hP hA => ?_
  have hT : TabOk F.P tab := hP ▸ tab_ok
  have hM : F.P.follows .mixedOrders = true := hP ▸ mixed
  have hC : ∀ {f a o r}, AC Try.prog f a o r → AC F.P f a o r := fun h => hP ▸ h
  refine Run.seq ?_
  refine Run.region hL hT [] (by cbv) ?_ ?_
  · exact hq0
  refine Run.seq ?_
  obtain ⟨⟨⟨r1v_Qv_Table, r1v_Qv_Where, r1v_Qv_Order, r1v_Qv_Down, r1v_Qv_First, r1v_Qv_Show, r1v_Qv_Kids, r1v_Qv_KidTable, r1v_Qv_KidCol⟩, r1v_Rows, r1v_Kids⟩, h_r1, h⟩ := bnd h
  refine Run.region hL hT [(1, .call [false] [.ag [.jk, .jk, .jk, .jk, .jk, .jk, .jk, .jk, .jk, .jk, .jk]] [.ag [.s (.int .i64 r1v_Qv_Table), .ow 90 (eCond_c r1v_Qv_Where), .s (.int .i64 r1v_Qv_Order), .s (.bool r1v_Qv_Down), .s (.int .i64 r1v_Qv_First), .ow 3 (eInt_c r1v_Qv_Show), .s (.bool r1v_Qv_Kids), .s (.int .i64 r1v_Qv_KidTable), .s (.int .i64 r1v_Qv_KidCol), .ow 29 (eRow_o r1v_Rows), .ow 77 (eKid_c r1v_Kids)]])] (by cbv) ?_ ?_
  · exact (hq trivial (hq (hC (impl_copyView_ac h_r1)) (hq trivial hq0)))
  obtain ⟨K3, h_K3, h⟩ := joinE h
  refine Run.join1 K3 (r := r) (fun (y2 : List Row) => ⟨76, 100000, [(2, .pt 1 0 0), (3, .pt 2 0 0), (4, .pt 3 0 0), (5, .pt 4 0 0)], [(1, .box 49 [.t (.s (.int .i64 a0v_Qv_Table)), .t (.im false (eCond_c a0v_Qv_Where)), .t (.s (.int .i64 a0v_Qv_Order)), .t (.s (.bool a0v_Qv_Down)), .t (.s (.int .i64 a0v_Qv_First)), .t (.im false (eInt_c a0v_Qv_Show)), .t (.s (.bool a0v_Qv_Kids)), .t (.s (.int .i64 a0v_Qv_KidTable)), .t (.s (.int .i64 a0v_Qv_KidCol)), .t (.im false (eRow_i a0v_Rows)), .t (.im false (eKid_c a0v_Kids))]), (2, .box 31 [.t (.s (.int .i64 a1v_Table)), .t (.s (.bool a1v_Had)), .t (.s (.bool a1v_Has)), .t (.s (.int .i64 a1v_Oldv_Id)), .t (.im false (eInt_c a1v_Oldv_Cells)), .t (.s (.int .i64 a1v_Newv_Id)), .t (.im false (eInt_c a1v_Newv_Cells))]), (3, .box 49 [.t (.s (.int .i64 0)), .t (.s (.slice none 0 0)), .t (.s (.int .i64 0)), .t (.s (.bool false)), .t (.s (.int .i64 0)), .t (.s (.slice none 0 0)), .t (.s (.bool false)), .t (.s (.int .i64 0)), .t (.s (.int .i64 0)), .t (.s (.slice none 0 0)), .t (.s (.slice none 0 0))]), (4, .box 49 [.t (.s (.int .i64 r1v_Qv_Table)), .rf 5, .t (.s (.int .i64 r1v_Qv_Order)), .t (.s (.bool r1v_Qv_Down)), .t (.s (.int .i64 r1v_Qv_First)), .rf 6, .t (.s (.bool r1v_Qv_Kids)), .t (.s (.int .i64 r1v_Qv_KidTable)), .t (.s (.int .i64 r1v_Qv_KidCol)), .rf 7, .rf 8]), (5, .row 0 90 3 (eCond_c r1v_Qv_Where)), (6, .row 0 3 1 (eInt_c r1v_Qv_Show)), (7, .row 0 29 2 (eRow_o y2)), (8, .row 0 77 2 (eKid_c r1v_Kids))]⟩) ?_ ?_
  · skip
    refine Run.seq ?_
    refine Run.region hL hT [] (by cbv) ?_ ?_
    · exact (hq trivial (hq trivial (hq trivial hq0)))
    refine Run.cond (by cbv) (hq0) (fun c4 => ?_) (fun c4 => ?_)
    · have h := if_t c4 h
      obtain ⟨K6, h_K6, h⟩ := joinE h
      refine Run.join1 K6 (r := r) (fun (y5 : List Row) => ⟨76, 100000, [(2, .pt 1 0 0), (3, .pt 2 0 0), (4, .pt 3 0 0), (5, .pt 4 0 0)], [(1, .box 49 [.t (.s (.int .i64 a0v_Qv_Table)), .t (.im false (eCond_c a0v_Qv_Where)), .t (.s (.int .i64 a0v_Qv_Order)), .t (.s (.bool a0v_Qv_Down)), .t (.s (.int .i64 a0v_Qv_First)), .t (.im false (eInt_c a0v_Qv_Show)), .t (.s (.bool a0v_Qv_Kids)), .t (.s (.int .i64 a0v_Qv_KidTable)), .t (.s (.int .i64 a0v_Qv_KidCol)), .t (.im false (eRow_i a0v_Rows)), .t (.im false (eKid_c a0v_Kids))]), (2, .box 31 [.t (.s (.int .i64 a1v_Table)), .t (.s (.bool a1v_Had)), .t (.s (.bool a1v_Has)), .t (.s (.int .i64 a1v_Oldv_Id)), .t (.im false (eInt_c a1v_Oldv_Cells)), .t (.s (.int .i64 a1v_Newv_Id)), .t (.im false (eInt_c a1v_Newv_Cells))]), (3, .box 49 [.t (.s (.int .i64 0)), .t (.s (.slice none 0 0)), .t (.s (.int .i64 0)), .t (.s (.bool false)), .t (.s (.int .i64 0)), .t (.s (.slice none 0 0)), .t (.s (.bool false)), .t (.s (.int .i64 0)), .t (.s (.int .i64 0)), .t (.s (.slice none 0 0)), .t (.s (.slice none 0 0))]), (4, .box 49 [.t (.s (.int .i64 r1v_Qv_Table)), .rf 5, .t (.s (.int .i64 r1v_Qv_Order)), .t (.s (.bool r1v_Qv_Down)), .t (.s (.int .i64 r1v_Qv_First)), .rf 6, .t (.s (.bool r1v_Qv_Kids)), .t (.s (.int .i64 r1v_Qv_KidTable)), .t (.s (.int .i64 r1v_Qv_KidCol)), .rf 7, .rf 8]), (5, .row 0 90 3 (eCond_c r1v_Qv_Where)), (6, .row 0 3 1 (eInt_c r1v_Qv_Show)), (7, .row 0 29 2 (eRow_o y5)), (8, .row 0 77 2 (eKid_c r1v_Kids))]⟩) ?_ ?_
      · skip
        refine Run.seq ?_
        refine Run.region hL hT [] (by cbv) ?_ ?_
        · exact (hq trivial hq0)
        refine Run.cond (by cbv) (hq0) (fun c7 => ?_) (fun c7 => ?_)
        · have h := if_t c7 h
          obtain ⟨r8, h_r8, h⟩ := bnd h
          refine Run.region hL hT [(5, .call [false, false] [.v (.jk), .v (.jk)] [.v (.ow 29 (eRow_o r8))])] (by cbv) ?_ ?_
          · exact (hq trivial (hq trivial (hq (hC (AC.args (impl_RowDrop_ac h_r8) (ALe.v (LLe.im (RLe.eq (fr_row Row_o_z _))) (ALe.v LLe.r ALe.nil)))) (hq trivial hq0))))
          refine ⟨r8, h, Weak.of _ [(1, 0), (2, 1), (3, 2), (4, 4098), (5, 4097), (6, 4353), (7, 16389), (8, 4865)] hA (by cbv) ?_⟩
          repeat (first | exact hq0 | refine hq (by first | exact True.intro | rfl) ?_)
        · have h := if_f c7 h
          refine Run.skip ?_
          refine ⟨r1v_Rows, h, Weak.of _ [(1, 0), (2, 1), (3, 2), (4, 4098), (5, 4097), (6, 4353), (7, 4609), (8, 4865)] hA (by cbv) ?_⟩
          repeat (first | exact hq0 | refine hq (by first | exact True.intro | rfl) ?_)
      · intro y5 h
        rw [h_K6] at h
        refine Run.seq ?_
        obtain ⟨r9, h_r9, h⟩ := bnd h
        refine Run.region hL hT [(7, .call [false, false] [.ag [.jk, .jk, .jk, .jk, .jk, .jk, .jk, .jk, .jk], .ag [.jk, .jk]] [.v (.s (.bool r9))])] (by cbv) ?_ ?_
        · exact (hq trivial (hq (fun _ => hq0) (hq (fun g11 => (hq g11 (hq trivial hq0))) (hq (fun _ => hq0) (hq (fun g13 => (hq g13 (hq trivial hq0))) (hq (fun g14 => (hq g14 (hq g14 (hq (hC (impl_Matches_ac (gd_t h_r9 g14))) hq0)))) (hq (fun q15 => (hq q15 hq0)) (hq (fun _ => hq0) hq0))))))))
        refine Run.cond (by cbv) (hq0) (fun c17 => ?_) (fun c17 => ?_)
        · have h := if_t c17 h
          obtain ⟨r18, h_r18, h⟩ := bnd h
          refine Run.region hL hT [(6, .call [false, false, false] [.ag [.jk, .jk, .jk, .jk, .jk, .jk, .jk, .jk, .jk], .v (.jk), .ag [.jk, .jk]] [.v (.ow 29 (eRow_o r18))])] (by cbv) ?_ ?_
          · exact (hq trivial (hq trivial (hq trivial (hq (hC (AC.args (impl_rowPut_ac h_r18) (ALe.ag rfl LLe.r (ALe.v (LLe.im (RLe.eq (fr_row Row_o_z _))) (ALe.ag rfl LLe.r ALe.nil))))) (hq trivial hq0)))))
          refine ⟨r18, h, Weak.of _ [(1, 1), (2, 2), (3, 3), (4, 4), (5, 5), (6, 6), (7, 104102), (8, 8)] hA (by cbv) ?_⟩
          repeat (first | exact hq0 | refine hq (by first | exact True.intro | rfl) ?_)
        · have h := if_f c17 h
          refine Run.skip ?_
          refine ⟨y5, h, Weak.of _ [(1, 1), (2, 2), (3, 3), (4, 4), (5, 5), (6, 6), (7, 7), (8, 8)] hA (by cbv) ?_⟩
          repeat (first | exact hq0 | refine hq (by first | exact True.intro | rfl) ?_)
    · have h := if_f c4 h
      refine Run.skip ?_
      refine ⟨r1v_Rows, h, Weak.of _ [(1, 0), (2, 1), (3, 2), (4, 4098), (5, 4097), (6, 4353), (7, 4609), (8, 4865)] hA (by cbv) ?_⟩
      repeat (first | exact hq0 | refine hq (by first | exact True.intro | rfl) ?_)
  · intro y2 h
    rw [h_K3] at h
    refine Run.seq ?_
    refine Run.seq ?_
    refine Run.region hL hT [] (by cbv) ?_ ?_
    · exact (hq trivial (hq (fun _ => hq0) (hq (fun g20 => (hq g20 (hq trivial hq0))) (hq (fun _ => hq0) (hq (fun g22 => (hq g22 hq0)) (hq (fun g23 => (hq g23 (hq trivial hq0))) (hq (fun g24 => (hq g24 (hq g24 (hq trivial hq0)))) (hq (fun q25 => (hq q25 hq0)) (hq (fun _ => hq0) hq0)))))))))
    refine Run.cond (by cbv) (hq0) (fun c27 => ?_) (fun c27 => ?_)
    · have h := if_t c27 h
      obtain ⟨K29, h_K29, h⟩ := joinE h
      refine Run.join1 K29 (r := r) (fun (y28 : List Kid) => ⟨76, 100000, [(2, .pt 1 0 0), (3, .pt 2 0 0), (4, .pt 3 0 0), (5, .pt 4 0 0)], [(1, .box 49 [.t (.s (.int .i64 a0v_Qv_Table)), .t (.im false (eCond_c a0v_Qv_Where)), .t (.s (.int .i64 a0v_Qv_Order)), .t (.s (.bool a0v_Qv_Down)), .t (.s (.int .i64 a0v_Qv_First)), .t (.im false (eInt_c a0v_Qv_Show)), .t (.s (.bool a0v_Qv_Kids)), .t (.s (.int .i64 a0v_Qv_KidTable)), .t (.s (.int .i64 a0v_Qv_KidCol)), .t (.im false (eRow_i a0v_Rows)), .t (.im false (eKid_c a0v_Kids))]), (2, .box 31 [.t (.s (.int .i64 a1v_Table)), .t (.s (.bool a1v_Had)), .t (.s (.bool a1v_Has)), .t (.s (.int .i64 a1v_Oldv_Id)), .t (.im false (eInt_c a1v_Oldv_Cells)), .t (.s (.int .i64 a1v_Newv_Id)), .t (.im false (eInt_c a1v_Newv_Cells))]), (3, .box 49 [.t (.s (.int .i64 0)), .t (.s (.slice none 0 0)), .t (.s (.int .i64 0)), .t (.s (.bool false)), .t (.s (.int .i64 0)), .t (.s (.slice none 0 0)), .t (.s (.bool false)), .t (.s (.int .i64 0)), .t (.s (.int .i64 0)), .t (.s (.slice none 0 0)), .t (.s (.slice none 0 0))]), (4, .box 49 [.t (.s (.int .i64 r1v_Qv_Table)), .rf 5, .t (.s (.int .i64 r1v_Qv_Order)), .t (.s (.bool r1v_Qv_Down)), .t (.s (.int .i64 r1v_Qv_First)), .rf 6, .t (.s (.bool r1v_Qv_Kids)), .t (.s (.int .i64 r1v_Qv_KidTable)), .t (.s (.int .i64 r1v_Qv_KidCol)), .rf 7, .rf 8]), (5, .row 0 90 3 (eCond_c r1v_Qv_Where)), (6, .row 0 3 1 (eInt_c r1v_Qv_Show)), (7, .row 0 29 2 (eRow_o y2)), (8, .row 0 77 2 (eKid_c y28))]⟩) ?_ ?_
      · skip
        refine Run.seq ?_
        refine Run.region hL hT [] (by cbv) ?_ ?_
        · exact (hq trivial hq0)
        refine Run.cond (by cbv) (hq0) (fun c30 => ?_) (fun c30 => ?_)
        · have h := if_t c30 h
          obtain ⟨r31, h_r31, h⟩ := bnd h
          obtain ⟨r32, h_r32, h⟩ := bnd h
          refine Run.draw hL hT hM [(7, .call [false, false] [.ag [.jk, .jk], .v (.jk)] [.v (.s (.int .i64 r31))]), (8, .call [false, false, false] [.v (.jk), .v (.jk), .v (.jk)] [.v (.ow 77 (eKid_c r32))])] (by cbv) (by cbv) (by cbv) (by cbv) (by cbv) ?_ ?_
          · exact (hq trivial (hq trivial (hq trivial (hq (hC (impl_cellOf_ac h_r31)) (hq (hC (AC.args (impl_KidPut_ac h_r32) (ALe.v (LLe.im (RLe.eq (fr_row Kid_c_z _))) (ALe.v LLe.r (ALe.v LLe.r ALe.nil))))) (hq trivial hq0))))))
          refine ⟨r32, h, Weak.of _ [(1, 1), (2, 2), (3, 3), (4, 4), (5, 5), (6, 6), (7, 7), (8, 108200)] hA (by cbv) ?_⟩
          repeat (first | exact hq0 | refine hq (by first | exact True.intro | rfl) ?_)
        · have h := if_f c30 h
          refine Run.skip ?_
          refine ⟨r1v_Kids, h, Weak.of _ [(1, 1), (2, 2), (3, 3), (4, 4), (5, 5), (6, 6), (7, 7), (8, 8)] hA (by cbv) ?_⟩
          repeat (first | exact hq0 | refine hq (by first | exact True.intro | rfl) ?_)
      · intro y28 h
        rw [h_K29] at h
        refine Run.seq ?_
        refine Run.region hL hT [] (by cbv) ?_ ?_
        · exact (hq trivial hq0)
        refine Run.cond (by cbv) (hq0) (fun c33 => ?_) (fun c33 => ?_)
        · have h := if_t c33 h
          obtain ⟨r34, h_r34, h⟩ := bnd h
          obtain ⟨r35, h_r35, h⟩ := bnd h
          refine Run.draw hL hT hM [(7, .call [false, false] [.ag [.jk, .jk], .v (.jk)] [.v (.s (.int .i64 r34))]), (8, .call [false, false, false] [.v (.jk), .v (.jk), .v (.jk)] [.v (.ow 77 (eKid_c r35))])] (by cbv) (by cbv) (by cbv) (by cbv) (by cbv) ?_ ?_
          · exact (hq trivial (hq trivial (hq trivial (hq (hC (impl_cellOf_ac h_r34)) (hq (hC (AC.args (impl_KidPut_ac h_r35) (ALe.v (LLe.im (RLe.eq (fr_row Kid_c_z _))) (ALe.v LLe.r (ALe.v LLe.r ALe.nil))))) (hq trivial hq0))))))
          refine Run.seq ?_
          refine Run.region hL hT [] (by cbv) ?_ ?_
          · exact (hq trivial (hq trivial hq0))
          refine Run.ret ?_
          cases h
          refine ⟨_, _, by cbv, ?_, ?_⟩
          · exact LLe.r
          · exact (ALe.ag rfl LLe.r ALe.nil)
        · have h := if_f c33 h
          refine Run.skip ?_
          refine Run.seq ?_
          refine Run.region hL hT [] (by cbv) ?_ ?_
          · exact (hq trivial (hq trivial hq0))
          refine Run.ret ?_
          cases h
          refine ⟨_, _, by cbv, ?_, ?_⟩
          · exact LLe.r
          · exact (ALe.ag rfl LLe.r ALe.nil)
    · have h := if_f c27 h
      refine Run.skip ?_
      refine Run.seq ?_
      refine Run.region hL hT [] (by cbv) ?_ ?_
      · exact (hq trivial (hq trivial hq0))
      refine Run.ret ?_
      cases h
      refine ⟨_, _, by cbv, ?_, ?_⟩
      · exact LLe.r
      · exact (ALe.ag rfl LLe.r ALe.nil)

set_option maxRecDepth 8000 in
theorem impl_ViewChanges_ac {a0v_Qv_Table : Int} {a0v_Qv_Where : List Cond} {a0v_Qv_Order : Int} {a0v_Qv_Down : Bool} {a0v_Qv_First : Int} {a0v_Qv_Show : List Int} {a0v_Qv_Kids : Bool} {a0v_Qv_KidTable : Int} {a0v_Qv_KidCol : Int} {a0v_Rows : List Row} {a0v_Kids : List Kid} {a1 : List Change} {r : View} (h : impl_ViewChanges.f (View.mk (Query.mk a0v_Qv_Table a0v_Qv_Where a0v_Qv_Order a0v_Qv_Down a0v_Qv_First a0v_Qv_Show a0v_Qv_Kids a0v_Qv_KidTable a0v_Qv_KidCol) a0v_Rows a0v_Kids) a1 = some r) : AC Try.prog 17 [.ag [.s (.int .i64 a0v_Qv_Table), .im false (rowsOf Cond_c a0v_Qv_Where), .s (.int .i64 a0v_Qv_Order), .s (.bool a0v_Qv_Down), .s (.int .i64 a0v_Qv_First), .im false (rowsOf Int_c a0v_Qv_Show), .s (.bool a0v_Qv_Kids), .s (.int .i64 a0v_Qv_KidTable), .s (.int .i64 a0v_Qv_KidCol), .im false (rowsOf Row_i a0v_Rows), .im false (rowsOf Kid_c a0v_Kids)], .v (.im false (rowsOf Change_i a1))] [.ag [.jk, .jk, .jk, .jk, .jk, .jk, .jk, .jk, .jk, .jk, .jk], .v (.jk)] [.ag [.s (.int .i64 r.Q.Table), .ow 90 (rowsOf Cond_c r.Q.Where), .s (.int .i64 r.Q.Order), .s (.bool r.Q.Down), .s (.int .i64 r.Q.First), .ow 3 (rowsOf Int_c r.Q.Show), .s (.bool r.Q.Kids), .s (.int .i64 r.Q.KidTable), .s (.int .i64 r.Q.KidCol), .ow 29 (rowsOf Row_o r.Rows), .ow 77 (rowsOf Kid_c r.Kids)]] := by
  unfold impl_ViewChanges.f at h
  let ar := Ls.ar; let cm := Ls.cm; let bo := Ls.bo; let sc := Ls.sc; let sa := Ls.sa; let sx := Ls.sx; let ss := Ls.ss; let sl := Ls.sl; let bs := Ls.bs; let sb := Ls.sb; let ln := Ls.ln; let sr := Ls.sr; let ap := Ls.ap; let up := Ls.up; let rp := Ls.rp; let fr := Ls.fr; let ge := Ls.ge; let le := Ls.le; let lt := Ls.lt; let nz := Ls.nz; let mm := Ls.mm; let ma := Ls.ma; let sm := Ls.sm; let fl := Ls.fl; let al := Ls.al; let ci := Ls.ci
  let eChange_i := rowsOf Change_i
  let eCond_c := rowsOf Cond_c
  let eInt_c := rowsOf Int_c
  let eKid_c := rowsOf Kid_c
  let eRow_i := rowsOf Row_i
  let eRow_o := rowsOf Row_o
  let lenI_Change := @lenI Change
  have hL : (⟨ar, cm, bo, sc, sa, sx, ss, sl, bs, sb, ln, sr, ap, up, rp, fr, ge, le, lt, nz, mm, ma, sm, fl, al, ci⟩ : Lf) = Ls := rfl
  show AC Try.prog 17 [.ag [.s (.int .i64 a0v_Qv_Table), .im false (eCond_c a0v_Qv_Where), .s (.int .i64 a0v_Qv_Order), .s (.bool a0v_Qv_Down), .s (.int .i64 a0v_Qv_First), .im false (eInt_c a0v_Qv_Show), .s (.bool a0v_Qv_Kids), .s (.int .i64 a0v_Qv_KidTable), .s (.int .i64 a0v_Qv_KidCol), .im false (eRow_i a0v_Rows), .im false (eKid_c a0v_Kids)], .v (.im false (eChange_i a1))] _ _
  refine AC.of_run2 tab_ok Try.func17 (by rfl) (by rfl) (by cbv) ⟨by decide, rfl⟩ fun F hP hA => ?_
  have hT : TabOk F.P tab := hP ▸ tab_ok
  have hM : F.P.follows .mixedOrders = true := hP ▸ mixed
  have hC : ∀ {f a o r}, AC Try.prog f a o r → AC F.P f a o r := fun h => hP ▸ h
  refine Run.seq ?_
  refine Run.region hL hT [] (by cbv) ?_ ?_
  · exact hq0
  refine Run.seq ?_
  obtain ⟨⟨⟨r1v_Qv_Table, r1v_Qv_Where, r1v_Qv_Order, r1v_Qv_Down, r1v_Qv_First, r1v_Qv_Show, r1v_Qv_Kids, r1v_Qv_KidTable, r1v_Qv_KidCol⟩, r1v_Rows, r1v_Kids⟩, h_r1, h⟩ := bnd h
  refine Run.region hL hT [(1, .call [false] [.ag [.jk, .jk, .jk, .jk, .jk, .jk, .jk, .jk, .jk, .jk, .jk]] [.ag [.s (.int .i64 r1v_Qv_Table), .ow 90 (eCond_c r1v_Qv_Where), .s (.int .i64 r1v_Qv_Order), .s (.bool r1v_Qv_Down), .s (.int .i64 r1v_Qv_First), .ow 3 (eInt_c r1v_Qv_Show), .s (.bool r1v_Qv_Kids), .s (.int .i64 r1v_Qv_KidTable), .s (.int .i64 r1v_Qv_KidCol), .ow 29 (eRow_o r1v_Rows), .ow 77 (eKid_c r1v_Kids)]])] (by cbv) ?_ ?_
  · exact (hq trivial (hq (hC (impl_copyView_ac h_r1)) (hq trivial hq0)))
  refine Run.seq ?_
  refine Run.seq ?_
  refine Run.region hL hT [] (by cbv) ?_ ?_
  · exact hq0
  rw [show ln (eChange_i a1) = lenI_Change a1 from ln_eq Change_i _]
  refine Run.block ?_
  refine Run.loop12 (fun (z23 : Int) (z24 : List Cond) (z25 : Int) (z26 : Bool) (z27 : Int) (z28 : List Int) (z29 : Bool) (z30 : Int) (z31 : Int) (z32 : List Row) (z33 : List Kid) (z34 : Int) => ⟨21, 100000, [(4, .pt 1 0 0), (5, .pt 2 0 0), (10, .t (.im false (eChange_i a1))), (11, .t (.s (.int .i64 (lenI_Change a1)))), (12, .t (.s (.int .i64 z34)))], [(1, .box 49 [.t (.s (.int .i64 0)), .t (.s (.slice none 0 0)), .t (.s (.int .i64 0)), .t (.s (.bool false)), .t (.s (.int .i64 0)), .t (.s (.slice none 0 0)), .t (.s (.bool false)), .t (.s (.int .i64 0)), .t (.s (.int .i64 0)), .t (.s (.slice none 0 0)), .t (.s (.slice none 0 0))]), (2, .box 49 [.t (.s (.int .i64 z23)), .rf 3, .t (.s (.int .i64 z25)), .t (.s (.bool z26)), .t (.s (.int .i64 z27)), .rf 4, .t (.s (.bool z29)), .t (.s (.int .i64 z30)), .t (.s (.int .i64 z31)), .rf 5, .rf 6]), (3, .row 0 90 3 (eCond_c z24)), (4, .row 0 3 1 (eInt_c z28)), (5, .row 0 29 2 (eRow_o z32)), (6, .row 0 77 2 (eKid_c z33))]⟩) (x0 := r1v_Qv_Table) (x1 := r1v_Qv_Where) (x2 := r1v_Qv_Order) (x3 := r1v_Qv_Down) (x4 := r1v_Qv_First) (x5 := r1v_Qv_Show) (x6 := r1v_Qv_Kids) (x7 := r1v_Qv_KidTable) (x8 := r1v_Qv_KidCol) (x9 := r1v_Rows) (x10 := r1v_Kids) (x11 := 0) h (Weak.of _ [(1, 1), (2, 4098), (3, 4097), (4, 4353), (5, 4609), (6, 4865)] hA (by cbv) ?_) (fun _ _ _ _ _ _ _ _ _ _ _ _ => rfl) ?_
  · repeat (first | exact hq0 | refine hq (by first | exact True.intro | rfl) ?_)
  · intro k z23 z24 z25 z26 z27 z28 z29 z30 z31 z32 z33 z34 h
    rw [impl_ViewChanges.l0] at h
    refine Run.seq ?_
    refine Run.region hL hT [] (by cbv) ?_ ?_
    · exact (hq trivial hq0)
    refine Run.seq ?_
    refine Run.cond (by cbv) (hq0) (fun c35 => ?_) (fun c35 => ?_)
    · have h := if_t c35 h
      refine Run.skip ?_
      refine Run.seq ?_
      refine Run.block ?_
      refine Run.seq ?_
      obtain ⟨⟨x36v_Table, x36v_Had, x36v_Has, ⟨x36v_Oldv_Id, x36v_Oldv_Cells⟩, ⟨x36v_Newv_Id, x36v_Newv_Cells⟩⟩, h_x36, h⟩ := bnd h
      refine Run.region hL hT [(0, .el [.s (.int .i64 x36v_Table), .s (.bool x36v_Had), .s (.bool x36v_Has), .s (.int .i64 x36v_Oldv_Id), .im false (eInt_c x36v_Oldv_Cells), .s (.int .i64 x36v_Newv_Id), .im false (eInt_c x36v_Newv_Cells)])] (by cbv) ?_ ?_
      · exact (hq (get_le h_x36) (hq (get_lt (f := Change_i) h_x36) (hq (get_ge (f := Change_i) h_x36) (hq trivial hq0))))
      obtain ⟨⟨⟨r37v_Qv_Table, r37v_Qv_Where, r37v_Qv_Order, r37v_Qv_Down, r37v_Qv_First, r37v_Qv_Show, r37v_Qv_Kids, r37v_Qv_KidTable, r37v_Qv_KidCol⟩, r37v_Rows, r37v_Kids⟩, h_r37, h⟩ := bnd h
      refine Run.region hL hT [(2, .call [false, false] [.ag [.jk, .jk, .jk, .jk, .jk, .jk, .jk, .jk, .jk, .jk, .jk], .ag [.jk, .jk, .jk, .jk, .jk, .jk, .jk]] [.ag [.s (.int .i64 r37v_Qv_Table), .ow 90 (eCond_c r37v_Qv_Where), .s (.int .i64 r37v_Qv_Order), .s (.bool r37v_Qv_Down), .s (.int .i64 r37v_Qv_First), .ow 3 (eInt_c r37v_Qv_Show), .s (.bool r37v_Qv_Kids), .s (.int .i64 r37v_Qv_KidTable), .s (.int .i64 r37v_Qv_KidCol), .ow 29 (eRow_o r37v_Rows), .ow 77 (eKid_c r37v_Kids)]])] (by cbv) ?_ ?_
      · exact (hq trivial (hq trivial (hq (hC (AC.args (impl_ViewChange_ac h_r37) (ALe.ag rfl (LLe.c (LLe.cons (LLe.im (RLe.eq (fr_row Cond_c_z _))) (LLe.c (LLe.c (LLe.c (LLe.cons (LLe.im (RLe.eq (fr_row Int_c_z _))) (LLe.c (LLe.c (LLe.c (LLe.cons (LLe.im (RLe.eq (fr_row Row_o_z _))) (LLe.cons (LLe.im (RLe.eq (fr_row Kid_c_z _))) LLe.nil))))))))))) (ALe.ag rfl LLe.r ALe.nil)))) (hq trivial hq0))))
      refine Run.region hL hT [] (by cbv) ?_ ?_
      · exact (hq trivial hq0)
      refine ⟨r37v_Qv_Table, r37v_Qv_Where, r37v_Qv_Order, r37v_Qv_Down, r37v_Qv_First, r37v_Qv_Show, r37v_Qv_Kids, r37v_Qv_KidTable, r37v_Qv_KidCol, r37v_Rows, r37v_Kids, (ar .add .i64 z34 1), h, Weak.of _ [(1, 1), (2, 2), (3, 108194), (4, 108450), (5, 108706), (6, 108962)] hA (by cbv) ?_⟩
      repeat (first | exact hq0 | refine hq (by first | exact True.intro | rfl) ?_)
    · have h := if_f c35 h
      refine Run.exit ?_
      refine Run.seq ?_
      refine Run.region hL hT [] (by cbv) ?_ ?_
      · exact (hq trivial (hq trivial hq0))
      refine Run.ret ?_
      cases h
      refine ⟨_, _, by cbv, ?_, ?_⟩
      · exact LLe.r
      · exact (ALe.ag rfl LLe.r ALe.nil)

set_option maxRecDepth 8000 in
theorem slices_Equal_impl_Cond_ac {a0 : List Cond} {a1 : List Cond} {r : Bool} (h : slices_Equal_impl_Cond.f a0 a1 = some r) : AC Try.prog 64 [.v (.im false (rowsOf Cond_c a0)), .v (.im false (rowsOf Cond_c a1))] [.v (.jk), .v (.jk)] [.v (.s (.bool r))] := by
  unfold slices_Equal_impl_Cond.f at h
  let ar := Ls.ar; let cm := Ls.cm; let bo := Ls.bo; let sc := Ls.sc; let sa := Ls.sa; let sx := Ls.sx; let ss := Ls.ss; let sl := Ls.sl; let bs := Ls.bs; let sb := Ls.sb; let ln := Ls.ln; let sr := Ls.sr; let ap := Ls.ap; let up := Ls.up; let rp := Ls.rp; let fr := Ls.fr; let ge := Ls.ge; let le := Ls.le; let lt := Ls.lt; let nz := Ls.nz; let mm := Ls.mm; let ma := Ls.ma; let sm := Ls.sm; let fl := Ls.fl; let al := Ls.al; let ci := Ls.ci
  let eCond_c := rowsOf Cond_c
  let lenI_Cond := @lenI Cond
  have hL : (⟨ar, cm, bo, sc, sa, sx, ss, sl, bs, sb, ln, sr, ap, up, rp, fr, ge, le, lt, nz, mm, ma, sm, fl, al, ci⟩ : Lf) = Ls := rfl
  show AC Try.prog 64 [.v (.im false (eCond_c a0)), .v (.im false (eCond_c a1))] _ _
  refine AC.of_run2 tab_ok Try.func64 (by rfl) (by rfl) (by cbv) ⟨by decide, rfl⟩ fun F hP hA => ?_
  have hT : TabOk F.P tab := hP ▸ tab_ok
  have hM : F.P.follows .mixedOrders = true := hP ▸ mixed
  have hC : ∀ {f a o r}, AC Try.prog f a o r → AC F.P f a o r := fun h => hP ▸ h
  refine Run.seq ?_
  refine Run.region hL hT [] (by cbv) ?_ ?_
  · exact hq0
  refine Run.seq ?_
  refine Run.seq ?_
  refine Run.region hL hT [] (by cbv) ?_ ?_
  · exact (hq trivial hq0)
  rw [show ln (eCond_c a0) = lenI_Cond a0 from ln_eq Cond_c _]
  rw [show ln (eCond_c a1) = lenI_Cond a1 from ln_eq Cond_c _]
  refine Run.cond (by cbv) (hq0) (fun c1 => ?_) (fun c1 => ?_)
  · have h := if_t c1 h
    refine Run.seq ?_
    refine Run.region hL hT [] (by cbv) ?_ ?_
    · exact hq0
    refine Run.ret ?_
    cases h
    refine ⟨_, _, by cbv, ?_, ?_⟩
    · exact LLe.r
    · exact (ALe.v LLe.r ALe.nil)
  · have h := if_f c1 h
    refine Run.skip ?_
    refine Run.seq ?_
    refine Run.seq ?_
    refine Run.region hL hT [] (by cbv) ?_ ?_
    · exact hq0
    rw [show ln (eCond_c a0) = lenI_Cond a0 from ln_eq Cond_c _]
    refine Run.block ?_
    refine Run.loop1 (fun (z6 : Int) => ⟨26, 100000, [(0, .t (.im false (eCond_c a0))), (1, .t (.im false (eCond_c a1))), (12, .t (.s (.int .i64 (lenI_Cond a0)))), (13, .t (.s (.int .i64 z6)))], []⟩) (x0 := 0) h (Weak.of _ [] hA (by cbv) ?_) (fun _ => rfl) ?_
    · repeat (first | exact hq0 | refine hq (by first | exact True.intro | rfl) ?_)
    · intro k z6 h
      rw [slices_Equal_impl_Cond.l0] at h
      refine Run.seq ?_
      refine Run.region hL hT [] (by cbv) ?_ ?_
      · exact (hq trivial hq0)
      refine Run.seq ?_
      refine Run.cond (by cbv) (hq0) (fun c7 => ?_) (fun c7 => ?_)
      · have h := if_t c7 h
        refine Run.skip ?_
        refine Run.seq ?_
        refine Run.block ?_
        refine Run.seq ?_
        refine Run.region hL hT [] (by cbv) ?_ ?_
        · exact hq0
        refine Run.seq ?_
        obtain ⟨⟨x8v_Col, x8v_Op, x8v_V⟩, h_x8, h⟩ := bnd h
        obtain ⟨⟨x9v_Col, x9v_Op, x9v_V⟩, h_x9, h⟩ := bnd h
        refine Run.draw hL hT hM [(2, .el [.s (.int .i64 x8v_Col), .s (.int .i64 x8v_Op), .s (.int .i64 x8v_V)]), (6, .el [.s (.int .i64 x9v_Col), .s (.int .i64 x9v_Op), .s (.int .i64 x9v_V)])] (by cbv) (by cbv) (by cbv) (by cbv) (by cbv) ?_ ?_
        · exact (hq (get_le h_x8) (hq (get_lt (f := Cond_c) h_x8) (hq (get_ge (f := Cond_c) h_x8) (hq (get_le h_x9) (hq (get_lt (f := Cond_c) h_x9) (hq (get_ge (f := Cond_c) h_x9) (hq trivial (hq trivial (hq trivial (hq trivial (hq trivial (hq trivial hq0))))))))))))
        refine Run.cond (by cbv) (hq0) (fun c10 => ?_) (fun c10 => ?_)
        · have h := if_t c10 h
          refine Run.seq ?_
          refine Run.region hL hT [] (by cbv) ?_ ?_
          · exact hq0
          refine Run.ret ?_
          cases h
          refine ⟨_, _, by cbv, ?_, ?_⟩
          · exact LLe.r
          · exact (ALe.v LLe.r ALe.nil)
        · have h := if_f c10 h
          refine Run.skip ?_
          refine Run.region hL hT [] (by cbv) ?_ ?_
          · exact (hq trivial hq0)
          refine ⟨(ar .add .i64 z6 1), h, Weak.of _ [] hA (by cbv) ?_⟩
          repeat (first | exact hq0 | refine hq (by first | exact True.intro | rfl) ?_)
      · have h := if_f c7 h
        refine Run.exit ?_
        refine Run.seq ?_
        refine Run.region hL hT [] (by cbv) ?_ ?_
        · exact hq0
        refine Run.ret ?_
        cases h
        refine ⟨_, _, by cbv, ?_, ?_⟩
        · exact LLe.r
        · exact (ALe.v LLe.r ALe.nil)

set_option maxRecDepth 8000 in
theorem slices_Equal_int_ac {a0 : List Int} {a1 : List Int} {r : Bool} (h : slices_Equal_int.f a0 a1 = some r) : AC Try.prog 65 [.v (.im false (rowsOf Int_c a0)), .v (.im false (rowsOf Int_c a1))] [.v (.jk), .v (.jk)] [.v (.s (.bool r))] := by
  unfold slices_Equal_int.f at h
  let ar := Ls.ar; let cm := Ls.cm; let bo := Ls.bo; let sc := Ls.sc; let sa := Ls.sa; let sx := Ls.sx; let ss := Ls.ss; let sl := Ls.sl; let bs := Ls.bs; let sb := Ls.sb; let ln := Ls.ln; let sr := Ls.sr; let ap := Ls.ap; let up := Ls.up; let rp := Ls.rp; let fr := Ls.fr; let ge := Ls.ge; let le := Ls.le; let lt := Ls.lt; let nz := Ls.nz; let mm := Ls.mm; let ma := Ls.ma; let sm := Ls.sm; let fl := Ls.fl; let al := Ls.al; let ci := Ls.ci
  let eInt_c := rowsOf Int_c
  let lenI_Int := @lenI Int
  have hL : (⟨ar, cm, bo, sc, sa, sx, ss, sl, bs, sb, ln, sr, ap, up, rp, fr, ge, le, lt, nz, mm, ma, sm, fl, al, ci⟩ : Lf) = Ls := rfl
  show AC Try.prog 65 [.v (.im false (eInt_c a0)), .v (.im false (eInt_c a1))] _ _
  refine AC.of_run2 tab_ok Try.func65 (by rfl) (by rfl) (by cbv) ⟨by decide, rfl⟩ fun F hP hA => ?_
  have hT : TabOk F.P tab := hP ▸ tab_ok
  have hM : F.P.follows .mixedOrders = true := hP ▸ mixed
  have hC : ∀ {f a o r}, AC Try.prog f a o r → AC F.P f a o r := fun h => hP ▸ h
  refine Run.seq ?_
  refine Run.region hL hT [] (by cbv) ?_ ?_
  · exact hq0
  refine Run.seq ?_
  refine Run.seq ?_
  refine Run.region hL hT [] (by cbv) ?_ ?_
  · exact (hq trivial hq0)
  rw [show ln (eInt_c a0) = lenI_Int a0 from ln_eq Int_c _]
  rw [show ln (eInt_c a1) = lenI_Int a1 from ln_eq Int_c _]
  refine Run.cond (by cbv) (hq0) (fun c1 => ?_) (fun c1 => ?_)
  · have h := if_t c1 h
    refine Run.seq ?_
    refine Run.region hL hT [] (by cbv) ?_ ?_
    · exact hq0
    refine Run.ret ?_
    cases h
    refine ⟨_, _, by cbv, ?_, ?_⟩
    · exact LLe.r
    · exact (ALe.v LLe.r ALe.nil)
  · have h := if_f c1 h
    refine Run.skip ?_
    refine Run.seq ?_
    refine Run.seq ?_
    refine Run.region hL hT [] (by cbv) ?_ ?_
    · exact hq0
    rw [show ln (eInt_c a0) = lenI_Int a0 from ln_eq Int_c _]
    refine Run.block ?_
    refine Run.loop1 (fun (z6 : Int) => ⟨26, 100000, [(0, .t (.im false (eInt_c a0))), (1, .t (.im false (eInt_c a1))), (12, .t (.s (.int .i64 (lenI_Int a0)))), (13, .t (.s (.int .i64 z6)))], []⟩) (x0 := 0) h (Weak.of _ [] hA (by cbv) ?_) (fun _ => rfl) ?_
    · repeat (first | exact hq0 | refine hq (by first | exact True.intro | rfl) ?_)
    · intro k z6 h
      rw [slices_Equal_int.l0] at h
      refine Run.seq ?_
      refine Run.region hL hT [] (by cbv) ?_ ?_
      · exact (hq trivial hq0)
      refine Run.seq ?_
      refine Run.cond (by cbv) (hq0) (fun c7 => ?_) (fun c7 => ?_)
      · have h := if_t c7 h
        refine Run.skip ?_
        refine Run.seq ?_
        refine Run.block ?_
        refine Run.seq ?_
        refine Run.region hL hT [] (by cbv) ?_ ?_
        · exact hq0
        refine Run.seq ?_
        obtain ⟨x8, h_x8, h⟩ := bnd h
        obtain ⟨x9, h_x9, h⟩ := bnd h
        refine Run.draw hL hT hM [(2, .el [.s (.int .i64 x8)]), (6, .el [.s (.int .i64 x9)])] (by cbv) (by cbv) (by cbv) (by cbv) (by cbv) ?_ ?_
        · exact (hq (get_le h_x8) (hq (get_lt (f := Int_c) h_x8) (hq (get_ge (f := Int_c) h_x8) (hq (get_le h_x9) (hq (get_lt (f := Int_c) h_x9) (hq (get_ge (f := Int_c) h_x9) (hq trivial hq0)))))))
        refine Run.cond (by cbv) (hq0) (fun c10 => ?_) (fun c10 => ?_)
        · have h := if_t c10 h
          refine Run.seq ?_
          refine Run.region hL hT [] (by cbv) ?_ ?_
          · exact hq0
          refine Run.ret ?_
          cases h
          refine ⟨_, _, by cbv, ?_, ?_⟩
          · exact LLe.r
          · exact (ALe.v LLe.r ALe.nil)
        · have h := if_f c10 h
          refine Run.skip ?_
          refine Run.region hL hT [] (by cbv) ?_ ?_
          · exact (hq trivial hq0)
          refine ⟨(ar .add .i64 z6 1), h, Weak.of _ [] hA (by cbv) ?_⟩
          repeat (first | exact hq0 | refine hq (by first | exact True.intro | rfl) ?_)
      · have h := if_f c7 h
        refine Run.exit ?_
        refine Run.seq ?_
        refine Run.region hL hT [] (by cbv) ?_ ?_
        · exact hq0
        refine Run.ret ?_
        cases h
        refine ⟨_, _, by cbv, ?_, ?_⟩
        · exact LLe.r
        · exact (ALe.v LLe.r ALe.nil)

set_option maxRecDepth 8000 in
theorem impl_QuerySame_ac {a0v_Table : Int} {a0v_Where : List Cond} {a0v_Order : Int} {a0v_Down : Bool} {a0v_First : Int} {a0v_Show : List Int} {a0v_Kids : Bool} {a0v_KidTable : Int} {a0v_KidCol : Int} {a1v_Table : Int} {a1v_Where : List Cond} {a1v_Order : Int} {a1v_Down : Bool} {a1v_First : Int} {a1v_Show : List Int} {a1v_Kids : Bool} {a1v_KidTable : Int} {a1v_KidCol : Int} {r : Bool} (h : impl_QuerySame.f (Query.mk a0v_Table a0v_Where a0v_Order a0v_Down a0v_First a0v_Show a0v_Kids a0v_KidTable a0v_KidCol) (Query.mk a1v_Table a1v_Where a1v_Order a1v_Down a1v_First a1v_Show a1v_Kids a1v_KidTable a1v_KidCol) = some r) : AC Try.prog 36 [.ag [.s (.int .i64 a0v_Table), .im false (rowsOf Cond_c a0v_Where), .s (.int .i64 a0v_Order), .s (.bool a0v_Down), .s (.int .i64 a0v_First), .im false (rowsOf Int_c a0v_Show), .s (.bool a0v_Kids), .s (.int .i64 a0v_KidTable), .s (.int .i64 a0v_KidCol)], .ag [.s (.int .i64 a1v_Table), .im false (rowsOf Cond_c a1v_Where), .s (.int .i64 a1v_Order), .s (.bool a1v_Down), .s (.int .i64 a1v_First), .im false (rowsOf Int_c a1v_Show), .s (.bool a1v_Kids), .s (.int .i64 a1v_KidTable), .s (.int .i64 a1v_KidCol)]] [.ag [.jk, .jk, .jk, .jk, .jk, .jk, .jk, .jk, .jk], .ag [.jk, .jk, .jk, .jk, .jk, .jk, .jk, .jk, .jk]] [.v (.s (.bool r))] := by
  unfold impl_QuerySame.f at h
  let ar := Ls.ar; let cm := Ls.cm; let bo := Ls.bo; let sc := Ls.sc; let sa := Ls.sa; let sx := Ls.sx; let ss := Ls.ss; let sl := Ls.sl; let bs := Ls.bs; let sb := Ls.sb; let ln := Ls.ln; let sr := Ls.sr; let ap := Ls.ap; let up := Ls.up; let rp := Ls.rp; let fr := Ls.fr; let ge := Ls.ge; let le := Ls.le; let lt := Ls.lt; let nz := Ls.nz; let mm := Ls.mm; let ma := Ls.ma; let sm := Ls.sm; let fl := Ls.fl; let al := Ls.al; let ci := Ls.ci
  let eCond_c := rowsOf Cond_c
  let eInt_c := rowsOf Int_c
  have hL : (⟨ar, cm, bo, sc, sa, sx, ss, sl, bs, sb, ln, sr, ap, up, rp, fr, ge, le, lt, nz, mm, ma, sm, fl, al, ci⟩ : Lf) = Ls := rfl
  show AC Try.prog 36 [.ag [.s (.int .i64 a0v_Table), .im false (eCond_c a0v_Where), .s (.int .i64 a0v_Order), .s (.bool a0v_Down), .s (.int .i64 a0v_First), .im false (eInt_c a0v_Show), .s (.bool a0v_Kids), .s (.int .i64 a0v_KidTable), .s (.int .i64 a0v_KidCol)], .ag [.s (.int .i64 a1v_Table), .im false (eCond_c a1v_Where), .s (.int .i64 a1v_Order), .s (.bool a1v_Down), .s (.int .i64 a1v_First), .im false (eInt_c a1v_Show), .s (.bool a1v_Kids), .s (.int .i64 a1v_KidTable), .s (.int .i64 a1v_KidCol)]] _ _
  refine AC.of_run2 tab_ok Try.func36 (by rfl) (by rfl) (by cbv) ⟨by decide, rfl⟩ fun F hP hA => ?_
  have hT : TabOk F.P tab := hP ▸ tab_ok
  have hM : F.P.follows .mixedOrders = true := hP ▸ mixed
  have hC : ∀ {f a o r}, AC Try.prog f a o r → AC F.P f a o r := fun h => hP ▸ h
  refine Run.seq ?_
  refine Run.region hL hT [] (by cbv) ?_ ?_
  · exact hq0
  refine Run.seq ?_
  refine Run.region hL hT [] (by cbv) ?_ ?_
  · exact (hq trivial (hq trivial (hq trivial (hq (fun _ => hq0) (hq (fun g2 => (hq g2 (hq trivial hq0))) (hq (fun _ => hq0) (hq (fun g4 => (hq g4 (hq trivial hq0))) (hq (fun g5 => (hq g5 (hq g5 (hq trivial hq0)))) (hq (fun q6 => (hq q6 hq0)) (hq (fun _ => hq0) (hq (fun _ => hq0) (hq (fun g9 => (hq g9 (hq trivial hq0))) (hq (fun _ => hq0) (hq (fun g11 => (hq g11 (hq trivial hq0))) (hq (fun g12 => (hq g12 (hq g12 hq0))) (hq (fun q13 => (hq q13 hq0)) (hq (fun _ => hq0) (hq (fun _ => hq0) (hq (fun g16 => (hq g16 (hq trivial hq0))) (hq (fun _ => hq0) (hq (fun g18 => (hq g18 (hq trivial hq0))) (hq (fun g19 => (hq g19 (hq g19 (hq trivial hq0)))) (hq (fun q20 => (hq q20 hq0)) (hq (fun _ => hq0) hq0))))))))))))))))))))))))
  refine Run.seq ?_
  refine Run.region hL hT [] (by cbv) ?_ ?_
  · exact (hq trivial (hq trivial (hq (fun _ => hq0) (hq (fun g23 => (hq g23 (hq trivial hq0))) (hq (fun _ => hq0) (hq (fun g25 => (hq g25 (hq trivial hq0))) (hq (fun g26 => (hq g26 (hq g26 (hq trivial hq0)))) (hq (fun q27 => (hq q27 hq0)) (hq (fun _ => hq0) (hq (fun _ => hq0) (hq (fun g30 => (hq g30 (hq trivial hq0))) (hq (fun _ => hq0) (hq (fun g32 => (hq g32 (hq trivial hq0))) (hq (fun g33 => (hq g33 (hq g33 (hq trivial hq0)))) (hq (fun q34 => (hq q34 hq0)) (hq (fun _ => hq0) hq0))))))))))))))))
  refine Run.seq ?_
  obtain ⟨r36, h_r36, h⟩ := bnd h
  obtain ⟨r37, h_r37, h⟩ := bnd h
  refine Run.region hL hT [(9, .call [false, false] [.v (.jk), .v (.jk)] [.v (.s (.bool r36))]), (16, .call [false, false] [.v (.jk), .v (.jk)] [.v (.s (.bool r37))])] (by cbv) ?_ ?_
  · exact (hq (fun _ => hq0) (hq (fun q39 => (hq q39 hq0)) (hq (fun _ => hq0) (hq (fun _ => hq0) (hq (fun g42 => (hq g42 (hq trivial hq0))) (hq (fun _ => hq0) (hq (fun g44 => (hq g44 (hq trivial hq0))) (hq (fun g45 => (hq g45 (hq g45 (hq (hC (slices_Equal_impl_Cond_ac (gd_t h_r36 g45))) hq0)))) (hq (fun q46 => (hq q46 hq0)) (hq (fun _ => hq0) (hq (fun _ => hq0) (hq (fun g49 => (hq g49 (hq trivial hq0))) (hq (fun _ => hq0) (hq (fun g51 => (hq g51 (hq trivial hq0))) (hq (fun g52 => (hq g52 (hq g52 (hq (hC (slices_Equal_int_ac (gd_t h_r37 g52))) hq0)))) (hq (fun q53 => (hq q53 hq0)) (hq (fun _ => hq0) hq0)))))))))))))))))
  refine Run.ret ?_
  cases h
  refine ⟨_, _, by cbv, ?_, ?_⟩
  · exact LLe.r
  · exact (ALe.v LLe.r ALe.nil)

set_option maxRecDepth 8000 in
theorem impl_RowSame_ac {a0v_Id : Int} {a0v_Cells : List Int} {a1v_Id : Int} {a1v_Cells : List Int} {r : Bool} (h : impl_RowSame.f (Row.mk a0v_Id a0v_Cells) (Row.mk a1v_Id a1v_Cells) = some r) : AC Try.prog 38 [.ag [.s (.int .i64 a0v_Id), .im false (rowsOf Int_c a0v_Cells)], .ag [.s (.int .i64 a1v_Id), .im false (rowsOf Int_c a1v_Cells)]] [.ag [.jk, .jk], .ag [.jk, .jk]] [.v (.s (.bool r))] := by
  unfold impl_RowSame.f at h
  let ar := Ls.ar; let cm := Ls.cm; let bo := Ls.bo; let sc := Ls.sc; let sa := Ls.sa; let sx := Ls.sx; let ss := Ls.ss; let sl := Ls.sl; let bs := Ls.bs; let sb := Ls.sb; let ln := Ls.ln; let sr := Ls.sr; let ap := Ls.ap; let up := Ls.up; let rp := Ls.rp; let fr := Ls.fr; let ge := Ls.ge; let le := Ls.le; let lt := Ls.lt; let nz := Ls.nz; let mm := Ls.mm; let ma := Ls.ma; let sm := Ls.sm; let fl := Ls.fl; let al := Ls.al; let ci := Ls.ci
  let eInt_c := rowsOf Int_c
  have hL : (⟨ar, cm, bo, sc, sa, sx, ss, sl, bs, sb, ln, sr, ap, up, rp, fr, ge, le, lt, nz, mm, ma, sm, fl, al, ci⟩ : Lf) = Ls := rfl
  show AC Try.prog 38 [.ag [.s (.int .i64 a0v_Id), .im false (eInt_c a0v_Cells)], .ag [.s (.int .i64 a1v_Id), .im false (eInt_c a1v_Cells)]] _ _
  refine AC.of_run2 tab_ok Try.func38 (by rfl) (by rfl) (by cbv) ⟨by decide, rfl⟩ fun F hP hA => ?_
  have hT : TabOk F.P tab := hP ▸ tab_ok
  have hM : F.P.follows .mixedOrders = true := hP ▸ mixed
  have hC : ∀ {f a o r}, AC Try.prog f a o r → AC F.P f a o r := fun h => hP ▸ h
  refine Run.seq ?_
  refine Run.region hL hT [] (by cbv) ?_ ?_
  · exact hq0
  refine Run.seq ?_
  obtain ⟨r1, h_r1, h⟩ := bnd h
  refine Run.region hL hT [(10, .call [false, false] [.v (.jk), .v (.jk)] [.v (.s (.bool r1))])] (by cbv) ?_ ?_
  · exact (hq trivial (hq trivial (hq trivial (hq (fun _ => hq0) (hq (fun g3 => (hq g3 (hq trivial hq0))) (hq (fun _ => hq0) (hq (fun g5 => (hq g5 (hq trivial hq0))) (hq (fun g6 => (hq g6 (hq g6 (hq (hC (slices_Equal_int_ac (gd_t h_r1 g6))) hq0)))) (hq (fun q7 => (hq q7 hq0)) (hq (fun _ => hq0) hq0))))))))))
  refine Run.ret ?_
  cases h
  refine ⟨_, _, by cbv, ?_, ?_⟩
  · exact LLe.r
  · exact (ALe.v LLe.r ALe.nil)

set_option maxRecDepth 8000 in
theorem slices_EqualFunc_impl_Row__impl_RowSame_ac {a0 : List Row} {a1 : List Row} {r : Bool} (h : slices_EqualFunc_impl_Row__impl_RowSame.f a0 a1 = some r) : AC Try.prog 37 [.v (.im false (rowsOf Row_i a0)), .v (.im false (rowsOf Row_i a1)), .v (.fn 38 [])] [.v (.jk), .v (.jk), .v (.jk)] [.v (.s (.bool r))] := by
  unfold slices_EqualFunc_impl_Row__impl_RowSame.f at h
  let ar := Ls.ar; let cm := Ls.cm; let bo := Ls.bo; let sc := Ls.sc; let sa := Ls.sa; let sx := Ls.sx; let ss := Ls.ss; let sl := Ls.sl; let bs := Ls.bs; let sb := Ls.sb; let ln := Ls.ln; let sr := Ls.sr; let ap := Ls.ap; let up := Ls.up; let rp := Ls.rp; let fr := Ls.fr; let ge := Ls.ge; let le := Ls.le; let lt := Ls.lt; let nz := Ls.nz; let mm := Ls.mm; let ma := Ls.ma; let sm := Ls.sm; let fl := Ls.fl; let al := Ls.al; let ci := Ls.ci
  let eInt_c := rowsOf Int_c
  let eRow_i := rowsOf Row_i
  let lenI_Row := @lenI Row
  have hL : (⟨ar, cm, bo, sc, sa, sx, ss, sl, bs, sb, ln, sr, ap, up, rp, fr, ge, le, lt, nz, mm, ma, sm, fl, al, ci⟩ : Lf) = Ls := rfl
  show AC Try.prog 37 [.v (.im false (eRow_i a0)), .v (.im false (eRow_i a1)), .v (.fn 38 [])] _ _
  refine AC.of_run2 tab_ok Try.func37 (by rfl) (by rfl) (by cbv) ⟨by decide, rfl⟩ fun F hP hA => ?_
  have hT : TabOk F.P tab := hP ▸ tab_ok
  have hM : F.P.follows .mixedOrders = true := hP ▸ mixed
  have hC : ∀ {f a o r}, AC Try.prog f a o r → AC F.P f a o r := fun h => hP ▸ h
  refine Run.weak ?_ (Weak.fnT 2 (by cbv))
  refine Run.seq ?_
  refine Run.region hL hT [] (by cbv) ?_ ?_
  · exact hq0
  refine Run.seq ?_
  refine Run.seq ?_
  refine Run.region hL hT [] (by cbv) ?_ ?_
  · exact (hq trivial hq0)
  rw [show ln (eRow_i a0) = lenI_Row a0 from ln_eq Row_i _]
  rw [show ln (eRow_i a1) = lenI_Row a1 from ln_eq Row_i _]
  refine Run.cond (by cbv) (hq0) (fun c1 => ?_) (fun c1 => ?_)
  · have h := if_t c1 h
    refine Run.seq ?_
    refine Run.region hL hT [] (by cbv) ?_ ?_
    · exact hq0
    refine Run.ret ?_
    cases h
    refine ⟨_, _, by cbv, ?_, ?_⟩
    · exact LLe.r
    · exact (ALe.v LLe.r ALe.nil)
  · have h := if_f c1 h
    refine Run.skip ?_
    refine Run.seq ?_
    refine Run.seq ?_
    refine Run.region hL hT [] (by cbv) ?_ ?_
    · exact hq0
    rw [show ln (eRow_i a0) = lenI_Row a0 from ln_eq Row_i _]
    refine Run.block ?_
    refine Run.loop1 (fun (z6 : Int) => ⟨32, 100000, [(1, .t (.im false (eRow_i a1))), (2, .fn 38 []), (15, .t (.im false (eRow_i a0))), (16, .t (.s (.int .i64 (lenI_Row a0)))), (17, .t (.s (.int .i64 z6)))], []⟩) (x0 := 0) h (Weak.of _ [] hA (by cbv) ?_) (fun _ => rfl) ?_
    · repeat (first | exact hq0 | refine hq (by first | exact True.intro | rfl) ?_)
    · intro k z6 h
      rw [slices_EqualFunc_impl_Row__impl_RowSame.l0] at h
      refine Run.seq ?_
      refine Run.region hL hT [] (by cbv) ?_ ?_
      · exact (hq trivial hq0)
      refine Run.seq ?_
      refine Run.cond (by cbv) (hq0) (fun c7 => ?_) (fun c7 => ?_)
      · have h := if_t c7 h
        refine Run.skip ?_
        refine Run.seq ?_
        refine Run.block ?_
        refine Run.seq ?_
        obtain ⟨⟨x8v_Id, x8v_Cells⟩, h_x8, h⟩ := bnd h
        refine Run.region hL hT [(1, .el [.s (.int .i64 x8v_Id), .im false (eInt_c x8v_Cells)])] (by cbv) ?_ ?_
        · exact (hq (get_le h_x8) (hq (get_lt (f := Row_i) h_x8) (hq (get_ge (f := Row_i) h_x8) (hq trivial hq0))))
        refine Run.seq ?_
        obtain ⟨⟨x9v_Id, x9v_Cells⟩, h_x9, h⟩ := bnd h
        refine Run.region hL hT [(2, .el [.s (.int .i64 x9v_Id), .im false (eInt_c x9v_Cells)])] (by cbv) ?_ ?_
        · exact (hq (get_le h_x9) (hq (get_lt (f := Row_i) h_x9) (hq (get_ge (f := Row_i) h_x9) (hq trivial hq0))))
        refine Run.seq ?_
        obtain ⟨r10, h_r10, h⟩ := bnd h
        refine Run.region hL hT [(3, .call [false, false] [.ag [.jk, .jk], .ag [.jk, .jk]] [.v (.s (.bool r10))])] (by cbv) ?_ ?_
        · exact (hq trivial (hq trivial (hq (hC (impl_RowSame_ac h_r10)) hq0)))
        refine Run.cond (by cbv) (hq0) (fun c11 => ?_) (fun c11 => ?_)
        · have h := if_t c11 h
          refine Run.seq ?_
          refine Run.region hL hT [] (by cbv) ?_ ?_
          · exact hq0
          refine Run.ret ?_
          cases h
          refine ⟨_, _, by cbv, ?_, ?_⟩
          · exact LLe.r
          · exact (ALe.v LLe.r ALe.nil)
        · have h := if_f c11 h
          refine Run.skip ?_
          refine Run.region hL hT [] (by cbv) ?_ ?_
          · exact (hq trivial hq0)
          refine ⟨(ar .add .i64 z6 1), h, Weak.of _ [] hA (by cbv) ?_⟩
          repeat (first | exact hq0 | refine hq (by first | exact True.intro | rfl) ?_)
      · have h := if_f c7 h
        refine Run.exit ?_
        refine Run.seq ?_
        refine Run.region hL hT [] (by cbv) ?_ ?_
        · exact hq0
        refine Run.ret ?_
        cases h
        refine ⟨_, _, by cbv, ?_, ?_⟩
        · exact LLe.r
        · exact (ALe.v LLe.r ALe.nil)

set_option maxRecDepth 8000 in
theorem slices_Equal_impl_Kid_ac {a0 : List Kid} {a1 : List Kid} {r : Bool} (h : slices_Equal_impl_Kid.f a0 a1 = some r) : AC Try.prog 39 [.v (.im false (rowsOf Kid_c a0)), .v (.im false (rowsOf Kid_c a1))] [.v (.jk), .v (.jk)] [.v (.s (.bool r))] := by
  unfold slices_Equal_impl_Kid.f at h
  let ar := Ls.ar; let cm := Ls.cm; let bo := Ls.bo; let sc := Ls.sc; let sa := Ls.sa; let sx := Ls.sx; let ss := Ls.ss; let sl := Ls.sl; let bs := Ls.bs; let sb := Ls.sb; let ln := Ls.ln; let sr := Ls.sr; let ap := Ls.ap; let up := Ls.up; let rp := Ls.rp; let fr := Ls.fr; let ge := Ls.ge; let le := Ls.le; let lt := Ls.lt; let nz := Ls.nz; let mm := Ls.mm; let ma := Ls.ma; let sm := Ls.sm; let fl := Ls.fl; let al := Ls.al; let ci := Ls.ci
  let eKid_c := rowsOf Kid_c
  let lenI_Kid := @lenI Kid
  have hL : (⟨ar, cm, bo, sc, sa, sx, ss, sl, bs, sb, ln, sr, ap, up, rp, fr, ge, le, lt, nz, mm, ma, sm, fl, al, ci⟩ : Lf) = Ls := rfl
  show AC Try.prog 39 [.v (.im false (eKid_c a0)), .v (.im false (eKid_c a1))] _ _
  refine AC.of_run2 tab_ok Try.func39 (by rfl) (by rfl) (by cbv) ⟨by decide, rfl⟩ fun F hP hA => ?_
  have hT : TabOk F.P tab := hP ▸ tab_ok
  have hM : F.P.follows .mixedOrders = true := hP ▸ mixed
  have hC : ∀ {f a o r}, AC Try.prog f a o r → AC F.P f a o r := fun h => hP ▸ h
  refine Run.seq ?_
  refine Run.region hL hT [] (by cbv) ?_ ?_
  · exact hq0
  refine Run.seq ?_
  refine Run.seq ?_
  refine Run.region hL hT [] (by cbv) ?_ ?_
  · exact (hq trivial hq0)
  rw [show ln (eKid_c a0) = lenI_Kid a0 from ln_eq Kid_c _]
  rw [show ln (eKid_c a1) = lenI_Kid a1 from ln_eq Kid_c _]
  refine Run.cond (by cbv) (hq0) (fun c1 => ?_) (fun c1 => ?_)
  · have h := if_t c1 h
    refine Run.seq ?_
    refine Run.region hL hT [] (by cbv) ?_ ?_
    · exact hq0
    refine Run.ret ?_
    cases h
    refine ⟨_, _, by cbv, ?_, ?_⟩
    · exact LLe.r
    · exact (ALe.v LLe.r ALe.nil)
  · have h := if_f c1 h
    refine Run.skip ?_
    refine Run.seq ?_
    refine Run.seq ?_
    refine Run.region hL hT [] (by cbv) ?_ ?_
    · exact hq0
    rw [show ln (eKid_c a0) = lenI_Kid a0 from ln_eq Kid_c _]
    refine Run.block ?_
    refine Run.loop1 (fun (z6 : Int) => ⟨26, 100000, [(0, .t (.im false (eKid_c a0))), (1, .t (.im false (eKid_c a1))), (12, .t (.s (.int .i64 (lenI_Kid a0)))), (13, .t (.s (.int .i64 z6)))], []⟩) (x0 := 0) h (Weak.of _ [] hA (by cbv) ?_) (fun _ => rfl) ?_
    · repeat (first | exact hq0 | refine hq (by first | exact True.intro | rfl) ?_)
    · intro k z6 h
      rw [slices_Equal_impl_Kid.l0] at h
      refine Run.seq ?_
      refine Run.region hL hT [] (by cbv) ?_ ?_
      · exact (hq trivial hq0)
      refine Run.seq ?_
      refine Run.cond (by cbv) (hq0) (fun c7 => ?_) (fun c7 => ?_)
      · have h := if_t c7 h
        refine Run.skip ?_
        refine Run.seq ?_
        refine Run.block ?_
        refine Run.seq ?_
        refine Run.region hL hT [] (by cbv) ?_ ?_
        · exact hq0
        refine Run.seq ?_
        obtain ⟨⟨x8v_Id, x8v_N⟩, h_x8, h⟩ := bnd h
        obtain ⟨⟨x9v_Id, x9v_N⟩, h_x9, h⟩ := bnd h
        refine Run.draw hL hT hM [(2, .el [.s (.int .i64 x8v_Id), .s (.int .i64 x8v_N)]), (6, .el [.s (.int .i64 x9v_Id), .s (.int .i64 x9v_N)])] (by cbv) (by cbv) (by cbv) (by cbv) (by cbv) ?_ ?_
        · exact (hq (get_le h_x8) (hq (get_lt (f := Kid_c) h_x8) (hq (get_ge (f := Kid_c) h_x8) (hq (get_le h_x9) (hq (get_lt (f := Kid_c) h_x9) (hq (get_ge (f := Kid_c) h_x9) (hq trivial (hq trivial (hq trivial (hq trivial hq0))))))))))
        refine Run.cond (by cbv) (hq0) (fun c10 => ?_) (fun c10 => ?_)
        · have h := if_t c10 h
          refine Run.seq ?_
          refine Run.region hL hT [] (by cbv) ?_ ?_
          · exact hq0
          refine Run.ret ?_
          cases h
          refine ⟨_, _, by cbv, ?_, ?_⟩
          · exact LLe.r
          · exact (ALe.v LLe.r ALe.nil)
        · have h := if_f c10 h
          refine Run.skip ?_
          refine Run.region hL hT [] (by cbv) ?_ ?_
          · exact (hq trivial hq0)
          refine ⟨(ar .add .i64 z6 1), h, Weak.of _ [] hA (by cbv) ?_⟩
          repeat (first | exact hq0 | refine hq (by first | exact True.intro | rfl) ?_)
      · have h := if_f c7 h
        refine Run.exit ?_
        refine Run.seq ?_
        refine Run.region hL hT [] (by cbv) ?_ ?_
        · exact hq0
        refine Run.ret ?_
        cases h
        refine ⟨_, _, by cbv, ?_, ?_⟩
        · exact LLe.r
        · exact (ALe.v LLe.r ALe.nil)

set_option maxRecDepth 8000 in
theorem impl_ViewSame_ac {a0v_Qv_Table : Int} {a0v_Qv_Where : List Cond} {a0v_Qv_Order : Int} {a0v_Qv_Down : Bool} {a0v_Qv_First : Int} {a0v_Qv_Show : List Int} {a0v_Qv_Kids : Bool} {a0v_Qv_KidTable : Int} {a0v_Qv_KidCol : Int} {a0v_Rows : List Row} {a0v_Kids : List Kid} {a1v_Qv_Table : Int} {a1v_Qv_Where : List Cond} {a1v_Qv_Order : Int} {a1v_Qv_Down : Bool} {a1v_Qv_First : Int} {a1v_Qv_Show : List Int} {a1v_Qv_Kids : Bool} {a1v_Qv_KidTable : Int} {a1v_Qv_KidCol : Int} {a1v_Rows : List Row} {a1v_Kids : List Kid} {r : Bool} (h : impl_ViewSame.f (View.mk (Query.mk a0v_Qv_Table a0v_Qv_Where a0v_Qv_Order a0v_Qv_Down a0v_Qv_First a0v_Qv_Show a0v_Qv_Kids a0v_Qv_KidTable a0v_Qv_KidCol) a0v_Rows a0v_Kids) (View.mk (Query.mk a1v_Qv_Table a1v_Qv_Where a1v_Qv_Order a1v_Qv_Down a1v_Qv_First a1v_Qv_Show a1v_Qv_Kids a1v_Qv_KidTable a1v_Qv_KidCol) a1v_Rows a1v_Kids) = some r) : AC Try.prog 18 [.ag [.s (.int .i64 a0v_Qv_Table), .im false (rowsOf Cond_c a0v_Qv_Where), .s (.int .i64 a0v_Qv_Order), .s (.bool a0v_Qv_Down), .s (.int .i64 a0v_Qv_First), .im false (rowsOf Int_c a0v_Qv_Show), .s (.bool a0v_Qv_Kids), .s (.int .i64 a0v_Qv_KidTable), .s (.int .i64 a0v_Qv_KidCol), .im false (rowsOf Row_i a0v_Rows), .im false (rowsOf Kid_c a0v_Kids)], .ag [.s (.int .i64 a1v_Qv_Table), .im false (rowsOf Cond_c a1v_Qv_Where), .s (.int .i64 a1v_Qv_Order), .s (.bool a1v_Qv_Down), .s (.int .i64 a1v_Qv_First), .im false (rowsOf Int_c a1v_Qv_Show), .s (.bool a1v_Qv_Kids), .s (.int .i64 a1v_Qv_KidTable), .s (.int .i64 a1v_Qv_KidCol), .im false (rowsOf Row_i a1v_Rows), .im false (rowsOf Kid_c a1v_Kids)]] [.ag [.jk, .jk, .jk, .jk, .jk, .jk, .jk, .jk, .jk, .jk, .jk], .ag [.jk, .jk, .jk, .jk, .jk, .jk, .jk, .jk, .jk, .jk, .jk]] [.v (.s (.bool r))] := by
  unfold impl_ViewSame.f at h
  let ar := Ls.ar; let cm := Ls.cm; let bo := Ls.bo; let sc := Ls.sc; let sa := Ls.sa; let sx := Ls.sx; let ss := Ls.ss; let sl := Ls.sl; let bs := Ls.bs; let sb := Ls.sb; let ln := Ls.ln; let sr := Ls.sr; let ap := Ls.ap; let up := Ls.up; let rp := Ls.rp; let fr := Ls.fr; let ge := Ls.ge; let le := Ls.le; let lt := Ls.lt; let nz := Ls.nz; let mm := Ls.mm; let ma := Ls.ma; let sm := Ls.sm; let fl := Ls.fl; let al := Ls.al; let ci := Ls.ci
  let eCond_c := rowsOf Cond_c
  let eInt_c := rowsOf Int_c
  let eKid_c := rowsOf Kid_c
  let eRow_i := rowsOf Row_i
  have hL : (⟨ar, cm, bo, sc, sa, sx, ss, sl, bs, sb, ln, sr, ap, up, rp, fr, ge, le, lt, nz, mm, ma, sm, fl, al, ci⟩ : Lf) = Ls := rfl
  show AC Try.prog 18 [.ag [.s (.int .i64 a0v_Qv_Table), .im false (eCond_c a0v_Qv_Where), .s (.int .i64 a0v_Qv_Order), .s (.bool a0v_Qv_Down), .s (.int .i64 a0v_Qv_First), .im false (eInt_c a0v_Qv_Show), .s (.bool a0v_Qv_Kids), .s (.int .i64 a0v_Qv_KidTable), .s (.int .i64 a0v_Qv_KidCol), .im false (eRow_i a0v_Rows), .im false (eKid_c a0v_Kids)], .ag [.s (.int .i64 a1v_Qv_Table), .im false (eCond_c a1v_Qv_Where), .s (.int .i64 a1v_Qv_Order), .s (.bool a1v_Qv_Down), .s (.int .i64 a1v_Qv_First), .im false (eInt_c a1v_Qv_Show), .s (.bool a1v_Qv_Kids), .s (.int .i64 a1v_Qv_KidTable), .s (.int .i64 a1v_Qv_KidCol), .im false (eRow_i a1v_Rows), .im false (eKid_c a1v_Kids)]] _ _
  refine AC.of_run2 tab_ok Try.func18 (by rfl) (by rfl) (by cbv) ⟨by decide, rfl⟩ fun F hP hA => ?_
  have hT : TabOk F.P tab := hP ▸ tab_ok
  have hM : F.P.follows .mixedOrders = true := hP ▸ mixed
  have hC : ∀ {f a o r}, AC Try.prog f a o r → AC F.P f a o r := fun h => hP ▸ h
  refine Run.seq ?_
  refine Run.region hL hT [] (by cbv) ?_ ?_
  · exact hq0
  refine Run.seq ?_
  obtain ⟨r1, h_r1, h⟩ := bnd h
  obtain ⟨r2, h_r2, h⟩ := bnd h
  obtain ⟨r3, h_r3, h⟩ := bnd h
  refine Run.region hL hT [(4, .call [false, false] [.ag [.jk, .jk, .jk, .jk, .jk, .jk, .jk, .jk, .jk], .ag [.jk, .jk, .jk, .jk, .jk, .jk, .jk, .jk, .jk]] [.v (.s (.bool r1))]), (10, .call [false, false, false] [.v (.jk), .v (.jk), .v (.jk)] [.v (.s (.bool r2))]), (17, .call [false, false] [.v (.jk), .v (.jk)] [.v (.s (.bool r3))])] (by cbv) ?_ ?_
  · exact (hq trivial (hq trivial (hq (hC (impl_QuerySame_ac h_r1)) (hq (fun _ => hq0) (hq (fun g5 => (hq g5 (hq trivial hq0))) (hq (fun _ => hq0) (hq (fun g7 => (hq g7 (hq trivial hq0))) (hq (fun g8 => (hq g8 (hq g8 (hq (hC (slices_EqualFunc_impl_Row__impl_RowSame_ac (gd_t h_r2 g8))) hq0)))) (hq (fun q9 => (hq q9 hq0)) (hq (fun _ => hq0) (hq (fun _ => hq0) (hq (fun g12 => (hq g12 (hq trivial hq0))) (hq (fun _ => hq0) (hq (fun g14 => (hq g14 (hq trivial hq0))) (hq (fun g15 => (hq g15 (hq g15 (hq (hC (slices_Equal_impl_Kid_ac (gd_t h_r3 g15))) hq0)))) (hq (fun q16 => (hq q16 hq0)) (hq (fun _ => hq0) hq0)))))))))))))))))
  refine Run.ret ?_
  cases h
  refine ⟨_, _, by cbv, ?_, ?_⟩
  · exact LLe.r
  · exact (ALe.v LLe.r ALe.nil)

set_option maxRecDepth 8000 in
theorem spec_l13Copy_ac {a0v_Qv_Table : Int} {a0v_Qv_Where : List Cond} {a0v_Qv_Order : Int} {a0v_Qv_Down : Bool} {a0v_Qv_First : Int} {a0v_Qv_Show : List Int} {a0v_Qv_Kids : Bool} {a0v_Qv_KidTable : Int} {a0v_Qv_KidCol : Int} {a0v_Rows : List Row} {a0v_Kids : List Kid} {r : View} (h : spec_l13Copy.f (View.mk (Query.mk a0v_Qv_Table a0v_Qv_Where a0v_Qv_Order a0v_Qv_Down a0v_Qv_First a0v_Qv_Show a0v_Qv_Kids a0v_Qv_KidTable a0v_Qv_KidCol) a0v_Rows a0v_Kids) = some r) : AC Try.prog 40 [.ag [.s (.int .i64 a0v_Qv_Table), .im false (rowsOf Cond_c a0v_Qv_Where), .s (.int .i64 a0v_Qv_Order), .s (.bool a0v_Qv_Down), .s (.int .i64 a0v_Qv_First), .im false (rowsOf Int_c a0v_Qv_Show), .s (.bool a0v_Qv_Kids), .s (.int .i64 a0v_Qv_KidTable), .s (.int .i64 a0v_Qv_KidCol), .im false (rowsOf Row_i a0v_Rows), .im false (rowsOf Kid_c a0v_Kids)]] [.ag [.jk, .jk, .jk, .jk, .jk, .jk, .jk, .jk, .jk, .jk, .jk]] [.ag [.s (.int .i64 r.Q.Table), .ow 90 (rowsOf Cond_c r.Q.Where), .s (.int .i64 r.Q.Order), .s (.bool r.Q.Down), .s (.int .i64 r.Q.First), .ow 3 (rowsOf Int_c r.Q.Show), .s (.bool r.Q.Kids), .s (.int .i64 r.Q.KidTable), .s (.int .i64 r.Q.KidCol), .ow 29 (rowsOf Row_o r.Rows), .ow 77 (rowsOf Kid_c r.Kids)]] := by
  unfold spec_l13Copy.f at h
  let ar := Ls.ar; let cm := Ls.cm; let bo := Ls.bo; let sc := Ls.sc; let sa := Ls.sa; let sx := Ls.sx; let ss := Ls.ss; let sl := Ls.sl; let bs := Ls.bs; let sb := Ls.sb; let ln := Ls.ln; let sr := Ls.sr; let ap := Ls.ap; let up := Ls.up; let rp := Ls.rp; let fr := Ls.fr; let ge := Ls.ge; let le := Ls.le; let lt := Ls.lt; let nz := Ls.nz; let mm := Ls.mm; let ma := Ls.ma; let sm := Ls.sm; let fl := Ls.fl; let al := Ls.al; let ci := Ls.ci
  let eCond_c := rowsOf Cond_c
  let eInt_c := rowsOf Int_c
  let eKid_c := rowsOf Kid_c
  let eRow_i := rowsOf Row_i
  let eRow_o := rowsOf Row_o
  have hL : (⟨ar, cm, bo, sc, sa, sx, ss, sl, bs, sb, ln, sr, ap, up, rp, fr, ge, le, lt, nz, mm, ma, sm, fl, al, ci⟩ : Lf) = Ls := rfl
  show AC Try.prog 40 [.ag [.s (.int .i64 a0v_Qv_Table), .im false (eCond_c a0v_Qv_Where), .s (.int .i64 a0v_Qv_Order), .s (.bool a0v_Qv_Down), .s (.int .i64 a0v_Qv_First), .im false (eInt_c a0v_Qv_Show), .s (.bool a0v_Qv_Kids), .s (.int .i64 a0v_Qv_KidTable), .s (.int .i64 a0v_Qv_KidCol), .im false (eRow_i a0v_Rows), .im false (eKid_c a0v_Kids)]] _ _
  refine AC.of_run2 tab_ok Try.func40 (by rfl) (by rfl) (by cbv) ⟨by decide, rfl⟩ fun F hP hA => ?_
  have hT : TabOk F.P tab := hP ▸ tab_ok
  have hM : F.P.follows .mixedOrders = true := hP ▸ mixed
  have hC : ∀ {f a o r}, AC Try.prog f a o r → AC F.P f a o r := fun h => hP ▸ h
  refine Run.seq ?_
  refine Run.region hL hT [] (by cbv) ?_ ?_
  · exact hq0
  refine Run.seq ?_
  obtain ⟨⟨r1v_Table, r1v_Where, r1v_Order, r1v_Down, r1v_First, r1v_Show, r1v_Kids, r1v_KidTable, r1v_KidCol⟩, h_r1, h⟩ := bnd h
  obtain ⟨r2, h_r2, h⟩ := bnd h
  obtain ⟨l3, h_l3, h⟩ := bnd h
  refine Run.draw hL hT hM [(2, .call [false] [.ag [.jk, .jk, .jk, .jk, .jk, .jk, .jk, .jk, .jk]] [.ag [.s (.int .i64 r1v_Table), .ow 90 (eCond_c r1v_Where), .s (.int .i64 r1v_Order), .s (.bool r1v_Down), .s (.int .i64 r1v_First), .ow 3 (eInt_c r1v_Show), .s (.bool r1v_Kids), .s (.int .i64 r1v_KidTable), .s (.int .i64 r1v_KidCol)]]), (5, .call [false] [.v (.jk)] [.v (.ow 29 (eRow_o r2))])] (by cbv) (by cbv) (by cbv) (by cbv) (by cbv) ?_ ?_
  · exact (hq trivial (hq (hC (spec_l9Copy_ac h_r1)) (hq trivial (hq (hC (spec_l6Rows_ac h_r2)) (hq trivial (hq (fl_row Kid_c_f _) (hq (app_mb (P := Try.prog) (f := Kid_c) RLe.r RLe.r h_l3) (hq trivial hq0))))))))
  refine Run.row (rows := (ap ([]) ((eKid_c a0v_Kids)))) 4105 (eKid_c l3) (by cbv) (app_le (f := Kid_c) RLe.r RLe.r h_l3) ?_
  refine Run.ret ?_
  cases h
  refine ⟨_, _, by cbv, ?_, ?_⟩
  · exact LLe.r
  · exact (ALe.ag rfl LLe.r ALe.nil)

set_option maxRecDepth 8000 in
theorem spec_ViewChange_ac {a0v_Qv_Table : Int} {a0v_Qv_Where : List Cond} {a0v_Qv_Order : Int} {a0v_Qv_Down : Bool} {a0v_Qv_First : Int} {a0v_Qv_Show : List Int} {a0v_Qv_Kids : Bool} {a0v_Qv_KidTable : Int} {a0v_Qv_KidCol : Int} {a0v_Rows : List Row} {a0v_Kids : List Kid} {a1v_Table : Int} {a1v_Had : Bool} {a1v_Has : Bool} {a1v_Oldv_Id : Int} {a1v_Oldv_Cells : List Int} {a1v_Newv_Id : Int} {a1v_Newv_Cells : List Int} {r : View} (h : spec_ViewChange.f (View.mk (Query.mk a0v_Qv_Table a0v_Qv_Where a0v_Qv_Order a0v_Qv_Down a0v_Qv_First a0v_Qv_Show a0v_Qv_Kids a0v_Qv_KidTable a0v_Qv_KidCol) a0v_Rows a0v_Kids) (Change.mk a1v_Table a1v_Had a1v_Has (Row.mk a1v_Oldv_Id a1v_Oldv_Cells) (Row.mk a1v_Newv_Id a1v_Newv_Cells)) = some r) : AC Try.prog 41 [.ag [.s (.int .i64 a0v_Qv_Table), .im false (rowsOf Cond_c a0v_Qv_Where), .s (.int .i64 a0v_Qv_Order), .s (.bool a0v_Qv_Down), .s (.int .i64 a0v_Qv_First), .im false (rowsOf Int_c a0v_Qv_Show), .s (.bool a0v_Qv_Kids), .s (.int .i64 a0v_Qv_KidTable), .s (.int .i64 a0v_Qv_KidCol), .im false (rowsOf Row_i a0v_Rows), .im false (rowsOf Kid_c a0v_Kids)], .ag [.s (.int .i64 a1v_Table), .s (.bool a1v_Had), .s (.bool a1v_Has), .s (.int .i64 a1v_Oldv_Id), .im false (rowsOf Int_c a1v_Oldv_Cells), .s (.int .i64 a1v_Newv_Id), .im false (rowsOf Int_c a1v_Newv_Cells)]] [.ag [.jk, .jk, .jk, .jk, .jk, .jk, .jk, .jk, .jk, .jk, .jk], .ag [.jk, .jk, .jk, .jk, .jk, .jk, .jk]] [.ag [.s (.int .i64 r.Q.Table), .ow 90 (rowsOf Cond_c r.Q.Where), .s (.int .i64 r.Q.Order), .s (.bool r.Q.Down), .s (.int .i64 r.Q.First), .ow 3 (rowsOf Int_c r.Q.Show), .s (.bool r.Q.Kids), .s (.int .i64 r.Q.KidTable), .s (.int .i64 r.Q.KidCol), .ow 29 (rowsOf Row_o r.Rows), .ow 77 (rowsOf Kid_c r.Kids)]] := by
  unfold spec_ViewChange.f at h
  let ar := Ls.ar; let cm := Ls.cm; let bo := Ls.bo; let sc := Ls.sc; let sa := Ls.sa; let sx := Ls.sx; let ss := Ls.ss; let sl := Ls.sl; let bs := Ls.bs; let sb := Ls.sb; let ln := Ls.ln; let sr := Ls.sr; let ap := Ls.ap; let up := Ls.up; let rp := Ls.rp; let fr := Ls.fr; let ge := Ls.ge; let le := Ls.le; let lt := Ls.lt; let nz := Ls.nz; let mm := Ls.mm; let ma := Ls.ma; let sm := Ls.sm; let fl := Ls.fl; let al := Ls.al; let ci := Ls.ci
  let eCond_c := rowsOf Cond_c
  let eInt_c := rowsOf Int_c
  let eKid_c := rowsOf Kid_c
  let eRow_i := rowsOf Row_i
  let eRow_o := rowsOf Row_o
  have hL : (⟨ar, cm, bo, sc, sa, sx, ss, sl, bs, sb, ln, sr, ap, up, rp, fr, ge, le, lt, nz, mm, ma, sm, fl, al, ci⟩ : Lf) = Ls := rfl
  show AC Try.prog 41 [.ag [.s (.int .i64 a0v_Qv_Table), .im false (eCond_c a0v_Qv_Where), .s (.int .i64 a0v_Qv_Order), .s (.bool a0v_Qv_Down), .s (.int .i64 a0v_Qv_First), .im false (eInt_c a0v_Qv_Show), .s (.bool a0v_Qv_Kids), .s (.int .i64 a0v_Qv_KidTable), .s (.int .i64 a0v_Qv_KidCol), .im false (eRow_i a0v_Rows), .im false (eKid_c a0v_Kids)], .ag [.s (.int .i64 a1v_Table), .s (.bool a1v_Had), .s (.bool a1v_Has), .s (.int .i64 a1v_Oldv_Id), .im false (eInt_c a1v_Oldv_Cells), .s (.int .i64 a1v_Newv_Id), .im false (eInt_c a1v_Newv_Cells)]] _ _
  refine AC.of_run2 tab_ok Try.func41 (by rfl) (by rfl) (by cbv) ⟨by decide, rfl⟩ fun F hP hA => ?_
  have hT : TabOk F.P tab := hP ▸ tab_ok
  have hM : F.P.follows .mixedOrders = true := hP ▸ mixed
  have hC : ∀ {f a o r}, AC Try.prog f a o r → AC F.P f a o r := fun h => hP ▸ h
  refine Run.seq ?_
  refine Run.region hL hT [] (by cbv) ?_ ?_
  · exact hq0
  refine Run.seq ?_
  obtain ⟨⟨⟨r1v_Qv_Table, r1v_Qv_Where, r1v_Qv_Order, r1v_Qv_Down, r1v_Qv_First, r1v_Qv_Show, r1v_Qv_Kids, r1v_Qv_KidTable, r1v_Qv_KidCol⟩, r1v_Rows, r1v_Kids⟩, h_r1, h⟩ := bnd h
  refine Run.region hL hT [(1, .call [false] [.ag [.jk, .jk, .jk, .jk, .jk, .jk, .jk, .jk, .jk, .jk, .jk]] [.ag [.s (.int .i64 r1v_Qv_Table), .ow 90 (eCond_c r1v_Qv_Where), .s (.int .i64 r1v_Qv_Order), .s (.bool r1v_Qv_Down), .s (.int .i64 r1v_Qv_First), .ow 3 (eInt_c r1v_Qv_Show), .s (.bool r1v_Qv_Kids), .s (.int .i64 r1v_Qv_KidTable), .s (.int .i64 r1v_Qv_KidCol), .ow 29 (eRow_o r1v_Rows), .ow 77 (eKid_c r1v_Kids)]])] (by cbv) ?_ ?_
  · exact (hq trivial (hq (hC (spec_l13Copy_ac h_r1)) (hq trivial hq0)))
  obtain ⟨K3, h_K3, h⟩ := joinE h
  refine Run.join1 K3 (r := r) (fun (y2 : List Row) => ⟨76, 100000, [(2, .pt 1 0 0), (3, .pt 2 0 0), (4, .pt 3 0 0), (5, .pt 4 0 0)], [(1, .box 49 [.t (.s (.int .i64 a0v_Qv_Table)), .t (.im false (eCond_c a0v_Qv_Where)), .t (.s (.int .i64 a0v_Qv_Order)), .t (.s (.bool a0v_Qv_Down)), .t (.s (.int .i64 a0v_Qv_First)), .t (.im false (eInt_c a0v_Qv_Show)), .t (.s (.bool a0v_Qv_Kids)), .t (.s (.int .i64 a0v_Qv_KidTable)), .t (.s (.int .i64 a0v_Qv_KidCol)), .t (.im false (eRow_i a0v_Rows)), .t (.im false (eKid_c a0v_Kids))]), (2, .box 31 [.t (.s (.int .i64 a1v_Table)), .t (.s (.bool a1v_Had)), .t (.s (.bool a1v_Has)), .t (.s (.int .i64 a1v_Oldv_Id)), .t (.im false (eInt_c a1v_Oldv_Cells)), .t (.s (.int .i64 a1v_Newv_Id)), .t (.im false (eInt_c a1v_Newv_Cells))]), (3, .box 49 [.t (.s (.int .i64 0)), .t (.s (.slice none 0 0)), .t (.s (.int .i64 0)), .t (.s (.bool false)), .t (.s (.int .i64 0)), .t (.s (.slice none 0 0)), .t (.s (.bool false)), .t (.s (.int .i64 0)), .t (.s (.int .i64 0)), .t (.s (.slice none 0 0)), .t (.s (.slice none 0 0))]), (4, .box 49 [.t (.s (.int .i64 r1v_Qv_Table)), .rf 5, .t (.s (.int .i64 r1v_Qv_Order)), .t (.s (.bool r1v_Qv_Down)), .t (.s (.int .i64 r1v_Qv_First)), .rf 6, .t (.s (.bool r1v_Qv_Kids)), .t (.s (.int .i64 r1v_Qv_KidTable)), .t (.s (.int .i64 r1v_Qv_KidCol)), .rf 7, .rf 8]), (5, .row 0 90 3 (eCond_c r1v_Qv_Where)), (6, .row 0 3 1 (eInt_c r1v_Qv_Show)), (7, .row 0 29 2 (eRow_o y2)), (8, .row 0 77 2 (eKid_c r1v_Kids))]⟩) ?_ ?_
  · skip
    refine Run.seq ?_
    refine Run.region hL hT [] (by cbv) ?_ ?_
    · exact (hq trivial (hq trivial (hq trivial hq0)))
    refine Run.cond (by cbv) (hq0) (fun c4 => ?_) (fun c4 => ?_)
    · have h := if_t c4 h
      obtain ⟨K6, h_K6, h⟩ := joinE h
      refine Run.join1 K6 (r := r) (fun (y5 : List Row) => ⟨76, 100000, [(2, .pt 1 0 0), (3, .pt 2 0 0), (4, .pt 3 0 0), (5, .pt 4 0 0)], [(1, .box 49 [.t (.s (.int .i64 a0v_Qv_Table)), .t (.im false (eCond_c a0v_Qv_Where)), .t (.s (.int .i64 a0v_Qv_Order)), .t (.s (.bool a0v_Qv_Down)), .t (.s (.int .i64 a0v_Qv_First)), .t (.im false (eInt_c a0v_Qv_Show)), .t (.s (.bool a0v_Qv_Kids)), .t (.s (.int .i64 a0v_Qv_KidTable)), .t (.s (.int .i64 a0v_Qv_KidCol)), .t (.im false (eRow_i a0v_Rows)), .t (.im false (eKid_c a0v_Kids))]), (2, .box 31 [.t (.s (.int .i64 a1v_Table)), .t (.s (.bool a1v_Had)), .t (.s (.bool a1v_Has)), .t (.s (.int .i64 a1v_Oldv_Id)), .t (.im false (eInt_c a1v_Oldv_Cells)), .t (.s (.int .i64 a1v_Newv_Id)), .t (.im false (eInt_c a1v_Newv_Cells))]), (3, .box 49 [.t (.s (.int .i64 0)), .t (.s (.slice none 0 0)), .t (.s (.int .i64 0)), .t (.s (.bool false)), .t (.s (.int .i64 0)), .t (.s (.slice none 0 0)), .t (.s (.bool false)), .t (.s (.int .i64 0)), .t (.s (.int .i64 0)), .t (.s (.slice none 0 0)), .t (.s (.slice none 0 0))]), (4, .box 49 [.t (.s (.int .i64 r1v_Qv_Table)), .rf 5, .t (.s (.int .i64 r1v_Qv_Order)), .t (.s (.bool r1v_Qv_Down)), .t (.s (.int .i64 r1v_Qv_First)), .rf 6, .t (.s (.bool r1v_Qv_Kids)), .t (.s (.int .i64 r1v_Qv_KidTable)), .t (.s (.int .i64 r1v_Qv_KidCol)), .rf 7, .rf 8]), (5, .row 0 90 3 (eCond_c r1v_Qv_Where)), (6, .row 0 3 1 (eInt_c r1v_Qv_Show)), (7, .row 0 29 2 (eRow_o y5)), (8, .row 0 77 2 (eKid_c r1v_Kids))]⟩) ?_ ?_
      · skip
        refine Run.seq ?_
        refine Run.region hL hT [] (by cbv) ?_ ?_
        · exact (hq trivial hq0)
        refine Run.cond (by cbv) (hq0) (fun c7 => ?_) (fun c7 => ?_)
        · have h := if_t c7 h
          obtain ⟨r8, h_r8, h⟩ := bnd h
          refine Run.region hL hT [(5, .call [false, false] [.v (.jk), .v (.jk)] [.v (.ow 29 (eRow_o r8))])] (by cbv) ?_ ?_
          · exact (hq trivial (hq trivial (hq (hC (AC.args (spec_RowDrop_ac h_r8) (ALe.v (LLe.im (RLe.eq (fr_row Row_o_z _))) (ALe.v LLe.r ALe.nil)))) (hq trivial hq0))))
          refine ⟨r8, h, Weak.of _ [(1, 0), (2, 1), (3, 2), (4, 4098), (5, 4097), (6, 4353), (7, 16389), (8, 4865)] hA (by cbv) ?_⟩
          repeat (first | exact hq0 | refine hq (by first | exact True.intro | rfl) ?_)
        · have h := if_f c7 h
          refine Run.skip ?_
          refine ⟨r1v_Rows, h, Weak.of _ [(1, 0), (2, 1), (3, 2), (4, 4098), (5, 4097), (6, 4353), (7, 4609), (8, 4865)] hA (by cbv) ?_⟩
          repeat (first | exact hq0 | refine hq (by first | exact True.intro | rfl) ?_)
      · intro y5 h
        rw [h_K6] at h
        refine Run.seq ?_
        obtain ⟨r9, h_r9, h⟩ := bnd h
        refine Run.region hL hT [(7, .call [false, false] [.ag [.jk, .jk, .jk, .jk, .jk, .jk, .jk, .jk, .jk], .ag [.jk, .jk]] [.v (.s (.bool r9))])] (by cbv) ?_ ?_
        · exact (hq trivial (hq (fun _ => hq0) (hq (fun g11 => (hq g11 (hq trivial hq0))) (hq (fun _ => hq0) (hq (fun g13 => (hq g13 (hq trivial hq0))) (hq (fun g14 => (hq g14 (hq g14 (hq (hC (spec_Matches_ac (gd_t h_r9 g14))) hq0)))) (hq (fun q15 => (hq q15 hq0)) (hq (fun _ => hq0) hq0))))))))
        refine Run.cond (by cbv) (hq0) (fun c17 => ?_) (fun c17 => ?_)
        · have h := if_t c17 h
          obtain ⟨r18, h_r18, h⟩ := bnd h
          refine Run.region hL hT [(6, .call [false, true, false] [.ag [.jk, .jk, .jk, .jk, .jk, .jk, .jk, .jk, .jk], .v (.jk), .ag [.jk, .jk]] [.v (.ow 29 (eRow_o r18))])] (by cbv) ?_ ?_
          · exact (hq trivial (hq trivial (hq trivial (hq (hC (spec_l11Put_ac h_r18)) (hq trivial hq0)))))
          refine ⟨r18, h, Weak.of _ [(1, 1), (2, 2), (3, 3), (4, 4), (5, 5), (6, 6), (7, 104102), (8, 8)] hA (by cbv) ?_⟩
          repeat (first | exact hq0 | refine hq (by first | exact True.intro | rfl) ?_)
        · have h := if_f c17 h
          refine Run.skip ?_
          refine ⟨y5, h, Weak.of _ [(1, 1), (2, 2), (3, 3), (4, 4), (5, 5), (6, 6), (7, 7), (8, 8)] hA (by cbv) ?_⟩
          repeat (first | exact hq0 | refine hq (by first | exact True.intro | rfl) ?_)
    · have h := if_f c4 h
      refine Run.skip ?_
      refine ⟨r1v_Rows, h, Weak.of _ [(1, 0), (2, 1), (3, 2), (4, 4098), (5, 4097), (6, 4353), (7, 4609), (8, 4865)] hA (by cbv) ?_⟩
      repeat (first | exact hq0 | refine hq (by first | exact True.intro | rfl) ?_)
  · intro y2 h
    rw [h_K3] at h
    refine Run.seq ?_
    refine Run.seq ?_
    refine Run.region hL hT [] (by cbv) ?_ ?_
    · exact (hq trivial (hq (fun _ => hq0) (hq (fun g20 => (hq g20 (hq trivial hq0))) (hq (fun _ => hq0) (hq (fun g22 => (hq g22 hq0)) (hq (fun g23 => (hq g23 (hq trivial hq0))) (hq (fun g24 => (hq g24 (hq g24 (hq trivial hq0)))) (hq (fun q25 => (hq q25 hq0)) (hq (fun _ => hq0) hq0)))))))))
    refine Run.cond (by cbv) (hq0) (fun c27 => ?_) (fun c27 => ?_)
    · have h := if_t c27 h
      obtain ⟨K29, h_K29, h⟩ := joinE h
      refine Run.join1 K29 (r := r) (fun (y28 : List Kid) => ⟨76, 100000, [(2, .pt 1 0 0), (3, .pt 2 0 0), (4, .pt 3 0 0), (5, .pt 4 0 0)], [(1, .box 49 [.t (.s (.int .i64 a0v_Qv_Table)), .t (.im false (eCond_c a0v_Qv_Where)), .t (.s (.int .i64 a0v_Qv_Order)), .t (.s (.bool a0v_Qv_Down)), .t (.s (.int .i64 a0v_Qv_First)), .t (.im false (eInt_c a0v_Qv_Show)), .t (.s (.bool a0v_Qv_Kids)), .t (.s (.int .i64 a0v_Qv_KidTable)), .t (.s (.int .i64 a0v_Qv_KidCol)), .t (.im false (eRow_i a0v_Rows)), .t (.im false (eKid_c a0v_Kids))]), (2, .box 31 [.t (.s (.int .i64 a1v_Table)), .t (.s (.bool a1v_Had)), .t (.s (.bool a1v_Has)), .t (.s (.int .i64 a1v_Oldv_Id)), .t (.im false (eInt_c a1v_Oldv_Cells)), .t (.s (.int .i64 a1v_Newv_Id)), .t (.im false (eInt_c a1v_Newv_Cells))]), (3, .box 49 [.t (.s (.int .i64 0)), .t (.s (.slice none 0 0)), .t (.s (.int .i64 0)), .t (.s (.bool false)), .t (.s (.int .i64 0)), .t (.s (.slice none 0 0)), .t (.s (.bool false)), .t (.s (.int .i64 0)), .t (.s (.int .i64 0)), .t (.s (.slice none 0 0)), .t (.s (.slice none 0 0))]), (4, .box 49 [.t (.s (.int .i64 r1v_Qv_Table)), .rf 5, .t (.s (.int .i64 r1v_Qv_Order)), .t (.s (.bool r1v_Qv_Down)), .t (.s (.int .i64 r1v_Qv_First)), .rf 6, .t (.s (.bool r1v_Qv_Kids)), .t (.s (.int .i64 r1v_Qv_KidTable)), .t (.s (.int .i64 r1v_Qv_KidCol)), .rf 7, .rf 8]), (5, .row 0 90 3 (eCond_c r1v_Qv_Where)), (6, .row 0 3 1 (eInt_c r1v_Qv_Show)), (7, .row 0 29 2 (eRow_o y2)), (8, .row 0 77 2 (eKid_c y28))]⟩) ?_ ?_
      · skip
        refine Run.seq ?_
        refine Run.region hL hT [] (by cbv) ?_ ?_
        · exact (hq trivial hq0)
        refine Run.cond (by cbv) (hq0) (fun c30 => ?_) (fun c30 => ?_)
        · have h := if_t c30 h
          obtain ⟨r31, h_r31, h⟩ := bnd h
          obtain ⟨r32, h_r32, h⟩ := bnd h
          refine Run.draw hL hT hM [(7, .call [false, false] [.ag [.jk, .jk], .v (.jk)] [.v (.s (.int .i64 r31))]), (8, .call [false, false, false] [.v (.jk), .v (.jk), .v (.jk)] [.v (.ow 77 (eKid_c r32))])] (by cbv) (by cbv) (by cbv) (by cbv) (by cbv) ?_ ?_
          · exact (hq trivial (hq trivial (hq trivial (hq (hC (spec_l9Cell_ac h_r31)) (hq (hC (AC.args (spec_KidPut_ac h_r32) (ALe.v (LLe.im (RLe.eq (fr_row Kid_c_z _))) (ALe.v LLe.r (ALe.v LLe.r ALe.nil))))) (hq trivial hq0))))))
          refine ⟨r32, h, Weak.of _ [(1, 1), (2, 2), (3, 3), (4, 4), (5, 5), (6, 6), (7, 7), (8, 108200)] hA (by cbv) ?_⟩
          repeat (first | exact hq0 | refine hq (by first | exact True.intro | rfl) ?_)
        · have h := if_f c30 h
          refine Run.skip ?_
          refine ⟨r1v_Kids, h, Weak.of _ [(1, 1), (2, 2), (3, 3), (4, 4), (5, 5), (6, 6), (7, 7), (8, 8)] hA (by cbv) ?_⟩
          repeat (first | exact hq0 | refine hq (by first | exact True.intro | rfl) ?_)
      · intro y28 h
        rw [h_K29] at h
        refine Run.seq ?_
        refine Run.region hL hT [] (by cbv) ?_ ?_
        · exact (hq trivial hq0)
        refine Run.cond (by cbv) (hq0) (fun c33 => ?_) (fun c33 => ?_)
        · have h := if_t c33 h
          obtain ⟨r34, h_r34, h⟩ := bnd h
          obtain ⟨r35, h_r35, h⟩ := bnd h
          refine Run.draw hL hT hM [(7, .call [false, false] [.ag [.jk, .jk], .v (.jk)] [.v (.s (.int .i64 r34))]), (8, .call [false, false, false] [.v (.jk), .v (.jk), .v (.jk)] [.v (.ow 77 (eKid_c r35))])] (by cbv) (by cbv) (by cbv) (by cbv) (by cbv) ?_ ?_
          · exact (hq trivial (hq trivial (hq trivial (hq (hC (spec_l9Cell_ac h_r34)) (hq (hC (AC.args (spec_KidPut_ac h_r35) (ALe.v (LLe.im (RLe.eq (fr_row Kid_c_z _))) (ALe.v LLe.r (ALe.v LLe.r ALe.nil))))) (hq trivial hq0))))))
          refine Run.seq ?_
          refine Run.region hL hT [] (by cbv) ?_ ?_
          · exact (hq trivial (hq trivial hq0))
          refine Run.ret ?_
          cases h
          refine ⟨_, _, by cbv, ?_, ?_⟩
          · exact LLe.r
          · exact (ALe.ag rfl LLe.r ALe.nil)
        · have h := if_f c33 h
          refine Run.skip ?_
          refine Run.seq ?_
          refine Run.region hL hT [] (by cbv) ?_ ?_
          · exact (hq trivial (hq trivial hq0))
          refine Run.ret ?_
          cases h
          refine ⟨_, _, by cbv, ?_, ?_⟩
          · exact LLe.r
          · exact (ALe.ag rfl LLe.r ALe.nil)
    · have h := if_f c27 h
      refine Run.skip ?_
      refine Run.seq ?_
      refine Run.region hL hT [] (by cbv) ?_ ?_
      · exact (hq trivial (hq trivial hq0))
      refine Run.ret ?_
      cases h
      refine ⟨_, _, by cbv, ?_, ?_⟩
      · exact LLe.r
      · exact (ALe.ag rfl LLe.r ALe.nil)

set_option maxRecDepth 8000 in
theorem spec_ViewChanges_ac {a0v_Qv_Table : Int} {a0v_Qv_Where : List Cond} {a0v_Qv_Order : Int} {a0v_Qv_Down : Bool} {a0v_Qv_First : Int} {a0v_Qv_Show : List Int} {a0v_Qv_Kids : Bool} {a0v_Qv_KidTable : Int} {a0v_Qv_KidCol : Int} {a0v_Rows : List Row} {a0v_Kids : List Kid} {a1 : List Change} {r : View} (h : spec_ViewChanges.f (View.mk (Query.mk a0v_Qv_Table a0v_Qv_Where a0v_Qv_Order a0v_Qv_Down a0v_Qv_First a0v_Qv_Show a0v_Qv_Kids a0v_Qv_KidTable a0v_Qv_KidCol) a0v_Rows a0v_Kids) a1 = some r) : AC Try.prog 19 [.ag [.s (.int .i64 a0v_Qv_Table), .im false (rowsOf Cond_c a0v_Qv_Where), .s (.int .i64 a0v_Qv_Order), .s (.bool a0v_Qv_Down), .s (.int .i64 a0v_Qv_First), .im false (rowsOf Int_c a0v_Qv_Show), .s (.bool a0v_Qv_Kids), .s (.int .i64 a0v_Qv_KidTable), .s (.int .i64 a0v_Qv_KidCol), .im false (rowsOf Row_i a0v_Rows), .im false (rowsOf Kid_c a0v_Kids)], .v (.im false (rowsOf Change_i a1))] [.ag [.jk, .jk, .jk, .jk, .jk, .jk, .jk, .jk, .jk, .jk, .jk], .v (.jk)] [.ag [.s (.int .i64 r.Q.Table), .ow 90 (rowsOf Cond_c r.Q.Where), .s (.int .i64 r.Q.Order), .s (.bool r.Q.Down), .s (.int .i64 r.Q.First), .ow 3 (rowsOf Int_c r.Q.Show), .s (.bool r.Q.Kids), .s (.int .i64 r.Q.KidTable), .s (.int .i64 r.Q.KidCol), .ow 29 (rowsOf Row_o r.Rows), .ow 77 (rowsOf Kid_c r.Kids)]] := by
  unfold spec_ViewChanges.f at h
  let ar := Ls.ar; let cm := Ls.cm; let bo := Ls.bo; let sc := Ls.sc; let sa := Ls.sa; let sx := Ls.sx; let ss := Ls.ss; let sl := Ls.sl; let bs := Ls.bs; let sb := Ls.sb; let ln := Ls.ln; let sr := Ls.sr; let ap := Ls.ap; let up := Ls.up; let rp := Ls.rp; let fr := Ls.fr; let ge := Ls.ge; let le := Ls.le; let lt := Ls.lt; let nz := Ls.nz; let mm := Ls.mm; let ma := Ls.ma; let sm := Ls.sm; let fl := Ls.fl; let al := Ls.al; let ci := Ls.ci
  let eChange_i := rowsOf Change_i
  let eCond_c := rowsOf Cond_c
  let eInt_c := rowsOf Int_c
  let eKid_c := rowsOf Kid_c
  let eRow_i := rowsOf Row_i
  let eRow_o := rowsOf Row_o
  let lenI_Change := @lenI Change
  have hL : (⟨ar, cm, bo, sc, sa, sx, ss, sl, bs, sb, ln, sr, ap, up, rp, fr, ge, le, lt, nz, mm, ma, sm, fl, al, ci⟩ : Lf) = Ls := rfl
  show AC Try.prog 19 [.ag [.s (.int .i64 a0v_Qv_Table), .im false (eCond_c a0v_Qv_Where), .s (.int .i64 a0v_Qv_Order), .s (.bool a0v_Qv_Down), .s (.int .i64 a0v_Qv_First), .im false (eInt_c a0v_Qv_Show), .s (.bool a0v_Qv_Kids), .s (.int .i64 a0v_Qv_KidTable), .s (.int .i64 a0v_Qv_KidCol), .im false (eRow_i a0v_Rows), .im false (eKid_c a0v_Kids)], .v (.im false (eChange_i a1))] _ _
  refine AC.of_run2 tab_ok Try.func19 (by rfl) (by rfl) (by cbv) ⟨by decide, rfl⟩ fun F hP hA => ?_
  have hT : TabOk F.P tab := hP ▸ tab_ok
  have hM : F.P.follows .mixedOrders = true := hP ▸ mixed
  have hC : ∀ {f a o r}, AC Try.prog f a o r → AC F.P f a o r := fun h => hP ▸ h
  refine Run.seq ?_
  refine Run.region hL hT [] (by cbv) ?_ ?_
  · exact hq0
  refine Run.seq ?_
  obtain ⟨⟨⟨r1v_Qv_Table, r1v_Qv_Where, r1v_Qv_Order, r1v_Qv_Down, r1v_Qv_First, r1v_Qv_Show, r1v_Qv_Kids, r1v_Qv_KidTable, r1v_Qv_KidCol⟩, r1v_Rows, r1v_Kids⟩, h_r1, h⟩ := bnd h
  refine Run.region hL hT [(1, .call [false] [.ag [.jk, .jk, .jk, .jk, .jk, .jk, .jk, .jk, .jk, .jk, .jk]] [.ag [.s (.int .i64 r1v_Qv_Table), .ow 90 (eCond_c r1v_Qv_Where), .s (.int .i64 r1v_Qv_Order), .s (.bool r1v_Qv_Down), .s (.int .i64 r1v_Qv_First), .ow 3 (eInt_c r1v_Qv_Show), .s (.bool r1v_Qv_Kids), .s (.int .i64 r1v_Qv_KidTable), .s (.int .i64 r1v_Qv_KidCol), .ow 29 (eRow_o r1v_Rows), .ow 77 (eKid_c r1v_Kids)]])] (by cbv) ?_ ?_
  · exact (hq trivial (hq (hC (spec_l13Copy_ac h_r1)) (hq trivial hq0)))
  refine Run.seq ?_
  refine Run.seq ?_
  refine Run.region hL hT [] (by cbv) ?_ ?_
  · exact hq0
  refine Run.block ?_
  refine Run.loop12 (fun (z22 : Int) (z23 : List Cond) (z24 : Int) (z25 : Bool) (z26 : Int) (z27 : List Int) (z28 : Bool) (z29 : Int) (z30 : Int) (z31 : List Row) (z32 : List Kid) (z33 : Int) => ⟨22, 100000, [(1, .t (.im false (eChange_i a1))), (4, .pt 1 0 0), (5, .pt 2 0 0), (6, .t (.s (.int .i64 z33)))], [(1, .box 49 [.t (.s (.int .i64 0)), .t (.s (.slice none 0 0)), .t (.s (.int .i64 0)), .t (.s (.bool false)), .t (.s (.int .i64 0)), .t (.s (.slice none 0 0)), .t (.s (.bool false)), .t (.s (.int .i64 0)), .t (.s (.int .i64 0)), .t (.s (.slice none 0 0)), .t (.s (.slice none 0 0))]), (2, .box 49 [.t (.s (.int .i64 z22)), .rf 3, .t (.s (.int .i64 z24)), .t (.s (.bool z25)), .t (.s (.int .i64 z26)), .rf 4, .t (.s (.bool z28)), .t (.s (.int .i64 z29)), .t (.s (.int .i64 z30)), .rf 5, .rf 6]), (3, .row 0 90 3 (eCond_c z23)), (4, .row 0 3 1 (eInt_c z27)), (5, .row 0 29 2 (eRow_o z31)), (6, .row 0 77 2 (eKid_c z32))]⟩) (x0 := r1v_Qv_Table) (x1 := r1v_Qv_Where) (x2 := r1v_Qv_Order) (x3 := r1v_Qv_Down) (x4 := r1v_Qv_First) (x5 := r1v_Qv_Show) (x6 := r1v_Qv_Kids) (x7 := r1v_Qv_KidTable) (x8 := r1v_Qv_KidCol) (x9 := r1v_Rows) (x10 := r1v_Kids) (x11 := 0) h (Weak.of _ [(1, 1), (2, 4098), (3, 4097), (4, 4353), (5, 4609), (6, 4865)] hA (by cbv) ?_) (fun _ _ _ _ _ _ _ _ _ _ _ _ => rfl) ?_
  · repeat (first | exact hq0 | refine hq (by first | exact True.intro | rfl) ?_)
  · intro k z22 z23 z24 z25 z26 z27 z28 z29 z30 z31 z32 z33 h
    rw [spec_ViewChanges.l0] at h
    refine Run.seq ?_
    refine Run.seq ?_
    refine Run.region hL hT [] (by cbv) ?_ ?_
    · exact (hq trivial hq0)
    rw [show ln (eChange_i a1) = lenI_Change a1 from ln_eq Change_i _]
    refine Run.cond (by cbv) (hq0) (fun c34 => ?_) (fun c34 => ?_)
    · have h := if_t c34 h
      refine Run.skip ?_
      refine Run.seq ?_
      refine Run.block ?_
      obtain ⟨⟨x35v_Table, x35v_Had, x35v_Has, ⟨x35v_Oldv_Id, x35v_Oldv_Cells⟩, ⟨x35v_Newv_Id, x35v_Newv_Cells⟩⟩, h_x35, h⟩ := bnd h
      obtain ⟨⟨⟨r36v_Qv_Table, r36v_Qv_Where, r36v_Qv_Order, r36v_Qv_Down, r36v_Qv_First, r36v_Qv_Show, r36v_Qv_Kids, r36v_Qv_KidTable, r36v_Qv_KidCol⟩, r36v_Rows, r36v_Kids⟩, h_r36, h⟩ := bnd h
      refine Run.draw hL hT hM [(3, .el [.s (.int .i64 x35v_Table), .s (.bool x35v_Had), .s (.bool x35v_Has), .s (.int .i64 x35v_Oldv_Id), .im false (eInt_c x35v_Oldv_Cells), .s (.int .i64 x35v_Newv_Id), .im false (eInt_c x35v_Newv_Cells)]), (5, .call [false, false] [.ag [.jk, .jk, .jk, .jk, .jk, .jk, .jk, .jk, .jk, .jk, .jk], .ag [.jk, .jk, .jk, .jk, .jk, .jk, .jk]] [.ag [.s (.int .i64 r36v_Qv_Table), .ow 90 (eCond_c r36v_Qv_Where), .s (.int .i64 r36v_Qv_Order), .s (.bool r36v_Qv_Down), .s (.int .i64 r36v_Qv_First), .ow 3 (eInt_c r36v_Qv_Show), .s (.bool r36v_Qv_Kids), .s (.int .i64 r36v_Qv_KidTable), .s (.int .i64 r36v_Qv_KidCol), .ow 29 (eRow_o r36v_Rows), .ow 77 (eKid_c r36v_Kids)]])] (by cbv) (by cbv) (by cbv) (by cbv) (by cbv) ?_ ?_
      · exact (hq trivial (hq (get_le h_x35) (hq (get_lt (f := Change_i) h_x35) (hq (get_ge (f := Change_i) h_x35) (hq (hC (AC.args (spec_ViewChange_ac h_r36) (ALe.ag rfl (LLe.c (LLe.cons (LLe.im (RLe.eq (fr_row Cond_c_z _))) (LLe.c (LLe.c (LLe.c (LLe.cons (LLe.im (RLe.eq (fr_row Int_c_z _))) (LLe.c (LLe.c (LLe.c (LLe.cons (LLe.im (RLe.eq (fr_row Row_o_z _))) (LLe.cons (LLe.im (RLe.eq (fr_row Kid_c_z _))) LLe.nil))))))))))) (ALe.ag rfl LLe.r ALe.nil)))) (hq trivial hq0))))))
      refine Run.region hL hT [] (by cbv) ?_ ?_
      · exact (hq trivial hq0)
      refine ⟨r36v_Qv_Table, r36v_Qv_Where, r36v_Qv_Order, r36v_Qv_Down, r36v_Qv_First, r36v_Qv_Show, r36v_Qv_Kids, r36v_Qv_KidTable, r36v_Qv_KidCol, r36v_Rows, r36v_Kids, (ar .add .i64 z33 1), h, Weak.of _ [(1, 1), (2, 2), (3, 104101), (4, 104357), (5, 104613), (6, 104869)] hA (by cbv) ?_⟩
      repeat (first | exact hq0 | refine hq (by first | exact True.intro | rfl) ?_)
    · have h := if_f c34 h
      refine Run.exit ?_
      refine Run.seq ?_
      refine Run.region hL hT [] (by cbv) ?_ ?_
      · exact (hq trivial (hq trivial hq0))
      refine Run.ret ?_
      cases h
      refine ⟨_, _, by cbv, ?_, ?_⟩
      · exact LLe.r
      · exact (ALe.ag rfl LLe.r ALe.nil)

set_option maxRecDepth 8000 in
theorem laws_at_ac {a0 : List Int} {a1 : Int} {r : Int} (h : laws_at.f a0 a1 = some r) : AC Try.prog 20 [.v (.im false (rowsOf u8_c a0)), .v (.s (.int .i64 a1))] [.v (.jk), .v (.jk)] [.v (.s (.int .i64 r))] := by
  unfold laws_at.f at h
  let ar := Ls.ar; let cm := Ls.cm; let bo := Ls.bo; let sc := Ls.sc; let sa := Ls.sa; let sx := Ls.sx; let ss := Ls.ss; let sl := Ls.sl; let bs := Ls.bs; let sb := Ls.sb; let ln := Ls.ln; let sr := Ls.sr; let ap := Ls.ap; let up := Ls.up; let rp := Ls.rp; let fr := Ls.fr; let ge := Ls.ge; let le := Ls.le; let lt := Ls.lt; let nz := Ls.nz; let mm := Ls.mm; let ma := Ls.ma; let sm := Ls.sm; let fl := Ls.fl; let al := Ls.al; let ci := Ls.ci
  let eu8_c := rowsOf u8_c
  let lenI_u8 := @lenI Int
  have hL : (⟨ar, cm, bo, sc, sa, sx, ss, sl, bs, sb, ln, sr, ap, up, rp, fr, ge, le, lt, nz, mm, ma, sm, fl, al, ci⟩ : Lf) = Ls := rfl
  show AC Try.prog 20 [.v (.im false (eu8_c a0)), .v (.s (.int .i64 a1))] _ _
  refine AC.of_run2 tab_ok Try.func20 (by rfl) (by rfl) (by cbv) ⟨by decide, rfl⟩ fun F hP hA => ?_
  have hT : TabOk F.P tab := hP ▸ tab_ok
  have hM : F.P.follows .mixedOrders = true := hP ▸ mixed
  have hC : ∀ {f a o r}, AC Try.prog f a o r → AC F.P f a o r := fun h => hP ▸ h
  refine Run.seq ?_
  refine Run.region hL hT [] (by cbv) ?_ ?_
  · exact hq0
  refine Run.seq ?_
  refine Run.seq ?_
  refine Run.region hL hT [] (by cbv) ?_ ?_
  · exact (hq trivial hq0)
  rw [show ln (eu8_c a0) = lenI_u8 a0 from ln_eq u8_c _]
  refine Run.cond (by cbv) (hq0) (fun c1 => ?_) (fun c1 => ?_)
  · have h := if_t c1 h
    refine Run.seq ?_
    obtain ⟨x2, h_x2, h⟩ := bnd h
    refine Run.region hL hT [(2, .el [.s (.int .u8 x2)])] (by cbv) ?_ ?_
    · exact (hq (get_le h_x2) (hq (get_lt (f := u8_c) h_x2) (hq (get_ge (f := u8_c) h_x2) hq0)))
    refine Run.ret ?_
    cases h
    refine ⟨_, _, by cbv, ?_, ?_⟩
    · exact LLe.r
    · exact (ALe.v LLe.r ALe.nil)
  · have h := if_f c1 h
    refine Run.skip ?_
    refine Run.seq ?_
    refine Run.region hL hT [] (by cbv) ?_ ?_
    · exact (hq trivial (hq trivial (hq trivial (hq (show Ls.nz 256 from (by decide : (256 : Int) ≠ 0)) hq0))))
    rw [show ln (eu8_c a0) = lenI_u8 a0 from ln_eq u8_c _]
    refine Run.ret ?_
    cases h
    refine ⟨_, _, by cbv, ?_, ?_⟩
    · exact LLe.r
    · exact (ALe.v LLe.r ALe.nil)

set_option maxRecDepth 8000 in
theorem spec_DrawViewChange_ac {a0 : List Int} {r : View × Change} (h : spec_DrawViewChange.f a0 = some r) : AC Try.prog 21 [.v (.im true (rowsOf u8_c a0))] [.v (.jk)] [.ag [.s (.int .i64 r.1.Q.Table), .im true (rowsOf Cond_c r.1.Q.Where), .s (.int .i64 r.1.Q.Order), .s (.bool r.1.Q.Down), .s (.int .i64 r.1.Q.First), .im true (rowsOf Int_c r.1.Q.Show), .s (.bool r.1.Q.Kids), .s (.int .i64 r.1.Q.KidTable), .s (.int .i64 r.1.Q.KidCol), .im true (rowsOf Row_i r.1.Rows), .im true (rowsOf Kid_c r.1.Kids)], .ag [.s (.int .i64 r.2.Table), .s (.bool r.2.Had), .s (.bool r.2.Has), .s (.int .i64 r.2.Old.Id), .im true (rowsOf Int_c r.2.Old.Cells), .s (.int .i64 r.2.New.Id), .im true (rowsOf Int_c r.2.New.Cells)]] := by
  unfold spec_DrawViewChange.f at h
  let ar := Ls.ar; let cm := Ls.cm; let bo := Ls.bo; let sc := Ls.sc; let sa := Ls.sa; let sx := Ls.sx; let ss := Ls.ss; let sl := Ls.sl; let bs := Ls.bs; let sb := Ls.sb; let ln := Ls.ln; let sr := Ls.sr; let ap := Ls.ap; let up := Ls.up; let rp := Ls.rp; let fr := Ls.fr; let ge := Ls.ge; let le := Ls.le; let lt := Ls.lt; let nz := Ls.nz; let mm := Ls.mm; let ma := Ls.ma; let sm := Ls.sm; let fl := Ls.fl; let al := Ls.al; let ci := Ls.ci
  let eChange_o := rowsOf Change_o
  let eCond_c := rowsOf Cond_c
  let eInt_c := rowsOf Int_c
  let eKid_c := rowsOf Kid_c
  let eRow_i := rowsOf Row_i
  let eRow_o := rowsOf Row_o
  let eu8_c := rowsOf u8_c
  let lenI_Change := @lenI Change
  have hL : (⟨ar, cm, bo, sc, sa, sx, ss, sl, bs, sb, ln, sr, ap, up, rp, fr, ge, le, lt, nz, mm, ma, sm, fl, al, ci⟩ : Lf) = Ls := rfl
  show AC Try.prog 21 [.v (.im true (eu8_c a0))] _ _
  refine AC.of_run2 tab_ok Try.func21 (by rfl) (by rfl) (by cbv) ⟨by decide, rfl⟩ fun F hP hA => ?_
  have hT : TabOk F.P tab := hP ▸ tab_ok
  have hM : F.P.follows .mixedOrders = true := hP ▸ mixed
  have hC : ∀ {f a o r}, AC Try.prog f a o r → AC F.P f a o r := fun h => hP ▸ h
  refine Run.seq ?_
  refine Run.region hL hT [] (by cbv) ?_ ?_
  · exact hq0
  refine Run.seq ?_
  obtain ⟨⟨⟨⟨r1v_1v_Qv_Table, r1v_1v_Qv_Where, r1v_1v_Qv_Order, r1v_1v_Qv_Down, r1v_1v_Qv_First, r1v_1v_Qv_Show, r1v_1v_Qv_Kids, r1v_1v_Qv_KidTable, r1v_1v_Qv_KidCol⟩, r1v_1v_Rows, r1v_1v_Kids⟩, r1v_2⟩, h_r1, h⟩ := bnd h
  refine Run.region hL hT [(1, .call [true] [.v (.jk)] [.ag [.s (.int .i64 r1v_1v_Qv_Table), .ow 90 (eCond_c r1v_1v_Qv_Where), .s (.int .i64 r1v_1v_Qv_Order), .s (.bool r1v_1v_Qv_Down), .s (.int .i64 r1v_1v_Qv_First), .ow 3 (eInt_c r1v_1v_Qv_Show), .s (.bool r1v_1v_Qv_Kids), .s (.int .i64 r1v_1v_Qv_KidTable), .s (.int .i64 r1v_1v_Qv_KidCol), .ow 29 (eRow_o r1v_1v_Rows), .ow 77 (eKid_c r1v_1v_Kids)], .v (.ow 31 (eChange_o r1v_2))])] (by cbv) ?_ ?_
  · exact (hq (hC (spec_l14Draw_ac h_r1)) (hq trivial hq0))
  refine Run.seq ?_
  refine Run.seq ?_
  refine Run.region hL hT [] (by cbv) ?_ ?_
  · exact (hq trivial hq0)
  rw [show ln (eChange_o r1v_2) = lenI_Change r1v_2 from ln_eq Change_o _]
  refine Run.cond (by cbv) (hq0) (fun c2 => ?_) (fun c2 => ?_)
  · have h := if_t c2 h
    refine Run.seq ?_
    refine Run.region hL hT [] (by cbv) ?_ ?_
    · exact (hq trivial (hq trivial (hq trivial hq0)))
    refine Run.weak ?_ (Weak.keep (rows := eCond_c r1v_1v_Qv_Where) 4097 (by cbv) (eCond_c r1v_1v_Qv_Where) (fr_row Cond_c_z _))
    refine Run.weak ?_ (Weak.keep (rows := eInt_c r1v_1v_Qv_Show) 4353 (by cbv) (eInt_c r1v_1v_Qv_Show) (fr_row Int_c_z _))
    refine Run.weak ?_ (Weak.keep (rows := eRow_o r1v_1v_Rows) 4609 (by cbv) (eRow_i r1v_1v_Rows) (fr_row Row_o_z _))
    refine Run.weak ?_ (Weak.keep (rows := eKid_c r1v_1v_Kids) 4865 (by cbv) (eKid_c r1v_1v_Kids) (fr_row Kid_c_z _))
    refine Run.ret ?_
    cases h
    refine ⟨_, _, by cbv, ?_, ?_⟩
    · exact LLe.r
    · exact (ALe.ag rfl LLe.r (ALe.ag rfl (LLe.c (LLe.c (LLe.c (LLe.c (LLe.cons LLe.nilI (LLe.c (LLe.cons LLe.nilI LLe.nil))))))) ALe.nil))
  · have h := if_f c2 h
    refine Run.skip ?_
    refine Run.seq ?_
    obtain ⟨⟨x3v_Table, x3v_Had, x3v_Has, ⟨x3v_Oldv_Id, x3v_Oldv_Cells⟩, ⟨x3v_Newv_Id, x3v_Newv_Cells⟩⟩, h_x3, h⟩ := bnd h
    refine Run.draw hL hT hM [(3, .hd [5121] (.ag [.t (.s (.int .i64 x3v_Table)), .t (.s (.bool x3v_Had)), .t (.s (.bool x3v_Has)), .t (.s (.int .i64 x3v_Oldv_Id)), .rf 12291, .t (.s (.int .i64 x3v_Newv_Id)), .rf 12547]) [(12547, .row 0 3 1 (eInt_c x3v_Newv_Cells)), (12291, .row 0 3 1 (eInt_c x3v_Oldv_Cells)), (5121, .dead)])] (by cbv) (by cbv) (by cbv) (by cbv) (by cbv) ?_ ?_
    · exact (hq trivial (hq (get_le h_x3) (hq (get_lt (f := Change_o) h_x3) (hq (hand_load_take (nid := 12291) (i := 0) (es := [.s (.int .i64 x3v_Table), .s (.bool x3v_Had), .s (.bool x3v_Has), .s (.int .i64 x3v_Oldv_Id), .ow 3 (eInt_c x3v_Oldv_Cells), .s (.int .i64 x3v_Newv_Id), .ow 3 (eInt_c x3v_Newv_Cells)]) hT (by rfl) (by rfl) (by rfl) (get_le h_x3) (get_lt (f := Change_o) h_x3) (get_ge (f := Change_o) h_x3) (by rfl) (by rfl) (by rfl)) (hq trivial (hq trivial hq0))))))
    refine Run.weak ?_ (Weak.keep (rows := eCond_c r1v_1v_Qv_Where) 4097 (by cbv) (eCond_c r1v_1v_Qv_Where) (fr_row Cond_c_z _))
    refine Run.weak ?_ (Weak.keep (rows := eInt_c r1v_1v_Qv_Show) 4353 (by cbv) (eInt_c r1v_1v_Qv_Show) (fr_row Int_c_z _))
    refine Run.weak ?_ (Weak.keep (rows := eRow_o r1v_1v_Rows) 4609 (by cbv) (eRow_i r1v_1v_Rows) (fr_row Row_o_z _))
    refine Run.weak ?_ (Weak.keep (rows := eKid_c r1v_1v_Kids) 4865 (by cbv) (eKid_c r1v_1v_Kids) (fr_row Kid_c_z _))
    refine Run.weak ?_ (Weak.keep (rows := eInt_c x3v_Oldv_Cells) 12291 (by cbv) (eInt_c x3v_Oldv_Cells) (fr_row Int_c_z _))
    refine Run.weak ?_ (Weak.keep (rows := eInt_c x3v_Newv_Cells) 12547 (by cbv) (eInt_c x3v_Newv_Cells) (fr_row Int_c_z _))
    refine Run.ret ?_
    cases h
    refine ⟨_, _, by cbv, ?_, ?_⟩
    · exact LLe.r
    · exact (ALe.ag rfl LLe.r (ALe.ag rfl LLe.r ALe.nil))

set_option maxRecDepth 8000 in
theorem laws_big_ac {a0 : List Int} {r : Bool} (h : laws_big.f a0 = some r) : AC Try.prog 5 [.v (.im false (rowsOf u8_c a0))] [.v (.jk)] [.v (.s (.bool r))] := by
  unfold laws_big.f at h
  let ar := Ls.ar; let cm := Ls.cm; let bo := Ls.bo; let sc := Ls.sc; let sa := Ls.sa; let sx := Ls.sx; let ss := Ls.ss; let sl := Ls.sl; let bs := Ls.bs; let sb := Ls.sb; let ln := Ls.ln; let sr := Ls.sr; let ap := Ls.ap; let up := Ls.up; let rp := Ls.rp; let fr := Ls.fr; let ge := Ls.ge; let le := Ls.le; let lt := Ls.lt; let nz := Ls.nz; let mm := Ls.mm; let ma := Ls.ma; let sm := Ls.sm; let fl := Ls.fl; let al := Ls.al; let ci := Ls.ci
  let eu8_c := rowsOf u8_c
  let lenI_u8 := @lenI Int
  have hL : (⟨ar, cm, bo, sc, sa, sx, ss, sl, bs, sb, ln, sr, ap, up, rp, fr, ge, le, lt, nz, mm, ma, sm, fl, al, ci⟩ : Lf) = Ls := rfl
  show AC Try.prog 5 [.v (.im false (eu8_c a0))] _ _
  refine AC.of_run2 tab_ok Try.func5 (by rfl) (by rfl) (by cbv) ⟨by decide, rfl⟩ fun F hP hA => ?_
  have hT : TabOk F.P tab := hP ▸ tab_ok
  have hM : F.P.follows .mixedOrders = true := hP ▸ mixed
  have hC : ∀ {f a o r}, AC Try.prog f a o r → AC F.P f a o r := fun h => hP ▸ h
  refine Run.seq ?_
  refine Run.region hL hT [] (by cbv) ?_ ?_
  · exact hq0
  refine Run.seq ?_
  refine Run.region hL hT [] (by cbv) ?_ ?_
  · exact (hq trivial hq0)
  rw [show ln (eu8_c a0) = lenI_u8 a0 from ln_eq u8_c _]
  refine Run.ret ?_
  cases h
  refine ⟨_, _, by cbv, ?_, ?_⟩
  · exact LLe.r
  · exact (ALe.v LLe.r ALe.nil)

set_option maxRecDepth 8000 in
theorem laws_FnChanges_ac {a0 : List Int} {r : Bool} (h : laws_FnChanges.f a0 = some r) : AC Try.prog 4 [.v (.im true (rowsOf u8_c a0))] [.v (.jk)] [.v (.s (.bool r))] := by
  unfold laws_FnChanges.f at h
  let ar := Ls.ar; let cm := Ls.cm; let bo := Ls.bo; let sc := Ls.sc; let sa := Ls.sa; let sx := Ls.sx; let ss := Ls.ss; let sl := Ls.sl; let bs := Ls.bs; let sb := Ls.sb; let ln := Ls.ln; let sr := Ls.sr; let ap := Ls.ap; let up := Ls.up; let rp := Ls.rp; let fr := Ls.fr; let ge := Ls.ge; let le := Ls.le; let lt := Ls.lt; let nz := Ls.nz; let mm := Ls.mm; let ma := Ls.ma; let sm := Ls.sm; let fl := Ls.fl; let al := Ls.al; let ci := Ls.ci
  let eChange_i := rowsOf Change_i
  let eChange_k := rowsOf Change_k
  let eChange_o := rowsOf Change_o
  let eCond_c := rowsOf Cond_c
  let eInt_c := rowsOf Int_c
  let eKid_c := rowsOf Kid_c
  let eRow_i := rowsOf Row_i
  let eRow_o := rowsOf Row_o
  let eu8_c := rowsOf u8_c
  let lenI_Change := @lenI Change
  have hL : (⟨ar, cm, bo, sc, sa, sx, ss, sl, bs, sb, ln, sr, ap, up, rp, fr, ge, le, lt, nz, mm, ma, sm, fl, al, ci⟩ : Lf) = Ls := rfl
  show AC Try.prog 4 [.v (.im true (eu8_c a0))] _ _
  refine AC.of_run2 tab_ok Try.func4 (by rfl) (by rfl) (by cbv) ⟨by decide, rfl⟩ fun F hP hA => ?_
  have hT : TabOk F.P tab := hP ▸ tab_ok
  have hM : F.P.follows .mixedOrders = true := hP ▸ mixed
  have hC : ∀ {f a o r}, AC Try.prog f a o r → AC F.P f a o r := fun h => hP ▸ h
  refine Run.seq ?_
  refine Run.region hL hT [] (by cbv) ?_ ?_
  · exact hq0
  refine Run.seq ?_
  refine Run.seq ?_
  obtain ⟨r1, h_r1, h⟩ := bnd h
  refine Run.region hL hT [(1, .call [false] [.v (.jk)] [.v (.s (.bool r1))])] (by cbv) ?_ ?_
  · exact (hq (hC (laws_big_ac h_r1)) hq0)
  refine Run.cond (by cbv) (hq0) (fun c2 => ?_) (fun c2 => ?_)
  · have h := if_t c2 h
    refine Run.seq ?_
    refine Run.region hL hT [] (by cbv) ?_ ?_
    · exact hq0
    refine Run.ret ?_
    cases h
    refine ⟨_, _, by cbv, ?_, ?_⟩
    · exact LLe.r
    · exact (ALe.v LLe.r ALe.nil)
  · have h := if_f c2 h
    refine Run.skip ?_
    refine Run.seq ?_
    obtain ⟨⟨⟨⟨r3v_1v_Qv_Table, r3v_1v_Qv_Where, r3v_1v_Qv_Order, r3v_1v_Qv_Down, r3v_1v_Qv_First, r3v_1v_Qv_Show, r3v_1v_Qv_Kids, r3v_1v_Qv_KidTable, r3v_1v_Qv_KidCol⟩, r3v_1v_Rows, r3v_1v_Kids⟩, r3v_2⟩, h_r3, h⟩ := bnd h
    refine Run.region hL hT [(1, .call [true] [.v (.jk)] [.ag [.s (.int .i64 r3v_1v_Qv_Table), .ow 90 (eCond_c r3v_1v_Qv_Where), .s (.int .i64 r3v_1v_Qv_Order), .s (.bool r3v_1v_Qv_Down), .s (.int .i64 r3v_1v_Qv_First), .ow 3 (eInt_c r3v_1v_Qv_Show), .s (.bool r3v_1v_Qv_Kids), .s (.int .i64 r3v_1v_Qv_KidTable), .s (.int .i64 r3v_1v_Qv_KidCol), .ow 29 (eRow_o r3v_1v_Rows), .ow 77 (eKid_c r3v_1v_Kids)], .v (.ow 31 (eChange_o r3v_2))])] (by cbv) ?_ ?_
    · exact (hq (hC (spec_DrawViewChanges_ac h_r3)) (hq trivial hq0))
    refine Run.seq ?_
    obtain ⟨⟨⟨r4v_Qv_Table, r4v_Qv_Where, r4v_Qv_Order, r4v_Qv_Down, r4v_Qv_First, r4v_Qv_Show, r4v_Qv_Kids, r4v_Qv_KidTable, r4v_Qv_KidCol⟩, r4v_Rows, r4v_Kids⟩, h_r4, h⟩ := bnd h
    refine Run.region hL hT [(2, .call [false, false] [.ag [.jk, .jk, .jk, .jk, .jk, .jk, .jk, .jk, .jk, .jk, .jk], .v (.jk)] [.ag [.s (.int .i64 r4v_Qv_Table), .ow 90 (eCond_c r4v_Qv_Where), .s (.int .i64 r4v_Qv_Order), .s (.bool r4v_Qv_Down), .s (.int .i64 r4v_Qv_First), .ow 3 (eInt_c r4v_Qv_Show), .s (.bool r4v_Qv_Kids), .s (.int .i64 r4v_Qv_KidTable), .s (.int .i64 r4v_Qv_KidCol), .ow 29 (eRow_o r4v_Rows), .ow 77 (eKid_c r4v_Kids)]])] (by cbv) ?_ ?_
    · exact (hq trivial (hq (hC (AC.args (impl_ViewChanges_ac h_r4) (ALe.ag rfl (LLe.c (LLe.cons (LLe.im (RLe.eq (fr_row Cond_c_z _))) (LLe.c (LLe.c (LLe.c (LLe.cons (LLe.im (RLe.eq (fr_row Int_c_z _))) (LLe.c (LLe.c (LLe.c (LLe.cons (LLe.im (RLe.eq (fr_row Row_o_z _))) (LLe.cons (LLe.im (RLe.eq (fr_row Kid_c_z _))) LLe.nil))))))))))) (ALe.v (LLe.im (RLe.eq (fr_row Change_o_z _))) ALe.nil)))) (hq trivial hq0)))
    refine Run.seq ?_
    refine Run.seq ?_
    obtain ⟨⟨⟨r5v_Qv_Table, r5v_Qv_Where, r5v_Qv_Order, r5v_Qv_Down, r5v_Qv_First, r5v_Qv_Show, r5v_Qv_Kids, r5v_Qv_KidTable, r5v_Qv_KidCol⟩, r5v_Rows, r5v_Kids⟩, h_r5, h⟩ := bnd h
    obtain ⟨r6, h_r6, h⟩ := bnd h
    refine Run.draw hL hT hM [(3, .call [false, false] [.ag [.jk, .jk, .jk, .jk, .jk, .jk, .jk, .jk, .jk, .jk, .jk], .v (.jk)] [.ag [.s (.int .i64 r5v_Qv_Table), .ow 90 (eCond_c r5v_Qv_Where), .s (.int .i64 r5v_Qv_Order), .s (.bool r5v_Qv_Down), .s (.int .i64 r5v_Qv_First), .ow 3 (eInt_c r5v_Qv_Show), .s (.bool r5v_Qv_Kids), .s (.int .i64 r5v_Qv_KidTable), .s (.int .i64 r5v_Qv_KidCol), .ow 29 (eRow_o r5v_Rows), .ow 77 (eKid_c r5v_Kids)]]), (4, .call [false, false] [.ag [.jk, .jk, .jk, .jk, .jk, .jk, .jk, .jk, .jk, .jk, .jk], .ag [.jk, .jk, .jk, .jk, .jk, .jk, .jk, .jk, .jk, .jk, .jk]] [.v (.s (.bool r6))])] (by cbv) (by cbv) (by cbv) (by cbv) (by cbv) ?_ ?_
    · exact (hq trivial (hq trivial (hq (hC (AC.args (spec_ViewChanges_ac h_r5) (ALe.ag rfl (LLe.c (LLe.cons (LLe.im (RLe.eq (fr_row Cond_c_z _))) (LLe.c (LLe.c (LLe.c (LLe.cons (LLe.im (RLe.eq (fr_row Int_c_z _))) (LLe.c (LLe.c (LLe.c (LLe.cons (LLe.im (RLe.eq (fr_row Row_o_z _))) (LLe.cons (LLe.im (RLe.eq (fr_row Kid_c_z _))) LLe.nil))))))))))) (ALe.v (LLe.im (RLe.eq (fr_row Change_o_z _))) ALe.nil)))) (hq (hC (AC.args (impl_ViewSame_ac h_r6) (ALe.ag rfl (LLe.c (LLe.cons (LLe.im (RLe.eq (fr_row Cond_c_z _))) (LLe.c (LLe.c (LLe.c (LLe.cons (LLe.im (RLe.eq (fr_row Int_c_z _))) (LLe.c (LLe.c (LLe.c (LLe.cons (LLe.im (RLe.eq (fr_row Row_o_z _))) (LLe.cons (LLe.im (RLe.eq (fr_row Kid_c_z _))) LLe.nil))))))))))) (ALe.ag rfl (LLe.c (LLe.cons (LLe.im (RLe.eq (fr_row Cond_c_z _))) (LLe.c (LLe.c (LLe.c (LLe.cons (LLe.im (RLe.eq (fr_row Int_c_z _))) (LLe.c (LLe.c (LLe.c (LLe.cons (LLe.im (RLe.eq (fr_row Row_o_z _))) (LLe.cons (LLe.im (RLe.eq (fr_row Kid_c_z _))) LLe.nil))))))))))) ALe.nil)))) hq0))))
    refine Run.cond (by cbv) (hq0) (fun c7 => ?_) (fun c7 => ?_)
    · have h := if_t c7 h
      refine Run.seq ?_
      refine Run.region hL hT [] (by cbv) ?_ ?_
      · exact hq0
      refine Run.ret ?_
      cases h
      refine ⟨_, _, by cbv, ?_, ?_⟩
      · exact LLe.r
      · exact (ALe.v LLe.r ALe.nil)
    · have h := if_f c7 h
      refine Run.skip ?_
      refine Run.seq ?_
      obtain ⟨r8, h_r8, h⟩ := bnd h
      obtain ⟨u9, h_u9, h⟩ := bnd h
      refine Run.region hL hT [(1, .call [false, false] [.v (.jk), .v (.jk)] [.v (.s (.int .i64 r8))])] (by cbv) ?_ ?_
      · exact (hq (hC (laws_at_ac h_r8)) (hq trivial (hq trivial (hq (by rw [show ln (eChange_o r3v_2) = lenI_Change r3v_2 from ln_eq Change_o _]; exact (nz_t h_u9)) hq0))))
      rw [show ln (eChange_o r3v_2) = lenI_Change r3v_2 from ln_eq Change_o _]
      refine Run.seq ?_
      obtain ⟨l10, h_l10, h⟩ := bnd h
      obtain ⟨⟨⟨r11v_Qv_Table, r11v_Qv_Where, r11v_Qv_Order, r11v_Qv_Down, r11v_Qv_First, r11v_Qv_Show, r11v_Qv_Kids, r11v_Qv_KidTable, r11v_Qv_KidCol⟩, r11v_Rows, r11v_Kids⟩, h_r11, h⟩ := bnd h
      obtain ⟨l12, h_l12, h⟩ := bnd h
      obtain ⟨⟨⟨r13v_Qv_Table, r13v_Qv_Where, r13v_Qv_Order, r13v_Qv_Down, r13v_Qv_First, r13v_Qv_Show, r13v_Qv_Kids, r13v_Qv_KidTable, r13v_Qv_KidCol⟩, r13v_Rows, r13v_Kids⟩, h_r13, h⟩ := bnd h
      refine Run.draw hL hT hM [(4, .call [false, false] [.ag [.jk, .jk, .jk, .jk, .jk, .jk, .jk, .jk, .jk, .jk, .jk], .v (.jk)] [.ag [.s (.int .i64 r11v_Qv_Table), .ow 90 (eCond_c r11v_Qv_Where), .s (.int .i64 r11v_Qv_Order), .s (.bool r11v_Qv_Down), .s (.int .i64 r11v_Qv_First), .ow 3 (eInt_c r11v_Qv_Show), .s (.bool r11v_Qv_Kids), .s (.int .i64 r11v_Qv_KidTable), .s (.int .i64 r11v_Qv_KidCol), .ow 29 (eRow_o r11v_Rows), .ow 77 (eKid_c r11v_Kids)]]), (8, .call [false, false] [.ag [.jk, .jk, .jk, .jk, .jk, .jk, .jk, .jk, .jk, .jk, .jk], .v (.jk)] [.ag [.s (.int .i64 r13v_Qv_Table), .ow 90 (eCond_c r13v_Qv_Where), .s (.int .i64 r13v_Qv_Order), .s (.bool r13v_Qv_Down), .s (.int .i64 r13v_Qv_First), .ow 3 (eInt_c r13v_Qv_Show), .s (.bool r13v_Qv_Kids), .s (.int .i64 r13v_Qv_KidTable), .s (.int .i64 r13v_Qv_KidCol), .ow 29 (eRow_o r13v_Rows), .ow 77 (eKid_c r13v_Kids)]])] (by cbv) (by cbv) (by cbv) (by cbv) (by cbv) ?_ ?_
      · exact (hq trivial (hq (cut_0 h_l10) (hq (cut_1 h_l10) (hq (cut_2 (f := Change_o) h_l10) (hq (hC (AC.args (impl_ViewChanges_ac h_r11) (ALe.ag rfl (LLe.c (LLe.cons (LLe.im (RLe.eq (fr_row Cond_c_z _))) (LLe.c (LLe.c (LLe.c (LLe.cons (LLe.im (RLe.eq (fr_row Int_c_z _))) (LLe.c (LLe.c (LLe.c (LLe.cons (LLe.im (RLe.eq (fr_row Row_o_z _))) (LLe.cons (LLe.im (RLe.eq (fr_row Kid_c_z _))) LLe.nil))))))))))) (ALe.v (LLe.im (RLe.eq ((congrArg Ls.fr (cut_sr Change_o h_l10)).trans (fr_row Change_o_z _)))) ALe.nil)))) (hq (cut_0 h_l12) (hq (cut_1r (f := Change_o) h_l12) (hq (Int.le_refl _) (hq (by rw [show ln (eChange_o r3v_2) = lenI_Change r3v_2 from ln_eq Change_o _]; exact (hC (AC.args (impl_ViewChanges_ac h_r13) (ALe.ag rfl (LLe.c (LLe.cons (LLe.im (RLe.eq (fr_row Cond_c_z _))) (LLe.c (LLe.c (LLe.c (LLe.cons (LLe.im (RLe.eq (fr_row Int_c_z _))) (LLe.c (LLe.c (LLe.c (LLe.cons (LLe.im (RLe.eq (fr_row Row_o_z _))) (LLe.cons (LLe.im (RLe.eq (fr_row Kid_c_z _))) LLe.nil))))))))))) (ALe.v (LLe.im (RLe.eq ((congrArg Ls.fr (cut_sr Change_o h_l12)).trans (fr_row Change_o_z _)))) ALe.nil))))) (hq trivial hq0))))))))))
      rw [show ln (eChange_o r3v_2) = lenI_Change r3v_2 from ln_eq Change_o _]
      refine Run.seq ?_
      obtain ⟨⟨⟨⟨r14v_1v_Qv_Table, r14v_1v_Qv_Where, r14v_1v_Qv_Order, r14v_1v_Qv_Down, r14v_1v_Qv_First, r14v_1v_Qv_Show, r14v_1v_Qv_Kids, r14v_1v_Qv_KidTable, r14v_1v_Qv_KidCol⟩, r14v_1v_Rows, r14v_1v_Kids⟩, ⟨r14v_2v_Table, r14v_2v_Had, r14v_2v_Has, ⟨r14v_2v_Oldv_Id, r14v_2v_Oldv_Cells⟩, ⟨r14v_2v_Newv_Id, r14v_2v_Newv_Cells⟩⟩⟩, h_r14, h⟩ := bnd h
      refine Run.region hL hT [(1, .call [true] [.v (.jk)] [.ag [.s (.int .i64 r14v_1v_Qv_Table), .im true (eCond_c r14v_1v_Qv_Where), .s (.int .i64 r14v_1v_Qv_Order), .s (.bool r14v_1v_Qv_Down), .s (.int .i64 r14v_1v_Qv_First), .im true (eInt_c r14v_1v_Qv_Show), .s (.bool r14v_1v_Qv_Kids), .s (.int .i64 r14v_1v_Qv_KidTable), .s (.int .i64 r14v_1v_Qv_KidCol), .im true (eRow_i r14v_1v_Rows), .im true (eKid_c r14v_1v_Kids)], .ag [.s (.int .i64 r14v_2v_Table), .s (.bool r14v_2v_Had), .s (.bool r14v_2v_Has), .s (.int .i64 r14v_2v_Oldv_Id), .im true (eInt_c r14v_2v_Oldv_Cells), .s (.int .i64 r14v_2v_Newv_Id), .im true (eInt_c r14v_2v_Newv_Cells)]])] (by cbv) ?_ ?_
      · exact (hq (hC (spec_DrawViewChange_ac h_r14)) (hq trivial (hq trivial hq0)))
      refine Run.seq ?_
      obtain ⟨r15, h_r15, h⟩ := bnd h
      obtain ⟨⟨⟨r16v_Qv_Table, r16v_Qv_Where, r16v_Qv_Order, r16v_Qv_Down, r16v_Qv_First, r16v_Qv_Show, r16v_Qv_Kids, r16v_Qv_KidTable, r16v_Qv_KidCol⟩, r16v_Rows, r16v_Kids⟩, h_r16, h⟩ := bnd h
      obtain ⟨l17, h_l17, h⟩ := bnd h
      obtain ⟨⟨⟨r18v_Qv_Table, r18v_Qv_Where, r18v_Qv_Order, r18v_Qv_Down, r18v_Qv_First, r18v_Qv_Show, r18v_Qv_Kids, r18v_Qv_KidTable, r18v_Qv_KidCol⟩, r18v_Rows, r18v_Kids⟩, h_r18, h⟩ := bnd h
      obtain ⟨r19, h_r19, h⟩ := bnd h
      by_cases hk20 : r15 = true
      · skip
        refine Run.draw hL hT hM [(2, .call [false, false] [.ag [.jk, .jk, .jk, .jk, .jk, .jk, .jk, .jk, .jk, .jk, .jk], .ag [.jk, .jk, .jk, .jk, .jk, .jk, .jk, .jk, .jk, .jk, .jk]] [.v (.s (.bool r15))]), (4, .on0), (5, .on0), (6, .on1 (.call [false, false] [.ag [.jk, .jk, .jk, .jk, .jk, .jk, .jk, .jk, .jk, .jk, .jk], .ag [.jk, .jk, .jk, .jk, .jk, .jk, .jk]] [.ag [.s (.int .i64 r16v_Qv_Table), .ow 90 (eCond_c r16v_Qv_Where), .s (.int .i64 r16v_Qv_Order), .s (.bool r16v_Qv_Down), .s (.int .i64 r16v_Qv_First), .ow 3 (eInt_c r16v_Qv_Show), .s (.bool r16v_Qv_Kids), .s (.int .i64 r16v_Qv_KidTable), .s (.int .i64 r16v_Qv_KidCol), .ow 29 (eRow_o r16v_Rows), .ow 77 (eKid_c r16v_Kids)]])), (7, .on0), (8, .on0), (9, .on0), (10, .on1 (.call [false, false] [.ag [.jk, .jk, .jk, .jk, .jk, .jk, .jk, .jk, .jk, .jk, .jk], .v (.jk)] [.ag [.s (.int .i64 r18v_Qv_Table), .ow 90 (eCond_c r18v_Qv_Where), .s (.int .i64 r18v_Qv_Order), .s (.bool r18v_Qv_Down), .s (.int .i64 r18v_Qv_First), .ow 3 (eInt_c r18v_Qv_Show), .s (.bool r18v_Qv_Kids), .s (.int .i64 r18v_Qv_KidTable), .s (.int .i64 r18v_Qv_KidCol), .ow 29 (eRow_o r18v_Rows), .ow 77 (eKid_c r18v_Kids)]])), (11, .on1 (.call [false, false] [.ag [.jk, .jk, .jk, .jk, .jk, .jk, .jk, .jk, .jk, .jk, .jk], .ag [.jk, .jk, .jk, .jk, .jk, .jk, .jk, .jk, .jk, .jk, .jk]] [.v (.s (.bool r19))]))] (by cbv) (by cbv) (by cbv) (by cbv) (by cbv) ?_ ?_
        · exact (hq trivial (hq trivial (hq (hC (AC.args (impl_ViewSame_ac h_r15) (ALe.ag rfl (LLe.c (LLe.cons (LLe.im (RLe.eq (fr_row Cond_c_z _))) (LLe.c (LLe.c (LLe.c (LLe.cons (LLe.im (RLe.eq (fr_row Int_c_z _))) (LLe.c (LLe.c (LLe.c (LLe.cons (LLe.im (RLe.eq (fr_row Row_o_z _))) (LLe.cons (LLe.im (RLe.eq (fr_row Kid_c_z _))) LLe.nil))))))))))) (ALe.ag rfl (LLe.c (LLe.cons (LLe.im (RLe.eq (fr_row Cond_c_z _))) (LLe.c (LLe.c (LLe.c (LLe.cons (LLe.im (RLe.eq (fr_row Int_c_z _))) (LLe.c (LLe.c (LLe.c (LLe.cons (LLe.im (RLe.eq (fr_row Row_o_z _))) (LLe.cons (LLe.im (RLe.eq (fr_row Kid_c_z _))) LLe.nil))))))))))) ALe.nil)))) (hq hk20 (hq trivial (hq hk20 (hq trivial (hq hk20 (hq hk20 (hq hk20 (hq (hC (impl_ViewChange_ac (gd_t h_r16 hk20))) (hq hk20 (hq trivial (hq hk20 (hq trivial (hq hk20 (hq hk20 (hq hk20 (hq hk20 (hq hk20 (hq (hC (AC.args (impl_ViewChanges_ac (gd_t h_r18 hk20)) (ALe.ag rfl LLe.r (ALe.v (fr_litO (f := Change_k) h_l17 rfl (fr_row Change_k_z _)) ALe.nil)))) (hq hk20 (hq hk20 (hq hk20 (hq (hC (AC.args (impl_ViewSame_ac (gd_t h_r19 hk20)) (ALe.ag rfl (LLe.c (LLe.cons (LLe.im (RLe.eq (fr_row Cond_c_z _))) (LLe.c (LLe.c (LLe.c (LLe.cons (LLe.im (RLe.eq (fr_row Int_c_z _))) (LLe.c (LLe.c (LLe.c (LLe.cons (LLe.im (RLe.eq (fr_row Row_o_z _))) (LLe.cons (LLe.im (RLe.eq (fr_row Kid_c_z _))) LLe.nil))))))))))) (ALe.ag rfl (LLe.c (LLe.cons (LLe.im (RLe.eq (fr_row Cond_c_z _))) (LLe.c (LLe.c (LLe.c (LLe.cons (LLe.im (RLe.eq (fr_row Int_c_z _))) (LLe.c (LLe.c (LLe.c (LLe.cons (LLe.im (RLe.eq (fr_row Row_o_z _))) (LLe.cons (LLe.im (RLe.eq (fr_row Kid_c_z _))) LLe.nil))))))))))) ALe.nil)))) (hq (fun q20 => (hq q20 hq0)) (hq (fun _ => hq0) hq0)))))))))))))))))))))))))))
        refine Run.row (rows := [[.s (.int .i64 r14v_2v_Table), .s (.bool r14v_2v_Had), .s (.bool r14v_2v_Has), .s (.int .i64 r14v_2v_Oldv_Id), .im true (eInt_c r14v_2v_Oldv_Cells), .s (.int .i64 r14v_2v_Newv_Id), .im true (eInt_c r14v_2v_Newv_Cells)]]) 32777 (eChange_k l17) (by cbv) (some_le (f := Change_k) h_l17 (RLe.cons rfl LLe.r RLe.nil)) ?_
        refine Run.ret ?_
        cases h
        refine ⟨_, _, by cbv, ?_, ?_⟩
        · exact LLe.r
        · exact (ALe.v LLe.r ALe.nil)
      · rw [Bool.not_eq_true] at hk20
        refine Run.draw hL hT hM [(2, .call [false, false] [.ag [.jk, .jk, .jk, .jk, .jk, .jk, .jk, .jk, .jk, .jk, .jk], .ag [.jk, .jk, .jk, .jk, .jk, .jk, .jk, .jk, .jk, .jk, .jk]] [.v (.s (.bool r15))]), (4, .off (.ag [.t (.s (.int .i64 r14v_1v_Qv_Table)), .t (.im true (eCond_c r14v_1v_Qv_Where)), .t (.s (.int .i64 r14v_1v_Qv_Order)), .t (.s (.bool r14v_1v_Qv_Down)), .t (.s (.int .i64 r14v_1v_Qv_First)), .t (.im true (eInt_c r14v_1v_Qv_Show)), .t (.s (.bool r14v_1v_Qv_Kids)), .t (.s (.int .i64 r14v_1v_Qv_KidTable)), .t (.s (.int .i64 r14v_1v_Qv_KidCol)), .t (.im true (eRow_i r14v_1v_Rows)), .t (.im true (eKid_c r14v_1v_Kids))])), (5, .off (.ag [.t (.s (.int .i64 r14v_2v_Table)), .t (.s (.bool r14v_2v_Had)), .t (.s (.bool r14v_2v_Has)), .t (.s (.int .i64 r14v_2v_Oldv_Id)), .t (.im true (eInt_c r14v_2v_Oldv_Cells)), .t (.s (.int .i64 r14v_2v_Newv_Id)), .t (.im true (eInt_c r14v_2v_Newv_Cells))])), (6, .off (.ag [.t (.s (.int .i64 r16v_Qv_Table)), .rf 32774, .t (.s (.int .i64 r16v_Qv_Order)), .t (.s (.bool r16v_Qv_Down)), .t (.s (.int .i64 r16v_Qv_First)), .rf 33030, .t (.s (.bool r16v_Qv_Kids)), .t (.s (.int .i64 r16v_Qv_KidTable)), .t (.s (.int .i64 r16v_Qv_KidCol)), .rf 33286, .rf 33542])), (7, .off (.ag [.t (.s (.int .i64 r14v_1v_Qv_Table)), .t (.im true (eCond_c r14v_1v_Qv_Where)), .t (.s (.int .i64 r14v_1v_Qv_Order)), .t (.s (.bool r14v_1v_Qv_Down)), .t (.s (.int .i64 r14v_1v_Qv_First)), .t (.im true (eInt_c r14v_1v_Qv_Show)), .t (.s (.bool r14v_1v_Qv_Kids)), .t (.s (.int .i64 r14v_1v_Qv_KidTable)), .t (.s (.int .i64 r14v_1v_Qv_KidCol)), .t (.im true (eRow_i r14v_1v_Rows)), .t (.im true (eKid_c r14v_1v_Kids))])), (8, .off (.ag [.t (.s (.int .i64 r14v_2v_Table)), .t (.s (.bool r14v_2v_Had)), .t (.s (.bool r14v_2v_Has)), .t (.s (.int .i64 r14v_2v_Oldv_Id)), .t (.im true (eInt_c r14v_2v_Oldv_Cells)), .t (.s (.int .i64 r14v_2v_Newv_Id)), .t (.im true (eInt_c r14v_2v_Newv_Cells))])), (9, .off (.rf 32777)), (10, .off (.ag [.t (.s (.int .i64 r18v_Qv_Table)), .rf 32778, .t (.s (.int .i64 r18v_Qv_Order)), .t (.s (.bool r18v_Qv_Down)), .t (.s (.int .i64 r18v_Qv_First)), .rf 33034, .t (.s (.bool r18v_Qv_Kids)), .t (.s (.int .i64 r18v_Qv_KidTable)), .t (.s (.int .i64 r18v_Qv_KidCol)), .rf 33290, .rf 33546])), (11, .off (.t (.s (.bool r19))))] (by cbv) (by cbv) (by cbv) (by cbv) (by cbv) ?_ ?_
        · exact (hq trivial (hq trivial (hq (hC (AC.args (impl_ViewSame_ac h_r15) (ALe.ag rfl (LLe.c (LLe.cons (LLe.im (RLe.eq (fr_row Cond_c_z _))) (LLe.c (LLe.c (LLe.c (LLe.cons (LLe.im (RLe.eq (fr_row Int_c_z _))) (LLe.c (LLe.c (LLe.c (LLe.cons (LLe.im (RLe.eq (fr_row Row_o_z _))) (LLe.cons (LLe.im (RLe.eq (fr_row Kid_c_z _))) LLe.nil))))))))))) (ALe.ag rfl (LLe.c (LLe.cons (LLe.im (RLe.eq (fr_row Cond_c_z _))) (LLe.c (LLe.c (LLe.c (LLe.cons (LLe.im (RLe.eq (fr_row Int_c_z _))) (LLe.c (LLe.c (LLe.c (LLe.cons (LLe.im (RLe.eq (fr_row Row_o_z _))) (LLe.cons (LLe.im (RLe.eq (fr_row Kid_c_z _))) LLe.nil))))))))))) ALe.nil)))) (hq hk20 (hq hk20 (hq hk20 (hq hk20 (hq hk20 (hq hk20 (hq hk20 (hq hk20 (hq (fun q20 => (hq q20 hq0)) (hq (fun _ => hq0) hq0)))))))))))))
        refine Run.ret ?_
        cases h
        refine ⟨_, _, by cbv, ?_, ?_⟩
        · exact LLe.r
        · exact (ALe.v LLe.r ALe.nil)


end Go.Proofs.Ytblacmggjfinhaa.L
