/- The contracts of the program's functions. -/
import Derived.Test.YtcpekllcbimpmaaDoorProg
import Derived.Test.YtcpekllcbimpmaaDoorFnQuestionC0
import Derived.KernelRfl
namespace Go.Proofs.YtcpekllcbimpmaaDoor.L
open Go Go.Proofs
set_option linter.unusedVariables false
set_option linter.unusedSimpArgs false
set_option maxRecDepth 8000
theorem spec_l1New_ac {a0 : List Int} {r : l1Cur} (h : spec_l1New.f a0 = some r) : AC Tryd.prog 68 [.v (.im true (rowsOf u8_c a0))] [.v (.jk)] [.v (.bx 129 [.im true (rowsOf u8_c r.b), .s (.int .i64 r.i), .s (.int .i64 r.h)])] := by
  unfold spec_l1New.f at h
  let eu8_c := rowsOf u8_c
  let lenI_u8 := @lenI Int
  show AC Tryd.prog 68 [.v (.im true (eu8_c a0))] _ _
  refine run3 Tryd.func68 (by rfl) (by rfl) (by cbv) ⟨by decide, rfl⟩ ?_
  intro ar cm bo sc sa sx ss sl bs sb ln sr ap up rp fr ge le lt nz mm ma sm fl al ci hL F hP hA hT hM hC
  refine Run.seq ?_
  refine Run.region hL hT [] (by cbv) ?_ ?_
  · exact hq0
  refine Run.seq ?_
  refine Run.region hL hT [] (by cbv) ?_ ?_
  · exact (hq trivial hq0)
  rw [show ln (eu8_c a0) = lenI_u8 a0 from ln_eq u8_c _]
  refine Run.seq ?_
  refine Run.seq ?_
  refine Run.region hL hT [] (by cbv) ?_ ?_
  · exact hq0
  refine Run.block ?_
  refine Run.loop2 (fun (z4 : Int) (z5 : Int) => ⟨32, 100000, [(0, .t (.im true (eu8_c a0))), (3, .t (.s (.int .i64 z4))), (4, .t (.s (.int .i64 z5)))], []⟩) (x0 := (ar .add .i64 17333 (lenI_u8 a0))) (x1 := 0) h (Weak.of _ [] hA (by cbv) ?_) (fun _ _ => rfl) ?_
  · repeat (first | exact hq0 | refine hq (by first | exact True.intro | rfl) ?_)
  · intro k z4 z5 h
    rw [spec_l1New.l0] at h
    refine Run.seq ?_
    refine Run.seq ?_
    refine Run.region hL hT [] (by cbv) ?_ ?_
    · exact (hq trivial (hq (fun _ => hq0) (hq (fun g7 => (by have g7C := g7; rw [show ln (eu8_c a0) = lenI_u8 a0 from ln_eq u8_c _] at g7C; exact (hq g7 (hq trivial hq0)))) (hq (fun q8 => (by have q8C := q8; rw [show ln (eu8_c a0) = lenI_u8 a0 from ln_eq u8_c _] at q8C; exact (hq q8 hq0))) (hq (fun _ => hq0) hq0)))))
    rw [show ln (eu8_c a0) = lenI_u8 a0 from ln_eq u8_c _]
    refine Run.cond (by cbv) (hq0) (fun c10 => ?_) (fun c10 => ?_)
    · have h := if_t c10 h
      refine Run.skip ?_
      refine Run.seq ?_
      refine Run.block ?_
      obtain ⟨x11, h_x11, h⟩ := bnd h
      refine Run.region hL hT [(4, .el [.s (.int .u8 x11)])] (by cbv) ?_ ?_
      · exact (hq trivial (hq (get_le h_x11) (hq (get_lt (f := u8_c) h_x11) (hq (get_ge (f := u8_c) h_x11) (hq trivial (hq trivial (hq trivial hq0)))))))
      refine Run.region hL hT [] (by cbv) ?_ ?_
      · exact (hq trivial hq0)
      refine ⟨(ar .and .i64 (ar .add .i64 (ar .add .i64 (ar .mul .i64 z4 131) (ar .or .i64 x11 0)) 7) 1073741823), (ar .add .i64 z5 1), h, Weak.of _ [] hA (by cbv) ?_⟩
      repeat (first | exact hq0 | refine hq (by first | exact True.intro | rfl) ?_)
    · have h := if_f c10 h
      refine Run.exit ?_
      refine Run.seq ?_
      refine Run.region hL hT [] (by cbv) ?_ ?_
      · exact hq0
      refine Run.ret ?_
      cases h
      refine ⟨_, _, by cbv, ?_, ?_⟩
      · exact LLe.r
      · exact (ALe.v LLe.r ALe.nil)

theorem spec_DrawQueryOk_ac {a0 : List Int} {r : Schema × Query} (h : spec_DrawQueryOk.f a0 = some r) : AC Tryd.prog 60 [.v (.im true (rowsOf u8_c a0))] [.v (.jk)] [.ag [.ow 3 (rowsOf Int_c r.1.Cols)], .ag [.s (.int .i64 r.2.Table), .ow 65 (rowsOf Cond_c r.2.Where), .s (.int .i64 r.2.Order), .s (.bool r.2.Down), .s (.int .i64 r.2.First), .ow 3 (rowsOf Int_c r.2.Show), .s (.bool r.2.Kids), .s (.int .i64 r.2.KidTable), .s (.int .i64 r.2.KidCol)]] := by
  unfold spec_DrawQueryOk.f at h
  let eCond_c := rowsOf Cond_c
  let eInt_c := rowsOf Int_c
  let eu8_c := rowsOf u8_c
  show AC Tryd.prog 60 [.v (.im true (eu8_c a0))] _ _
  refine run3 Tryd.func60 (by rfl) (by rfl) (by cbv) ⟨by decide, rfl⟩ ?_
  intro ar cm bo sc sa sx ss sl bs sb ln sr ap up rp fr ge le lt nz mm ma sm fl al ci hL F hP hA hT hM hC
  refine Run.seq ?_
  refine Run.region hL hT [] (by cbv) ?_ ?_
  · exact hq0
  refine Run.seq ?_
  obtain ⟨⟨r1v_b, r1v_i, r1v_h⟩, h_r1, h⟩ := bnd h
  refine Run.region hL hT [(1, .call [true] [.v (.jk)] [.v (.bx 129 [.im true (eu8_c r1v_b), .s (.int .i64 r1v_i), .s (.int .i64 r1v_h)])])] (by cbv) ?_ ?_
  · exact (hq (hC (spec_l1New_ac h_r1)) hq0)
  refine Run.seq ?_
  obtain ⟨⟨⟨r2v_1v_b, r2v_1v_i, r2v_1v_h⟩, ⟨r2v_2v_Cols⟩⟩, h_r2, h⟩ := bnd h
  refine Run.region hL hT [(1, .call [true] [.v (.bx 129 [.im true (eu8_c r1v_b), .s (.int .i64 r2v_1v_i), .s (.int .i64 r2v_1v_h)])] [.ag [.ow 3 (eInt_c r2v_2v_Cols)]])] (by cbv) ?_ ?_
  · exact (hq (hC (spec_l6DrawBad_ac h_r2)) (hq trivial hq0))
  refine Run.seq ?_
  obtain ⟨⟨⟨r3v_1v_b, r3v_1v_i, r3v_1v_h⟩, ⟨r3v_2v_Table, r3v_2v_Where, r3v_2v_Order, r3v_2v_Down, r3v_2v_First, r3v_2v_Show, r3v_2v_Kids, r3v_2v_KidTable, r3v_2v_KidCol⟩⟩, h_r3, h⟩ := bnd h
  refine Run.draw hL hT hM [(3, .call [true, false] [.v (.bx 129 [.im true (eu8_c r1v_b), .s (.int .i64 r3v_1v_i), .s (.int .i64 r3v_1v_h)]), .ag [.jk]] [.ag [.s (.int .i64 r3v_2v_Table), .ow 65 (eCond_c r3v_2v_Where), .s (.int .i64 r3v_2v_Order), .s (.bool r3v_2v_Down), .s (.int .i64 r3v_2v_First), .ow 3 (eInt_c r3v_2v_Show), .s (.bool r3v_2v_Kids), .s (.int .i64 r3v_2v_KidTable), .s (.int .i64 r3v_2v_KidCol)]])] (by cbv) (collect_cons (by cbv) (by cbv) (collect_cons (by cbv) (by cbv) (collect_cons (by cbv) (by cbv) (collect_cons (by cbv) (by cbv) (collect_cons (by cbv) (by cbv) (collect_cons (by cbv) (by cbv) collect_nil)))))) (by cbv) (by cbv) (by cbv) ?_ ?_
  · exact (hq trivial (hq trivial (hq (hC (AC.args (spec_l9Draw_ac h_r3) (ALe.v LLe.r (ALe.ag rfl (LLe.cons (LLe.im (RLe.eq (fr_row Int_c_z _))) LLe.nil) ALe.nil)))) (hq trivial (hq trivial hq0)))))
  refine Run.ret ?_
  cases h
  refine ⟨_, _, by cbv, ?_, ?_⟩
  · exact LLe.r
  · exact (ALe.ag rfl LLe.r (ALe.ag rfl LLe.r ALe.nil))

theorem spec_DrawQueryText_ac {a0 : List Int} {r : Schema × Query} (h : spec_DrawQueryText.f a0 = some r) : AC Tryd.prog 26 [.v (.im true (rowsOf u8_c a0))] [.v (.jk)] [.ag [.ow 3 (rowsOf Int_c r.1.Cols)], .ag [.s (.int .i64 r.2.Table), .ow 65 (rowsOf Cond_c r.2.Where), .s (.int .i64 r.2.Order), .s (.bool r.2.Down), .s (.int .i64 r.2.First), .ow 3 (rowsOf Int_c r.2.Show), .s (.bool r.2.Kids), .s (.int .i64 r.2.KidTable), .s (.int .i64 r.2.KidCol)]] := by
  unfold spec_DrawQueryText.f at h
  let eCond_c := rowsOf Cond_c
  let eInt_c := rowsOf Int_c
  let eu8_c := rowsOf u8_c
  show AC Tryd.prog 26 [.v (.im true (eu8_c a0))] _ _
  refine run3 Tryd.func26 (by rfl) (by rfl) (by cbv) ⟨by decide, rfl⟩ ?_
  intro ar cm bo sc sa sx ss sl bs sb ln sr ap up rp fr ge le lt nz mm ma sm fl al ci hL F hP hA hT hM hC
  refine Run.seq ?_
  refine Run.region hL hT [] (by cbv) ?_ ?_
  · exact hq0
  refine Run.seq ?_
  obtain ⟨⟨⟨r1v_1v_Cols⟩, ⟨r1v_2v_Table, r1v_2v_Where, r1v_2v_Order, r1v_2v_Down, r1v_2v_First, r1v_2v_Show, r1v_2v_Kids, r1v_2v_KidTable, r1v_2v_KidCol⟩⟩, h_r1, h⟩ := bnd h
  refine Run.region hL hT [(1, .call [true] [.v (.jk)] [.ag [.ow 3 (eInt_c r1v_1v_Cols)], .ag [.s (.int .i64 r1v_2v_Table), .ow 65 (eCond_c r1v_2v_Where), .s (.int .i64 r1v_2v_Order), .s (.bool r1v_2v_Down), .s (.int .i64 r1v_2v_First), .ow 3 (eInt_c r1v_2v_Show), .s (.bool r1v_2v_Kids), .s (.int .i64 r1v_2v_KidTable), .s (.int .i64 r1v_2v_KidCol)]])] (by cbv) ?_ ?_
  · exact (hq (hC (spec_DrawQueryOk_ac h_r1)) (hq trivial (hq trivial hq0)))
  refine Run.seq ?_
  refine Run.draw hL hT hM [] (by cbv) (by cbv) (by cbv) (by cbv) (by cbv) ?_ ?_
  · exact (hq trivial (hq trivial (hq trivial (hq trivial hq0))))
  refine Run.ret ?_
  cases h
  refine ⟨_, _, by cbv, ?_, ?_⟩
  · exact LLe.r
  · exact (ALe.ag rfl LLe.r (ALe.ag rfl LLe.r ALe.nil))

theorem slices_Equal_impl_Cond_ac {a0 : List Cond} {a1 : List Cond} {r : Bool} (h : slices_Equal_impl_Cond.f a0 a1 = some r) : AC Tryd.prog 66 [.v (.im false (rowsOf Cond_c a0)), .v (.im false (rowsOf Cond_c a1))] [.v (.jk), .v (.jk)] [.v (.s (.bool r))] := by
  unfold slices_Equal_impl_Cond.f at h
  let eCond_c := rowsOf Cond_c
  let lenI_Cond := @lenI Cond
  show AC Tryd.prog 66 [.v (.im false (eCond_c a0)), .v (.im false (eCond_c a1))] _ _
  refine run3 Tryd.func66 (by rfl) (by rfl) (by cbv) ⟨by decide, rfl⟩ ?_
  intro ar cm bo sc sa sx ss sl bs sb ln sr ap up rp fr ge le lt nz mm ma sm fl al ci hL F hP hA hT hM hC
  refine Run.seq ?_
  refine Run.region hL hT [] (by cbv) ?_ ?_
  · exact hq0
  refine Run.seq ?_
  refine Run.seq ?_
  refine Run.region hL hT [] (by cbv) ?_ ?_
  · exact (hq trivial hq0)
  rw [show ln (eCond_c a0) = lenI_Cond a0 from ln_eq Cond_c _]
  rw [show ln (eCond_c a1) = lenI_Cond a1 from ln_eq Cond_c _]
  refine Run.cond (by cbv) (hq0) (fun c1 => ?_) (fun c1 => ?_)
  · have h := if_t c1 h
    refine Run.seq ?_
    refine Run.region hL hT [] (by cbv) ?_ ?_
    · exact hq0
    refine Run.ret ?_
    cases h
    refine ⟨_, _, by cbv, ?_, ?_⟩
    · exact LLe.r
    · exact (ALe.v LLe.r ALe.nil)
  · have h := if_f c1 h
    refine Run.skip ?_
    refine Run.seq ?_
    refine Run.seq ?_
    refine Run.region hL hT [] (by cbv) ?_ ?_
    · exact hq0
    rw [show ln (eCond_c a0) = lenI_Cond a0 from ln_eq Cond_c _]
    refine Run.block ?_
    refine Run.loop1 (fun (z6 : Int) => ⟨26, 100000, [(0, .t (.im false (eCond_c a0))), (1, .t (.im false (eCond_c a1))), (12, .t (.s (.int .i64 (lenI_Cond a0)))), (13, .t (.s (.int .i64 z6)))], []⟩) (x0 := 0) h (Weak.of _ [] hA (by cbv) ?_) (fun _ => rfl) ?_
    · repeat (first | exact hq0 | refine hq (by first | exact True.intro | rfl) ?_)
    · intro k z6 h
      rw [slices_Equal_impl_Cond.l0] at h
      refine Run.seq ?_
      refine Run.region hL hT [] (by cbv) ?_ ?_
      · exact (hq trivial hq0)
      refine Run.seq ?_
      refine Run.cond (by cbv) (hq0) (fun c7 => ?_) (fun c7 => ?_)
      · have h := if_t c7 h
        refine Run.skip ?_
        refine Run.seq ?_
        refine Run.block ?_
        refine Run.seq ?_
        refine Run.region hL hT [] (by cbv) ?_ ?_
        · exact hq0
        refine Run.seq ?_
        obtain ⟨⟨x8v_Col, x8v_Op, x8v_V⟩, h_x8, h⟩ := bnd h
        obtain ⟨⟨x9v_Col, x9v_Op, x9v_V⟩, h_x9, h⟩ := bnd h
        refine Run.draw hL hT hM [(2, .el [.s (.int .i64 x8v_Col), .s (.int .i64 x8v_Op), .s (.int .i64 x8v_V)]), (6, .el [.s (.int .i64 x9v_Col), .s (.int .i64 x9v_Op), .s (.int .i64 x9v_V)])] (by cbv) (collect_cons (by cbv) (by cbv) (collect_cons (by cbv) (by cbv) (collect_cons (by cbv) (by cbv) (collect_cons (by cbv) (by cbv) (collect_cons (by cbv) (by cbv) (collect_cons (by cbv) (by cbv) (collect_cons (by cbv) (by cbv) (collect_cons (by cbv) (by cbv) (collect_cons (by cbv) (by cbv) collect_nil))))))))) (by cbv) (by cbv) (by cbv) ?_ ?_
        · exact (hq (get_le h_x8) (hq (get_lt (f := Cond_c) h_x8) (hq (get_ge (f := Cond_c) h_x8) (hq (get_le h_x9) (hq (get_lt (f := Cond_c) h_x9) (hq (get_ge (f := Cond_c) h_x9) (hq trivial (hq trivial (hq trivial (hq trivial (hq trivial (hq trivial hq0))))))))))))
        refine Run.cond (by cbv) (hq0) (fun c10 => ?_) (fun c10 => ?_)
        · have h := if_t c10 h
          refine Run.seq ?_
          refine Run.region hL hT [] (by cbv) ?_ ?_
          · exact hq0
          refine Run.ret ?_
          cases h
          refine ⟨_, _, by cbv, ?_, ?_⟩
          · exact LLe.r
          · exact (ALe.v LLe.r ALe.nil)
        · have h := if_f c10 h
          refine Run.skip ?_
          refine Run.region hL hT [] (by cbv) ?_ ?_
          · exact (hq trivial hq0)
          refine ⟨(ar .add .i64 z6 1), h, Weak.of _ [] hA (by cbv) ?_⟩
          repeat (first | exact hq0 | refine hq (by first | exact True.intro | rfl) ?_)
      · have h := if_f c7 h
        refine Run.exit ?_
        refine Run.seq ?_
        refine Run.region hL hT [] (by cbv) ?_ ?_
        · exact hq0
        refine Run.ret ?_
        cases h
        refine ⟨_, _, by cbv, ?_, ?_⟩
        · exact LLe.r
        · exact (ALe.v LLe.r ALe.nil)

theorem slices_Equal_int_ac {a0 : List Int} {a1 : List Int} {r : Bool} (h : slices_Equal_int.f a0 a1 = some r) : AC Tryd.prog 67 [.v (.im false (rowsOf Int_c a0)), .v (.im false (rowsOf Int_c a1))] [.v (.jk), .v (.jk)] [.v (.s (.bool r))] := by
  unfold slices_Equal_int.f at h
  let eInt_c := rowsOf Int_c
  let lenI_Int := @lenI Int
  show AC Tryd.prog 67 [.v (.im false (eInt_c a0)), .v (.im false (eInt_c a1))] _ _
  refine run3 Tryd.func67 (by rfl) (by rfl) (by cbv) ⟨by decide, rfl⟩ ?_
  intro ar cm bo sc sa sx ss sl bs sb ln sr ap up rp fr ge le lt nz mm ma sm fl al ci hL F hP hA hT hM hC
  refine Run.seq ?_
  refine Run.region hL hT [] (by cbv) ?_ ?_
  · exact hq0
  refine Run.seq ?_
  refine Run.seq ?_
  refine Run.region hL hT [] (by cbv) ?_ ?_
  · exact (hq trivial hq0)
  rw [show ln (eInt_c a0) = lenI_Int a0 from ln_eq Int_c _]
  rw [show ln (eInt_c a1) = lenI_Int a1 from ln_eq Int_c _]
  refine Run.cond (by cbv) (hq0) (fun c1 => ?_) (fun c1 => ?_)
  · have h := if_t c1 h
    refine Run.seq ?_
    refine Run.region hL hT [] (by cbv) ?_ ?_
    · exact hq0
    refine Run.ret ?_
    cases h
    refine ⟨_, _, by cbv, ?_, ?_⟩
    · exact LLe.r
    · exact (ALe.v LLe.r ALe.nil)
  · have h := if_f c1 h
    refine Run.skip ?_
    refine Run.seq ?_
    refine Run.seq ?_
    refine Run.region hL hT [] (by cbv) ?_ ?_
    · exact hq0
    rw [show ln (eInt_c a0) = lenI_Int a0 from ln_eq Int_c _]
    refine Run.block ?_
    refine Run.loop1 (fun (z6 : Int) => ⟨26, 100000, [(0, .t (.im false (eInt_c a0))), (1, .t (.im false (eInt_c a1))), (12, .t (.s (.int .i64 (lenI_Int a0)))), (13, .t (.s (.int .i64 z6)))], []⟩) (x0 := 0) h (Weak.of _ [] hA (by cbv) ?_) (fun _ => rfl) ?_
    · repeat (first | exact hq0 | refine hq (by first | exact True.intro | rfl) ?_)
    · intro k z6 h
      rw [slices_Equal_int.l0] at h
      refine Run.seq ?_
      refine Run.region hL hT [] (by cbv) ?_ ?_
      · exact (hq trivial hq0)
      refine Run.seq ?_
      refine Run.cond (by cbv) (hq0) (fun c7 => ?_) (fun c7 => ?_)
      · have h := if_t c7 h
        refine Run.skip ?_
        refine Run.seq ?_
        refine Run.block ?_
        refine Run.seq ?_
        refine Run.region hL hT [] (by cbv) ?_ ?_
        · exact hq0
        refine Run.seq ?_
        obtain ⟨x8, h_x8, h⟩ := bnd h
        obtain ⟨x9, h_x9, h⟩ := bnd h
        refine Run.draw hL hT hM [(2, .el [.s (.int .i64 x8)]), (6, .el [.s (.int .i64 x9)])] (by cbv) (collect_cons (by cbv) (by cbv) (collect_cons (by cbv) (by cbv) (collect_cons (by cbv) (by cbv) (collect_cons (by cbv) (by cbv) (collect_cons (by cbv) (by cbv) (collect_cons (by cbv) (by cbv) (collect_cons (by cbv) (by cbv) (collect_cons (by cbv) (by cbv) (collect_cons (by cbv) (by cbv) collect_nil))))))))) (by cbv) (by cbv) (by cbv) ?_ ?_
        · exact (hq (get_le h_x8) (hq (get_lt (f := Int_c) h_x8) (hq (get_ge (f := Int_c) h_x8) (hq (get_le h_x9) (hq (get_lt (f := Int_c) h_x9) (hq (get_ge (f := Int_c) h_x9) (hq trivial hq0)))))))
        refine Run.cond (by cbv) (hq0) (fun c10 => ?_) (fun c10 => ?_)
        · have h := if_t c10 h
          refine Run.seq ?_
          refine Run.region hL hT [] (by cbv) ?_ ?_
          · exact hq0
          refine Run.ret ?_
          cases h
          refine ⟨_, _, by cbv, ?_, ?_⟩
          · exact LLe.r
          · exact (ALe.v LLe.r ALe.nil)
        · have h := if_f c10 h
          refine Run.skip ?_
          refine Run.region hL hT [] (by cbv) ?_ ?_
          · exact (hq trivial hq0)
          refine ⟨(ar .add .i64 z6 1), h, Weak.of _ [] hA (by cbv) ?_⟩
          repeat (first | exact hq0 | refine hq (by first | exact True.intro | rfl) ?_)
      · have h := if_f c7 h
        refine Run.exit ?_
        refine Run.seq ?_
        refine Run.region hL hT [] (by cbv) ?_ ?_
        · exact hq0
        refine Run.ret ?_
        cases h
        refine ⟨_, _, by cbv, ?_, ?_⟩
        · exact LLe.r
        · exact (ALe.v LLe.r ALe.nil)

theorem impl_QuerySame_ac {a0v_Table : Int} {a0v_Where : List Cond} {a0v_Order : Int} {a0v_Down : Bool} {a0v_First : Int} {a0v_Show : List Int} {a0v_Kids : Bool} {a0v_KidTable : Int} {a0v_KidCol : Int} {a1v_Table : Int} {a1v_Where : List Cond} {a1v_Order : Int} {a1v_Down : Bool} {a1v_First : Int} {a1v_Show : List Int} {a1v_Kids : Bool} {a1v_KidTable : Int} {a1v_KidCol : Int} {r : Bool} (h : impl_QuerySame.f (Query.mk a0v_Table a0v_Where a0v_Order a0v_Down a0v_First a0v_Show a0v_Kids a0v_KidTable a0v_KidCol) (Query.mk a1v_Table a1v_Where a1v_Order a1v_Down a1v_First a1v_Show a1v_Kids a1v_KidTable a1v_KidCol) = some r) : AC Tryd.prog 28 [.ag [.s (.int .i64 a0v_Table), .im false (rowsOf Cond_c a0v_Where), .s (.int .i64 a0v_Order), .s (.bool a0v_Down), .s (.int .i64 a0v_First), .im false (rowsOf Int_c a0v_Show), .s (.bool a0v_Kids), .s (.int .i64 a0v_KidTable), .s (.int .i64 a0v_KidCol)], .ag [.s (.int .i64 a1v_Table), .im false (rowsOf Cond_c a1v_Where), .s (.int .i64 a1v_Order), .s (.bool a1v_Down), .s (.int .i64 a1v_First), .im false (rowsOf Int_c a1v_Show), .s (.bool a1v_Kids), .s (.int .i64 a1v_KidTable), .s (.int .i64 a1v_KidCol)]] [.ag [.jk, .jk, .jk, .jk, .jk, .jk, .jk, .jk, .jk], .ag [.jk, .jk, .jk, .jk, .jk, .jk, .jk, .jk, .jk]] [.v (.s (.bool r))] := by
  unfold impl_QuerySame.f at h
  let eCond_c := rowsOf Cond_c
  let eInt_c := rowsOf Int_c
  show AC Tryd.prog 28 [.ag [.s (.int .i64 a0v_Table), .im false (eCond_c a0v_Where), .s (.int .i64 a0v_Order), .s (.bool a0v_Down), .s (.int .i64 a0v_First), .im false (eInt_c a0v_Show), .s (.bool a0v_Kids), .s (.int .i64 a0v_KidTable), .s (.int .i64 a0v_KidCol)], .ag [.s (.int .i64 a1v_Table), .im false (eCond_c a1v_Where), .s (.int .i64 a1v_Order), .s (.bool a1v_Down), .s (.int .i64 a1v_First), .im false (eInt_c a1v_Show), .s (.bool a1v_Kids), .s (.int .i64 a1v_KidTable), .s (.int .i64 a1v_KidCol)]] _ _
  refine run3 Tryd.func28 (by rfl) (by rfl) (by cbv) ⟨by decide, rfl⟩ ?_
  intro ar cm bo sc sa sx ss sl bs sb ln sr ap up rp fr ge le lt nz mm ma sm fl al ci hL F hP hA hT hM hC
  refine Run.seq ?_
  refine Run.region hL hT [] (by cbv) ?_ ?_
  · exact hq0
  refine Run.seq ?_
  refine Run.region hL hT [] (by cbv) ?_ ?_
  · exact (hq trivial (hq trivial (hq trivial (hq (fun _ => hq0) (hq (fun g2 => (hq g2 (hq trivial hq0))) (hq (fun _ => hq0) (hq (fun g4 => (hq g4 (hq trivial hq0))) (hq (fun g5 => (hq g5 (hq g5 (hq trivial hq0)))) (hq (fun q6 => (hq q6 hq0)) (hq (fun _ => hq0) (hq (fun _ => hq0) (hq (fun g9 => (hq g9 (hq trivial hq0))) (hq (fun _ => hq0) (hq (fun g11 => (hq g11 (hq trivial hq0))) (hq (fun g12 => (hq g12 (hq g12 hq0))) (hq (fun q13 => (hq q13 hq0)) (hq (fun _ => hq0) (hq (fun _ => hq0) (hq (fun g16 => (hq g16 (hq trivial hq0))) (hq (fun _ => hq0) (hq (fun g18 => (hq g18 (hq trivial hq0))) (hq (fun g19 => (hq g19 (hq g19 (hq trivial hq0)))) (hq (fun q20 => (hq q20 hq0)) (hq (fun _ => hq0) hq0))))))))))))))))))))))))
  refine Run.seq ?_
  refine Run.region hL hT [] (by cbv) ?_ ?_
  · exact (hq trivial (hq trivial (hq (fun _ => hq0) (hq (fun g23 => (hq g23 (hq trivial hq0))) (hq (fun _ => hq0) (hq (fun g25 => (hq g25 (hq trivial hq0))) (hq (fun g26 => (hq g26 (hq g26 (hq trivial hq0)))) (hq (fun q27 => (hq q27 hq0)) (hq (fun _ => hq0) (hq (fun _ => hq0) (hq (fun g30 => (hq g30 (hq trivial hq0))) (hq (fun _ => hq0) (hq (fun g32 => (hq g32 (hq trivial hq0))) (hq (fun g33 => (hq g33 (hq g33 (hq trivial hq0)))) (hq (fun q34 => (hq q34 hq0)) (hq (fun _ => hq0) hq0))))))))))))))))
  refine Run.seq ?_
  obtain ⟨r36, h_r36, h⟩ := bnd h
  obtain ⟨r37, h_r37, h⟩ := bnd h
  refine Run.region hL hT [(9, .call [false, false] [.v (.jk), .v (.jk)] [.v (.s (.bool r36))]), (16, .call [false, false] [.v (.jk), .v (.jk)] [.v (.s (.bool r37))])] (by cbv) ?_ ?_
  · exact (hq (fun _ => hq0) (hq (fun q39 => (hq q39 hq0)) (hq (fun _ => hq0) (hq (fun _ => hq0) (hq (fun g42 => (hq g42 (hq trivial hq0))) (hq (fun _ => hq0) (hq (fun g44 => (hq g44 (hq trivial hq0))) (hq (fun g45 => (hq g45 (hq g45 (hq (hC (slices_Equal_impl_Cond_ac (gd_t h_r36 g45))) hq0)))) (hq (fun q46 => (hq q46 hq0)) (hq (fun _ => hq0) (hq (fun _ => hq0) (hq (fun g49 => (hq g49 (hq trivial hq0))) (hq (fun _ => hq0) (hq (fun g51 => (hq g51 (hq trivial hq0))) (hq (fun g52 => (hq g52 (hq g52 (hq (hC (slices_Equal_int_ac (gd_t h_r37 g52))) hq0)))) (hq (fun q53 => (hq q53 hq0)) (hq (fun _ => hq0) hq0)))))))))))))))))
  refine Run.ret ?_
  cases h
  refine ⟨_, _, by cbv, ?_, ?_⟩
  · exact LLe.r
  · exact (ALe.v LLe.r ALe.nil)

theorem spec_l1Pick_ac {a0v_b : List Int} {a0v_i : Int} {a0v_h : Int} {a1 : List ByteArray} {r : l1Cur × ByteArray} (h : spec_l1Pick.f (l1Cur.mk a0v_b a0v_i a0v_h) a1 = some r) : AC Tryd.prog 72 [.v (.bx 129 [.im true (rowsOf u8_c a0v_b), .s (.int .i64 a0v_i), .s (.int .i64 a0v_h)]), .v (.im false (rowsOf Str_c a1))] [.v (.bx 129 [.im true (rowsOf u8_c a0v_b), .s (.int .i64 r.1.i), .s (.int .i64 r.1.h)]), .v (.jk)] [.v (.s (.string r.2))] := by
  unfold spec_l1Pick.f at h
  let eStr_c := rowsOf Str_c
  let eu8_c := rowsOf u8_c
  let lenI_Str := @lenI ByteArray
  show AC Tryd.prog 72 [.v (.bx 129 [.im true (eu8_c a0v_b), .s (.int .i64 a0v_i), .s (.int .i64 a0v_h)]), .v (.im false (eStr_c a1))] _ _
  refine run3 Tryd.func72 (by rfl) (by rfl) (by cbv) ⟨by decide, rfl⟩ ?_
  intro ar cm bo sc sa sx ss sl bs sb ln sr ap up rp fr ge le lt nz mm ma sm fl al ci hL F hP hA hT hM hC
  refine Run.seq ?_
  refine Run.region hL hT [] (by cbv) ?_ ?_
  · exact hq0
  refine Run.seq ?_
  obtain ⟨⟨⟨r1v_1v_b, r1v_1v_i, r1v_1v_h⟩, r1v_2⟩, h_r1, h⟩ := bnd h
  obtain ⟨x2, h_x2, h⟩ := bnd h
  refine Run.region hL hT [(4, .call [true, false] [.v (.bx 129 [.im true (eu8_c a0v_b), .s (.int .i64 r1v_1v_i), .s (.int .i64 r1v_1v_h)]), .v (.jk)] [.v (.s (.int .i64 r1v_2))]), (5, .el [.s (.string x2)])] (by cbv) ?_ ?_
  · exact (hq (by rw [show ln (eStr_c a1) = lenI_Str a1 from ln_eq Str_c _]; exact (hC (spec_l1Below_ac h_r1))) (hq (get_le h_x2) (hq (get_lt (f := Str_c) h_x2) (hq (get_ge (f := Str_c) h_x2) hq0))))
  rw [show ln (eStr_c a1) = lenI_Str a1 from ln_eq Str_c _]
  refine Run.ret ?_
  cases h
  refine ⟨_, _, by cbv, ?_, ?_⟩
  · exact LLe.r
  · exact (ALe.v LLe.r ALe.nil)

theorem spec_DrawQueryRead_ac {a0 : List Int} {r : Schema × ByteArray} (h : spec_DrawQueryRead.f a0 = some r) : AC Tryd.prog 29 [.v (.im true (rowsOf u8_c a0))] [.v (.jk)] [.ag [.ow 3 (rowsOf Int_c r.1.Cols)], .v (.s (.string r.2))] := by
  unfold spec_DrawQueryRead.f at h
  let eCond_c := rowsOf Cond_c
  let eInt_c := rowsOf Int_c
  let eStr_c := rowsOf Str_c
  let eu8_c := rowsOf u8_c
  show AC Tryd.prog 29 [.v (.im true (eu8_c a0))] _ _
  refine run3 Tryd.func29 (by rfl) (by rfl) (by cbv) ⟨by decide, rfl⟩ ?_
  intro ar cm bo sc sa sx ss sl bs sb ln sr ap up rp fr ge le lt nz mm ma sm fl al ci hL F hP hA hT hM hC
  refine Run.seq ?_
  refine Run.region hL hT [] (by cbv) ?_ ?_
  · exact hq0
  refine Run.seq ?_
  obtain ⟨⟨r1v_b, r1v_i, r1v_h⟩, h_r1, h⟩ := bnd h
  refine Run.region hL hT [(1, .call [true] [.v (.jk)] [.v (.bx 129 [.im true (eu8_c r1v_b), .s (.int .i64 r1v_i), .s (.int .i64 r1v_h)])])] (by cbv) ?_ ?_
  · exact (hq (hC (spec_l1New_ac h_r1)) hq0)
  refine Run.seq ?_
  obtain ⟨⟨⟨r2v_1v_b, r2v_1v_i, r2v_1v_h⟩, ⟨r2v_2v_Cols⟩⟩, h_r2, h⟩ := bnd h
  refine Run.region hL hT [(1, .call [true] [.v (.bx 129 [.im true (eu8_c r1v_b), .s (.int .i64 r2v_1v_i), .s (.int .i64 r2v_1v_h)])] [.ag [.ow 3 (eInt_c r2v_2v_Cols)]])] (by cbv) ?_ ?_
  · exact (hq (hC (spec_l6DrawSchema_ac h_r2)) (hq trivial hq0))
  refine Run.seq ?_
  obtain ⟨⟨⟨r3v_1v_b, r3v_1v_i, r3v_1v_h⟩, ⟨r3v_2v_Table, r3v_2v_Where, r3v_2v_Order, r3v_2v_Down, r3v_2v_First, r3v_2v_Show, r3v_2v_Kids, r3v_2v_KidTable, r3v_2v_KidCol⟩⟩, h_r3, h⟩ := bnd h
  obtain ⟨r4, h_r4, h⟩ := bnd h
  refine Run.draw hL hT hM [(3, .call [true, false] [.v (.bx 129 [.im true (eu8_c r1v_b), .s (.int .i64 r3v_1v_i), .s (.int .i64 r3v_1v_h)]), .ag [.jk]] [.ag [.s (.int .i64 r3v_2v_Table), .ow 65 (eCond_c r3v_2v_Where), .s (.int .i64 r3v_2v_Order), .s (.bool r3v_2v_Down), .s (.int .i64 r3v_2v_First), .ow 3 (eInt_c r3v_2v_Show), .s (.bool r3v_2v_Kids), .s (.int .i64 r3v_2v_KidTable), .s (.int .i64 r3v_2v_KidCol)]]), (4, .call [false, false] [.ag [.jk], .ag [.jk, .jk, .jk, .jk, .jk, .jk, .jk, .jk, .jk]] [.v (.s (.string r4))])] (by cbv) (collect_cons (by cbv) (by cbv) (collect_cons (by cbv) (by cbv) (collect_cons (by cbv) (by cbv) (collect_cons (by cbv) (by cbv) (collect_cons (by cbv) (by cbv) (collect_cons (by cbv) (by cbv) collect_nil)))))) (by cbv) (by cbv) (by cbv) ?_ ?_
  · exact (hq trivial (hq trivial (hq (hC (AC.args (spec_l9DrawRight_ac h_r3) (ALe.v LLe.r (ALe.ag rfl (LLe.cons (LLe.im (RLe.eq (fr_row Int_c_z _))) LLe.nil) ALe.nil)))) (hq (hC (AC.args (spec_QueryText_ac h_r4) (ALe.ag rfl (LLe.cons (LLe.im (RLe.eq (fr_row Int_c_z _))) LLe.nil) (ALe.ag rfl (LLe.c (LLe.cons (LLe.im (RLe.eq (fr_row Cond_c_z _))) (LLe.c (LLe.c (LLe.c (LLe.cons (LLe.im (RLe.eq (fr_row Int_c_z _))) (LLe.c (LLe.c (LLe.c LLe.nil))))))))) ALe.nil)))) hq0))))
  refine Run.seq ?_
  obtain ⟨⟨⟨r5v_1v_b, r5v_1v_i, r5v_1v_h⟩, r5v_2⟩, h_r5, h⟩ := bnd h
  refine Run.region hL hT [(4, .call [true, false] [.v (.bx 129 [.im true (eu8_c r1v_b), .s (.int .i64 r5v_1v_i), .s (.int .i64 r5v_1v_h)]), .v (.jk)] [.v (.s (.int .i64 r5v_2))])] (by cbv) ?_ ?_
  · exact (hq trivial (hq (hC (spec_l1Below_ac h_r5)) hq0))
  refine Run.seq ?_
  refine Run.seq ?_
  obtain ⟨⟨⟨r6v_1v_b, r6v_1v_i, r6v_1v_h⟩, r6v_2⟩, h_r6, h⟩ := bnd h
  refine Run.region hL hT [(1, .call [true, false] [.v (.bx 129 [.im true (eu8_c r1v_b), .s (.int .i64 r6v_1v_i), .s (.int .i64 r6v_1v_h)]), .v (.jk)] [.v (.s (.int .i64 r6v_2))])] (by cbv) ?_ ?_
  · exact (hq (hC (spec_l1Below_ac h_r6)) hq0)
  refine Run.block ?_
  refine Run.seq ?_
  refine Run.region hL hT [] (by cbv) ?_ ?_
  · exact (hq trivial hq0)
  refine Run.cond (by cbv) (hq0) (fun c7 => ?_) (fun c7 => ?_)
  · have h := if_t c7 h
    refine Run.seq ?_
    obtain ⟨u8, h_u8, h⟩ := bnd h
    refine Run.draw hL hT hM [] (by cbv) (collect_cons (by cbv) (by cbv) (collect_cons (by cbv) (by cbv) (collect_cons (by cbv) (by cbv) (collect_cons (by cbv) (by cbv) (collect_cons (by cbv) (by cbv) (collect_cons (by cbv) (by cbv) collect_nil)))))) (by cbv) (by cbv) (by cbv) ?_ ?_
    · exact (hq trivial (hq (cutS_0 h_u8) (hq (cutS_1 h_u8) (hq (cutS_2 h_u8) (hq trivial hq0)))))
    refine Run.ret ?_
    cases h
    refine ⟨_, _, by cbv, ?_, ?_⟩
    · exact LLe.r
    · exact (ALe.ag rfl LLe.r (ALe.v LLe.r ALe.nil))
  · have h := if_f c7 h
    refine Run.seq ?_
    refine Run.region hL hT [] (by cbv) ?_ ?_
    · exact (hq trivial hq0)
    refine Run.cond (by cbv) (hq0) (fun c9 => ?_) (fun c9 => ?_)
    · have h := if_t c9 h
      refine Run.seq ?_
      obtain ⟨u10, h_u10, h⟩ := bnd h
      obtain ⟨l11, h_l11, h⟩ := bnd h
      obtain ⟨⟨⟨r12v_1v_b, r12v_1v_i, r12v_1v_h⟩, r12v_2⟩, h_r12, h⟩ := bnd h
      obtain ⟨s13, h_s13, h⟩ := bnd h
      obtain ⟨u14, h_u14, h⟩ := bnd h
      obtain ⟨s15, h_s15, h⟩ := bnd h
      refine Run.draw hL hT hM [(6, .call [true, false] [.v (.bx 129 [.im true (eu8_c r1v_b), .s (.int .i64 r12v_1v_i), .s (.int .i64 r12v_1v_h)]), .v (.jk)] [.v (.s (.string r12v_2))]), (7, .hd [] (.t (.s (.string s13))) []), (11, .hd [] (.t (.s (.string s15))) [])] (by cbv) (collect_cons (by cbv) (by cbv) (collect_cons (by cbv) (by cbv) (collect_cons (by cbv) (by cbv) (collect_cons (by cbv) (by cbv) (collect_cons (by cbv) (by cbv) (collect_cons (by cbv) (by cbv) (collect_cons (by cbv) (by cbv) (collect_cons (by cbv) (by cbv) (collect_cons (by cbv) (by cbv) (collect_cons (by cbv) (by cbv) (collect_cons (by cbv) (by cbv) (collect_cons (by cbv) (by cbv) (collect_cons (by cbv) (by cbv) (collect_cons (by cbv) (by cbv) collect_nil)))))))))))))) (by cbv) (by cbv) (by cbv) ?_ ?_
      · exact (hq trivial (hq (cutS_0 h_u10) (hq (cutS_1 h_u10) (hq (cutS_2 h_u10) (hq (hC (AC.args (spec_l1Pick_ac h_r12) (ALe.v LLe.r (ALe.v (fr_lit rfl (some_le (f := Str_c) h_l11 (RLe.cons rfl LLe.r (RLe.cons rfl LLe.r (RLe.cons rfl LLe.r (RLe.cons rfl LLe.r (RLe.cons rfl LLe.r (RLe.cons rfl LLe.r (RLe.cons rfl LLe.r RLe.nil))))))))) ALe.nil)))) (hq (hand_add h_s13) (hq (cutS_0 h_u14) (hq (cutS_1 h_u14) (hq (cutS_2 h_u14) (hq (hand_add h_s15) (hq trivial hq0)))))))))))
      refine Run.row (rows := [[.s (.string (ByteArray.mk #[32]))], [.s (.string (ByteArray.mk #[48]))], [.s (.string (ByteArray.mk #[45]))], [.s (.string (ByteArray.mk #[120]))], [.s (.string (ByteArray.mk #[32, 100, 111, 119, 110]))], [.s (.string (ByteArray.mk #[32, 102, 105, 114, 115, 116, 32, 50]))], [.s (.string (ByteArray.mk #[32, 119, 104, 101, 114, 101, 32, 48, 32, 61, 32, 49]))]]) 32773 (eStr_c l11) (by cbv) (some_le (f := Str_c) h_l11 (RLe.cons rfl LLe.r (RLe.cons rfl LLe.r (RLe.cons rfl LLe.r (RLe.cons rfl LLe.r (RLe.cons rfl LLe.r (RLe.cons rfl LLe.r (RLe.cons rfl LLe.r RLe.nil)))))))) ?_
      refine Run.ret ?_
      cases h
      refine ⟨_, _, by cbv, ?_, ?_⟩
      · exact LLe.r
      · exact (ALe.ag rfl LLe.r (ALe.v LLe.r ALe.nil))
    · have h := if_f c9 h
      refine Run.skip ?_
      refine Run.seq ?_
      refine Run.region hL hT [] (by cbv) ?_ ?_
      · exact (hq trivial (hq trivial hq0))
      refine Run.ret ?_
      cases h
      refine ⟨_, _, by cbv, ?_, ?_⟩
      · exact LLe.r
      · exact (ALe.ag rfl LLe.r (ALe.v LLe.r ALe.nil))

theorem laws_FnQuestion_ac {a0 : List Int} {r : Bool} (h : laws_FnQuestion.f a0 = some r) : AC Tryd.prog 6 [.v (.im true (rowsOf u8_c a0))] [.v (.jk)] [.v (.s (.bool r))] := by
  unfold laws_FnQuestion.f at h
  let eCond_c := rowsOf Cond_c
  let eInt_c := rowsOf Int_c
  let eu8_c := rowsOf u8_c
  show AC Tryd.prog 6 [.v (.im true (eu8_c a0))] _ _
  refine run3 Tryd.func6 (by rfl) (by rfl) (by cbv) ⟨by decide, rfl⟩ ?_
  intro ar cm bo sc sa sx ss sl bs sb ln sr ap up rp fr ge le lt nz mm ma sm fl al ci hL F hP hA hT hM hC
  refine Run.seq ?_
  refine Run.region hL hT [] (by cbv) ?_ ?_
  · exact hq0
  refine Run.seq ?_
  refine Run.seq ?_
  obtain ⟨r1, h_r1, h⟩ := bnd h
  refine Run.region hL hT [(1, .call [false] [.v (.jk)] [.v (.s (.bool r1))])] (by cbv) ?_ ?_
  · exact (hq (hC (laws_big_ac h_r1)) hq0)
  refine Run.cond (by cbv) (hq0) (fun c2 => ?_) (fun c2 => ?_)
  · have h := if_t c2 h
    refine Run.seq ?_
    refine Run.region hL hT [] (by cbv) ?_ ?_
    · exact hq0
    refine Run.ret ?_
    cases h
    refine ⟨_, _, by cbv, ?_, ?_⟩
    · exact LLe.r
    · exact (ALe.v LLe.r ALe.nil)
  · have h := if_f c2 h
    refine Run.skip ?_
    refine Run.seq ?_
    obtain ⟨⟨⟨r3v_1v_Cols⟩, ⟨r3v_2v_Table, r3v_2v_Where, r3v_2v_Order, r3v_2v_Down, r3v_2v_First, r3v_2v_Show, r3v_2v_Kids, r3v_2v_KidTable, r3v_2v_KidCol⟩⟩, h_r3, h⟩ := bnd h
    refine Run.region hL hT [(1, .call [true] [.v (.jk)] [.ag [.ow 3 (eInt_c r3v_1v_Cols)], .ag [.s (.int .i64 r3v_2v_Table), .ow 65 (eCond_c r3v_2v_Where), .s (.int .i64 r3v_2v_Order), .s (.bool r3v_2v_Down), .s (.int .i64 r3v_2v_First), .ow 3 (eInt_c r3v_2v_Show), .s (.bool r3v_2v_Kids), .s (.int .i64 r3v_2v_KidTable), .s (.int .i64 r3v_2v_KidCol)]])] (by cbv) ?_ ?_
    · exact (hq (hC (spec_DrawQueryText_ac h_r3)) (hq trivial (hq trivial hq0)))
    refine Run.seq ?_
    obtain ⟨r4, h_r4, h⟩ := bnd h
    refine Run.region hL hT [(2, .call [false, false] [.ag [.jk], .ag [.jk, .jk, .jk, .jk, .jk, .jk, .jk, .jk, .jk]] [.v (.s (.string r4))])] (by cbv) ?_ ?_
    · exact (hq trivial (hq trivial (hq (hC (AC.args (impl_QueryText_ac h_r4) (ALe.ag rfl (LLe.cons (LLe.im (RLe.eq (fr_row Int_c_z _))) LLe.nil) (ALe.ag rfl (LLe.c (LLe.cons (LLe.im (RLe.eq (fr_row Cond_c_z _))) (LLe.c (LLe.c (LLe.c (LLe.cons (LLe.im (RLe.eq (fr_row Int_c_z _))) (LLe.c (LLe.c (LLe.c LLe.nil))))))))) ALe.nil)))) hq0)))
    refine Run.seq ?_
    refine Run.seq ?_
    obtain ⟨r5, h_r5, h⟩ := bnd h
    obtain ⟨r6, h_r6, h⟩ := bnd h
    refine Run.region hL hT [(3, .call [false, false] [.ag [.jk], .ag [.jk, .jk, .jk, .jk, .jk, .jk, .jk, .jk, .jk]] [.v (.s (.string r5))]), (10, .call [false, false] [.ag [.jk], .ag [.jk, .jk, .jk, .jk, .jk, .jk, .jk, .jk, .jk]] [.v (.s (.bool r6))])] (by cbv) ?_ ?_
    · exact (hq trivial (hq trivial (hq (hC (AC.args (spec_QueryText_ac h_r5) (ALe.ag rfl (LLe.cons (LLe.im (RLe.eq (fr_row Int_c_z _))) LLe.nil) (ALe.ag rfl (LLe.c (LLe.cons (LLe.im (RLe.eq (fr_row Cond_c_z _))) (LLe.c (LLe.c (LLe.c (LLe.cons (LLe.im (RLe.eq (fr_row Int_c_z _))) (LLe.c (LLe.c (LLe.c LLe.nil))))))))) ALe.nil)))) (hq (fun _ => hq0) (hq (fun g8 => (hq g8 hq0)) (hq (fun g9 => (hq trivial hq0)) (hq (fun g10 => (hq trivial hq0)) (hq (fun g11 => (hq g11 (hq g11 (hq (hC (AC.args (impl_QueryOk_ac (gd_t h_r6 g11)) (ALe.ag rfl (LLe.cons (LLe.im (RLe.eq (fr_row Int_c_z _))) LLe.nil) (ALe.ag rfl (LLe.c (LLe.cons (LLe.im (RLe.eq (fr_row Cond_c_z _))) (LLe.c (LLe.c (LLe.c (LLe.cons (LLe.im (RLe.eq (fr_row Int_c_z _))) (LLe.c (LLe.c (LLe.c LLe.nil))))))))) ALe.nil)))) hq0)))) (hq (fun g12 => (hq g12 (hq g12 hq0))) (hq (fun _ => hq0) (hq (fun q14 => (hq (bo_m q14) hq0)) hq0)))))))))))
    refine Run.cond (by cbv) (hq0) (fun c15 => ?_) (fun c15 => ?_)
    · have h := if_t c15 h
      refine Run.seq ?_
      refine Run.region hL hT [] (by cbv) ?_ ?_
      · exact hq0
      refine Run.ret ?_
      cases h
      refine ⟨_, _, by cbv, ?_, ?_⟩
      · exact LLe.r
      · exact (ALe.v LLe.r ALe.nil)
    · have h := if_f c15 h
      refine Run.skip ?_
      obtain ⟨K17, h_K17, h⟩ := joinE h
      refine Run.join1 K17 (r := r) (fun (y16 : Unit) => ⟨84, 100000, [(0, .t (.im true (eu8_c a0)))], []⟩) ?_ ?_
      · skip
        refine Run.seq ?_
        refine Run.region hL hT [] (by cbv) ?_ ?_
        · exact hq0
        refine Run.cond (by cbv) (hq0) (fun c18 => ?_) (fun c18 => ?_)
        · have h := if_t c18 h
          refine Run.seq ?_
          obtain ⟨⟨⟨r19v_1v_Table, r19v_1v_Where, r19v_1v_Order, r19v_1v_Down, r19v_1v_First, r19v_1v_Show, r19v_1v_Kids, r19v_1v_KidTable, r19v_1v_KidCol⟩, r19v_2⟩, h_r19, h⟩ := bnd h
          refine Run.region hL hT [(2, .call [false, false] [.ag [.jk], .v (.jk)] [.ag [.s (.int .i64 r19v_1v_Table), .ow 65 (eCond_c r19v_1v_Where), .s (.int .i64 r19v_1v_Order), .s (.bool r19v_1v_Down), .s (.int .i64 r19v_1v_First), .ow 3 (eInt_c r19v_1v_Show), .s (.bool r19v_1v_Kids), .s (.int .i64 r19v_1v_KidTable), .s (.int .i64 r19v_1v_KidCol)], .v (.s (.bool r19v_2))])] (by cbv) ?_ ?_
          · exact (hq trivial (hq (hC (AC.args (impl_QueryRead_ac h_r19) (ALe.ag rfl (LLe.cons (LLe.im (RLe.eq (fr_row Int_c_z _))) LLe.nil) (ALe.v LLe.r ALe.nil)))) (hq trivial hq0)))
          refine Run.seq ?_
          obtain ⟨r20, h_r20, h⟩ := bnd h
          refine Run.region hL hT [(5, .call [false, false] [.ag [.jk, .jk, .jk, .jk, .jk, .jk, .jk, .jk, .jk], .ag [.jk, .jk, .jk, .jk, .jk, .jk, .jk, .jk, .jk]] [.v (.s (.bool r20))])] (by cbv) ?_ ?_
          · exact (hq (fun g21 => (hq trivial hq0)) (hq (fun g22 => (hq trivial hq0)) (hq (fun g23 => (hq g23 (hq g23 (hq (hC (AC.args (impl_QuerySame_ac (gd_t h_r20 g23)) (ALe.ag rfl (LLe.c (LLe.cons (LLe.im (RLe.eq (fr_row Cond_c_z _))) (LLe.c (LLe.c (LLe.c (LLe.cons (LLe.im (RLe.eq (fr_row Int_c_z _))) (LLe.c (LLe.c (LLe.c LLe.nil))))))))) (ALe.ag rfl (LLe.c (LLe.cons (LLe.im (RLe.eq (fr_row Cond_c_z _))) (LLe.c (LLe.c (LLe.c (LLe.cons (LLe.im (RLe.eq (fr_row Int_c_z _))) (LLe.c (LLe.c (LLe.c LLe.nil))))))))) ALe.nil)))) hq0)))) (hq (fun g24 => (hq g24 hq0)) (hq (fun _ => hq0) (hq (fun q26 => (hq (bo_m q26) hq0)) hq0))))))
          refine Run.cond (by cbv) (hq0) (fun c27 => ?_) (fun c27 => ?_)
          · have h := if_t c27 h
            refine Run.seq ?_
            refine Run.region hL hT [] (by cbv) ?_ ?_
            · exact hq0
            refine Run.ret ?_
            cases h
            refine ⟨_, _, by cbv, ?_, ?_⟩
            · exact LLe.r
            · exact (ALe.v LLe.r ALe.nil)
          · have h := if_f c27 h
            refine Run.skip ?_
            refine ⟨(), h, Weak.of _ [] hA (by cbv) ?_⟩
            repeat (first | exact hq0 | refine hq (by first | exact True.intro | rfl) ?_)
        · have h := if_f c18 h
          refine Run.skip ?_
          refine ⟨(), h, Weak.of _ [] hA (by cbv) ?_⟩
          repeat (first | exact hq0 | refine hq (by first | exact True.intro | rfl) ?_)
      · intro y16 h
        rw [h_K17] at h
        refine Run.seq ?_
        obtain ⟨⟨⟨r28v_1v_Cols⟩, r28v_2⟩, h_r28, h⟩ := bnd h
        refine Run.region hL hT [(1, .call [true] [.v (.jk)] [.ag [.ow 3 (eInt_c r28v_1v_Cols)], .v (.s (.string r28v_2))])] (by cbv) ?_ ?_
        · exact (hq (hC (spec_DrawQueryRead_ac h_r28)) (hq trivial hq0))
        refine Run.seq ?_
        obtain ⟨⟨⟨r29v_1v_Table, r29v_1v_Where, r29v_1v_Order, r29v_1v_Down, r29v_1v_First, r29v_1v_Show, r29v_1v_Kids, r29v_1v_KidTable, r29v_1v_KidCol⟩, r29v_2⟩, h_r29, h⟩ := bnd h
        refine Run.region hL hT [(2, .call [false, false] [.ag [.jk], .v (.jk)] [.ag [.s (.int .i64 r29v_1v_Table), .ow 65 (eCond_c r29v_1v_Where), .s (.int .i64 r29v_1v_Order), .s (.bool r29v_1v_Down), .s (.int .i64 r29v_1v_First), .ow 3 (eInt_c r29v_1v_Show), .s (.bool r29v_1v_Kids), .s (.int .i64 r29v_1v_KidTable), .s (.int .i64 r29v_1v_KidCol)], .v (.s (.bool r29v_2))])] (by cbv) ?_ ?_
        · exact (hq trivial (hq (hC (AC.args (impl_QueryRead_ac h_r29) (ALe.ag rfl (LLe.cons (LLe.im (RLe.eq (fr_row Int_c_z _))) LLe.nil) (ALe.v LLe.r ALe.nil)))) (hq trivial hq0)))
        refine Run.seq ?_
        obtain ⟨⟨⟨r30v_1v_Table, r30v_1v_Where, r30v_1v_Order, r30v_1v_Down, r30v_1v_First, r30v_1v_Show, r30v_1v_Kids, r30v_1v_KidTable, r30v_1v_KidCol⟩, r30v_2⟩, h_r30, h⟩ := bnd h
        refine Run.region hL hT [(2, .call [false, false] [.ag [.jk], .v (.jk)] [.ag [.s (.int .i64 r30v_1v_Table), .ow 65 (eCond_c r30v_1v_Where), .s (.int .i64 r30v_1v_Order), .s (.bool r30v_1v_Down), .s (.int .i64 r30v_1v_First), .ow 3 (eInt_c r30v_1v_Show), .s (.bool r30v_1v_Kids), .s (.int .i64 r30v_1v_KidTable), .s (.int .i64 r30v_1v_KidCol)], .v (.s (.bool r30v_2))])] (by cbv) ?_ ?_
        · exact (hq trivial (hq (hC (AC.args (spec_QueryRead_ac h_r30) (ALe.ag rfl (LLe.cons (LLe.im (RLe.eq (fr_row Int_c_z _))) LLe.nil) (ALe.v LLe.r ALe.nil)))) (hq trivial hq0)))
        refine Run.seq ?_
        obtain ⟨r31, h_r31, h⟩ := bnd h
        refine Run.region hL hT [(9, .call [false, false] [.ag [.jk], .ag [.jk, .jk, .jk, .jk, .jk, .jk, .jk, .jk, .jk]] [.v (.s (.string r31))])] (by cbv) ?_ ?_
        · exact (hq (fun _ => hq0) (hq (fun g33 => (hq g33 hq0)) (hq (fun g34 => (hq g34 hq0)) (hq (fun g35 => (hq trivial hq0)) (hq (fun g36 => (hq trivial hq0)) (hq (fun g37 => (hq g37 (hq g37 (hq (hC (AC.args (impl_QueryText_ac (gd_t h_r31 g37)) (ALe.ag rfl (LLe.cons (LLe.im (RLe.eq (fr_row Int_c_z _))) LLe.nil) (ALe.ag rfl (LLe.c (LLe.cons (LLe.im (RLe.eq (fr_row Cond_c_z _))) (LLe.c (LLe.c (LLe.c (LLe.cons (LLe.im (RLe.eq (fr_row Int_c_z _))) (LLe.c (LLe.c (LLe.c LLe.nil))))))))) ALe.nil)))) hq0)))) (hq (fun _ => hq0) (hq (fun g39 => (hq g39 (hq g39 hq0))) (hq (fun g40 => (hq g40 (hq (fun _ => hq0) (hq (fun q42 => (hq (bo_a g40 (bo_m q42)) hq0)) hq0)))) (hq (fun q43 => (hq q43 hq0)) (hq (fun _ => hq0) hq0)))))))))))
        refine Run.ret ?_
        cases h
        refine ⟨_, _, by cbv, ?_, ?_⟩
        · exact LLe.r
        · exact (ALe.v LLe.r ALe.nil)


end Go.Proofs.YtcpekllcbimpmaaDoor.L
