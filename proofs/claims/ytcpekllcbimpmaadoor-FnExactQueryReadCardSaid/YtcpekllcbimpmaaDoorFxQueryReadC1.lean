/- The contracts of the program's functions. -/
import Derived.Test.YtcpekllcbimpmaaDoorProg
import Derived.Test.YtcpekllcbimpmaaDoorFxQueryReadC0
import Derived.KernelRfl
namespace Go.Proofs.YtcpekllcbimpmaaDoor.L
open Go Go.Proofs
set_option linter.unusedVariables false
set_option linter.unusedSimpArgs false
set_option maxRecDepth 8000
theorem laws_FnExactQueryRead_ac {a0v_Cols : List Int} {a1 : ByteArray} {r : Bool} (h : laws_FnExactQueryRead.f (Schema.mk a0v_Cols) a1 = some r) : AC Tryd.prog 4 [.ag [.im false (rowsOf Int_c a0v_Cols)], .v (.s (.string a1))] [.ag [.jk], .v (.jk)] [.v (.s (.bool r))] := by
  unfold laws_FnExactQueryRead.f at h
  let eCond_c := rowsOf Cond_c
  let eInt_c := rowsOf Int_c
  show AC Tryd.prog 4 [.ag [.im false (eInt_c a0v_Cols)], .v (.s (.string a1))] _ _
  refine run3 Tryd.func4 (by rfl) (by rfl) (by cbv) ⟨by decide, rfl⟩ ?_
  intro ar cm bo sc sa sx ss sl bs sb ln sr ap up rp fr ge le lt nz mm ma sm fl al ci hL F hP hA hT hM hC
  refine Run.seq ?_
  refine Run.region hL hT [] (by cbv) ?_ ?_
  · exact hq0
  refine Run.seq ?_
  refine Run.seq ?_
  refine Run.region hL hT [] (by cbv) ?_ ?_
  · exact (hq trivial hq0)
  refine Run.cond (by cbv) (hq0) (fun c1 => ?_) (fun c1 => ?_)
  · have h := if_t c1 h
    refine Run.seq ?_
    refine Run.region hL hT [] (by cbv) ?_ ?_
    · exact hq0
    refine Run.ret ?_
    cases h
    refine ⟨_, _, by cbv, ?_, ?_⟩
    · exact LLe.r
    · exact (ALe.v LLe.r ALe.nil)
  · have h := if_f c1 h
    refine Run.skip ?_
    refine Run.seq ?_
    refine Run.region hL hT [] (by cbv) ?_ ?_
    · exact hq0
    refine Run.seq ?_
    obtain ⟨r2, h_r2, h⟩ := bnd h
    refine Run.region hL hT [(2, .call [false, false] [.ag [.jk], .v (.jk)] [.v (.s (.int .i64 r2))])] (by cbv) ?_ ?_
    · exact (hq trivial (hq (hC (laws_szSchema_ac h_r2)) hq0))
    refine Run.seq ?_
    refine Run.seq ?_
    refine Run.region hL hT [] (by cbv) ?_ ?_
    · exact (hq trivial hq0)
    refine Run.cond (by cbv) (hq0) (fun c3 => ?_) (fun c3 => ?_)
    · have h := if_t c3 h
      refine Run.seq ?_
      refine Run.region hL hT [] (by cbv) ?_ ?_
      · exact hq0
      refine Run.ret ?_
      cases h
      refine ⟨_, _, by cbv, ?_, ?_⟩
      · exact LLe.r
      · exact (ALe.v LLe.r ALe.nil)
    · have h := if_f c3 h
      refine Run.skip ?_
      refine Run.seq ?_
      obtain ⟨⟨r4v_Cols⟩, h_r4, h⟩ := bnd h
      obtain ⟨⟨⟨r5v_1v_Table, r5v_1v_Where, r5v_1v_Order, r5v_1v_Down, r5v_1v_First, r5v_1v_Show, r5v_1v_Kids, r5v_1v_KidTable, r5v_1v_KidCol⟩, r5v_2⟩, h_r5, h⟩ := bnd h
      refine Run.region hL hT [(1, .call [false] [.ag [.jk]] [.ag [.ow 3 (eInt_c r4v_Cols)]]), (3, .call [false, false] [.ag [.jk], .v (.jk)] [.ag [.s (.int .i64 r5v_1v_Table), .ow 65 (eCond_c r5v_1v_Where), .s (.int .i64 r5v_1v_Order), .s (.bool r5v_1v_Down), .s (.int .i64 r5v_1v_First), .ow 3 (eInt_c r5v_1v_Show), .s (.bool r5v_1v_Kids), .s (.int .i64 r5v_1v_KidTable), .s (.int .i64 r5v_1v_KidCol)], .v (.s (.bool r5v_2))])] (by cbv) ?_ ?_
      · exact (hq trivial (hq (hC (laws_toSchema_ac h_r4)) (hq (hC (AC.args (spec_QueryRead_ac h_r5) (ALe.ag rfl (LLe.cons (LLe.im (RLe.eq (fr_row Int_c_z _))) LLe.nil) (ALe.v LLe.r ALe.nil)))) (hq trivial hq0))))
      refine Run.seq ?_
      obtain ⟨⟨r6v_Cols⟩, h_r6, h⟩ := bnd h
      refine Run.region hL hT [(1, .call [false] [.ag [.jk]] [.ag [.ow 3 (eInt_c r6v_Cols)]])] (by cbv) ?_ ?_
      · exact (hq trivial (hq (hC (laws_toSchema_ac h_r6)) (hq trivial hq0)))
      refine Run.seq ?_
      obtain ⟨⟨⟨r7v_1v_Table, r7v_1v_Where, r7v_1v_Order, r7v_1v_Down, r7v_1v_First, r7v_1v_Show, r7v_1v_Kids, r7v_1v_KidTable, r7v_1v_KidCol⟩, r7v_2⟩, h_r7, h⟩ := bnd h
      refine Run.region hL hT [(2, .call [false, false] [.ag [.jk], .v (.jk)] [.ag [.s (.int .i64 r7v_1v_Table), .ow 65 (eCond_c r7v_1v_Where), .s (.int .i64 r7v_1v_Order), .s (.bool r7v_1v_Down), .s (.int .i64 r7v_1v_First), .ow 3 (eInt_c r7v_1v_Show), .s (.bool r7v_1v_Kids), .s (.int .i64 r7v_1v_KidTable), .s (.int .i64 r7v_1v_KidCol)], .v (.s (.bool r7v_2))])] (by cbv) ?_ ?_
      · exact (hq trivial (hq (hC (AC.args (impl_QueryRead_ac h_r7) (ALe.ag rfl (LLe.cons (LLe.im (RLe.eq (fr_row Int_c_z _))) LLe.nil) (ALe.v LLe.r ALe.nil)))) (hq trivial hq0)))
      refine Run.seq ?_
      refine Run.seq ?_
      obtain ⟨r8, h_r8, h⟩ := bnd h
      refine Run.region hL hT [(2, .call [false, false] [.ag [.jk, .jk, .jk, .jk, .jk, .jk, .jk, .jk, .jk], .ag [.jk, .jk, .jk, .jk, .jk, .jk, .jk, .jk, .jk]] [.v (.s (.bool r8))])] (by cbv) ?_ ?_
      · exact (hq trivial (hq trivial (hq (hC (AC.args (laws_eqQuery_ac h_r8) (ALe.ag rfl (LLe.c (LLe.cons (LLe.im (RLe.eq (fr_row Cond_c_z _))) (LLe.c (LLe.c (LLe.c (LLe.cons (LLe.im (RLe.eq (fr_row Int_c_z _))) (LLe.c (LLe.c (LLe.c LLe.nil))))))))) (ALe.ag rfl (LLe.c (LLe.cons (LLe.im (RLe.eq (fr_row Cond_c_z _))) (LLe.c (LLe.c (LLe.c (LLe.cons (LLe.im (RLe.eq (fr_row Int_c_z _))) (LLe.c (LLe.c (LLe.c LLe.nil))))))))) ALe.nil)))) (hq (fun _ => hq0) (hq (fun _ => hq0) (hq (fun g11 => (hq g11 (hq g11 hq0))) (hq (fun _ => hq0) (hq (fun q13 => (hq (bo_m q13) hq0)) hq0))))))))
      refine Run.cond (by cbv) (hq0) (fun c14 => ?_) (fun c14 => ?_)
      · have h := if_t c14 h
        refine Run.seq ?_
        refine Run.region hL hT [] (by cbv) ?_ ?_
        · exact hq0
        refine Run.ret ?_
        cases h
        refine ⟨_, _, by cbv, ?_, ?_⟩
        · exact LLe.r
        · exact (ALe.v LLe.r ALe.nil)
      · have h := if_f c14 h
        refine Run.skip ?_
        refine Run.seq ?_
        refine Run.seq ?_
        obtain ⟨⟨r15v_Cols⟩, h_r15, h⟩ := bnd h
        obtain ⟨r16, h_r16, h⟩ := bnd h
        refine Run.draw hL hT hM [(2, .call [false] [.ag [.jk]] [.ag [.ow 3 (eInt_c r15v_Cols)]]), (3, .call [false, false] [.ag [.jk], .ag [.jk]] [.v (.s (.bool r16))])] (by cbv) (by cbv) (by cbv) (by cbv) (by cbv) ?_ ?_
        · exact (hq trivial (hq trivial (hq (hC (laws_toSchema_ac h_r15)) (hq (hC (AC.args (laws_eqSchema_ac h_r16) (ALe.ag rfl (LLe.cons (LLe.im (RLe.eq (fr_row Int_c_z _))) LLe.nil) (ALe.ag rfl (LLe.cons (LLe.im (RLe.eq (fr_row Int_c_z _))) LLe.nil) ALe.nil)))) hq0))))
        refine Run.cond (by cbv) (hq0) (fun c17 => ?_) (fun c17 => ?_)
        · have h := if_t c17 h
          refine Run.seq ?_
          refine Run.region hL hT [] (by cbv) ?_ ?_
          · exact hq0
          refine Run.ret ?_
          cases h
          refine ⟨_, _, by cbv, ?_, ?_⟩
          · exact LLe.r
          · exact (ALe.v LLe.r ALe.nil)
        · have h := if_f c17 h
          refine Run.skip ?_
          refine Run.seq ?_
          refine Run.region hL hT [] (by cbv) ?_ ?_
          · exact hq0
          refine Run.seq ?_
          obtain ⟨⟨⟨r18v_1v_Cols⟩, r18v_2⟩, h_r18, h⟩ := bnd h
          refine Run.region hL hT [(2, .call [true, false] [.ag [.ow 3 (eInt_c r18v_1v_Cols)], .v (.jk)] [.v (.s (.int .i64 r18v_2))])] (by cbv) ?_ ?_
          · exact (hq trivial (hq (hC (laws_markSchema_ac h_r18)) hq0))
          refine Run.seq ?_
          refine Run.seq ?_
          obtain ⟨r19, h_r19, h⟩ := bnd h
          refine Run.region hL hT [(5, .call [false, false] [.ag [.jk, .jk, .jk, .jk, .jk, .jk, .jk, .jk, .jk], .ag [.jk, .jk, .jk, .jk, .jk, .jk, .jk, .jk, .jk]] [.v (.s (.bool r19))])] (by cbv) ?_ ?_
          · exact (hq trivial (hq (fun g20 => (hq trivial hq0)) (hq (fun g21 => (hq trivial hq0)) (hq (fun g22 => (hq g22 (hq g22 (hq (hC (AC.args (laws_eqQuery_ac (gd_t h_r19 g22)) (ALe.ag rfl (LLe.c (LLe.cons (LLe.im (RLe.eq (fr_row Cond_c_z _))) (LLe.c (LLe.c (LLe.c (LLe.cons (LLe.im (RLe.eq (fr_row Int_c_z _))) (LLe.c (LLe.c (LLe.c LLe.nil))))))))) (ALe.ag rfl (LLe.c (LLe.cons (LLe.im (RLe.eq (fr_row Cond_c_z _))) (LLe.c (LLe.c (LLe.c (LLe.cons (LLe.im (RLe.eq (fr_row Int_c_z _))) (LLe.c (LLe.c (LLe.c LLe.nil))))))))) ALe.nil)))) hq0)))) (hq (fun g23 => (hq g23 hq0)) (hq (fun _ => hq0) (hq (fun q25 => (hq (bo_m q25) hq0)) (hq (fun _ => hq0) (hq (fun _ => hq0) (hq (fun g28 => (hq g28 (hq g28 hq0))) (hq (fun _ => hq0) (hq (fun q30 => (hq (bo_m q30) hq0)) hq0))))))))))))
          refine Run.cond (by cbv) (hq0) (fun c31 => ?_) (fun c31 => ?_)
          · have h := if_t c31 h
            refine Run.seq ?_
            refine Run.region hL hT [] (by cbv) ?_ ?_
            · exact hq0
            refine Run.ret ?_
            cases h
            refine ⟨_, _, by cbv, ?_, ?_⟩
            · exact LLe.r
            · exact (ALe.v LLe.r ALe.nil)
          · have h := if_f c31 h
            refine Run.skip ?_
            refine Run.seq ?_
            refine Run.region hL hT [] (by cbv) ?_ ?_
            · exact hq0
            refine Run.seq ?_
            obtain ⟨⟨⟨r32v_1v_Table, r32v_1v_Where, r32v_1v_Order, r32v_1v_Down, r32v_1v_First, r32v_1v_Show, r32v_1v_Kids, r32v_1v_KidTable, r32v_1v_KidCol⟩, r32v_2⟩, h_r32, h⟩ := bnd h
            refine Run.region hL hT [(2, .call [true, false] [.ag [.jk, .ow 65 (eCond_c r32v_1v_Where), .jk, .jk, .jk, .ow 3 (eInt_c r32v_1v_Show), .jk, .jk, .jk], .v (.jk)] [.v (.s (.int .i64 r32v_2))])] (by cbv) ?_ ?_
            · exact (hq trivial (hq (hC (laws_markQuery_ac h_r32)) hq0))
            refine Run.seq ?_
            refine Run.region hL hT [] (by cbv) ?_ ?_
            · exact hq0
            refine Run.seq ?_
            obtain ⟨r33, h_r33, h⟩ := bnd h
            refine Run.region hL hT [(2, .call [false, false] [.ag [.jk, .jk, .jk, .jk, .jk, .jk, .jk, .jk, .jk], .v (.jk)] [.v (.s (.int .i64 r33))])] (by cbv) ?_ ?_
            · exact (hq trivial (hq (hC (AC.args (laws_heldQuery_ac h_r33) (ALe.ag rfl (LLe.c (LLe.cons (LLe.im (RLe.eq (fr_row Cond_c_z _))) (LLe.c (LLe.c (LLe.c (LLe.cons (LLe.im (RLe.eq (fr_row Int_c_z _))) (LLe.c (LLe.c (LLe.c LLe.nil))))))))) (ALe.v LLe.r ALe.nil)))) hq0))
            refine Run.seq ?_
            refine Run.seq ?_
            refine Run.region hL hT [] (by cbv) ?_ ?_
            · exact (hq trivial hq0)
            refine Run.cond (by cbv) (hq0) (fun c34 => ?_) (fun c34 => ?_)
            · have h := if_t c34 h
              refine Run.seq ?_
              refine Run.region hL hT [] (by cbv) ?_ ?_
              · exact hq0
              refine Run.ret ?_
              cases h
              refine ⟨_, _, by cbv, ?_, ?_⟩
              · exact LLe.r
              · exact (ALe.v LLe.r ALe.nil)
            · have h := if_f c34 h
              refine Run.skip ?_
              refine Run.seq ?_
              refine Run.seq ?_
              refine Run.region hL hT [] (by cbv) ?_ ?_
              · exact (hq trivial hq0)
              refine Run.cond (by cbv) (hq0) (fun c35 => ?_) (fun c35 => ?_)
              · have h := if_t c35 h
                refine Run.seq ?_
                refine Run.region hL hT [] (by cbv) ?_ ?_
                · exact hq0
                refine Run.ret ?_
                cases h
                refine ⟨_, _, by cbv, ?_, ?_⟩
                · exact LLe.r
                · exact (ALe.v LLe.r ALe.nil)
              · have h := if_f c35 h
                refine Run.skip ?_
                refine Run.seq ?_
                obtain ⟨⟨r36v_Cols⟩, h_r36, h⟩ := bnd h
                obtain ⟨⟨⟨r37v_1v_Table, r37v_1v_Where, r37v_1v_Order, r37v_1v_Down, r37v_1v_First, r37v_1v_Show, r37v_1v_Kids, r37v_1v_KidTable, r37v_1v_KidCol⟩, r37v_2⟩, h_r37, h⟩ := bnd h
                refine Run.region hL hT [(1, .call [false] [.ag [.jk]] [.ag [.ow 3 (eInt_c r36v_Cols)]]), (3, .call [false, false] [.ag [.jk], .v (.jk)] [.ag [.s (.int .i64 r37v_1v_Table), .ow 65 (eCond_c r37v_1v_Where), .s (.int .i64 r37v_1v_Order), .s (.bool r37v_1v_Down), .s (.int .i64 r37v_1v_First), .ow 3 (eInt_c r37v_1v_Show), .s (.bool r37v_1v_Kids), .s (.int .i64 r37v_1v_KidTable), .s (.int .i64 r37v_1v_KidCol)], .v (.s (.bool r37v_2))])] (by cbv) ?_ ?_
                · exact (hq trivial (hq (hC (laws_toSchema_ac h_r36)) (hq (hC (AC.args (impl_QueryRead_ac h_r37) (ALe.ag rfl (LLe.cons (LLe.im (RLe.eq (fr_row Int_c_z _))) LLe.nil) (ALe.v LLe.r ALe.nil)))) (hq trivial hq0))))
                refine Run.seq ?_
                refine Run.seq ?_
                obtain ⟨r38, h_r38, h⟩ := bnd h
                refine Run.region hL hT [(2, .call [false, false] [.ag [.jk, .jk, .jk, .jk, .jk, .jk, .jk, .jk, .jk], .ag [.jk, .jk, .jk, .jk, .jk, .jk, .jk, .jk, .jk]] [.v (.s (.bool r38))])] (by cbv) ?_ ?_
                · exact (hq trivial (hq trivial (hq (hC (AC.args (laws_eqQuery_ac h_r38) (ALe.ag rfl (LLe.c (LLe.cons (LLe.im (RLe.eq (fr_row Cond_c_z _))) (LLe.c (LLe.c (LLe.c (LLe.cons (LLe.im (RLe.eq (fr_row Int_c_z _))) (LLe.c (LLe.c (LLe.c LLe.nil))))))))) (ALe.ag rfl (LLe.c (LLe.cons (LLe.im (RLe.eq (fr_row Cond_c_z _))) (LLe.c (LLe.c (LLe.c (LLe.cons (LLe.im (RLe.eq (fr_row Int_c_z _))) (LLe.c (LLe.c (LLe.c LLe.nil))))))))) ALe.nil)))) (hq (fun _ => hq0) (hq (fun _ => hq0) (hq (fun g41 => (hq g41 (hq g41 hq0))) (hq (fun _ => hq0) (hq (fun q43 => (hq (bo_m q43) hq0)) hq0))))))))
                refine Run.cond (by cbv) (hq0) (fun c44 => ?_) (fun c44 => ?_)
                · have h := if_t c44 h
                  refine Run.seq ?_
                  refine Run.region hL hT [] (by cbv) ?_ ?_
                  · exact hq0
                  refine Run.ret ?_
                  cases h
                  refine ⟨_, _, by cbv, ?_, ?_⟩
                  · exact LLe.r
                  · exact (ALe.v LLe.r ALe.nil)
                · have h := if_f c44 h
                  refine Run.skip ?_
                  refine Run.seq ?_
                  refine Run.region hL hT [] (by cbv) ?_ ?_
                  · exact hq0
                  refine Run.seq ?_
                  obtain ⟨r45, h_r45, h⟩ := bnd h
                  refine Run.region hL hT [(2, .call [false, false] [.ag [.jk, .jk, .jk, .jk, .jk, .jk, .jk, .jk, .jk], .v (.jk)] [.v (.s (.int .i64 r45))])] (by cbv) ?_ ?_
                  · exact (hq trivial (hq (hC (AC.args (laws_heldQuery_ac h_r45) (ALe.ag rfl (LLe.c (LLe.cons (LLe.im (RLe.eq (fr_row Cond_c_z _))) (LLe.c (LLe.c (LLe.c (LLe.cons (LLe.im (RLe.eq (fr_row Int_c_z _))) (LLe.c (LLe.c (LLe.c LLe.nil))))))))) (ALe.v LLe.r ALe.nil)))) hq0))
                  refine Run.seq ?_
                  refine Run.seq ?_
                  refine Run.region hL hT [] (by cbv) ?_ ?_
                  · exact (hq trivial hq0)
                  refine Run.cond (by cbv) (hq0) (fun c46 => ?_) (fun c46 => ?_)
                  · have h := if_t c46 h
                    refine Run.seq ?_
                    refine Run.region hL hT [] (by cbv) ?_ ?_
                    · exact hq0
                    refine Run.ret ?_
                    cases h
                    refine ⟨_, _, by cbv, ?_, ?_⟩
                    · exact LLe.r
                    · exact (ALe.v LLe.r ALe.nil)
                  · have h := if_f c46 h
                    refine Run.skip ?_
                    refine Run.seq ?_
                    refine Run.seq ?_
                    refine Run.region hL hT [] (by cbv) ?_ ?_
                    · exact (hq trivial hq0)
                    refine Run.cond (by cbv) (hq0) (fun c47 => ?_) (fun c47 => ?_)
                    · have h := if_t c47 h
                      refine Run.seq ?_
                      refine Run.region hL hT [] (by cbv) ?_ ?_
                      · exact hq0
                      refine Run.ret ?_
                      cases h
                      refine ⟨_, _, by cbv, ?_, ?_⟩
                      · exact LLe.r
                      · exact (ALe.v LLe.r ALe.nil)
                    · have h := if_f c47 h
                      refine Run.skip ?_
                      refine Run.seq ?_
                      refine Run.region hL hT [] (by cbv) ?_ ?_
                      · exact hq0
                      refine Run.ret ?_
                      cases h
                      refine ⟨_, _, by cbv, ?_, ?_⟩
                      · exact LLe.r
                      · exact (ALe.v LLe.r ALe.nil)


end Go.Proofs.YtcpekllcbimpmaaDoor.L
