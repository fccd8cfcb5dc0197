/- The contracts of the program's functions. -/
import Derived.Test.YtcpekllcbimpmaaDoorProg
import Derived.Test.YtcpekllcbimpmaaDoorFxDecodeC0
import Derived.KernelRfl
namespace Go.Proofs.YtcpekllcbimpmaaDoor.L
open Go Go.Proofs
set_option linter.unusedVariables false
set_option linter.unusedSimpArgs false
set_option maxRecDepth 8000
theorem laws_heldStringS_ac {a0 : List ByteArray} {a1 : Int} {r : Int} (h : laws_heldStringS.f a0 a1 = some r) : AC Tryd.prog 59 [.v (.im false (rowsOf Str_c a0)), .v (.s (.int .i64 a1))] [.v (.jk), .v (.jk)] [.v (.s (.int .i64 r))] := by
  unfold laws_heldStringS.f at h
  let eStr_c := rowsOf Str_c
  let lenI_Str := @lenI ByteArray
  show AC Tryd.prog 59 [.v (.im false (eStr_c a0)), .v (.s (.int .i64 a1))] _ _
  refine run3 Tryd.func59 (by rfl) (by rfl) (by cbv) ⟨by decide, rfl⟩ ?_
  intro ar cm bo sc sa sx ss sl bs sb ln sr ap up rp fr ge le lt nz mm ma sm fl al ci hL F hP hA hT hM hC
  refine Run.seq ?_
  refine Run.region hL hT [] (by cbv) ?_ ?_
  · exact hq0
  refine Run.seq ?_
  refine Run.seq ?_
  refine Run.region hL hT [] (by cbv) ?_ ?_
  · exact hq0
  refine Run.block ?_
  refine Run.loop2 (fun (z4 : Int) (z5 : Int) => ⟨22, 100000, [(0, .t (.im false (eStr_c a0))), (1, .t (.s (.int .i64 z4))), (5, .t (.s (.int .i64 z5)))], []⟩) (x0 := a1) (x1 := 0) h (Weak.of _ [] hA (by cbv) ?_) (fun _ _ => rfl) ?_
  · repeat (first | exact hq0 | refine hq (by first | exact True.intro | rfl) ?_)
  · intro k z4 z5 h
    rw [laws_heldStringS.l0] at h
    refine Run.seq ?_
    refine Run.seq ?_
    refine Run.region hL hT [] (by cbv) ?_ ?_
    · exact (hq trivial hq0)
    rw [show ln (eStr_c a0) = lenI_Str a0 from ln_eq Str_c _]
    refine Run.cond (by cbv) (hq0) (fun c6 => ?_) (fun c6 => ?_)
    · have h := if_t c6 h
      refine Run.skip ?_
      refine Run.seq ?_
      refine Run.block ?_
      refine Run.seq ?_
      refine Run.seq ?_
      obtain ⟨x7, h_x7, h⟩ := bnd h
      obtain ⟨r8, h_r8, h⟩ := bnd h
      refine Run.draw hL hT hM [(2, .el [.s (.string x7)]), (5, .call [false] [.v (.jk)] [.v (.s (.string r8))])] (by cbv) (collect_cons (by cbv) (by cbv) (collect_cons (by cbv) (by cbv) (collect_cons (by cbv) (by cbv) (collect_cons (by cbv) (by cbv) (collect_cons (by cbv) (by cbv) (collect_cons (by cbv) (by cbv) (collect_cons (by cbv) (by cbv) collect_nil))))))) (by cbv) (by cbv) (by cbv) ?_ ?_
      · exact (hq (get_le h_x7) (hq (get_lt (f := Str_c) h_x7) (hq (get_ge (f := Str_c) h_x7) (hq (hC (laws_markText_ac h_r8)) hq0))))
      refine Run.cond (by cbv) (hq0) (fun c9 => ?_) (fun c9 => ?_)
      · have h := if_t c9 h
        refine Run.seq ?_
        refine Run.region hL hT [] (by cbv) ?_ ?_
        · exact hq0
        refine Run.ret ?_
        cases h
        refine ⟨_, _, by cbv, ?_, ?_⟩
        · exact LLe.r
        · exact (ALe.v LLe.r ALe.nil)
      · have h := if_f c9 h
        refine Run.skip ?_
        refine Run.region hL hT [] (by cbv) ?_ ?_
        · exact (hq trivial hq0)
        refine Run.region hL hT [] (by cbv) ?_ ?_
        · exact (hq trivial hq0)
        refine ⟨(ar .add .i64 z4 1), (ar .add .i64 z5 1), h, Weak.of _ [] hA (by cbv) ?_⟩
        repeat (first | exact hq0 | refine hq (by first | exact True.intro | rfl) ?_)
    · have h := if_f c6 h
      refine Run.exit ?_
      refine Run.seq ?_
      refine Run.region hL hT [] (by cbv) ?_ ?_
      · exact hq0
      refine Run.ret ?_
      cases h
      refine ⟨_, _, by cbv, ?_, ?_⟩
      · exact LLe.r
      · exact (ALe.v LLe.r ALe.nil)

theorem laws_heldJsonS_acs (self : (List Json) → Int → Option Int) (hself : ∀ {a0 : List Json} {a1 : Int} {r : Int} (h : self a0 a1 = some r), AC Tryd.prog 58 [.v (.im false (rowsOf Json_i a0)), .v (.s (.int .i64 a1))] [.v (.jk), .v (.jk)] [.v (.s (.int .i64 r))]) {a0 : List Json} {a1 : Int} {r : Int} (h : laws_heldJsonS.b self a0 a1 = some r) : AC Tryd.prog 58 [.v (.im false (rowsOf Json_i a0)), .v (.s (.int .i64 a1))] [.v (.jk), .v (.jk)] [.v (.s (.int .i64 r))] := by
  unfold laws_heldJsonS.b at h
  let eJson_i := rowsOf Json_i
  let eStr_c := rowsOf Str_c
  let lenI_Json := @lenI Json
  show AC Tryd.prog 58 [.v (.im false (eJson_i a0)), .v (.s (.int .i64 a1))] _ _
  refine run3 Tryd.func58 (by rfl) (by rfl) (by cbv) ⟨by decide, rfl⟩ ?_
  intro ar cm bo sc sa sx ss sl bs sb ln sr ap up rp fr ge le lt nz mm ma sm fl al ci hL F hP hA hT hM hC
  refine Run.seq ?_
  refine Run.region hL hT [] (by cbv) ?_ ?_
  · exact hq0
  refine Run.seq ?_
  refine Run.seq ?_
  refine Run.region hL hT [] (by cbv) ?_ ?_
  · exact hq0
  refine Run.block ?_
  refine Run.loop2 (fun (z4 : Int) (z5 : Int) => ⟨59, 100000, [(0, .t (.im false (eJson_i a0))), (1, .t (.s (.int .i64 z4))), (5, .t (.s (.int .i64 z5)))], []⟩) (x0 := a1) (x1 := 0) h (Weak.of _ [] hA (by cbv) ?_) (fun _ _ => rfl) ?_
  · repeat (first | exact hq0 | refine hq (by first | exact True.intro | rfl) ?_)
  · intro k z4 z5 h
    rw [laws_heldJsonS.l0] at h
    refine Run.seq ?_
    refine Run.seq ?_
    refine Run.region hL hT [] (by cbv) ?_ ?_
    · exact (hq trivial hq0)
    rw [show ln (eJson_i a0) = lenI_Json a0 from ln_eq Json_i _]
    refine Run.cond (by cbv) (hq0) (fun c6 => ?_) (fun c6 => ?_)
    · have h := if_t c6 h
      refine Run.skip ?_
      refine Run.seq ?_
      refine Run.block ?_
      refine Run.seq ?_
      refine Run.seq ?_
      obtain ⟨⟨x7v_Kind, x7v_N, x7v_S, x7v_List_, x7v_Names⟩, h_x7, h⟩ := bnd h
      refine Run.region hL hT [(2, .el [.s (.int .i64 x7v_Kind), .s (.int .i64 x7v_N), .s (.string x7v_S), .im false (eJson_i x7v_List_), .im false (eStr_c x7v_Names)])] (by cbv) ?_ ?_
      · exact (hq (get_le h_x7) (hq (get_lt (f := Json_i) h_x7) (hq (get_geU Json_i_u h_x7) (hq trivial hq0))))
      refine Run.cond (by cbv) (hq0) (fun c8 => ?_) (fun c8 => ?_)
      · have h := if_t c8 h
        refine Run.seq ?_
        refine Run.region hL hT [] (by cbv) ?_ ?_
        · exact hq0
        refine Run.ret ?_
        cases h
        refine ⟨_, _, by cbv, ?_, ?_⟩
        · exact LLe.r
        · exact (ALe.v LLe.r ALe.nil)
      · have h := if_f c8 h
        refine Run.skip ?_
        refine Run.seq ?_
        refine Run.region hL hT [] (by cbv) ?_ ?_
        · exact (hq trivial hq0)
        refine Run.seq ?_
        refine Run.seq ?_
        refine Run.region hL hT [(2, .el [.s (.int .i64 x7v_Kind), .s (.int .i64 x7v_N), .s (.string x7v_S), .im false (eJson_i x7v_List_), .im false (eStr_c x7v_Names)])] (by cbv) ?_ ?_
        · exact (hq (get_le h_x7) (hq (get_lt (f := Json_i) h_x7) (hq (get_geU Json_i_u h_x7) (hq trivial hq0))))
        refine Run.cond (by cbv) (hq0) (fun c9 => ?_) (fun c9 => ?_)
        · have h := if_t c9 h
          refine Run.seq ?_
          refine Run.region hL hT [] (by cbv) ?_ ?_
          · exact hq0
          refine Run.ret ?_
          cases h
          refine ⟨_, _, by cbv, ?_, ?_⟩
          · exact LLe.r
          · exact (ALe.v LLe.r ALe.nil)
        · have h := if_f c9 h
          refine Run.skip ?_
          refine Run.seq ?_
          refine Run.region hL hT [] (by cbv) ?_ ?_
          · exact (hq trivial hq0)
          refine Run.seq ?_
          refine Run.seq ?_
          obtain ⟨r10, h_r10, h⟩ := bnd h
          refine Run.draw hL hT hM [(2, .el [.s (.int .i64 x7v_Kind), .s (.int .i64 x7v_N), .s (.string x7v_S), .im false (eJson_i x7v_List_), .im false (eStr_c x7v_Names)]), (6, .call [false] [.v (.jk)] [.v (.s (.string r10))])] (by cbv) (collect_cons (by cbv) (by cbv) (collect_cons (by cbv) (by cbv) (collect_cons (by cbv) (by cbv) (collect_cons (by cbv) (by cbv) (collect_cons (by cbv) (by cbv) (collect_cons (by cbv) (by cbv) (collect_cons (by cbv) (by cbv) (collect_cons (by cbv) (by cbv) collect_nil)))))))) (by cbv) (by cbv) (by cbv) ?_ ?_
          · exact (hq (get_le h_x7) (hq (get_lt (f := Json_i) h_x7) (hq (get_geU Json_i_u h_x7) (hq (hC (laws_markText_ac h_r10)) hq0))))
          refine Run.cond (by cbv) (hq0) (fun c11 => ?_) (fun c11 => ?_)
          · have h := if_t c11 h
            refine Run.seq ?_
            refine Run.region hL hT [] (by cbv) ?_ ?_
            · exact hq0
            refine Run.ret ?_
            cases h
            refine ⟨_, _, by cbv, ?_, ?_⟩
            · exact LLe.r
            · exact (ALe.v LLe.r ALe.nil)
          · have h := if_f c11 h
            refine Run.skip ?_
            refine Run.seq ?_
            refine Run.region hL hT [] (by cbv) ?_ ?_
            · exact (hq trivial hq0)
            refine Run.seq ?_
            obtain ⟨r12, h_r12, h⟩ := bnd h
            refine Run.region hL hT [(2, .el [.s (.int .i64 x7v_Kind), .s (.int .i64 x7v_N), .s (.string x7v_S), .im false (eJson_i x7v_List_), .im false (eStr_c x7v_Names)]), (6, .call [false, false] [.v (.jk), .v (.jk)] [.v (.s (.int .i64 r12))])] (by cbv) ?_ ?_
            · exact (hq (get_le h_x7) (hq (get_lt (f := Json_i) h_x7) (hq (get_geU Json_i_u h_x7) (hq (hC (hself h_r12)) hq0))))
            refine Run.seq ?_
            refine Run.seq ?_
            refine Run.region hL hT [] (by cbv) ?_ ?_
            · exact (hq trivial hq0)
            refine Run.cond (by cbv) (hq0) (fun c13 => ?_) (fun c13 => ?_)
            · have h := if_t c13 h
              refine Run.seq ?_
              refine Run.region hL hT [] (by cbv) ?_ ?_
              · exact hq0
              refine Run.ret ?_
              cases h
              refine ⟨_, _, by cbv, ?_, ?_⟩
              · exact LLe.r
              · exact (ALe.v LLe.r ALe.nil)
            · have h := if_f c13 h
              refine Run.skip ?_
              refine Run.seq ?_
              obtain ⟨r14, h_r14, h⟩ := bnd h
              refine Run.region hL hT [(2, .el [.s (.int .i64 x7v_Kind), .s (.int .i64 x7v_N), .s (.string x7v_S), .im false (eJson_i x7v_List_), .im false (eStr_c x7v_Names)]), (6, .call [false, false] [.v (.jk), .v (.jk)] [.v (.s (.int .i64 r14))])] (by cbv) ?_ ?_
              · exact (hq (get_le h_x7) (hq (get_lt (f := Json_i) h_x7) (hq (get_geU Json_i_u h_x7) (hq (hC (laws_heldStringS_ac h_r14)) hq0))))
              refine Run.seq ?_
              refine Run.region hL hT [] (by cbv) ?_ ?_
              · exact (hq trivial hq0)
              refine Run.cond (by cbv) (hq0) (fun c15 => ?_) (fun c15 => ?_)
              · have h := if_t c15 h
                refine Run.seq ?_
                refine Run.region hL hT [] (by cbv) ?_ ?_
                · exact hq0
                refine Run.ret ?_
                cases h
                refine ⟨_, _, by cbv, ?_, ?_⟩
                · exact LLe.r
                · exact (ALe.v LLe.r ALe.nil)
              · have h := if_f c15 h
                refine Run.skip ?_
                refine Run.region hL hT [] (by cbv) ?_ ?_
                · exact (hq trivial hq0)
                refine ⟨r14, (ar .add .i64 z5 1), h, Weak.of _ [] hA (by cbv) ?_⟩
                repeat (first | exact hq0 | refine hq (by first | exact True.intro | rfl) ?_)
    · have h := if_f c6 h
      refine Run.exit ?_
      refine Run.seq ?_
      refine Run.region hL hT [] (by cbv) ?_ ?_
      · exact hq0
      refine Run.ret ?_
      cases h
      refine ⟨_, _, by cbv, ?_, ?_⟩
      · exact LLe.r
      · exact (ALe.v LLe.r ALe.nil)
theorem laws_heldJsonS_acg : ∀ (k : Nat) {a0 : List Json} {a1 : Int} {r : Int} (h : laws_heldJsonS.g k a0 a1 = some r), AC Tryd.prog 58 [.v (.im false (rowsOf Json_i a0)), .v (.s (.int .i64 a1))] [.v (.jk), .v (.jk)] [.v (.s (.int .i64 r))]
  | 0 => fun h => by cases h
  | k + 1 => fun h => laws_heldJsonS_acs (laws_heldJsonS.g k) (laws_heldJsonS_acg k) h
theorem laws_heldJsonS_ac {a0 : List Json} {a1 : Int} {r : Int} (h : laws_heldJsonS.f a0 a1 = some r) : AC Tryd.prog 58 [.v (.im false (rowsOf Json_i a0)), .v (.s (.int .i64 a1))] [.v (.jk), .v (.jk)] [.v (.s (.int .i64 r))] := laws_heldJsonS_acg 1000 h

theorem laws_heldJson_ac {a0v_Kind : Int} {a0v_N : Int} {a0v_S : ByteArray} {a0v_List_ : List Json} {a0v_Names : List ByteArray} {a1 : Int} {r : Int} (h : laws_heldJson.f (Json.mk a0v_Kind a0v_N a0v_S a0v_List_ a0v_Names) a1 = some r) : AC Tryd.prog 24 [.ag [.s (.int .i64 a0v_Kind), .s (.int .i64 a0v_N), .s (.string a0v_S), .im false (rowsOf Json_i a0v_List_), .im false (rowsOf Str_c a0v_Names)], .v (.s (.int .i64 a1))] [.ag [.jk, .jk, .jk, .jk, .jk], .v (.jk)] [.v (.s (.int .i64 r))] := by
  unfold laws_heldJson.f at h
  let eJson_i := rowsOf Json_i
  let eStr_c := rowsOf Str_c
  show AC Tryd.prog 24 [.ag [.s (.int .i64 a0v_Kind), .s (.int .i64 a0v_N), .s (.string a0v_S), .im false (eJson_i a0v_List_), .im false (eStr_c a0v_Names)], .v (.s (.int .i64 a1))] _ _
  refine run3 Tryd.func24 (by rfl) (by rfl) (by cbv) ⟨by decide, rfl⟩ ?_
  intro ar cm bo sc sa sx ss sl bs sb ln sr ap up rp fr ge le lt nz mm ma sm fl al ci hL F hP hA hT hM hC
  refine Run.seq ?_
  refine Run.region hL hT [] (by cbv) ?_ ?_
  · exact hq0
  refine Run.seq ?_
  obtain ⟨r1, h_r1, h⟩ := bnd h
  refine Run.region hL hT [(3, .call [false, false] [.v (.jk), .v (.jk)] [.v (.s (.int .i64 r1))])] (by cbv) ?_ ?_
  · exact (hq trivial (hq (hC (laws_heldJsonS_ac h_r1)) hq0))
  refine Run.seq ?_
  refine Run.seq ?_
  refine Run.region hL hT [] (by cbv) ?_ ?_
  · exact (hq trivial hq0)
  refine Run.cond (by cbv) (hq0) (fun c2 => ?_) (fun c2 => ?_)
  · have h := if_t c2 h
    refine Run.seq ?_
    refine Run.region hL hT [] (by cbv) ?_ ?_
    · exact hq0
    refine Run.ret ?_
    cases h
    refine ⟨_, _, by cbv, ?_, ?_⟩
    · exact LLe.r
    · exact (ALe.v LLe.r ALe.nil)
  · have h := if_f c2 h
    refine Run.skip ?_
    refine Run.seq ?_
    obtain ⟨r3, h_r3, h⟩ := bnd h
    refine Run.region hL hT [(3, .call [false, false] [.v (.jk), .v (.jk)] [.v (.s (.int .i64 r3))])] (by cbv) ?_ ?_
    · exact (hq trivial (hq (hC (laws_heldStringS_ac h_r3)) hq0))
    refine Run.seq ?_
    refine Run.seq ?_
    refine Run.region hL hT [] (by cbv) ?_ ?_
    · exact (hq trivial hq0)
    refine Run.cond (by cbv) (hq0) (fun c4 => ?_) (fun c4 => ?_)
    · have h := if_t c4 h
      refine Run.seq ?_
      refine Run.region hL hT [] (by cbv) ?_ ?_
      · exact hq0
      refine Run.ret ?_
      cases h
      refine ⟨_, _, by cbv, ?_, ?_⟩
      · exact LLe.r
      · exact (ALe.v LLe.r ALe.nil)
    · have h := if_f c4 h
      refine Run.skip ?_
      refine Run.seq ?_
      refine Run.region hL hT [] (by cbv) ?_ ?_
      · exact hq0
      refine Run.ret ?_
      cases h
      refine ⟨_, _, by cbv, ?_, ?_⟩
      · exact LLe.r
      · exact (ALe.v LLe.r ALe.nil)

theorem laws_FnExactDecode_ac {a0 : ByteArray} {r : Bool} (h : laws_FnExactDecode.f a0 = some r) : AC Tryd.prog 5 [.v (.s (.string a0))] [.v (.jk)] [.v (.s (.bool r))] := by
  unfold laws_FnExactDecode.f at h
  let eJson_o := rowsOf Json_o
  let eStr_c := rowsOf Str_c
  show AC Tryd.prog 5 [.v (.s (.string a0))] _ _
  refine run3 Tryd.func5 (by rfl) (by rfl) (by cbv) ⟨by decide, rfl⟩ ?_
  intro ar cm bo sc sa sx ss sl bs sb ln sr ap up rp fr ge le lt nz mm ma sm fl al ci hL F hP hA hT hM hC
  refine Run.seq ?_
  refine Run.region hL hT [] (by cbv) ?_ ?_
  · exact hq0
  refine Run.seq ?_
  refine Run.seq ?_
  refine Run.region hL hT [] (by cbv) ?_ ?_
  · exact (hq trivial hq0)
  refine Run.cond (by cbv) (hq0) (fun c1 => ?_) (fun c1 => ?_)
  · have h := if_t c1 h
    refine Run.seq ?_
    refine Run.region hL hT [] (by cbv) ?_ ?_
    · exact hq0
    refine Run.ret ?_
    cases h
    refine ⟨_, _, by cbv, ?_, ?_⟩
    · exact LLe.r
    · exact (ALe.v LLe.r ALe.nil)
  · have h := if_f c1 h
    refine Run.skip ?_
    refine Run.seq ?_
    obtain ⟨⟨⟨r2v_1v_Kind, r2v_1v_N, r2v_1v_S, r2v_1v_List_, r2v_1v_Names⟩, r2v_2⟩, h_r2, h⟩ := bnd h
    refine Run.region hL hT [(1, .call [false] [.v (.jk)] [.ag [.s (.int .i64 r2v_1v_Kind), .s (.int .i64 r2v_1v_N), .s (.string r2v_1v_S), .ow 48 (eJson_o r2v_1v_List_), .ow 9 (eStr_c r2v_1v_Names)], .v (.s (.bool r2v_2))])] (by cbv) ?_ ?_
    · exact (hq (hC (spec_Decode_ac h_r2)) (hq trivial hq0))
    refine Run.seq ?_
    obtain ⟨⟨⟨r3v_1v_Kind, r3v_1v_N, r3v_1v_S, r3v_1v_List_, r3v_1v_Names⟩, r3v_2⟩, h_r3, h⟩ := bnd h
    refine Run.region hL hT [(1, .call [false] [.v (.jk)] [.ag [.s (.int .i64 r3v_1v_Kind), .s (.int .i64 r3v_1v_N), .s (.string r3v_1v_S), .ow 48 (eJson_o r3v_1v_List_), .ow 9 (eStr_c r3v_1v_Names)], .v (.s (.bool r3v_2))])] (by cbv) ?_ ?_
    · exact (hq (hC (impl_Decode_ac h_r3)) (hq trivial hq0))
    refine Run.seq ?_
    refine Run.seq ?_
    obtain ⟨r4, h_r4, h⟩ := bnd h
    refine Run.region hL hT [(2, .call [false, false] [.ag [.jk, .jk, .jk, .jk, .jk], .ag [.jk, .jk, .jk, .jk, .jk]] [.v (.s (.bool r4))])] (by cbv) ?_ ?_
    · exact (hq trivial (hq trivial (hq (hC (AC.args (laws_eqJson_ac h_r4) (ALe.ag rfl (LLe.c (LLe.c (LLe.c (LLe.cons (LLe.im (RLe.eq (fr_row Json_o_z _))) (LLe.cons (LLe.im (RLe.eq (fr_row Str_c_z _))) LLe.nil))))) (ALe.ag rfl (LLe.c (LLe.c (LLe.c (LLe.cons (LLe.im (RLe.eq (fr_row Json_o_z _))) (LLe.cons (LLe.im (RLe.eq (fr_row Str_c_z _))) LLe.nil))))) ALe.nil)))) (hq (fun _ => hq0) (hq (fun _ => hq0) (hq (fun g7 => (hq g7 (hq g7 hq0))) (hq (fun _ => hq0) (hq (fun q9 => (hq (bo_m q9) hq0)) hq0))))))))
    refine Run.cond (by cbv) (hq0) (fun c10 => ?_) (fun c10 => ?_)
    · have h := if_t c10 h
      refine Run.seq ?_
      refine Run.region hL hT [] (by cbv) ?_ ?_
      · exact hq0
      refine Run.ret ?_
      cases h
      refine ⟨_, _, by cbv, ?_, ?_⟩
      · exact LLe.r
      · exact (ALe.v LLe.r ALe.nil)
    · have h := if_f c10 h
      refine Run.skip ?_
      refine Run.seq ?_
      refine Run.region hL hT [] (by cbv) ?_ ?_
      · exact hq0
      refine Run.seq ?_
      obtain ⟨⟨⟨r11v_1v_Kind, r11v_1v_N, r11v_1v_S, r11v_1v_List_, r11v_1v_Names⟩, r11v_2⟩, h_r11, h⟩ := bnd h
      refine Run.region hL hT [(2, .call [true, false] [.ag [.jk, .jk, .jk, .ow 48 (eJson_o r11v_1v_List_), .ow 9 (eStr_c r11v_1v_Names)], .v (.jk)] [.v (.s (.int .i64 r11v_2))])] (by cbv) ?_ ?_
      · exact (hq trivial (hq (hC (laws_markJson_ac h_r11)) hq0))
      refine Run.seq ?_
      refine Run.region hL hT [] (by cbv) ?_ ?_
      · exact hq0
      refine Run.seq ?_
      obtain ⟨r12, h_r12, h⟩ := bnd h
      refine Run.region hL hT [(2, .call [false, false] [.ag [.jk, .jk, .jk, .jk, .jk], .v (.jk)] [.v (.s (.int .i64 r12))])] (by cbv) ?_ ?_
      · exact (hq trivial (hq (hC (AC.args (laws_heldJson_ac h_r12) (ALe.ag rfl (LLe.c (LLe.c (LLe.c (LLe.cons (LLe.im (RLe.eq (fr_row Json_o_z _))) (LLe.cons (LLe.im (RLe.eq (fr_row Str_c_z _))) LLe.nil))))) (ALe.v LLe.r ALe.nil)))) hq0))
      refine Run.seq ?_
      refine Run.seq ?_
      refine Run.region hL hT [] (by cbv) ?_ ?_
      · exact (hq trivial hq0)
      refine Run.cond (by cbv) (hq0) (fun c13 => ?_) (fun c13 => ?_)
      · have h := if_t c13 h
        refine Run.seq ?_
        refine Run.region hL hT [] (by cbv) ?_ ?_
        · exact hq0
        refine Run.ret ?_
        cases h
        refine ⟨_, _, by cbv, ?_, ?_⟩
        · exact LLe.r
        · exact (ALe.v LLe.r ALe.nil)
      · have h := if_f c13 h
        refine Run.skip ?_
        refine Run.seq ?_
        refine Run.seq ?_
        refine Run.region hL hT [] (by cbv) ?_ ?_
        · exact (hq trivial hq0)
        refine Run.cond (by cbv) (hq0) (fun c14 => ?_) (fun c14 => ?_)
        · have h := if_t c14 h
          refine Run.seq ?_
          refine Run.region hL hT [] (by cbv) ?_ ?_
          · exact hq0
          refine Run.ret ?_
          cases h
          refine ⟨_, _, by cbv, ?_, ?_⟩
          · exact LLe.r
          · exact (ALe.v LLe.r ALe.nil)
        · have h := if_f c14 h
          refine Run.skip ?_
          refine Run.seq ?_
          obtain ⟨⟨⟨r15v_1v_Kind, r15v_1v_N, r15v_1v_S, r15v_1v_List_, r15v_1v_Names⟩, r15v_2⟩, h_r15, h⟩ := bnd h
          refine Run.region hL hT [(1, .call [false] [.v (.jk)] [.ag [.s (.int .i64 r15v_1v_Kind), .s (.int .i64 r15v_1v_N), .s (.string r15v_1v_S), .ow 48 (eJson_o r15v_1v_List_), .ow 9 (eStr_c r15v_1v_Names)], .v (.s (.bool r15v_2))])] (by cbv) ?_ ?_
          · exact (hq (hC (impl_Decode_ac h_r15)) (hq trivial hq0))
          refine Run.seq ?_
          refine Run.seq ?_
          obtain ⟨r16, h_r16, h⟩ := bnd h
          refine Run.region hL hT [(2, .call [false, false] [.ag [.jk, .jk, .jk, .jk, .jk], .ag [.jk, .jk, .jk, .jk, .jk]] [.v (.s (.bool r16))])] (by cbv) ?_ ?_
          · exact (hq trivial (hq trivial (hq (hC (AC.args (laws_eqJson_ac h_r16) (ALe.ag rfl (LLe.c (LLe.c (LLe.c (LLe.cons (LLe.im (RLe.eq (fr_row Json_o_z _))) (LLe.cons (LLe.im (RLe.eq (fr_row Str_c_z _))) LLe.nil))))) (ALe.ag rfl (LLe.c (LLe.c (LLe.c (LLe.cons (LLe.im (RLe.eq (fr_row Json_o_z _))) (LLe.cons (LLe.im (RLe.eq (fr_row Str_c_z _))) LLe.nil))))) ALe.nil)))) (hq (fun _ => hq0) (hq (fun _ => hq0) (hq (fun g19 => (hq g19 (hq g19 hq0))) (hq (fun _ => hq0) (hq (fun q21 => (hq (bo_m q21) hq0)) hq0))))))))
          refine Run.cond (by cbv) (hq0) (fun c22 => ?_) (fun c22 => ?_)
          · have h := if_t c22 h
            refine Run.seq ?_
            refine Run.region hL hT [] (by cbv) ?_ ?_
            · exact hq0
            refine Run.ret ?_
            cases h
            refine ⟨_, _, by cbv, ?_, ?_⟩
            · exact LLe.r
            · exact (ALe.v LLe.r ALe.nil)
          · have h := if_f c22 h
            refine Run.skip ?_
            refine Run.seq ?_
            refine Run.region hL hT [] (by cbv) ?_ ?_
            · exact hq0
            refine Run.seq ?_
            obtain ⟨r23, h_r23, h⟩ := bnd h
            refine Run.region hL hT [(2, .call [false, false] [.ag [.jk, .jk, .jk, .jk, .jk], .v (.jk)] [.v (.s (.int .i64 r23))])] (by cbv) ?_ ?_
            · exact (hq trivial (hq (hC (AC.args (laws_heldJson_ac h_r23) (ALe.ag rfl (LLe.c (LLe.c (LLe.c (LLe.cons (LLe.im (RLe.eq (fr_row Json_o_z _))) (LLe.cons (LLe.im (RLe.eq (fr_row Str_c_z _))) LLe.nil))))) (ALe.v LLe.r ALe.nil)))) hq0))
            refine Run.seq ?_
            refine Run.seq ?_
            refine Run.region hL hT [] (by cbv) ?_ ?_
            · exact (hq trivial hq0)
            refine Run.cond (by cbv) (hq0) (fun c24 => ?_) (fun c24 => ?_)
            · have h := if_t c24 h
              refine Run.seq ?_
              refine Run.region hL hT [] (by cbv) ?_ ?_
              · exact hq0
              refine Run.ret ?_
              cases h
              refine ⟨_, _, by cbv, ?_, ?_⟩
              · exact LLe.r
              · exact (ALe.v LLe.r ALe.nil)
            · have h := if_f c24 h
              refine Run.skip ?_
              refine Run.seq ?_
              refine Run.seq ?_
              refine Run.region hL hT [] (by cbv) ?_ ?_
              · exact (hq trivial hq0)
              refine Run.cond (by cbv) (hq0) (fun c25 => ?_) (fun c25 => ?_)
              · have h := if_t c25 h
                refine Run.seq ?_
                refine Run.region hL hT [] (by cbv) ?_ ?_
                · exact hq0
                refine Run.ret ?_
                cases h
                refine ⟨_, _, by cbv, ?_, ?_⟩
                · exact LLe.r
                · exact (ALe.v LLe.r ALe.nil)
              · have h := if_f c25 h
                refine Run.skip ?_
                refine Run.seq ?_
                refine Run.region hL hT [] (by cbv) ?_ ?_
                · exact hq0
                refine Run.ret ?_
                cases h
                refine ⟨_, _, by cbv, ?_, ?_⟩
                · exact LLe.r
                · exact (ALe.v LLe.r ALe.nil)


end Go.Proofs.YtcpekllcbimpmaaDoor.L
