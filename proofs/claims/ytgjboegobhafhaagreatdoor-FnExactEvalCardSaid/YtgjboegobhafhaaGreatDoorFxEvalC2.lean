/- The contracts of the program's functions. -/
import Derived.Test.YtgjboegobhafhaaGreatDoorProg
import Derived.Test.YtgjboegobhafhaaGreatDoorFxEvalC1
import Derived.KernelRfl
namespace Go.Proofs.YtgjboegobhafhaaGreatDoor.L
open Go Go.Proofs
set_option linter.unusedVariables false
set_option linter.unusedSimpArgs false
set_option maxRecDepth 8000
theorem qfM {qF : List Int} {qV : Int} {qT : List (List Row)} {qbF : List Int} {qqI : Int} {qqJ : List (List Row)} {r : Bool} (h : qeE.f (Store.mk (Schema.mk qF) qV qT) (Store.mk (Schema.mk qbF) qqI qqJ) = some r) : AC Tryz.prog 20 [.ag [.im false (rowsOf Int_c qF), .s (.int .i64 qV), .im false (rowsOf RowS_i qT)], .ag [.im false (rowsOf Int_c qbF), .s (.int .i64 qqI), .im false (rowsOf RowS_i qqJ)]] [.ag [.jk, .jk, .jk], .ag [.jk, .jk, .jk]] [.v (.s (.bool r))] := by
 unfold qeE.f at h
 let qB := rowsOf Int_c
 let qUB := rowsOf RowS_i
 show AC Tryz.prog 20 [.ag [.im false (qB qF), .s (.int .i64 qV), .im false (qUB qT)], .ag [.im false (qB qbF), .s (.int .i64 qqI), .im false (qUB qqJ)]] _ _
 refine run3 Tryz.func20 (by rfl) (by rfl) (by cbv) ⟨by decide, rfl⟩ ?_
 intro ar cm bo sc sa sx ss sl bs sb ln sr ap up rp fr ge le lt nz mm ma sm fl al ci hL F hP hA hT hM hC
 refine Run.seq ?_
 refine Run.region hL hT [] (by cbv) hq0 ?_
 refine Run.seq ?_
 refine Run.seq ?_
 obtain ⟨r1, h_r1, h⟩ := bnd h
 refine Run.region hL hT [(4, .call [false, false] [.ag [.jk], .ag [.jk]] [.v (.s (.bool r1))])] (by cbv) ?_ ?_
 · exact (hq Tt (hq Tt (hq (hC (qZK h_r1)) hq0)))
 refine Run.cond (by cbv) (hq0) (fun c2 => ?_) (fun c2 => ?_)
 ·
  have h := if_t c2 h
  refine Run.seq ?_
  refine Run.region hL hT [] (by cbv) hq0 ?_
  refine Run.ret ?_
  cases h
  refine ⟨_, _, by cbv, ?_, ?_⟩
  · exact LLe.r
  · exact (ALe.v LLe.r ALe.nil)
 ·
  have h := if_f c2 h
  refine Run.skip ?_
  refine Run.seq ?_
  refine Run.seq ?_
  refine Run.region hL hT [] (by cbv) ?_ ?_
  · exact (hq Tt (hq Tt (hq Tt hq0)))
  refine Run.cond (by cbv) (hq0) (fun c3 => ?_) (fun c3 => ?_)
  ·
   have h := if_t c3 h
   refine Run.seq ?_
   refine Run.region hL hT [] (by cbv) hq0 ?_
   refine Run.ret ?_
   cases h
   refine ⟨_, _, by cbv, ?_, ?_⟩
   · exact LLe.r
   · exact (ALe.v LLe.r ALe.nil)
  ·
   have h := if_f c3 h
   refine Run.skip ?_
   refine Run.seq ?_
   refine Run.seq ?_
   obtain ⟨r4, h_r4, h⟩ := bnd h
   refine Run.region hL hT [(4, .call [false, false] [.v (.jk), .v (.jk)] [.v (.s (.bool r4))])] (by cbv) ?_ ?_
   · exact (hq Tt (hq Tt (hq (hC (qeM h_r4)) hq0)))
   refine Run.cond (by cbv) (hq0) (fun c5 => ?_) (fun c5 => ?_)
   ·
    have h := if_t c5 h
    refine Run.seq ?_
    refine Run.region hL hT [] (by cbv) hq0 ?_
    refine Run.ret ?_
    cases h
    refine ⟨_, _, by cbv, ?_, ?_⟩
    · exact LLe.r
    · exact (ALe.v LLe.r ALe.nil)
   ·
    have h := if_f c5 h
    refine Run.skip ?_
    refine Run.seq ?_
    refine Run.region hL hT [] (by cbv) hq0 ?_
    refine Run.ret ?_
    cases h
    refine ⟨_, _, by cbv, ?_, ?_⟩
    · exact LLe.r
    · exact (ALe.v LLe.r ALe.nil)
theorem qXN {qcE : Int} {qGG : Int} {a0v_V : Int} {qiR : Int} {qBV : Int} {a1v_V : Int} {r : Bool} (h : quF.f (Cond.mk qcE qGG a0v_V) (Cond.mk qiR qBV a1v_V) = some r) : AC Tryz.prog 100 [.ag [.s (.int .i64 qcE), .s (.int .i64 qGG), .s (.int .i64 a0v_V)], .ag [.s (.int .i64 qiR), .s (.int .i64 qBV), .s (.int .i64 a1v_V)]] [.ag [.jk, .jk, .jk], .ag [.jk, .jk, .jk]] [.v (.s (.bool r))] := by
 unfold quF.f at h
 show AC Tryz.prog 100 [.ag [.s (.int .i64 qcE), .s (.int .i64 qGG), .s (.int .i64 a0v_V)], .ag [.s (.int .i64 qiR), .s (.int .i64 qBV), .s (.int .i64 a1v_V)]] _ _
 refine run3 Tryz.func100 (by rfl) (by rfl) (by cbv) ⟨by decide, rfl⟩ ?_
 intro ar cm bo sc sa sx ss sl bs sb ln sr ap up rp fr ge le lt nz mm ma sm fl al ci hL F hP hA hT hM hC
 refine Run.seq ?_
 refine Run.region hL hT [] (by cbv) hq0 ?_
 refine Run.seq ?_
 refine Run.seq ?_
 refine Run.region hL hT [] (by cbv) ?_ ?_
 · exact (hq Tt (hq Tt (hq Tt hq0)))
 refine Run.cond (by cbv) (hq0) (fun c1 => ?_) (fun c1 => ?_)
 ·
  have h := if_t c1 h
  refine Run.seq ?_
  refine Run.region hL hT [] (by cbv) hq0 ?_
  refine Run.ret ?_
  cases h
  refine ⟨_, _, by cbv, ?_, ?_⟩
  · exact LLe.r
  · exact (ALe.v LLe.r ALe.nil)
 ·
  have h := if_f c1 h
  refine Run.skip ?_
  refine Run.seq ?_
  refine Run.seq ?_
  refine Run.region hL hT [] (by cbv) ?_ ?_
  · exact (hq Tt (hq Tt (hq Tt hq0)))
  refine Run.cond (by cbv) (hq0) (fun c2 => ?_) (fun c2 => ?_)
  ·
   have h := if_t c2 h
   refine Run.seq ?_
   refine Run.region hL hT [] (by cbv) hq0 ?_
   refine Run.ret ?_
   cases h
   refine ⟨_, _, by cbv, ?_, ?_⟩
   · exact LLe.r
   · exact (ALe.v LLe.r ALe.nil)
  ·
   have h := if_f c2 h
   refine Run.skip ?_
   refine Run.seq ?_
   refine Run.seq ?_
   refine Run.region hL hT [] (by cbv) ?_ ?_
   · exact (hq Tt (hq Tt (hq Tt hq0)))
   refine Run.cond (by cbv) (hq0) (fun c3 => ?_) (fun c3 => ?_)
   ·
    have h := if_t c3 h
    refine Run.seq ?_
    refine Run.region hL hT [] (by cbv) hq0 ?_
    refine Run.ret ?_
    cases h
    refine ⟨_, _, by cbv, ?_, ?_⟩
    · exact LLe.r
    · exact (ALe.v LLe.r ALe.nil)
   ·
    have h := if_f c3 h
    refine Run.skip ?_
    refine Run.seq ?_
    refine Run.region hL hT [] (by cbv) hq0 ?_
    refine Run.ret ?_
    cases h
    refine ⟨_, _, by cbv, ?_, ?_⟩
    · exact LLe.r
    · exact (ALe.v LLe.r ALe.nil)
theorem qgM {a0 : List Cond} {a1 : List Cond} {r : Bool} (h : qaC.f a0 a1 = some r) : AC Tryz.prog 60 [.v (.im false (rowsOf Cond_c a0)), .v (.im false (rowsOf Cond_c a1))] [.v (.jk), .v (.jk)] [.v (.s (.bool r))] := by
 unfold qaC.f at h
 let qJ := rowsOf Cond_c
 let qWB := @lenI Cond
 show AC Tryz.prog 60 [.v (.im false (qJ a0)), .v (.im false (qJ a1))] _ _
 refine run3 Tryz.func60 (by rfl) (by rfl) (by cbv) ⟨by decide, rfl⟩ ?_
 intro ar cm bo sc sa sx ss sl bs sb ln sr ap up rp fr ge le lt nz mm ma sm fl al ci hL F hP hA hT hM hC
 refine Run.seq ?_
 refine Run.region hL hT [] (by cbv) hq0 ?_
 refine Run.seq ?_
 refine Run.seq ?_
 refine Run.region hL hT [] (by cbv) ?_ ?_
 · exact (hq Tt hq0)
 rw [show ln (qJ a0) = qWB a0 from ln_eq Cond_c _]
 rw [show ln (qJ a1) = qWB a1 from ln_eq Cond_c _]
 refine Run.cond (by cbv) (hq0) (fun c1 => ?_) (fun c1 => ?_)
 ·
  have h := if_t c1 h
  refine Run.seq ?_
  refine Run.region hL hT [] (by cbv) hq0 ?_
  refine Run.ret ?_
  cases h
  refine ⟨_, _, by cbv, ?_, ?_⟩
  · exact LLe.r
  · exact (ALe.v LLe.r ALe.nil)
 ·
  have h := if_f c1 h
  refine Run.skip ?_
  refine Run.seq ?_
  refine Run.seq ?_
  refine Run.region hL hT [] (by cbv) hq0 ?_
  refine Run.block ?_
  refine Run.loop1 (fun (z5 : Int) => ⟨27, 100000, [(0, .t (.im false (qJ a0))), (1, .t (.im false (qJ a1))), (5, .t (.s (.int .i64 z5)))], []⟩) (x0 := 0) h (Weak.of _ [] hA (by cbv) ?_) (fun _ => rfl) ?_
  · repeat (first | exact hq0 | refine hq (by first | exact Tt | rfl) ?_)
  ·
   intro k z5 h
   rw [qaC.l0] at h
   refine Run.seq ?_
   refine Run.seq ?_
   refine Run.region hL hT [] (by cbv) ?_ ?_
   · exact (hq Tt hq0)
   rw [show ln (qJ a0) = qWB a0 from ln_eq Cond_c _]
   refine Run.cond (by cbv) (hq0) (fun c6 => ?_) (fun c6 => ?_)
   ·
    have h := if_t c6 h
    refine Run.skip ?_
    refine Run.seq ?_
    refine Run.block ?_
    refine Run.seq ?_
    obtain ⟨⟨qDX, qqX, x7v_V⟩, h_x7, h⟩ := bnd h
    obtain ⟨⟨qjJ, qHO, x8v_V⟩, h_x8, h⟩ := bnd h
    obtain ⟨r9, h_r9, h⟩ := bnd h
    refine Run.draw hL hT hM [(2, .el [.s (.int .i64 qDX), .s (.int .i64 qqX), .s (.int .i64 x7v_V)]), (6, .el [.s (.int .i64 qjJ), .s (.int .i64 qHO), .s (.int .i64 x8v_V)]), (8, .call [false, false] [.ag [.jk, .jk, .jk], .ag [.jk, .jk, .jk]] [.v (.s (.bool r9))])] (by cbv) (by cbv) (by cbv) (by cbv) (by cbv) ?_ ?_
    · exact (hq (qM h_x7) (hq (qb (f := Cond_c) h_x7) (hq (qx (f := Cond_c) h_x7) (hq (qM h_x8) (hq (qb (f := Cond_c) h_x8) (hq (qx (f := Cond_c) h_x8) (hq (hC (qXN h_r9)) hq0)))))))
    refine Run.cond (by cbv) (hq0) (fun c10 => ?_) (fun c10 => ?_)
    ·
     have h := if_t c10 h
     refine Run.seq ?_
     refine Run.region hL hT [] (by cbv) hq0 ?_
     refine Run.ret ?_
     cases h
     refine ⟨_, _, by cbv, ?_, ?_⟩
     · exact LLe.r
     · exact (ALe.v LLe.r ALe.nil)
    ·
     have h := if_f c10 h
     refine Run.skip ?_
     refine Run.region hL hT [] (by cbv) ?_ ?_
     · exact (hq Tt hq0)
     refine ⟨(ar .add .i64 z5 1), h, Weak.of _ [] hA (by cbv) ?_⟩
     repeat (first | exact hq0 | refine hq (by first | exact Tt | rfl) ?_)
   ·
    have h := if_f c6 h
    refine Run.exit ?_
    refine Run.seq ?_
    refine Run.region hL hT [] (by cbv) hq0 ?_
    refine Run.ret ?_
    cases h
    refine ⟨_, _, by cbv, ?_, ?_⟩
    · exact LLe.r
    · exact (ALe.v LLe.r ALe.nil)
theorem qhM {qW : Int} {qS : List Cond} {qX : Int} {qi : Bool} {qY : Int} {qe : List Int} {qj : Bool} {qK : Int} {qQ : Int} {ql : Int} {qP : List Cond} {qm : Int} {qy : Bool} {qn : Int} {qq : List Int} {qz : Bool} {qN : Int} {qZ : Int} {r : Bool} (h : qfE.f (Query.mk qW qS qX qi qY qe qj qK qQ) (Query.mk ql qP qm qy qn qq qz qN qZ) = some r) : AC Tryz.prog 21 [.ag [.s (.int .i64 qW), .im false (rowsOf Cond_c qS), .s (.int .i64 qX), .s (.bool qi), .s (.int .i64 qY), .im false (rowsOf Int_c qe), .s (.bool qj), .s (.int .i64 qK), .s (.int .i64 qQ)], .ag [.s (.int .i64 ql), .im false (rowsOf Cond_c qP), .s (.int .i64 qm), .s (.bool qy), .s (.int .i64 qn), .im false (rowsOf Int_c qq), .s (.bool qz), .s (.int .i64 qN), .s (.int .i64 qZ)]] [.ag [.jk, .jk, .jk, .jk, .jk, .jk, .jk, .jk, .jk], .ag [.jk, .jk, .jk, .jk, .jk, .jk, .jk, .jk, .jk]] [.v (.s (.bool r))] := by
 unfold qfE.f at h
 let qJ := rowsOf Cond_c
 let qB := rowsOf Int_c
 show AC Tryz.prog 21 [.ag [.s (.int .i64 qW), .im false (qJ qS), .s (.int .i64 qX), .s (.bool qi), .s (.int .i64 qY), .im false (qB qe), .s (.bool qj), .s (.int .i64 qK), .s (.int .i64 qQ)], .ag [.s (.int .i64 ql), .im false (qJ qP), .s (.int .i64 qm), .s (.bool qy), .s (.int .i64 qn), .im false (qB qq), .s (.bool qz), .s (.int .i64 qN), .s (.int .i64 qZ)]] _ _
 refine run3 Tryz.func21 (by rfl) (by rfl) (by cbv) ⟨by decide, rfl⟩ ?_
 intro ar cm bo sc sa sx ss sl bs sb ln sr ap up rp fr ge le lt nz mm ma sm fl al ci hL F hP hA hT hM hC
 refine Run.seq ?_
 refine Run.region hL hT [] (by cbv) hq0 ?_
 refine Run.seq ?_
 refine Run.seq ?_
 refine Run.region hL hT [] (by cbv) ?_ ?_
 · exact (hq Tt (hq Tt (hq Tt hq0)))
 refine Run.cond (by cbv) (hq0) (fun c1 => ?_) (fun c1 => ?_)
 ·
  have h := if_t c1 h
  refine Run.seq ?_
  refine Run.region hL hT [] (by cbv) hq0 ?_
  refine Run.ret ?_
  cases h
  refine ⟨_, _, by cbv, ?_, ?_⟩
  · exact LLe.r
  · exact (ALe.v LLe.r ALe.nil)
 ·
  have h := if_f c1 h
  refine Run.skip ?_
  refine Run.seq ?_
  refine Run.seq ?_
  obtain ⟨r2, h_r2, h⟩ := bnd h
  refine Run.region hL hT [(4, .call [false, false] [.v (.jk), .v (.jk)] [.v (.s (.bool r2))])] (by cbv) ?_ ?_
  · exact (hq Tt (hq Tt (hq (hC (qgM h_r2)) hq0)))
  refine Run.cond (by cbv) (hq0) (fun c3 => ?_) (fun c3 => ?_)
  ·
   have h := if_t c3 h
   refine Run.seq ?_
   refine Run.region hL hT [] (by cbv) hq0 ?_
   refine Run.ret ?_
   cases h
   refine ⟨_, _, by cbv, ?_, ?_⟩
   · exact LLe.r
   · exact (ALe.v LLe.r ALe.nil)
  ·
   have h := if_f c3 h
   refine Run.skip ?_
   refine Run.seq ?_
   refine Run.seq ?_
   refine Run.region hL hT [] (by cbv) ?_ ?_
   · exact (hq Tt (hq Tt (hq Tt hq0)))
   refine Run.cond (by cbv) (hq0) (fun c4 => ?_) (fun c4 => ?_)
   ·
    have h := if_t c4 h
    refine Run.seq ?_
    refine Run.region hL hT [] (by cbv) hq0 ?_
    refine Run.ret ?_
    cases h
    refine ⟨_, _, by cbv, ?_, ?_⟩
    · exact LLe.r
    · exact (ALe.v LLe.r ALe.nil)
   ·
    have h := if_f c4 h
    refine Run.skip ?_
    refine Run.seq ?_
    refine Run.seq ?_
    refine Run.region hL hT [] (by cbv) ?_ ?_
    · exact (hq Tt (hq Tt hq0))
    refine Run.cond (by cbv) (hq0) (fun c5 => ?_) (fun c5 => ?_)
    ·
     have h := if_t c5 h
     refine Run.seq ?_
     refine Run.region hL hT [] (by cbv) hq0 ?_
     refine Run.ret ?_
     cases h
     refine ⟨_, _, by cbv, ?_, ?_⟩
     · exact LLe.r
     · exact (ALe.v LLe.r ALe.nil)
    ·
     have h := if_f c5 h
     refine Run.skip ?_
     refine Run.seq ?_
     refine Run.seq ?_
     refine Run.region hL hT [] (by cbv) ?_ ?_
     · exact (hq Tt (hq Tt (hq Tt hq0)))
     refine Run.cond (by cbv) (hq0) (fun c6 => ?_) (fun c6 => ?_)
     ·
      have h := if_t c6 h
      refine Run.seq ?_
      refine Run.region hL hT [] (by cbv) hq0 ?_
      refine Run.ret ?_
      cases h
      refine ⟨_, _, by cbv, ?_, ?_⟩
      · exact LLe.r
      · exact (ALe.v LLe.r ALe.nil)
     ·
      have h := if_f c6 h
      refine Run.skip ?_
      refine Run.seq ?_
      refine Run.seq ?_
      obtain ⟨r7, h_r7, h⟩ := bnd h
      refine Run.region hL hT [(4, .call [false, false] [.v (.jk), .v (.jk)] [.v (.s (.bool r7))])] (by cbv) ?_ ?_
      · exact (hq Tt (hq Tt (hq (hC (qoG h_r7)) hq0)))
      refine Run.cond (by cbv) (hq0) (fun c8 => ?_) (fun c8 => ?_)
      ·
       have h := if_t c8 h
       refine Run.seq ?_
       refine Run.region hL hT [] (by cbv) hq0 ?_
       refine Run.ret ?_
       cases h
       refine ⟨_, _, by cbv, ?_, ?_⟩
       · exact LLe.r
       · exact (ALe.v LLe.r ALe.nil)
      ·
       have h := if_f c8 h
       refine Run.skip ?_
       refine Run.seq ?_
       refine Run.seq ?_
       refine Run.region hL hT [] (by cbv) ?_ ?_
       · exact (hq Tt (hq Tt hq0))
       refine Run.cond (by cbv) (hq0) (fun c9 => ?_) (fun c9 => ?_)
       ·
        have h := if_t c9 h
        refine Run.seq ?_
        refine Run.region hL hT [] (by cbv) hq0 ?_
        refine Run.ret ?_
        cases h
        refine ⟨_, _, by cbv, ?_, ?_⟩
        · exact LLe.r
        · exact (ALe.v LLe.r ALe.nil)
       ·
        have h := if_f c9 h
        refine Run.skip ?_
        refine Run.seq ?_
        refine Run.seq ?_
        refine Run.region hL hT [] (by cbv) ?_ ?_
        · exact (hq Tt (hq Tt (hq Tt hq0)))
        refine Run.cond (by cbv) (hq0) (fun c10 => ?_) (fun c10 => ?_)
        ·
         have h := if_t c10 h
         refine Run.seq ?_
         refine Run.region hL hT [] (by cbv) hq0 ?_
         refine Run.ret ?_
         cases h
         refine ⟨_, _, by cbv, ?_, ?_⟩
         · exact LLe.r
         · exact (ALe.v LLe.r ALe.nil)
        ·
         have h := if_f c10 h
         refine Run.skip ?_
         refine Run.seq ?_
         refine Run.seq ?_
         refine Run.region hL hT [] (by cbv) ?_ ?_
         · exact (hq Tt (hq Tt (hq Tt hq0)))
         refine Run.cond (by cbv) (hq0) (fun c11 => ?_) (fun c11 => ?_)
         ·
          have h := if_t c11 h
          refine Run.seq ?_
          refine Run.region hL hT [] (by cbv) hq0 ?_
          refine Run.ret ?_
          cases h
          refine ⟨_, _, by cbv, ?_, ?_⟩
          · exact LLe.r
          · exact (ALe.v LLe.r ALe.nil)
         ·
          have h := if_f c11 h
          refine Run.skip ?_
          refine Run.seq ?_
          refine Run.region hL hT [] (by cbv) hq0 ?_
          refine Run.ret ?_
          cases h
          refine ⟨_, _, by cbv, ?_, ?_⟩
          · exact LLe.r
          · exact (ALe.v LLe.r ALe.nil)
theorem qcF {a0 : List Int} {a1 : Int} {r : (List Int) × Int} (h : qjB.f a0 a1 = some r) : AC Tryz.prog 65 [.v (.ow 3 (rowsOf Int_c a0)), .v (.s (.int .i64 a1))] [.v (.ow 3 (rowsOf Int_c r.1)), .v (.jk)] [.v (.s (.int .i64 r.2))] := by
 unfold qjB.f at h
 let qB := rowsOf Int_c
 let qh := @lenI Int
 show AC Tryz.prog 65 [.v (.ow 3 (qB a0)), .v (.s (.int .i64 a1))] _ _
 refine run3 Tryz.func65 (by rfl) (by rfl) (by cbv) ⟨by decide, rfl⟩ ?_
 intro ar cm bo sc sa sx ss sl bs sb ln sr ap up rp fr ge le lt nz mm ma sm fl al ci hL F hP hA hT hM hC
 refine Run.seq ?_
 refine Run.region hL hT [] (by cbv) hq0 ?_
 refine Run.seq ?_
 refine Run.seq ?_
 refine Run.region hL hT [] (by cbv) hq0 ?_
 refine Run.block ?_
 refine Run.loop3 (fun (z4 : List Int) (z5 : Int) (z6 : Int) => ⟨19, 100000, [(0, .rf 0), (1, .t (.s (.int .i64 z5))), (5, .t (.s (.int .i64 z6)))], [(0, .row 0 3 1 (qB z4))]⟩) (x0 := a0) (x1 := a1) (x2 := 0) h (Weak.of _ [(0, 0)] hA (by cbv) ?_) (fun _ _ _ => rfl) ?_
 · repeat (first | exact hq0 | refine hq (by first | exact Tt | rfl) ?_)
 ·
  intro k z4 z5 z6 h
  rw [qjB.l0] at h
  refine Run.seq ?_
  refine Run.seq ?_
  refine Run.region hL hT [] (by cbv) ?_ ?_
  · exact (hq Tt hq0)
  rw [show ln (qB z4) = qh z4 from ln_eq Int_c _]
  refine Run.cond (by cbv) (hq0) (fun c7 => ?_) (fun c7 => ?_)
  ·
   have h := if_t c7 h
   refine Run.skip ?_
   refine Run.seq ?_
   refine Run.block ?_
   refine Run.seq ?_
   obtain ⟨x8, h_x8, h⟩ := bnd h
   obtain ⟨l9, h_l9, h⟩ := bnd h
   refine Run.region hL hT [] (by cbv) ?_ ?_
   · exact (hq (qM h_x8) (hq (qb (f := Int_c) h_x8) (hq (qM h_x8) (hq (qb (f := Int_c) h_x8) hq0))))
   refine Run.row (rows := (up (qB z4) z6 0 [.s (.int .i64 z5)])) 0 (qB l9) (by cbv) (qcH (f := Int_c) h_x8 h_l9 rfl LLe.r) ?_
   refine Run.region hL hT [] (by cbv) ?_ ?_
   · exact (hq Tt hq0)
   refine Run.region hL hT [] (by cbv) ?_ ?_
   · exact (hq Tt hq0)
   refine ⟨l9, (ar .add .i64 z5 1), (ar .add .i64 z6 1), h, Weak.of _ [(0, 0)] hA (by cbv) ?_⟩
   repeat (first | exact hq0 | refine hq (by first | exact Tt | rfl) ?_)
  ·
   have h := if_f c7 h
   refine Run.exit ?_
   refine Run.seq ?_
   refine Run.region hL hT [] (by cbv) hq0 ?_
   refine Run.ret ?_
   cases h
   refine ⟨_, _, by cbv, ?_, ?_⟩
   · exact LLe.r
   · exact (ALe.v LLe.r ALe.nil)
theorem qOJ {qO : List Int} {a1 : Int} {r : Schema × Int} (h : qwD.f (Schema.mk qO) a1 = some r) : AC Tryz.prog 62 [.ag [.ow 3 (rowsOf Int_c qO)], .v (.s (.int .i64 a1))] [.ag [.ow 3 (rowsOf Int_c r.1.Cols)], .v (.jk)] [.v (.s (.int .i64 r.2))] := by
 unfold qwD.f at h
 let qB := rowsOf Int_c
 show AC Tryz.prog 62 [.ag [.ow 3 (qB qO)], .v (.s (.int .i64 a1))] _ _
 refine run3 Tryz.func62 (by rfl) (by rfl) (by cbv) ⟨by decide, rfl⟩ ?_
 intro ar cm bo sc sa sx ss sl bs sb ln sr ap up rp fr ge le lt nz mm ma sm fl al ci hL F hP hA hT hM hC
 refine Run.seq ?_
 refine Run.region hL hT [] (by cbv) hq0 ?_
 refine Run.seq ?_
 obtain ⟨⟨r1v_1, r1v_2⟩, h_r1, h⟩ := bnd h
 refine Run.region hL hT [(3, .call [true, false] [.v (.ow 3 (qB r1v_1)), .v (.jk)] [.v (.s (.int .i64 r1v_2))])] (by cbv) ?_ ?_
 · exact (hq Tt (hq (hC (qcF h_r1)) hq0))
 refine Run.seq ?_
 refine Run.region hL hT [] (by cbv) hq0 ?_
 refine Run.ret ?_
 cases h
 refine ⟨_, _, by cbv, ?_, ?_⟩
 · exact LLe.r
 · exact (ALe.v LLe.r ALe.nil)
theorem qaK {a0 : List Row} {a1 : Int} {r : (List Row) × Int} (h : qyB.f a0 a1 = some r) : AC Tryz.prog 36 [.v (.ow 91 (rowsOf Row_o a0)), .v (.s (.int .i64 a1))] [.v (.ow 91 (rowsOf Row_o r.1)), .v (.jk)] [.v (.s (.int .i64 r.2))] := by
 unfold qyB.f at h
 let qB := rowsOf Int_c
 let qf := rowsOf Row_o
 let qDB := @lenI Row
 show AC Tryz.prog 36 [.v (.ow 91 (qf a0)), .v (.s (.int .i64 a1))] _ _
 refine run3 Tryz.func36 (by rfl) (by rfl) (by cbv) ⟨by decide, rfl⟩ ?_
 intro ar cm bo sc sa sx ss sl bs sb ln sr ap up rp fr ge le lt nz mm ma sm fl al ci hL F hP hA hT hM hC
 refine Run.seq ?_
 refine Run.region hL hT [] (by cbv) hq0 ?_
 refine Run.seq ?_
 refine Run.seq ?_
 refine Run.region hL hT [] (by cbv) hq0 ?_
 refine Run.block ?_
 refine Run.loop3 (fun (z4 : List Row) (z5 : Int) (z6 : Int) => ⟨27, 100000, [(0, .rf 0), (1, .t (.s (.int .i64 z5))), (5, .t (.s (.int .i64 z6)))], [(0, .row 0 91 2 (qf z4))]⟩) (x0 := a0) (x1 := a1) (x2 := 0) h (Weak.of _ [(0, 0)] hA (by cbv) ?_) (fun _ _ _ => rfl) ?_
 · repeat (first | exact hq0 | refine hq (by first | exact Tt | rfl) ?_)
 ·
  intro k z4 z5 z6 h
  rw [qyB.l0] at h
  refine Run.seq ?_
  refine Run.seq ?_
  refine Run.region hL hT [] (by cbv) ?_ ?_
  · exact (hq Tt hq0)
  rw [show ln (qf z4) = qDB z4 from ln_eq Row_o _]
  refine Run.cond (by cbv) (hq0) (fun c7 => ?_) (fun c7 => ?_)
  ·
   have h := if_t c7 h
   refine Run.skip ?_
   refine Run.seq ?_
   refine Run.block ?_
   refine Run.seq ?_
   obtain ⟨⟨qBO, qFH⟩, h_x8, h⟩ := bnd h
   obtain ⟨l9, h_l9, h⟩ := bnd h
   refine Run.region hL hT [] (by cbv) ?_ ?_
   · exact (hq (qM h_x8) (hq (qb (f := Row_o) h_x8) (hq (qM h_x8) (hq (qb (f := Row_o) h_x8) hq0))))
   refine Run.row (rows := (up (qf z4) z6 0 [.s (.int .i64 z5)])) 0 (qf l9) (by cbv) (qcH (f := Row_o) h_x8 h_l9 rfl LLe.r) ?_
   refine Run.seq ?_
   refine Run.region hL hT [] (by cbv) ?_ ?_
   · exact (hq Tt hq0)
   obtain ⟨⟨qNM, qGH⟩, h_x10, h⟩ := bnd h
   obtain ⟨⟨r11v_1, r11v_2⟩, h_r11, h⟩ := bnd h
   refine Run.weak ?_ (Weak.take (rows := qf l9) (e2 := 3) (r2 := qB qGH) hT 0 z6 1 115288 1115288 (by cbv) (by cbv) (by cbv) (qcC h_x10) (qcD Row_o h_x10) ((congrArg (fun q => q[1]?) (qx (f := Row_o) h_x10)).trans rfl) rfl (up (qf l9) z6 1 [.jk]) rfl)
   refine Run.region hL hT [(4, .lk [.s (.int .i64 qNM), .jk] [(1, 1115288)]), (6, .call [true, false] [.v (.ow 3 (qB r11v_1)), .v (.jk)] [.v (.s (.int .i64 r11v_2))])] (by cbv) ?_ ?_
   · exact (hq (qM h_x10) (hq (up_lt Row_o h_x10) (hq Tt (hq (qM h_x10) (hq (up_lt Row_o h_x10) (hq (up_ge Row_o h_x10) (hq (hC (qcF h_r11)) hq0)))))))
   obtain ⟨l12, h_l12, h⟩ := bnd h
   refine Run.weak ?_ (Weak.back (rows := (up (qf l9) z6 1 [.jk])) (r2 := qB r11v_1) 0 z6 1 115288 1115288 (by cbv) (by cbv) (by cbv) (by cbv) (qcC h_x10) (up_lt Row_o h_x10) ((congrArg (fun q => q[1]?) (up_at Row_o h_x10)).trans rfl) (up (up (qf l9) z6 1 [.jk]) z6 1 [.ow 3 (qB r11v_1)]) rfl)
   refine Run.weak ?_ (Weak.row (rows := (up (up (qf l9) z6 1 [.jk]) z6 1 [.ow 3 (qB r11v_1)])) 0 (qf l12) (by cbv) (qPR (f := Row_o) h_x10 h_l12 (ltn (qjI _) (by decide)) rfl LLe.r))
   refine Run.region hL hT [] (by cbv) ?_ ?_
   · exact (hq Tt hq0)
   refine ⟨l12, r11v_2, (ar .add .i64 z6 1), h, Weak.of _ [(0, 0)] hA (by cbv) ?_⟩
   repeat (first | exact hq0 | refine hq (by first | exact Tt | rfl) ?_)
  ·
   have h := if_f c7 h
   refine Run.exit ?_
   refine Run.seq ?_
   refine Run.region hL hT [] (by cbv) hq0 ?_
   refine Run.ret ?_
   cases h
   refine ⟨_, _, by cbv, ?_, ?_⟩
   · exact LLe.r
   · exact (ALe.v LLe.r ALe.nil)
theorem qrJ {a0 : List (List Row)} {a1 : Int} {r : (List (List Row)) × Int} (h : qnB.f a0 a1 = some r) : AC Tryz.prog 63 [.v (.ow 39 (rowsOf qXD a0)), .v (.s (.int .i64 a1))] [.v (.ow 39 (rowsOf qXD r.1)), .v (.jk)] [.v (.s (.int .i64 r.2))] := by
 unfold qnB.f at h
 let qrC := rowsOf qXD
 let qf := rowsOf Row_o
 let qFC := @lenI (List Row)
 show AC Tryz.prog 63 [.v (.ow 39 (qrC a0)), .v (.s (.int .i64 a1))] _ _
 refine run3 Tryz.func63 (by rfl) (by rfl) (by cbv) ⟨by decide, rfl⟩ ?_
 intro ar cm bo sc sa sx ss sl bs sb ln sr ap up rp fr ge le lt nz mm ma sm fl al ci hL F hP hA hT hM hC
 refine Run.seq ?_
 refine Run.region hL hT [] (by cbv) hq0 ?_
 refine Run.seq ?_
 refine Run.seq ?_
 refine Run.region hL hT [] (by cbv) hq0 ?_
 refine Run.block ?_
 refine Run.loop3 (fun (z4 : List (List Row)) (z5 : Int) (z6 : Int) => ⟨19, 100000, [(0, .rf 0), (1, .t (.s (.int .i64 z5))), (5, .t (.s (.int .i64 z6)))], [(0, .row 0 39 1 (qrC z4))]⟩) (x0 := a0) (x1 := a1) (x2 := 0) h (Weak.of _ [(0, 0)] hA (by cbv) ?_) (fun _ _ _ => rfl) ?_
 · repeat (first | exact hq0 | refine hq (by first | exact Tt | rfl) ?_)
 ·
  intro k z4 z5 z6 h
  rw [qnB.l0] at h
  refine Run.seq ?_
  refine Run.seq ?_
  refine Run.region hL hT [] (by cbv) ?_ ?_
  · exact (hq Tt hq0)
  rw [show ln (qrC z4) = qFC z4 from ln_eq qXD _]
  refine Run.cond (by cbv) (hq0) (fun c7 => ?_) (fun c7 => ?_)
  ·
   have h := if_t c7 h
   refine Run.skip ?_
   refine Run.seq ?_
   refine Run.block ?_
   obtain ⟨x8, h_x8, h⟩ := bnd h
   obtain ⟨⟨r9v_1, r9v_2⟩, h_r9, h⟩ := bnd h
   refine Run.weak ?_ (Weak.take (rows := qrC z4) (e2 := 91) (r2 := qf x8) hT 0 z6 0 107096 1107096 (by cbv) (by cbv) (by cbv) (qcC h_x8) (qcD qXD h_x8) ((congrArg (fun q => q[0]?) (qx (f := qXD) h_x8)).trans rfl) rfl (up (qrC z4) z6 0 [.jk]) rfl)
   refine Run.region hL hT [(3, .lk [.jk] [(0, 1107096)]), (5, .call [true, false] [.v (.ow 91 (qf r9v_1)), .v (.jk)] [.v (.s (.int .i64 r9v_2))])] (by cbv) ?_ ?_
   · exact (hq (qM h_x8) (hq (up_lt qXD h_x8) (hq Tt (hq (qM h_x8) (hq (up_lt qXD h_x8) (hq (up_ge qXD h_x8) (hq (hC (qaK h_r9)) hq0)))))))
   obtain ⟨l10, h_l10, h⟩ := bnd h
   refine Run.weak ?_ (Weak.back (rows := (up (qrC z4) z6 0 [.jk])) (r2 := qf r9v_1) 0 z6 0 107096 1107096 (by cbv) (by cbv) (by cbv) (by cbv) (qcC h_x8) (up_lt qXD h_x8) ((congrArg (fun q => q[0]?) (up_at qXD h_x8)).trans rfl) (up (up (qrC z4) z6 0 [.jk]) z6 0 [.ow 91 (qf r9v_1)]) rfl)
   refine Run.weak ?_ (Weak.row (rows := (up (up (qrC z4) z6 0 [.jk]) z6 0 [.ow 91 (qf r9v_1)])) 0 (qrC l10) (by cbv) (qPR (f := qXD) h_x8 h_l10 (ltn (qkV _) (by decide)) rfl LLe.r))
   refine Run.region hL hT [] (by cbv) ?_ ?_
   · exact (hq Tt hq0)
   refine ⟨l10, r9v_2, (ar .add .i64 z6 1), h, Weak.of _ [(0, 0)] hA (by cbv) ?_⟩
   repeat (first | exact hq0 | refine hq (by first | exact Tt | rfl) ?_)
  ·
   have h := if_f c7 h
   refine Run.exit ?_
   refine Run.seq ?_
   refine Run.region hL hT [] (by cbv) hq0 ?_
   refine Run.ret ?_
   cases h
   refine ⟨_, _, by cbv, ?_, ?_⟩
   · exact LLe.r
   · exact (ALe.v LLe.r ALe.nil)
theorem qsJ {qF : List Int} {qV : Int} {qT : List (List Row)} {a1 : Int} {r : Store × Int} (h : qNE.f (Store.mk (Schema.mk qF) qV qT) a1 = some r) : AC Tryz.prog 22 [.ag [.ow 3 (rowsOf Int_c qF), .s (.int .i64 qV), .ow 39 (rowsOf qXD qT)], .v (.s (.int .i64 a1))] [.ag [.ow 3 (rowsOf Int_c r.1.Schema.Cols), .jk, .ow 39 (rowsOf qXD r.1.Tables)], .v (.jk)] [.v (.s (.int .i64 r.2))] := by
 unfold qNE.f at h
 let qB := rowsOf Int_c
 let qrC := rowsOf qXD
 show AC Tryz.prog 22 [.ag [.ow 3 (qB qF), .s (.int .i64 qV), .ow 39 (qrC qT)], .v (.s (.int .i64 a1))] _ _
 refine run3 Tryz.func22 (by rfl) (by rfl) (by cbv) ⟨by decide, rfl⟩ ?_
 intro ar cm bo sc sa sx ss sl bs sb ln sr ap up rp fr ge le lt nz mm ma sm fl al ci hL F hP hA hT hM hC
 refine Run.seq ?_
 refine Run.region hL hT [] (by cbv) hq0 ?_
 refine Run.seq ?_
 obtain ⟨⟨⟨r1v_1v_Cols⟩, r1v_2⟩, h_r1, h⟩ := bnd h
 refine Run.region hL hT [(3, .call [true, false] [.ag [.ow 3 (qB r1v_1v_Cols)], .v (.jk)] [.v (.s (.int .i64 r1v_2))])] (by cbv) ?_ ?_
 · exact (hq Tt (hq (hC (qOJ h_r1)) hq0))
 refine Run.seq ?_
 obtain ⟨⟨r2v_1, r2v_2⟩, h_r2, h⟩ := bnd h
 refine Run.region hL hT [(3, .call [true, false] [.v (.ow 39 (qrC r2v_1)), .v (.jk)] [.v (.s (.int .i64 r2v_2))])] (by cbv) ?_ ?_
 · exact (hq Tt (hq (hC (qrJ h_r2)) hq0))
 refine Run.seq ?_
 refine Run.region hL hT [] (by cbv) hq0 ?_
 refine Run.ret ?_
 cases h
 refine ⟨_, _, by cbv, ?_, ?_⟩
 · exact LLe.r
 · exact (ALe.v LLe.r ALe.nil)
theorem qtJ {a0 : List Cond} {a1 : Int} {r : (List Cond) × Int} (h : qoB.f a0 a1 = some r) : AC Tryz.prog 64 [.v (.ow 123 (rowsOf Cond_c a0)), .v (.s (.int .i64 a1))] [.v (.ow 123 (rowsOf Cond_c r.1)), .v (.jk)] [.v (.s (.int .i64 r.2))] := by
 unfold qoB.f at h
 let qJ := rowsOf Cond_c
 let qWB := @lenI Cond
 show AC Tryz.prog 64 [.v (.ow 123 (qJ a0)), .v (.s (.int .i64 a1))] _ _
 refine run3 Tryz.func64 (by rfl) (by rfl) (by cbv) ⟨by decide, rfl⟩ ?_
 intro ar cm bo sc sa sx ss sl bs sb ln sr ap up rp fr ge le lt nz mm ma sm fl al ci hL F hP hA hT hM hC
 refine Run.seq ?_
 refine Run.region hL hT [] (by cbv) hq0 ?_
 refine Run.seq ?_
 refine Run.seq ?_
 refine Run.region hL hT [] (by cbv) hq0 ?_
 refine Run.block ?_
 refine Run.loop3 (fun (z4 : List Cond) (z5 : Int) (z6 : Int) => ⟨34, 100000, [(0, .rf 0), (1, .t (.s (.int .i64 z5))), (5, .t (.s (.int .i64 z6)))], [(0, .row 0 123 3 (qJ z4))]⟩) (x0 := a0) (x1 := a1) (x2 := 0) h (Weak.of _ [(0, 0)] hA (by cbv) ?_) (fun _ _ _ => rfl) ?_
 · repeat (first | exact hq0 | refine hq (by first | exact Tt | rfl) ?_)
 ·
  intro k z4 z5 z6 h
  rw [qoB.l0] at h
  refine Run.seq ?_
  refine Run.seq ?_
  refine Run.region hL hT [] (by cbv) ?_ ?_
  · exact (hq Tt hq0)
  rw [show ln (qJ z4) = qWB z4 from ln_eq Cond_c _]
  refine Run.cond (by cbv) (hq0) (fun c7 => ?_) (fun c7 => ?_)
  ·
   have h := if_t c7 h
   refine Run.skip ?_
   refine Run.seq ?_
   refine Run.block ?_
   refine Run.seq ?_
   obtain ⟨⟨qjJ, qHO, x8v_V⟩, h_x8, h⟩ := bnd h
   obtain ⟨l9, h_l9, h⟩ := bnd h
   refine Run.region hL hT [] (by cbv) ?_ ?_
   · exact (hq (qM h_x8) (hq (qb (f := Cond_c) h_x8) (hq (qM h_x8) (hq (qb (f := Cond_c) h_x8) hq0))))
   refine Run.row (rows := (up (qJ z4) z6 0 [.s (.int .i64 z5)])) 0 (qJ l9) (by cbv) (qcH (f := Cond_c) h_x8 h_l9 rfl LLe.r) ?_
   refine Run.seq ?_
   refine Run.region hL hT [] (by cbv) ?_ ?_
   · exact (hq Tt hq0)
   refine Run.seq ?_
   obtain ⟨⟨qnV, quW, qhX⟩, h_x10, h⟩ := bnd h
   obtain ⟨l11, h_l11, h⟩ := bnd h
   refine Run.region hL hT [] (by cbv) ?_ ?_
   · exact (hq (qM h_x10) (hq (qb (f := Cond_c) h_x10) (hq (qM h_x10) (hq (qb (f := Cond_c) h_x10) hq0))))
   refine Run.row (rows := (up (qJ l9) z6 1 [.s (.int .i64 (ar .add .i64 z5 1))])) 0 (qJ l11) (by cbv) (qcH (f := Cond_c) h_x10 h_l11 rfl LLe.r) ?_
   refine Run.seq ?_
   refine Run.region hL hT [] (by cbv) ?_ ?_
   · exact (hq Tt hq0)
   refine Run.seq ?_
   obtain ⟨⟨qrX, qsX, qxX⟩, h_x12, h⟩ := bnd h
   obtain ⟨l13, h_l13, h⟩ := bnd h
   refine Run.region hL hT [] (by cbv) ?_ ?_
   · exact (hq (qM h_x12) (hq (qb (f := Cond_c) h_x12) (hq (qM h_x12) (hq (qb (f := Cond_c) h_x12) hq0))))
   refine Run.row (rows := (up (qJ l11) z6 2 [.s (.int .i64 (ar .add .i64 (ar .add .i64 z5 1) 1))])) 0 (qJ l13) (by cbv) (qcH (f := Cond_c) h_x12 h_l13 rfl LLe.r) ?_
   refine Run.region hL hT [] (by cbv) ?_ ?_
   · exact (hq Tt hq0)
   refine Run.region hL hT [] (by cbv) ?_ ?_
   · exact (hq Tt hq0)
   refine ⟨l13, (ar .add .i64 (ar .add .i64 (ar .add .i64 z5 1) 1) 1), (ar .add .i64 z6 1), h, Weak.of _ [(0, 0)] hA (by cbv) ?_⟩
   repeat (first | exact hq0 | refine hq (by first | exact Tt | rfl) ?_)
  ·
   have h := if_f c7 h
   refine Run.exit ?_
   refine Run.seq ?_
   refine Run.region hL hT [] (by cbv) hq0 ?_
   refine Run.ret ?_
   cases h
   refine ⟨_, _, by cbv, ?_, ?_⟩
   · exact LLe.r
   · exact (ALe.v LLe.r ALe.nil)
theorem quJ {qW : Int} {qS : List Cond} {qX : Int} {qi : Bool} {qY : Int} {qe : List Int} {qj : Bool} {qK : Int} {qQ : Int} {a1 : Int} {r : Query × Int} (h : qOE.f (Query.mk qW qS qX qi qY qe qj qK qQ) a1 = some r) : AC Tryz.prog 23 [.ag [.s (.int .i64 qW), .ow 123 (rowsOf Cond_c qS), .s (.int .i64 qX), .s (.bool qi), .s (.int .i64 qY), .ow 3 (rowsOf Int_c qe), .s (.bool qj), .s (.int .i64 qK), .s (.int .i64 qQ)], .v (.s (.int .i64 a1))] [.ag [.jk, .ow 123 (rowsOf Cond_c r.1.Where), .jk, .jk, .jk, .ow 3 (rowsOf Int_c r.1.Show), .jk, .jk, .jk], .v (.jk)] [.v (.s (.int .i64 r.2))] := by
 unfold qOE.f at h
 let qJ := rowsOf Cond_c
 let qB := rowsOf Int_c
 show AC Tryz.prog 23 [.ag [.s (.int .i64 qW), .ow 123 (qJ qS), .s (.int .i64 qX), .s (.bool qi), .s (.int .i64 qY), .ow 3 (qB qe), .s (.bool qj), .s (.int .i64 qK), .s (.int .i64 qQ)], .v (.s (.int .i64 a1))] _ _
 refine run3 Tryz.func23 (by rfl) (by rfl) (by cbv) ⟨by decide, rfl⟩ ?_
 intro ar cm bo sc sa sx ss sl bs sb ln sr ap up rp fr ge le lt nz mm ma sm fl al ci hL F hP hA hT hM hC
 refine Run.seq ?_
 refine Run.region hL hT [] (by cbv) hq0 ?_
 refine Run.seq ?_
 obtain ⟨⟨r1v_1, r1v_2⟩, h_r1, h⟩ := bnd h
 refine Run.region hL hT [(3, .call [true, false] [.v (.ow 123 (qJ r1v_1)), .v (.jk)] [.v (.s (.int .i64 r1v_2))])] (by cbv) ?_ ?_
 · exact (hq Tt (hq (hC (qtJ h_r1)) hq0))
 refine Run.seq ?_
 obtain ⟨⟨r2v_1, r2v_2⟩, h_r2, h⟩ := bnd h
 refine Run.region hL hT [(3, .call [true, false] [.v (.ow 3 (qB r2v_1)), .v (.jk)] [.v (.s (.int .i64 r2v_2))])] (by cbv) ?_ ?_
 · exact (hq Tt (hq (hC (qcF h_r2)) hq0))
 refine Run.seq ?_
 refine Run.region hL hT [] (by cbv) hq0 ?_
 refine Run.ret ?_
 cases h
 refine ⟨_, _, by cbv, ?_, ?_⟩
 · exact LLe.r
 · exact (ALe.v LLe.r ALe.nil)
theorem qiM (self : Json → Json → Option Bool) (hself : ∀ {qU : Int} {a0v_N : Int} {a0v_S : ByteArray} {qE : List Json} {qH : List ByteArray} {qgD : Int} {a1v_N : Int} {a1v_S : ByteArray} {qED : List Json} {qFD : List ByteArray} {r : Bool} (h : self (Json.mk qU a0v_N a0v_S qE qH) (Json.mk qgD a1v_N a1v_S qED qFD) = some r), AC Tryz.prog 9 [.ag [.s (.int .i64 qU), .s (.int .i64 a0v_N), .s (.string a0v_S), .im false (rowsOf qu qE), .im false (rowsOf Str_c qH)], .ag [.s (.int .i64 qgD), .s (.int .i64 a1v_N), .s (.string a1v_S), .im false (rowsOf qu qED), .im false (rowsOf Str_c qFD)]] [.ag [.jk, .jk, .jk, .jk, .jk], .ag [.jk, .jk, .jk, .jk, .jk]] [.v (.s (.bool r))]) {a0 : List Json} {a1 : List Json} {r : Bool} (h : qbC.f self a0 a1 = some r) : AC Tryz.prog 32 [.v (.im false (rowsOf qu a0)), .v (.im false (rowsOf qu a1))] [.v (.jk), .v (.jk)] [.v (.s (.bool r))] := by
 unfold qbC.f at h
 let qr := rowsOf qu
 let qR := rowsOf Str_c
 let qEB := @lenI Json
 show AC Tryz.prog 32 [.v (.im false (qr a0)), .v (.im false (qr a1))] _ _
 refine run3 Tryz.func32 (by rfl) (by rfl) (by cbv) ⟨by decide, rfl⟩ ?_
 intro ar cm bo sc sa sx ss sl bs sb ln sr ap up rp fr ge le lt nz mm ma sm fl al ci hL F hP hA hT hM hC
 refine Run.seq ?_
 refine Run.region hL hT [] (by cbv) hq0 ?_
 refine Run.seq ?_
 refine Run.seq ?_
 refine Run.region hL hT [] (by cbv) ?_ ?_
 · exact (hq Tt hq0)
 rw [show ln (qr a0) = qEB a0 from ln_eq qu _]
 rw [show ln (qr a1) = qEB a1 from ln_eq qu _]
 refine Run.cond (by cbv) (hq0) (fun c1 => ?_) (fun c1 => ?_)
 ·
  have h := if_t c1 h
  refine Run.seq ?_
  refine Run.region hL hT [] (by cbv) hq0 ?_
  refine Run.ret ?_
  cases h
  refine ⟨_, _, by cbv, ?_, ?_⟩
  · exact LLe.r
  · exact (ALe.v LLe.r ALe.nil)
 ·
  have h := if_f c1 h
  refine Run.skip ?_
  refine Run.seq ?_
  refine Run.seq ?_
  refine Run.region hL hT [] (by cbv) hq0 ?_
  refine Run.block ?_
  refine Run.loop1 (fun (z5 : Int) => ⟨27, 100000, [(0, .t (.im false (qr a0))), (1, .t (.im false (qr a1))), (5, .t (.s (.int .i64 z5)))], []⟩) (x0 := 0) h (Weak.of _ [] hA (by cbv) ?_) (fun _ => rfl) ?_
  · repeat (first | exact hq0 | refine hq (by first | exact Tt | rfl) ?_)
  ·
   intro k z5 h
   rw [qbC.l0] at h
   refine Run.seq ?_
   refine Run.seq ?_
   refine Run.region hL hT [] (by cbv) ?_ ?_
   · exact (hq Tt hq0)
   rw [show ln (qr a0) = qEB a0 from ln_eq qu _]
   refine Run.cond (by cbv) (hq0) (fun c6 => ?_) (fun c6 => ?_)
   ·
    have h := if_t c6 h
    refine Run.skip ?_
    refine Run.seq ?_
    refine Run.block ?_
    refine Run.seq ?_
    obtain ⟨⟨qXH, x7v_N, x7v_S, qCG, qDG⟩, h_x7, h⟩ := bnd h
    obtain ⟨⟨qUS, x8v_N, x8v_S, qfQ, qgQ⟩, h_x8, h⟩ := bnd h
    obtain ⟨r9, h_r9, h⟩ := bnd h
    refine Run.draw hL hT hM [(2, .el [.s (.int .i64 qXH), .s (.int .i64 x7v_N), .s (.string x7v_S), .im false (qr qCG), .im false (qR qDG)]), (6, .el [.s (.int .i64 qUS), .s (.int .i64 x8v_N), .s (.string x8v_S), .im false (qr qfQ), .im false (qR qgQ)]), (8, .call [false, false] [.ag [.jk, .jk, .jk, .jk, .jk], .ag [.jk, .jk, .jk, .jk, .jk]] [.v (.s (.bool r9))])] (by cbv) (by cbv) (by cbv) (by cbv) (by cbv) ?_ ?_
    · exact (hq (qM h_x7) (hq (qb (f := qu) h_x7) (hq (qAF qeD h_x7) (hq (qM h_x8) (hq (qb (f := qu) h_x8) (hq (qAF qeD h_x8) (hq (hC (hself h_r9)) hq0)))))))
    refine Run.cond (by cbv) (hq0) (fun c10 => ?_) (fun c10 => ?_)
    ·
     have h := if_t c10 h
     refine Run.seq ?_
     refine Run.region hL hT [] (by cbv) hq0 ?_
     refine Run.ret ?_
     cases h
     refine ⟨_, _, by cbv, ?_, ?_⟩
     · exact LLe.r
     · exact (ALe.v LLe.r ALe.nil)
    ·
     have h := if_f c10 h
     refine Run.skip ?_
     refine Run.region hL hT [] (by cbv) ?_ ?_
     · exact (hq Tt hq0)
     refine ⟨(ar .add .i64 z5 1), h, Weak.of _ [] hA (by cbv) ?_⟩
     repeat (first | exact hq0 | refine hq (by first | exact Tt | rfl) ?_)
   ·
    have h := if_f c6 h
    refine Run.exit ?_
    refine Run.seq ?_
    refine Run.region hL hT [] (by cbv) hq0 ?_
    refine Run.ret ?_
    cases h
    refine ⟨_, _, by cbv, ?_, ?_⟩
    · exact LLe.r
    · exact (ALe.v LLe.r ALe.nil)
theorem qvJ {a0 : List ByteArray} {a1 : List ByteArray} {r : Bool} (h : qCC.f a0 a1 = some r) : AC Tryz.prog 33 [.v (.im false (rowsOf Str_c a0)), .v (.im false (rowsOf Str_c a1))] [.v (.jk), .v (.jk)] [.v (.s (.bool r))] := by
 unfold qCC.f at h
 let qR := rowsOf Str_c
 let qkB := @lenI ByteArray
 show AC Tryz.prog 33 [.v (.im false (qR a0)), .v (.im false (qR a1))] _ _
 refine run3 Tryz.func33 (by rfl) (by rfl) (by cbv) ⟨by decide, rfl⟩ ?_
 intro ar cm bo sc sa sx ss sl bs sb ln sr ap up rp fr ge le lt nz mm ma sm fl al ci hL F hP hA hT hM hC
 refine Run.seq ?_
 refine Run.region hL hT [] (by cbv) hq0 ?_
 refine Run.seq ?_
 refine Run.seq ?_
 refine Run.region hL hT [] (by cbv) ?_ ?_
 · exact (hq Tt hq0)
 rw [show ln (qR a0) = qkB a0 from ln_eq Str_c _]
 rw [show ln (qR a1) = qkB a1 from ln_eq Str_c _]
 refine Run.cond (by cbv) (hq0) (fun c1 => ?_) (fun c1 => ?_)
 ·
  have h := if_t c1 h
  refine Run.seq ?_
  refine Run.region hL hT [] (by cbv) hq0 ?_
  refine Run.ret ?_
  cases h
  refine ⟨_, _, by cbv, ?_, ?_⟩
  · exact LLe.r
  · exact (ALe.v LLe.r ALe.nil)
 ·
  have h := if_f c1 h
  refine Run.skip ?_
  refine Run.seq ?_
  refine Run.seq ?_
  refine Run.region hL hT [] (by cbv) hq0 ?_
  refine Run.block ?_
  refine Run.loop1 (fun (z5 : Int) => ⟨26, 100000, [(0, .t (.im false (qR a0))), (1, .t (.im false (qR a1))), (5, .t (.s (.int .i64 z5)))], []⟩) (x0 := 0) h (Weak.of _ [] hA (by cbv) ?_) (fun _ => rfl) ?_
  · repeat (first | exact hq0 | refine hq (by first | exact Tt | rfl) ?_)
  ·
   intro k z5 h
   rw [qCC.l0] at h
   refine Run.seq ?_
   refine Run.seq ?_
   refine Run.region hL hT [] (by cbv) ?_ ?_
   · exact (hq Tt hq0)
   rw [show ln (qR a0) = qkB a0 from ln_eq Str_c _]
   refine Run.cond (by cbv) (hq0) (fun c6 => ?_) (fun c6 => ?_)
   ·
    have h := if_t c6 h
    refine Run.skip ?_
    refine Run.seq ?_
    refine Run.block ?_
    refine Run.seq ?_
    obtain ⟨x7, h_x7, h⟩ := bnd h
    obtain ⟨x8, h_x8, h⟩ := bnd h
    refine Run.draw hL hT hM [(2, .el [.s (.string x7)]), (6, .el [.s (.string x8)])] (by cbv) (by cbv) (by cbv) (by cbv) (by cbv) ?_ ?_
    · exact (hq (qM h_x7) (hq (qb (f := Str_c) h_x7) (hq (qx (f := Str_c) h_x7) (hq (qM h_x8) (hq (qb (f := Str_c) h_x8) (hq (qx (f := Str_c) h_x8) hq0))))))
    refine Run.cond (by cbv) (hq0) (fun c9 => ?_) (fun c9 => ?_)
    ·
     have h := if_t c9 h
     refine Run.seq ?_
     refine Run.region hL hT [] (by cbv) hq0 ?_
     refine Run.ret ?_
     cases h
     refine ⟨_, _, by cbv, ?_, ?_⟩
     · exact LLe.r
     · exact (ALe.v LLe.r ALe.nil)
    ·
     have h := if_f c9 h
     refine Run.skip ?_
     refine Run.region hL hT [] (by cbv) ?_ ?_
     · exact (hq Tt hq0)
     refine ⟨(ar .add .i64 z5 1), h, Weak.of _ [] hA (by cbv) ?_⟩
     repeat (first | exact hq0 | refine hq (by first | exact Tt | rfl) ?_)
   ·
    have h := if_f c6 h
    refine Run.exit ?_
    refine Run.seq ?_
    refine Run.region hL hT [] (by cbv) hq0 ?_
    refine Run.ret ?_
    cases h
    refine ⟨_, _, by cbv, ?_, ?_⟩
    · exact LLe.r
    · exact (ALe.v LLe.r ALe.nil)
theorem qjM (self : Json → Json → Option Bool) (hself : ∀ {qU : Int} {a0v_N : Int} {a0v_S : ByteArray} {qE : List Json} {qH : List ByteArray} {qgD : Int} {a1v_N : Int} {a1v_S : ByteArray} {qED : List Json} {qFD : List ByteArray} {r : Bool} (h : self (Json.mk qU a0v_N a0v_S qE qH) (Json.mk qgD a1v_N a1v_S qED qFD) = some r), AC Tryz.prog 9 [.ag [.s (.int .i64 qU), .s (.int .i64 a0v_N), .s (.string a0v_S), .im false (rowsOf qu qE), .im false (rowsOf Str_c qH)], .ag [.s (.int .i64 qgD), .s (.int .i64 a1v_N), .s (.string a1v_S), .im false (rowsOf qu qED), .im false (rowsOf Str_c qFD)]] [.ag [.jk, .jk, .jk, .jk, .jk], .ag [.jk, .jk, .jk, .jk, .jk]] [.v (.s (.bool r))]) {qU : Int} {a0v_N : Int} {a0v_S : ByteArray} {qE : List Json} {qH : List ByteArray} {qgD : Int} {a1v_N : Int} {a1v_S : ByteArray} {qED : List Json} {qFD : List ByteArray} {r : Bool} (h : qwB.b self (Json.mk qU a0v_N a0v_S qE qH) (Json.mk qgD a1v_N a1v_S qED qFD) = some r) : AC Tryz.prog 9 [.ag [.s (.int .i64 qU), .s (.int .i64 a0v_N), .s (.string a0v_S), .im false (rowsOf qu qE), .im false (rowsOf Str_c qH)], .ag [.s (.int .i64 qgD), .s (.int .i64 a1v_N), .s (.string a1v_S), .im false (rowsOf qu qED), .im false (rowsOf Str_c qFD)]] [.ag [.jk, .jk, .jk, .jk, .jk], .ag [.jk, .jk, .jk, .jk, .jk]] [.v (.s (.bool r))] := by
 unfold qwB.b at h
 let qr := rowsOf qu
 let qR := rowsOf Str_c
 show AC Tryz.prog 9 [.ag [.s (.int .i64 qU), .s (.int .i64 a0v_N), .s (.string a0v_S), .im false (qr qE), .im false (qR qH)], .ag [.s (.int .i64 qgD), .s (.int .i64 a1v_N), .s (.string a1v_S), .im false (qr qED), .im false (qR qFD)]] _ _
 refine run3 Tryz.func9 (by rfl) (by rfl) (by cbv) ⟨by decide, rfl⟩ ?_
 intro ar cm bo sc sa sx ss sl bs sb ln sr ap up rp fr ge le lt nz mm ma sm fl al ci hL F hP hA hT hM hC
 refine Run.seq ?_
 refine Run.region hL hT [] (by cbv) hq0 ?_
 refine Run.seq ?_
 refine Run.seq ?_
 refine Run.region hL hT [] (by cbv) ?_ ?_
 · exact (hq Tt (hq Tt (hq Tt hq0)))
 refine Run.cond (by cbv) (hq0) (fun c1 => ?_) (fun c1 => ?_)
 ·
  have h := if_t c1 h
  refine Run.seq ?_
  refine Run.region hL hT [] (by cbv) hq0 ?_
  refine Run.ret ?_
  cases h
  refine ⟨_, _, by cbv, ?_, ?_⟩
  · exact LLe.r
  · exact (ALe.v LLe.r ALe.nil)
 ·
  have h := if_f c1 h
  refine Run.skip ?_
  refine Run.seq ?_
  refine Run.seq ?_
  refine Run.region hL hT [] (by cbv) ?_ ?_
  · exact (hq Tt (hq Tt (hq Tt hq0)))
  refine Run.cond (by cbv) (hq0) (fun c2 => ?_) (fun c2 => ?_)
  ·
   have h := if_t c2 h
   refine Run.seq ?_
   refine Run.region hL hT [] (by cbv) hq0 ?_
   refine Run.ret ?_
   cases h
   refine ⟨_, _, by cbv, ?_, ?_⟩
   · exact LLe.r
   · exact (ALe.v LLe.r ALe.nil)
  ·
   have h := if_f c2 h
   refine Run.skip ?_
   refine Run.seq ?_
   refine Run.seq ?_
   refine Run.region hL hT [] (by cbv) ?_ ?_
   · exact (hq Tt (hq Tt hq0))
   refine Run.cond (by cbv) (hq0) (fun c3 => ?_) (fun c3 => ?_)
   ·
    have h := if_t c3 h
    refine Run.seq ?_
    refine Run.region hL hT [] (by cbv) hq0 ?_
    refine Run.ret ?_
    cases h
    refine ⟨_, _, by cbv, ?_, ?_⟩
    · exact LLe.r
    · exact (ALe.v LLe.r ALe.nil)
   ·
    have h := if_f c3 h
    refine Run.skip ?_
    refine Run.seq ?_
    refine Run.seq ?_
    obtain ⟨r4, h_r4, h⟩ := bnd h
    refine Run.region hL hT [(4, .call [false, false] [.v (.jk), .v (.jk)] [.v (.s (.bool r4))])] (by cbv) ?_ ?_
    · exact (hq Tt (hq Tt (hq (hC (qiM self hself h_r4)) hq0)))
    refine Run.cond (by cbv) (hq0) (fun c5 => ?_) (fun c5 => ?_)
    ·
     have h := if_t c5 h
     refine Run.seq ?_
     refine Run.region hL hT [] (by cbv) hq0 ?_
     refine Run.ret ?_
     cases h
     refine ⟨_, _, by cbv, ?_, ?_⟩
     · exact LLe.r
     · exact (ALe.v LLe.r ALe.nil)
    ·
     have h := if_f c5 h
     refine Run.skip ?_
     refine Run.seq ?_
     refine Run.seq ?_
     obtain ⟨r6, h_r6, h⟩ := bnd h
     refine Run.region hL hT [(4, .call [false, false] [.v (.jk), .v (.jk)] [.v (.s (.bool r6))])] (by cbv) ?_ ?_
     · exact (hq Tt (hq Tt (hq (hC (qvJ h_r6)) hq0)))
     refine Run.cond (by cbv) (hq0) (fun c7 => ?_) (fun c7 => ?_)
     ·
      have h := if_t c7 h
      refine Run.seq ?_
      refine Run.region hL hT [] (by cbv) hq0 ?_
      refine Run.ret ?_
      cases h
      refine ⟨_, _, by cbv, ?_, ?_⟩
      · exact LLe.r
      · exact (ALe.v LLe.r ALe.nil)
     ·
      have h := if_f c7 h
      refine Run.skip ?_
      refine Run.seq ?_
      refine Run.region hL hT [] (by cbv) hq0 ?_
      refine Run.ret ?_
      cases h
      refine ⟨_, _, by cbv, ?_, ?_⟩
      · exact LLe.r
      · exact (ALe.v LLe.r ALe.nil)
theorem qBI : ∀ (k : Nat) {qU : Int} {a0v_N : Int} {a0v_S : ByteArray} {qE : List Json} {qH : List ByteArray} {qgD : Int} {a1v_N : Int} {a1v_S : ByteArray} {qED : List Json} {qFD : List ByteArray} {r : Bool} (h : qwB.g k (Json.mk qU a0v_N a0v_S qE qH) (Json.mk qgD a1v_N a1v_S qED qFD) = some r), AC Tryz.prog 9 [.ag [.s (.int .i64 qU), .s (.int .i64 a0v_N), .s (.string a0v_S), .im false (rowsOf qu qE), .im false (rowsOf Str_c qH)], .ag [.s (.int .i64 qgD), .s (.int .i64 a1v_N), .s (.string a1v_S), .im false (rowsOf qu qED), .im false (rowsOf Str_c qFD)]] [.ag [.jk, .jk, .jk, .jk, .jk], .ag [.jk, .jk, .jk, .jk, .jk]] [.v (.s (.bool r))]
 | 0 => fun h => by cases h
 | k + 1 => fun h => qjM (qwB.g k) (qBI k) h
theorem qpG {qU : Int} {a0v_N : Int} {a0v_S : ByteArray} {qE : List Json} {qH : List ByteArray} {qgD : Int} {a1v_N : Int} {a1v_S : ByteArray} {qED : List Json} {qFD : List ByteArray} {r : Bool} (h : qwB.f (Json.mk qU a0v_N a0v_S qE qH) (Json.mk qgD a1v_N a1v_S qED qFD) = some r) : AC Tryz.prog 9 [.ag [.s (.int .i64 qU), .s (.int .i64 a0v_N), .s (.string a0v_S), .im false (rowsOf qu qE), .im false (rowsOf Str_c qH)], .ag [.s (.int .i64 qgD), .s (.int .i64 a1v_N), .s (.string a1v_S), .im false (rowsOf qu qED), .im false (rowsOf Str_c qFD)]] [.ag [.jk, .jk, .jk, .jk, .jk], .ag [.jk, .jk, .jk, .jk, .jk]] [.v (.s (.bool r))] := qBI 1000 h
theorem laws_FnExactEval_ac {qF : List Int} {qV : Int} {qT : List (List Row)} {ql : Int} {qP : List Cond} {qm : Int} {qy : Bool} {qn : Int} {qq : List Int} {qz : Bool} {qN : Int} {qZ : Int} {r : Bool} (h : qQE.f (Store.mk (Schema.mk qF) qV qT) (Query.mk ql qP qm qy qn qq qz qN qZ) = some r) : AC Tryz.prog 4 [.ag [.im false (rowsOf Int_c qF), .s (.int .i64 qV), .im false (rowsOf RowS_i qT)], .ag [.s (.int .i64 ql), .im false (rowsOf Cond_c qP), .s (.int .i64 qm), .s (.bool qy), .s (.int .i64 qn), .im false (rowsOf Int_c qq), .s (.bool qz), .s (.int .i64 qN), .s (.int .i64 qZ)]] [.ag [.jk, .jk, .jk], .ag [.jk, .jk, .jk, .jk, .jk, .jk, .jk, .jk, .jk]] [.v (.s (.bool r))] := by
 unfold qQE.f at h
 let qJ := rowsOf Cond_c
 let qB := rowsOf Int_c
 let qr := rowsOf qu
 let qQB := rowsOf qLC
 let qOB := rowsOf qdB
 let qUB := rowsOf RowS_i
 let qrC := rowsOf qXD
 let qR := rowsOf Str_c
 show AC Tryz.prog 4 [.ag [.im false (qB qF), .s (.int .i64 qV), .im false (qUB qT)], .ag [.s (.int .i64 ql), .im false (qJ qP), .s (.int .i64 qm), .s (.bool qy), .s (.int .i64 qn), .im false (qB qq), .s (.bool qz), .s (.int .i64 qN), .s (.int .i64 qZ)]] _ _
 refine run3 Tryz.func4 (by rfl) (by rfl) (by cbv) ⟨by decide, rfl⟩ ?_
 intro ar cm bo sc sa sx ss sl bs sb ln sr ap up rp fr ge le lt nz mm ma sm fl al ci hL F hP hA hT hM hC
 refine Run.seq ?_
 refine Run.region hL hT [] (by cbv) hq0 ?_
 refine Run.seq ?_
 refine Run.region hL hT [] (by cbv) hq0 ?_
 refine Run.seq ?_
 obtain ⟨r1, h_r1, h⟩ := bnd h
 refine Run.region hL hT [(2, .call [false, false] [.ag [.jk, .jk, .jk], .v (.jk)] [.v (.s (.int .i64 r1))])] (by cbv) ?_ ?_
 · exact (hq Tt (hq (hC (qFM h_r1)) hq0))
 refine Run.seq ?_
 refine Run.seq ?_
 refine Run.region hL hT [] (by cbv) ?_ ?_
 · exact (hq Tt hq0)
 refine Run.cond (by cbv) (hq0) (fun c2 => ?_) (fun c2 => ?_)
 ·
  have h := if_t c2 h
  refine Run.seq ?_
  refine Run.region hL hT [] (by cbv) hq0 ?_
  refine Run.ret ?_
  cases h
  refine ⟨_, _, by cbv, ?_, ?_⟩
  · exact LLe.r
  · exact (ALe.v LLe.r ALe.nil)
 ·
  have h := if_f c2 h
  refine Run.skip ?_
  refine Run.seq ?_
  obtain ⟨r3, h_r3, h⟩ := bnd h
  refine Run.region hL hT [(2, .call [false, false] [.ag [.jk, .jk, .jk, .jk, .jk, .jk, .jk, .jk, .jk], .v (.jk)] [.v (.s (.int .i64 r3))])] (by cbv) ?_ ?_
  · exact (hq Tt (hq (hC (qHM h_r3)) hq0))
  refine Run.seq ?_
  refine Run.seq ?_
  refine Run.region hL hT [] (by cbv) ?_ ?_
  · exact (hq Tt hq0)
  refine Run.cond (by cbv) (hq0) (fun c4 => ?_) (fun c4 => ?_)
  ·
   have h := if_t c4 h
   refine Run.seq ?_
   refine Run.region hL hT [] (by cbv) hq0 ?_
   refine Run.ret ?_
   cases h
   refine ⟨_, _, by cbv, ?_, ?_⟩
   · exact LLe.r
   · exact (ALe.v LLe.r ALe.nil)
  ·
   have h := if_f c4 h
   refine Run.skip ?_
   refine Run.seq ?_
   obtain ⟨⟨⟨r5v_Schemav_Cols⟩, r5v_Version, r5v_Tables⟩, h_r5, h⟩ := bnd h
   obtain ⟨⟨r6v_Table, r6v_Where, r6v_Order, r6v_Down, r6v_First, r6v_Show, r6v_Kids, r6v_KidTable, r6v_KidCol⟩, h_r6, h⟩ := bnd h
   obtain ⟨⟨r7v_Kind, r7v_N, r7v_S, r7v_List_, r7v_Names⟩, h_r7, h⟩ := bnd h
   refine Run.draw hL hT hM [(1, .call [false] [.ag [.jk, .jk, .jk]] [.ag [.ow 3 (qB r5v_Schemav_Cols), .s (.int .i64 r5v_Version), .ow 39 (qrC r5v_Tables)]]), (3, .call [false] [.ag [.jk, .jk, .jk, .jk, .jk, .jk, .jk, .jk, .jk]] [.ag [.s (.int .i64 r6v_Table), .ow 123 (qJ r6v_Where), .s (.int .i64 r6v_Order), .s (.bool r6v_Down), .s (.int .i64 r6v_First), .ow 3 (qB r6v_Show), .s (.bool r6v_Kids), .s (.int .i64 r6v_KidTable), .s (.int .i64 r6v_KidCol)]]), (4, .call [false, false] [.ag [.jk, .jk, .jk], .ag [.jk, .jk, .jk, .jk, .jk, .jk, .jk, .jk, .jk]] [.ag [.s (.int .i64 r7v_Kind), .s (.int .i64 r7v_N), .s (.string r7v_S), .im true (qQB r7v_List_), .im true (qR r7v_Names)]])] (by cbv) (by cbv) (by cbv) (by cbv) (by cbv) ?_ ?_
   · exact (hq Tt (hq (hC (qvE h_r5)) (hq Tt (hq (hC (qwE h_r6)) (hq (hC (AC.args (qjQ h_r7) (ALe.ag rfl (LLe.cons (LLe.im (RLe.eq (qmB qBD _))) (LLe.c (LLe.cons (LLe.im (RLe.eq (qmB qJJ _))) LLe.nil))) (ALe.ag rfl (LLe.c (LLe.cons (LLe.im (RLe.eq (qmB qIJ _))) (LLe.c (LLe.c (LLe.c (LLe.cons (LLe.im (RLe.eq (qmB qBD _))) (LLe.c (LLe.c (LLe.c LLe.nil))))))))) ALe.nil)))) (hq Tt hq0))))))
   refine Run.seq ?_
   obtain ⟨⟨⟨r8v_Schemav_Cols⟩, r8v_Version, r8v_Tables⟩, h_r8, h⟩ := bnd h
   refine Run.region hL hT [(1, .call [false] [.ag [.jk, .jk, .jk]] [.ag [.ow 3 (qB r8v_Schemav_Cols), .s (.int .i64 r8v_Version), .ow 39 (qrC r8v_Tables)]])] (by cbv) ?_ ?_
   · exact (hq Tt (hq (hC (qvE h_r8)) (hq Tt hq0)))
   refine Run.seq ?_
   obtain ⟨⟨r9v_Table, r9v_Where, r9v_Order, r9v_Down, r9v_First, r9v_Show, r9v_Kids, r9v_KidTable, r9v_KidCol⟩, h_r9, h⟩ := bnd h
   refine Run.region hL hT [(1, .call [false] [.ag [.jk, .jk, .jk, .jk, .jk, .jk, .jk, .jk, .jk]] [.ag [.s (.int .i64 r9v_Table), .ow 123 (qJ r9v_Where), .s (.int .i64 r9v_Order), .s (.bool r9v_Down), .s (.int .i64 r9v_First), .ow 3 (qB r9v_Show), .s (.bool r9v_Kids), .s (.int .i64 r9v_KidTable), .s (.int .i64 r9v_KidCol)]])] (by cbv) ?_ ?_
   · exact (hq Tt (hq (hC (qwE h_r9)) (hq Tt hq0)))
   refine Run.seq ?_
   obtain ⟨⟨r10v_Kind, r10v_N, r10v_S, r10v_List_, r10v_Names⟩, h_r10, h⟩ := bnd h
   refine Run.region hL hT [(2, .call [false, false] [.ag [.jk, .jk, .jk], .ag [.jk, .jk, .jk, .jk, .jk, .jk, .jk, .jk, .jk]] [.ag [.s (.int .i64 r10v_Kind), .s (.int .i64 r10v_N), .s (.string r10v_S), .ow 34 (qOB r10v_List_), .ow 9 (qR r10v_Names)]])] (by cbv) ?_ ?_
   · exact (hq Tt (hq Tt (hq (hC (AC.args (qLK h_r10) (ALe.ag rfl (LLe.cons (LLe.im (RLe.eq (qmB qBD _))) (LLe.c (LLe.cons (LLe.im (RLe.eq (qmB qJJ _))) LLe.nil))) (ALe.ag rfl (LLe.c (LLe.cons (LLe.im (RLe.eq (qmB qIJ _))) (LLe.c (LLe.c (LLe.c (LLe.cons (LLe.im (RLe.eq (qmB qBD _))) (LLe.c (LLe.c (LLe.c LLe.nil))))))))) ALe.nil)))) (hq Tt hq0))))
   refine Run.seq ?_
   refine Run.seq ?_
   obtain ⟨r11, h_r11, h⟩ := bnd h
   refine Run.region hL hT [(2, .call [false, false] [.ag [.jk, .jk, .jk, .jk, .jk], .ag [.jk, .jk, .jk, .jk, .jk]] [.v (.s (.bool r11))])] (by cbv) ?_ ?_
   · exact (hq Tt (hq Tt (hq (hC (AC.args (qpG h_r11) (ALe.ag rfl (LLe.c (LLe.c (LLe.c (LLe.cons (LLe.im (RLe.eq (qmB qUG _))) (LLe.cons (LLe.im (RLe.eq (qmB qEF _))) LLe.nil))))) (ALe.ag rfl (LLe.c (LLe.c (LLe.c (LLe.cons (LLe.im (qEH _)) (LLe.c LLe.nil))))) ALe.nil)))) hq0)))
   refine Run.cond (by cbv) (hq0) (fun c12 => ?_) (fun c12 => ?_)
   ·
    have h := if_t c12 h
    refine Run.seq ?_
    refine Run.region hL hT [] (by cbv) hq0 ?_
    refine Run.ret ?_
    cases h
    refine ⟨_, _, by cbv, ?_, ?_⟩
    · exact LLe.r
    · exact (ALe.v LLe.r ALe.nil)
   ·
    have h := if_f c12 h
    refine Run.skip ?_
    refine Run.seq ?_
    refine Run.seq ?_
    obtain ⟨⟨⟨r13v_Schemav_Cols⟩, r13v_Version, r13v_Tables⟩, h_r13, h⟩ := bnd h
    obtain ⟨r14, h_r14, h⟩ := bnd h
    refine Run.draw hL hT hM [(2, .call [false] [.ag [.jk, .jk, .jk]] [.ag [.ow 3 (qB r13v_Schemav_Cols), .s (.int .i64 r13v_Version), .ow 39 (qrC r13v_Tables)]]), (3, .call [false, false] [.ag [.jk, .jk, .jk], .ag [.jk, .jk, .jk]] [.v (.s (.bool r14))])] (by cbv) (by cbv) (by cbv) (by cbv) (by cbv) ?_ ?_
    · exact (hq Tt (hq Tt (hq (hC (qvE h_r13)) (hq (hC (AC.args (qfM h_r14) (ALe.ag rfl (LLe.cons (LLe.im (RLe.eq (qmB qBD _))) (LLe.c (LLe.cons (LLe.im (RLe.eq (qmB qJJ _))) LLe.nil))) (ALe.ag rfl (LLe.cons (LLe.im (RLe.eq (qmB qBD _))) (LLe.c (LLe.cons (LLe.im (RLe.eq (qmB qJJ _))) LLe.nil))) ALe.nil)))) hq0))))
    refine Run.cond (by cbv) (hq0) (fun c15 => ?_) (fun c15 => ?_)
    ·
     have h := if_t c15 h
     refine Run.seq ?_
     refine Run.region hL hT [] (by cbv) hq0 ?_
     refine Run.ret ?_
     cases h
     refine ⟨_, _, by cbv, ?_, ?_⟩
     · exact LLe.r
     · exact (ALe.v LLe.r ALe.nil)
    ·
     have h := if_f c15 h
     refine Run.skip ?_
     refine Run.seq ?_
     refine Run.seq ?_
     obtain ⟨⟨r16v_Table, r16v_Where, r16v_Order, r16v_Down, r16v_First, r16v_Show, r16v_Kids, r16v_KidTable, r16v_KidCol⟩, h_r16, h⟩ := bnd h
     obtain ⟨r17, h_r17, h⟩ := bnd h
     refine Run.draw hL hT hM [(2, .call [false] [.ag [.jk, .jk, .jk, .jk, .jk, .jk, .jk, .jk, .jk]] [.ag [.s (.int .i64 r16v_Table), .ow 123 (qJ r16v_Where), .s (.int .i64 r16v_Order), .s (.bool r16v_Down), .s (.int .i64 r16v_First), .ow 3 (qB r16v_Show), .s (.bool r16v_Kids), .s (.int .i64 r16v_KidTable), .s (.int .i64 r16v_KidCol)]]), (3, .call [false, false] [.ag [.jk, .jk, .jk, .jk, .jk, .jk, .jk, .jk, .jk], .ag [.jk, .jk, .jk, .jk, .jk, .jk, .jk, .jk, .jk]] [.v (.s (.bool r17))])] (by cbv) (by cbv) (by cbv) (by cbv) (by cbv) ?_ ?_
     · exact (hq Tt (hq Tt (hq (hC (qwE h_r16)) (hq (hC (AC.args (qhM h_r17) (ALe.ag rfl (LLe.c (LLe.cons (LLe.im (RLe.eq (qmB qIJ _))) (LLe.c (LLe.c (LLe.c (LLe.cons (LLe.im (RLe.eq (qmB qBD _))) (LLe.c (LLe.c (LLe.c LLe.nil))))))))) (ALe.ag rfl (LLe.c (LLe.cons (LLe.im (RLe.eq (qmB qIJ _))) (LLe.c (LLe.c (LLe.c (LLe.cons (LLe.im (RLe.eq (qmB qBD _))) (LLe.c (LLe.c (LLe.c LLe.nil))))))))) ALe.nil)))) hq0))))
     refine Run.cond (by cbv) (hq0) (fun c18 => ?_) (fun c18 => ?_)
     ·
      have h := if_t c18 h
      refine Run.seq ?_
      refine Run.region hL hT [] (by cbv) hq0 ?_
      refine Run.ret ?_
      cases h
      refine ⟨_, _, by cbv, ?_, ?_⟩
      · exact LLe.r
      · exact (ALe.v LLe.r ALe.nil)
     ·
      have h := if_f c18 h
      refine Run.skip ?_
      refine Run.seq ?_
      refine Run.region hL hT [] (by cbv) hq0 ?_
      refine Run.seq ?_
      obtain ⟨⟨⟨⟨r19v_1v_Schemav_Cols⟩, r19v_1v_Version, r19v_1v_Tables⟩, r19v_2⟩, h_r19, h⟩ := bnd h
      refine Run.region hL hT [(2, .call [true, false] [.ag [.ow 3 (qB r19v_1v_Schemav_Cols), .jk, .ow 39 (qrC r19v_1v_Tables)], .v (.jk)] [.v (.s (.int .i64 r19v_2))])] (by cbv) ?_ ?_
      · exact (hq Tt (hq (hC (qsJ h_r19)) hq0))
      refine Run.seq ?_
      obtain ⟨⟨⟨r20v_1v_Table, r20v_1v_Where, r20v_1v_Order, r20v_1v_Down, r20v_1v_First, r20v_1v_Show, r20v_1v_Kids, r20v_1v_KidTable, r20v_1v_KidCol⟩, r20v_2⟩, h_r20, h⟩ := bnd h
      refine Run.region hL hT [(2, .call [true, false] [.ag [.jk, .ow 123 (qJ r20v_1v_Where), .jk, .jk, .jk, .ow 3 (qB r20v_1v_Show), .jk, .jk, .jk], .v (.jk)] [.v (.s (.int .i64 r20v_2))])] (by cbv) ?_ ?_
      · exact (hq Tt (hq (hC (quJ h_r20)) hq0))
      refine Run.seq ?_
      refine Run.seq ?_
      obtain ⟨r21, h_r21, h⟩ := bnd h
      refine Run.region hL hT [(5, .call [false, false] [.ag [.jk, .jk, .jk, .jk, .jk], .ag [.jk, .jk, .jk, .jk, .jk]] [.v (.s (.bool r21))])] (by cbv) ?_ ?_
      · exact (hq Tt (hq (fun g22 => (hq Tt hq0)) (hq (fun g23 => (hq Tt hq0)) (hq (fun g24 => (hq g24 (hq g24 (hq (hC (AC.args (qpG (gd_t h_r21 g24)) (ALe.ag rfl (LLe.c (LLe.c (LLe.c (LLe.cons (LLe.im (RLe.eq (qmB qUG _))) (LLe.cons (LLe.im (RLe.eq (qmB qEF _))) LLe.nil))))) (ALe.ag rfl (LLe.c (LLe.c (LLe.c (LLe.cons (LLe.im (qEH _)) (LLe.c LLe.nil))))) ALe.nil)))) hq0)))) (hq (fun g25 => (hq g25 hq0)) (hq (fun _ => hq0) (hq (fun q27 => (hq (bo_m q27) hq0)) hq0)))))))
      refine Run.cond (by cbv) (hq0) (fun c28 => ?_) (fun c28 => ?_)
      ·
       have h := if_t c28 h
       refine Run.seq ?_
       refine Run.region hL hT [] (by cbv) hq0 ?_
       refine Run.ret ?_
       cases h
       refine ⟨_, _, by cbv, ?_, ?_⟩
       · exact LLe.r
       · exact (ALe.v LLe.r ALe.nil)
      ·
       have h := if_f c28 h
       refine Run.skip ?_
       refine Run.seq ?_
       refine Run.region hL hT [] (by cbv) hq0 ?_
       refine Run.seq ?_
       obtain ⟨⟨⟨r29v_1v_Kind, r29v_1v_N, r29v_1v_S, r29v_1v_List_, r29v_1v_Names⟩, r29v_2⟩, h_r29, h⟩ := bnd h
       refine Run.region hL hT [(2, .call [true, false] [.ag [.jk, .jk, .jk, .ow 34 (qOB r29v_1v_List_), .ow 9 (qR r29v_1v_Names)], .v (.jk)] [.v (.s (.int .i64 r29v_2))])] (by cbv) ?_ ?_
       · exact (hq Tt (hq (hC (qSK h_r29)) hq0))
       refine Run.seq ?_
       refine Run.region hL hT [] (by cbv) hq0 ?_
       refine Run.seq ?_
       obtain ⟨r30, h_r30, h⟩ := bnd h
       refine Run.region hL hT [(2, .call [false, false] [.ag [.jk, .jk, .jk, .jk, .jk], .v (.jk)] [.v (.s (.int .i64 r30))])] (by cbv) ?_ ?_
       · exact (hq Tt (hq (hC (AC.args (qdH h_r30) (ALe.ag rfl (LLe.c (LLe.c (LLe.c (LLe.cons (LLe.im (RLe.eq (qmB qUG _))) (LLe.cons (LLe.im (RLe.eq (qmB qEF _))) LLe.nil))))) (ALe.v LLe.r ALe.nil)))) hq0))
       refine Run.seq ?_
       refine Run.seq ?_
       refine Run.region hL hT [] (by cbv) ?_ ?_
       · exact (hq Tt hq0)
       refine Run.cond (by cbv) (hq0) (fun c31 => ?_) (fun c31 => ?_)
       ·
        have h := if_t c31 h
        refine Run.seq ?_
        refine Run.region hL hT [] (by cbv) hq0 ?_
        refine Run.ret ?_
        cases h
        refine ⟨_, _, by cbv, ?_, ?_⟩
        · exact LLe.r
        · exact (ALe.v LLe.r ALe.nil)
       ·
        have h := if_f c31 h
        refine Run.skip ?_
        refine Run.seq ?_
        refine Run.seq ?_
        refine Run.region hL hT [] (by cbv) ?_ ?_
        · exact (hq Tt hq0)
        refine Run.cond (by cbv) (hq0) (fun c32 => ?_) (fun c32 => ?_)
        ·
         have h := if_t c32 h
         refine Run.seq ?_
         refine Run.region hL hT [] (by cbv) hq0 ?_
         refine Run.ret ?_
         cases h
         refine ⟨_, _, by cbv, ?_, ?_⟩
         · exact LLe.r
         · exact (ALe.v LLe.r ALe.nil)
        ·
         have h := if_f c32 h
         refine Run.skip ?_
         refine Run.seq ?_
         obtain ⟨⟨⟨r33v_Schemav_Cols⟩, r33v_Version, r33v_Tables⟩, h_r33, h⟩ := bnd h
         obtain ⟨⟨r34v_Table, r34v_Where, r34v_Order, r34v_Down, r34v_First, r34v_Show, r34v_Kids, r34v_KidTable, r34v_KidCol⟩, h_r34, h⟩ := bnd h
         obtain ⟨⟨r35v_Kind, r35v_N, r35v_S, r35v_List_, r35v_Names⟩, h_r35, h⟩ := bnd h
         refine Run.draw hL hT hM [(1, .call [false] [.ag [.jk, .jk, .jk]] [.ag [.ow 3 (qB r33v_Schemav_Cols), .s (.int .i64 r33v_Version), .ow 39 (qrC r33v_Tables)]]), (3, .call [false] [.ag [.jk, .jk, .jk, .jk, .jk, .jk, .jk, .jk, .jk]] [.ag [.s (.int .i64 r34v_Table), .ow 123 (qJ r34v_Where), .s (.int .i64 r34v_Order), .s (.bool r34v_Down), .s (.int .i64 r34v_First), .ow 3 (qB r34v_Show), .s (.bool r34v_Kids), .s (.int .i64 r34v_KidTable), .s (.int .i64 r34v_KidCol)]]), (4, .call [false, false] [.ag [.jk, .jk, .jk], .ag [.jk, .jk, .jk, .jk, .jk, .jk, .jk, .jk, .jk]] [.ag [.s (.int .i64 r35v_Kind), .s (.int .i64 r35v_N), .s (.string r35v_S), .ow 34 (qOB r35v_List_), .ow 9 (qR r35v_Names)]])] (by cbv) (by cbv) (by cbv) (by cbv) (by cbv) ?_ ?_
         · exact (hq Tt (hq (hC (qvE h_r33)) (hq Tt (hq (hC (qwE h_r34)) (hq (hC (AC.args (qLK h_r35) (ALe.ag rfl (LLe.cons (LLe.im (RLe.eq (qmB qBD _))) (LLe.c (LLe.cons (LLe.im (RLe.eq (qmB qJJ _))) LLe.nil))) (ALe.ag rfl (LLe.c (LLe.cons (LLe.im (RLe.eq (qmB qIJ _))) (LLe.c (LLe.c (LLe.c (LLe.cons (LLe.im (RLe.eq (qmB qBD _))) (LLe.c (LLe.c (LLe.c LLe.nil))))))))) ALe.nil)))) (hq Tt hq0))))))
         refine Run.seq ?_
         refine Run.seq ?_
         obtain ⟨r36, h_r36, h⟩ := bnd h
         refine Run.region hL hT [(2, .call [false, false] [.ag [.jk, .jk, .jk, .jk, .jk], .ag [.jk, .jk, .jk, .jk, .jk]] [.v (.s (.bool r36))])] (by cbv) ?_ ?_
         · exact (hq Tt (hq Tt (hq (hC (AC.args (qpG h_r36) (ALe.ag rfl (LLe.c (LLe.c (LLe.c (LLe.cons (LLe.im (RLe.eq (qmB qUG _))) (LLe.cons (LLe.im (RLe.eq (qmB qEF _))) LLe.nil))))) (ALe.ag rfl (LLe.c (LLe.c (LLe.c (LLe.cons (LLe.im (qEH _)) (LLe.c LLe.nil))))) ALe.nil)))) hq0)))
         refine Run.cond (by cbv) (hq0) (fun c37 => ?_) (fun c37 => ?_)
         ·
          have h := if_t c37 h
          refine Run.seq ?_
          refine Run.region hL hT [] (by cbv) hq0 ?_
          refine Run.ret ?_
          cases h
          refine ⟨_, _, by cbv, ?_, ?_⟩
          · exact LLe.r
          · exact (ALe.v LLe.r ALe.nil)
         ·
          have h := if_f c37 h
          refine Run.skip ?_
          refine Run.seq ?_
          refine Run.region hL hT [] (by cbv) hq0 ?_
          refine Run.seq ?_
          obtain ⟨r38, h_r38, h⟩ := bnd h
          refine Run.region hL hT [(2, .call [false, false] [.ag [.jk, .jk, .jk, .jk, .jk], .v (.jk)] [.v (.s (.int .i64 r38))])] (by cbv) ?_ ?_
          · exact (hq Tt (hq (hC (AC.args (qdH h_r38) (ALe.ag rfl (LLe.c (LLe.c (LLe.c (LLe.cons (LLe.im (RLe.eq (qmB qUG _))) (LLe.cons (LLe.im (RLe.eq (qmB qEF _))) LLe.nil))))) (ALe.v LLe.r ALe.nil)))) hq0))
          refine Run.seq ?_
          refine Run.seq ?_
          refine Run.region hL hT [] (by cbv) ?_ ?_
          · exact (hq Tt hq0)
          refine Run.cond (by cbv) (hq0) (fun c39 => ?_) (fun c39 => ?_)
          ·
           have h := if_t c39 h
           refine Run.seq ?_
           refine Run.region hL hT [] (by cbv) hq0 ?_
           refine Run.ret ?_
           cases h
           refine ⟨_, _, by cbv, ?_, ?_⟩
           · exact LLe.r
           · exact (ALe.v LLe.r ALe.nil)
          ·
           have h := if_f c39 h
           refine Run.skip ?_
           refine Run.seq ?_
           refine Run.seq ?_
           refine Run.region hL hT [] (by cbv) ?_ ?_
           · exact (hq Tt hq0)
           refine Run.cond (by cbv) (hq0) (fun c40 => ?_) (fun c40 => ?_)
           ·
            have h := if_t c40 h
            refine Run.seq ?_
            refine Run.region hL hT [] (by cbv) hq0 ?_
            refine Run.ret ?_
            cases h
            refine ⟨_, _, by cbv, ?_, ?_⟩
            · exact LLe.r
            · exact (ALe.v LLe.r ALe.nil)
           ·
            have h := if_f c40 h
            refine Run.skip ?_
            refine Run.seq ?_
            refine Run.region hL hT [] (by cbv) hq0 ?_
            refine Run.ret ?_
            cases h
            refine ⟨_, _, by cbv, ?_, ?_⟩
            · exact LLe.r
            · exact (ALe.v LLe.r ALe.nil)
end Go.Proofs.YtgjboegobhafhaaGreatDoor.L
