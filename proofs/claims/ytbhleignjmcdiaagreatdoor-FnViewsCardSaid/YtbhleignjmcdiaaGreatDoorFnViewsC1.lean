/- The contracts of the program's functions. -/
import Derived.Test.YtbhleignjmcdiaaGreatDoorProg
import Derived.Test.YtbhleignjmcdiaaGreatDoorFnViewsC0
import Derived.KernelRfl
namespace Go.Proofs.YtbhleignjmcdiaaGreatDoor.L
open Go Go.Proofs
set_option linter.unusedVariables false
set_option linter.unusedSimpArgs false
set_option maxRecDepth 8000
theorem qMQ {qw : Int} {qi : List Cond} {qx : Int} {qMB : Bool} {qy : Int} {qEB : List Int} {qU : Bool} {qN qh : Int} {a1 : List Row} {a2 : List Int} {r : (List Json)} (h : qXD.f (Query.mk qw qi qx qMB qy qEB qU qN qh) a1 a2 = some r) : AC Tryz.prog 116 [.ag [.s (.int .i64 qw), .im false (rowsOf qR qi), .s (.int .i64 qx), .s (.bool qMB), .s (.int .i64 qy), .im false (rowsOf Int_c qEB), .s (.bool qU), .s (.int .i64 qN), .s (.int .i64 qh)], .v (.im false (rowsOf Row_i a1)), .v (.im false (rowsOf Int_c a2))] [.ag [.jk, .jk, .jk, .jk, .jk, .jk, .jk, .jk, .jk], .v (.jk), .v (.jk)] [.v (.ow 46 (rowsOf qYD r))] := by
 unfold qXD.f at h; let qE := rowsOf qR; let qB := rowsOf Int_c; let qmD := rowsOf qYD; let qT := rowsOf Row_i; let qhB := rowsOf Str_c; let qW := @lenI Int; let qS := @lenI Row
 show AC _ _ [.ag [.s (.int .i64 qw), .im false (qE qi), .s (.int .i64 qx), .s (.bool qMB), .s (.int .i64 qy), .im false (qB qEB), .s (.bool qU), .s (.int .i64 qN), .s (.int .i64 qh)], .v (.im false (qT a1)), .v (.im false (qB a2))] _ _
 refine run3 Tryz.func116 (by rfl) (by rfl) (by cbv) ⟨by decide, rfl⟩ ?_; intro ar cm bo sc sa sx ss sl bs sb ln sr ap up rp fr ge le lt nz mm ma sm fl al ci hL F hP hA hT hM hC; refine zB ?_; refine zA hL hT [] (by cbv) hq0 ?_; refine zB ?_; refine zA hL hT [] (by cbv) hq0 ?_; refine zB (zB ?_); obtain ⟨r1, h_r1, h⟩ := bnd h; obtain ⟨l2, h_l2, h⟩ := bnd h; refine zA hL hT [(4, .call [false, false] [.ag [.jk, .jk, .jk, .jk, .jk, .jk, .jk, .jk, .jk], .v (.jk)] [.v (.s (.int .i64 r1))])] (by cbv) ?_ ?_
 exact hq Tt (hq (by rw [show ln (qT a1) = qS a1 from ln_eq Row_i _]; exact (hC (qKQ h_r1))) (hq (cut_0 h_l2) (hq (cut_1 h_l2) (hq (cut_2 (f := Row_i) h_l2) (hq (qad qre _) hq0))))); rw [show sr (qT a1) 0 r1 = qT l2 from qOS Row_i h_l2]; rw [show ln (qT a1) = qS a1 from ln_eq Row_i _]; rw [show ln (qT l2) = qS l2 from ln_eq Row_i _]; refine Run.block ?_; refine zJ (fun (z17 : List Json) (z18 : Int) => ⟨41, 100000, [(2, .t (.im false (qB a2))), (3, .pt 1 0 0), (7, .rf 2), (17, .t (.im false (qT l2))), (18, .t (.s (.int .i64 (qS l2)))), (19, .t (.s (.int .i64 z18)))], [(1, .box 32 [.t (.s (.int .i64 qw)), .t (.im false (qE qi)), .t (.s (.int .i64 qx)), .t (.s (.bool qMB)), .t (.s (.int .i64 qy)), .t (.im false (qB qEB)), .t (.s (.bool qU)), .t (.s (.int .i64 qN)), .t (.s (.int .i64 qh))]), (2, .row 0 46 5 (qmD z17))]⟩) (x0 := []) (x1 := 0) h (Weak.of _ [(1, 0), (2, 4096)] hA (by cbv) ?_) (fun _ _ => rfl) ?_
 · repeat first|exact hq0|refine hq (by first|exact Tt|rfl) ?_
 intro k z17 z18 h; rw [qXD.l0] at h; refine zB ?_; refine zA hL hT [] (by cbv) ?_ ?_; exact zt; refine zB ?_; refine zC (by cbv) hq0 (fun c19 => ?_) (fun c19 => ?_)
 ·
  have h := if_t c19 h; refine zE (zB ?_); refine Run.block ?_; refine zB ?_; obtain ⟨⟨qGU, qjS⟩, h_x20, h⟩ := bnd h; refine zA hL hT [(1, .el [.s (.int .i64 qGU), .im false (qB qjS)])] (by cbv) ?_ ?_; exact hq (qJ h_x20) (hq (qa (f := Row_i) h_x20) (hq (qk (f := Row_i) h_x20) zt)); refine zB ?_; refine zA hL hT [] (by cbv) hq0 ?_; obtain ⟨K22, h_K22, h⟩ := joinE h; refine zI K22 (r := r) (fun (y21 : Int) => ⟨41, 100000, [(2, .t (.im false (qB a2))), (3, .pt 1 0 0), (7, .rf 2), (9, .pt 3 0 0), (10, .t (.s (.int .i64 y21))), (17, .t (.im false (qT l2))), (18, .t (.s (.int .i64 (qS l2)))), (19, .t (.s (.int .i64 z18)))], [(1, .box 32 [.t (.s (.int .i64 qw)), .t (.im false (qE qi)), .t (.s (.int .i64 qx)), .t (.s (.bool qMB)), .t (.s (.int .i64 qy)), .t (.im false (qB qEB)), .t (.s (.bool qU)), .t (.s (.int .i64 qN)), .t (.s (.int .i64 qh))]), (2, .row 0 46 5 (qmD z17)), (3, .box 56 [.t (.s (.int .i64 qGU)), .t (.im false (qB qjS))])]⟩) ?_ ?_
  ·
   skip
   refine zB ?_; refine zA hL hT [] (by cbv) ?_ ?_; exact zt; rw [show ln (qB a2) = qW a2 from ln_eq Int_c _]; refine zC (by cbv) hq0 (fun c23 => ?_) (fun c23 => ?_)
   ·
    have h := if_t c23 h; obtain ⟨x24, h_x24, h⟩ := bnd h; refine zA hL hT [(2, .el [.s (.int .i64 x24)])] (by cbv) ?_ ?_; exact hq (qJ h_x24) (hq (qa (f := Int_c) h_x24) (hq (qk (f := Int_c) h_x24) hq0)); refine ⟨x24, h, Weak.of _ [(1, 1), (2, 2), (3, 104099)] hA (by cbv) ?_⟩
    repeat first|exact hq0|refine hq (by first|exact Tt|rfl) ?_
   have h := if_f c23 h; refine zE ?_; refine ⟨0, h, Weak.of _ [(1, 1), (2, 2), (3, 104099)] hA (by cbv) ?_⟩
   repeat first|exact hq0|refine hq (by first|exact Tt|rfl) ?_
  intro y21 h; rw [h_K22] at h; obtain ⟨⟨qoV, qod, qpd, qkS, qlS⟩, h_r25, h⟩ := bnd h; obtain ⟨l26, h_l26, h⟩ := bnd h; obtain ⟨l27, h_l27, h⟩ := bnd h; refine zA hL hT [(4, .call [false, false, false] [.ag [.jk, .jk, .jk, .jk, .jk, .jk, .jk, .jk, .jk], .ag [.jk, .jk], .v (.jk)] [.ag [.s (.int .i64 qoV), .s (.int .i64 qod), .s (.string qpd), .ow 46 (qmD qkS), .ow 9 (qhB qlS)]])] (by cbv) ?_ ?_; exact hq Tt (hq Tt (hq (hC (qZR h_r25)) (hq (qGD (P := Tryz.prog) (f := qYD) RLe.r (qmO qfM h_l26 (RLe.cons rfl LLe.r RLe.nil)) h_l27) hq0)))
  refine Run.row (rows := (ap (qmD z17) ([[.s (.int .i64 qoV), .s (.int .i64 qod), .s (.string qpd), .ow 46 (qmD qkS), .ow 9 (qhB qlS)]]))) 100006 (qmD l27) (by cbv) (qFD (f := qYD) RLe.r (qmO qfM h_l26 (RLe.cons rfl LLe.r RLe.nil)) h_l27) ?_; refine zA hL hT [] (by cbv) ?_ ?_; exact zt; refine ⟨l27, (ar .add .i64 z18 1), h, Weak.of _ [(1, 1), (2, 100006)] hA (by cbv) ?_⟩
  repeat first|exact hq0|refine hq (by first|exact Tt|rfl) ?_
 have h := if_f c19 h; refine zG (zB ?_); refine zA hL hT [] (by cbv) hq0 ?_; refine zD ?_
 cases h
 refine ⟨_, _, by cbv, ?_, ?_⟩; exact LLe.r; exact ALe.v LLe.r ALe.nil
theorem qNQ {qcB a0v_N : Int} {a0v_S : ByteArray} {qK : List Json} {qj : List ByteArray} {r : Bool} (h : qhI.f (Json.mk qcB a0v_N a0v_S qK qj) = some r) : AC Tryz.prog 118 [.ag [.s (.int .i64 qcB), .s (.int .i64 a0v_N), .s (.string a0v_S), .im false (rowsOf qiB qK), .im false (rowsOf Str_c qj)]] [.ag [.jk, .jk, .jk, .jk, .jk]] [.v (.s (.bool r))] := by
 unfold qhI.f at h; let qvB := rowsOf qiB; let qhB := rowsOf Str_c
 show AC _ _ [.ag [.s (.int .i64 qcB), .s (.int .i64 a0v_N), .s (.string a0v_S), .im false (qvB qK), .im false (qhB qj)]] _ _
 refine run3 Tryz.func118 (by rfl) (by rfl) (by cbv) ⟨by decide, rfl⟩ ?_; intro ar cm bo sc sa sx ss sl bs sb ln sr ap up rp fr ge le lt nz mm ma sm fl al ci hL F hP hA hT hM hC; refine zB ?_; refine zA hL hT [] (by cbv) hq0 ?_; refine zB ?_; refine zA hL hT [] (by cbv) ?_ ?_; exact hq Tt zt; refine zD ?_
 cases h
 refine ⟨_, _, by cbv, ?_, ?_⟩; exact LLe.r; exact ALe.v LLe.r ALe.nil
theorem qfE {a0 : List Json} {r : Int} (h : qg.f a0 = some r) : AC Tryz.prog 148 [.v (.im false (rowsOf qiB a0)), .v (.fn 118 [])] [.v (.jk), .v (.jk)] [.v (.s (.int .i64 r))] := by
 unfold qg.f at h; let qvB := rowsOf qiB; let qhB := rowsOf Str_c; let qOC := @lenI Json
 show AC _ _ [.v (.im false (qvB a0)), .v (.fn 118 [])] _ _
 refine run3 Tryz.func148 (by rfl) (by rfl) (by cbv) ⟨by decide, rfl⟩ ?_; intro ar cm bo sc sa sx ss sl bs sb ln sr ap up rp fr ge le lt nz mm ma sm fl al ci hL F hP hA hT hM hC; refine Run.weak ?_ (Weak.fnT 1 (by cbv)); refine zB ?_; refine zA hL hT [] (by cbv) hq0 ?_; refine zB (zB ?_); refine zA hL hT [] (by cbv) hq0 ?_; rw [show ln (qvB a0) = qOC a0 from ln_eq qiB _]; refine Run.block ?_
 refine zH (fun (z4 : Int) => ⟨19, 100000, [(0, .t (.im false (qvB a0))), (1, .fn 118 []), (7, .t (.s (.int .i64 (qOC a0)))), (8, .t (.s (.int .i64 z4)))], []⟩) (x0 := 0) h (Weak.of _ [] hA (by cbv) ?_) (fun _ => rfl) ?_
 · repeat first|exact hq0|refine hq (by first|exact Tt|rfl) ?_
 intro k z4 h; rw [qg.l0] at h; refine zB ?_; refine zA hL hT [] (by cbv) ?_ ?_; exact zt; refine zB ?_; refine zC (by cbv) hq0 (fun c5 => ?_) (fun c5 => ?_)
 ·
  have h := if_t c5 h; refine zE (zB ?_); refine Run.block ?_; refine zB ?_; refine zA hL hT [] (by cbv) hq0 ?_; refine zB ?_; obtain ⟨⟨qId, x6v_N, x6v_S, qTb, qUb⟩, h_x6, h⟩ := bnd h; obtain ⟨r7, h_r7, h⟩ := bnd h; refine zA hL hT [(3, .el [.s (.int .i64 qId), .s (.int .i64 x6v_N), .s (.string x6v_S), .im false (qvB qTb), .im false (qhB qUb)]), (5, .call [false] [.ag [.jk, .jk, .jk, .jk, .jk]] [.v (.s (.bool r7))])] (by cbv) ?_ ?_
  exact hq (qJ h_x6) (hq (qa (f := qiB) h_x6) (hq (qOT qlI h_x6) (hq (hC (qNQ h_r7)) hq0))); refine zC (by cbv) hq0 (fun c8 => ?_) (fun c8 => ?_)
  ·
   have h := if_t c8 h; refine zB ?_; refine zA hL hT [] (by cbv) hq0 ?_; refine zD ?_
   cases h
   refine ⟨_, _, by cbv, ?_, ?_⟩; exact LLe.r; exact ALe.v LLe.r ALe.nil
  have h := if_f c8 h; refine zE ?_; refine zA hL hT [] (by cbv) ?_ ?_; exact zt; refine ⟨(ar .add .i64 z4 1), h, Weak.of _ [] hA (by cbv) ?_⟩
  repeat first|exact hq0|refine hq (by first|exact Tt|rfl) ?_
 have h := if_f c5 h; refine zG (zB ?_); refine zA hL hT [] (by cbv) hq0 ?_; refine zD ?_
 cases h
 refine ⟨_, _, by cbv, ?_, ?_⟩; exact LLe.r; exact ALe.v LLe.r ALe.nil
theorem qQE {a0 : List Json} {r : Bool} (h : qdB.f a0 = some r) : AC Tryz.prog 117 [.v (.im false (rowsOf qiB a0)), .v (.fn 118 [])] [.v (.jk), .v (.jk)] [.v (.s (.bool r))] := by
 unfold qdB.f at h; let qvB := rowsOf qiB
 show AC _ _ [.v (.im false (qvB a0)), .v (.fn 118 [])] _ _
 refine run3 Tryz.func117 (by rfl) (by rfl) (by cbv) ⟨by decide, rfl⟩ ?_; intro ar cm bo sc sa sx ss sl bs sb ln sr ap up rp fr ge le lt nz mm ma sm fl al ci hL F hP hA hT hM hC; refine Run.weak ?_ (Weak.fnT 1 (by cbv)); refine zB ?_; refine zA hL hT [] (by cbv) hq0 ?_; refine zB ?_; obtain ⟨r1, h_r1, h⟩ := bnd h; refine zA hL hT [(2, .call [false, false] [.v (.jk), .v (.jk)] [.v (.s (.int .i64 r1))])] (by cbv) ?_ ?_
 exact hq (hC (qfE h_r1)) zt; refine zD ?_
 cases h
 refine ⟨_, _, by cbv, ?_, ?_⟩; exact LLe.r; exact ALe.v LLe.r ALe.nil
theorem qlM {qw : Int} {qi : List Cond} {qx : Int} {qMB : Bool} {qy : Int} {qEB : List Int} {qU : Bool} {qN qh : Int} {a1 : List Row} {a2 : List Int} {r : Json} (h : qvF.f (Query.mk qw qi qx qMB qy qEB qU qN qh) a1 a2 = some r) : AC Tryz.prog 54 [.ag [.s (.int .i64 qw), .im false (rowsOf qR qi), .s (.int .i64 qx), .s (.bool qMB), .s (.int .i64 qy), .im false (rowsOf Int_c qEB), .s (.bool qU), .s (.int .i64 qN), .s (.int .i64 qh)], .v (.im false (rowsOf Row_i a1)), .v (.im false (rowsOf Int_c a2))] [.ag [.jk, .jk, .jk, .jk, .jk, .jk, .jk, .jk, .jk], .v (.jk), .v (.jk)] [.ag [.s (.int .i64 r.Kind), .s (.int .i64 r.N), .s (.string r.S), .ow 46 (rowsOf qYD r.List_), .ow 9 (rowsOf Str_c r.Names)]] := by
 unfold qvF.f at h; let qE := rowsOf qR; let qB := rowsOf Int_c; let qmD := rowsOf qYD; let qT := rowsOf Row_i; let qhB := rowsOf Str_c; let qS := @lenI Row
 show AC _ _ [.ag [.s (.int .i64 qw), .im false (qE qi), .s (.int .i64 qx), .s (.bool qMB), .s (.int .i64 qy), .im false (qB qEB), .s (.bool qU), .s (.int .i64 qN), .s (.int .i64 qh)], .v (.im false (qT a1)), .v (.im false (qB a2))] _ _
 refine run3 Tryz.func54 (by rfl) (by rfl) (by cbv) ⟨by decide, rfl⟩ ?_; intro ar cm bo sc sa sx ss sl bs sb ln sr ap up rp fr ge le lt nz mm ma sm fl al ci hL F hP hA hT hM hC; refine zB ?_; refine zA hL hT [] (by cbv) hq0 ?_; refine zB ?_; obtain ⟨r1, h_r1, h⟩ := bnd h; refine zA hL hT [(3, .call [false, false, false] [.ag [.jk, .jk, .jk, .jk, .jk, .jk, .jk, .jk, .jk], .v (.jk), .v (.jk)] [.v (.ow 46 (qmD r1))])] (by cbv) ?_ ?_
 exact hq Tt (hq (hC (qMQ h_r1)) hq0); refine zB (zB ?_); obtain ⟨r2, h_r2, h⟩ := bnd h; refine zA hL hT [(1, .call [false, false] [.v (.jk), .v (.jk)] [.v (.s (.bool r2))])] (by cbv) ?_ ?_; exact hq (hC (AC.args (qQE h_r2) (ALe.v (LLe.im (RLe.eq (qz qgM _))) (ALe.v LLe.r ALe.nil)))) hq0; refine zC (by cbv) hq0 (fun c3 => ?_) (fun c3 => ?_)
 ·
  have h := if_t c3 h; refine zB ?_; refine zA hL hT [] (by cbv) ?_ ?_; exact zt; refine zD ?_
  cases h
  refine ⟨_, _, by cbv, ?_, ?_⟩; exact LLe.r; exact ALe.ag rfl (LLe.c (LLe.c (LLe.c (LLe.cons zK (LLe.cons zK LLe.nil))))) ALe.nil
 have h := if_f c3 h; refine zE (zB ?_); refine zA hL hT [] (by cbv) ?_ ?_; exact zt; refine zB ?_; obtain ⟨l4, h_l4, h⟩ := bnd h; obtain ⟨l5, h_l5, h⟩ := bnd h; obtain ⟨⟨qJd, r6v_N, r6v_S, qVb, qWb⟩, h_r6, h⟩ := bnd h; refine zA hL hT [(7, .call [true] [.ag [.jk, .jk, .jk, .jk, .jk]] [.ag [.s (.int .i64 qJd), .s (.int .i64 r6v_N), .s (.string r6v_S), .ow 46 (qmD qVb), .ow 9 (qhB qWb)]])] (by cbv) ?_ ?_
 exact hq Tt (hq (hC (AC.args (qZL h_r6) (ALe.ag rfl (LLe.c (LLe.c (LLe.c (LLe.cons (LLe.ow (qmO qfM h_l5 (RLe.cons rfl (LLe.c (LLe.cons (LLe.eq (congrArg (fun z => [T.s (Value.int .i64 z)]) (ln_eq Row_i _))) (LLe.c (LLe.cons zK (LLe.cons zK LLe.nil))))) (RLe.cons rfl (LLe.c (LLe.c (LLe.c (LLe.c (LLe.cons zK LLe.nil))))) RLe.nil)))) (LLe.cons (LLe.ow (qLB (f := Str_c) h_l4 (RLe.cons rfl LLe.r (RLe.cons rfl LLe.r RLe.nil)))) LLe.nil))))) ALe.nil))) zt)
 rw [show ln (qT a1) = qS a1 from ln_eq Row_i _]; refine zD ?_
 cases h
 refine ⟨_, _, by cbv, ?_, ?_⟩; exact LLe.r; exact ALe.ag rfl LLe.r ALe.nil
theorem qpV {qQ : List Int} {qOB : Int} {qFB : List (List Row)} {qo : Int} {qO : List Cond} {qp : Int} {qJB : Bool} {qq : Int} {qDB : List Int} {qM : Bool} {qL qc : Int} {r : Json} (h : qjE.f (Store.mk (Schema.mk qQ) qOB qFB) (Query.mk qo qO qp qJB qq qDB qM qL qc) = some r) : AC Tryz.prog 14 [.ag [.im false (rowsOf Int_c qQ), .s (.int .i64 qOB), .im false (rowsOf quC qFB)], .ag [.s (.int .i64 qo), .im false (rowsOf qR qO), .s (.int .i64 qp), .s (.bool qJB), .s (.int .i64 qq), .im false (rowsOf Int_c qDB), .s (.bool qM), .s (.int .i64 qL), .s (.int .i64 qc)]] [.ag [.jk, .jk, .jk], .ag [.jk, .jk, .jk, .jk, .jk, .jk, .jk, .jk, .jk]] [.ag [.s (.int .i64 r.Kind), .s (.int .i64 r.N), .s (.string r.S), .ow 46 (rowsOf qYD r.List_), .ow 9 (rowsOf Str_c r.Names)]] := by
 unfold qjE.f at h; let qE := rowsOf qR; let qB := rowsOf Int_c; let qmD := rowsOf qYD; let qjC := rowsOf quC; let qP := rowsOf Row_o; let qhB := rowsOf Str_c; let qS := @lenI Row
 show AC _ _ [.ag [.im false (qB qQ), .s (.int .i64 qOB), .im false (qjC qFB)], .ag [.s (.int .i64 qo), .im false (qE qO), .s (.int .i64 qp), .s (.bool qJB), .s (.int .i64 qq), .im false (qB qDB), .s (.bool qM), .s (.int .i64 qL), .s (.int .i64 qc)]] _ _
 refine run3 Tryz.func14 (by rfl) (by rfl) (by cbv) ⟨by decide, rfl⟩ ?_; intro ar cm bo sc sa sx ss sl bs sb ln sr ap up rp fr ge le lt nz mm ma sm fl al ci hL F hP hA hT hM hC; refine zB ?_; refine zA hL hT [] (by cbv) hq0 ?_; refine zB (zB ?_); obtain ⟨r1, h_r1, h⟩ := bnd h; obtain ⟨r2, h_r2, h⟩ := bnd h; refine zA hL hT [(1, .call [false] [.ag [.jk, .jk, .jk]] [.v (.s (.bool r1))]), (7, .call [false, false] [.ag [.jk], .ag [.jk, .jk, .jk, .jk, .jk, .jk, .jk, .jk, .jk]] [.v (.s (.bool r2))])] (by cbv) ?_ ?_
 exact hq Tt (hq (hC (qKG h_r1)) (hq zn (hq (fun g4 => (hq g4 zt)) (hq (fun g5 => zt) (hq (fun g6 => (hq g6 (hq g6 (hq (hC (qIF (gd_t h_r2 g6))) hq0)))) (hq (fun g7 => (hq g7 hq0)) (hq zn (hq (fun q9 => (hq (bo_m q9) hq0)) hq0)))))))); refine zC (by cbv) hq0 (fun c10 => ?_) (fun c10 => ?_)
 ·
  have h := if_t c10 h; refine zB ?_; refine zA hL hT [] (by cbv) ?_ ?_; exact zt; refine zD ?_
  cases h
  refine ⟨_, _, by cbv, ?_, ?_⟩; exact LLe.r; exact ALe.ag rfl (LLe.c (LLe.c (LLe.c (LLe.cons zK (LLe.cons zK LLe.nil))))) ALe.nil
 have h := if_f c10 h; refine zE (zB ?_); obtain ⟨r11, h_r11, h⟩ := bnd h; refine zA hL hT [(2, .call [false, false] [.ag [.jk, .jk, .jk], .ag [.jk, .jk, .jk, .jk, .jk, .jk, .jk, .jk, .jk]] [.v (.ow 56 (qP r11))])] (by cbv) ?_ ?_; exact hq Tt (hq Tt (hq (hC (qcK h_r11)) hq0)); refine zB ?_; refine zA hL hT [] (by cbv) hq0 ?_; obtain ⟨K13, h_K13, h⟩ := joinE h; refine zI K13 (r := r) (fun (y12 : List Int) => ⟨43, 100000, [(3, .pt 1 0 0), (4, .pt 2 0 0), (5, .rf 3), (6, .rf 4)], [(1, .box 32 [.t (.s (.int .i64 qo)), .t (.im false (qE qO)), .t (.s (.int .i64 qp)), .t (.s (.bool qJB)), .t (.s (.int .i64 qq)), .t (.im false (qB qDB)), .t (.s (.bool qM)), .t (.s (.int .i64 qL)), .t (.s (.int .i64 qc))]), (2, .box 46 [.t (.s (.int .i64 0)), .t (.s (.int .i64 0)), .t (.s (.string ByteArray.empty)), .t (.s (.slice none 0 0)), .t (.s (.slice none 0 0))]), (3, .row 0 56 2 (qP r11)), (4, .row 0 3 1 (qB y12))]⟩) ?_ ?_
 ·
  skip
  refine zB ?_; refine zA hL hT [] (by cbv) hq0 ?_; rw [show ln (qP r11) = qS r11 from ln_eq Row_o _]; refine Run.block ?_; refine zJ (fun (z33 : List Int) (z34 : Int) => ⟨43, 100000, [(2, .pt 1 0 0), (3, .pt 2 0 0), (4, .pt 3 0 0), (5, .rf 4), (6, .rf 5), (24, .rf 4), (25, .t (.s (.int .i64 (qS r11)))), (26, .t (.s (.int .i64 z34)))], [(1, .box 29 [.t (.im false (qB qQ)), .t (.s (.int .i64 qOB)), .t (.im false (qjC qFB))]), (2, .box 32 [.t (.s (.int .i64 qo)), .t (.im false (qE qO)), .t (.s (.int .i64 qp)), .t (.s (.bool qJB)), .t (.s (.int .i64 qq)), .t (.im false (qB qDB)), .t (.s (.bool qM)), .t (.s (.int .i64 qL)), .t (.s (.int .i64 qc))]), (3, .box 46 [.t (.s (.int .i64 0)), .t (.s (.int .i64 0)), .t (.s (.string ByteArray.empty)), .t (.s (.slice none 0 0)), .t (.s (.slice none 0 0))]), (4, .row 0 56 2 (qP r11)), (5, .row 0 3 1 (qB z33))]⟩) (x0 := []) (x1 := 0) h (Weak.of _ [(1, 0), (2, 1), (3, 2), (4, 8194), (5, 12288)] hA (by cbv) ?_) (fun _ _ => rfl) ?_
  · repeat first|exact hq0|refine hq (by first|exact Tt|rfl) ?_
  intro k z33 z34 h; rw [qjE.l0] at h; refine zB ?_; refine zA hL hT [] (by cbv) ?_ ?_; exact zt; refine zB ?_; refine zC (by cbv) hq0 (fun c35 => ?_) (fun c35 => ?_)
  ·
   have h := if_t c35 h; refine zE (zB ?_); refine Run.block ?_; refine zB ?_; obtain ⟨⟨qJQ, qlN⟩, h_x36, h⟩ := bnd h; refine zA hL hT [(1, .el [.s (.int .i64 qJQ), .ow 3 (qB qlN)])] (by cbv) ?_ ?_; exact hq (qJ h_x36) (hq (qa (f := Row_o) h_x36) (hq (qJ h_x36) (hq (qa (f := Row_o) h_x36) (hq (qk (f := Row_o) h_x36) zt)))); obtain ⟨r37, h_r37, h⟩ := bnd h; obtain ⟨l38, h_l38, h⟩ := bnd h; obtain ⟨l39, h_l39, h⟩ := bnd h
   refine zA hL hT [(5, .call [false, false, false] [.ag [.jk, .jk, .jk], .ag [.jk, .jk, .jk, .jk, .jk, .jk, .jk, .jk, .jk], .v (.jk)] [.v (.s (.int .i64 r37))])] (by cbv) ?_ ?_; exact hq Tt (hq Tt (hq Tt (hq (hC (qXR h_r37)) (hq (qGD (P := Tryz.prog) (f := Int_c) RLe.r (qLB (f := Int_c) h_l38 (RLe.cons rfl LLe.r RLe.nil)) h_l39) hq0)))); refine Run.row (rows := (ap (qB z33) ([[.s (.int .i64 r37)]]))) 108199 (qB l39) (by cbv) (qFD (f := Int_c) RLe.r (qLB (f := Int_c) h_l38 (RLe.cons rfl LLe.r RLe.nil)) h_l39) ?_
   refine zA hL hT [] (by cbv) ?_ ?_; exact zt; refine ⟨l39, (ar .add .i64 z34 1), h, Weak.of _ [(1, 1), (2, 2), (3, 3), (4, 4), (5, 108199)] hA (by cbv) ?_⟩
   repeat first|exact hq0|refine hq (by first|exact Tt|rfl) ?_
  have h := if_f c35 h; refine zG ?_; refine ⟨z33, h, Weak.of _ [(1, 2), (2, 3), (3, 4), (4, 5)] hA (by cbv) ?_⟩
  repeat first|exact hq0|refine hq (by first|exact Tt|rfl) ?_
 intro y12 h; rw [h_K13] at h; refine zB ?_; obtain ⟨⟨qXb, qIg, qJg, qOZ, qPZ⟩, h_r40, h⟩ := bnd h; refine zA hL hT [(3, .call [false, false, false] [.ag [.jk, .jk, .jk, .jk, .jk, .jk, .jk, .jk, .jk], .v (.jk), .v (.jk)] [.ag [.s (.int .i64 qXb), .s (.int .i64 qIg), .s (.string qJg), .ow 46 (qmD qOZ), .ow 9 (qhB qPZ)]])] (by cbv) ?_ ?_; exact hq Tt (hq (hC (AC.args (qlM h_r40) (ALe.ag rfl LLe.r (ALe.v (LLe.im (RLe.eq (qz qFF _))) (ALe.v (LLe.im (RLe.eq (qz qJC _))) ALe.nil))))) zt)
 refine zD ?_
 cases h
 refine ⟨_, _, by cbv, ?_, ?_⟩; exact LLe.r; exact ALe.ag rfl LLe.r ALe.nil
theorem qcF {a0v_b : List Int} {a0v_i a0v_h : Int} {r : l1Cur × Int} (h : qcE.f (l1Cur.mk a0v_b a0v_i a0v_h) = some r) : AC Tryz.prog 95 [.v (.bx 119 [.im true (rowsOf u8_c a0v_b), .s (.int .i64 a0v_i), .s (.int .i64 a0v_h)])] [.v (.bx 119 [.im true (rowsOf u8_c a0v_b), .s (.int .i64 r.1.i), .s (.int .i64 r.1.h)])] [.v (.s (.int .i64 r.2))] := by
 unfold qcE.f at h; let eu8_c := rowsOf u8_c; let qqJ := @lenI Int
 show AC _ _ [.v (.bx 119 [.im true (eu8_c a0v_b), .s (.int .i64 a0v_i), .s (.int .i64 a0v_h)])] _ _
 refine run3 Tryz.func95 (by rfl) (by rfl) (by cbv) ⟨by decide, rfl⟩ ?_; intro ar cm bo sc sa sx ss sl bs sb ln sr ap up rp fr ge le lt nz mm ma sm fl al ci hL F hP hA hT hM hC; refine zB ?_; refine zA hL hT [] (by cbv) hq0 ?_; refine zB ?_; refine zA hL hT [] (by cbv) ?_ ?_; exact hq Tt (hq Tt (hq Tt zt)); refine zB ?_; refine zF hL hT hM [] (by cbv) (by cbv) (by cbv) (by cbv) (by cbv) ?_ ?_; exact hq Tt (hq Tt (hq Tt (hq (by decide : (0 : Int) ≤ 33) (hq (by decide : (33 : Int) < 64) (hq Tt (hq Tt (hq Tt (hq (by decide : (0 : Int) ≤ 45) (hq (by decide : (45 : Int) < 64) (hq Tt zt))))))))))
 refine zB (zB ?_); refine zF hL hT hM [] (by cbv) (by cbv) (by cbv) (by cbv) (by cbv) ?_ ?_; exact hq Tt (hq Tt zt); rw [show ln (eu8_c a0v_b) = qqJ a0v_b from ln_eq u8_c _]; refine zC (by cbv) hq0 (fun c1 => ?_) (fun c1 => ?_)
 ·
  have h := if_t c1 h; refine zB ?_; obtain ⟨x2, h_x2, h⟩ := bnd h; refine zF hL hT hM [(9, .el [.s (.int .u8 x2)])] (by cbv) (by cbv) (by cbv) (by cbv) (by cbv) ?_ ?_; exact hq Tt (hq Tt (hq (qJ h_x2) (hq (qa (f := u8_c) h_x2) (hq (qk (f := u8_c) h_x2) (hq Tt zt))))); refine zA hL hT [] (by cbv) ?_ ?_; exact hq Tt (hq Tt zt); refine zB ?_; refine zA hL hT [] (by cbv) hq0 ?_; refine zD ?_
  cases h
  refine ⟨_, _, by cbv, ?_, ?_⟩; exact LLe.r; exact ALe.v LLe.r ALe.nil
 have h := if_f c1 h; refine zE (zB ?_); refine zA hL hT [] (by cbv) hq0 ?_; refine zD ?_
 cases h
 refine ⟨_, _, by cbv, ?_, ?_⟩; exact LLe.r; exact ALe.v LLe.r ALe.nil
theorem qr {a0v_b : List Int} {a0v_i a0v_h a1 : Int} {r : l1Cur × Int} (h : ql.f (l1Cur.mk a0v_b a0v_i a0v_h) a1 = some r) : AC Tryz.prog 39 [.v (.bx 119 [.im true (rowsOf u8_c a0v_b), .s (.int .i64 a0v_i), .s (.int .i64 a0v_h)]), .v (.s (.int .i64 a1))] [.v (.bx 119 [.im true (rowsOf u8_c a0v_b), .s (.int .i64 r.1.i), .s (.int .i64 r.1.h)]), .v (.jk)] [.v (.s (.int .i64 r.2))] := by
 unfold ql.f at h; let eu8_c := rowsOf u8_c
 show AC _ _ [.v (.bx 119 [.im true (eu8_c a0v_b), .s (.int .i64 a0v_i), .s (.int .i64 a0v_h)]), .v (.s (.int .i64 a1))] _ _
 refine run3 Tryz.func39 (by rfl) (by rfl) (by cbv) ⟨by decide, rfl⟩ ?_; intro ar cm bo sc sa sx ss sl bs sb ln sr ap up rp fr ge le lt nz mm ma sm fl al ci hL F hP hA hT hM hC; refine zB ?_; refine zA hL hT [] (by cbv) hq0 ?_; refine zB (zB ?_); refine zA hL hT [] (by cbv) ?_ ?_; exact zt; refine zC (by cbv) hq0 (fun c1 => ?_) (fun c1 => ?_)
 ·
  have h := if_t c1 h; refine zB ?_; refine zA hL hT [] (by cbv) hq0 ?_; refine zD ?_
  cases h
  refine ⟨_, _, by cbv, ?_, ?_⟩; exact LLe.r; exact ALe.v LLe.r ALe.nil
 have h := if_f c1 h; refine zE (zB ?_); refine zB ?_; refine zA hL hT [] (by cbv) ?_ ?_; exact zt; refine zC (by cbv) hq0 (fun c2 => ?_) (fun c2 => ?_)
 ·
  have h := if_t c2 h; refine zB ?_; obtain ⟨⟨⟨qGY, qmM, qnM⟩, r3v_2⟩, h_r3, h⟩ := bnd h; obtain ⟨u4, h_u4, h⟩ := bnd h; refine zA hL hT [(1, .call [true] [.v (.bx 119 [.im true (eu8_c a0v_b), .s (.int .i64 qmM), .s (.int .i64 qnM)])] [.v (.s (.int .i64 r3v_2))])] (by cbv) ?_ ?_; exact hq (hC (qcF h_r3)) (hq Tt (hq (nz_t h_u4) hq0)); refine zD ?_
  cases h
  refine ⟨_, _, by cbv, ?_, ?_⟩; exact LLe.r; exact ALe.v LLe.r ALe.nil
 have h := if_f c2 h; refine zE (zB ?_); obtain ⟨⟨⟨qKd, qHU, qIU⟩, r5v_2⟩, h_r5, h⟩ := bnd h; refine zA hL hT [(1, .call [true] [.v (.bx 119 [.im true (eu8_c a0v_b), .s (.int .i64 qHU), .s (.int .i64 qIU)])] [.v (.s (.int .i64 r5v_2))])] (by cbv) ?_ ?_; exact hq (hC (qcF h_r5)) hq0; refine zB ?_; obtain ⟨⟨⟨qHY, qoM, qpM⟩, r6v_2⟩, h_r6, h⟩ := bnd h; refine zA hL hT [(1, .call [true] [.v (.bx 119 [.im true (eu8_c a0v_b), .s (.int .i64 qoM), .s (.int .i64 qpM)])] [.v (.s (.int .i64 r6v_2))])] (by cbv) ?_ ?_
 exact hq (hC (qcF h_r6)) hq0; refine zB ?_; obtain ⟨⟨⟨qLd, qJU, qKU⟩, r7v_2⟩, h_r7, h⟩ := bnd h; refine zA hL hT [(1, .call [true] [.v (.bx 119 [.im true (eu8_c a0v_b), .s (.int .i64 qJU), .s (.int .i64 qKU)])] [.v (.s (.int .i64 r7v_2))])] (by cbv) ?_ ?_; exact hq (hC (qcF h_r7)) hq0; refine zB ?_; obtain ⟨⟨⟨qMd, qLU, qMU⟩, r8v_2⟩, h_r8, h⟩ := bnd h; refine zA hL hT [(1, .call [true] [.v (.bx 119 [.im true (eu8_c a0v_b), .s (.int .i64 qLU), .s (.int .i64 qMU)])] [.v (.s (.int .i64 r8v_2))])] (by cbv) ?_ ?_
 exact hq (hC (qcF h_r8)) hq0; refine zB ?_; obtain ⟨u9, h_u9, h⟩ := bnd h; refine zA hL hT [] (by cbv) ?_ ?_; exact hq Tt (hq Tt (hq Tt (hq Tt (hq Tt (hq Tt (hq Tt (hq (nz_t h_u9) hq0))))))); refine zD ?_
 cases h
 refine ⟨_, _, by cbv, ?_, ?_⟩; exact LLe.r; exact ALe.v LLe.r ALe.nil
theorem qUH {a0v_b : List Int} {a0v_i a0v_h : Int} {r : l1Cur × Schema} (h : qQC.f (l1Cur.mk a0v_b a0v_i a0v_h) = some r) : AC Tryz.prog 91 [.v (.bx 119 [.im true (rowsOf u8_c a0v_b), .s (.int .i64 a0v_i), .s (.int .i64 a0v_h)])] [.v (.bx 119 [.im true (rowsOf u8_c a0v_b), .s (.int .i64 r.1.i), .s (.int .i64 r.1.h)])] [.ag [.ow 3 (rowsOf Int_c r.2.Cols)]] := by
 unfold qQC.f at h; let qB := rowsOf Int_c; let eu8_c := rowsOf u8_c
 show AC _ _ [.v (.bx 119 [.im true (eu8_c a0v_b), .s (.int .i64 a0v_i), .s (.int .i64 a0v_h)])] _ _
 refine run3 Tryz.func91 (by rfl) (by rfl) (by cbv) ⟨by decide, rfl⟩ ?_; intro ar cm bo sc sa sx ss sl bs sb ln sr ap up rp fr ge le lt nz mm ma sm fl al ci hL F hP hA hT hM hC; refine zB ?_; refine zA hL hT [] (by cbv) hq0 ?_; refine zB ?_; refine zA hL hT [] (by cbv) ?_ ?_; exact zt; refine zB (zB ?_); refine zA hL hT [] (by cbv) hq0 ?_; refine Run.block ?_; refine zS (fun (z10 : Int) (z11 : Int) (z12 : List Int) (z13 : Int) => ⟨22, 100000, [(0, .pt 0 0 0), (2, .pt 1 0 0), (3, .pt 2 0 0), (4, .t (.s (.int .i64 z13)))], [(0, .box 119 [.t (.im true (eu8_c a0v_b)), .t (.s (.int .i64 z10)), .t (.s (.int .i64 z11))]), (1, .box 26 [.t (.s (.slice none 0 0))]), (2, .box 26 [.rf 3]), (3, .row 0 3 1 (qB z12))]⟩) (x0 := a0v_i) (x1 := a0v_h) (x2 := []) (x3 := 0) h ((Weak.nilB (l := []) hT 4098 0 13289 3 rfl (by cbv) (by cbv) (by cbv)).trans (Weak.of _ [(0, 0), (1, 1), (2, 4098), (3, 13289)] hA (by cbv) ?_)) (fun _ _ _ _ => rfl) ?_
 · repeat first|exact hq0|refine hq (by first|exact Tt|rfl) ?_
 intro k z10 z11 z12 z13 h; rw [qQC.l0] at h; refine zB (zB ?_); obtain ⟨⟨⟨qYb, qOQ, qPQ⟩, qKg⟩, h_r14, h⟩ := bnd h; refine zA hL hT [(2, .call [true, false] [.v (.bx 119 [.im true (eu8_c a0v_b), .s (.int .i64 qOQ), .s (.int .i64 qPQ)]), .v (.jk)] [.v (.s (.int .i64 qKg))])] (by cbv) ?_ ?_; exact hq (hC (qr h_r14)) (hq Tt zt); refine zC (by cbv) hq0 (fun c15 => ?_) (fun c15 => ?_)
 ·
  have h := if_t c15 h; refine zE (zB ?_); refine Run.block ?_; obtain ⟨⟨⟨qZb, qqM, qrM⟩, qIY⟩, h_r16, h⟩ := bnd h; obtain ⟨l17, h_l17, h⟩ := bnd h; obtain ⟨l18, h_l18, h⟩ := bnd h; refine zF hL hT hM [(3, .call [true, false] [.v (.bx 119 [.im true (eu8_c a0v_b), .s (.int .i64 qqM), .s (.int .i64 qrM)]), .v (.jk)] [.v (.s (.int .i64 qIY))])] (by cbv) (by cbv) (by cbv) (by cbv) (by cbv) ?_ ?_
  exact hq Tt (hq (hC (qr h_r16)) (hq Tt (hq (qGD (P := Tryz.prog) (f := Int_c) RLe.r (qLB (f := Int_c) h_l17 (RLe.cons rfl LLe.r RLe.nil)) h_l18) zt))); refine Run.row (rows := (ap (qB z12) ([[.s (.int .i64 (ar .add .i64 1 qIY))]]))) 104102 (qB l18) (by cbv) (qFD (f := Int_c) RLe.r (qLB (f := Int_c) h_l17 (RLe.cons rfl LLe.r RLe.nil)) h_l18) ?_; refine zA hL hT [] (by cbv) ?_ ?_; exact zt; refine ⟨qqM, qrM, l18, (ar .add .i64 z13 1), h, Weak.of _ [(0, 0), (1, 1), (2, 2), (3, 104102)] hA (by cbv) ?_⟩
  repeat first|exact hq0|refine hq (by first|exact Tt|rfl) ?_
 have h := if_f c15 h; refine zG (zB ?_); refine zA hL hT [] (by cbv) ?_ ?_; exact hq Tt zt; refine zD ?_
 cases h
 refine ⟨_, _, by cbv, ?_, ?_⟩; exact LLe.r; exact ALe.ag rfl LLe.r ALe.nil
theorem qXE {a0v_b : List Int} {a0v_i a0v_h : Int} {a1 : List Int} {r : l1Cur × Int} (h : qvC.f (l1Cur.mk a0v_b a0v_i a0v_h) a1 = some r) : AC Tryz.prog 94 [.v (.bx 119 [.im true (rowsOf u8_c a0v_b), .s (.int .i64 a0v_i), .s (.int .i64 a0v_h)]), .v (.im false (rowsOf Int_c a1))] [.v (.bx 119 [.im true (rowsOf u8_c a0v_b), .s (.int .i64 r.1.i), .s (.int .i64 r.1.h)]), .v (.jk)] [.v (.s (.int .i64 r.2))] := by
 unfold qvC.f at h; let qB := rowsOf Int_c; let eu8_c := rowsOf u8_c; let qW := @lenI Int
 show AC _ _ [.v (.bx 119 [.im true (eu8_c a0v_b), .s (.int .i64 a0v_i), .s (.int .i64 a0v_h)]), .v (.im false (qB a1))] _ _
 refine run3 Tryz.func94 (by rfl) (by rfl) (by cbv) ⟨by decide, rfl⟩ ?_; intro ar cm bo sc sa sx ss sl bs sb ln sr ap up rp fr ge le lt nz mm ma sm fl al ci hL F hP hA hT hM hC; refine zB ?_; refine zA hL hT [] (by cbv) hq0 ?_; refine zB ?_; obtain ⟨⟨⟨qmI, qnD, qoD⟩, r1v_2⟩, h_r1, h⟩ := bnd h; obtain ⟨x2, h_x2, h⟩ := bnd h; refine zA hL hT [(4, .call [true, false] [.v (.bx 119 [.im true (eu8_c a0v_b), .s (.int .i64 qnD), .s (.int .i64 qoD)]), .v (.jk)] [.v (.s (.int .i64 r1v_2))]), (5, .el [.s (.int .i64 x2)])] (by cbv) ?_ ?_
 exact hq (by rw [show ln (qB a1) = qW a1 from ln_eq Int_c _]; exact (hC (qr h_r1))) (hq (qJ h_x2) (hq (qa (f := Int_c) h_x2) (hq (qk (f := Int_c) h_x2) hq0))); rw [show ln (qB a1) = qW a1 from ln_eq Int_c _]; refine zD ?_
 cases h
 refine ⟨_, _, by cbv, ?_, ?_⟩; exact LLe.r; exact ALe.v LLe.r ALe.nil
theorem qqN {a0v_b : List Int} {a0v_i a0v_h : Int} {r : l1Cur × Schema} (h : qXF.f (l1Cur.mk a0v_b a0v_i a0v_h) = some r) : AC Tryz.prog 149 [.v (.bx 119 [.im true (rowsOf u8_c a0v_b), .s (.int .i64 a0v_i), .s (.int .i64 a0v_h)])] [.v (.bx 119 [.im true (rowsOf u8_c a0v_b), .s (.int .i64 r.1.i), .s (.int .i64 r.1.h)])] [.ag [.ow 3 (rowsOf Int_c r.2.Cols)]] := by
 unfold qXF.f at h; let qB := rowsOf Int_c; let eu8_c := rowsOf u8_c
 show AC _ _ [.v (.bx 119 [.im true (eu8_c a0v_b), .s (.int .i64 a0v_i), .s (.int .i64 a0v_h)])] _ _
 refine run3 Tryz.func149 (by rfl) (by rfl) (by cbv) ⟨by decide, rfl⟩ ?_; intro ar cm bo sc sa sx ss sl bs sb ln sr ap up rp fr ge le lt nz mm ma sm fl al ci hL F hP hA hT hM hC; refine zB ?_; refine zA hL hT [] (by cbv) hq0 ?_; refine zB ?_; obtain ⟨⟨⟨qmI, qnD, qoD⟩, ⟨qEI⟩⟩, h_r1, h⟩ := bnd h; refine zA hL hT [(1, .call [true] [.v (.bx 119 [.im true (eu8_c a0v_b), .s (.int .i64 qnD), .s (.int .i64 qoD)])] [.ag [.ow 3 (qB qEI)]])] (by cbv) ?_ ?_
 exact hq (hC (qUH h_r1)) zt; refine zB (zB ?_); obtain ⟨⟨⟨qnI, qpD, qqD⟩, r2v_2⟩, h_r2, h⟩ := bnd h; refine zA hL hT [(1, .call [true, false] [.v (.bx 119 [.im true (eu8_c a0v_b), .s (.int .i64 qpD), .s (.int .i64 qqD)]), .v (.jk)] [.v (.s (.int .i64 r2v_2))])] (by cbv) ?_ ?_; exact hq (hC (qr h_r2)) hq0; refine Run.block ?_; refine zB ?_; refine zA hL hT [] (by cbv) ?_ ?_; exact zt; refine zC (by cbv) hq0 (fun c3 => ?_) (fun c3 => ?_)
 ·
  have h := if_t c3 h; obtain ⟨l4, h_l4, h⟩ := bnd h; obtain ⟨l5, h_l5, h⟩ := bnd h; refine zA hL hT [] (by cbv) ?_ ?_; exact hq Tt (hq (qGD (P := Tryz.prog) (f := Int_c) RLe.r (qLB (f := Int_c) h_l4 (RLe.cons rfl LLe.r (RLe.cons rfl LLe.r (RLe.cons rfl LLe.r RLe.nil)))) h_l5) zt); refine Run.row (rows := (ap (qB qEI) ([[.s (.int .i64 1)], [.s (.int .i64 1)], [.s (.int .i64 1)]]))) 16388 (qB l5) (by cbv) (qFD (f := Int_c) RLe.r (qLB (f := Int_c) h_l4 (RLe.cons rfl LLe.r (RLe.cons rfl LLe.r (RLe.cons rfl LLe.r RLe.nil)))) h_l5) ?_
  refine zB ?_; refine zA hL hT [] (by cbv) ?_ ?_; exact hq Tt zt; refine zD ?_
  cases h
  refine ⟨_, _, by cbv, ?_, ?_⟩; exact LLe.r; exact ALe.ag rfl LLe.r ALe.nil
 have h := if_f c3 h; refine zB ?_; refine zA hL hT [] (by cbv) ?_ ?_; exact zt; refine zC (by cbv) hq0 (fun c6 => ?_) (fun c6 => ?_)
 ·
  have h := if_t c6 h; obtain ⟨l7, h_l7, h⟩ := bnd h; obtain ⟨⟨⟨qMd, qLU, qMU⟩, r8v_2⟩, h_r8, h⟩ := bnd h; obtain ⟨x9, h_x9, h⟩ := bnd h; obtain ⟨l10, h_l10, h⟩ := bnd h; refine zF hL hT hM [(4, .call [true, false] [.v (.bx 119 [.im true (eu8_c a0v_b), .s (.int .i64 qLU), .s (.int .i64 qMU)]), .v (.jk)] [.v (.s (.int .i64 r8v_2))])] (by cbv) (by cbv) (by cbv) (by cbv) (by cbv) ?_ ?_; exact hq Tt (hq (hC (AC.args (qXE h_r8) (ALe.v LLe.r (ALe.v (qGV rfl (qLB (f := Int_c) h_l7 (RLe.cons rfl LLe.r (RLe.cons rfl LLe.r (RLe.cons rfl LLe.r RLe.nil))))) ALe.nil)))) (hq (qJ h_x9) (hq (qa (f := Int_c) h_x9) (hq (qJ h_x9) (hq (qa (f := Int_c) h_x9) hq0)))))
  refine Run.row (rows := (up (qB qEI) 0 0 [.s (.int .i64 r8v_2)])) 4098 (qB l10) (by cbv) (qAV (f := Int_c) h_x9 h_l10 rfl LLe.r) ?_; refine Run.row (rows := [[.s (.int .i64 0)], [.s (.int .i64 5)], [.s (.int .i64 (-1))]]) 20484 (qB l7) (by cbv) (qLB (f := Int_c) h_l7 (RLe.cons rfl LLe.r (RLe.cons rfl LLe.r (RLe.cons rfl LLe.r RLe.nil)))) ?_; refine zB ?_; refine zA hL hT [] (by cbv) ?_ ?_; exact hq Tt zt
  refine zD ?_
  cases h
  refine ⟨_, _, by cbv, ?_, ?_⟩; exact LLe.r; exact ALe.ag rfl LLe.r ALe.nil
 have h := if_f c6 h; refine zB ?_; refine zA hL hT [] (by cbv) ?_ ?_; exact zt; refine zC (by cbv) hq0 (fun c11 => ?_) (fun c11 => ?_)
 ·
  have h := if_t c11 h; refine zA hL hT [] (by cbv) ?_ ?_; exact zt; refine zB ?_; refine zA hL hT [] (by cbv) ?_ ?_; exact hq Tt zt; refine zD ?_
  cases h
  refine ⟨_, _, by cbv, ?_, ?_⟩; exact LLe.r; exact ALe.ag rfl (LLe.cons zK LLe.nil) ALe.nil
 have h := if_f c11 h; refine zE (zB ?_); refine zA hL hT [] (by cbv) ?_ ?_; exact hq Tt zt; refine zD ?_
 cases h
 refine ⟨_, _, by cbv, ?_, ?_⟩; exact LLe.r; exact ALe.ag rfl LLe.r ALe.nil
theorem qbO {qI : List Int} {r : Schema} (h : qEG.f (Schema.mk qI) = some r) : AC Tryz.prog 107 [.ag [.im false (rowsOf Int_c qI)]] [.ag [.jk]] [.ag [.ow 3 (rowsOf Int_c r.Cols)]] := by
 unfold qEG.f at h; let qB := rowsOf Int_c
 show AC _ _ [.ag [.im false (qB qI)]] _ _
 refine run3 Tryz.func107 (by rfl) (by rfl) (by cbv) ⟨by decide, rfl⟩ ?_; intro ar cm bo sc sa sx ss sl bs sb ln sr ap up rp fr ge le lt nz mm ma sm fl al ci hL F hP hA hT hM hC; refine zB ?_; refine zA hL hT [] (by cbv) hq0 ?_; refine zB ?_; obtain ⟨l1, h_l1, h⟩ := bnd h; refine zA hL hT [] (by cbv) ?_ ?_; exact hq Tt (hq (qNO qsT _) (hq (qGD (P := Tryz.prog) (f := Int_c) RLe.r RLe.r h_l1) zt)); refine Run.row (rows := (ap ([]) ((qB qI)))) 4099 (qB l1) (by cbv) (qFD (f := Int_c) RLe.r RLe.r h_l1) ?_
 refine zD ?_
 cases h
 refine ⟨_, _, by cbv, ?_, ?_⟩; exact LLe.r; exact ALe.ag rfl LLe.r ALe.nil
theorem qVC {a0 a1 a2 : Int} {r : Bool} (h : qiC.f a0 a1 a2 = some r) : AC Tryz.prog 47 [.v (.s (.int .i64 a0)), .v (.s (.int .i64 a1)), .v (.s (.int .i64 a2))] [.v (.jk), .v (.jk), .v (.jk)] [.v (.s (.bool r))] := by
 unfold qiC.f at h
 show AC _ _ [.v (.s (.int .i64 a0)), .v (.s (.int .i64 a1)), .v (.s (.int .i64 a2))] _ _
 refine run3 Tryz.func47 (by rfl) (by rfl) (by cbv) ⟨by decide, rfl⟩ ?_; intro ar cm bo sc sa sx ss sl bs sb ln sr ap up rp fr ge le lt nz mm ma sm fl al ci hL F hP hA hT hM hC; refine zB ?_; refine zA hL hT [] (by cbv) hq0 ?_; refine zB ?_; refine zA hL hT [] (by cbv) ?_ ?_; exact hq Tt (hq zn (hq zn (hq (fun g3 => (hq g3 (hq g3 zt))) (hq (fun q4 => (hq q4 hq0)) (hq zn hq0))))); refine zD ?_
 cases h
 refine ⟨_, _, by cbv, ?_, ?_⟩; exact LLe.r; exact ALe.v LLe.r ALe.nil
theorem qoE {qI : List Int} {r : Bool} (h : qZC.f (Schema.mk qI) = some r) : AC Tryz.prog 64 [.ag [.im false (rowsOf Int_c qI)]] [.ag [.jk]] [.v (.s (.bool r))] := by
 unfold qZC.f at h; let qB := rowsOf Int_c; let qW := @lenI Int
 show AC _ _ [.ag [.im false (qB qI)]] _ _
 refine run3 Tryz.func64 (by rfl) (by rfl) (by cbv) ⟨by decide, rfl⟩ ?_; intro ar cm bo sc sa sx ss sl bs sb ln sr ap up rp fr ge le lt nz mm ma sm fl al ci hL F hP hA hT hM hC; refine zB ?_; refine zA hL hT [] (by cbv) hq0 ?_; obtain ⟨K2, h_K2, h⟩ := joinE h; refine zI K2 (r := r) (fun (y1 : Unit) => ⟨22, 100000, [(1, .pt 1 0 0)], [(1, .box 26 [.t (.im false (qB qI))])]⟩) ?_ ?_
 ·
  skip
  refine zB ?_; refine zA hL hT [] (by cbv) hq0 ?_; refine Run.block ?_; refine zH (fun (z5 : Int) => ⟨22, 100000, [(1, .pt 1 0 0), (3, .t (.s (.int .i64 z5)))], [(1, .box 26 [.t (.im false (qB qI))])]⟩) (x0 := 0) h (Weak.of _ [(1, 0)] hA (by cbv) ?_) (fun _ => rfl) ?_
  · repeat first|exact hq0|refine hq (by first|exact Tt|rfl) ?_
  intro k z5 h; rw [qZC.l0] at h; refine zB (zB ?_); refine zA hL hT [] (by cbv) ?_ ?_; exact hq Tt zt; rw [show ln (qB qI) = qW qI from ln_eq Int_c _]; refine zC (by cbv) hq0 (fun c6 => ?_) (fun c6 => ?_)
  ·
   have h := if_t c6 h; refine zE (zB ?_); refine Run.block ?_; refine zB ?_; obtain ⟨x7, h_x7, h⟩ := bnd h; obtain ⟨r8, h_r8, h⟩ := bnd h; refine zA hL hT [(3, .el [.s (.int .i64 x7)]), (5, .call [false, false, false] [.v (.jk), .v (.jk), .v (.jk)] [.v (.s (.bool r8))])] (by cbv) ?_ ?_; exact hq Tt (hq (qJ h_x7) (hq (qa (f := Int_c) h_x7) (hq (qk (f := Int_c) h_x7) (hq (hC (qVC h_r8)) hq0))))
   refine zC (by cbv) hq0 (fun c9 => ?_) (fun c9 => ?_)
   ·
    have h := if_t c9 h; refine zB ?_; refine zA hL hT [] (by cbv) hq0 ?_; refine zD ?_
    cases h
    refine ⟨_, _, by cbv, ?_, ?_⟩; exact LLe.r; exact ALe.v LLe.r ALe.nil
   have h := if_f c9 h; refine zE ?_; refine zA hL hT [] (by cbv) ?_ ?_; exact zt; refine ⟨(ar .add .i64 z5 1), h, Weak.of _ [(1, 1)] hA (by cbv) ?_⟩
   repeat first|exact hq0|refine hq (by first|exact Tt|rfl) ?_
  have h := if_f c6 h; refine zG ?_; refine ⟨(), h, Weak.of _ [(1, 1)] hA (by cbv) ?_⟩
  repeat first|exact hq0|refine hq (by first|exact Tt|rfl) ?_
 intro y1 h; rw [h_K2] at h; refine zB ?_; obtain ⟨r10, h_r10, h⟩ := bnd h; refine zA hL hT [(3, .call [false, false, false] [.v (.jk), .v (.jk), .v (.jk)] [.v (.s (.bool r10))])] (by cbv) ?_ ?_; exact hq Tt (hq (by rw [show ln (qB qI) = qW qI from ln_eq Int_c _]; exact (hC (qVC h_r10))) hq0); rw [show ln (qB qI) = qW qI from ln_eq Int_c _]; refine zD ?_
 cases h
 refine ⟨_, _, by cbv, ?_, ?_⟩; exact LLe.r; exact ALe.v LLe.r ALe.nil
theorem qcO {qI : List Int} {r : Store × Bool} (h : qFG.f (Schema.mk qI) = some r) : AC Tryz.prog 90 [.ag [.im false (rowsOf Int_c qI)]] [.ag [.jk]] [.ag [.ow 3 (rowsOf Int_c r.1.Schema.Cols), .s (.int .i64 r.1.Version), .ow 50 (rowsOf qYE r.1.Tables)], .v (.s (.bool r.2))] := by
 unfold qFG.f at h; let qB := rowsOf Int_c; let qrD := rowsOf qYE; let qW := @lenI Int
 show AC _ _ [.ag [.im false (qB qI)]] _ _
 refine run3 Tryz.func90 (by rfl) (by rfl) (by cbv) ⟨by decide, rfl⟩ ?_; intro ar cm bo sc sa sx ss sl bs sb ln sr ap up rp fr ge le lt nz mm ma sm fl al ci hL F hP hA hT hM hC; refine zB ?_; refine zA hL hT [] (by cbv) hq0 ?_; refine zB (zB ?_); obtain ⟨r1, h_r1, h⟩ := bnd h; refine zA hL hT [(1, .call [false] [.ag [.jk]] [.v (.s (.bool r1))])] (by cbv) ?_ ?_; exact hq Tt (hq (hC (qoE h_r1)) hq0)
 refine zC (by cbv) hq0 (fun c2 => ?_) (fun c2 => ?_)
 ·
  have h := if_t c2 h; refine zB ?_; refine zA hL hT [] (by cbv) ?_ ?_; exact zt; refine zD ?_
  cases h
  refine ⟨_, _, by cbv, ?_, ?_⟩; exact LLe.r; exact ALe.ag rfl (LLe.cons zK (LLe.c (LLe.cons zK LLe.nil))) (ALe.v LLe.r ALe.nil)
 have h := if_f c2 h; refine zE (zB ?_); obtain ⟨⟨qNd⟩, h_r3, h⟩ := bnd h; obtain ⟨l4, h_l4, h⟩ := bnd h; refine zF hL hT hM [(1, .call [false] [.ag [.jk]] [.ag [.ow 3 (qB qNd)]])] (by cbv) (by cbv) (by cbv) (by cbv) (by cbv) ?_ ?_; exact hq Tt (hq (hC (qbO h_r3)) (hq Tt (hq Tt (hq (by rw [show ln (qB qI) = qW qI from ln_eq Int_c _]; exact (mk_0 h_l4)) (hq (by rw [show ln (qB qI) = qW qI from ln_eq Int_c _]; exact (mk_mm h_l4)) zt)))))
 rw [show ln (qB qI) = qW qI from ln_eq Int_c _]; refine Run.row (rows := (rp (qW qI) [.s (.slice none 0 0)])) 8197 (qrD l4) (by cbv) (mk_le (f := qYE) rfl (LLe.cons zK LLe.nil) h_l4) ?_; refine zD ?_
 cases h
 refine ⟨_, _, by cbv, ?_, ?_⟩; exact LLe.r; exact ALe.ag rfl LLe.r (ALe.v LLe.r ALe.nil)
theorem qdF {qtD : Int} {qQB : List Int} {r : Row} (h : qBE.f (Row.mk qtD qQB) = some r) : AC Tryz.prog 124 [.ag [.s (.int .i64 qtD), .im false (rowsOf Int_c qQB)]] [.ag [.jk, .jk]] [.ag [.s (.int .i64 r.Id), .ow 3 (rowsOf Int_c r.Cells)]] := by
 unfold qBE.f at h; let qB := rowsOf Int_c
 show AC _ _ [.ag [.s (.int .i64 qtD), .im false (qB qQB)]] _ _
 refine run3 Tryz.func124 (by rfl) (by rfl) (by cbv) ⟨by decide, rfl⟩ ?_; intro ar cm bo sc sa sx ss sl bs sb ln sr ap up rp fr ge le lt nz mm ma sm fl al ci hL F hP hA hT hM hC; refine zB ?_; refine zA hL hT [] (by cbv) hq0 ?_; refine zB ?_; obtain ⟨l1, h_l1, h⟩ := bnd h; refine zF hL hT hM [] (by cbv) (by cbv) (by cbv) (by cbv) (by cbv) ?_ ?_; exact hq Tt (hq Tt (hq (qNO qsT _) (hq (qGD (P := Tryz.prog) (f := Int_c) RLe.r RLe.r h_l1) zt)))
 refine Run.row (rows := (ap ([]) ((qB qQB)))) 4101 (qB l1) (by cbv) (qFD (f := Int_c) RLe.r RLe.r h_l1) ?_; refine zD ?_
 cases h
 refine ⟨_, _, by cbv, ?_, ?_⟩; exact LLe.r; exact ALe.ag rfl LLe.r ALe.nil
theorem qdH {a0 : List Row} {a1 r : Int} (h : qZD.f a0 a1 = some r) : AC Tryz.prog 86 [.v (.im false (rowsOf Row_i a0)), .v (.s (.int .i64 a1))] [.v (.jk), .v (.jk)] [.v (.s (.int .i64 r))] := by
 unfold qZD.f at h; let qB := rowsOf Int_c; let qT := rowsOf Row_i; let qS := @lenI Row
 show AC _ _ [.v (.im false (qT a0)), .v (.s (.int .i64 a1))] _ _
 refine run3 Tryz.func86 (by rfl) (by rfl) (by cbv) ⟨by decide, rfl⟩ ?_; intro ar cm bo sc sa sx ss sl bs sb ln sr ap up rp fr ge le lt nz mm ma sm fl al ci hL F hP hA hT hM hC; refine zB ?_; refine zA hL hT [] (by cbv) hq0 ?_; refine zB (zB ?_); refine zA hL hT [] (by cbv) hq0 ?_; refine Run.block ?_; refine zH (fun (z4 : Int) => ⟨20, 100000, [(0, .t (.im false (qT a0))), (1, .t (.s (.int .i64 a1))), (5, .t (.s (.int .i64 z4)))], []⟩) (x0 := 0) h (Weak.of _ [] hA (by cbv) ?_) (fun _ => rfl) ?_
 · repeat first|exact hq0|refine hq (by first|exact Tt|rfl) ?_
 intro k z4 h; rw [qZD.l0] at h; refine zB (zB ?_); refine zA hL hT [] (by cbv) ?_ ?_; exact zt; rw [show ln (qT a0) = qS a0 from ln_eq Row_i _]; refine zC (by cbv) hq0 (fun c5 => ?_) (fun c5 => ?_)
 ·
  have h := if_t c5 h; refine zE (zB ?_); refine Run.block ?_; refine zB ?_; obtain ⟨⟨qLg, qab⟩, h_x6, h⟩ := bnd h; refine zA hL hT [(2, .el [.s (.int .i64 qLg), .im false (qB qab)])] (by cbv) ?_ ?_; exact hq (qJ h_x6) (hq (qa (f := Row_i) h_x6) (hq (qk (f := Row_i) h_x6) zt)); refine zC (by cbv) hq0 (fun c7 => ?_) (fun c7 => ?_)
  ·
   have h := if_t c7 h; refine zB ?_; refine zA hL hT [] (by cbv) hq0 ?_; refine zD ?_
   cases h
   refine ⟨_, _, by cbv, ?_, ?_⟩; exact LLe.r; exact ALe.v LLe.r ALe.nil
  have h := if_f c7 h; refine zE ?_; refine zA hL hT [] (by cbv) ?_ ?_; exact zt; refine ⟨(ar .add .i64 z4 1), h, Weak.of _ [] hA (by cbv) ?_⟩
  repeat first|exact hq0|refine hq (by first|exact Tt|rfl) ?_
 have h := if_f c5 h; refine zG (zB ?_); refine zA hL hT [] (by cbv) hq0 ?_; refine zD ?_
 cases h
 refine ⟨_, _, by cbv, ?_, ?_⟩; exact LLe.r; exact ALe.v LLe.r ALe.nil
theorem qQQ {a0 : List Row} {a1 : Int} {r : (List Row)} (h : qzC.f a0 a1 = some r) : AC Tryz.prog 142 [.v (.im false (rowsOf Row_i a0)), .v (.s (.int .i64 a1))] [.v (.jk), .v (.jk)] [.v (.ow 56 (rowsOf Row_o r))] := by
 unfold qzC.f at h; let qB := rowsOf Int_c; let qT := rowsOf Row_i; let qP := rowsOf Row_o; let qS := @lenI Row
 show AC _ _ [.v (.im false (qT a0)), .v (.s (.int .i64 a1))] _ _
 refine run3 Tryz.func142 (by rfl) (by rfl) (by cbv) ⟨by decide, rfl⟩ ?_; intro ar cm bo sc sa sx ss sl bs sb ln sr ap up rp fr ge le lt nz mm ma sm fl al ci hL F hP hA hT hM hC; refine zB ?_; refine zA hL hT [] (by cbv) hq0 ?_; refine zB ?_; obtain ⟨r1, h_r1, h⟩ := bnd h; refine zA hL hT [(2, .call [false, false] [.v (.jk), .v (.jk)] [.v (.s (.int .i64 r1))])] (by cbv) ?_ ?_; exact hq (hC (qdH h_r1)) hq0
 refine zB ?_; refine zA hL hT [] (by cbv) hq0 ?_; refine zB (zB ?_); refine zA hL hT [] (by cbv) hq0 ?_; refine Run.block ?_; refine zJ (fun (z6 : List Row) (z7 : Int) => ⟨30, 100000, [(0, .t (.im false (qT a0))), (5, .t (.s (.int .i64 r1))), (6, .rf 1), (7, .t (.s (.int .i64 z7)))], [(1, .row 0 56 2 (qP z6))]⟩) (x0 := []) (x1 := 0) h (Weak.of _ [(1, 8192)] hA (by cbv) ?_) (fun _ _ => rfl) ?_
 · repeat first|exact hq0|refine hq (by first|exact Tt|rfl) ?_
 intro k z6 z7 h; rw [qzC.l0] at h; refine zB (zB ?_); refine zA hL hT [] (by cbv) ?_ ?_; exact zt; rw [show ln (qT a0) = qS a0 from ln_eq Row_i _]; refine zC (by cbv) hq0 (fun c8 => ?_) (fun c8 => ?_)
 ·
  have h := if_t c8 h; refine zE (zB ?_); refine Run.block ?_; refine zB ?_; refine zA hL hT [] (by cbv) ?_ ?_; exact zt; refine zC (by cbv) hq0 (fun c9 => ?_) (fun c9 => ?_)
  ·
   have h := if_t c9 h; obtain ⟨⟨qDU, qGL⟩, h_x10, h⟩ := bnd h; obtain ⟨⟨qbb, qmS⟩, h_r11, h⟩ := bnd h; obtain ⟨l12, h_l12, h⟩ := bnd h; obtain ⟨l13, h_l13, h⟩ := bnd h; refine zA hL hT [(3, .el [.s (.int .i64 qDU), .im false (qB qGL)]), (5, .call [false] [.ag [.jk, .jk]] [.ag [.s (.int .i64 qbb), .ow 3 (qB qmS)]])] (by cbv) ?_ ?_; exact hq (qJ h_x10) (hq (qa (f := Row_i) h_x10) (hq (qk (f := Row_i) h_x10) (hq (hC (qdF h_r11)) (hq (qGD (P := Tryz.prog) (f := Row_o) RLe.r (qLB (f := Row_o) h_l12 (RLe.cons rfl LLe.r RLe.nil)) h_l13) hq0))))
   refine Run.row (rows := (ap (qP z6) ([[.s (.int .i64 qbb), .ow 3 (qB qmS)]]))) 108199 (qP l13) (by cbv) (qFD (f := Row_o) RLe.r (qLB (f := Row_o) h_l12 (RLe.cons rfl LLe.r RLe.nil)) h_l13) ?_; refine zA hL hT [] (by cbv) ?_ ?_; exact zt; refine ⟨l13, (ar .add .i64 z7 1), h, Weak.of _ [(1, 108199)] hA (by cbv) ?_⟩
   repeat first|exact hq0|refine hq (by first|exact Tt|rfl) ?_
  have h := if_f c9 h; refine zE ?_; refine zA hL hT [] (by cbv) ?_ ?_; exact zt; refine ⟨z6, (ar .add .i64 z7 1), h, Weak.of _ [(1, 1)] hA (by cbv) ?_⟩
  repeat first|exact hq0|refine hq (by first|exact Tt|rfl) ?_
 have h := if_f c8 h; refine zG (zB ?_); refine zA hL hT [] (by cbv) hq0 ?_; refine zD ?_
 cases h
 refine ⟨_, _, by cbv, ?_, ?_⟩; exact LLe.r; exact ALe.v LLe.r ALe.nil
theorem qaR {a0 : List Row} {qhC : Int} {qn : List Int} {r : (List Row)} (h : qUD.f a0 (Row.mk qhC qn) = some r) : AC Tryz.prog 141 [.v (.im false (rowsOf Row_i a0)), .ag [.s (.int .i64 qhC), .im false (rowsOf Int_c qn)]] [.v (.jk), .ag [.jk, .jk]] [.v (.ow 56 (rowsOf Row_o r))] := by
 unfold qUD.f at h; let qB := rowsOf Int_c; let qT := rowsOf Row_i; let qP := rowsOf Row_o; let qS := @lenI Row
 show AC _ _ [.v (.im false (qT a0)), .ag [.s (.int .i64 qhC), .im false (qB qn)]] _ _
 refine run3 Tryz.func141 (by rfl) (by rfl) (by cbv) ⟨by decide, rfl⟩ ?_; intro ar cm bo sc sa sx ss sl bs sb ln sr ap up rp fr ge le lt nz mm ma sm fl al ci hL F hP hA hT hM hC; refine zB ?_; refine zA hL hT [] (by cbv) hq0 ?_; refine zB ?_; obtain ⟨r1, h_r1, h⟩ := bnd h; refine zA hL hT [(3, .call [false, false] [.v (.jk), .v (.jk)] [.v (.ow 56 (qP r1))])] (by cbv) ?_ ?_; exact hq Tt (hq (hC (qQQ h_r1)) hq0)
 refine zB ?_; refine zA hL hT [] (by cbv) hq0 ?_; rw [show ln (qP r1) = qS r1 from ln_eq Row_o _]; obtain ⟨K3, h_K3, h⟩ := joinE h; refine zI K3 (r := r) (fun (y2 : Int) => ⟨55, 100000, [(3, .pt 1 0 0), (5, .rf 2), (6, .t (.s (.int .i64 y2)))], [(1, .box 56 [.t (.s (.int .i64 qhC)), .t (.im false (qB qn))]), (2, .row 0 56 2 (qP r1))]⟩) ?_ ?_
 ·
  skip
  refine zB ?_; obtain ⟨r4, h_r4, h⟩ := bnd h; refine zA hL hT [(3, .call [false, false] [.v (.jk), .v (.jk)] [.v (.s (.int .i64 r4))])] (by cbv) ?_ ?_; exact hq Tt (hq (hC (qdH h_r4)) zt); refine zC (by cbv) hq0 (fun c5 => ?_) (fun c5 => ?_)
  ·
   have h := if_t c5 h; obtain ⟨r6, h_r6, h⟩ := bnd h; refine zA hL hT [(3, .call [false, false] [.v (.jk), .v (.jk)] [.v (.s (.int .i64 r6))])] (by cbv) ?_ ?_; exact hq Tt (hq (hC (qdH h_r6)) hq0); refine ⟨r6, h, Weak.of _ [(1, 0), (2, 4099)] hA (by cbv) ?_⟩
   repeat first|exact hq0|refine hq (by first|exact Tt|rfl) ?_
  have h := if_f c5 h; refine zB ?_; refine zA hL hT [] (by cbv) ?_ ?_; exact zt; rw [show ln (qP r1) = qS r1 from ln_eq Row_o _]; refine Run.block ?_; refine zJ (fun (z12 : Int) (z13 : Int) => ⟨55, 100000, [(3, .pt 1 0 0), (5, .rf 2), (6, .t (.s (.int .i64 z12))), (7, .t (.s (.int .i64 z13)))], [(1, .box 56 [.t (.s (.int .i64 qhC)), .t (.im false (qB qn))]), (2, .row 0 56 2 (qP r1))]⟩) (x0 := (qS r1)) (x1 := (ar .sub .i64 (qS r1) 1)) h (Weak.of _ [(1, 0), (2, 4099)] hA (by cbv) ?_) (fun _ _ => rfl) ?_
  · repeat first|exact hq0|refine hq (by first|exact Tt|rfl) ?_
  intro k z12 z13 h; rw [qUD.l0] at h; refine zB (zB ?_); refine zA hL hT [] (by cbv) ?_ ?_; exact zt; refine zC (by cbv) hq0 (fun c14 => ?_) (fun c14 => ?_)
  ·
   have h := if_t c14 h; refine zE (zB ?_); refine Run.block ?_; refine zB ?_; obtain ⟨⟨qBf, qQZ⟩, h_x15, h⟩ := bnd h; refine zF hL hT hM [(4, .el [.s (.int .i64 qBf), .ow 3 (qB qQZ)])] (by cbv) (by cbv) (by cbv) (by cbv) (by cbv) ?_ ?_; exact hq (qJ h_x15) (hq (qa (f := Row_o) h_x15) (hq (qJ h_x15) (hq (qa (f := Row_o) h_x15) (hq (qk (f := Row_o) h_x15) (hq Tt zt))))); refine zC (by cbv) hq0 (fun c16 => ?_) (fun c16 => ?_)
   ·
    have h := if_t c16 h; refine zA hL hT [] (by cbv) hq0 ?_; refine zA hL hT [] (by cbv) ?_ ?_; exact zt; refine ⟨z13, (ar .sub .i64 z13 1), h, Weak.of _ [(1, 1), (2, 2)] hA (by cbv) ?_⟩
    repeat first|exact hq0|refine hq (by first|exact Tt|rfl) ?_
   have h := if_f c16 h; refine zE ?_; refine zA hL hT [] (by cbv) ?_ ?_; exact zt; refine ⟨z12, (ar .sub .i64 z13 1), h, Weak.of _ [(1, 1), (2, 2)] hA (by cbv) ?_⟩
   repeat first|exact hq0|refine hq (by first|exact Tt|rfl) ?_
  have h := if_f c14 h; refine zG ?_; refine ⟨z12, h, Weak.of _ [(1, 1), (2, 2)] hA (by cbv) ?_⟩
  repeat first|exact hq0|refine hq (by first|exact Tt|rfl) ?_
 intro y2 h; rw [h_K3] at h; refine zB ?_; obtain ⟨l17, h_l17, h⟩ := bnd h; obtain ⟨l18, h_l18, h⟩ := bnd h; refine zA hL hT [] (by cbv) ?_ ?_; exact hq (cut_0 h_l17) (hq (cut_1 h_l17) (hq (cut_2 (f := Row_o) h_l17) (hq (cut_2 (f := Row_o) h_l17) (hq (qGD (P := Tryz.prog) (f := Row_o) RLe.r (mv_le Row_o h_l17) h_l18) hq0)))); refine Run.row (rows := (ap ([]) ((sr (qP r1) 0 y2)))) 100004 (qP l18) (by cbv) (qFD (f := Row_o) RLe.r (mv_le Row_o h_l17) h_l18) ?_
 refine zB ?_; obtain ⟨⟨qcb, qnS⟩, h_r19, h⟩ := bnd h; obtain ⟨l20, h_l20, h⟩ := bnd h; obtain ⟨l21, h_l21, h⟩ := bnd h; refine zA hL hT [(2, .call [false] [.ag [.jk, .jk]] [.ag [.s (.int .i64 qcb), .ow 3 (qB qnS)]])] (by cbv) ?_ ?_; exact hq Tt (hq (hC (qdF h_r19)) (hq (qGD (P := Tryz.prog) (f := Row_o) RLe.r (qLB (f := Row_o) h_l20 (RLe.cons rfl LLe.r RLe.nil)) h_l21) hq0)); refine Run.row (rows := (ap (qP l18) ([[.s (.int .i64 qcb), .ow 3 (qB qnS)]]))) 104100 (qP l21) (by cbv) (qFD (f := Row_o) RLe.r (qLB (f := Row_o) h_l20 (RLe.cons rfl LLe.r RLe.nil)) h_l21) ?_
 refine zB ?_; obtain ⟨l22, h_l22, h⟩ := bnd h; obtain ⟨l23, h_l23, h⟩ := bnd h; refine zA hL hT [] (by cbv) ?_ ?_; exact hq (cut_0 h_l22) (hq (jr_1 Row_o h_l17 h_l18 h_l22) (hq (Int.le_refl _) (hq (Int.le_refl _) (hq (qGD (P := Tryz.prog) (f := Row_o) RLe.r (qcd Row_o h_l17 h_l18 h_l22) h_l23) hq0)))); refine Run.row (rows := (ap (qP l21) ((sr (ap (ap (sr (qP r1) 0 0) (rp (ar .sub .i64 y2 0) [.jk, .jk])) (sr (qP r1) y2 (ln (qP r1)))) y2 (ln (ap (ap (sr (qP r1) 0 0) (rp (ar .sub .i64 y2 0) [.jk, .jk])) (sr (qP r1) y2 (ln (qP r1))))))))) 108196 (qP l23) (by cbv) (qFD (f := Row_o) RLe.r (qcd Row_o h_l17 h_l18 h_l22) h_l23) ?_
 refine zD ?_
 cases h
 refine ⟨_, _, by cbv, ?_, ?_⟩; exact LLe.r; exact ALe.v LLe.r ALe.nil
theorem qVJ {a0v_b : List Int} {a0v_i a0v_h a1 : Int} {r : l1Cur × Row} (h : qpC.f (l1Cur.mk a0v_b a0v_i a0v_h) a1 = some r) : AC Tryz.prog 96 [.v (.bx 119 [.im true (rowsOf u8_c a0v_b), .s (.int .i64 a0v_i), .s (.int .i64 a0v_h)]), .v (.s (.int .i64 a1))] [.v (.bx 119 [.im true (rowsOf u8_c a0v_b), .s (.int .i64 r.1.i), .s (.int .i64 r.1.h)]), .v (.jk)] [.ag [.s (.int .i64 r.2.Id), .ow 3 (rowsOf Int_c r.2.Cells)]] := by
 unfold qpC.f at h; let qB := rowsOf Int_c; let eu8_c := rowsOf u8_c
 show AC _ _ [.v (.bx 119 [.im true (eu8_c a0v_b), .s (.int .i64 a0v_i), .s (.int .i64 a0v_h)]), .v (.s (.int .i64 a1))] _ _
 refine run3 Tryz.func96 (by rfl) (by rfl) (by cbv) ⟨by decide, rfl⟩ ?_; intro ar cm bo sc sa sx ss sl bs sb ln sr ap up rp fr ge le lt nz mm ma sm fl al ci hL F hP hA hT hM hC; refine zB ?_; refine zA hL hT [] (by cbv) hq0 ?_; refine zB ?_; obtain ⟨⟨⟨qmI, qnD, qoD⟩, r1v_2⟩, h_r1, h⟩ := bnd h; refine zA hL hT [(1, .call [true, false] [.v (.bx 119 [.im true (eu8_c a0v_b), .s (.int .i64 qnD), .s (.int .i64 qoD)]), .v (.jk)] [.v (.s (.int .i64 r1v_2))])] (by cbv) ?_ ?_
 exact hq (hC (qr h_r1)) (hq Tt zt); refine zB (zB ?_); refine zA hL hT [] (by cbv) hq0 ?_; refine Run.block ?_; refine zZ (fun (z17 : Int) (z18 : Int) (z19 : Int) (z20 : List Int) (z21 : Int) => ⟨24, 100000, [(0, .pt 0 0 0), (1, .t (.s (.int .i64 a1))), (4, .pt 1 0 0), (5, .pt 2 0 0), (6, .t (.s (.int .i64 z21)))], [(0, .box 119 [.t (.im true (eu8_c a0v_b)), .t (.s (.int .i64 z17)), .t (.s (.int .i64 z18))]), (1, .box 56 [.t (.s (.int .i64 0)), .t (.s (.slice none 0 0))]), (2, .box 56 [.t (.s (.int .i64 z19)), .rf 3]), (3, .row 0 3 1 (qB z20))]⟩) (x0 := qnD) (x1 := qoD) (x2 := (ar .add .i64 1 r1v_2)) (x3 := []) (x4 := 0) h ((Weak.nilB (l := [.t (.s (.int .i64 (ar .add .i64 1 r1v_2)))]) hT 4101 1 13289 3 rfl (by cbv) (by cbv) (by cbv)).trans (Weak.of _ [(0, 0), (1, 1), (2, 4101), (3, 13289)] hA (by cbv) ?_)) (fun _ _ _ _ _ => rfl) ?_
 · repeat first|exact hq0|refine hq (by first|exact Tt|rfl) ?_
 intro k z17 z18 z19 z20 z21 h; rw [qpC.l0] at h; refine zB (zB ?_); refine zA hL hT [] (by cbv) ?_ ?_; exact zt; refine zC (by cbv) hq0 (fun c22 => ?_) (fun c22 => ?_)
 ·
  have h := if_t c22 h; refine zE (zB ?_); refine Run.block ?_; obtain ⟨⟨⟨qMg, qqV, qrV⟩, qqd⟩, h_r23, h⟩ := bnd h; obtain ⟨l24, h_l24, h⟩ := bnd h; obtain ⟨l25, h_l25, h⟩ := bnd h; refine zF hL hT hM [(3, .call [true, false] [.v (.bx 119 [.im true (eu8_c a0v_b), .s (.int .i64 qqV), .s (.int .i64 qrV)]), .v (.jk)] [.v (.s (.int .i64 qqd))])] (by cbv) (by cbv) (by cbv) (by cbv) (by cbv) ?_ ?_
  exact hq Tt (hq (hC (qr h_r23)) (hq (qGD (P := Tryz.prog) (f := Int_c) RLe.r (qLB (f := Int_c) h_l24 (RLe.cons rfl LLe.r RLe.nil)) h_l25) zt)); refine Run.row (rows := (ap (qB z20) ([[.s (.int .i64 qqd)]]))) 104101 (qB l25) (by cbv) (qFD (f := Int_c) RLe.r (qLB (f := Int_c) h_l24 (RLe.cons rfl LLe.r RLe.nil)) h_l25) ?_; refine zA hL hT [] (by cbv) ?_ ?_; exact zt; refine ⟨qqV, qrV, z19, l25, (ar .add .i64 z21 1), h, Weak.of _ [(0, 0), (1, 1), (2, 2), (3, 104101)] hA (by cbv) ?_⟩
  repeat first|exact hq0|refine hq (by first|exact Tt|rfl) ?_
 have h := if_f c22 h; refine zG (zB ?_); refine zA hL hT [] (by cbv) ?_ ?_; exact hq Tt zt; refine zD ?_
 cases h
 refine ⟨_, _, by cbv, ?_, ?_⟩; exact LLe.r; exact ALe.ag rfl LLe.r ALe.nil
theorem qsM {a0v_b : List Int} {a0v_i a0v_h a1 : Int} {r : l1Cur × (List Row)} (h : qmC.f (l1Cur.mk a0v_b a0v_i a0v_h) a1 = some r) : AC Tryz.prog 92 [.v (.bx 119 [.im true (rowsOf u8_c a0v_b), .s (.int .i64 a0v_i), .s (.int .i64 a0v_h)]), .v (.s (.int .i64 a1))] [.v (.bx 119 [.im true (rowsOf u8_c a0v_b), .s (.int .i64 r.1.i), .s (.int .i64 r.1.h)]), .v (.jk)] [.v (.ow 56 (rowsOf Row_o r.2))] := by
 unfold qmC.f at h; let qB := rowsOf Int_c; let qP := rowsOf Row_o; let eu8_c := rowsOf u8_c
 show AC _ _ [.v (.bx 119 [.im true (eu8_c a0v_b), .s (.int .i64 a0v_i), .s (.int .i64 a0v_h)]), .v (.s (.int .i64 a1))] _ _
 refine run3 Tryz.func92 (by rfl) (by rfl) (by cbv) ⟨by decide, rfl⟩ ?_; intro ar cm bo sc sa sx ss sl bs sb ln sr ap up rp fr ge le lt nz mm ma sm fl al ci hL F hP hA hT hM hC; refine zB ?_; refine zA hL hT [] (by cbv) hq0 ?_; refine zB ?_; refine zA hL hT [] (by cbv) hq0 ?_; refine zB (zB ?_); refine zA hL hT [] (by cbv) hq0 ?_; refine Run.block ?_; refine zS (fun (z7 : Int) (z8 : Int) (z9 : List Row) (z10 : Int) => ⟨20, 100000, [(0, .pt 0 0 0), (1, .t (.s (.int .i64 a1))), (5, .rf 1), (6, .t (.s (.int .i64 z10)))], [(0, .box 119 [.t (.im true (eu8_c a0v_b)), .t (.s (.int .i64 z7)), .t (.s (.int .i64 z8))]), (1, .row 0 56 2 (qP z9))]⟩) (x0 := a0v_i) (x1 := a0v_h) (x2 := []) (x3 := 0) h (Weak.of _ [(0, 0), (1, 4097)] hA (by cbv) ?_) (fun _ _ _ _ => rfl) ?_
 · repeat first|exact hq0|refine hq (by first|exact Tt|rfl) ?_
 intro k z7 z8 z9 z10 h; rw [qmC.l0] at h; refine zB (zB ?_); obtain ⟨⟨⟨qNg, qdb, qeb⟩, qOg⟩, h_r11, h⟩ := bnd h; refine zA hL hT [(2, .call [true, false] [.v (.bx 119 [.im true (eu8_c a0v_b), .s (.int .i64 qdb), .s (.int .i64 qeb)]), .v (.jk)] [.v (.s (.int .i64 qOg))])] (by cbv) ?_ ?_; exact hq (hC (qr h_r11)) zt; refine zC (by cbv) hq0 (fun c12 => ?_) (fun c12 => ?_)
 ·
  have h := if_t c12 h; refine zE (zB ?_); refine Run.block ?_; obtain ⟨⟨⟨qfb, qtM, quM⟩, ⟨qRZ, qNU⟩⟩, h_r13, h⟩ := bnd h; obtain ⟨r14, h_r14, h⟩ := bnd h; refine zA hL hT [(3, .call [true, false] [.v (.bx 119 [.im true (eu8_c a0v_b), .s (.int .i64 qtM), .s (.int .i64 quM)]), .v (.jk)] [.ag [.s (.int .i64 qRZ), .ow 3 (qB qNU)]]), (4, .call [false, false] [.v (.jk), .ag [.jk, .jk]] [.v (.ow 56 (qP r14))])] (by cbv) ?_ ?_
  exact hq (hC (qVJ h_r13)) (hq (hC (AC.args (qaR h_r14) (ALe.v (LLe.im (RLe.eq (qz qFF _))) (ALe.ag rfl (LLe.c (LLe.cons (LLe.im (RLe.eq (qz qJC _))) LLe.nil)) ALe.nil)))) hq0); refine zA hL hT [] (by cbv) ?_ ?_; exact zt; refine ⟨qtM, quM, r14, (ar .add .i64 z10 1), h, Weak.of _ [(0, 0), (1, 104100)] hA (by cbv) ?_⟩
  repeat first|exact hq0|refine hq (by first|exact Tt|rfl) ?_
 have h := if_f c12 h; refine zG (zB ?_); refine zA hL hT [] (by cbv) hq0 ?_; refine zD ?_
 cases h
 refine ⟨_, _, by cbv, ?_, ?_⟩; exact LLe.r; exact ALe.v LLe.r ALe.nil
theorem qFI {a0v_b : List Int} {a0v_i a0v_h : Int} {r : l1Cur × Store} (h : qRC.f (l1Cur.mk a0v_b a0v_i a0v_h) = some r) : AC Tryz.prog 37 [.v (.bx 119 [.im true (rowsOf u8_c a0v_b), .s (.int .i64 a0v_i), .s (.int .i64 a0v_h)])] [.v (.bx 119 [.im true (rowsOf u8_c a0v_b), .s (.int .i64 r.1.i), .s (.int .i64 r.1.h)])] [.ag [.ow 3 (rowsOf Int_c r.2.Schema.Cols), .s (.int .i64 r.2.Version), .ow 50 (rowsOf qYE r.2.Tables)]] := by
 unfold qRC.f at h; let qB := rowsOf Int_c; let qrD := rowsOf qYE; let qP := rowsOf Row_o; let eu8_c := rowsOf u8_c; let qHF := @lenI (List Row)
 show AC _ _ [.v (.bx 119 [.im true (eu8_c a0v_b), .s (.int .i64 a0v_i), .s (.int .i64 a0v_h)])] _ _
 refine run3 Tryz.func37 (by rfl) (by rfl) (by cbv) ⟨by decide, rfl⟩ ?_; intro ar cm bo sc sa sx ss sl bs sb ln sr ap up rp fr ge le lt nz mm ma sm fl al ci hL F hP hA hT hM hC; refine zB ?_; refine zA hL hT [] (by cbv) hq0 ?_; refine zB ?_; obtain ⟨⟨⟨qmI, qnD, qoD⟩, ⟨qEI⟩⟩, h_r1, h⟩ := bnd h; obtain ⟨⟨⟨⟨qmF⟩, qDJ, qvM⟩, r2v_2⟩, h_r2, h⟩ := bnd h; refine zA hL hT [(1, .call [true] [.v (.bx 119 [.im true (eu8_c a0v_b), .s (.int .i64 qnD), .s (.int .i64 qoD)])] [.ag [.ow 3 (qB qEI)]]), (2, .call [false] [.ag [.jk]] [.ag [.ow 3 (qB qmF), .s (.int .i64 qDJ), .ow 50 (qrD qvM)], .v (.s (.bool r2v_2))])] (by cbv) ?_ ?_
 exact hq (hC (qUH h_r1)) (hq (hC (AC.args (qcO h_r2) (ALe.ag rfl (LLe.cons (LLe.im (RLe.eq (qz qJC _))) LLe.nil) ALe.nil))) zt); obtain ⟨K6, h_K6, h⟩ := joinE h; refine zW K6 (r := r) (fun (y3 : Int) (y4 : Int) (y5 : List (List Row)) => ⟨35, 100000, [(0, .pt 0 0 0), (2, .pt 1 0 0), (3, .pt 2 0 0)], [(0, .box 119 [.t (.im true (eu8_c a0v_b)), .t (.s (.int .i64 y3)), .t (.s (.int .i64 y4))]), (1, .box 29 [.t (.s (.slice none 0 0)), .t (.s (.int .i64 0)), .t (.s (.slice none 0 0))]), (2, .box 29 [.rf 3, .t (.s (.int .i64 qDJ)), .rf 4]), (3, .row 0 3 1 (qB qmF)), (4, .row 0 50 1 (qrD y5))]⟩) ?_ ?_
 ·
  skip
  refine zB ?_; refine zA hL hT [] (by cbv) hq0 ?_; refine Run.block ?_; refine zS (fun (z15 : Int) (z16 : Int) (z17 : List (List Row)) (z18 : Int) => ⟨35, 100000, [(0, .pt 0 0 0), (2, .pt 1 0 0), (3, .pt 2 0 0), (5, .t (.s (.int .i64 z18)))], [(0, .box 119 [.t (.im true (eu8_c a0v_b)), .t (.s (.int .i64 z15)), .t (.s (.int .i64 z16))]), (1, .box 29 [.t (.s (.slice none 0 0)), .t (.s (.int .i64 0)), .t (.s (.slice none 0 0))]), (2, .box 29 [.rf 3, .t (.s (.int .i64 qDJ)), .rf 4]), (3, .row 0 3 1 (qB qmF)), (4, .row 0 50 1 (qrD z17))]⟩) (x0 := qnD) (x1 := qoD) (x2 := qvM) (x3 := 0) h (Weak.of _ [(0, 0), (1, 1), (2, 4103), (3, 4099), (4, 4355)] hA (by cbv) ?_) (fun _ _ _ _ => rfl) ?_
  · repeat first|exact hq0|refine hq (by first|exact Tt|rfl) ?_
  intro k z15 z16 z17 z18 h; rw [qRC.l0] at h; refine zB (zB ?_); refine zA hL hT [] (by cbv) ?_ ?_; exact hq Tt zt; rw [show ln (qrD z17) = qHF z17 from ln_eq qYE _]; refine zC (by cbv) hq0 (fun c19 => ?_) (fun c19 => ?_)
  ·
   have h := if_t c19 h; refine zE (zB ?_); refine Run.block ?_; obtain ⟨x20, h_x20, h⟩ := bnd h; obtain ⟨⟨⟨qPg, qsV, qtV⟩, qrd⟩, h_r21, h⟩ := bnd h; obtain ⟨x22, h_x22, h⟩ := bnd h; obtain ⟨l23, h_l23, h⟩ := bnd h; refine zF hL hT hM [(9, .el [.s (.int .i64 x20)]), (10, .call [true, false] [.v (.bx 119 [.im true (eu8_c a0v_b), .s (.int .i64 qsV), .s (.int .i64 qtV)]), .v (.jk)] [.v (.ow 56 (qP qrd))])] (by cbv) (by cbv) (by cbv) (by cbv) (by cbv) ?_ ?_
   exact hq Tt (hq Tt (hq (qJ h_x20) (hq (qa (f := Int_c) h_x20) (hq (qJ h_x20) (hq (qa (f := Int_c) h_x20) (hq (qk (f := Int_c) h_x20) (hq (hC (qsM h_r21)) (hq (qJ h_x22) (hq (qa (f := qYE) h_x22) (hq (qJ h_x22) (hq (qa (f := qYE) h_x22) hq0))))))))))); refine Run.row (rows := (up (qrD z17) z18 0 [.ow 56 (qP qrd)])) 4 (qrD l23) (by cbv) (qAV (f := qYE) h_x22 h_l23 rfl LLe.r) ?_; refine zA hL hT [] (by cbv) ?_ ?_
   exact zt; refine ⟨qsV, qtV, l23, (ar .add .i64 z18 1), h, Weak.of _ [(0, 0), (1, 1), (2, 2), (3, 3), (4, 4)] hA (by cbv) ?_⟩
   repeat first|exact hq0|refine hq (by first|exact Tt|rfl) ?_
  have h := if_f c19 h; refine zG ?_; refine ⟨z15, z16, z17, h, Weak.of _ [(0, 0), (1, 1), (2, 2), (3, 3), (4, 4)] hA (by cbv) ?_⟩
  repeat first|exact hq0|refine hq (by first|exact Tt|rfl) ?_
 intro y3 y4 y5 h; rw [h_K6] at h; refine zB ?_; obtain ⟨⟨⟨qQg, qgb, qhb⟩, qRg⟩, h_r24, h⟩ := bnd h; refine zA hL hT [(1, .call [true, false] [.v (.bx 119 [.im true (eu8_c a0v_b), .s (.int .i64 qgb), .s (.int .i64 qhb)]), .v (.jk)] [.v (.s (.int .i64 qRg))])] (by cbv) ?_ ?_; exact hq (hC (qr h_r24)) zt; refine zB ?_; refine zA hL hT [] (by cbv) ?_ ?_; exact hq Tt zt; refine zD ?_
 cases h
 refine ⟨_, _, by cbv, ?_, ?_⟩; exact LLe.r; exact ALe.ag rfl LLe.r ALe.nil
theorem qbR {a0v_b : List Int} {a0v_i a0v_h : Int} {r : l1Cur × Store} (h : qrH.f (l1Cur.mk a0v_b a0v_i a0v_h) = some r) : AC Tryz.prog 120 [.v (.bx 119 [.im true (rowsOf u8_c a0v_b), .s (.int .i64 a0v_i), .s (.int .i64 a0v_h)])] [.v (.bx 119 [.im true (rowsOf u8_c a0v_b), .s (.int .i64 r.1.i), .s (.int .i64 r.1.h)])] [.ag [.im true (rowsOf Int_c r.2.Schema.Cols), .s (.int .i64 r.2.Version), .im true (rowsOf quC r.2.Tables)]] := by
 unfold qrH.f at h; let qB := rowsOf Int_c; let qjC := rowsOf quC; let qrD := rowsOf qYE; let qP := rowsOf Row_o; let eu8_c := rowsOf u8_c; let qHF := @lenI (List Row)
 show AC _ _ [.v (.bx 119 [.im true (eu8_c a0v_b), .s (.int .i64 a0v_i), .s (.int .i64 a0v_h)])] _ _
 refine run3 Tryz.func120 (by rfl) (by rfl) (by cbv) ⟨by decide, rfl⟩ ?_; intro ar cm bo sc sa sx ss sl bs sb ln sr ap up rp fr ge le lt nz mm ma sm fl al ci hL F hP hA hT hM hC; refine zB ?_; refine zA hL hT [] (by cbv) hq0 ?_; refine zB ?_; obtain ⟨⟨⟨qmI, qnD, qoD⟩, ⟨⟨qAC⟩, qoG, qaC⟩⟩, h_r1, h⟩ := bnd h; refine zA hL hT [(1, .call [true] [.v (.bx 119 [.im true (eu8_c a0v_b), .s (.int .i64 qnD), .s (.int .i64 qoD)])] [.ag [.ow 3 (qB qAC), .s (.int .i64 qoG), .ow 50 (qrD qaC)]])] (by cbv) ?_ ?_
 exact hq (hC (qFI h_r1)) zt; refine zB (zB ?_); obtain ⟨⟨⟨qnI, qpD, qqD⟩, r2v_2⟩, h_r2, h⟩ := bnd h; refine zA hL hT [(1, .call [true, false] [.v (.bx 119 [.im true (eu8_c a0v_b), .s (.int .i64 qpD), .s (.int .i64 qqD)]), .v (.jk)] [.v (.s (.int .i64 r2v_2))])] (by cbv) ?_ ?_; exact hq (hC (qr h_r2)) hq0; refine Run.block ?_; refine zB ?_; refine zA hL hT [] (by cbv) ?_ ?_; exact zt; refine zC (by cbv) hq0 (fun c3 => ?_) (fun c3 => ?_)
 ·
  have h := if_t c3 h; obtain ⟨l4, h_l4, h⟩ := bnd h; obtain ⟨⟨⟨qKd, qHU, qIU⟩, r5v_2⟩, h_r5, h⟩ := bnd h; refine zA hL hT [(2, .call [true, false] [.v (.bx 119 [.im true (eu8_c a0v_b), .s (.int .i64 qHU), .s (.int .i64 qIU)]), .v (.jk)] [.v (.s (.int .i64 r5v_2))])] (by cbv) ?_ ?_; exact hq (hC (AC.args (qXE h_r5) (ALe.v LLe.r (ALe.v (qGV rfl (qLB (f := Int_c) h_l4 (RLe.cons rfl LLe.r (RLe.cons rfl LLe.r (RLe.cons rfl LLe.r RLe.nil))))) ALe.nil)))) zt
  refine Run.row (rows := [[.s (.int .i64 (-1))], [.s (.int .i64 100000)], [.s (.int .i64 100001)]]) 16386 (qB l4) (by cbv) (qLB (f := Int_c) h_l4 (RLe.cons rfl LLe.r (RLe.cons rfl LLe.r (RLe.cons rfl LLe.r RLe.nil)))) ?_; refine zB ?_; refine zA hL hT [] (by cbv) ?_ ?_; exact hq Tt zt; refine Run.weak ?_ (Weak.keep (rows := qB qAC) 4098 (by cbv) (qB qAC) (qz qJC _)); refine Run.weak ?_ (Weak.keep (rows := qrD qaC) 4354 (by cbv) (qjC qaC) (qz qFL _))
  refine zD ?_
  cases h
  refine ⟨_, _, by cbv, ?_, ?_⟩; exact LLe.r; exact ALe.ag rfl LLe.r ALe.nil
 have h := if_f c3 h; refine zB ?_; refine zA hL hT [] (by cbv) ?_ ?_; exact zt; refine zC (by cbv) hq0 (fun c6 => ?_) (fun c6 => ?_)
 ·
  have h := if_t c6 h; obtain ⟨l7, h_l7, h⟩ := bnd h; refine zA hL hT [] (by cbv) ?_ ?_; exact hq Tt (hq (cut_0 h_l7) (hq (qjf (f := qYE) h_l7) (hq (Int.le_refl _) zt))); rw [show ln (qrD qaC) = qHF qaC from ln_eq qYE _]; refine zB ?_; refine zA hL hT [] (by cbv) ?_ ?_; exact hq Tt zt; refine Run.weak ?_ (Weak.keep (rows := qB qAC) 4098 (by cbv) (qB qAC) (qz qJC _)); refine Run.weak ?_ (zf (rows := qrD qaC) (l := [.t (.im true (qB qAC)), .t (.s (.int .i64 qoG))]) 1 4354 (by cbv) (by cbv) (qjC l7) ((congrArg (fun q => sr q 1 (qHF qaC)) (qz qFL _)).trans (qOS quC h_l7)))
  refine zD ?_
  cases h
  refine ⟨_, _, by cbv, ?_, ?_⟩; exact LLe.r; exact ALe.ag rfl LLe.r ALe.nil
 have h := if_f c6 h; refine zB ?_; refine zA hL hT [] (by cbv) ?_ ?_; exact zt; refine zC (by cbv) hq0 (fun c8 => ?_) (fun c8 => ?_)
 ·
  have h := if_t c8 h; obtain ⟨x9, h_x9, h⟩ := bnd h; obtain ⟨⟨⟨qib, qRQ, qSQ⟩, ⟨qoS, qwM⟩⟩, h_r10, h⟩ := bnd h; obtain ⟨l11, h_l11, h⟩ := bnd h; obtain ⟨l12, h_l12, h⟩ := bnd h; obtain ⟨l13, h_l13, h⟩ := bnd h; refine Run.weak ?_ (Weak.take (rows := qrD qaC) (e2 := 56) (r2 := qP x9) hT 4354 0 0 27577 1027577 (by cbv) (by cbv) (by cbv) (qPE h_x9) (qVF qYE h_x9) ((congrArg (fun q => q[0]?) (qk (f := qYE) h_x9)).trans rfl) rfl (up (qrD qaC) 0 0 [.jk]) rfl)
  refine zF hL hT hM [(5, .lk [.jk] [(0, 1027577)]), (7, .call [true, false] [.v (.bx 119 [.im true (eu8_c a0v_b), .s (.int .i64 qRQ), .s (.int .i64 qSQ)]), .v (.jk)] [.ag [.s (.int .i64 qoS), .ow 3 (qB qwM)]])] (by cbv) (by cbv) (by cbv) (by cbv) (by cbv) ?_ ?_; exact hq Tt (hq Tt (hq (qJ h_x9) (hq (up_lt qYE h_x9) (hq Tt (hq (qJ h_x9) (hq (up_lt qYE h_x9) (hq (up_ge qYE h_x9) (hq (hC (qVJ h_r10)) (hq (qGD (P := Tryz.prog) (f := Row_o) RLe.r (qLB (f := Row_o) h_l11 (RLe.cons rfl LLe.r RLe.nil)) h_l12) (hq (qJ h_x9) (hq (up_lt qYE h_x9) (hq (qJ h_x9) (hq (up_lt qYE h_x9) hq0)))))))))))))
  refine Run.row (rows := (up (up (qrD qaC) 0 0 [.jk]) 0 0 [.ow 56 ((ap (qP x9) ([[.s (.int .i64 qoS), .ow 3 (qB qwM)]])))])) 4354 (qrD l13) (by cbv) (qVe (f := qYE) h_x9 h_l13 (ltn (qCd _) (by decide)) rfl (LLe.cons (LLe.ow (qFD (f := Row_o) RLe.r (qLB (f := Row_o) h_l11 (RLe.cons rfl LLe.r RLe.nil)) h_l12)) LLe.nil)) ?_; refine zB ?_; refine zA hL hT [] (by cbv) ?_ ?_; exact hq Tt zt; refine Run.weak ?_ (Weak.keep (rows := qB qAC) 4098 (by cbv) (qB qAC) (qz qJC _))
  refine Run.weak ?_ (Weak.keep (rows := qrD l13) 4354 (by cbv) (qjC l13) (qz qFL _)); refine zD ?_
  cases h
  refine ⟨_, _, by cbv, ?_, ?_⟩; exact LLe.r; exact ALe.ag rfl LLe.r ALe.nil
 have h := if_f c8 h; refine zB ?_; refine zA hL hT [] (by cbv) ?_ ?_; exact zt; refine zC (by cbv) hq0 (fun c14 => ?_) (fun c14 => ?_)
 ·
  have h := if_t c14 h; obtain ⟨⟨⟨qSg, qjb, qkb⟩, ⟨qdK⟩⟩, h_r15, h⟩ := bnd h; refine zA hL hT [(1, .call [true] [.v (.bx 119 [.im true (eu8_c a0v_b), .s (.int .i64 qjb), .s (.int .i64 qkb)])] [.ag [.ow 3 (qB qdK)]])] (by cbv) ?_ ?_; exact hq (hC (qqN h_r15)) zt; refine zB ?_; refine zA hL hT [] (by cbv) ?_ ?_; exact hq Tt zt; refine Run.weak ?_ (Weak.keep (rows := qB qdK) 28674 (by cbv) (qB qdK) (qz qJC _))
  refine Run.weak ?_ (Weak.keep (rows := qrD qaC) 4354 (by cbv) (qjC qaC) (qz qFL _)); refine zD ?_
  cases h
  refine ⟨_, _, by cbv, ?_, ?_⟩; exact LLe.r; exact ALe.ag rfl LLe.r ALe.nil
 have h := if_f c14 h; refine zE (zB ?_); refine zA hL hT [] (by cbv) ?_ ?_; exact hq Tt zt; refine Run.weak ?_ (Weak.keep (rows := qB qAC) 4098 (by cbv) (qB qAC) (qz qJC _)); refine Run.weak ?_ (Weak.keep (rows := qrD qaC) 4354 (by cbv) (qjC qaC) (qz qFL _)); refine zD ?_
 cases h
 refine ⟨_, _, by cbv, ?_, ?_⟩; exact LLe.r; exact ALe.ag rfl LLe.r ALe.nil
theorem qpG {a0v_b : List Int} {a0v_i a0v_h a1 : Int} {r : l1Cur × Bool} (h : qHD.f (l1Cur.mk a0v_b a0v_i a0v_h) a1 = some r) : AC Tryz.prog 83 [.v (.bx 119 [.im true (rowsOf u8_c a0v_b), .s (.int .i64 a0v_i), .s (.int .i64 a0v_h)]), .v (.s (.int .i64 a1))] [.v (.bx 119 [.im true (rowsOf u8_c a0v_b), .s (.int .i64 r.1.i), .s (.int .i64 r.1.h)]), .v (.jk)] [.v (.s (.bool r.2))] := by
 unfold qHD.f at h; let eu8_c := rowsOf u8_c
 show AC _ _ [.v (.bx 119 [.im true (eu8_c a0v_b), .s (.int .i64 a0v_i), .s (.int .i64 a0v_h)]), .v (.s (.int .i64 a1))] _ _
 refine run3 Tryz.func83 (by rfl) (by rfl) (by cbv) ⟨by decide, rfl⟩ ?_; intro ar cm bo sc sa sx ss sl bs sb ln sr ap up rp fr ge le lt nz mm ma sm fl al ci hL F hP hA hT hM hC; refine zB ?_; refine zA hL hT [] (by cbv) hq0 ?_; refine zB ?_; obtain ⟨⟨⟨qmI, qnD, qoD⟩, r1v_2⟩, h_r1, h⟩ := bnd h; refine zA hL hT [(2, .call [true, false] [.v (.bx 119 [.im true (eu8_c a0v_b), .s (.int .i64 qnD), .s (.int .i64 qoD)]), .v (.jk)] [.v (.s (.int .i64 r1v_2))])] (by cbv) ?_ ?_
 exact hq (hC (qr h_r1)) zt; refine zD ?_
 cases h
 refine ⟨_, _, by cbv, ?_, ?_⟩; exact LLe.r; exact ALe.v LLe.r ALe.nil
theorem qeH {a0 a1 r : Int} (h : qaD.f a0 a1 = some r) : AC Tryz.prog 93 [.v (.s (.int .i64 a0)), .v (.s (.int .i64 a1))] [.v (.jk), .v (.jk)] [.v (.s (.int .i64 r))] := by
 unfold qaD.f at h
 show AC _ _ [.v (.s (.int .i64 a0)), .v (.s (.int .i64 a1))] _ _
 refine run3 Tryz.func93 (by rfl) (by rfl) (by cbv) ⟨by decide, rfl⟩ ?_; intro ar cm bo sc sa sx ss sl bs sb ln sr ap up rp fr ge le lt nz mm ma sm fl al ci hL F hP hA hT hM hC; refine zB ?_; refine zA hL hT [] (by cbv) hq0 ?_; refine zB (zB ?_); refine zA hL hT [] (by cbv) ?_ ?_; exact zt; refine zC (by cbv) hq0 (fun c1 => ?_) (fun c1 => ?_)
 ·
  have h := if_t c1 h; refine zB ?_; refine zA hL hT [] (by cbv) hq0 ?_; refine zD ?_
  cases h
  refine ⟨_, _, by cbv, ?_, ?_⟩; exact LLe.r; exact ALe.v LLe.r ALe.nil
 have h := if_f c1 h; refine zE (zB ?_); refine zA hL hT [] (by cbv) hq0 ?_; refine zD ?_
 cases h
 refine ⟨_, _, by cbv, ?_, ?_⟩; exact LLe.r; exact ALe.v LLe.r ALe.nil
theorem qGI {a0v_b : List Int} {a0v_i a0v_h : Int} {qED : List Int} {r : l1Cur × Query} (h : qAB.f (l1Cur.mk a0v_b a0v_i a0v_h) (Schema.mk qED) = some r) : AC Tryz.prog 38 [.v (.bx 119 [.im true (rowsOf u8_c a0v_b), .s (.int .i64 a0v_i), .s (.int .i64 a0v_h)]), .ag [.im false (rowsOf Int_c qED)]] [.v (.bx 119 [.im true (rowsOf u8_c a0v_b), .s (.int .i64 r.1.i), .s (.int .i64 r.1.h)]), .ag [.jk]] [.ag [.s (.int .i64 r.2.Table), .ow 98 (rowsOf qR r.2.Where), .s (.int .i64 r.2.Order), .s (.bool r.2.Down), .s (.int .i64 r.2.First), .ow 3 (rowsOf Int_c r.2.Show), .s (.bool r.2.Kids), .s (.int .i64 r.2.KidTable), .s (.int .i64 r.2.KidCol)]] := by
 unfold qAB.f at h; let qE := rowsOf qR; let qB := rowsOf Int_c; let eu8_c := rowsOf u8_c; let qW := @lenI Int
 show AC _ _ [.v (.bx 119 [.im true (eu8_c a0v_b), .s (.int .i64 a0v_i), .s (.int .i64 a0v_h)]), .ag [.im false (qB qED)]] _ _
 refine run3 Tryz.func38 (by rfl) (by rfl) (by cbv) ⟨by decide, rfl⟩ ?_; intro ar cm bo sc sa sx ss sl bs sb ln sr ap up rp fr ge le lt nz mm ma sm fl al ci hL F hP hA hT hM hC; refine zB ?_; refine zA hL hT [] (by cbv) hq0 ?_; refine zB ?_; obtain ⟨r1, h_r1, h⟩ := bnd h; obtain ⟨⟨⟨qnI, qpD, qqD⟩, r2v_2⟩, h_r2, h⟩ := bnd h; refine zA hL hT [(4, .call [false, false] [.v (.jk), .v (.jk)] [.v (.s (.int .i64 r1))]), (5, .call [true, false] [.v (.bx 119 [.im true (eu8_c a0v_b), .s (.int .i64 qpD), .s (.int .i64 qqD)]), .v (.jk)] [.v (.s (.int .i64 r2v_2))])] (by cbv) ?_ ?_
 exact hq Tt (hq (by rw [show ln (qB qED) = qW qED from ln_eq Int_c _]; exact (hC (qeH h_r1))) (hq (hC (qr h_r2)) zt)); rw [show ln (qB qED) = qW qED from ln_eq Int_c _]; refine zB ?_; refine zA hL hT [] (by cbv) hq0 ?_; obtain ⟨K4, h_K4, h⟩ := joinE h; refine zI K4 (r := r) (fun (y3 : Int) => ⟨106, 100000, [(0, .pt 0 0 0), (3, .pt 1 0 0), (4, .pt 2 0 0), (5, .pt 3 0 0), (6, .t (.s (.int .i64 y3)))], [(0, .box 119 [.t (.im true (eu8_c a0v_b)), .t (.s (.int .i64 qpD)), .t (.s (.int .i64 qqD))]), (1, .box 26 [.t (.im false (qB qED))]), (2, .box 32 [.t (.s (.int .i64 0)), .t (.s (.slice none 0 0)), .t (.s (.int .i64 0)), .t (.s (.bool false)), .t (.s (.int .i64 0)), .t (.s (.slice none 0 0)), .t (.s (.bool false)), .t (.s (.int .i64 0)), .t (.s (.int .i64 0))]), (3, .box 32 [.t (.s (.int .i64 r2v_2)), .t (.s (.slice none 0 0)), .t (.s (.int .i64 0)), .t (.s (.bool false)), .t (.s (.int .i64 0)), .t (.s (.slice none 0 0)), .t (.s (.bool false)), .t (.s (.int .i64 0)), .t (.s (.int .i64 0))])]⟩) ?_ ?_
 ·
  skip
  refine zB ?_; refine zA hL hT [] (by cbv) ?_ ?_; exact hq Tt (hq Tt zt); rw [show ln (qB qED) = qW qED from ln_eq Int_c _]; refine zC (by cbv) hq0 (fun c5 => ?_) (fun c5 => ?_)
  ·
   have h := if_t c5 h; obtain ⟨x6, h_x6, h⟩ := bnd h; obtain ⟨r7, h_r7, h⟩ := bnd h; refine zA hL hT [(4, .el [.s (.int .i64 x6)]), (6, .call [false, false] [.v (.jk), .v (.jk)] [.v (.s (.int .i64 r7))])] (by cbv) ?_ ?_; exact hq Tt (hq Tt (hq (qJ h_x6) (hq (qa (f := Int_c) h_x6) (hq (qk (f := Int_c) h_x6) (hq (hC (qeH h_r7)) hq0))))); refine ⟨r7, h, Weak.of _ [(0, 0), (1, 1), (2, 2), (3, 4104)] hA (by cbv) ?_⟩
   repeat first|exact hq0|refine hq (by first|exact Tt|rfl) ?_
  have h := if_f c5 h; refine zE ?_; refine ⟨1, h, Weak.of _ [(0, 0), (1, 1), (2, 2), (3, 4104)] hA (by cbv) ?_⟩
  repeat first|exact hq0|refine hq (by first|exact Tt|rfl) ?_
 intro y3 h; rw [h_K4] at h; obtain ⟨K11, h_K11, h⟩ := joinE h; refine zW K11 (r := r) (fun (y8 : Int) (y9 : Int) (y10 : List Cond) => ⟨106, 100000, [(0, .pt 0 0 0), (3, .pt 1 0 0), (4, .pt 2 0 0), (5, .pt 3 0 0), (6, .t (.s (.int .i64 y3)))], [(0, .box 119 [.t (.im true (eu8_c a0v_b)), .t (.s (.int .i64 y8)), .t (.s (.int .i64 y9))]), (1, .box 26 [.t (.im false (qB qED))]), (2, .box 32 [.t (.s (.int .i64 0)), .t (.s (.slice none 0 0)), .t (.s (.int .i64 0)), .t (.s (.bool false)), .t (.s (.int .i64 0)), .t (.s (.slice none 0 0)), .t (.s (.bool false)), .t (.s (.int .i64 0)), .t (.s (.int .i64 0))]), (3, .box 32 [.t (.s (.int .i64 r2v_2)), .rf 4, .t (.s (.int .i64 0)), .t (.s (.bool false)), .t (.s (.int .i64 0)), .t (.s (.slice none 0 0)), .t (.s (.bool false)), .t (.s (.int .i64 0)), .t (.s (.int .i64 0))]), (4, .row 0 98 3 (qE y10))]⟩) ?_ ?_
 ·
  skip
  refine zB ?_; refine zA hL hT [] (by cbv) hq0 ?_; refine Run.block ?_; refine zS (fun (z53 : Int) (z54 : Int) (z55 : List Cond) (z56 : Int) => ⟨106, 100000, [(0, .pt 0 0 0), (3, .pt 1 0 0), (4, .pt 2 0 0), (5, .pt 3 0 0), (6, .t (.s (.int .i64 y3))), (7, .t (.s (.int .i64 z56)))], [(0, .box 119 [.t (.im true (eu8_c a0v_b)), .t (.s (.int .i64 z53)), .t (.s (.int .i64 z54))]), (1, .box 26 [.t (.im false (qB qED))]), (2, .box 32 [.t (.s (.int .i64 0)), .t (.s (.slice none 0 0)), .t (.s (.int .i64 0)), .t (.s (.bool false)), .t (.s (.int .i64 0)), .t (.s (.slice none 0 0)), .t (.s (.bool false)), .t (.s (.int .i64 0)), .t (.s (.int .i64 0))]), (3, .box 32 [.t (.s (.int .i64 r2v_2)), .rf 4, .t (.s (.int .i64 0)), .t (.s (.bool false)), .t (.s (.int .i64 0)), .t (.s (.slice none 0 0)), .t (.s (.bool false)), .t (.s (.int .i64 0)), .t (.s (.int .i64 0))]), (4, .row 0 98 3 (qE z55))]⟩) (x0 := qpD) (x1 := qqD) (x2 := []) (x3 := 0) h ((Weak.nilB (l := [.t (.s (.int .i64 r2v_2))]) hT 3 1 105096 98 rfl (by cbv) (by cbv) (by cbv)).trans (Weak.of _ [(0, 0), (1, 1), (2, 2), (3, 3), (4, 105096)] hA (by cbv) ?_)) (fun _ _ _ _ => rfl) ?_
  · repeat first|exact hq0|refine hq (by first|exact Tt|rfl) ?_
  intro k z53 z54 z55 z56 h; rw [qAB.l0] at h; refine zB (zB ?_); obtain ⟨⟨⟨qTg, quV, qvV⟩, qUg⟩, h_r57, h⟩ := bnd h; refine zA hL hT [(2, .call [true, false] [.v (.bx 119 [.im true (eu8_c a0v_b), .s (.int .i64 quV), .s (.int .i64 qvV)]), .v (.jk)] [.v (.s (.int .i64 qUg))])] (by cbv) ?_ ?_; exact hq (hC (qr h_r57)) zt; refine zC (by cbv) hq0 (fun c58 => ?_) (fun c58 => ?_)
  ·
   have h := if_t c58 h; refine zE (zB ?_); refine Run.block ?_; obtain ⟨⟨⟨qVg, qlb, qmb⟩, qsd⟩, h_r59, h⟩ := bnd h; obtain ⟨⟨⟨qWg, qnb, qob⟩, qtd⟩, h_r60, h⟩ := bnd h; obtain ⟨⟨⟨qXg, qwV, qxV⟩, qud⟩, h_r61, h⟩ := bnd h; obtain ⟨l62, h_l62, h⟩ := bnd h; obtain ⟨l63, h_l63, h⟩ := bnd h; refine zF hL hT hM [(4, .call [true, false] [.v (.bx 119 [.im true (eu8_c a0v_b), .s (.int .i64 qlb), .s (.int .i64 qmb)]), .v (.jk)] [.v (.s (.int .i64 qsd))]), (6, .call [true, false] [.v (.bx 119 [.im true (eu8_c a0v_b), .s (.int .i64 qnb), .s (.int .i64 qob)]), .v (.jk)] [.v (.s (.int .i64 qtd))]), (9, .call [true, false] [.v (.bx 119 [.im true (eu8_c a0v_b), .s (.int .i64 qwV), .s (.int .i64 qxV)]), .v (.jk)] [.v (.s (.int .i64 qud))])] (by cbv) (by cbv) (by cbv) (by cbv) (by cbv) ?_ ?_
   exact hq Tt (hq (hC (qr h_r59)) (hq (hC (qr h_r60)) (hq Tt (hq (hC (qr h_r61)) (hq (qGD (P := Tryz.prog) (f := qR) RLe.r (qLB (f := qR) h_l62 (RLe.cons rfl LLe.r RLe.nil)) h_l63) zt))))); refine Run.row (rows := (ap (qE z55) ([[.s (.int .i64 qsd), .s (.int .i64 (ar .add .i64 1 qtd)), .s (.int .i64 qud)]]))) 104108 (qE l63) (by cbv) (qFD (f := qR) RLe.r (qLB (f := qR) h_l62 (RLe.cons rfl LLe.r RLe.nil)) h_l63) ?_
   refine zA hL hT [] (by cbv) ?_ ?_; exact zt; refine ⟨qwV, qxV, l63, (ar .add .i64 z56 1), h, Weak.of _ [(0, 0), (1, 1), (2, 2), (3, 3), (4, 104108)] hA (by cbv) ?_⟩
   repeat first|exact hq0|refine hq (by first|exact Tt|rfl) ?_
  have h := if_f c58 h; refine zG ?_; refine ⟨quV, qvV, z55, h, Weak.of _ [(0, 0), (1, 1), (2, 2), (3, 3), (4, 4)] hA (by cbv) ?_⟩
  repeat first|exact hq0|refine hq (by first|exact Tt|rfl) ?_
 intro y8 y9 y10 h; rw [h_K11] at h; refine zB ?_; obtain ⟨⟨⟨qYg, qpb, qqb⟩, qpS⟩, h_r64, h⟩ := bnd h; refine zA hL hT [(3, .call [true, false] [.v (.bx 119 [.im true (eu8_c a0v_b), .s (.int .i64 qpb), .s (.int .i64 qqb)]), .v (.jk)] [.v (.s (.int .i64 qpS))])] (by cbv) ?_ ?_; exact hq Tt (hq (hC (qr h_r64)) zt); refine zB ?_; obtain ⟨⟨⟨qZg, qrb, qsb⟩, qtb⟩, h_r65, h⟩ := bnd h; refine zA hL hT [(5, .call [true, false] [.v (.bx 119 [.im true (eu8_c a0v_b), .s (.int .i64 qrb), .s (.int .i64 qsb)]), .v (.jk)] [.v (.s (.bool qtb))])] (by cbv) ?_ ?_
 exact hq Tt (hq Tt (hq zn (hq (fun g67 => (hq g67 (hq (hC (qpG (gd_t h_r65 g67))) hq0))) (hq Tt (hq Tt (hq Tt (hq (fun q68 => (hq q68 hq0)) (hq zn zt)))))))); refine zB ?_; obtain ⟨l70, h_l70, h⟩ := bnd h; obtain ⟨⟨⟨qag, qyV, qzV⟩, qJY⟩, h_r71, h⟩ := bnd h; refine zA hL hT [(2, .call [true, false] [.v (.bx 119 [.im true (eu8_c a0v_b), .s (.int .i64 qyV), .s (.int .i64 qzV)]), .v (.jk)] [.v (.s (.int .i64 qJY))])] (by cbv) ?_ ?_
 exact hq (hC (AC.args (qXE h_r71) (ALe.v LLe.r (ALe.v (qGV rfl (qLB (f := Int_c) h_l70 (RLe.cons rfl LLe.r (RLe.cons rfl LLe.r (RLe.cons rfl LLe.r (RLe.cons rfl LLe.r (RLe.cons rfl LLe.r (RLe.cons rfl LLe.r RLe.nil)))))))) ALe.nil)))) zt; refine Run.row (rows := [[.s (.int .i64 0)], [.s (.int .i64 0)], [.s (.int .i64 1)], [.s (.int .i64 2)], [.s (.int .i64 3)], [.s (.int .i64 5)]]) 108193 (qB l70) (by cbv) (qLB (f := Int_c) h_l70 (RLe.cons rfl LLe.r (RLe.cons rfl LLe.r (RLe.cons rfl LLe.r (RLe.cons rfl LLe.r (RLe.cons rfl LLe.r (RLe.cons rfl LLe.r RLe.nil))))))) ?_
 obtain ⟨K76, h_K76, h⟩ := joinE h; refine za K76 (r := r) (fun (y72 : Int) (y73 : Int) (y74 : Bool) (y75 : List Int) => ⟨106, 100000, [(0, .pt 0 0 0), (3, .pt 1 0 0), (4, .pt 2 0 0), (5, .pt 3 0 0)], [(0, .box 119 [.t (.im true (eu8_c a0v_b)), .t (.s (.int .i64 y72)), .t (.s (.int .i64 y73))]), (1, .box 26 [.t (.im false (qB qED))]), (2, .box 32 [.t (.s (.int .i64 0)), .t (.s (.slice none 0 0)), .t (.s (.int .i64 0)), .t (.s (.bool false)), .t (.s (.int .i64 0)), .t (.s (.slice none 0 0)), .t (.s (.bool false)), .t (.s (.int .i64 0)), .t (.s (.int .i64 0))]), (3, .box 32 [.t (.s (.int .i64 r2v_2)), .rf 4, .t (.s (.int .i64 qpS)), .t (.s (.bool y74)), .t (.s (.int .i64 qJY)), .rf 5, .t (.s (.bool false)), .t (.s (.int .i64 0)), .t (.s (.int .i64 0))]), (4, .row 0 98 3 (qE y10)), (5, .row 0 3 1 (qB y75))]⟩) ?_ ?_
 ·
  skip
  refine zB ?_; refine zA hL hT [] (by cbv) hq0 ?_; refine Run.block ?_; refine zZ (fun (z120 : Int) (z121 : Int) (z122 : Bool) (z123 : List Int) (z124 : Int) => ⟨106, 100000, [(0, .pt 0 0 0), (3, .pt 1 0 0), (4, .pt 2 0 0), (5, .pt 3 0 0), (6, .t (.s (.int .i64 y3))), (8, .t (.s (.int .i64 z124)))], [(0, .box 119 [.t (.im true (eu8_c a0v_b)), .t (.s (.int .i64 z120)), .t (.s (.int .i64 z121))]), (1, .box 26 [.t (.im false (qB qED))]), (2, .box 32 [.t (.s (.int .i64 0)), .t (.s (.slice none 0 0)), .t (.s (.int .i64 0)), .t (.s (.bool false)), .t (.s (.int .i64 0)), .t (.s (.slice none 0 0)), .t (.s (.bool false)), .t (.s (.int .i64 0)), .t (.s (.int .i64 0))]), (3, .box 32 [.t (.s (.int .i64 r2v_2)), .rf 4, .t (.s (.int .i64 qpS)), .t (.s (.bool z122)), .t (.s (.int .i64 qJY)), .rf 5, .t (.s (.bool false)), .t (.s (.int .i64 0)), .t (.s (.int .i64 0))]), (4, .row 0 98 3 (qE y10)), (5, .row 0 3 1 (qB z123))]⟩) (x0 := qyV) (x1 := qzV) (x2 := (bo (cm .gtr qpS 0) qtb false)) (x3 := []) (x4 := 0) h ((Weak.nilB (l := [.t (.s (.int .i64 r2v_2)), .rf 4, .t (.s (.int .i64 qpS)), .t (.s (.bool (bo (cm .gtr qpS 0) qtb false))), .t (.s (.int .i64 qJY))]) hT 3 5 117384 3 rfl (by cbv) (by cbv) (by cbv)).trans (Weak.of _ [(0, 0), (1, 1), (2, 2), (3, 3), (4, 4), (5, 117384)] hA (by cbv) ?_)) (fun _ _ _ _ _ => rfl) ?_
  · repeat first|exact hq0|refine hq (by first|exact Tt|rfl) ?_
  intro k z120 z121 z122 z123 z124 h; rw [qAB.l1] at h; refine zB (zB ?_); refine zA hL hT [] (by cbv) ?_ ?_; exact zt; refine zC (by cbv) hq0 (fun c125 => ?_) (fun c125 => ?_)
  ·
   have h := if_t c125 h; refine zE (zB ?_); refine Run.block ?_; refine zB ?_; obtain ⟨⟨⟨qVf, qrN, qsN⟩, qCf⟩, qbg, h⟩ := bnd h; refine zA hL hT [(1, .call [true, false] [.v (.bx 119 [.im true (eu8_c a0v_b), .s (.int .i64 qrN), .s (.int .i64 qsN)]), .v (.jk)] [.v (.s (.bool qCf))])] (by cbv) ?_ ?_; exact hq (hC (qpG qbg)) hq0; refine zC (by cbv) hq0 (fun c127 => ?_) (fun c127 => ?_)
   ·
    have h := if_t c127 h; obtain ⟨l128, qvd, h⟩ := bnd h; obtain ⟨l129, qwd, h⟩ := bnd h; refine zA hL hT [] (by cbv) ?_ ?_; exact hq Tt (hq (qGD (P := Tryz.prog) (f := Int_c) RLe.r (qLB (f := Int_c) qvd (RLe.cons rfl LLe.r RLe.nil)) qwd) zt); refine Run.row (rows := (ap (qB z123) ([[.s (.int .i64 z124)]]))) 108196 (qB l129) (by cbv) (qFD (f := Int_c) RLe.r (qLB (f := Int_c) qvd (RLe.cons rfl LLe.r RLe.nil)) qwd) ?_
    refine zA hL hT [] (by cbv) ?_ ?_; exact zt; refine ⟨qrN, qsN, z122, l129, (ar .add .i64 z124 1), h, Weak.of _ [(0, 0), (1, 1), (2, 2), (3, 3), (4, 4), (5, 108196)] hA (by cbv) ?_⟩
    repeat first|exact hq0|refine hq (by first|exact Tt|rfl) ?_
   have h := if_f c127 h; refine zE ?_; refine zA hL hT [] (by cbv) ?_ ?_; exact zt; refine ⟨qrN, qsN, z122, z123, (ar .add .i64 z124 1), h, Weak.of _ [(0, 0), (1, 1), (2, 2), (3, 3), (4, 4), (5, 5)] hA (by cbv) ?_⟩
   repeat first|exact hq0|refine hq (by first|exact Tt|rfl) ?_
  have h := if_f c125 h; refine zG ?_; refine ⟨z120, z121, z122, z123, h, Weak.of _ [(0, 0), (1, 1), (2, 2), (3, 3), (4, 4), (5, 5)] hA (by cbv) ?_⟩
  repeat first|exact hq0|refine hq (by first|exact Tt|rfl) ?_
 intro y72 y73 y74 y75 h; rw [h_K76] at h; refine zB (zB ?_); obtain ⟨⟨⟨qWf, qSZ, qTZ⟩, qDf⟩, qPb, h⟩ := bnd h; refine zA hL hT [(1, .call [true, false] [.v (.bx 119 [.im true (eu8_c a0v_b), .s (.int .i64 qSZ), .s (.int .i64 qTZ)]), .v (.jk)] [.v (.s (.bool qDf))])] (by cbv) ?_ ?_; exact hq (hC (qpG qPb)) hq0; refine zC (by cbv) hq0 (fun c131 => ?_) (fun c131 => ?_)
 ·
  have h := if_t c131 h; refine zB ?_; refine zA hL hT [] (by cbv) ?_ ?_; exact zt; refine zB ?_; obtain ⟨r132, qcg, h⟩ := bnd h; obtain ⟨⟨⟨qXf, qUZ, qVZ⟩, qEf⟩, qdg, h⟩ := bnd h; refine zA hL hT [(4, .call [false, false] [.v (.jk), .v (.jk)] [.v (.s (.int .i64 r132))]), (5, .call [true, false] [.v (.bx 119 [.im true (eu8_c a0v_b), .s (.int .i64 qUZ), .s (.int .i64 qVZ)]), .v (.jk)] [.v (.s (.int .i64 qEf))])] (by cbv) ?_ ?_
  exact hq Tt (hq (by rw [show ln (qB qED) = qW qED from ln_eq Int_c _]; exact (hC (qeH qcg))) (hq (hC (qr qdg)) zt)); rw [show ln (qB qED) = qW qED from ln_eq Int_c _]; refine zB ?_; refine zA hL hT [] (by cbv) ?_ ?_; exact hq Tt (hq Tt zt); rw [show ln (qB qED) = qW qED from ln_eq Int_c _]; refine zC (by cbv) hq0 (fun c134 => ?_) (fun c134 => ?_)
  ·
   have h := if_t c134 h; obtain ⟨x135, qub, h⟩ := bnd h; obtain ⟨r136, qeg, h⟩ := bnd h; obtain ⟨⟨⟨qYf, qWZ, qXZ⟩, qFf⟩, qfg, h⟩ := bnd h; refine zA hL hT [(5, .el [.s (.int .i64 x135)]), (7, .call [false, false] [.v (.jk), .v (.jk)] [.v (.s (.int .i64 r136))]), (8, .call [true, false] [.v (.bx 119 [.im true (eu8_c a0v_b), .s (.int .i64 qWZ), .s (.int .i64 qXZ)]), .v (.jk)] [.v (.s (.int .i64 qFf))])] (by cbv) ?_ ?_
   exact hq Tt (hq Tt (hq (qJ qub) (hq (qa (f := Int_c) qub) (hq (qk (f := Int_c) qub) (hq (hC (qeH qeg)) (hq (hC (qr qfg)) zt)))))); refine zB ?_; refine zA hL hT [] (by cbv) ?_ ?_; exact hq Tt zt; refine zD ?_
   cases h
   refine ⟨_, _, by cbv, ?_, ?_⟩; exact LLe.r; exact ALe.ag rfl LLe.r ALe.nil
  have h := if_f c134 h; refine zE (zB ?_); refine zA hL hT [] (by cbv) ?_ ?_; exact hq Tt zt; refine zD ?_
  cases h
  refine ⟨_, _, by cbv, ?_, ?_⟩; exact LLe.r; exact ALe.ag rfl LLe.r ALe.nil
 have h := if_f c131 h; refine zE (zB ?_); refine zA hL hT [] (by cbv) ?_ ?_; exact hq Tt zt; refine zD ?_
 cases h
 refine ⟨_, _, by cbv, ?_, ?_⟩; exact LLe.r; exact ALe.ag rfl LLe.r ALe.nil
theorem qaL {a0v_b : List Int} {a0v_i a0v_h : Int} {qED : List Int} {r : l1Cur × Query} (h : qTG.f (l1Cur.mk a0v_b a0v_i a0v_h) (Schema.mk qED) = some r) : AC Tryz.prog 121 [.v (.bx 119 [.im true (rowsOf u8_c a0v_b), .s (.int .i64 a0v_i), .s (.int .i64 a0v_h)]), .ag [.im false (rowsOf Int_c qED)]] [.v (.bx 119 [.im true (rowsOf u8_c a0v_b), .s (.int .i64 r.1.i), .s (.int .i64 r.1.h)]), .ag [.jk]] [.ag [.s (.int .i64 r.2.Table), .ow 98 (rowsOf qR r.2.Where), .s (.int .i64 r.2.Order), .s (.bool r.2.Down), .s (.int .i64 r.2.First), .ow 3 (rowsOf Int_c r.2.Show), .s (.bool r.2.Kids), .s (.int .i64 r.2.KidTable), .s (.int .i64 r.2.KidCol)]] := by
 unfold qTG.f at h; let qE := rowsOf qR; let qB := rowsOf Int_c; let eu8_c := rowsOf u8_c
 show AC _ _ [.v (.bx 119 [.im true (eu8_c a0v_b), .s (.int .i64 a0v_i), .s (.int .i64 a0v_h)]), .ag [.im false (qB qED)]] _ _
 refine run3 Tryz.func121 (by rfl) (by rfl) (by cbv) ⟨by decide, rfl⟩ ?_; intro ar cm bo sc sa sx ss sl bs sb ln sr ap up rp fr ge le lt nz mm ma sm fl al ci hL F hP hA hT hM hC; refine zB ?_; refine zA hL hT [] (by cbv) hq0 ?_; refine zB ?_; obtain ⟨⟨⟨qmI, qnD, qoD⟩, ⟨qeK, qoI, qfK, qyL, qgK, qrJ, qzL, qHI, qsJ⟩⟩, h_r1, h⟩ := bnd h; refine zA hL hT [(2, .call [true, false] [.v (.bx 119 [.im true (eu8_c a0v_b), .s (.int .i64 qnD), .s (.int .i64 qoD)]), .ag [.jk]] [.ag [.s (.int .i64 qeK), .ow 98 (qE qoI), .s (.int .i64 qfK), .s (.bool qyL), .s (.int .i64 qgK), .ow 3 (qB qrJ), .s (.bool qzL), .s (.int .i64 qHI), .s (.int .i64 qsJ)]])] (by cbv) ?_ ?_
 exact hq Tt (hq (hC (qGI h_r1)) zt); refine zB (zB ?_); obtain ⟨⟨⟨qnI, qpD, qqD⟩, r2v_2⟩, h_r2, h⟩ := bnd h; refine zA hL hT [(1, .call [true, false] [.v (.bx 119 [.im true (eu8_c a0v_b), .s (.int .i64 qpD), .s (.int .i64 qqD)]), .v (.jk)] [.v (.s (.int .i64 r2v_2))])] (by cbv) ?_ ?_; exact hq (hC (qr h_r2)) hq0; refine Run.block ?_; refine zB ?_; refine zA hL hT [] (by cbv) ?_ ?_; exact zt
 refine zC (by cbv) hq0 (fun c3 => ?_) (fun c3 => ?_)
 ·
  have h := if_t c3 h; obtain ⟨⟨⟨qyg, qOd, qPd⟩, r4v_2⟩, h_r4, h⟩ := bnd h; refine zA hL hT [(1, .call [true, false] [.v (.bx 119 [.im true (eu8_c a0v_b), .s (.int .i64 qOd), .s (.int .i64 qPd)]), .v (.jk)] [.v (.s (.int .i64 r4v_2))])] (by cbv) ?_ ?_; exact hq (hC (qr h_r4)) (hq Tt zt); refine zB ?_; refine zA hL hT [] (by cbv) ?_ ?_; exact hq Tt zt; refine zD ?_
  cases h
  refine ⟨_, _, by cbv, ?_, ?_⟩; exact LLe.r; exact ALe.ag rfl LLe.r ALe.nil
 have h := if_f c3 h; refine zB ?_; refine zA hL hT [] (by cbv) ?_ ?_; exact zt; refine zC (by cbv) hq0 (fun c5 => ?_) (fun c5 => ?_)
 ·
  have h := if_t c5 h; obtain ⟨⟨⟨qHY, qoM, qpM⟩, r6v_2⟩, h_r6, h⟩ := bnd h; obtain ⟨⟨⟨qLd, qJU, qKU⟩, r7v_2⟩, h_r7, h⟩ := bnd h; obtain ⟨l8, h_l8, h⟩ := bnd h; obtain ⟨⟨⟨qQd, qOU, qPU⟩, r9v_2⟩, h_r9, h⟩ := bnd h; obtain ⟨l10, h_l10, h⟩ := bnd h; obtain ⟨l11, h_l11, h⟩ := bnd h; refine zF hL hT hM [(3, .call [true, false] [.v (.bx 119 [.im true (eu8_c a0v_b), .s (.int .i64 qoM), .s (.int .i64 qpM)]), .v (.jk)] [.v (.s (.int .i64 r6v_2))]), (6, .call [true, false] [.v (.bx 119 [.im true (eu8_c a0v_b), .s (.int .i64 qJU), .s (.int .i64 qKU)]), .v (.jk)] [.v (.s (.int .i64 r7v_2))]), (9, .call [true, false] [.v (.bx 119 [.im true (eu8_c a0v_b), .s (.int .i64 qOU), .s (.int .i64 qPU)]), .v (.jk)] [.v (.s (.int .i64 r9v_2))])] (by cbv) (by cbv) (by cbv) (by cbv) (by cbv) ?_ ?_
  exact hq Tt (hq (hC (qr h_r6)) (hq Tt (hq (hC (qr h_r7)) (hq (hC (AC.args (qXE h_r9) (ALe.v LLe.r (ALe.v (qGV rfl (qLB (f := Int_c) h_l8 (RLe.cons rfl LLe.r (RLe.cons rfl LLe.r RLe.nil)))) ALe.nil)))) (hq (qGD (P := Tryz.prog) (f := qR) RLe.r (qLB (f := qR) h_l10 (RLe.cons rfl LLe.r RLe.nil)) h_l11) zt))))); refine Run.row (rows := [[.s (.int .i64 0)], [.s (.int .i64 1000000001)]]) 20489 (qB l8) (by cbv) (qLB (f := Int_c) h_l8 (RLe.cons rfl LLe.r (RLe.cons rfl LLe.r RLe.nil))) ?_
  refine Run.row (rows := (ap (qE qoI) ([[.s (.int .i64 (ar .sub .i64 r6v_2 1)), .s (.int .i64 r7v_2), .s (.int .i64 r9v_2)]]))) 20493 (qE l11) (by cbv) (qFD (f := qR) RLe.r (qLB (f := qR) h_l10 (RLe.cons rfl LLe.r RLe.nil)) h_l11) ?_; refine zB ?_; refine zA hL hT [] (by cbv) ?_ ?_; exact hq Tt zt; refine zD ?_
  cases h
  refine ⟨_, _, by cbv, ?_, ?_⟩; exact LLe.r; exact ALe.ag rfl LLe.r ALe.nil
 have h := if_f c5 h; refine zB ?_; refine zA hL hT [] (by cbv) ?_ ?_; exact zt; refine zC (by cbv) hq0 (fun c12 => ?_) (fun c12 => ?_)
 ·
  have h := if_t c12 h; obtain ⟨⟨⟨qfb, qtM, quM⟩, qgg⟩, h_r13, h⟩ := bnd h; refine zA hL hT [(1, .call [true, false] [.v (.bx 119 [.im true (eu8_c a0v_b), .s (.int .i64 qtM), .s (.int .i64 quM)]), .v (.jk)] [.v (.s (.int .i64 qgg))])] (by cbv) ?_ ?_; exact hq (hC (qr h_r13)) (hq Tt zt); refine zB ?_; refine zA hL hT [] (by cbv) ?_ ?_; exact hq Tt zt; refine zD ?_
  cases h
  refine ⟨_, _, by cbv, ?_, ?_⟩; exact LLe.r; exact ALe.ag rfl LLe.r ALe.nil
 have h := if_f c12 h; refine zB ?_; refine zA hL hT [] (by cbv) ?_ ?_; exact zt; refine zC (by cbv) hq0 (fun c14 => ?_) (fun c14 => ?_)
 ·
  have h := if_t c14 h; obtain ⟨l15, h_l15, h⟩ := bnd h; obtain ⟨⟨⟨qZb, qqM, qrM⟩, qIY⟩, h_r16, h⟩ := bnd h; refine zA hL hT [(2, .call [true, false] [.v (.bx 119 [.im true (eu8_c a0v_b), .s (.int .i64 qqM), .s (.int .i64 qrM)]), .v (.jk)] [.v (.s (.int .i64 qIY))])] (by cbv) ?_ ?_; exact hq (hC (AC.args (qXE h_r16) (ALe.v LLe.r (ALe.v (qGV rfl (qLB (f := Int_c) h_l15 (RLe.cons rfl LLe.r (RLe.cons rfl LLe.r (RLe.cons rfl LLe.r RLe.nil))))) ALe.nil)))) zt
  refine Run.row (rows := [[.s (.int .i64 (-1))], [.s (.int .i64 24)], [.s (.int .i64 25)]]) 28674 (qB l15) (by cbv) (qLB (f := Int_c) h_l15 (RLe.cons rfl LLe.r (RLe.cons rfl LLe.r (RLe.cons rfl LLe.r RLe.nil)))) ?_; refine zB ?_; refine zA hL hT [] (by cbv) ?_ ?_; exact hq Tt zt; refine zD ?_
  cases h
  refine ⟨_, _, by cbv, ?_, ?_⟩; exact LLe.r; exact ALe.ag rfl LLe.r ALe.nil
 have h := if_f c14 h; refine zB ?_; refine zA hL hT [] (by cbv) ?_ ?_; exact zt; refine zC (by cbv) hq0 (fun c17 => ?_) (fun c17 => ?_)
 ·
  have h := if_t c17 h; obtain ⟨⟨⟨qhg, qvb, qwb⟩, qxd⟩, h_r18, h⟩ := bnd h; obtain ⟨l19, h_l19, h⟩ := bnd h; obtain ⟨l20, h_l20, h⟩ := bnd h; refine zF hL hT hM [(3, .call [true, false] [.v (.bx 119 [.im true (eu8_c a0v_b), .s (.int .i64 qvb), .s (.int .i64 qwb)]), .v (.jk)] [.v (.s (.int .i64 qxd))])] (by cbv) (by cbv) (by cbv) (by cbv) (by cbv) ?_ ?_; exact hq Tt (hq (hC (qr h_r18)) (hq (qGD (P := Tryz.prog) (f := Int_c) RLe.r (qLB (f := Int_c) h_l19 (RLe.cons rfl LLe.r RLe.nil)) h_l20) zt))
  refine Run.row (rows := (ap (qB qrJ) ([[.s (.int .i64 qxd)]]))) 32774 (qB l20) (by cbv) (qFD (f := Int_c) RLe.r (qLB (f := Int_c) h_l19 (RLe.cons rfl LLe.r RLe.nil)) h_l20) ?_; refine zB ?_; refine zA hL hT [] (by cbv) ?_ ?_; exact hq Tt zt; refine zD ?_
  cases h
  refine ⟨_, _, by cbv, ?_, ?_⟩; exact LLe.r; exact ALe.ag rfl LLe.r ALe.nil
 have h := if_f c17 h; refine zB ?_; refine zA hL hT [] (by cbv) ?_ ?_; exact zt; refine zC (by cbv) hq0 (fun c21 => ?_) (fun c21 => ?_)
 ·
  have h := if_t c21 h; obtain ⟨⟨⟨qig, qxb, qyb⟩, qjg⟩, h_r22, h⟩ := bnd h; refine zA hL hT [(1, .call [true, false] [.v (.bx 119 [.im true (eu8_c a0v_b), .s (.int .i64 qxb), .s (.int .i64 qyb)]), .v (.jk)] [.v (.s (.int .i64 qjg))])] (by cbv) ?_ ?_; exact hq (hC (qr h_r22)) (hq Tt zt); refine zB ?_; refine zA hL hT [] (by cbv) ?_ ?_; exact hq Tt zt; refine zD ?_
  cases h
  refine ⟨_, _, by cbv, ?_, ?_⟩; exact LLe.r; exact ALe.ag rfl LLe.r ALe.nil
 have h := if_f c21 h; refine zE (zB ?_); refine zA hL hT [] (by cbv) ?_ ?_; exact hq Tt zt; refine zD ?_
 cases h
 refine ⟨_, _, by cbv, ?_, ?_⟩; exact LLe.r; exact ALe.ag rfl LLe.r ALe.nil
theorem qtJ {a0 : List Int} {r : l1Cur} (h : qxD.f a0 = some r) : AC Tryz.prog 36 [.v (.im true (rowsOf u8_c a0))] [.v (.jk)] [.v (.bx 119 [.im true (rowsOf u8_c r.b), .s (.int .i64 r.i), .s (.int .i64 r.h)])] := by
 unfold qxD.f at h; let eu8_c := rowsOf u8_c; let qqJ := @lenI Int
 show AC _ _ [.v (.im true (eu8_c a0))] _ _
 refine run3 Tryz.func36 (by rfl) (by rfl) (by cbv) ⟨by decide, rfl⟩ ?_; intro ar cm bo sc sa sx ss sl bs sb ln sr ap up rp fr ge le lt nz mm ma sm fl al ci hL F hP hA hT hM hC; refine zB ?_; refine zA hL hT [] (by cbv) hq0 ?_; refine zB ?_; refine zA hL hT [] (by cbv) ?_ ?_; exact zt; rw [show ln (eu8_c a0) = qqJ a0 from ln_eq u8_c _]; refine zB (zB ?_); refine zA hL hT [] (by cbv) hq0 ?_
 refine Run.block ?_; refine zJ (fun (z4 : Int) (z5 : Int) => ⟨32, 100000, [(0, .t (.im true (eu8_c a0))), (3, .t (.s (.int .i64 z4))), (4, .t (.s (.int .i64 z5)))], []⟩) (x0 := (ar .add .i64 17333 (qqJ a0))) (x1 := 0) h (Weak.of _ [] hA (by cbv) ?_) (fun _ _ => rfl) ?_
 · repeat first|exact hq0|refine hq (by first|exact Tt|rfl) ?_
 intro k z4 z5 h; rw [qxD.l0] at h; refine zB (zB ?_); refine zA hL hT [] (by cbv) ?_ ?_; exact hq Tt (hq zn (hq (fun g7 => (by have g7C := g7; rw [show ln (eu8_c a0) = qqJ a0 from ln_eq u8_c _] at g7C; exact (hq g7 zt))) (hq (fun q8 => (by have q8C := q8; rw [show ln (eu8_c a0) = qqJ a0 from ln_eq u8_c _] at q8C; exact (hq q8 hq0))) (hq zn hq0)))); rw [show ln (eu8_c a0) = qqJ a0 from ln_eq u8_c _]
 refine zC (by cbv) hq0 (fun c10 => ?_) (fun c10 => ?_)
 ·
  have h := if_t c10 h; refine zE (zB ?_); refine Run.block ?_; obtain ⟨x11, h_x11, h⟩ := bnd h; refine zA hL hT [(4, .el [.s (.int .u8 x11)])] (by cbv) ?_ ?_; exact hq Tt (hq (qJ h_x11) (hq (qa (f := u8_c) h_x11) (hq (qk (f := u8_c) h_x11) (hq Tt (hq Tt zt))))); refine zA hL hT [] (by cbv) ?_ ?_; exact zt; refine ⟨(ar .and .i64 (ar .add .i64 (ar .add .i64 (ar .mul .i64 z4 131) (ar .or .i64 x11 0)) 7) 1073741823), (ar .add .i64 z5 1), h, Weak.of _ [] hA (by cbv) ?_⟩
  repeat first|exact hq0|refine hq (by first|exact Tt|rfl) ?_
 have h := if_f c10 h; refine zG (zB ?_); refine zA hL hT [] (by cbv) hq0 ?_; refine zD ?_
 cases h
 refine ⟨_, _, by cbv, ?_, ?_⟩; exact LLe.r; exact ALe.v LLe.r ALe.nil
theorem qTQ {a0 : List Int} {r : Store × Query} (h : qzG.f a0 = some r) : AC Tryz.prog 55 [.v (.im true (rowsOf u8_c a0))] [.v (.jk)] [.ag [.im true (rowsOf Int_c r.1.Schema.Cols), .s (.int .i64 r.1.Version), .im true (rowsOf quC r.1.Tables)], .ag [.s (.int .i64 r.2.Table), .im true (rowsOf qR r.2.Where), .s (.int .i64 r.2.Order), .s (.bool r.2.Down), .s (.int .i64 r.2.First), .im true (rowsOf Int_c r.2.Show), .s (.bool r.2.Kids), .s (.int .i64 r.2.KidTable), .s (.int .i64 r.2.KidCol)]] := by
 unfold qzG.f at h; let qE := rowsOf qR; let qB := rowsOf Int_c; let qjC := rowsOf quC; let eu8_c := rowsOf u8_c
 show AC _ _ [.v (.im true (eu8_c a0))] _ _
 refine run3 Tryz.func55 (by rfl) (by rfl) (by cbv) ⟨by decide, rfl⟩ ?_; intro ar cm bo sc sa sx ss sl bs sb ln sr ap up rp fr ge le lt nz mm ma sm fl al ci hL F hP hA hT hM hC; refine zB ?_; refine zA hL hT [] (by cbv) hq0 ?_; refine zB ?_; obtain ⟨⟨r1v_b, r1v_i, r1v_h⟩, h_r1, h⟩ := bnd h; refine zA hL hT [(1, .call [true] [.v (.jk)] [.v (.bx 119 [.im true (eu8_c r1v_b), .s (.int .i64 r1v_i), .s (.int .i64 r1v_h)])])] (by cbv) ?_ ?_
 exact hq (hC (qtJ h_r1)) hq0; refine zB ?_; obtain ⟨⟨⟨qnI, qpD, qqD⟩, ⟨⟨qAM⟩, qcR, qQU⟩⟩, h_r2, h⟩ := bnd h; refine zA hL hT [(1, .call [true] [.v (.bx 119 [.im true (eu8_c r1v_b), .s (.int .i64 qpD), .s (.int .i64 qqD)])] [.ag [.im true (qB qAM), .s (.int .i64 qcR), .im true (qjC qQU)]])] (by cbv) ?_ ?_; exact hq (hC (qbR h_r2)) zt; refine zB ?_; obtain ⟨⟨⟨qGY, qmM, qnM⟩, ⟨qpI, qBG, qqI, quJ, qrI, qbG, qvJ, qLG, qfH⟩⟩, h_r3, h⟩ := bnd h
 refine zF hL hT hM [(4, .call [true, false] [.v (.bx 119 [.im true (eu8_c r1v_b), .s (.int .i64 qmM), .s (.int .i64 qnM)]), .ag [.jk]] [.ag [.s (.int .i64 qpI), .ow 98 (qE qBG), .s (.int .i64 qqI), .s (.bool quJ), .s (.int .i64 qrI), .ow 3 (qB qbG), .s (.bool qvJ), .s (.int .i64 qLG), .s (.int .i64 qfH)]])] (by cbv) (by cbv) (by cbv) (by cbv) (by cbv) ?_ ?_; exact hq Tt (hq Tt (hq (hC (qaL h_r3)) (hq Tt zt)))
 refine Run.weak ?_ (Weak.keep (rows := qE qBG) 12292 (by cbv) (qE qBG) (qz qLE _)); refine Run.weak ?_ (Weak.keep (rows := qB qbG) 12548 (by cbv) (qB qbG) (qz qJC _)); refine zD ?_
 cases h
 refine ⟨_, _, by cbv, ?_, ?_⟩; exact LLe.r; exact ALe.ag rfl LLe.r (ALe.ag rfl LLe.r ALe.nil)
theorem qxM {a0 : List Int} {r : Store × Query} (h : qBF.f a0 = some r) : AC Tryz.prog 26 [.v (.im true (rowsOf u8_c a0))] [.v (.jk)] [.ag [.im true (rowsOf Int_c r.1.Schema.Cols), .s (.int .i64 r.1.Version), .im true (rowsOf quC r.1.Tables)], .ag [.s (.int .i64 r.2.Table), .im true (rowsOf qR r.2.Where), .s (.int .i64 r.2.Order), .s (.bool r.2.Down), .s (.int .i64 r.2.First), .im true (rowsOf Int_c r.2.Show), .s (.bool r.2.Kids), .s (.int .i64 r.2.KidTable), .s (.int .i64 r.2.KidCol)]] := by
 unfold qBF.f at h; let qE := rowsOf qR; let qB := rowsOf Int_c; let qjC := rowsOf quC; let eu8_c := rowsOf u8_c
 show AC _ _ [.v (.im true (eu8_c a0))] _ _
 refine run3 Tryz.func26 (by rfl) (by rfl) (by cbv) ⟨by decide, rfl⟩ ?_; intro ar cm bo sc sa sx ss sl bs sb ln sr ap up rp fr ge le lt nz mm ma sm fl al ci hL F hP hA hT hM hC; refine zB ?_; refine zA hL hT [] (by cbv) hq0 ?_; refine zB ?_; obtain ⟨⟨⟨⟨qBM⟩, qdR, qRU⟩, ⟨qeK, qoI, qfK, qyL, qgK, qrJ, qzL, qHI, qsJ⟩⟩, h_r1, h⟩ := bnd h; refine zA hL hT [(1, .call [true] [.v (.jk)] [.ag [.im true (qB qBM), .s (.int .i64 qdR), .im true (qjC qRU)], .ag [.s (.int .i64 qeK), .im true (qE qoI), .s (.int .i64 qfK), .s (.bool qyL), .s (.int .i64 qgK), .im true (qB qrJ), .s (.bool qzL), .s (.int .i64 qHI), .s (.int .i64 qsJ)]])] (by cbv) ?_ ?_
 exact hq (hC (qTQ h_r1)) (hq Tt zt); refine zB ?_; refine zF hL hT hM [] (by cbv) (by cbv) (by cbv) (by cbv) (by cbv) ?_ ?_; exact hq Tt (hq Tt (hq Tt zt)); refine zD ?_
 cases h
 refine ⟨_, _, by cbv, ?_, ?_⟩; exact LLe.r; exact ALe.ag rfl LLe.r (ALe.ag rfl LLe.r ALe.nil)
theorem qtN {qw : Int} {qi : List Cond} {qx : Int} {qMB : Bool} {qy : Int} {qEB : List Int} {qU : Bool} {qN qh : Int} {r : Query} (h : qYF.f (Query.mk qw qi qx qMB qy qEB qU qN qh) = some r) : AC Tryz.prog 71 [.ag [.s (.int .i64 qw), .im false (rowsOf qR qi), .s (.int .i64 qx), .s (.bool qMB), .s (.int .i64 qy), .im false (rowsOf Int_c qEB), .s (.bool qU), .s (.int .i64 qN), .s (.int .i64 qh)]] [.ag [.jk, .jk, .jk, .jk, .jk, .jk, .jk, .jk, .jk]] [.ag [.s (.int .i64 r.Table), .ow 98 (rowsOf qR r.Where), .s (.int .i64 r.Order), .s (.bool r.Down), .s (.int .i64 r.First), .ow 3 (rowsOf Int_c r.Show), .s (.bool r.Kids), .s (.int .i64 r.KidTable), .s (.int .i64 r.KidCol)]] := by
 unfold qYF.f at h; let qE := rowsOf qR; let qB := rowsOf Int_c
 show AC _ _ [.ag [.s (.int .i64 qw), .im false (qE qi), .s (.int .i64 qx), .s (.bool qMB), .s (.int .i64 qy), .im false (qB qEB), .s (.bool qU), .s (.int .i64 qN), .s (.int .i64 qh)]] _ _
 refine run3 Tryz.func71 (by rfl) (by rfl) (by cbv) ⟨by decide, rfl⟩ ?_; intro ar cm bo sc sa sx ss sl bs sb ln sr ap up rp fr ge le lt nz mm ma sm fl al ci hL F hP hA hT hM hC; refine zB ?_; refine zA hL hT [] (by cbv) hq0 ?_; refine zB ?_; obtain ⟨l1, h_l1, h⟩ := bnd h; obtain ⟨r2, h_r2, h⟩ := bnd h; refine zF hL hT hM [(6, .call [false] [.v (.jk)] [.v (.ow 3 (qB r2))])] (by cbv) (by cbv) (by cbv) (by cbv) (by cbv) ?_ ?_
 exact hq Tt (hq (qNO qDY _) (hq (qGD (P := Tryz.prog) (f := qR) RLe.r RLe.r h_l1) (hq Tt (hq (hC (qzJ h_r2)) (hq Tt zt))))); refine Run.row (rows := (ap ([]) ((qE qi)))) 4099 (qE l1) (by cbv) (qFD (f := qR) RLe.r RLe.r h_l1) ?_; refine zB ?_; refine zA hL hT [] (by cbv) ?_ ?_; exact hq Tt zt; refine zD ?_
 cases h
 refine ⟨_, _, by cbv, ?_, ?_⟩; exact LLe.r; exact ALe.ag rfl LLe.r ALe.nil
set_option maxHeartbeats 4000000 in
set_option maxRecDepth 100000 in
theorem qII (w : World) (g2 c2 : Nat)
 (v' : Value) (w' : World) (hrun : (Builtin.append_ #[61, 61] 61 #[.slice none 0 0, .slice (some ⟨g2, 0, none⟩) 1 c2]).run Tryz.prog w = .ok v' w') :
 Calls Tryz.prog 131 #[.slice none 0 0, .int .i64 0, .slice (some ⟨g2, 0, none⟩) 1 c2] w fun ex w2 => ex = .returned v' ∧ w2 = w' := by
 go_enter Tryz.func131, Tryz.ntmps131
 go_wp2_with (at_builtin; refine qQD rfl (qaE rfl rfl rfl hrun) ?_)
 all_goals go_ret
 all_goals exact ⟨rfl, rfl⟩
set_option maxHeartbeats 4000000 in
set_option maxRecDepth 100000 in
theorem qdI (w : World) (g c g2 c2 n : Nat) (hnc : n ≤ c)
 (v' : Value) (w' : World) (hrun : (Builtin.append_ #[61, 61] 61 #[.slice (some ⟨g, 0, none⟩) n c, .slice (some ⟨g2, 0, none⟩) 1 c2]).run Tryz.prog w = .ok v' w') :
 Calls Tryz.prog 131 #[.slice (some ⟨g, 0, none⟩) n c, .int .i64 n, .slice (some ⟨g2, 0, none⟩) 1 c2] w fun ex w2 => ex = .returned v' ∧ w2 = w' := by
 go_enter Tryz.func131, Tryz.ntmps131
 go_wp2_with (at_builtin; refine qQD rfl (qaE rfl rfl rfl hrun) ?_)
 all_goals go_ret
 all_goals exact ⟨rfl, rfl⟩
set_option maxHeartbeats 4000000 in
set_option maxRecDepth 100000 in
theorem qEJ (w : World) (g c g2 c2 n i : Nat) (cur cur2 A B : Array Value) (hi : i < n) (hroom : n + 1 ≤ c) (hc63 : c ≤ maxLen) (hne : g2 ≠ g) (hg : w.heap[g]? = some (.cells cur 109 (0, 0))) (hcs : cur.size = c * 2) (hg2 : w.heap[g2]? = some (.cells cur2 109 (0, 0)))
 (hcp1 : ∀ ty dc sc, (Builtin.copy_ #[61, 61] ty #[.slice (some ⟨g, (i + 1) * 2, none⟩) (n + 1 - (i + 1)) dc, .slice (some ⟨g, i * 2, none⟩) (n + 1 - i) sc]).run Tryz.prog w.drew = .ok (goInt (n - i : Nat)) (w.drew.setRow g A))
 (hcp2 : ∀ ty dc, (Builtin.copy_ #[61, 61] ty #[.slice (some ⟨g, i * 2, none⟩) (n + 1 - i) dc, .slice (some ⟨g2, 0, none⟩) 1 c2]).run Tryz.prog (w.drew.setRow g A) = .ok (goInt (1 : Nat)) ((w.drew.setRow g A).setRow g B)) :
 Calls Tryz.prog 131 #[.slice (some ⟨g, 0, none⟩) n c, .int .i64 i, .slice (some ⟨g2, 0, none⟩) 1 c2] w fun ex w2 => ex = .returned (.slice (some ⟨g, 0, none⟩) (n + 1) c) ∧ w2 = (w.drew.setRow g A).setRow g B := by
 have mixed := mixed; have TE : TyOk Tryz.prog 109 _ := qUF 109 _ rfl; have TS : TyOk Tryz.prog 61 _ := qUF 61 _ rfl; obtain ⟨ti, hti, htz, htb, _⟩ := TE.info; have u92 := TS.isS rfl
 have hz1 : ¬ ((1 : Int) = 0) := by omega
 have hz2 : ¬ ((i : Int) = (n : Int)) := by omega
 have hw1 : IntKind.i64.wrap ((i : Int) + (1 : Int)) = (i : Int) + (1 : Int) := by unfold maxLen at hc63; rw [IntKind.wrap_i64]; omega
 have hw2 : IntKind.i64.wrap ((n : Int) + (1 : Int)) = (n : Int) + (1 : Int) := by unfold maxLen at hc63; rw [IntKind.wrap_i64]; omega
 have hb1 : (0 : Int) ≤ (i : Int) + (1 : Int) := by omega
 have hin : i ≤ n := by omega
 have htn : ((i : Int) + (1 : Int)).toNat = i + 1 := by omega
 have hb2 : ¬ (c = i + 1) := by omega
 have hb3 : (i : Int) ≤ (n : Int) + (1 : Int) := by omega
 have hb4 : ¬ (c = i) := by omega
 have hov : ∀ lb cb o, (callFunc 158 #[.slice (some ⟨g2, 0, none⟩) 1 c2, .slice (some ⟨g, o, none⟩) lb cb]).run Tryz.prog w = .ok (.value (.bool false)) w := fun lb cb o => by
  rw [run_callFunc_extern Tryz.func158 (by kernel_rfl) (by kernel_rfl) (by kernel_rfl) (e := Extern.SlicesOverlaps.overlaps #[61, 61] #[4]) (by kernel_rfl),
   Lib.run_overlaps_apart w 61 4 109 u92 2 (fun w => by simp [sizeOf, typeInfo, hti, htz]) ⟨g2, 0, none⟩ ⟨g, o, none⟩ 1 c2 lb cb hne 109 109 cur2.size cur.size (by simp [World.shape?, hg2]) (by simp [World.shape?, hg]) (by omega) (by simp [World.frozen?, hg2]) (by simp [World.frozen?, hg2])]
  rfl
 go_enter Tryz.func131, Tryz.ntmps131
 go_wp2_with (simp only [hov])
 go_region_law_o (refine qBL rfl (qhE rfl (by simp [Act.eval, Act.put]; rfl) (by simp [Act.eval, Act.put]; rfl) (hcp1 _ _ _)) ?_)
 go_wp2_with (at_builtin; refine qQD rfl (qhE rfl rfl rfl (hcp2 _ _)) ?_)
 go_ret
 exact ⟨rfl, rfl⟩
set_option maxHeartbeats 4000000 in
set_option maxRecDepth 100000 in
theorem qJI (w : World) (g c g2 c2 n i G : Nat) (R A B : Array Value) (hi : i < n) (hnc : n ≤ c) (hroom : c < n + 1) (hc63 : n + 1 ≤ maxLen) (hG : n + 1 ≤ G) (hGm : G ≤ maxLen)
 (hrz : ∀ ty, (Builtin.append_ #[61, 3] ty #[.slice (some ⟨g, 0, none⟩) i c, .int .i64 ((n : Int) + 1 - i)]).run Tryz.prog w = .ok (.slice (some ⟨w.heap.size, 0, none⟩) (n + 1) G) (w.drew.alloc (.cells R 109)))
 (hcp2 : ∀ ty dc, (Builtin.copy_ #[61, 61] ty #[.slice (some ⟨w.heap.size, i * 2, none⟩) (n + 1 - i) dc, .slice (some ⟨g2, 0, none⟩) 1 c2]).run Tryz.prog (w.alloc (.cells R 109)).drew = .ok (goInt (1 : Nat)) ((w.alloc (.cells R 109)).drew.setRow w.heap.size A))
 (hcp1 : ∀ ty dc sc, (Builtin.copy_ #[61, 61] ty #[.slice (some ⟨w.heap.size, (i + 1) * 2, none⟩) (n + 1 - (i + 1)) dc, .slice (some ⟨g, i * 2, none⟩) (n - i) sc]).run Tryz.prog ((w.alloc (.cells R 109)).drew.setRow w.heap.size A).drew = .ok (goInt (n - i : Nat)) (((w.alloc (.cells R 109)).drew.setRow w.heap.size A).drew.setRow w.heap.size B)) :
 Calls Tryz.prog 131 #[.slice (some ⟨g, 0, none⟩) n c, .int .i64 i, .slice (some ⟨g2, 0, none⟩) 1 c2] w fun ex w2 => ex = .returned (.slice (some ⟨w.heap.size, 0, none⟩) (n + 1) G) ∧ w2 = ((w.alloc (.cells R 109)).drew.setRow w.heap.size A).drew.setRow w.heap.size B := by
 have mixed := mixed
 have hz1 : ¬ ((1 : Int) = 0) := by omega
 have hz2 : ¬ ((i : Int) = (n : Int)) := by omega
 have hz3 : (c : Int) < (n : Int) + (1 : Int) := by omega
 have hw1 : IntKind.i64.wrap ((i : Int) + (1 : Int)) = (i : Int) + (1 : Int) := by unfold maxLen at hc63; rw [IntKind.wrap_i64]; omega
 have hw2 : IntKind.i64.wrap ((n : Int) + (1 : Int)) = (n : Int) + (1 : Int) := by unfold maxLen at hc63; rw [IntKind.wrap_i64]; omega
 have hw3 : IntKind.i64.wrap ((n : Int) + (1 : Int) - (i : Int)) = (n : Int) + (1 : Int) - (i : Int) := by unfold maxLen at hc63; rw [IntKind.wrap_i64]; omega
 have hb1 : (0 : Int) ≤ (i : Int) + (1 : Int) := by omega
 have hin : i ≤ n := by omega
 have htn : ((i : Int) + (1 : Int)).toNat = i + 1 := by omega
 have hGi : ¬ (G = i) := by omega
 have hGim : ¬ (G = i + 1) := by omega
 have hci : ¬ (c = i) := by omega
 have hb3 : (i : Int) ≤ (n : Int) := by omega
 go_enter Tryz.func131, Tryz.ntmps131
 go_wp2_with (first
  | (at_builtin; refine qQD rfl (qaE rfl rfl rfl (hrz _)) ?_)
  | (at_builtin; refine qQD rfl (qhE rfl rfl rfl (hcp2 _ _)) ?_))
 go_region_law_o (refine qBL rfl (qhE rfl (by simp [Act.eval, Act.put]; rfl) (by simp [Act.eval, Act.put]; rfl) (hcp1 _ _ _)) ?_)
 go_wp2
 go_ret
 exact ⟨rfl, rfl⟩
theorem qgH : Roads Tryz.prog 131 61 109 2 3 where
 end0 := fun w g2 c2 v' w' h => qII w g2 c2 v' w' h
 end1 := fun w g c g2 c2 n v' w' hnc h => qdI w g c g2 c2 n hnc v' w' h
 inn := fun w g c g2 c2 n i cur cur2 A B h1 h2 h3 h4 h5 h6 h7 h8 h9 => qEJ w g c g2 c2 n i cur cur2 A B h1 h2 h3 h4 h5 h6 h7 h8 h9
 grow := fun w g c g2 c2 n i G R A B h1 h2 h3 h4 h5 h6 h7 h8 h9 => qJI w g c g2 c2 n i G R A B h1 h2 h3 h4 h5 h6 h7 h8 h9
theorem qFJ {a0 a2 : List Kid} {a1 : Int} {r : List Kid} (h : qPD.f a0 a1 a2 = some r) : AC Tryz.prog 131 [.v (.ow 109 (rowsOf Kid_c a0)), .v (.s (.int .i64 a1)), .v (.ow 109 (rowsOf Kid_c a2))] [.v .jk, .v .jk, .v .jk] [.v (.ow 109 (rowsOf Kid_c r))] := by
 unfold qPD.f insO at h
 split at h
 ·
  rename_i hc
  obtain ⟨h1, c0, c1, c2, c3⟩ := hc
  obtain ⟨i, rfl⟩ : ∃ k : Nat, a1 = k := ⟨a1.toNat, by omega⟩
  obtain ⟨x, rfl⟩ := List.length_eq_one_iff.1 h1; simp only [zoI] at h; subst h
  have hr : rowsOf Kid_c (a0.take ((i : Nat) : Int).toNat ++ [x] ++ a0.drop ((i : Nat) : Int).toNat) = (rowsOf Kid_c a0).take i ++ [Kid_c x] ++ (rowsOf Kid_c a0).drop i := by simp [rowsOf, List.map_take, List.map_drop]
  rw [hr]; have hl := rowsOf_len Kid_c a0; simp only [List.length_singleton] at c2 c3; exact zX ⟨_, Tryz.func131, by rfl, by rfl⟩ (qrE (qUF 109 _ rfl)) (qgH.raw (qUF 61 _ rfl) rfl (qUF 109 _ rfl) (by simp) (qvI (qUF 3 _ rfl) rfl)) (by omega) (by rw [hl]; show (a0.length + 1) * 16 ≤ _; omega) (by omega)
 cases h
set_option maxRecDepth 8000 in
theorem qGJ {a0 : List Kid} {a1 a2 : Int} {r : List Kid} (h : qEE.f a0 a1 a2 = some r) : AC Tryz.prog 132 [.v (.ow 109 (rowsOf Kid_c a0)), .v (.s (.int .i64 a1)), .v (.s (.int .i64 a2))] [.v .jk, .v .jk, .v .jk] [.v (.ow 109 (rowsOf Kid_c r))] := by
 unfold qEE.f delO at h
 split at h
 ·
  rename_i hc
  obtain ⟨c0, c1, c2⟩ := hc
  obtain ⟨i, rfl⟩ : ∃ k : Nat, a1 = k := ⟨a1.toNat, by omega⟩
  obtain ⟨j, rfl⟩ : ∃ k : Nat, a2 = k := ⟨a2.toNat, by omega⟩
  simp only [zoI] at h; subst h
  have hr : rowsOf Kid_c (a0.take ((i : Nat) : Int).toNat ++ a0.drop ((j : Nat) : Int).toNat) = (rowsOf Kid_c a0).take i ++ (rowsOf Kid_c a0).drop j := by simp [rowsOf, List.map_take, List.map_drop]
  rw [hr]; have hl := rowsOf_len Kid_c a0; generalize rowsOf Kid_c a0 = R at *
  obtain ⟨D3, hD3⟩ : ∃ D, D = R.take i ++ R.drop j := ⟨_, rfl⟩
  rw [← hD3]
  have c1 : i ≤ j := by omega
  have c2 : j ≤ R.length := by omega
  have hlR : Ls.ln R = (R.length : Int) := rfl; let ar := Ls.ar; let cm := Ls.cm; let bo := Ls.bo; let sc := Ls.sc; let sa := Ls.sa; let sx := Ls.sx; let ss := Ls.ss; let sl := Ls.sl; let bs := Ls.bs; let sb := Ls.sb; let ln := Ls.ln; let sr := Ls.sr; let ap := Ls.ap; let up := Ls.up; let rp := Ls.rp; let fr := Ls.fr; let ge := Ls.ge; let le := Ls.le; let lt := Ls.lt; let nz := Ls.nz; let mm := Ls.mm; let ma := Ls.ma; let sm := Ls.sm; let fl := Ls.fl; let al := Ls.al; let ci := Ls.ci
  have hL : (⟨ar, cm, bo, sc, sa, sx, ss, sl, bs, sb, ln, sr, ap, up, rp, fr, ge, le, lt, nz, mm, ma, sm, fl, al, ci⟩ : Lf) = Ls := rfl; refine zY qUF Tryz.func132 (by rfl) (by rfl) (by cbv) ⟨by decide, rfl⟩ fun F hP hA => ?_; have hT : TabOk F.P tab := hP ▸ qUF; have hM : F.P.follows .mixedOrders = true := hP ▸ mixed; refine zB ?_; refine zA hL hT [] (by cbv) hq0 ?_; refine zB ?_; refine zA hL hT [(5, .hd [0] .u [])] (by cbv) ?_ ?_
  · exact hq (qEV (hT 61 _ rfl) rfl (hT 109 _ rfl) (by omega) (by omega) (by show (j : Int) ≤ (R.length : Int); omega) (Int.le_refl _)) hq0
  refine zB (zB ?_); refine zA hL hT [] (by cbv) ?_ ?_
  · exact zt
  refine zC (by cbv) hq0 (fun c => ?_) (fun c => ?_)
  ·
   have e : (i : Int) = j := of_decide_eq_true c
   obtain rfl : i = j := by omega
   rw [List.take_append_drop] at hD3; subst hD3; refine zB ?_; refine zA hL hT [] (by cbv) hq0 ?_; refine Run.weak ?_ (Weak.mv (v := .rf 0) 0 900000 6 (by cbv) (by cbv) (by cbv) (by cbv)); refine zD ?_; refine ⟨_, _, by cbv, ?_, ?_⟩; exact LLe.r; exact ALe.r
  have e : ¬ (i : Int) = j := of_decide_eq_false c
  have c1 : i < j := by omega
  obtain ⟨D1, hD1⟩ : ∃ D, D = delR R i j R.length 2 := ⟨_, rfl⟩
  obtain ⟨D2, hD2⟩ : ∃ D, D = delR D1 (i + (R.length - j)) D1.length D1.length 2 := ⟨_, rfl⟩
  have hl1 : D1.length = R.length := by rw [hD1]; exact qlO (by omega) (by omega) (Nat.le_refl _)
  have hl2 : D2.take (i + (R.length - j)) = D3 := by rw [hD3]; rw [hD2, hl1, hD1]; exact qiY (by omega) (by omega)
  have hj1 := qsQ (P := F.P) (x := .tmp 22) (y := .tmp 25) (id := 0) (ver := 0) (hT 61 _ rfl) rfl (hT 109 _ rfl) (h := R.length) (rows := R) c1 c2 (Nat.le_refl _) (rfl : ((i + (R.length - j) : Nat) : Int) = _); rw [← hD1] at hj1
  obtain ⟨ki, hki⟩ : ∃ k : Int, k = ((i + (R.length - j) : Nat) : Int) := ⟨_, rfl⟩
  rw [← hki] at hj1; refine zE (zB ?_); refine zA hL hT [] (by cbv) hq0 ?_; refine zB ?_; refine zF hL hT hM [(6, .hd [0] (.sb 0 0 ki) [(0, .row 1 109 2 D1)])] (by cbv) (by cbv) (by cbv) (by cbv) (by cbv) ?_ ?_
  · exact hq (Int.le_refl _) (hq (by show (0 : Int) ≤ (i : Int); omega) (hq (by show (i : Int) ≤ (R.length : Int); omega) (hq (by show (0 : Int) ≤ (j : Int); omega) (hq (by show (j : Int) ≤ (R.length : Int); omega) (hq (Int.le_refl _) (hq hj1 hq0))))))
  refine zB ?_; refine zA hL hT [(2, .hd [0] (.t (.s (.int .i64 ki))) []), (4, .hd [0] (.sb 0 ki (ln R)) []), (5, .hd [0] .u [(0, .row 2 109 2 D2)])] (by cbv) ?_ ?_
  ·
   have hj2 := qhY (P := F.P) (x := .tmp 31) (id := 0) (ver := 1) (hT 61 _ rfl) rfl (hT 109 _ rfl) (by simp) (b0 := i + (R.length - j)) (b1 := R.length) (rows := D1) (by omega) (by omega); rw [← hD2, ← hki] at hj2; exact hq (qmc (hT 61 _ rfl) rfl (by omega)) (hq (qgY (hT 61 _ rfl) rfl (hT 109 _ rfl) (l := ki) (hh := R.length) rfl (.inr ⟨_, _, rfl, rfl⟩) (.inr ⟨_, _, rfl, rfl⟩) (by omega) (by omega) (by show (0 : Int) + (R.length : Int) ≤ (D1.length : Int); omega) (by omega) (by show (R.length : Int) = _; omega)) (hq hj2 hq0))
  refine zB ?_; refine zA hL hT [] (by cbv) hq0 ?_; refine Run.weak ?_ (Weak.shrink 0 900000 6 (by cbv) (by cbv) (by cbv) (by cbv) hki _ hl2); refine zD ?_; refine ⟨_, _, by cbv, ?_, ?_⟩; exact LLe.r; exact ALe.r
 cases h
theorem qeR {a0 : List Kid} {a1 a2 : Int} {r : (List Kid)} (h : qeD.f a0 a1 a2 = some r) : AC Tryz.prog 72 [.v (.im false (rowsOf Kid_c a0)), .v (.s (.int .i64 a1)), .v (.s (.int .i64 a2))] [.v (.jk), .v (.jk), .v (.jk)] [.v (.ow 109 (rowsOf Kid_c r))] := by
 unfold qeD.f at h; let qe := rowsOf Kid_c; let qMC := @lenI Kid
 show AC _ _ [.v (.im false (qe a0)), .v (.s (.int .i64 a1)), .v (.s (.int .i64 a2))] _ _
 refine run3 Tryz.func72 (by rfl) (by rfl) (by cbv) ⟨by decide, rfl⟩ ?_; intro ar cm bo sc sa sx ss sl bs sb ln sr ap up rp fr ge le lt nz mm ma sm fl al ci hL F hP hA hT hM hC; refine zB ?_; refine zA hL hT [] (by cbv) hq0 ?_; refine zB ?_; obtain ⟨l1, h_l1, h⟩ := bnd h; refine zA hL hT [] (by cbv) ?_ ?_; exact hq (qNO qAb _) (hq (qGD (P := Tryz.prog) (f := Kid_c) RLe.r RLe.r h_l1) hq0); refine Run.row (rows := (ap ([]) ((qe a0)))) 4098 (qe l1) (by cbv) (qFD (f := Kid_c) RLe.r RLe.r h_l1) ?_
 refine zB ?_; refine zA hL hT [] (by cbv) hq0 ?_; obtain ⟨K3, h_K3, h⟩ := joinE h; refine zI K3 (r := r) (fun (y2 : Int) => ⟨71, 100000, [(1, .t (.s (.int .i64 a1))), (2, .t (.s (.int .i64 a2))), (7, .rf 1), (8, .t (.s (.int .i64 y2)))], [(1, .row 0 109 2 (qe l1))]⟩) ?_ ?_
 ·
  skip
  refine Run.block ?_; refine zH (fun (z8 : Int) => ⟨71, 100000, [(1, .t (.s (.int .i64 a1))), (2, .t (.s (.int .i64 a2))), (7, .rf 1), (8, .t (.s (.int .i64 z8)))], [(1, .row 0 109 2 (qe l1))]⟩) (x0 := 0) h (Weak.of _ [(1, 4098)] hA (by cbv) ?_) (fun _ => rfl) ?_
  · repeat first|exact hq0|refine hq (by first|exact Tt|rfl) ?_
  intro k z8 h; rw [qeD.l0] at h; refine zB (zB ?_); obtain ⟨⟨qaK, x9v_N⟩, h_x9, h⟩ := bnd h; refine zA hL hT [(9, .el [.s (.int .i64 qaK), .s (.int .i64 x9v_N)])] (by cbv) ?_ ?_; exact hq Tt (hq zn (hq zn (hq (fun g12 => (by have g12C := g12; rw [show ln (qe l1) = qMC l1 from ln_eq Kid_c _] at g12C; exact (hq g12 (hq g12 (hq (qJ (gd_t h_x9 g12C)) (hq (qa (f := Kid_c) (gd_t h_x9 g12C)) hq0)))))) (hq (fun g13 => (by have g13C := g13; rw [show ln (qe l1) = qMC l1 from ln_eq Kid_c _] at g13C; exact (hq g13 hq0))) (hq (fun g14 => (by have g14C := g14; rw [show ln (qe l1) = qMC l1 from ln_eq Kid_c _] at g14C; exact (hq g14 (hq (qJ (gd_t h_x9 g14C)) (hq (qa (f := Kid_c) (gd_t h_x9 g14C)) (hq (qk (f := Kid_c) (gd_t h_x9 g14C)) hq0)))))) (hq zn (hq (fun g16 => (by have g16C := g16; rw [show ln (qe l1) = qMC l1 from ln_eq Kid_c _] at g16C; exact (hq g16 (hq g16 zt)))) (hq (fun q17 => (by have q17C := q17; rw [show ln (qe l1) = qMC l1 from ln_eq Kid_c _] at q17C; exact (hq q17 hq0))) (hq zn hq0)))))))))
  rw [show ln (qe l1) = qMC l1 from ln_eq Kid_c _]; refine zC (by cbv) hq0 (fun c19 => ?_) (fun c19 => ?_)
  ·
   have h := if_t c19 h; refine zE ?_; refine Run.block ?_; refine zA hL hT [] (by cbv) ?_ ?_; exact zt; refine ⟨(ar .add .i64 z8 1), h, Weak.of _ [(1, 1)] hA (by cbv) ?_⟩
   repeat first|exact hq0|refine hq (by first|exact Tt|rfl) ?_
  have h := if_f c19 h; refine zG ?_; refine ⟨z8, h, Weak.of _ [(1, 1)] hA (by cbv) ?_⟩
  repeat first|exact hq0|refine hq (by first|exact Tt|rfl) ?_
 intro y2 h; rw [h_K3] at h; refine zB (zB ?_); obtain ⟨⟨qGU, qkg⟩, h_x20, h⟩ := bnd h; refine zA hL hT [(9, .el [.s (.int .i64 qGU), .s (.int .i64 qkg)])] (by cbv) ?_ ?_; exact hq Tt (hq zn (hq zn (hq (fun g23 => (by have g23C := g23; rw [show ln (qe l1) = qMC l1 from ln_eq Kid_c _] at g23C; exact (hq g23 (hq g23 (hq (qJ (gd_t h_x20 g23C)) (hq (qa (f := Kid_c) (gd_t h_x20 g23C)) hq0)))))) (hq (fun g24 => (by have g24C := g24; rw [show ln (qe l1) = qMC l1 from ln_eq Kid_c _] at g24C; exact (hq g24 hq0))) (hq (fun g25 => (by have g25C := g25; rw [show ln (qe l1) = qMC l1 from ln_eq Kid_c _] at g25C; exact (hq g25 (hq (qJ (gd_t h_x20 g25C)) (hq (qa (f := Kid_c) (gd_t h_x20 g25C)) (hq (qk (f := Kid_c) (gd_t h_x20 g25C)) hq0)))))) (hq zn (hq (fun g27 => (by have g27C := g27; rw [show ln (qe l1) = qMC l1 from ln_eq Kid_c _] at g27C; exact (hq g27 (hq g27 zt)))) (hq zn (hq (fun q29 => (by have q29C := q29; rw [show ln (qe l1) = qMC l1 from ln_eq Kid_c _] at q29C; exact (hq (bo_m q29) hq0))) hq0)))))))))
 rw [show ln (qe l1) = qMC l1 from ln_eq Kid_c _]; refine zC (by cbv) hq0 (fun c30 => ?_) (fun c30 => ?_)
 ·
  have h := if_t c30 h; refine zB (zB ?_); refine zA hL hT [] (by cbv) ?_ ?_; exact zt; refine zC (by cbv) hq0 (fun c31 => ?_) (fun c31 => ?_)
  ·
   have h := if_t c31 h; refine zB ?_; refine zA hL hT [] (by cbv) hq0 ?_; refine zD ?_
   cases h
   refine ⟨_, _, by cbv, ?_, ?_⟩; exact LLe.r; exact ALe.v LLe.r ALe.nil
  have h := if_f c31 h; refine zE (zB ?_); obtain ⟨l32, h_l32, h⟩ := bnd h; obtain ⟨r33, h_r33, h⟩ := bnd h; refine zA hL hT [(6, .call [true, false, true] [.v (.jk), .v (.jk), .v (.jk)] [.v (.ow 109 (qe r33))])] (by cbv) ?_ ?_; exact hq (hC (AC.args (qFJ h_r33) (ALe.v LLe.r (ALe.v LLe.r (ALe.v (LLe.ow (qLB (f := Kid_c) h_l32 (RLe.cons rfl LLe.r RLe.nil))) ALe.nil))))) hq0; refine zD ?_
  cases h
  refine ⟨_, _, by cbv, ?_, ?_⟩; exact LLe.r; exact ALe.v LLe.r ALe.nil
 have h := if_f c30 h; refine zE (zB ?_); obtain ⟨⟨qDX, qyd⟩, h_x34, h⟩ := bnd h; obtain ⟨l35, h_l35, h⟩ := bnd h; refine zA hL hT [(4, .el [.s (.int .i64 qDX), .s (.int .i64 qyd)])] (by cbv) ?_ ?_; exact hq (qJ h_x34) (hq (qa (f := Kid_c) h_x34) (hq (qJ h_x34) (hq (qa (f := Kid_c) h_x34) (hq (qk (f := Kid_c) h_x34) (hq Tt (hq (qJ h_x34) (hq (qa (f := Kid_c) h_x34) (hq (qJ h_x34) (hq (qa (f := Kid_c) h_x34) hq0)))))))))
 refine Run.row (rows := (up (qe l1) y2 1 [.s (.int .i64 (ar .add .i64 qyd a2))])) 1 (qe l35) (by cbv) (qAV (f := Kid_c) h_x34 h_l35 rfl LLe.r) ?_; refine zB (zB ?_); obtain ⟨⟨qJQ, qlg⟩, h_x36, h⟩ := bnd h; refine zA hL hT [(4, .el [.s (.int .i64 qJQ), .s (.int .i64 qlg)])] (by cbv) ?_ ?_; exact hq (qJ h_x36) (hq (qa (f := Kid_c) h_x36) (hq (qJ h_x36) (hq (qa (f := Kid_c) h_x36) (hq (qk (f := Kid_c) h_x36) zt))))
 refine zC (by cbv) hq0 (fun c37 => ?_) (fun c37 => ?_)
 ·
  have h := if_t c37 h; refine zB ?_; obtain ⟨r38, h_r38, h⟩ := bnd h; refine zA hL hT [(4, .call [true, false, false] [.v (.jk), .v (.jk), .v (.jk)] [.v (.ow 109 (qe r38))])] (by cbv) ?_ ?_; exact hq Tt (hq (hC (qGJ h_r38)) hq0); refine zD ?_
  cases h
  refine ⟨_, _, by cbv, ?_, ?_⟩; exact LLe.r; exact ALe.v LLe.r ALe.nil
 have h := if_f c37 h; refine zE (zB ?_); refine zA hL hT [] (by cbv) hq0 ?_; refine zD ?_
 cases h
 refine ⟨_, _, by cbv, ?_, ?_⟩; exact LLe.r; exact ALe.v LLe.r ALe.nil
theorem qfR {qQ : List Int} {qOB : Int} {qFB : List (List Row)} {qo : Int} {qO : List Cond} {qp : Int} {qJB : Bool} {qq : Int} {qDB : List Int} {qM : Bool} {qL qc : Int} {r : View × Bool} (h : qCE.f (Store.mk (Schema.mk qQ) qOB qFB) (Query.mk qo qO qp qJB qq qDB qM qL qc) = some r) : AC Tryz.prog 27 [.ag [.im false (rowsOf Int_c qQ), .s (.int .i64 qOB), .im false (rowsOf quC qFB)], .ag [.s (.int .i64 qo), .im false (rowsOf qR qO), .s (.int .i64 qp), .s (.bool qJB), .s (.int .i64 qq), .im false (rowsOf Int_c qDB), .s (.bool qM), .s (.int .i64 qL), .s (.int .i64 qc)]] [.ag [.jk, .jk, .jk], .ag [.jk, .jk, .jk, .jk, .jk, .jk, .jk, .jk, .jk]] [.ag [.s (.int .i64 r.1.Q.Table), .ow 98 (rowsOf qR r.1.Q.Where), .s (.int .i64 r.1.Q.Order), .s (.bool r.1.Q.Down), .s (.int .i64 r.1.Q.First), .ow 3 (rowsOf Int_c r.1.Q.Show), .s (.bool r.1.Q.Kids), .s (.int .i64 r.1.Q.KidTable), .s (.int .i64 r.1.Q.KidCol), .ow 56 (rowsOf Row_o r.1.Rows), .ow 109 (rowsOf Kid_c r.1.Kids)], .v (.s (.bool r.2))] := by
 unfold qCE.f at h; let qE := rowsOf qR; let qB := rowsOf Int_c; let qe := rowsOf Kid_c; let qjC := rowsOf quC; let qT := rowsOf Row_i; let qP := rowsOf Row_o; let qS := @lenI Row
 show AC _ _ [.ag [.im false (qB qQ), .s (.int .i64 qOB), .im false (qjC qFB)], .ag [.s (.int .i64 qo), .im false (qE qO), .s (.int .i64 qp), .s (.bool qJB), .s (.int .i64 qq), .im false (qB qDB), .s (.bool qM), .s (.int .i64 qL), .s (.int .i64 qc)]] _ _
 refine run3 Tryz.func27 (by rfl) (by rfl) (by cbv) ⟨by decide, rfl⟩ ?_; intro ar cm bo sc sa sx ss sl bs sb ln sr ap up rp fr ge le lt nz mm ma sm fl al ci hL F hP hA hT hM hC; refine zB ?_; refine zA hL hT [] (by cbv) hq0 ?_; refine zB (zB ?_); obtain ⟨r1, h_r1, h⟩ := bnd h; obtain ⟨r2, h_r2, h⟩ := bnd h; refine zA hL hT [(1, .call [false] [.ag [.jk, .jk, .jk]] [.v (.s (.bool r1))]), (7, .call [false, false] [.ag [.jk], .ag [.jk, .jk, .jk, .jk, .jk, .jk, .jk, .jk, .jk]] [.v (.s (.bool r2))])] (by cbv) ?_ ?_
 exact hq Tt (hq (hC (qKG h_r1)) (hq zn (hq (fun g4 => (hq g4 zt)) (hq (fun g5 => zt) (hq (fun g6 => (hq g6 (hq g6 (hq (hC (qIF (gd_t h_r2 g6))) hq0)))) (hq (fun g7 => (hq g7 hq0)) (hq zn (hq (fun q9 => (hq (bo_m q9) hq0)) hq0)))))))); refine zC (by cbv) hq0 (fun c10 => ?_) (fun c10 => ?_)
 ·
  have h := if_t c10 h; refine zB ?_; refine zA hL hT [] (by cbv) ?_ ?_; exact zt; refine zD ?_
  cases h
  refine ⟨_, _, by cbv, ?_, ?_⟩; exact LLe.r; exact ALe.ag rfl (LLe.c (LLe.cons zK (LLe.c (LLe.c (LLe.c (LLe.cons zK (LLe.c (LLe.c (LLe.c (LLe.cons zK (LLe.cons zK LLe.nil))))))))))) (ALe.v LLe.r ALe.nil)
 have h := if_f c10 h; refine zE (zB ?_); obtain ⟨⟨qcG, qWJ, qdG, qKI, qeG, qhK, qLI, qgE, qnF⟩, h_r11, h⟩ := bnd h; obtain ⟨r12, h_r12, h⟩ := bnd h; refine zF hL hT hM [(1, .call [false] [.ag [.jk, .jk, .jk, .jk, .jk, .jk, .jk, .jk, .jk]] [.ag [.s (.int .i64 qcG), .ow 98 (qE qWJ), .s (.int .i64 qdG), .s (.bool qKI), .s (.int .i64 qeG), .ow 3 (qB qhK), .s (.bool qLI), .s (.int .i64 qgE), .s (.int .i64 qnF)]]), (4, .call [false, false] [.ag [.jk, .jk, .jk], .ag [.jk, .jk, .jk, .jk, .jk, .jk, .jk, .jk, .jk]] [.v (.ow 56 (qP r12))])] (by cbv) (by cbv) (by cbv) (by cbv) (by cbv) ?_ ?_
 exact hq Tt (hq (hC (qtN h_r11)) (hq Tt (hq Tt (hq (hC (qcK h_r12)) zt)))); refine zB (zB ?_); refine zA hL hT [] (by cbv) ?_ ?_; exact zt; refine zC (by cbv) hq0 (fun c13 => ?_) (fun c13 => ?_)
 ·
  have h := if_t c13 h; refine zB ?_; obtain ⟨x14, h_x14, h⟩ := bnd h; refine zA hL hT [(4, .el [.im false (qT x14)])] (by cbv) ?_ ?_; exact hq Tt (hq Tt (hq (qJ h_x14) (hq (qa (f := quC) h_x14) (hq (qk (f := quC) h_x14) hq0)))); rw [show ln (qT x14) = qS x14 from ln_eq Row_i _]; refine Run.block ?_; refine zJ (fun (z74 : List Kid) (z75 : Int) => ⟨51, 100000, [(3, .pt 1 0 0), (4, .pt 2 0 0), (6, .pt 3 0 0), (33, .t (.im false (qT x14))), (34, .t (.s (.int .i64 (qS x14)))), (35, .t (.s (.int .i64 z75)))], [(1, .box 32 [.t (.s (.int .i64 qo)), .t (.im false (qE qO)), .t (.s (.int .i64 qp)), .t (.s (.bool qJB)), .t (.s (.int .i64 qq)), .t (.im false (qB qDB)), .t (.s (.bool qM)), .t (.s (.int .i64 qL)), .t (.s (.int .i64 qc))]), (2, .box 63 [.t (.s (.int .i64 0)), .t (.s (.slice none 0 0)), .t (.s (.int .i64 0)), .t (.s (.bool false)), .t (.s (.int .i64 0)), .t (.s (.slice none 0 0)), .t (.s (.bool false)), .t (.s (.int .i64 0)), .t (.s (.int .i64 0)), .t (.s (.slice none 0 0)), .t (.s (.slice none 0 0))]), (3, .box 63 [.t (.s (.int .i64 qcG)), .rf 4, .t (.s (.int .i64 qdG)), .t (.s (.bool qKI)), .t (.s (.int .i64 qeG)), .rf 5, .t (.s (.bool qLI)), .t (.s (.int .i64 qgE)), .t (.s (.int .i64 qnF)), .rf 6, .rf 7]), (4, .row 0 98 3 (qE qWJ)), (5, .row 0 3 1 (qB qhK)), (6, .row 0 56 2 (qP r12)), (7, .row 0 109 2 (qe z74))]⟩) (x0 := []) (x1 := 0) h ((Weak.nilB (l := [.t (.s (.int .i64 qcG)), .rf 8193, .t (.s (.int .i64 qdG)), .t (.s (.bool qKI)), .t (.s (.int .i64 qeG)), .rf 8449, .t (.s (.bool qLI)), .t (.s (.int .i64 qgE)), .t (.s (.int .i64 qnF)), .rf 8196]) hT 8198 10 21480 109 rfl (by cbv) (by cbv) (by cbv)).trans (Weak.of _ [(1, 1), (2, 2), (3, 8198), (4, 8193), (5, 8449), (6, 8196), (7, 21480)] hA (by cbv) ?_)) (fun _ _ => rfl) ?_
  · repeat first|exact hq0|refine hq (by first|exact Tt|rfl) ?_
  intro k z74 z75 h; rw [qCE.l0] at h; refine zB ?_; refine zA hL hT [] (by cbv) ?_ ?_; exact zt; refine zB ?_; refine zC (by cbv) hq0 (fun c76 => ?_) (fun c76 => ?_)
  ·
   have h := if_t c76 h; refine zE (zB ?_); refine Run.block ?_; refine zB ?_; obtain ⟨⟨qEX, qYZ⟩, h_x77, h⟩ := bnd h; refine zA hL hT [(0, .el [.s (.int .i64 qEX), .im false (qB qYZ)])] (by cbv) ?_ ?_; exact hq (qJ h_x77) (hq (qa (f := Row_i) h_x77) (hq (qk (f := Row_i) h_x77) zt)); obtain ⟨x78, h_x78, h⟩ := bnd h; obtain ⟨r79, h_r79, h⟩ := bnd h; refine zF hL hT hM [(6, .el [.s (.int .i64 x78)]), (8, .call [false, false, false] [.v (.jk), .v (.jk), .v (.jk)] [.v (.ow 109 (qe r79))])] (by cbv) (by cbv) (by cbv) (by cbv) (by cbv) ?_ ?_
   exact hq Tt (hq Tt (hq Tt (hq (qJ h_x78) (hq (qa (f := Int_c) h_x78) (hq (qk (f := Int_c) h_x78) (hq (hC (AC.args (qeR h_r79) (ALe.v (LLe.im (RLe.eq (qz qGF _))) (ALe.v LLe.r (ALe.v LLe.r ALe.nil))))) zt)))))); refine zA hL hT [] (by cbv) ?_ ?_; exact zt; refine ⟨r79, (ar .add .i64 z75 1), h, Weak.of _ [(1, 1), (2, 2), (3, 3), (4, 4), (5, 5), (6, 6), (7, 108200)] hA (by cbv) ?_⟩
   repeat first|exact hq0|refine hq (by first|exact Tt|rfl) ?_
  have h := if_f c76 h; refine zG (zB ?_); refine zA hL hT [] (by cbv) ?_ ?_; exact hq Tt zt; refine zD ?_
  cases h
  refine ⟨_, _, by cbv, ?_, ?_⟩; exact LLe.r; exact ALe.ag rfl LLe.r (ALe.v LLe.r ALe.nil)
 have h := if_f c13 h; refine zE (zB ?_); refine zA hL hT [] (by cbv) ?_ ?_; exact hq Tt zt; refine zD ?_
 cases h
 refine ⟨_, _, by cbv, ?_, ?_⟩; exact LLe.r; exact ALe.ag rfl (LLe.c (LLe.c (LLe.c (LLe.c (LLe.c (LLe.c (LLe.c (LLe.c (LLe.c (LLe.c (LLe.cons zK LLe.nil))))))))))) (ALe.v LLe.r ALe.nil)
theorem qyM {qI : List Int} {a1 qyE : Int} {qbB : List Int} {r : Bool} (h : qyD.f (Schema.mk qI) a1 (Row.mk qyE qbB) = some r) : AC Tryz.prog 85 [.ag [.im false (rowsOf Int_c qI)], .v (.s (.int .i64 a1)), .ag [.s (.int .i64 qyE), .im false (rowsOf Int_c qbB)]] [.ag [.jk], .v (.jk), .ag [.jk, .jk]] [.v (.s (.bool r))] := by
 unfold qyD.f at h; let qB := rowsOf Int_c; let qW := @lenI Int
 show AC _ _ [.ag [.im false (qB qI)], .v (.s (.int .i64 a1)), .ag [.s (.int .i64 qyE), .im false (qB qbB)]] _ _
 refine run3 Tryz.func85 (by rfl) (by rfl) (by cbv) ⟨by decide, rfl⟩ ?_; intro ar cm bo sc sa sx ss sl bs sb ln sr ap up rp fr ge le lt nz mm ma sm fl al ci hL F hP hA hT hM hC; refine zB ?_; refine zA hL hT [] (by cbv) hq0 ?_; refine zB (zB ?_); obtain ⟨r1, h_r1, h⟩ := bnd h; obtain ⟨r2, h_r2, h⟩ := bnd h; obtain ⟨r3, h_r3, h⟩ := bnd h; obtain ⟨x4, h_x4, h⟩ := bnd h; refine zF hL hT hM [(1, .call [false] [.ag [.jk]] [.v (.s (.bool r1))]), (9, .call [false, false, false] [.v (.jk), .v (.jk), .v (.jk)] [.v (.s (.bool r2))]), (15, .call [false, false, false] [.v (.jk), .v (.jk), .v (.jk)] [.v (.s (.bool r3))]), (25, .el [.s (.int .i64 x4)])] (by cbv) (by cbv) (by cbv) (by cbv) (by cbv) ?_ ?_
 exact hq Tt (hq (hC (qoE h_r1)) (hq zn (hq zn (hq (fun g7 => (hq g7 zt)) (hq (fun g8 => (hq g8 hq0)) (hq (fun g9 => (hq g9 zt)) (hq (fun g10 => (hq g10 (hq g10 (hq (by rw [show ln (qB qI) = qW qI from ln_eq Int_c _]; exact (hC (qVC (gd_t h_r2 g10)))) hq0)))) (hq (fun g11 => (hq g11 hq0)) (hq zn (hq (fun q13 => (hq (bo_m q13) hq0)) (hq zn (hq (fun g15 => (hq g15 zt)) (hq (fun g16 => (hq g16 (hq (hC (qVC (gd_t h_r3 g16))) hq0))) (hq (fun g17 => (hq g17 hq0)) (hq zn (hq (fun q19 => (hq (bo_m q19) hq0)) (hq zn (hq (fun g21 => (hq g21 zt)) (hq (fun g22 => (hq g22 hq0)) (hq zn (hq (fun g24 => (hq g24 zt)) (hq zn (hq (fun g26 => (hq g26 (hq g26 (hq (qJ (gd_t h_x4 g26)) (hq (qa (f := Int_c) (gd_t h_x4 g26)) (hq (qk (f := Int_c) (gd_t h_x4 g26)) hq0)))))) (hq (fun g27 => (hq g27 hq0)) (hq (fun g28 => (hq g28 (hq g28 zt))) (hq zn (hq (fun q30 => (hq (bo_m q30) hq0)) hq0)))))))))))))))))))))))))))
 rw [show ln (qB qI) = qW qI from ln_eq Int_c _]; rw [show ln (qB qbB) = qW qbB from ln_eq Int_c _]; refine zC (by cbv) hq0 (fun c31 => ?_) (fun c31 => ?_)
 ·
  have h := if_t c31 h; refine zB ?_; refine zA hL hT [] (by cbv) hq0 ?_; refine zD ?_
  cases h
  refine ⟨_, _, by cbv, ?_, ?_⟩; exact LLe.r; exact ALe.v LLe.r ALe.nil
 have h := if_f c31 h; refine zE (zB ?_); refine zB ?_; refine zA hL hT [] (by cbv) hq0 ?_; refine Run.block ?_; refine zH (fun (z35 : Int) => ⟨51, 100000, [(5, .pt 1 0 0), (7, .t (.s (.int .i64 z35)))], [(1, .box 56 [.t (.s (.int .i64 qyE)), .t (.im false (qB qbB))])]⟩) (x0 := 0) h (Weak.of _ [(1, 1)] hA (by cbv) ?_) (fun _ => rfl) ?_
 · repeat first|exact hq0|refine hq (by first|exact Tt|rfl) ?_
 intro k z35 h; rw [qyD.l0] at h; refine zB (zB ?_); refine zA hL hT [] (by cbv) ?_ ?_; exact hq Tt zt; rw [show ln (qB qbB) = qW qbB from ln_eq Int_c _]; refine zC (by cbv) hq0 (fun c36 => ?_) (fun c36 => ?_)
 ·
  have h := if_t c36 h; refine zE (zB ?_); refine Run.block ?_; refine zB ?_; obtain ⟨x37, h_x37, h⟩ := bnd h; obtain ⟨r38, h_r38, h⟩ := bnd h; refine zA hL hT [(3, .el [.s (.int .i64 x37)]), (5, .call [false, false, false] [.v (.jk), .v (.jk), .v (.jk)] [.v (.s (.bool r38))])] (by cbv) ?_ ?_; exact hq Tt (hq (qJ h_x37) (hq (qa (f := Int_c) h_x37) (hq (qk (f := Int_c) h_x37) (hq (hC (qVC h_r38)) hq0))))
  refine zC (by cbv) hq0 (fun c39 => ?_) (fun c39 => ?_)
  ·
   have h := if_t c39 h; refine zB ?_; refine zA hL hT [] (by cbv) hq0 ?_; refine zD ?_
   cases h
   refine ⟨_, _, by cbv, ?_, ?_⟩; exact LLe.r; exact ALe.v LLe.r ALe.nil
  have h := if_f c39 h; refine zE ?_; refine zA hL hT [] (by cbv) ?_ ?_; exact zt; refine ⟨(ar .add .i64 z35 1), h, Weak.of _ [(1, 1)] hA (by cbv) ?_⟩
  repeat first|exact hq0|refine hq (by first|exact Tt|rfl) ?_
 have h := if_f c36 h; refine zG (zB ?_); refine zA hL hT [] (by cbv) hq0 ?_; refine zD ?_
 cases h
 refine ⟨_, _, by cbv, ?_, ?_⟩; exact LLe.r; exact ALe.v LLe.r ALe.nil
theorem qgR {qI : List Int} {a1 : Int} {a2 : List Row} {r : Bool} (h : qfD.f (Schema.mk qI) a1 a2 = some r) : AC Tryz.prog 65 [.ag [.im false (rowsOf Int_c qI)], .v (.s (.int .i64 a1)), .v (.im false (rowsOf Row_i a2))] [.ag [.jk], .v (.jk), .v (.jk)] [.v (.s (.bool r))] := by
 unfold qfD.f at h; let qB := rowsOf Int_c; let qT := rowsOf Row_i; let qW := @lenI Int; let qS := @lenI Row
 show AC _ _ [.ag [.im false (qB qI)], .v (.s (.int .i64 a1)), .v (.im false (qT a2))] _ _
 refine run3 Tryz.func65 (by rfl) (by rfl) (by cbv) ⟨by decide, rfl⟩ ?_; intro ar cm bo sc sa sx ss sl bs sb ln sr ap up rp fr ge le lt nz mm ma sm fl al ci hL F hP hA hT hM hC; refine zB ?_; refine zA hL hT [] (by cbv) hq0 ?_; obtain ⟨K2, h_K2, h⟩ := joinE h; refine zI K2 (r := r) (fun (y1 : Unit) => ⟨55, 100000, [(1, .t (.s (.int .i64 a1))), (2, .t (.im false (qT a2))), (3, .pt 1 0 0)], [(1, .box 26 [.t (.im false (qB qI))])]⟩) ?_ ?_
 ·
  skip
  refine zB ?_; refine zA hL hT [] (by cbv) hq0 ?_; refine Run.block ?_; refine zH (fun (z7 : Int) => ⟨55, 100000, [(1, .t (.s (.int .i64 a1))), (2, .t (.im false (qT a2))), (3, .pt 1 0 0), (7, .t (.s (.int .i64 z7)))], [(1, .box 26 [.t (.im false (qB qI))])]⟩) (x0 := 0) h (Weak.of _ [(1, 0)] hA (by cbv) ?_) (fun _ => rfl) ?_
  · repeat first|exact hq0|refine hq (by first|exact Tt|rfl) ?_
  intro k z7 h; rw [qfD.l0] at h; refine zB (zB ?_); refine zA hL hT [] (by cbv) ?_ ?_; exact zt; rw [show ln (qT a2) = qS a2 from ln_eq Row_i _]; refine zC (by cbv) hq0 (fun c8 => ?_) (fun c8 => ?_)
  ·
   have h := if_t c8 h; refine zE (zB ?_); refine Run.block ?_; refine zB ?_; obtain ⟨⟨qaK, qBI⟩, h_x9, h⟩ := bnd h; obtain ⟨r10, h_r10, h⟩ := bnd h; obtain ⟨⟨qzW, qjN⟩, h_x11, h⟩ := bnd h; refine zF hL hT hM [(4, .el [.s (.int .i64 qaK), .im false (qB qBI)]), (6, .call [false, false, false] [.ag [.jk], .v (.jk), .ag [.jk, .jk]] [.v (.s (.bool r10))]), (15, .el [.s (.int .i64 qzW), .im false (qB qjN)]), (20, .el [.s (.int .i64 qaK), .im false (qB qBI)])] (by cbv) (by cbv) (by cbv) (by cbv) (by cbv) ?_ ?_
   exact hq Tt (hq (qJ h_x9) (hq (qa (f := Row_i) h_x9) (hq (qk (f := Row_i) h_x9) (hq (hC (qyM h_r10)) (hq zn (hq (fun g13 => (hq g13 zt)) (hq (fun g14 => (hq g14 hq0)) (hq zn (hq zn (hq (fun g17 => (hq g17 zt)) (hq (fun g18 => (hq g18 (hq g18 (hq (qJ (gd_t h_x11 g18)) (hq (qa (f := Row_i) (gd_t h_x11 g18)) (hq (qk (f := Row_i) (gd_t h_x11 g18)) hq0)))))) (hq (fun g19 => (hq g19 hq0)) (hq (fun g20 => (hq g20 hq0)) (hq zn (hq zn (hq (fun g23 => (hq g23 (hq g23 (hq (qJ h_x9) (hq (qa (f := Row_i) h_x9) (hq (qk (f := Row_i) h_x9) hq0)))))) (hq (fun g24 => (hq g24 hq0)) (hq (fun g25 => (hq g25 hq0)) (hq (fun g26 => (hq g26 (hq g26 zt))) (hq (fun g27 => (hq g27 (hq (fun q28 => (hq (bo_a g27 q28) hq0)) (hq zn hq0)))) (hq zn (hq (fun q31 => (hq (bo_m q31) hq0)) hq0))))))))))))))))))))))
   refine zC (by cbv) hq0 (fun c32 => ?_) (fun c32 => ?_)
   ·
    have h := if_t c32 h; refine zB ?_; refine zA hL hT [] (by cbv) hq0 ?_; refine zD ?_
    cases h
    refine ⟨_, _, by cbv, ?_, ?_⟩; exact LLe.r; exact ALe.v LLe.r ALe.nil
   have h := if_f c32 h; refine zE ?_; refine zA hL hT [] (by cbv) ?_ ?_; exact zt; refine ⟨(ar .add .i64 z7 1), h, Weak.of _ [(1, 1)] hA (by cbv) ?_⟩
   repeat first|exact hq0|refine hq (by first|exact Tt|rfl) ?_
  have h := if_f c8 h; refine zG ?_; refine ⟨(), h, Weak.of _ [(1, 1)] hA (by cbv) ?_⟩
  repeat first|exact hq0|refine hq (by first|exact Tt|rfl) ?_
 intro y1 h; rw [h_K2] at h; refine zB ?_; obtain ⟨r33, h_r33, h⟩ := bnd h; obtain ⟨r34, h_r34, h⟩ := bnd h; refine zA hL hT [(1, .call [false] [.ag [.jk]] [.v (.s (.bool r33))]), (8, .call [false, false, false] [.v (.jk), .v (.jk), .v (.jk)] [.v (.s (.bool r34))])] (by cbv) ?_ ?_; exact hq Tt (hq (hC (qoE h_r33)) (hq zn (hq zn (hq (fun g37 => (hq g37 zt)) (hq (fun g38 => (hq g38 hq0)) (hq (fun g39 => (hq g39 zt)) (hq (fun g40 => (hq g40 (hq g40 (hq (by rw [show ln (qB qI) = qW qI from ln_eq Int_c _]; exact (hC (qVC (gd_t h_r34 g40)))) hq0)))) (hq (fun q41 => (hq q41 hq0)) (hq zn (hq zn (hq (fun g44 => (hq g44 hq0)) (hq (fun g45 => (hq g45 zt)) (hq (fun q46 => (hq q46 hq0)) (hq zn hq0))))))))))))))
 rw [show ln (qB qI) = qW qI from ln_eq Int_c _]; rw [show ln (qT a2) = qS a2 from ln_eq Row_i _]; refine zD ?_
 cases h
 refine ⟨_, _, by cbv, ?_, ?_⟩; exact LLe.r; exact ALe.v LLe.r ALe.nil
theorem qiK {qQ : List Int} {qOB : Int} {qFB : List (List Row)} {r : Bool} (h : qAD.f (Store.mk (Schema.mk qQ) qOB qFB) = some r) : AC Tryz.prog 20 [.ag [.im false (rowsOf Int_c qQ), .s (.int .i64 qOB), .im false (rowsOf quC qFB)]] [.ag [.jk, .jk, .jk]] [.v (.s (.bool r))] := by
 unfold qAD.f at h; let qB := rowsOf Int_c; let qjC := rowsOf quC; let qT := rowsOf Row_i; let qW := @lenI Int; let qHF := @lenI (List Row)
 show AC _ _ [.ag [.im false (qB qQ), .s (.int .i64 qOB), .im false (qjC qFB)]] _ _
 refine run3 Tryz.func20 (by rfl) (by rfl) (by cbv) ⟨by decide, rfl⟩ ?_; intro ar cm bo sc sa sx ss sl bs sb ln sr ap up rp fr ge le lt nz mm ma sm fl al ci hL F hP hA hT hM hC; refine zB ?_; refine zA hL hT [] (by cbv) hq0 ?_; refine zB (zB ?_); obtain ⟨r1, h_r1, h⟩ := bnd h; obtain ⟨r2, h_r2, h⟩ := bnd h; refine zA hL hT [(2, .call [false] [.ag [.jk]] [.v (.s (.bool r1))]), (7, .call [false, false, false] [.v (.jk), .v (.jk), .v (.jk)] [.v (.s (.bool r2))])] (by cbv) ?_ ?_
 exact hq Tt (hq (hC (qoE h_r1)) (hq zn (hq (fun g4 => (hq g4 zt)) (hq (fun g5 => (hq g5 (hq (hC (qVC (gd_t h_r2 g5))) hq0))) (hq (fun g6 => (hq g6 hq0)) (hq zn (hq (fun q8 => (hq (bo_m q8) hq0)) (hq zn (hq (fun g10 => (hq g10 zt)) (hq (fun g11 => (hq g11 hq0)) (hq zn (hq (fun g13 => (hq g13 hq0)) (hq (fun g14 => (hq g14 zt)) (hq (fun g15 => (hq g15 hq0)) (hq (fun g16 => (hq g16 (hq g16 zt))) (hq zn (hq (fun q18 => (hq (bo_m q18) hq0)) hq0)))))))))))))))))
 rw [show ln (qB qQ) = qW qQ from ln_eq Int_c _]; rw [show ln (qjC qFB) = qHF qFB from ln_eq quC _]; refine zC (by cbv) hq0 (fun c19 => ?_) (fun c19 => ?_)
 ·
  have h := if_t c19 h; refine zB ?_; refine zA hL hT [] (by cbv) hq0 ?_; refine zD ?_
  cases h
  refine ⟨_, _, by cbv, ?_, ?_⟩; exact LLe.r; exact ALe.v LLe.r ALe.nil
 have h := if_f c19 h; refine zE (zB ?_); refine zB ?_; refine zA hL hT [] (by cbv) hq0 ?_; refine Run.block ?_; refine zH (fun (z24 : Int) => ⟨41, 100000, [(1, .pt 1 0 0), (3, .t (.s (.int .i64 z24)))], [(1, .box 29 [.t (.im false (qB qQ)), .t (.s (.int .i64 qOB)), .t (.im false (qjC qFB))])]⟩) (x0 := 0) h (Weak.of _ [(1, 0)] hA (by cbv) ?_) (fun _ => rfl) ?_
 · repeat first|exact hq0|refine hq (by first|exact Tt|rfl) ?_
 intro k z24 h; rw [qAD.l0] at h; refine zB (zB ?_); refine zA hL hT [] (by cbv) ?_ ?_; exact hq Tt zt; rw [show ln (qjC qFB) = qHF qFB from ln_eq quC _]; refine zC (by cbv) hq0 (fun c25 => ?_) (fun c25 => ?_)
 ·
  have h := if_t c25 h; refine zE (zB ?_); refine Run.block ?_; refine zB ?_; obtain ⟨x26, h_x26, h⟩ := bnd h; obtain ⟨r27, h_r27, h⟩ := bnd h; refine zF hL hT hM [(6, .el [.im false (qT x26)]), (8, .call [false, false, false] [.ag [.jk], .v (.jk), .v (.jk)] [.v (.s (.bool r27))])] (by cbv) (by cbv) (by cbv) (by cbv) (by cbv) ?_ ?_; exact hq Tt (hq Tt (hq (qJ h_x26) (hq (qa (f := quC) h_x26) (hq (qk (f := quC) h_x26) (hq (hC (qgR h_r27)) hq0)))))
  refine zC (by cbv) hq0 (fun c28 => ?_) (fun c28 => ?_)
  ·
   have h := if_t c28 h; refine zB ?_; refine zA hL hT [] (by cbv) hq0 ?_; refine zD ?_
   cases h
   refine ⟨_, _, by cbv, ?_, ?_⟩; exact LLe.r; exact ALe.v LLe.r ALe.nil
  have h := if_f c28 h; refine zE ?_; refine zA hL hT [] (by cbv) ?_ ?_; exact zt; refine ⟨(ar .add .i64 z24 1), h, Weak.of _ [(1, 1)] hA (by cbv) ?_⟩
  repeat first|exact hq0|refine hq (by first|exact Tt|rfl) ?_
 have h := if_f c25 h; refine zG (zB ?_); refine zA hL hT [] (by cbv) hq0 ?_; refine zD ?_
 cases h
 refine ⟨_, _, by cbv, ?_, ?_⟩; exact LLe.r; exact ALe.v LLe.r ALe.nil
theorem qMI {qI : List Int} {qo : Int} {qO : List Cond} {qp : Int} {qJB : Bool} {qq : Int} {qDB : List Int} {qM : Bool} {qL qc : Int} {r : Bool} (h : qFC.f (Schema.mk qI) (Query.mk qo qO qp qJB qq qDB qM qL qc) = some r) : AC Tryz.prog 21 [.ag [.im false (rowsOf Int_c qI)], .ag [.s (.int .i64 qo), .im false (rowsOf qR qO), .s (.int .i64 qp), .s (.bool qJB), .s (.int .i64 qq), .im false (rowsOf Int_c qDB), .s (.bool qM), .s (.int .i64 qL), .s (.int .i64 qc)]] [.ag [.jk], .ag [.jk, .jk, .jk, .jk, .jk, .jk, .jk, .jk, .jk]] [.v (.s (.bool r))] := by
 unfold qFC.f at h; let qE := rowsOf qR; let qB := rowsOf Int_c; let qIC := @lenI Cond; let qW := @lenI Int
 show AC _ _ [.ag [.im false (qB qI)], .ag [.s (.int .i64 qo), .im false (qE qO), .s (.int .i64 qp), .s (.bool qJB), .s (.int .i64 qq), .im false (qB qDB), .s (.bool qM), .s (.int .i64 qL), .s (.int .i64 qc)]] _ _
 refine run3 Tryz.func21 (by rfl) (by rfl) (by cbv) ⟨by decide, rfl⟩ ?_; intro ar cm bo sc sa sx ss sl bs sb ln sr ap up rp fr ge le lt nz mm ma sm fl al ci hL F hP hA hT hM hC; refine zB ?_; refine zA hL hT [] (by cbv) hq0 ?_; refine zB (zB ?_); obtain ⟨r1, h_r1, h⟩ := bnd h; obtain ⟨r2, h_r2, h⟩ := bnd h; refine zA hL hT [(1, .call [false] [.ag [.jk]] [.v (.s (.bool r1))]), (10, .call [false, false, false] [.v (.jk), .v (.jk), .v (.jk)] [.v (.s (.bool r2))])] (by cbv) ?_ ?_
 exact hq Tt (hq (hC (qoE h_r1)) (hq zn (hq (fun g4 => (hq g4 zt)) (hq zn (hq (fun g6 => (hq g6 zt)) (hq (fun g7 => (hq g7 hq0)) (hq (fun g8 => (hq g8 zt)) (hq (fun g9 => (hq g9 (hq g9 (hq (by rw [show ln (qB qI) = qW qI from ln_eq Int_c _]; exact (hC (qVC (gd_t h_r2 g9)))) hq0)))) (hq (fun g10 => (hq g10 hq0)) (hq zn (hq (fun q12 => (hq (bo_m q12) hq0)) (hq zn (hq (fun g14 => (hq g14 zt)) (hq (fun g15 => (hq g15 hq0)) (hq (fun g16 => (hq g16 zt)) (hq zn (hq (fun q18 => (hq (bo_m q18) hq0)) hq0)))))))))))))))))
 rw [show ln (qE qO) = qIC qO from ln_eq qR _]; rw [show ln (qB qI) = qW qI from ln_eq Int_c _]; refine zC (by cbv) hq0 (fun c19 => ?_) (fun c19 => ?_)
 ·
  have h := if_t c19 h; refine zB ?_; refine zA hL hT [] (by cbv) hq0 ?_; refine zD ?_
  cases h
  refine ⟨_, _, by cbv, ?_, ?_⟩; exact LLe.r; exact ALe.v LLe.r ALe.nil
 have h := if_f c19 h; refine zE (zB ?_); obtain ⟨x20, h_x20, h⟩ := bnd h; refine zA hL hT [(4, .el [.s (.int .i64 x20)])] (by cbv) ?_ ?_; exact hq Tt (hq Tt (hq (qJ h_x20) (hq (qa (f := Int_c) h_x20) (hq (qk (f := Int_c) h_x20) hq0)))); obtain ⟨K22, h_K22, h⟩ := joinE h; refine zI K22 (r := r) (fun (y21 : Unit) => ⟨148, 100000, [(2, .pt 1 0 0), (3, .pt 2 0 0), (5, .t (.s (.int .i64 x20)))], [(1, .box 26 [.t (.im false (qB qI))]), (2, .box 32 [.t (.s (.int .i64 qo)), .t (.im false (qE qO)), .t (.s (.int .i64 qp)), .t (.s (.bool qJB)), .t (.s (.int .i64 qq)), .t (.im false (qB qDB)), .t (.s (.bool qM)), .t (.s (.int .i64 qL)), .t (.s (.int .i64 qc))])]⟩) ?_ ?_
 ·
  skip
  refine zB ?_; refine zA hL hT [] (by cbv) hq0 ?_; refine Run.block ?_; refine zH (fun (z35 : Int) => ⟨148, 100000, [(2, .pt 1 0 0), (3, .pt 2 0 0), (5, .t (.s (.int .i64 x20))), (6, .t (.s (.int .i64 z35)))], [(1, .box 26 [.t (.im false (qB qI))]), (2, .box 32 [.t (.s (.int .i64 qo)), .t (.im false (qE qO)), .t (.s (.int .i64 qp)), .t (.s (.bool qJB)), .t (.s (.int .i64 qq)), .t (.im false (qB qDB)), .t (.s (.bool qM)), .t (.s (.int .i64 qL)), .t (.s (.int .i64 qc))])]⟩) (x0 := 0) h (Weak.of _ [(1, 0), (2, 1)] hA (by cbv) ?_) (fun _ => rfl) ?_
  · repeat first|exact hq0|refine hq (by first|exact Tt|rfl) ?_
  intro k z35 h; rw [qFC.l0] at h; refine zB (zB ?_); refine zA hL hT [] (by cbv) ?_ ?_; exact hq Tt zt; rw [show ln (qE qO) = qIC qO from ln_eq qR _]; refine zC (by cbv) hq0 (fun c36 => ?_) (fun c36 => ?_)
  ·
   have h := if_t c36 h; refine zE (zB ?_); refine Run.block ?_; refine zB ?_; obtain ⟨⟨qRd, qGf, qmg⟩, h_x37, h⟩ := bnd h; refine zA hL hT [(3, .el [.s (.int .i64 qRd), .s (.int .i64 qGf), .s (.int .i64 qmg)])] (by cbv) ?_ ?_; exact hq Tt (hq (qJ h_x37) (hq (qa (f := qR) h_x37) (hq (qk (f := qR) h_x37) zt))); refine zB ?_; obtain ⟨r38, h_r38, h⟩ := bnd h; obtain ⟨r39, h_r39, h⟩ := bnd h; obtain ⟨r40, h_r40, h⟩ := bnd h
   refine zA hL hT [(4, .call [false, false, false] [.v (.jk), .v (.jk), .v (.jk)] [.v (.s (.bool r38))]), (9, .call [false, false, false] [.v (.jk), .v (.jk), .v (.jk)] [.v (.s (.bool r39))]), (15, .call [false, false, false] [.v (.jk), .v (.jk), .v (.jk)] [.v (.s (.bool r40))])] (by cbv) ?_ ?_; exact hq Tt (hq Tt (hq (hC (qVC h_r38)) (hq zn (hq (fun g42 => (hq g42 zt)) (hq (fun g43 => (hq g43 (hq (hC (qVC (gd_t h_r39 g43))) hq0))) (hq (fun g44 => (hq g44 hq0)) (hq zn (hq (fun q46 => (hq (bo_m q46) hq0)) (hq zn (hq (fun g48 => (hq g48 zt)) (hq (fun g49 => (hq g49 (hq (hC (qVC (gd_t h_r40 g49))) hq0))) (hq (fun g50 => (hq g50 hq0)) (hq zn (hq (fun q52 => (hq (bo_m q52) hq0)) hq0))))))))))))))
   refine zC (by cbv) hq0 (fun c53 => ?_) (fun c53 => ?_)
   ·
    have h := if_t c53 h; refine zB ?_; refine zA hL hT [] (by cbv) hq0 ?_; refine zD ?_
    cases h
    refine ⟨_, _, by cbv, ?_, ?_⟩; exact LLe.r; exact ALe.v LLe.r ALe.nil
   have h := if_f c53 h; refine zE ?_; refine zA hL hT [] (by cbv) ?_ ?_; exact zt; refine ⟨(ar .add .i64 z35 1), h, Weak.of _ [(1, 1), (2, 2)] hA (by cbv) ?_⟩
   repeat first|exact hq0|refine hq (by first|exact Tt|rfl) ?_
  have h := if_f c36 h; refine zG ?_; refine ⟨(), h, Weak.of _ [(1, 1), (2, 2)] hA (by cbv) ?_⟩
  repeat first|exact hq0|refine hq (by first|exact Tt|rfl) ?_
 intro y21 h; rw [h_K22] at h; obtain ⟨K55, h_K55, h⟩ := joinE h; refine zI K55 (r := r) (fun (y54 : Unit) => ⟨148, 100000, [(2, .pt 1 0 0), (3, .pt 2 0 0), (5, .t (.s (.int .i64 x20)))], [(1, .box 26 [.t (.im false (qB qI))]), (2, .box 32 [.t (.s (.int .i64 qo)), .t (.im false (qE qO)), .t (.s (.int .i64 qp)), .t (.s (.bool qJB)), .t (.s (.int .i64 qq)), .t (.im false (qB qDB)), .t (.s (.bool qM)), .t (.s (.int .i64 qL)), .t (.s (.int .i64 qc))])]⟩) ?_ ?_
 ·
  skip
  refine zB ?_; refine zA hL hT [] (by cbv) hq0 ?_; refine Run.block ?_; refine zH (fun (z68 : Int) => ⟨148, 100000, [(2, .pt 1 0 0), (3, .pt 2 0 0), (5, .t (.s (.int .i64 x20))), (8, .t (.s (.int .i64 z68)))], [(1, .box 26 [.t (.im false (qB qI))]), (2, .box 32 [.t (.s (.int .i64 qo)), .t (.im false (qE qO)), .t (.s (.int .i64 qp)), .t (.s (.bool qJB)), .t (.s (.int .i64 qq)), .t (.im false (qB qDB)), .t (.s (.bool qM)), .t (.s (.int .i64 qL)), .t (.s (.int .i64 qc))])]⟩) (x0 := 0) h (Weak.of _ [(1, 1), (2, 2)] hA (by cbv) ?_) (fun _ => rfl) ?_
  · repeat first|exact hq0|refine hq (by first|exact Tt|rfl) ?_
  intro k z68 h; rw [qFC.l1] at h; refine zB (zB ?_); refine zA hL hT [] (by cbv) ?_ ?_; exact hq Tt zt; rw [show ln (qB qDB) = qW qDB from ln_eq Int_c _]; refine zC (by cbv) hq0 (fun c69 => ?_) (fun c69 => ?_)
  ·
   have h := if_t c69 h; refine zE (zB ?_); refine Run.block ?_; refine zB ?_; obtain ⟨x70, h_x70, h⟩ := bnd h; obtain ⟨r71, h_r71, h⟩ := bnd h; obtain ⟨x72, h_x72, h⟩ := bnd h; refine zF hL hT hM [(3, .el [.s (.int .i64 x70)]), (7, .call [false, false, false] [.v (.jk), .v (.jk), .v (.jk)] [.v (.s (.bool r71))]), (17, .el [.s (.int .i64 x72)]), (22, .el [.s (.int .i64 x70)])] (by cbv) (by cbv) (by cbv) (by cbv) (by cbv) ?_ ?_
   exact hq Tt (hq (qJ h_x70) (hq (qa (f := Int_c) h_x70) (hq (qk (f := Int_c) h_x70) (hq Tt (hq (hC (qVC h_r71)) (hq zn (hq (fun g74 => (hq g74 zt)) (hq (fun g75 => (hq g75 hq0)) (hq zn (hq (fun g77 => (hq g77 zt)) (hq zn (hq (fun g79 => (hq g79 zt)) (hq (fun g80 => (hq g80 (hq g80 (hq (qJ (gd_t h_x72 g80)) (hq (qa (f := Int_c) (gd_t h_x72 g80)) (hq (qk (f := Int_c) (gd_t h_x72 g80)) hq0)))))) (hq (fun g81 => (hq g81 hq0)) (hq zn (hq (fun g83 => (hq g83 zt)) (hq zn (hq (fun g85 => (hq g85 (hq g85 (hq (qJ h_x70) (hq (qa (f := Int_c) h_x70) (hq (qk (f := Int_c) h_x70) hq0)))))) (hq (fun g86 => (hq g86 hq0)) (hq (fun g87 => (hq g87 (hq g87 zt))) (hq (fun g88 => (hq g88 (hq (fun q89 => (hq (bo_a g88 q89) hq0)) (hq zn hq0)))) (hq zn (hq (fun q92 => (hq (bo_m q92) hq0)) hq0)))))))))))))))))))))))
   refine zC (by cbv) hq0 (fun c93 => ?_) (fun c93 => ?_)
   ·
    have h := if_t c93 h; refine zB ?_; refine zA hL hT [] (by cbv) hq0 ?_; refine zD ?_
    cases h
    refine ⟨_, _, by cbv, ?_, ?_⟩; exact LLe.r; exact ALe.v LLe.r ALe.nil
   have h := if_f c93 h; refine zE ?_; refine zA hL hT [] (by cbv) ?_ ?_; exact zt; refine ⟨(ar .add .i64 z68 1), h, Weak.of _ [(1, 1), (2, 2)] hA (by cbv) ?_⟩
   repeat first|exact hq0|refine hq (by first|exact Tt|rfl) ?_
  have h := if_f c69 h; refine zG ?_; refine ⟨(), h, Weak.of _ [(1, 1), (2, 2)] hA (by cbv) ?_⟩
  repeat first|exact hq0|refine hq (by first|exact Tt|rfl) ?_
 intro y54 h; rw [h_K55] at h; refine zB (zB ?_); obtain ⟨r94, h_r94, h⟩ := bnd h; obtain ⟨r95, h_r95, h⟩ := bnd h; refine zA hL hT [(3, .call [false, false, false] [.v (.jk), .v (.jk), .v (.jk)] [.v (.s (.bool r94))]), (8, .call [false, false, false] [.v (.jk), .v (.jk), .v (.jk)] [.v (.s (.bool r95))])] (by cbv) ?_ ?_; exact hq Tt (hq (hC (qVC h_r94)) (hq zn (hq (fun g97 => (hq g97 zt)) (hq (fun g98 => (hq g98 (hq (hC (qVC (gd_t h_r95 g98))) hq0))) (hq (fun g99 => (hq g99 hq0)) (hq zn (hq (fun q101 => (hq (bo_m q101) hq0)) (hq zn (hq (fun g103 => (hq g103 zt)) (hq (fun g104 => (hq g104 zt)) (hq (fun g105 => (hq g105 hq0)) (hq zn (hq (fun g107 => (hq g107 zt)) (hq (fun g108 => (hq g108 (hq (fun q109 => (hq (bo_a g108 q109) hq0)) (hq zn hq0)))) (hq zn (hq (fun q112 => (hq (bo_m q112) hq0)) hq0))))))))))))))))
 refine zC (by cbv) hq0 (fun c113 => ?_) (fun c113 => ?_)
 ·
  have h := if_t c113 h; refine zB ?_; refine zA hL hT [] (by cbv) hq0 ?_; refine zD ?_
  cases h
  refine ⟨_, _, by cbv, ?_, ?_⟩; exact LLe.r; exact ALe.v LLe.r ALe.nil
 have h := if_f c113 h; refine zE (zB ?_); refine zB ?_; refine zA hL hT [] (by cbv) ?_ ?_; exact zt; refine zC (by cbv) hq0 (fun c114 => ?_) (fun c114 => ?_)
 ·
  have h := if_t c114 h; refine zB ?_; refine zA hL hT [] (by cbv) ?_ ?_; exact hq Tt (hq Tt (hq zn (hq (fun g116 => (hq g116 zt)) (hq (fun g117 => (hq g117 zt)) (hq (fun q118 => (hq q118 hq0)) (hq zn hq0)))))); refine zD ?_
  cases h
  refine ⟨_, _, by cbv, ?_, ?_⟩; exact LLe.r; exact ALe.v LLe.r ALe.nil
 have h := if_f c114 h; refine zE (zB ?_); obtain ⟨r120, qng, h⟩ := bnd h; obtain ⟨x121, qzb, h⟩ := bnd h; obtain ⟨r122, qog, h⟩ := bnd h; refine zF hL hT hM [(6, .call [false, false, false] [.v (.jk), .v (.jk), .v (.jk)] [.v (.s (.bool r120))]), (14, .el [.s (.int .i64 x121)]), (17, .call [false, false, false] [.v (.jk), .v (.jk), .v (.jk)] [.v (.s (.bool r122))])] (by cbv) (by cbv) (by cbv) (by cbv) (by cbv) ?_ ?_
 exact hq Tt (hq Tt (hq Tt (hq (by rw [show ln (qB qI) = qW qI from ln_eq Int_c _]; exact (hC (qVC qng))) (hq zn (hq (fun g124 => (hq g124 zt)) (hq zn (hq (fun g126 => (hq g126 zt)) (hq zn (hq (fun g128 => (hq g128 zt)) (hq (fun g129 => (hq g129 (hq g129 (hq (qJ (gd_t qzb g129)) (hq (qa (f := Int_c) (gd_t qzb g129)) (hq (qk (f := Int_c) (gd_t qzb g129)) hq0)))))) (hq (fun g130 => (hq g130 hq0)) (hq (fun g131 => (hq g131 zt)) (hq (fun g132 => (hq g132 (hq g132 (hq (hC (qVC (gd_t qog g132))) hq0)))) (hq (fun q133 => (hq q133 hq0)) (hq zn hq0)))))))))))))))
 rw [show ln (qB qI) = qW qI from ln_eq Int_c _]; refine zD ?_
 cases h
 refine ⟨_, _, by cbv, ?_, ?_⟩; exact LLe.r; exact ALe.v LLe.r ALe.nil
theorem qUQ {qsL qCQ a0v_V qhC : Int} {qn : List Int} {r : Bool} (h : qAH.f (Cond.mk qsL qCQ a0v_V) (Row.mk qhC qn) = some r) : AC Tryz.prog 123 [.ag [.s (.int .i64 qsL), .s (.int .i64 qCQ), .s (.int .i64 a0v_V)], .ag [.s (.int .i64 qhC), .im false (rowsOf Int_c qn)]] [.ag [.jk, .jk, .jk], .ag [.jk, .jk]] [.v (.s (.bool r))] := by
 unfold qAH.f at h; let qB := rowsOf Int_c; let qW := @lenI Int
 show AC _ _ [.ag [.s (.int .i64 qsL), .s (.int .i64 qCQ), .s (.int .i64 a0v_V)], .ag [.s (.int .i64 qhC), .im false (qB qn)]] _ _
 refine run3 Tryz.func123 (by rfl) (by rfl) (by cbv) ⟨by decide, rfl⟩ ?_; intro ar cm bo sc sa sx ss sl bs sb ln sr ap up rp fr ge le lt nz mm ma sm fl al ci hL F hP hA hT hM hC; refine zB ?_; refine zA hL hT [] (by cbv) hq0 ?_; refine zB (zB ?_); obtain ⟨r1, h_r1, h⟩ := bnd h; refine zA hL hT [(6, .call [false, false, false] [.v (.jk), .v (.jk), .v (.jk)] [.v (.s (.bool r1))])] (by cbv) ?_ ?_
 exact hq Tt (hq Tt (hq Tt (hq (by rw [show ln (qB qn) = qW qn from ln_eq Int_c _]; exact (hC (qVC h_r1))) hq0))); rw [show ln (qB qn) = qW qn from ln_eq Int_c _]; refine zC (by cbv) hq0 (fun c2 => ?_) (fun c2 => ?_)
 ·
  have h := if_t c2 h; refine zB ?_; refine zA hL hT [] (by cbv) hq0 ?_; refine zD ?_
  cases h
  refine ⟨_, _, by cbv, ?_, ?_⟩; exact LLe.r; exact ALe.v LLe.r ALe.nil
 have h := if_f c2 h; refine zE (zB ?_); obtain ⟨x3, h_x3, h⟩ := bnd h; refine zA hL hT [(4, .el [.s (.int .i64 x3)])] (by cbv) ?_ ?_; exact hq Tt (hq Tt (hq (qJ h_x3) (hq (qa (f := Int_c) h_x3) (hq (qk (f := Int_c) h_x3) hq0)))); refine zB (zB ?_); refine zA hL hT [] (by cbv) ?_ ?_; exact zt; refine Run.block ?_; refine zB ?_; refine zA hL hT [] (by cbv) ?_ ?_; exact zt; refine zC (by cbv) hq0 (fun c4 => ?_) (fun c4 => ?_)
 ·
  have h := if_t c4 h; refine zB ?_; refine zA hL hT [] (by cbv) ?_ ?_; exact hq Tt zt; refine zD ?_
  cases h
  refine ⟨_, _, by cbv, ?_, ?_⟩; exact LLe.r; exact ALe.v LLe.r ALe.nil
 have h := if_f c4 h; refine zB ?_; refine zA hL hT [] (by cbv) ?_ ?_; exact zt; refine zC (by cbv) hq0 (fun c5 => ?_) (fun c5 => ?_)
 ·
  have h := if_t c5 h; refine zB ?_; refine zA hL hT [] (by cbv) ?_ ?_; exact hq Tt zt; refine zD ?_
  cases h
  refine ⟨_, _, by cbv, ?_, ?_⟩; exact LLe.r; exact ALe.v LLe.r ALe.nil
 have h := if_f c5 h; refine zB ?_; refine zA hL hT [] (by cbv) ?_ ?_; exact zt; refine zC (by cbv) hq0 (fun c6 => ?_) (fun c6 => ?_)
 ·
  have h := if_t c6 h; refine zB ?_; refine zA hL hT [] (by cbv) ?_ ?_; exact hq Tt zt; refine zD ?_
  cases h
  refine ⟨_, _, by cbv, ?_, ?_⟩; exact LLe.r; exact ALe.v LLe.r ALe.nil
 have h := if_f c6 h; refine zB ?_; refine zA hL hT [] (by cbv) ?_ ?_; exact zt; refine zC (by cbv) hq0 (fun c7 => ?_) (fun c7 => ?_)
 ·
  have h := if_t c7 h; refine zB ?_; refine zA hL hT [] (by cbv) ?_ ?_; exact hq Tt zt; refine zD ?_
  cases h
  refine ⟨_, _, by cbv, ?_, ?_⟩; exact LLe.r; exact ALe.v LLe.r ALe.nil
 have h := if_f c7 h; refine zE (zB ?_); refine zA hL hT [] (by cbv) hq0 ?_; refine zD ?_
 cases h
 refine ⟨_, _, by cbv, ?_, ?_⟩; exact LLe.r; exact ALe.v LLe.r ALe.nil
theorem qjK {qw : Int} {qi : List Cond} {qx : Int} {qMB : Bool} {qy : Int} {qEB : List Int} {qU : Bool} {qN qh qhC : Int} {qn : List Int} {r : Bool} (h : qBD.f (Query.mk qw qi qx qMB qy qEB qU qN qh) (Row.mk qhC qn) = some r) : AC Tryz.prog 59 [.ag [.s (.int .i64 qw), .im false (rowsOf qR qi), .s (.int .i64 qx), .s (.bool qMB), .s (.int .i64 qy), .im false (rowsOf Int_c qEB), .s (.bool qU), .s (.int .i64 qN), .s (.int .i64 qh)], .ag [.s (.int .i64 qhC), .im false (rowsOf Int_c qn)]] [.ag [.jk, .jk, .jk, .jk, .jk, .jk, .jk, .jk, .jk], .ag [.jk, .jk]] [.v (.s (.bool r))] := by
 unfold qBD.f at h; let qE := rowsOf qR; let qB := rowsOf Int_c; let qIC := @lenI Cond
 show AC _ _ [.ag [.s (.int .i64 qw), .im false (qE qi), .s (.int .i64 qx), .s (.bool qMB), .s (.int .i64 qy), .im false (qB qEB), .s (.bool qU), .s (.int .i64 qN), .s (.int .i64 qh)], .ag [.s (.int .i64 qhC), .im false (qB qn)]] _ _
 refine run3 Tryz.func59 (by rfl) (by rfl) (by cbv) ⟨by decide, rfl⟩ ?_; intro ar cm bo sc sa sx ss sl bs sb ln sr ap up rp fr ge le lt nz mm ma sm fl al ci hL F hP hA hT hM hC; refine zB ?_; refine zA hL hT [] (by cbv) hq0 ?_; refine zB (zB ?_); refine zA hL hT [] (by cbv) hq0 ?_; refine Run.block ?_; refine zH (fun (z13 : Int) => ⟨21, 100000, [(2, .pt 1 0 0), (3, .pt 2 0 0), (5, .t (.s (.int .i64 z13)))], [(1, .box 32 [.t (.s (.int .i64 qw)), .t (.im false (qE qi)), .t (.s (.int .i64 qx)), .t (.s (.bool qMB)), .t (.s (.int .i64 qy)), .t (.im false (qB qEB)), .t (.s (.bool qU)), .t (.s (.int .i64 qN)), .t (.s (.int .i64 qh))]), (2, .box 56 [.t (.s (.int .i64 qhC)), .t (.im false (qB qn))])]⟩) (x0 := 0) h (Weak.of _ [(1, 0), (2, 1)] hA (by cbv) ?_) (fun _ => rfl) ?_
 · repeat first|exact hq0|refine hq (by first|exact Tt|rfl) ?_
 intro k z13 h; rw [qBD.l0] at h; refine zB (zB ?_); refine zA hL hT [] (by cbv) ?_ ?_; exact hq Tt zt; rw [show ln (qE qi) = qIC qi from ln_eq qR _]; refine zC (by cbv) hq0 (fun c14 => ?_) (fun c14 => ?_)
 ·
  have h := if_t c14 h; refine zE (zB ?_); refine Run.block ?_; refine zB ?_; obtain ⟨⟨qSd, qHf, qpg⟩, h_x15, h⟩ := bnd h; obtain ⟨r16, h_r16, h⟩ := bnd h; refine zF hL hT hM [(3, .el [.s (.int .i64 qSd), .s (.int .i64 qHf), .s (.int .i64 qpg)]), (6, .call [false, false] [.ag [.jk, .jk, .jk], .ag [.jk, .jk]] [.v (.s (.bool r16))])] (by cbv) (by cbv) (by cbv) (by cbv) (by cbv) ?_ ?_; exact hq Tt (hq (qJ h_x15) (hq (qa (f := qR) h_x15) (hq (qk (f := qR) h_x15) (hq Tt (hq (hC (qUQ h_r16)) hq0)))))
  refine zC (by cbv) hq0 (fun c17 => ?_) (fun c17 => ?_)
  ·
   have h := if_t c17 h; refine zB ?_; refine zA hL hT [] (by cbv) hq0 ?_; refine zD ?_
   cases h
   refine ⟨_, _, by cbv, ?_, ?_⟩; exact LLe.r; exact ALe.v LLe.r ALe.nil
  have h := if_f c17 h; refine zE ?_; refine zA hL hT [] (by cbv) ?_ ?_; exact zt; refine ⟨(ar .add .i64 z13 1), h, Weak.of _ [(1, 1), (2, 2)] hA (by cbv) ?_⟩
  repeat first|exact hq0|refine hq (by first|exact Tt|rfl) ?_
 have h := if_f c14 h; refine zG (zB ?_); refine zA hL hT [] (by cbv) hq0 ?_; refine zD ?_
 cases h
 refine ⟨_, _, by cbv, ?_, ?_⟩; exact LLe.r; exact ALe.v LLe.r ALe.nil
theorem qbL {qtD : Int} {qQB : List Int} {a1 r : Int} (h : qUG.f (Row.mk qtD qQB) a1 = some r) : AC Tryz.prog 110 [.ag [.s (.int .i64 qtD), .im false (rowsOf Int_c qQB)], .v (.s (.int .i64 a1))] [.ag [.jk, .jk], .v (.jk)] [.v (.s (.int .i64 r))] := by
 unfold qUG.f at h; let qB := rowsOf Int_c; let qW := @lenI Int
 show AC _ _ [.ag [.s (.int .i64 qtD), .im false (qB qQB)], .v (.s (.int .i64 a1))] _ _
 refine run3 Tryz.func110 (by rfl) (by rfl) (by cbv) ⟨by decide, rfl⟩ ?_; intro ar cm bo sc sa sx ss sl bs sb ln sr ap up rp fr ge le lt nz mm ma sm fl al ci hL F hP hA hT hM hC; refine zB ?_; refine zA hL hT [] (by cbv) hq0 ?_; refine zB (zB ?_); obtain ⟨r1, h_r1, h⟩ := bnd h; refine zA hL hT [(5, .call [false, false, false] [.v (.jk), .v (.jk), .v (.jk)] [.v (.s (.bool r1))])] (by cbv) ?_ ?_
 exact hq Tt (hq Tt (hq (by rw [show ln (qB qQB) = qW qQB from ln_eq Int_c _]; exact (hC (qVC h_r1))) hq0)); rw [show ln (qB qQB) = qW qQB from ln_eq Int_c _]; refine zC (by cbv) hq0 (fun c2 => ?_) (fun c2 => ?_)
 ·
  have h := if_t c2 h; refine zB ?_; refine zA hL hT [] (by cbv) hq0 ?_; refine zD ?_
  cases h
  refine ⟨_, _, by cbv, ?_, ?_⟩; exact LLe.r; exact ALe.v LLe.r ALe.nil
 have h := if_f c2 h; refine zE (zB ?_); obtain ⟨x3, h_x3, h⟩ := bnd h; refine zA hL hT [(3, .el [.s (.int .i64 x3)])] (by cbv) ?_ ?_; exact hq Tt (hq (qJ h_x3) (hq (qa (f := Int_c) h_x3) (hq (qk (f := Int_c) h_x3) hq0))); refine zD ?_
 cases h
 refine ⟨_, _, by cbv, ?_, ?_⟩; exact LLe.r; exact ALe.v LLe.r ALe.nil
theorem qzM {qw : Int} {qi : List Cond} {qx : Int} {qMB : Bool} {qy : Int} {qEB : List Int} {qU : Bool} {qN qh qhC : Int} {qn : List Int} {qyE : Int} {qbB : List Int} {r : Bool} (h : qjH.f (Query.mk qw qi qx qMB qy qEB qU qN qh) (Row.mk qhC qn) (Row.mk qyE qbB) = some r) : AC Tryz.prog 87 [.ag [.s (.int .i64 qw), .im false (rowsOf qR qi), .s (.int .i64 qx), .s (.bool qMB), .s (.int .i64 qy), .im false (rowsOf Int_c qEB), .s (.bool qU), .s (.int .i64 qN), .s (.int .i64 qh)], .ag [.s (.int .i64 qhC), .im false (rowsOf Int_c qn)], .ag [.s (.int .i64 qyE), .im false (rowsOf Int_c qbB)]] [.ag [.jk, .jk, .jk, .jk, .jk, .jk, .jk, .jk, .jk], .ag [.jk, .jk], .ag [.jk, .jk]] [.v (.s (.bool r))] := by
 unfold qjH.f at h; let qE := rowsOf qR; let qB := rowsOf Int_c
 show AC _ _ [.ag [.s (.int .i64 qw), .im false (qE qi), .s (.int .i64 qx), .s (.bool qMB), .s (.int .i64 qy), .im false (qB qEB), .s (.bool qU), .s (.int .i64 qN), .s (.int .i64 qh)], .ag [.s (.int .i64 qhC), .im false (qB qn)], .ag [.s (.int .i64 qyE), .im false (qB qbB)]] _ _
 refine run3 Tryz.func87 (by rfl) (by rfl) (by cbv) ⟨by decide, rfl⟩ ?_; intro ar cm bo sc sa sx ss sl bs sb ln sr ap up rp fr ge le lt nz mm ma sm fl al ci hL F hP hA hT hM hC; refine zB ?_; refine zA hL hT [] (by cbv) hq0 ?_; refine zB (zB ?_); refine zA hL hT [] (by cbv) ?_ ?_; exact hq Tt zt; refine zC (by cbv) hq0 (fun c1 => ?_) (fun c1 => ?_)
 ·
  have h := if_t c1 h; refine zB ?_; obtain ⟨r2, h_r2, h⟩ := bnd h; obtain ⟨r3, h_r3, h⟩ := bnd h; refine zF hL hT hM [(4, .call [false, false] [.ag [.jk, .jk], .v (.jk)] [.v (.s (.int .i64 r2))]), (9, .call [false, false] [.ag [.jk, .jk], .v (.jk)] [.v (.s (.int .i64 r3))])] (by cbv) (by cbv) (by cbv) (by cbv) (by cbv) ?_ ?_; exact hq Tt (hq Tt (hq Tt (hq (hC (qbL h_r2)) (hq Tt (hq Tt (hq Tt (hq (hC (qbL h_r3)) hq0)))))))
  refine zB ?_; refine zA hL hT [] (by cbv) ?_ ?_; exact zt; refine zC (by cbv) hq0 (fun c4 => ?_) (fun c4 => ?_)
  ·
   have h := if_t c4 h; refine zB ?_; refine zA hL hT [] (by cbv) ?_ ?_; exact hq Tt zt; refine zD ?_
   cases h
   refine ⟨_, _, by cbv, ?_, ?_⟩; exact LLe.r; exact ALe.v LLe.r ALe.nil
  have h := if_f c4 h; refine zE (zB ?_); refine zA hL hT [] (by cbv) ?_ ?_; exact hq Tt (hq Tt zt); refine zD ?_
  cases h
  refine ⟨_, _, by cbv, ?_, ?_⟩; exact LLe.r; exact ALe.v LLe.r ALe.nil
 have h := if_f c1 h; refine zE (zB ?_); refine zA hL hT [] (by cbv) ?_ ?_; exact hq Tt (hq Tt zt); refine zD ?_
 cases h
 refine ⟨_, _, by cbv, ?_, ?_⟩; exact LLe.r; exact ALe.v LLe.r ALe.nil
theorem qhR {qw : Int} {qi : List Cond} {qx : Int} {qMB : Bool} {qy : Int} {qEB : List Int} {qU : Bool} {qN qh : Int} {a1 : List Row} {qyE : Int} {qbB : List Int} {r : (List Row)} (h : qtC.f (Query.mk qw qi qx qMB qy qEB qU qN qh) a1 (Row.mk qyE qbB) = some r) : AC Tryz.prog 60 [.ag [.s (.int .i64 qw), .im false (rowsOf qR qi), .s (.int .i64 qx), .s (.bool qMB), .s (.int .i64 qy), .im false (rowsOf Int_c qEB), .s (.bool qU), .s (.int .i64 qN), .s (.int .i64 qh)], .v (.ow 56 (rowsOf Row_o a1)), .ag [.s (.int .i64 qyE), .im false (rowsOf Int_c qbB)]] [.ag [.jk, .jk, .jk, .jk, .jk, .jk, .jk, .jk, .jk], .v (.jk), .ag [.jk, .jk]] [.v (.ow 56 (rowsOf Row_o r))] := by
 unfold qtC.f at h; let qE := rowsOf qR; let qB := rowsOf Int_c; let qP := rowsOf Row_o; let qS := @lenI Row; let jp := jpR
 show AC _ _ [.ag [.s (.int .i64 qw), .im false (qE qi), .s (.int .i64 qx), .s (.bool qMB), .s (.int .i64 qy), .im false (qB qEB), .s (.bool qU), .s (.int .i64 qN), .s (.int .i64 qh)], .v (.ow 56 (qP a1)), .ag [.s (.int .i64 qyE), .im false (qB qbB)]] _ _
 refine run3 Tryz.func60 (by rfl) (by rfl) (by cbv) ⟨by decide, rfl⟩ ?_; intro ar cm bo sc sa sx ss sl bs sb ln sr ap up rp fr ge le lt nz mm ma sm fl al ci hL F hP hA hT hM hC; refine zB ?_; refine zA hL hT [] (by cbv) hq0 ?_; refine zB ?_; refine zA hL hT [] (by cbv) hq0 ?_; refine zB ?_; refine zA hL hT [] (by cbv) hq0 ?_; obtain ⟨K4, h_K4, h⟩ := joinE h; refine zW K4 (r := r) (fun (y1 : List Row) (y2 : Bool) (y3 : Int) => ⟨48, 100000, [(5, .pt 1 0 0), (7, .rf 2), (8, .t (.s (.bool y2)))], [(0, .row 0 56 2 ((jp y3 (qP a1)))), (1, .box 56 [.t (.s (.int .i64 qyE)), .t (.im false (qB qbB))]), (2, .row 0 56 2 (qP y1))]⟩) ?_ ?_
 ·
  skip
  refine zB ?_; refine zA hL hT [] (by cbv) hq0 ?_; refine Run.block ?_; refine zL (fun (z20 : List Row) (z21 : Bool) (z22 : Int) => ⟨48, 100000, [(1, .rf 0), (3, .pt 1 0 0), (5, .pt 2 0 0), (7, .rf 3), (8, .t (.s (.bool z21))), (9, .t (.s (.int .i64 z22)))], [(0, .row 0 56 2 ((jp z22 (qP a1)))), (1, .box 32 [.t (.s (.int .i64 qw)), .t (.im false (qE qi)), .t (.s (.int .i64 qx)), .t (.s (.bool qMB)), .t (.s (.int .i64 qy)), .t (.im false (qB qEB)), .t (.s (.bool qU)), .t (.s (.int .i64 qN)), .t (.s (.int .i64 qh))]), (2, .box 56 [.t (.s (.int .i64 qyE)), .t (.im false (qB qbB))]), (3, .row 0 56 2 (qP z20))]⟩) (x0 := []) (x1 := false) (x2 := 0) h ((Weak.row (rows := qP a1) 0 (jp 0 (qP a1)) (by cbv) (RLe.eq (jp_0 _).symm)).trans (Weak.of _ [(0, 0), (1, 1), (2, 2), (3, 4097)] hA (by cbv) ?_)) (fun _ _ _ => rfl) ?_
  · repeat first|exact hq0|refine hq (by first|exact Tt|rfl) ?_
  intro k z20 z21 z22 h; rw [qtC.l0] at h; refine zB (zB ?_); refine zA hL hT [] (by cbv) ?_ ?_; exact zt; rw [show ln (jp z22 (qP a1)) = qS a1 from jp_ln (f := Row_o) _ _]; refine zC (by cbv) hq0 (fun c23 => ?_) (fun c23 => ?_)
  ·
   have h := if_t c23 h; refine zE (zB ?_); refine Run.block ?_; refine zB (zB ?_); obtain ⟨⟨qIf, qZZ⟩, h_x24, h⟩ := bnd h; obtain ⟨r25, h_r25, h⟩ := bnd h; refine zF hL hT hM [(8, .el [.s (.int .i64 qIf), .ow 3 (qB qZZ)]), (9, .call [false, false, false] [.ag [.jk, .jk, .jk, .jk, .jk, .jk, .jk, .jk, .jk], .ag [.jk, .jk], .ag [.jk, .jk]] [.v (.s (.bool r25))])] (by cbv) (by cbv) (by cbv) (by cbv) (by cbv) ?_ ?_
   exact hq (fun g26 => zt) (hq (fun g27 => zt) (hq zn (hq zn (hq (fun g30 => (hq g30 (hq g30 (hq (qJ (gd_t h_x24 g30)) (hq (jp_lt (f := Row_o) (gd_t h_x24 g30)) hq0))))) (hq (fun g31 => (hq g31 (hq (qJ (gd_t h_x24 g31)) (hq (jp_lt (f := Row_o) (gd_t h_x24 g31)) (hq (jp_ge (f := Row_o) (gd_t h_x24 g31)) hq0))))) (hq (fun g32 => (hq g32 (hq g32 (hq g32 (hq (hC (AC.args (qzM (gd_t h_r25 g32)) (ALe.ag rfl LLe.r (ALe.ag rfl LLe.r (ALe.ag rfl (LLe.c (LLe.cons (LLe.im (RLe.eq (qz qJC _))) LLe.nil)) ALe.nil))))) hq0))))) (hq (fun q33 => (hq q33 hq0)) (hq zn hq0))))))))
   refine zC (by cbv) hq0 (fun c35 => ?_) (fun c35 => ?_)
   ·
    have h := if_t c35 h; refine zB ?_; obtain ⟨⟨qAc, qqS⟩, h_r36, h⟩ := bnd h; obtain ⟨l37, h_l37, h⟩ := bnd h; obtain ⟨l38, h_l38, h⟩ := bnd h; refine zA hL hT [(2, .call [false] [.ag [.jk, .jk]] [.ag [.s (.int .i64 qAc), .ow 3 (qB qqS)]])] (by cbv) ?_ ?_; exact hq Tt (hq (hC (qdF h_r36)) (hq (qGD (P := Tryz.prog) (f := Row_o) RLe.r (qLB (f := Row_o) h_l37 (RLe.cons rfl LLe.r RLe.nil)) h_l38) hq0))
    refine Run.row (rows := (ap (qP z20) ([[.s (.int .i64 qAc), .ow 3 (qB qqS)]]))) 108196 (qP l38) (by cbv) (qFD (f := Row_o) RLe.r (qLB (f := Row_o) h_l37 (RLe.cons rfl LLe.r RLe.nil)) h_l38) ?_; refine zA hL hT [] (by cbv) hq0 ?_; obtain ⟨⟨qBc, qrS⟩, h_x39, h⟩ := bnd h; obtain ⟨u40, h_u40, h⟩ := bnd h; obtain ⟨l41, h_l41, h⟩ := bnd h; obtain ⟨l42, h_l42, h⟩ := bnd h; refine Run.weak ?_ (Weak.take (rows := (jp z22 (qP a1))) (e2 := 3) (r2 := qB qrS) hT 0 z22 1 119384 1119384 (by cbv) (by cbv) (by cbv) (qPE h_x39) (qiX Row_o h_x39) ((congrArg (fun q => q[1]?) (jp_ge (f := Row_o) h_x39)).trans rfl) rfl (up (jp z22 (qP a1)) z22 1 [.jk]) rfl)
    refine zA hL hT [(4, .lk [.s (.int .i64 qBc), .jk] [(1, 1119384)])] (by cbv) ?_ ?_; exact hq (qJ h_x39) (hq (qjX Row_o h_x39) (hq Tt (hq (qJ h_x39) (hq (qjX Row_o h_x39) (hq (qed Row_o h_x39) (hq (qGD (P := Tryz.prog) (f := Row_o) RLe.r (qLB (f := Row_o) h_l41 (RLe.cons rfl LLe.r RLe.nil)) h_l42) hq0)))))); refine Run.weak ?_ (Weak.row (rows := (up (jp z22 (qP a1)) z22 1 [.jk])) 0 (jp (ar .add .i64 z22 1) (qP a1)) (by cbv) (qUa (f := Row_o) h_x39 h_u40 (ltn (qgN _) (by decide))))
    refine Run.row (rows := (ap (qP l38) ([[.s (.int .i64 qBc), .ow 3 (qB qrS)]]))) 116390 (qP l42) (by cbv) (qFD (f := Row_o) RLe.r (qLB (f := Row_o) h_l41 (RLe.cons rfl LLe.r RLe.nil)) h_l42) ?_; refine zA hL hT [] (by cbv) ?_ ?_; exact zt; refine ⟨l42, true, (ar .add .i64 z22 1), h, Weak.of _ [(0, 0), (1, 1), (2, 2), (3, 116390)] hA (by cbv) ?_⟩
    repeat first|exact hq0|refine hq (by first|exact Tt|rfl) ?_
   have h := if_f c35 h; refine zE ?_; obtain ⟨⟨qCc, qsS⟩, h_x43, h⟩ := bnd h; obtain ⟨u44, h_u44, h⟩ := bnd h; obtain ⟨l45, h_l45, h⟩ := bnd h; obtain ⟨l46, h_l46, h⟩ := bnd h; refine Run.weak ?_ (Weak.take (rows := (jp z22 (qP a1))) (e2 := 3) (r2 := qB qsS) hT 0 z22 1 111192 1111192 (by cbv) (by cbv) (by cbv) (qPE h_x43) (qiX Row_o h_x43) ((congrArg (fun q => q[1]?) (jp_ge (f := Row_o) h_x43)).trans rfl) rfl (up (jp z22 (qP a1)) z22 1 [.jk]) rfl)
   refine zA hL hT [(4, .lk [.s (.int .i64 qCc), .jk] [(1, 1111192)])] (by cbv) ?_ ?_; exact hq (qJ h_x43) (hq (qjX Row_o h_x43) (hq Tt (hq (qJ h_x43) (hq (qjX Row_o h_x43) (hq (qed Row_o h_x43) (hq (qGD (P := Tryz.prog) (f := Row_o) RLe.r (qLB (f := Row_o) h_l45 (RLe.cons rfl LLe.r RLe.nil)) h_l46) hq0)))))); refine Run.weak ?_ (Weak.row (rows := (up (jp z22 (qP a1)) z22 1 [.jk])) 0 (jp (ar .add .i64 z22 1) (qP a1)) (by cbv) (qUa (f := Row_o) h_x43 h_u44 (ltn (qgN _) (by decide))))
   refine Run.row (rows := (ap (qP z20) ([[.s (.int .i64 qCc), .ow 3 (qB qsS)]]))) 108198 (qP l46) (by cbv) (qFD (f := Row_o) RLe.r (qLB (f := Row_o) h_l45 (RLe.cons rfl LLe.r RLe.nil)) h_l46) ?_; refine zA hL hT [] (by cbv) ?_ ?_; exact zt; refine ⟨l46, z21, (ar .add .i64 z22 1), h, Weak.of _ [(0, 0), (1, 1), (2, 2), (3, 108198)] hA (by cbv) ?_⟩
   repeat first|exact hq0|refine hq (by first|exact Tt|rfl) ?_
  have h := if_f c23 h; refine zG ?_; refine ⟨z20, z21, z22, h, Weak.of _ [(0, 0), (1, 2), (2, 3)] hA (by cbv) ?_⟩
  repeat first|exact hq0|refine hq (by first|exact Tt|rfl) ?_
 intro y1 y2 y3 h; rw [h_K4] at h; refine zB (zB ?_); refine zA hL hT [] (by cbv) hq0 ?_; refine zC (by cbv) hq0 (fun c47 => ?_) (fun c47 => ?_)
 ·
  have h := if_t c47 h; obtain ⟨⟨qDc, qtS⟩, h_r48, h⟩ := bnd h; obtain ⟨l49, h_l49, h⟩ := bnd h; obtain ⟨l50, h_l50, h⟩ := bnd h; refine zA hL hT [(2, .call [false] [.ag [.jk, .jk]] [.ag [.s (.int .i64 qDc), .ow 3 (qB qtS)]])] (by cbv) ?_ ?_; exact hq Tt (hq (hC (qdF h_r48)) (hq (qGD (P := Tryz.prog) (f := Row_o) RLe.r (qLB (f := Row_o) h_l49 (RLe.cons rfl LLe.r RLe.nil)) h_l50) hq0)); refine Run.row (rows := (ap (qP y1) ([[.s (.int .i64 qDc), .ow 3 (qB qtS)]]))) 104100 (qP l50) (by cbv) (qFD (f := Row_o) RLe.r (qLB (f := Row_o) h_l49 (RLe.cons rfl LLe.r RLe.nil)) h_l50) ?_
  refine zB ?_; refine zA hL hT [] (by cbv) hq0 ?_; refine zD ?_
  cases h
  refine ⟨_, _, by cbv, ?_, ?_⟩; exact LLe.c (LLe.c (LLe.c (LLe.c (LLe.c (LLe.c (LLe.c (LLe.c (LLe.c (LLe.cons LLe.jk (LLe.c (LLe.c LLe.nil))))))))))); exact ALe.v LLe.r ALe.nil
 have h := if_f c47 h; refine zE (zB ?_); refine zA hL hT [] (by cbv) hq0 ?_; refine zD ?_
 cases h
 refine ⟨_, _, by cbv, ?_, ?_⟩; exact LLe.c (LLe.c (LLe.c (LLe.c (LLe.c (LLe.c (LLe.c (LLe.c (LLe.c (LLe.cons LLe.jk (LLe.c (LLe.c LLe.nil))))))))))); exact ALe.v LLe.r ALe.nil
theorem qVQ {qQ : List Int} {qOB : Int} {qFB : List (List Row)} {qo : Int} {qO : List Cond} {qp : Int} {qJB : Bool} {qq : Int} {qDB : List Int} {qM : Bool} {qL qc : Int} {r : (List Row)} (h : qLD.f (Store.mk (Schema.mk qQ) qOB qFB) (Query.mk qo qO qp qJB qq qDB qM qL qc) = some r) : AC Tryz.prog 17 [.ag [.im false (rowsOf Int_c qQ), .s (.int .i64 qOB), .im false (rowsOf quC qFB)], .ag [.s (.int .i64 qo), .im false (rowsOf qR qO), .s (.int .i64 qp), .s (.bool qJB), .s (.int .i64 qq), .im false (rowsOf Int_c qDB), .s (.bool qM), .s (.int .i64 qL), .s (.int .i64 qc)]] [.ag [.jk, .jk, .jk], .ag [.jk, .jk, .jk, .jk, .jk, .jk, .jk, .jk, .jk]] [.v (.ow 56 (rowsOf Row_o r))] := by
 unfold qLD.f at h; let qE := rowsOf qR; let qB := rowsOf Int_c; let qjC := rowsOf quC; let qT := rowsOf Row_i; let qP := rowsOf Row_o; let qS := @lenI Row
 show AC _ _ [.ag [.im false (qB qQ), .s (.int .i64 qOB), .im false (qjC qFB)], .ag [.s (.int .i64 qo), .im false (qE qO), .s (.int .i64 qp), .s (.bool qJB), .s (.int .i64 qq), .im false (qB qDB), .s (.bool qM), .s (.int .i64 qL), .s (.int .i64 qc)]] _ _
 refine run3 Tryz.func17 (by rfl) (by rfl) (by cbv) ⟨by decide, rfl⟩ ?_; intro ar cm bo sc sa sx ss sl bs sb ln sr ap up rp fr ge le lt nz mm ma sm fl al ci hL F hP hA hT hM hC; refine zB ?_; refine zA hL hT [] (by cbv) hq0 ?_; refine zB ?_; refine zA hL hT [] (by cbv) hq0 ?_; refine zB (zB ?_); obtain ⟨r1, h_r1, h⟩ := bnd h; obtain ⟨r2, h_r2, h⟩ := bnd h; refine zA hL hT [(1, .call [false] [.ag [.jk, .jk, .jk]] [.v (.s (.bool r1))]), (7, .call [false, false] [.ag [.jk], .ag [.jk, .jk, .jk, .jk, .jk, .jk, .jk, .jk, .jk]] [.v (.s (.bool r2))])] (by cbv) ?_ ?_
 exact hq Tt (hq (hC (qiK h_r1)) (hq zn (hq (fun g4 => (hq g4 zt)) (hq (fun g5 => zt) (hq (fun g6 => (hq g6 (hq g6 (hq (hC (qMI (gd_t h_r2 g6))) hq0)))) (hq (fun g7 => (hq g7 hq0)) (hq zn (hq (fun q9 => (hq (bo_m q9) hq0)) hq0)))))))); refine zC (by cbv) hq0 (fun c10 => ?_) (fun c10 => ?_)
 ·
  have h := if_t c10 h; refine zB ?_; refine zA hL hT [] (by cbv) hq0 ?_; refine zD ?_
  cases h
  refine ⟨_, _, by cbv, ?_, ?_⟩; exact LLe.r; exact ALe.v LLe.r ALe.nil
 have h := if_f c10 h; refine zE (zB ?_); obtain ⟨x11, h_x11, h⟩ := bnd h; refine zA hL hT [(4, .el [.im false (qT x11)])] (by cbv) ?_ ?_; exact hq Tt (hq Tt (hq (qJ h_x11) (hq (qa (f := quC) h_x11) (hq (qk (f := quC) h_x11) hq0)))); refine zB (zB ?_); refine zA hL hT [] (by cbv) hq0 ?_; refine Run.block ?_; refine zJ (fun (z24 : List Row) (z25 : Int) => ⟨46, 100000, [(3, .pt 1 0 0), (5, .rf 2), (6, .t (.im false (qT x11))), (7, .t (.s (.int .i64 z25)))], [(1, .box 32 [.t (.s (.int .i64 qo)), .t (.im false (qE qO)), .t (.s (.int .i64 qp)), .t (.s (.bool qJB)), .t (.s (.int .i64 qq)), .t (.im false (qB qDB)), .t (.s (.bool qM)), .t (.s (.int .i64 qL)), .t (.s (.int .i64 qc))]), (2, .row 0 56 2 (qP z24))]⟩) (x0 := []) (x1 := 0) h (Weak.of _ [(1, 1), (2, 4096)] hA (by cbv) ?_) (fun _ _ => rfl) ?_
 · repeat first|exact hq0|refine hq (by first|exact Tt|rfl) ?_
 intro k z24 z25 h; rw [qLD.l0] at h; refine zB (zB ?_); refine zA hL hT [] (by cbv) ?_ ?_; exact zt; rw [show ln (qT x11) = qS x11 from ln_eq Row_i _]; refine zC (by cbv) hq0 (fun c26 => ?_) (fun c26 => ?_)
 ·
  have h := if_t c26 h; refine zE (zB ?_); refine Run.block ?_; refine zB ?_; obtain ⟨⟨qEc, quS⟩, h_x27, h⟩ := bnd h; obtain ⟨r28, h_r28, h⟩ := bnd h; refine zF hL hT hM [(3, .el [.s (.int .i64 qEc), .im false (qB quS)]), (5, .call [false, false] [.ag [.jk, .jk, .jk, .jk, .jk, .jk, .jk, .jk, .jk], .ag [.jk, .jk]] [.v (.s (.bool r28))])] (by cbv) (by cbv) (by cbv) (by cbv) (by cbv) ?_ ?_; exact hq Tt (hq (qJ h_x27) (hq (qa (f := Row_i) h_x27) (hq (qk (f := Row_i) h_x27) (hq (hC (qjK h_r28)) hq0))))
  refine zC (by cbv) hq0 (fun c29 => ?_) (fun c29 => ?_)
  ·
   have h := if_t c29 h; obtain ⟨r30, h_r30, h⟩ := bnd h; refine zF hL hT hM [(4, .el [.s (.int .i64 qEc), .im false (qB quS)]), (6, .call [false, true, false] [.ag [.jk, .jk, .jk, .jk, .jk, .jk, .jk, .jk, .jk], .v (.jk), .ag [.jk, .jk]] [.v (.ow 56 (qP r30))])] (by cbv) (by cbv) (by cbv) (by cbv) (by cbv) ?_ ?_; exact hq Tt (hq (qJ h_x27) (hq (qa (f := Row_i) h_x27) (hq (qk (f := Row_i) h_x27) (hq (hC (qhR h_r30)) hq0))))
   refine zA hL hT [] (by cbv) ?_ ?_; exact zt; refine ⟨r30, (ar .add .i64 z25 1), h, Weak.of _ [(1, 1), (2, 108198)] hA (by cbv) ?_⟩
   repeat first|exact hq0|refine hq (by first|exact Tt|rfl) ?_
  have h := if_f c29 h; refine zE ?_; refine zA hL hT [] (by cbv) ?_ ?_; exact zt; refine ⟨z24, (ar .add .i64 z25 1), h, Weak.of _ [(1, 1), (2, 2)] hA (by cbv) ?_⟩
  repeat first|exact hq0|refine hq (by first|exact Tt|rfl) ?_
 have h := if_f c26 h; refine zG (zB ?_); refine zA hL hT [] (by cbv) hq0 ?_; refine zD ?_
 cases h
 refine ⟨_, _, by cbv, ?_, ?_⟩; exact LLe.r; exact ALe.v LLe.r ALe.nil
theorem qcL {qw : Int} {qi : List Cond} {qx : Int} {qMB : Bool} {qy : Int} {qEB : List Int} {qU : Bool} {qN qh : Int} {r : Query} (h : qVG.f (Query.mk qw qi qx qMB qy qEB qU qN qh) = some r) : AC Tryz.prog 73 [.ag [.s (.int .i64 qw), .im false (rowsOf qR qi), .s (.int .i64 qx), .s (.bool qMB), .s (.int .i64 qy), .im false (rowsOf Int_c qEB), .s (.bool qU), .s (.int .i64 qN), .s (.int .i64 qh)]] [.ag [.jk, .jk, .jk, .jk, .jk, .jk, .jk, .jk, .jk]] [.ag [.s (.int .i64 r.Table), .ow 98 (rowsOf qR r.Where), .s (.int .i64 r.Order), .s (.bool r.Down), .s (.int .i64 r.First), .ow 3 (rowsOf Int_c r.Show), .s (.bool r.Kids), .s (.int .i64 r.KidTable), .s (.int .i64 r.KidCol)]] := by
 unfold qVG.f at h; let qE := rowsOf qR; let qB := rowsOf Int_c
 show AC _ _ [.ag [.s (.int .i64 qw), .im false (qE qi), .s (.int .i64 qx), .s (.bool qMB), .s (.int .i64 qy), .im false (qB qEB), .s (.bool qU), .s (.int .i64 qN), .s (.int .i64 qh)]] _ _
 refine run3 Tryz.func73 (by rfl) (by rfl) (by cbv) ⟨by decide, rfl⟩ ?_; intro ar cm bo sc sa sx ss sl bs sb ln sr ap up rp fr ge le lt nz mm ma sm fl al ci hL F hP hA hT hM hC; refine zB ?_; refine zA hL hT [] (by cbv) hq0 ?_; refine zB ?_; obtain ⟨l1, h_l1, h⟩ := bnd h; refine zA hL hT [] (by cbv) ?_ ?_; exact hq Tt (hq (qNO qDY _) (hq (qGD (P := Tryz.prog) (f := qR) RLe.r RLe.r h_l1) zt)); refine Run.row (rows := (ap ([]) ((qE qi)))) 4099 (qE l1) (by cbv) (qFD (f := qR) RLe.r RLe.r h_l1) ?_
 refine zB ?_; obtain ⟨l2, h_l2, h⟩ := bnd h; refine zA hL hT [] (by cbv) ?_ ?_; exact hq Tt (hq (qNO qsT _) (hq (qGD (P := Tryz.prog) (f := Int_c) RLe.r RLe.r h_l2) zt)); refine Run.row (rows := (ap ([]) ((qB qEB)))) 8195 (qB l2) (by cbv) (qFD (f := Int_c) RLe.r RLe.r h_l2) ?_; refine zB ?_; refine zA hL hT [] (by cbv) ?_ ?_; exact hq Tt zt; refine zD ?_
 cases h
 refine ⟨_, _, by cbv, ?_, ?_⟩; exact LLe.r; exact ALe.ag rfl LLe.r ALe.nil
theorem qiR {a0 : List Kid} {a1 a2 : Int} {r : (List Kid)} (h : qeC.f a0 a1 a2 = some r) : AC Tryz.prog 74 [.v (.im false (rowsOf Kid_c a0)), .v (.s (.int .i64 a1)), .v (.s (.int .i64 a2))] [.v (.jk), .v (.jk), .v (.jk)] [.v (.ow 109 (rowsOf Kid_c r))] := by
 unfold qeC.f at h; let qe := rowsOf Kid_c; let qMC := @lenI Kid
 show AC _ _ [.v (.im false (qe a0)), .v (.s (.int .i64 a1)), .v (.s (.int .i64 a2))] _ _
 refine run3 Tryz.func74 (by rfl) (by rfl) (by cbv) ⟨by decide, rfl⟩ ?_; intro ar cm bo sc sa sx ss sl bs sb ln sr ap up rp fr ge le lt nz mm ma sm fl al ci hL F hP hA hT hM hC; refine zB ?_; refine zA hL hT [] (by cbv) hq0 ?_; refine zB ?_; refine zA hL hT [] (by cbv) hq0 ?_; refine zB ?_; refine zA hL hT [] (by cbv) hq0 ?_; obtain ⟨K3, h_K3, h⟩ := joinE h; refine zM K3 (r := r) (fun (y1 : List Kid) (y2 : Bool) => ⟨69, 100000, [(1, .t (.s (.int .i64 a1))), (2, .t (.s (.int .i64 a2))), (7, .rf 1), (8, .t (.s (.bool y2)))], [(1, .row 0 109 2 (qe y1))]⟩) ?_ ?_
 ·
  skip
  refine zB ?_; refine zA hL hT [] (by cbv) hq0 ?_; refine Run.block ?_; refine zL (fun (z10 : List Kid) (z11 : Bool) (z12 : Int) => ⟨69, 100000, [(0, .t (.im false (qe a0))), (1, .t (.s (.int .i64 a1))), (2, .t (.s (.int .i64 a2))), (7, .rf 1), (8, .t (.s (.bool z11))), (9, .t (.s (.int .i64 z12)))], [(1, .row 0 109 2 (qe z10))]⟩) (x0 := []) (x1 := false) (x2 := 0) h (Weak.of _ [(1, 4096)] hA (by cbv) ?_) (fun _ _ _ => rfl) ?_
  · repeat first|exact hq0|refine hq (by first|exact Tt|rfl) ?_
  intro k z10 z11 z12 h; rw [qeC.l0] at h; refine zB (zB ?_); refine zA hL hT [] (by cbv) ?_ ?_; exact zt; rw [show ln (qe a0) = qMC a0 from ln_eq Kid_c _]; refine zC (by cbv) hq0 (fun c13 => ?_) (fun c13 => ?_)
  ·
   have h := if_t c13 h; refine zE (zB ?_); refine Run.block ?_; refine zB ?_; obtain ⟨⟨qWQ, qvS⟩, h_x14, h⟩ := bnd h; refine zA hL hT [(2, .el [.s (.int .i64 qWQ), .s (.int .i64 qvS)])] (by cbv) ?_ ?_; exact hq (qJ h_x14) (hq (qa (f := Kid_c) h_x14) (hq (qk (f := Kid_c) h_x14) zt)); refine zB (zB ?_); refine zA hL hT [] (by cbv) ?_ ?_; exact hq zn (hq (fun g16 => (hq g16 zt)) (hq zn (hq (fun g18 => (hq g18 (hq g18 zt))) (hq (fun q19 => (hq q19 hq0)) (hq zn hq0)))))
   refine zC (by cbv) hq0 (fun c21 => ?_) (fun c21 => ?_)
   ·
    have h := if_t c21 h; refine zB ?_; refine zA hL hT [] (by cbv) hq0 ?_; obtain ⟨K23, h_K23, h⟩ := joinE h; refine zI K23 (r := r) (fun (y22 : Int) => ⟨69, 100000, [(0, .t (.im false (qe a0))), (1, .t (.s (.int .i64 a1))), (2, .t (.s (.int .i64 a2))), (7, .rf 1), (9, .t (.s (.int .i64 z12))), (10, .pt 2 0 0), (11, .t (.s (.int .i64 y22)))], [(1, .row 0 109 2 (qe z10)), (2, .box 109 [.t (.s (.int .i64 qWQ)), .t (.s (.int .i64 qvS))])]⟩) ?_ ?_
    ·
     skip
     refine zB ?_; refine zA hL hT [] (by cbv) ?_ ?_; exact hq Tt zt; refine zC (by cbv) hq0 (fun c24 => ?_) (fun c24 => ?_)
     ·
      have h := if_t c24 h; refine zA hL hT [] (by cbv) ?_ ?_; exact hq Tt zt; refine ⟨(ar .add .i64 qvS a2), h, Weak.of _ [(1, 1), (2, 104100)] hA (by cbv) ?_⟩
      repeat first|exact hq0|refine hq (by first|exact Tt|rfl) ?_
     have h := if_f c24 h; refine zE ?_; refine ⟨a2, h, Weak.of _ [(1, 1), (2, 104100)] hA (by cbv) ?_⟩
     repeat first|exact hq0|refine hq (by first|exact Tt|rfl) ?_
    intro y22 h; rw [h_K23] at h; obtain ⟨K26, h_K26, h⟩ := joinE h; refine zI K26 (r := r) (fun (y25 : List Kid) => ⟨69, 100000, [(0, .t (.im false (qe a0))), (1, .t (.s (.int .i64 a1))), (2, .t (.s (.int .i64 a2))), (7, .rf 1), (9, .t (.s (.int .i64 z12))), (10, .pt 2 0 0)], [(1, .row 0 109 2 (qe y25)), (2, .box 109 [.t (.s (.int .i64 qWQ)), .t (.s (.int .i64 qvS))])]⟩) ?_ ?_
    ·
     skip
     refine zB ?_; refine zA hL hT [] (by cbv) ?_ ?_; exact zt; refine zC (by cbv) hq0 (fun c27 => ?_) (fun c27 => ?_)
     ·
      have h := if_t c27 h; obtain ⟨l28, h_l28, h⟩ := bnd h; obtain ⟨l29, h_l29, h⟩ := bnd h; refine zA hL hT [] (by cbv) ?_ ?_; exact hq (qGD (P := Tryz.prog) (f := Kid_c) RLe.r (qLB (f := Kid_c) h_l28 (RLe.cons rfl LLe.r RLe.nil)) h_l29) hq0; refine ⟨l29, h, (Weak.row (rows := (ap (qe z10) ([[.s (.int .i64 a1), .s (.int .i64 y22)]]))) 104101 (qe l29) (by cbv) (qFD (f := Kid_c) RLe.r (qLB (f := Kid_c) h_l28 (RLe.cons rfl LLe.r RLe.nil)) h_l29)).trans (Weak.of _ [(1, 104101), (2, 2)] hA (by cbv) ?_)⟩
      repeat first|exact hq0|refine hq (by first|exact Tt|rfl) ?_
     have h := if_f c27 h; refine zE ?_; refine ⟨z10, h, Weak.of _ [(1, 1), (2, 2)] hA (by cbv) ?_⟩
     repeat first|exact hq0|refine hq (by first|exact Tt|rfl) ?_
    intro y25 h; rw [h_K26] at h; refine zB ?_; refine zA hL hT [] (by cbv) hq0 ?_; refine zB ?_; refine zA hL hT [] (by cbv) ?_ ?_; exact hq Tt zt; refine zC (by cbv) hq0 (fun c30 => ?_) (fun c30 => ?_)
    ·
     have h := if_t c30 h; refine zG ?_; refine zA hL hT [] (by cbv) ?_ ?_; exact zt; refine ⟨y25, true, (ar .add .i64 z12 1), h, Weak.of _ [(1, 1)] hA (by cbv) ?_⟩
     repeat first|exact hq0|refine hq (by first|exact Tt|rfl) ?_
    have h := if_f c30 h; refine zE ?_; obtain ⟨l31, h_l31, h⟩ := bnd h; obtain ⟨l32, h_l32, h⟩ := bnd h; refine zA hL hT [] (by cbv) ?_ ?_; exact hq Tt (hq (qGD (P := Tryz.prog) (f := Kid_c) RLe.r (qLB (f := Kid_c) h_l31 (RLe.cons rfl LLe.r RLe.nil)) h_l32) hq0); refine Run.row (rows := (ap (qe y25) ([[.s (.int .i64 qWQ), .s (.int .i64 qvS)]]))) 108195 (qe l32) (by cbv) (qFD (f := Kid_c) RLe.r (qLB (f := Kid_c) h_l31 (RLe.cons rfl LLe.r RLe.nil)) h_l32) ?_
    refine zA hL hT [] (by cbv) ?_ ?_; exact zt; refine ⟨l32, true, (ar .add .i64 z12 1), h, Weak.of _ [(1, 108195)] hA (by cbv) ?_⟩
    repeat first|exact hq0|refine hq (by first|exact Tt|rfl) ?_
   have h := if_f c21 h; refine zE ?_; obtain ⟨l33, h_l33, h⟩ := bnd h; obtain ⟨l34, h_l34, h⟩ := bnd h; refine zA hL hT [] (by cbv) ?_ ?_; exact hq Tt (hq (qGD (P := Tryz.prog) (f := Kid_c) RLe.r (qLB (f := Kid_c) h_l33 (RLe.cons rfl LLe.r RLe.nil)) h_l34) hq0); refine Run.row (rows := (ap (qe z10) ([[.s (.int .i64 qWQ), .s (.int .i64 qvS)]]))) 112291 (qe l34) (by cbv) (qFD (f := Kid_c) RLe.r (qLB (f := Kid_c) h_l33 (RLe.cons rfl LLe.r RLe.nil)) h_l34) ?_
   refine zA hL hT [] (by cbv) ?_ ?_; exact zt; refine ⟨l34, z11, (ar .add .i64 z12 1), h, Weak.of _ [(1, 112291)] hA (by cbv) ?_⟩
   repeat first|exact hq0|refine hq (by first|exact Tt|rfl) ?_
  have h := if_f c13 h; refine zG ?_; refine ⟨z10, z11, h, Weak.of _ [(1, 1)] hA (by cbv) ?_⟩
  repeat first|exact hq0|refine hq (by first|exact Tt|rfl) ?_
 intro y1 y2 h; rw [h_K3] at h; refine zB (zB ?_); refine zA hL hT [] (by cbv) ?_ ?_; exact hq zn (hq (fun g36 => (hq g36 zt)) (hq (fun q37 => (hq q37 hq0)) (hq zn hq0))); refine zC (by cbv) hq0 (fun c39 => ?_) (fun c39 => ?_)
 ·
  have h := if_t c39 h; obtain ⟨l40, h_l40, h⟩ := bnd h; obtain ⟨l41, h_l41, h⟩ := bnd h; refine zA hL hT [] (by cbv) ?_ ?_; exact hq (qGD (P := Tryz.prog) (f := Kid_c) RLe.r (qLB (f := Kid_c) h_l40 (RLe.cons rfl LLe.r RLe.nil)) h_l41) hq0; refine Run.row (rows := (ap (qe y1) ([[.s (.int .i64 a1), .s (.int .i64 a2)]]))) 104101 (qe l41) (by cbv) (qFD (f := Kid_c) RLe.r (qLB (f := Kid_c) h_l40 (RLe.cons rfl LLe.r RLe.nil)) h_l41) ?_
  refine zB ?_; refine zA hL hT [] (by cbv) hq0 ?_; refine zD ?_
  cases h
  refine ⟨_, _, by cbv, ?_, ?_⟩; exact LLe.r; exact ALe.v LLe.r ALe.nil
 have h := if_f c39 h; refine zE (zB ?_); refine zA hL hT [] (by cbv) hq0 ?_; refine zD ?_
 cases h
 refine ⟨_, _, by cbv, ?_, ?_⟩; exact LLe.r; exact ALe.v LLe.r ALe.nil
theorem qdL {qQ : List Int} {qOB : Int} {qFB : List (List Row)} {qo : Int} {qO : List Cond} {qp : Int} {qJB : Bool} {qq : Int} {qDB : List Int} {qM : Bool} {qL qc : Int} {r : View × Bool} (h : qVD.f (Store.mk (Schema.mk qQ) qOB qFB) (Query.mk qo qO qp qJB qq qDB qM qL qc) = some r) : AC Tryz.prog 28 [.ag [.im false (rowsOf Int_c qQ), .s (.int .i64 qOB), .im false (rowsOf quC qFB)], .ag [.s (.int .i64 qo), .im false (rowsOf qR qO), .s (.int .i64 qp), .s (.bool qJB), .s (.int .i64 qq), .im false (rowsOf Int_c qDB), .s (.bool qM), .s (.int .i64 qL), .s (.int .i64 qc)]] [.ag [.jk, .jk, .jk], .ag [.jk, .jk, .jk, .jk, .jk, .jk, .jk, .jk, .jk]] [.ag [.s (.int .i64 r.1.Q.Table), .ow 98 (rowsOf qR r.1.Q.Where), .s (.int .i64 r.1.Q.Order), .s (.bool r.1.Q.Down), .s (.int .i64 r.1.Q.First), .ow 3 (rowsOf Int_c r.1.Q.Show), .s (.bool r.1.Q.Kids), .s (.int .i64 r.1.Q.KidTable), .s (.int .i64 r.1.Q.KidCol), .ow 56 (rowsOf Row_o r.1.Rows), .ow 109 (rowsOf Kid_c r.1.Kids)], .v (.s (.bool r.2))] := by
 unfold qVD.f at h; let qE := rowsOf qR; let qB := rowsOf Int_c; let qe := rowsOf Kid_c; let qjC := rowsOf quC; let qT := rowsOf Row_i; let qP := rowsOf Row_o; let qS := @lenI Row
 show AC _ _ [.ag [.im false (qB qQ), .s (.int .i64 qOB), .im false (qjC qFB)], .ag [.s (.int .i64 qo), .im false (qE qO), .s (.int .i64 qp), .s (.bool qJB), .s (.int .i64 qq), .im false (qB qDB), .s (.bool qM), .s (.int .i64 qL), .s (.int .i64 qc)]] _ _
 refine run3 Tryz.func28 (by rfl) (by rfl) (by cbv) ⟨by decide, rfl⟩ ?_; intro ar cm bo sc sa sx ss sl bs sb ln sr ap up rp fr ge le lt nz mm ma sm fl al ci hL F hP hA hT hM hC; refine zB ?_; refine zA hL hT [] (by cbv) hq0 ?_; refine zB (zB ?_); obtain ⟨r1, h_r1, h⟩ := bnd h; obtain ⟨r2, h_r2, h⟩ := bnd h; refine zA hL hT [(1, .call [false] [.ag [.jk, .jk, .jk]] [.v (.s (.bool r1))]), (7, .call [false, false] [.ag [.jk], .ag [.jk, .jk, .jk, .jk, .jk, .jk, .jk, .jk, .jk]] [.v (.s (.bool r2))])] (by cbv) ?_ ?_
 exact hq Tt (hq (hC (qiK h_r1)) (hq zn (hq (fun g4 => (hq g4 zt)) (hq (fun g5 => zt) (hq (fun g6 => (hq g6 (hq g6 (hq (hC (qMI (gd_t h_r2 g6))) hq0)))) (hq (fun g7 => (hq g7 hq0)) (hq zn (hq (fun q9 => (hq (bo_m q9) hq0)) hq0)))))))); refine zC (by cbv) hq0 (fun c10 => ?_) (fun c10 => ?_)
 ·
  have h := if_t c10 h; refine zB ?_; refine zA hL hT [] (by cbv) ?_ ?_; exact zt; refine zD ?_
  cases h
  refine ⟨_, _, by cbv, ?_, ?_⟩; exact LLe.r; exact ALe.ag rfl (LLe.c (LLe.cons zK (LLe.c (LLe.c (LLe.c (LLe.cons zK (LLe.c (LLe.c (LLe.c (LLe.cons zK (LLe.cons zK LLe.nil))))))))))) (ALe.v LLe.r ALe.nil)
 have h := if_f c10 h; refine zE (zB ?_); obtain ⟨⟨qcG, qWJ, qdG, qKI, qeG, qhK, qLI, qgE, qnF⟩, h_r11, h⟩ := bnd h; obtain ⟨r12, h_r12, h⟩ := bnd h; refine zF hL hT hM [(1, .call [false] [.ag [.jk, .jk, .jk, .jk, .jk, .jk, .jk, .jk, .jk]] [.ag [.s (.int .i64 qcG), .ow 98 (qE qWJ), .s (.int .i64 qdG), .s (.bool qKI), .s (.int .i64 qeG), .ow 3 (qB qhK), .s (.bool qLI), .s (.int .i64 qgE), .s (.int .i64 qnF)]]), (4, .call [false, false] [.ag [.jk, .jk, .jk], .ag [.jk, .jk, .jk, .jk, .jk, .jk, .jk, .jk, .jk]] [.v (.ow 56 (qP r12))])] (by cbv) (by cbv) (by cbv) (by cbv) (by cbv) ?_ ?_
 exact hq Tt (hq (hC (qcL h_r11)) (hq Tt (hq Tt (hq (hC (qVQ h_r12)) zt)))); refine zB ?_; obtain ⟨x13, h_x13, h⟩ := bnd h; refine zA hL hT [(4, .el [.im false (qT x13)])] (by cbv) ?_ ?_; exact hq Tt (hq Tt (hq (qJ h_x13) (hq (qa (f := quC) h_x13) (hq (qk (f := quC) h_x13) hq0)))); refine zB (zB ?_); refine zA hL hT [] (by cbv) hq0 ?_; refine Run.block ?_; refine zJ (fun (z71 : List Kid) (z72 : Int) => ⟨56, 100000, [(3, .pt 1 0 0), (4, .pt 2 0 0), (6, .pt 3 0 0), (7, .t (.im false (qT x13))), (8, .t (.s (.int .i64 z72)))], [(1, .box 32 [.t (.s (.int .i64 qo)), .t (.im false (qE qO)), .t (.s (.int .i64 qp)), .t (.s (.bool qJB)), .t (.s (.int .i64 qq)), .t (.im false (qB qDB)), .t (.s (.bool qM)), .t (.s (.int .i64 qL)), .t (.s (.int .i64 qc))]), (2, .box 63 [.t (.s (.int .i64 0)), .t (.s (.slice none 0 0)), .t (.s (.int .i64 0)), .t (.s (.bool false)), .t (.s (.int .i64 0)), .t (.s (.slice none 0 0)), .t (.s (.bool false)), .t (.s (.int .i64 0)), .t (.s (.int .i64 0)), .t (.s (.slice none 0 0)), .t (.s (.slice none 0 0))]), (3, .box 63 [.t (.s (.int .i64 qcG)), .rf 4, .t (.s (.int .i64 qdG)), .t (.s (.bool qKI)), .t (.s (.int .i64 qeG)), .rf 5, .t (.s (.bool qLI)), .t (.s (.int .i64 qgE)), .t (.s (.int .i64 qnF)), .rf 6, .rf 7]), (4, .row 0 98 3 (qE qWJ)), (5, .row 0 3 1 (qB qhK)), (6, .row 0 56 2 (qP r12)), (7, .row 0 109 2 (qe z71))]⟩) (x0 := []) (x1 := 0) h ((Weak.nilB (l := [.t (.s (.int .i64 qcG)), .rf 8193, .t (.s (.int .i64 qdG)), .t (.s (.bool qKI)), .t (.s (.int .i64 qeG)), .rf 8449, .t (.s (.bool qLI)), .t (.s (.int .i64 qgE)), .t (.s (.int .i64 qnF)), .rf 8196]) hT 8198 10 21480 109 rfl (by cbv) (by cbv) (by cbv)).trans (Weak.of _ [(1, 1), (2, 2), (3, 8198), (4, 8193), (5, 8449), (6, 8196), (7, 21480)] hA (by cbv) ?_)) (fun _ _ => rfl) ?_
 · repeat first|exact hq0|refine hq (by first|exact Tt|rfl) ?_
 intro k z71 z72 h; rw [qVD.l0] at h; refine zB (zB ?_); refine zA hL hT [] (by cbv) ?_ ?_; exact hq Tt (hq zn (hq (fun g74 => (by have g74C := g74; rw [show ln (qT x13) = qS x13 from ln_eq Row_i _] at g74C; exact (hq g74 zt))) (hq (fun q75 => (by have q75C := q75; rw [show ln (qT x13) = qS x13 from ln_eq Row_i _] at q75C; exact (hq q75 hq0))) (hq zn hq0)))); rw [show ln (qT x13) = qS x13 from ln_eq Row_i _]
 refine zC (by cbv) hq0 (fun c77 => ?_) (fun c77 => ?_)
 ·
  have h := if_t c77 h; refine zE (zB ?_); refine Run.block ?_; obtain ⟨⟨qFX, qaZ⟩, h_x78, h⟩ := bnd h; obtain ⟨x79, h_x79, h⟩ := bnd h; obtain ⟨r80, h_r80, h⟩ := bnd h; refine zF hL hT hM [(4, .el [.s (.int .i64 qFX), .im false (qB qaZ)]), (9, .el [.s (.int .i64 x79)]), (11, .call [false, false, false] [.v (.jk), .v (.jk), .v (.jk)] [.v (.ow 109 (qe r80))])] (by cbv) (by cbv) (by cbv) (by cbv) (by cbv) ?_ ?_
  exact hq Tt (hq (qJ h_x78) (hq (qa (f := Row_i) h_x78) (hq (qk (f := Row_i) h_x78) (hq Tt (hq (qJ h_x79) (hq (qa (f := Int_c) h_x79) (hq (qk (f := Int_c) h_x79) (hq (hC (AC.args (qiR h_r80) (ALe.v (LLe.im (RLe.eq (qz qGF _))) (ALe.v LLe.r (ALe.v LLe.r ALe.nil))))) zt)))))))); refine zA hL hT [] (by cbv) ?_ ?_; exact zt; refine ⟨r80, (ar .add .i64 z72 1), h, Weak.of _ [(1, 1), (2, 2), (3, 3), (4, 4), (5, 5), (6, 6), (7, 104107)] hA (by cbv) ?_⟩
  repeat first|exact hq0|refine hq (by first|exact Tt|rfl) ?_
 have h := if_f c77 h; refine zG (zB ?_); refine zA hL hT [] (by cbv) ?_ ?_; exact hq Tt zt; refine zD ?_
 cases h
 refine ⟨_, _, by cbv, ?_, ?_⟩; exact LLe.r; exact ALe.ag rfl LLe.r (ALe.v LLe.r ALe.nil)
theorem qXQ {qtD : Int} {qQB : List Int} {a1 : Int} {r : Bool} (h : qiI.f (Row.mk qtD qQB) a1 = some r) : AC Tryz.prog 134 [.ag [.s (.int .i64 qtD), .im false (rowsOf Int_c qQB)], .v (.ip [.s (.int .i64 a1)])] [.ag [.jk, .jk], .v (.jk)] [.v (.s (.bool r))] := by
 unfold qiI.f at h; let qB := rowsOf Int_c
 show AC _ _ [.ag [.s (.int .i64 qtD), .im false (qB qQB)], .v (.ip [.s (.int .i64 a1)])] _ _
 refine run3 Tryz.func134 (by rfl) (by rfl) (by cbv) ⟨by decide, rfl⟩ ?_; intro ar cm bo sc sa sx ss sl bs sb ln sr ap up rp fr ge le lt nz mm ma sm fl al ci hL F hP hA hT hM hC; refine zB ?_; refine zA hL hT [] (by cbv) hq0 ?_; refine zB ?_; refine zA hL hT [] (by cbv) ?_ ?_; exact hq Tt zt; refine zD ?_
 cases h
 refine ⟨_, _, by cbv, ?_, ?_⟩; exact LLe.r; exact ALe.v LLe.r ALe.nil
theorem qpE {a0 : List Row} {a1c0 r : Int} (h : qZ.f a0 a1c0 = some r) : AC Tryz.prog 133 [.v (.im false (rowsOf Row_i a0)), .v (.fn 134 [.ip [.s (.int .i64 a1c0)]])] [.v (.jk), .v (.jk)] [.v (.s (.int .i64 r))] := by
 unfold qZ.f at h; let qB := rowsOf Int_c; let qT := rowsOf Row_i; let qS := @lenI Row
 show AC _ _ [.v (.im false (qT a0)), .v (.fn 134 [.ip [.s (.int .i64 a1c0)]])] _ _
 refine run3 Tryz.func133 (by rfl) (by rfl) (by cbv) ⟨by decide, rfl⟩ ?_; intro ar cm bo sc sa sx ss sl bs sb ln sr ap up rp fr ge le lt nz mm ma sm fl al ci hL F hP hA hT hM hC; refine Run.weak ?_ (Weak.fnT 1 (by cbv)); refine zB ?_; refine zA hL hT [] (by cbv) hq0 ?_; refine zB (zB ?_); refine zA hL hT [] (by cbv) hq0 ?_; rw [show ln (qT a0) = qS a0 from ln_eq Row_i _]; refine Run.block ?_
 refine zH (fun (z5 : Int) => ⟨19, 100000, [(0, .t (.im false (qT a0))), (1, .fn 134 [.t (.ip [.s (.int .i64 a1c0)])]), (7, .t (.s (.int .i64 (qS a0)))), (8, .t (.s (.int .i64 z5)))], []⟩) (x0 := 0) h (Weak.of _ [] hA (by cbv) ?_) (fun _ => rfl) ?_
 · repeat first|exact hq0|refine hq (by first|exact Tt|rfl) ?_
 intro k z5 h; rw [qZ.l0] at h; refine zB ?_; refine zA hL hT [] (by cbv) ?_ ?_; exact zt; refine zB ?_; refine zC (by cbv) hq0 (fun c6 => ?_) (fun c6 => ?_)
 ·
  have h := if_t c6 h; refine zE (zB ?_); refine Run.block ?_; refine zB ?_; refine zA hL hT [] (by cbv) hq0 ?_; refine zB ?_; obtain ⟨⟨qAW, qYQ⟩, h_x7, h⟩ := bnd h; obtain ⟨r8, h_r8, h⟩ := bnd h; refine zA hL hT [(3, .el [.s (.int .i64 qAW), .im false (qB qYQ)]), (5, .call [false] [.ag [.jk, .jk], .v (.jk)] [.v (.s (.bool r8))])] (by cbv) ?_ ?_; exact hq (qJ h_x7) (hq (qa (f := Row_i) h_x7) (hq (qk (f := Row_i) h_x7) (hq (hC (qXQ h_r8)) hq0)))
  refine zC (by cbv) hq0 (fun c9 => ?_) (fun c9 => ?_)
  ·
   have h := if_t c9 h; refine zB ?_; refine zA hL hT [] (by cbv) hq0 ?_; refine zD ?_
   cases h
   refine ⟨_, _, by cbv, ?_, ?_⟩; exact LLe.r; exact ALe.v LLe.r ALe.nil
  have h := if_f c9 h; refine zE ?_; refine zA hL hT [] (by cbv) ?_ ?_; exact zt; refine ⟨(ar .add .i64 z5 1), h, Weak.of _ [] hA (by cbv) ?_⟩
  repeat first|exact hq0|refine hq (by first|exact Tt|rfl) ?_
 have h := if_f c6 h; refine zG (zB ?_); refine zA hL hT [] (by cbv) hq0 ?_; refine zD ?_
 cases h
 refine ⟨_, _, by cbv, ?_, ?_⟩; exact LLe.r; exact ALe.v LLe.r ALe.nil
theorem qSU {a0 : List Row} {a1 r : Int} (h : qPJ.f a0 a1 = some r) : AC Tryz.prog 76 [.v (.im false (rowsOf Row_i a0)), .v (.s (.int .i64 a1))] [.v (.jk), .v (.jk)] [.v (.s (.int .i64 r))] := by
 unfold qPJ.f at h; let qT := rowsOf Row_i
 show AC _ _ [.v (.im false (qT a0)), .v (.s (.int .i64 a1))] _ _
 refine run3 Tryz.func76 (by rfl) (by rfl) (by cbv) ⟨by decide, rfl⟩ ?_; intro ar cm bo sc sa sx ss sl bs sb ln sr ap up rp fr ge le lt nz mm ma sm fl al ci hL F hP hA hT hM hC; refine zB ?_; refine zA hL hT [] (by cbv) hq0 ?_; refine zB ?_; obtain ⟨r1, h_r1, h⟩ := bnd h; refine zA hL hT [(2, .call [false, false] [.v (.jk), .v (.jk)] [.v (.s (.int .i64 r1))])] (by cbv) ?_ ?_; exact hq (hC (qpE h_r1)) hq0
 refine zD ?_
 cases h
 refine ⟨_, _, by cbv, ?_, ?_⟩; exact LLe.r; exact ALe.v LLe.r ALe.nil
end Go.Proofs.YtbhleignjmcdiaaGreatDoor.L