/- The contracts of the program's functions. -/
import Derived.Test.YtbhleignjmcdiaaGreatDoorProg
import Derived.Test.YtbhleignjmcdiaaGreatDoorFnAnswerC1
import Derived.KernelRfl
namespace Go.Proofs.YtbhleignjmcdiaaGreatDoor.L
open Go Go.Proofs
set_option linter.unusedVariables false
set_option linter.unusedSimpArgs false
set_option maxRecDepth 8000
theorem qPL (self : Json → Int → Option Int) (hself : ∀ {qO : Int} {a0v_N : Int} {a0v_S : ByteArray} {qD : List Json} {qF : List ByteArray} {a1 : Int} {r : Int} (h : self (Json.mk qO a0v_N a0v_S qD qF) a1 = some r), AC Tryz.prog 166 [.ag [.s (.int .i64 qO), .s (.int .i64 a0v_N), .s (.string a0v_S), .im false (rowsOf ql qD), .im false (rowsOf Str_c qF)], .v (.s (.int .i64 a1))] [.ag [.jk, .jk, .jk, .jk, .jk], .v (.jk)] [.v (.s (.int .i64 r))]) {qO : Int} {a0v_N : Int} {a0v_S : ByteArray} {qD : List Json} {qF : List ByteArray} {a1 : Int} {r : Int} (h : qSB.b self (Json.mk qO a0v_N a0v_S qD qF) a1 = some r) : AC Tryz.prog 166 [.ag [.s (.int .i64 qO), .s (.int .i64 a0v_N), .s (.string a0v_S), .im false (rowsOf ql qD), .im false (rowsOf Str_c qF)], .v (.s (.int .i64 a1))] [.ag [.jk, .jk, .jk, .jk, .jk], .v (.jk)] [.v (.s (.int .i64 r))] := by
 unfold qSB.b at h
 let qj := rowsOf ql
 let qR := rowsOf Str_c
 let qV := @lenI Json
 show AC Tryz.prog 166 [.ag [.s (.int .i64 qO), .s (.int .i64 a0v_N), .s (.string a0v_S), .im false (qj qD), .im false (qR qF)], .v (.s (.int .i64 a1))] _ _
 refine run3 Tryz.func166 (by rfl) (by rfl) (by cbv) ⟨by decide, rfl⟩ ?_
 intro ar cm bo sc sa sx ss sl bs sb ln sr ap up rp fr ge le lt nz mm ma sm fl al ci hL F hP hA hT hM hC
 refine Run.seq ?_
 refine Run.region hL hT [] (by cbv) hq0 ?_
 refine Run.seq ?_
 refine Run.region hL hT [] (by cbv) hq0 ?_
 refine Run.seq ?_
 refine Run.seq ?_
 refine Run.region hL hT [] (by cbv) ?_ ?_
 · exact (hq Tt hq0)
 refine Run.cond (by cbv) (hq0) (fun c1 => ?_) (fun c1 => ?_)
 ·
  have h := if_t c1 h
  refine Run.seq ?_
  refine Run.region hL hT [] (by cbv) hq0 ?_
  refine Run.ret ?_
  cases h
  refine ⟨_, _, by cbv, ?_, ?_⟩
  · exact LLe.r
  exact (ALe.v LLe.r ALe.nil)
 have h := if_f c1 h
 refine Run.skip ?_
 refine Run.seq ?_
 refine Run.region hL hT [] (by cbv) hq0 ?_
 obtain ⟨K3, h_K3, h⟩ := joinE h
 refine Run.join1 K3 (r := r) (fun (y2 : Int) => ⟨106, 100000, [(2, .pt 1 0 0), (5, .t (.s (.int .i64 401))), (6, .t (.s (.int .i64 y2)))], [(1, .box 46 [.t (.s (.int .i64 qO)), .t (.s (.int .i64 a0v_N)), .t (.s (.string a0v_S)), .t (.im false (qj qD)), .t (.im false (qR qF))])]⟩) ?_ ?_
 ·
  skip
  refine Run.seq ?_
  refine Run.region hL hT [] (by cbv) ?_ ?_
  · exact (hq Tt hq0)
  refine Run.block ?_
  refine Run.seq ?_
  refine Run.region hL hT [] (by cbv) ?_ ?_
  · exact (hq Tt hq0)
  refine Run.cond (by cbv) (hq0) (fun c4 => ?_) (fun c4 => ?_)
  ·
   have h := if_t c4 h
   refine Run.seq ?_
   refine Run.region hL hT [] (by cbv) ?_ ?_
   · exact (hq Tt (hq Tt hq0))
   refine Run.cond (by cbv) (hq0) (fun c5 => ?_) (fun c5 => ?_)
   ·
    have h := if_t c5 h
    refine Run.seq ?_
    refine Run.region hL hT [] (by cbv) hq0 ?_
    refine Run.ret ?_
    cases h
    refine ⟨_, _, by cbv, ?_, ?_⟩
    · exact LLe.r
    exact (ALe.v LLe.r ALe.nil)
   have h := if_f c5 h
   refine Run.skip ?_
   refine ⟨1, h, Weak.of _ [(1, 0)] hA (by cbv) ?_⟩
   repeat (first | exact hq0 | refine hq (by first | exact Tt | rfl) ?_)
  have h := if_f c4 h
  refine Run.seq ?_
  refine Run.region hL hT [] (by cbv) ?_ ?_
  · exact (hq Tt hq0)
  refine Run.cond (by cbv) (hq0) (fun c6 => ?_) (fun c6 => ?_)
  ·
   have h := if_t c6 h
   refine Run.seq ?_
   obtain ⟨r7, h_r7, h⟩ := bnd h
   refine Run.region hL hT [(2, .call [false, false, false] [.v (.jk), .v (.jk), .v (.jk)] [.v (.s (.bool r7))])] (by cbv) ?_ ?_
   · exact (hq Tt (hq (hC (qfB h_r7)) hq0))
   refine Run.cond (by cbv) (hq0) (fun c8 => ?_) (fun c8 => ?_)
   ·
    have h := if_t c8 h
    refine Run.seq ?_
    refine Run.region hL hT [] (by cbv) hq0 ?_
    refine Run.ret ?_
    cases h
    refine ⟨_, _, by cbv, ?_, ?_⟩
    · exact LLe.r
    exact (ALe.v LLe.r ALe.nil)
   have h := if_f c8 h
   refine Run.skip ?_
   refine ⟨1, h, Weak.of _ [(1, 0)] hA (by cbv) ?_⟩
   repeat (first | exact hq0 | refine hq (by first | exact Tt | rfl) ?_)
  have h := if_f c6 h
  refine Run.seq ?_
  refine Run.region hL hT [] (by cbv) ?_ ?_
  · exact (hq Tt hq0)
  refine Run.cond (by cbv) (hq0) (fun c9 => ?_) (fun c9 => ?_)
  ·
   have h := if_t c9 h
   refine Run.seq ?_
   obtain ⟨r10, h_r10, h⟩ := bnd h
   refine Run.region hL hT [(2, .call [false, false, false] [.v (.jk), .v (.jk), .v (.jk)] [.v (.s (.bool r10))])] (by cbv) ?_ ?_
   · exact (hq Tt (hq (hC (qfB h_r10)) hq0))
   refine Run.cond (by cbv) (hq0) (fun c11 => ?_) (fun c11 => ?_)
   ·
    have h := if_t c11 h
    refine Run.seq ?_
    refine Run.region hL hT [] (by cbv) hq0 ?_
    refine Run.ret ?_
    cases h
    refine ⟨_, _, by cbv, ?_, ?_⟩
    · exact LLe.r
    exact (ALe.v LLe.r ALe.nil)
   have h := if_f c11 h
   refine Run.skip ?_
   refine ⟨1, h, Weak.of _ [(1, 0)] hA (by cbv) ?_⟩
   repeat (first | exact hq0 | refine hq (by first | exact Tt | rfl) ?_)
  have h := if_f c9 h
  refine Run.seq ?_
  refine Run.region hL hT [] (by cbv) ?_ ?_
  · exact (hq Tt hq0)
  refine Run.cond (by cbv) (hq0) (fun c12 => ?_) (fun c12 => ?_)
  ·
   have h := if_t c12 h
   refine Run.seq ?_
   obtain ⟨r13, h_r13, h⟩ := bnd h
   refine Run.region hL hT [(2, .call [false] [.v (.jk)] [.v (.s (.bool r13))])] (by cbv) ?_ ?_
   · exact (hq Tt (hq (hC (qpI h_r13)) hq0))
   refine Run.cond (by cbv) (hq0) (fun c14 => ?_) (fun c14 => ?_)
   ·
    have h := if_t c14 h
    refine Run.seq ?_
    refine Run.region hL hT [] (by cbv) hq0 ?_
    refine Run.ret ?_
    cases h
    refine ⟨_, _, by cbv, ?_, ?_⟩
    · exact LLe.r
    exact (ALe.v LLe.r ALe.nil)
   have h := if_f c14 h
   refine Run.skip ?_
   refine ⟨1, h, Weak.of _ [(1, 0)] hA (by cbv) ?_⟩
   repeat (first | exact hq0 | refine hq (by first | exact Tt | rfl) ?_)
  have h := if_f c12 h
  obtain ⟨K16, h_K16, h⟩ := joinE h
  refine Run.join1 K16 (r := r) (fun (y15 : Bool) => ⟨106, 100000, [(1, .t (.s (.int .i64 a1))), (2, .pt 1 0 0), (5, .t (.s (.int .i64 401))), (6, .t (.s (.int .i64 1))), (41, .t (.s (.bool y15)))], [(1, .box 46 [.t (.s (.int .i64 qO)), .t (.s (.int .i64 a0v_N)), .t (.s (.string a0v_S)), .t (.im false (qj qD)), .t (.im false (qR qF))])]⟩) ?_ ?_
  ·
   skip
   refine Run.seq ?_
   refine Run.region hL hT [] (by cbv) ?_ ?_
   · exact (hq Tt hq0)
   refine Run.cond (by cbv) (hq0) (fun c17 => ?_) (fun c17 => ?_)
   ·
    have h := if_t c17 h
    refine Run.skip ?_
    refine ⟨(cm .eql qO 4), h, Weak.of _ [(1, 0)] hA (by cbv) ?_⟩
    repeat (first | exact hq0 | refine hq (by first | exact Tt | rfl) ?_)
   have h := if_f c17 h
   refine Run.region hL hT [] (by cbv) ?_ ?_
   · exact (hq Tt hq0)
   refine ⟨(cm .eql qO 5), h, Weak.of _ [(1, 0)] hA (by cbv) ?_⟩
   repeat (first | exact hq0 | refine hq (by first | exact Tt | rfl) ?_)
  intro y15 h
  rw [h_K16] at h
  refine Run.cond (by cbv) (hq0) (fun c18 => ?_) (fun c18 => ?_)
  ·
   have h := if_t c18 h
   refine Run.seq ?_
   refine Run.region hL hT [] (by cbv) hq0 ?_
   refine Run.block ?_
   refine Run.loop2 (fun (z28 : Int) (z29 : Int) => ⟨106, 100000, [(1, .t (.s (.int .i64 a1))), (2, .pt 1 0 0), (5, .t (.s (.int .i64 401))), (6, .t (.s (.int .i64 z28))), (7, .t (.s (.int .i64 z29)))], [(1, .box 46 [.t (.s (.int .i64 qO)), .t (.s (.int .i64 a0v_N)), .t (.s (.string a0v_S)), .t (.im false (qj qD)), .t (.im false (qR qF))])]⟩) (x0 := 1) (x1 := 0) h (Weak.of _ [(1, 1)] hA (by cbv) ?_) (fun _ _ => rfl) ?_
   · repeat (first | exact hq0 | refine hq (by first | exact Tt | rfl) ?_)
   intro k z28 z29 h
   rw [qSB.l0] at h
   refine Run.seq ?_
   refine Run.seq ?_
   refine Run.region hL hT [] (by cbv) ?_ ?_
   · exact (hq Tt (hq Tt (hq (fun _ => hq0) (hq (fun g31 => (by have g31C := g31; rw [show ln (qj qD) = qV qD from ln_eq ql _] at g31C; exact (hq g31 (hq Tt hq0)))) (hq (fun q32 => (by have q32C := q32; rw [show ln (qj qD) = qV qD from ln_eq ql _] at q32C; exact (hq q32 hq0))) (hq (fun _ => hq0) hq0))))))
   rw [show ln (qj qD) = qV qD from ln_eq ql _]
   refine Run.cond (by cbv) (hq0) (fun c34 => ?_) (fun c34 => ?_)
   ·
    have h := if_t c34 h
    refine Run.skip ?_
    refine Run.seq ?_
    refine Run.block ?_
    obtain ⟨⟨qoX, qVc, qWc, qHV, qIV⟩, h_x35, h⟩ := bnd h
    obtain ⟨r36, h_r36, h⟩ := bnd h
    refine Run.region hL hT [(4, .el [.s (.int .i64 qoX), .s (.int .i64 qVc), .s (.string qWc), .im false (qj qHV), .im false (qR qIV)]), (8, .call [false, false] [.ag [.jk, .jk, .jk, .jk, .jk], .v (.jk)] [.v (.s (.int .i64 r36))])] (by cbv) ?_ ?_
    · exact (hq Tt (hq (qP h_x35) (hq (qe (f := ql) h_x35) (hq (qzH qcE h_x35) (hq Tt (hq (hC (hself h_r36)) (hq Tt hq0)))))))
    refine Run.region hL hT [] (by cbv) ?_ ?_
    · exact (hq Tt hq0)
    refine ⟨(ar .add .i64 z28 r36), (ar .add .i64 z29 1), h, Weak.of _ [(1, 1)] hA (by cbv) ?_⟩
    repeat (first | exact hq0 | refine hq (by first | exact Tt | rfl) ?_)
   have h := if_f c34 h
   refine Run.exit ?_
   refine ⟨z28, h, Weak.of _ [(1, 1)] hA (by cbv) ?_⟩
   repeat (first | exact hq0 | refine hq (by first | exact Tt | rfl) ?_)
  have h := if_f c18 h
  refine Run.seq ?_
  refine Run.region hL hT [] (by cbv) hq0 ?_
  refine Run.ret ?_
  cases h
  refine ⟨_, _, by cbv, ?_, ?_⟩
  · exact LLe.r
  exact (ALe.v LLe.r ALe.nil)
 intro y2 h
 rw [h_K3] at h
 refine Run.seq ?_
 refine Run.seq ?_
 obtain ⟨r37, h_r37, h⟩ := bnd h
 refine Run.region hL hT [(36, .call [false] [.ag [.jk, .jk, .jk, .jk, .jk]] [.v (.s (.bool r37))])] (by cbv) ?_ ?_
 · exact (hq Tt (hq Tt (hq (fun _ => hq0) (hq (fun g39 => (hq g39 (hq Tt hq0))) (hq (fun g40 => (hq g40 hq0)) (hq (fun q41 => (hq q41 hq0)) (hq (fun _ => hq0) (hq (fun _ => hq0) (hq (fun g44 => (hq g44 (hq Tt hq0))) (hq (fun g45 => (hq g45 (hq Tt hq0))) (hq (fun g46 => (hq g46 hq0)) (hq (fun _ => hq0) (hq (fun g48 => (hq g48 (hq Tt hq0))) (hq (fun g49 => (hq g49 (hq Tt hq0))) (hq (fun g50 => (hq g50 (hq (fun _ => hq0) (hq (fun q52 => (hq (bo_a g50 (bo_m q52)) hq0)) hq0)))) (hq (fun g53 => (hq g53 hq0)) (hq (fun _ => hq0) (hq (fun g55 => (hq g55 (hq Tt hq0))) (hq (fun g56 => (hq g56 (hq Tt hq0))) (hq (fun g57 => (hq g57 (hq (fun q58 => (hq (bo_a g57 q58) hq0)) (hq (fun _ => hq0) hq0)))) (hq (fun _ => hq0) (hq (fun q61 => (hq (bo_m q61) hq0)) (hq (fun _ => hq0) (hq (fun g63 => (hq g63 (hq Tt hq0))) (hq (fun g64 => (hq g64 (hq Tt hq0))) (hq (fun g65 => (hq g65 hq0)) (hq (fun _ => hq0) (hq (fun g67 => (hq g67 (hq Tt hq0))) (hq (fun g68 => (hq g68 hq0)) (hq (fun g69 => (hq g69 (hq Tt hq0))) (hq (fun g70 => (hq g70 (hq (fun q71 => (hq (bo_a g70 q71) hq0)) (hq (fun _ => hq0) hq0)))) (hq (fun _ => hq0) (hq (fun q74 => (hq (bo_m q74) hq0)) (hq (fun g75 => (by have g75C := g75; rw [show ln (qj qD) = qV qD from ln_eq ql _] at g75C; exact (hq Tt hq0))) (hq (fun g76 => (by have g76C := g76; rw [show ln (qj qD) = qV qD from ln_eq ql _] at g76C; exact (hq g76 (hq (hC (qBN (gd_t h_r37 g76C))) hq0)))) (hq (fun g77 => (by have g77C := g77; rw [show ln (qj qD) = qV qD from ln_eq ql _] at g77C; exact (hq g77 hq0))) (hq (fun _ => hq0) (hq (fun q79 => (by have q79C := q79; rw [show ln (qj qD) = qV qD from ln_eq ql _] at q79C; exact (hq (bo_m q79) hq0))) hq0))))))))))))))))))))))))))))))))))))))
 rw [show ln (qj qD) = qV qD from ln_eq ql _]
 refine Run.cond (by cbv) (hq0) (fun c80 => ?_) (fun c80 => ?_)
 ·
  have h := if_t c80 h
  refine Run.seq ?_
  refine Run.region hL hT [] (by cbv) hq0 ?_
  refine Run.ret ?_
  cases h
  refine ⟨_, _, by cbv, ?_, ?_⟩
  · exact LLe.r
  exact (ALe.v LLe.r ALe.nil)
 have h := if_f c80 h
 refine Run.skip ?_
 refine Run.seq ?_
 refine Run.region hL hT [] (by cbv) hq0 ?_
 refine Run.ret ?_
 cases h
 refine ⟨_, _, by cbv, ?_, ?_⟩
 · exact LLe.r
 exact (ALe.v LLe.r ALe.nil)
theorem qoH : ∀ (k : Nat) {qO : Int} {a0v_N : Int} {a0v_S : ByteArray} {qD : List Json} {qF : List ByteArray} {a1 : Int} {r : Int} (h : qSB.g k (Json.mk qO a0v_N a0v_S qD qF) a1 = some r), AC Tryz.prog 166 [.ag [.s (.int .i64 qO), .s (.int .i64 a0v_N), .s (.string a0v_S), .im false (rowsOf ql qD), .im false (rowsOf Str_c qF)], .v (.s (.int .i64 a1))] [.ag [.jk, .jk, .jk, .jk, .jk], .v (.jk)] [.v (.s (.int .i64 r))]
 | 0 => fun h => by cases h
 | k + 1 => fun h => qPL (qSB.g k) (qoH k) h
theorem qCN {qO : Int} {a0v_N : Int} {a0v_S : ByteArray} {qD : List Json} {qF : List ByteArray} {a1 : Int} {r : Int} (h : qSB.f (Json.mk qO a0v_N a0v_S qD qF) a1 = some r) : AC Tryz.prog 166 [.ag [.s (.int .i64 qO), .s (.int .i64 a0v_N), .s (.string a0v_S), .im false (rowsOf ql qD), .im false (rowsOf Str_c qF)], .v (.s (.int .i64 a1))] [.ag [.jk, .jk, .jk, .jk, .jk], .v (.jk)] [.v (.s (.int .i64 r))] := qoH 20 h
theorem qpN {qO : Int} {a0v_N : Int} {a0v_S : ByteArray} {qD : List Json} {qF : List ByteArray} {r : Bool} (h : qJG.f (Json.mk qO a0v_N a0v_S qD qF) = some r) : AC Tryz.prog 155 [.ag [.s (.int .i64 qO), .s (.int .i64 a0v_N), .s (.string a0v_S), .im false (rowsOf ql qD), .im false (rowsOf Str_c qF)]] [.ag [.jk, .jk, .jk, .jk, .jk]] [.v (.s (.bool r))] := by
 unfold qJG.f at h
 let qj := rowsOf ql
 let qR := rowsOf Str_c
 show AC Tryz.prog 155 [.ag [.s (.int .i64 qO), .s (.int .i64 a0v_N), .s (.string a0v_S), .im false (qj qD), .im false (qR qF)]] _ _
 refine run3 Tryz.func155 (by rfl) (by rfl) (by cbv) ⟨by decide, rfl⟩ ?_
 intro ar cm bo sc sa sx ss sl bs sb ln sr ap up rp fr ge le lt nz mm ma sm fl al ci hL F hP hA hT hM hC
 refine Run.seq ?_
 refine Run.region hL hT [] (by cbv) hq0 ?_
 refine Run.seq ?_
 obtain ⟨r1, h_r1, h⟩ := bnd h
 refine Run.region hL hT [(1, .call [false, false] [.ag [.jk, .jk, .jk, .jk, .jk], .v (.jk)] [.v (.s (.int .i64 r1))])] (by cbv) ?_ ?_
 · exact (hq Tt (hq (hC (qCN h_r1)) (hq Tt hq0)))
 refine Run.ret ?_
 cases h
 refine ⟨_, _, by cbv, ?_, ?_⟩
 · exact LLe.r
 exact (ALe.v LLe.r ALe.nil)
theorem qLJ {qO : Int} {a0v_N : Int} {a0v_S : ByteArray} {qD : List Json} {qF : List ByteArray} {r : Json} (h : qqD.f (Json.mk qO a0v_N a0v_S qD qF) = some r) : AC Tryz.prog 127 [.ag [.s (.int .i64 qO), .s (.int .i64 a0v_N), .s (.string a0v_S), .ow 46 (rowsOf qVC qD), .ow 9 (rowsOf Str_c qF)]] [.ag [.jk, .jk, .jk, .jk, .jk]] [.ag [.s (.int .i64 r.Kind), .s (.int .i64 r.N), .s (.string r.S), .im true (rowsOf qVC r.List_), .im true (rowsOf Str_c r.Names)]] := by
 unfold qqD.f at h
 let qj := rowsOf ql
 let qWB := rowsOf qVC
 let qR := rowsOf Str_c
 show AC Tryz.prog 127 [.ag [.s (.int .i64 qO), .s (.int .i64 a0v_N), .s (.string a0v_S), .ow 46 (qWB qD), .ow 9 (qR qF)]] _ _
 refine run3 Tryz.func127 (by rfl) (by rfl) (by cbv) ⟨by decide, rfl⟩ ?_
 intro ar cm bo sc sa sx ss sl bs sb ln sr ap up rp fr ge le lt nz mm ma sm fl al ci hL F hP hA hT hM hC
 refine Run.seq ?_
 refine Run.region hL hT [] (by cbv) hq0 ?_
 refine Run.seq ?_
 refine Run.seq ?_
 obtain ⟨r1, h_r1, h⟩ := bnd h
 refine Run.region hL hT [(1, .call [false] [.ag [.jk, .jk, .jk, .jk, .jk]] [.v (.s (.bool r1))])] (by cbv) ?_ ?_
 · exact (hq Tt (hq (hC (AC.args (qpN h_r1) (ALe.ag rfl (LLe.c (LLe.c (LLe.c (LLe.cons (LLe.im (qZR _)) (LLe.cons (LLe.im (RLe.eq (qAC qnF _))) LLe.nil))))) ALe.nil))) hq0))
 refine Run.cond (by cbv) (hq0) (fun c2 => ?_) (fun c2 => ?_)
 ·
  have h := if_t c2 h
  refine Run.seq ?_
  refine Run.region hL hT [] (by cbv) ?_ ?_
  · exact (hq Tt hq0)
  refine Run.ret ?_
  cases h
  refine ⟨_, _, by cbv, ?_, ?_⟩
  · exact (LLe.c (LLe.c (LLe.c (LLe.cons LLe.jk (LLe.cons LLe.jk LLe.nil)))))
  exact (ALe.ag rfl (LLe.c (LLe.c (LLe.c (LLe.cons LLe.nilI (LLe.cons LLe.nilI LLe.nil))))) ALe.nil)
 have h := if_f c2 h
 refine Run.skip ?_
 refine Run.seq ?_
 refine Run.region hL hT [] (by cbv) ?_ ?_
 · exact (hq Tt (hq Tt hq0))
 refine Run.weak ?_ (Weak.keepL (rows := qWB qD) 0 (by cbv) (qWB qD) (qmJ _))
 refine Run.weak ?_ (Weak.keep (rows := qR qF) 1 (by cbv) (qR qF) (qAC qnF _))
 refine Run.ret ?_
 cases h
 refine ⟨_, _, by cbv, ?_, ?_⟩
 · exact LLe.r
 exact (ALe.ag rfl LLe.r ALe.nil)
theorem qRQ {qg : Int} {qa : List Cond} {qh : Int} {qCB : Bool} {qi : Int} {qp : List Int} {qDB : Bool} {qM : Int} {qY : Int} {a1 : List Row} {a2 : List Int} {r : Json} (h : qCD.f (Query.mk qg qa qh qCB qi qp qDB qM qY) a1 a2 = some r) : AC Tryz.prog 63 [.ag [.s (.int .i64 qg), .im false (rowsOf qy qa), .s (.int .i64 qh), .s (.bool qCB), .s (.int .i64 qi), .im false (rowsOf Int_c qp), .s (.bool qDB), .s (.int .i64 qM), .s (.int .i64 qY)], .v (.im false (rowsOf Row_i a1)), .v (.im false (rowsOf Int_c a2))] [.ag [.jk, .jk, .jk, .jk, .jk, .jk, .jk, .jk, .jk], .v (.jk), .v (.jk)] [.ag [.s (.int .i64 r.Kind), .s (.int .i64 r.N), .s (.string r.S), .im true (rowsOf qVC r.List_), .im true (rowsOf Str_c r.Names)]] := by
 unfold qCD.f at h
 let qK := rowsOf qy
 let qB := rowsOf Int_c
 let qWB := rowsOf qVC
 let qXB := rowsOf qnB
 let qZB := rowsOf Row_i
 let qR := rowsOf Str_c
 let qZ := @lenI Int
 let qS := @lenI Row
 show AC Tryz.prog 63 [.ag [.s (.int .i64 qg), .im false (qK qa), .s (.int .i64 qh), .s (.bool qCB), .s (.int .i64 qi), .im false (qB qp), .s (.bool qDB), .s (.int .i64 qM), .s (.int .i64 qY)], .v (.im false (qZB a1)), .v (.im false (qB a2))] _ _
 refine run3 Tryz.func63 (by rfl) (by rfl) (by cbv) ⟨by decide, rfl⟩ ?_
 intro ar cm bo sc sa sx ss sl bs sb ln sr ap up rp fr ge le lt nz mm ma sm fl al ci hL F hP hA hT hM hC
 refine Run.seq ?_
 refine Run.region hL hT [] (by cbv) hq0 ?_
 refine Run.seq ?_
 refine Run.region hL hT [] (by cbv) ?_ ?_
 · exact (hq Tt hq0)
 obtain ⟨K2, h_K2, h⟩ := joinE h
 refine Run.join1 K2 (r := r) (fun (y1 : List Json) => ⟨47, 100000, [(1, .t (.im false (qZB a1))), (6, .pt 1 0 0), (7, .pt 2 0 0)], [(1, .box 46 [.t (.s (.int .i64 0)), .t (.s (.int .i64 0)), .t (.s (.string ByteArray.empty)), .t (.s (.slice none 0 0)), .t (.s (.slice none 0 0))]), (2, .box 46 [.t (.s (.int .i64 4)), .t (.s (.int .i64 0)), .t (.s (.string ByteArray.empty)), .rf 3, .t (.s (.slice none 0 0))]), (3, .row 0 46 5 (qWB y1))]⟩) ?_ ?_
 ·
  skip
  refine Run.seq ?_
  refine Run.region hL hT [] (by cbv) hq0 ?_
  refine Run.block ?_
  refine Run.loop2 (fun (z40 : List Json) (z41 : Int) => ⟨47, 100000, [(1, .t (.im false (qZB a1))), (2, .t (.im false (qB a2))), (3, .pt 1 0 0), (6, .pt 2 0 0), (7, .pt 3 0 0), (8, .t (.s (.int .i64 z41)))], [(1, .box 32 [.t (.s (.int .i64 qg)), .t (.im false (qK qa)), .t (.s (.int .i64 qh)), .t (.s (.bool qCB)), .t (.s (.int .i64 qi)), .t (.im false (qB qp)), .t (.s (.bool qDB)), .t (.s (.int .i64 qM)), .t (.s (.int .i64 qY))]), (2, .box 46 [.t (.s (.int .i64 0)), .t (.s (.int .i64 0)), .t (.s (.string ByteArray.empty)), .t (.s (.slice none 0 0)), .t (.s (.slice none 0 0))]), (3, .box 46 [.t (.s (.int .i64 4)), .t (.s (.int .i64 0)), .t (.s (.string ByteArray.empty)), .rf 4, .t (.s (.slice none 0 0))]), (4, .row 0 46 5 (qWB z40))]⟩) (x0 := []) (x1 := 0) h ((Weak.nilB (l := [.t (.s (.int .i64 4)), .t (.s (.int .i64 0)), .t (.s (.string ByteArray.empty))]) hT 4097 3 13288 46 rfl (by cbv) (by cbv) (by cbv)).trans (Weak.of _ [(1, 0), (2, 1), (3, 4097), (4, 13288)] hA (by cbv) ?_)) (fun _ _ => rfl) ?_
  · repeat (first | exact hq0 | refine hq (by first | exact Tt | rfl) ?_)
  intro k z40 z41 h
  rw [qCD.l0] at h
  refine Run.seq ?_
  refine Run.seq ?_
  obtain ⟨r42, h_r42, h⟩ := bnd h
  refine Run.region hL hT [(4, .call [false, false] [.ag [.jk, .jk, .jk, .jk, .jk, .jk, .jk, .jk, .jk], .v (.jk)] [.v (.s (.int .i64 r42))])] (by cbv) ?_ ?_
  · exact (hq Tt (hq (by rw [show ln (qZB a1) = qS a1 from ln_eq Row_i _]; exact (hC (qNL h_r42))) (hq Tt hq0)))
  rw [show ln (qZB a1) = qS a1 from ln_eq Row_i _]
  refine Run.cond (by cbv) (hq0) (fun c43 => ?_) (fun c43 => ?_)
  ·
   have h := if_t c43 h
   refine Run.skip ?_
   refine Run.seq ?_
   refine Run.block ?_
   refine Run.seq ?_
   refine Run.region hL hT [] (by cbv) hq0 ?_
   obtain ⟨K45, h_K45, h⟩ := joinE h
   refine Run.join1 K45 (r := r) (fun (y44 : Int) => ⟨47, 100000, [(1, .t (.im false (qZB a1))), (2, .t (.im false (qB a2))), (3, .pt 1 0 0), (6, .pt 2 0 0), (7, .pt 3 0 0), (8, .t (.s (.int .i64 z41))), (9, .t (.s (.int .i64 y44)))], [(1, .box 32 [.t (.s (.int .i64 qg)), .t (.im false (qK qa)), .t (.s (.int .i64 qh)), .t (.s (.bool qCB)), .t (.s (.int .i64 qi)), .t (.im false (qB qp)), .t (.s (.bool qDB)), .t (.s (.int .i64 qM)), .t (.s (.int .i64 qY))]), (2, .box 46 [.t (.s (.int .i64 0)), .t (.s (.int .i64 0)), .t (.s (.string ByteArray.empty)), .t (.s (.slice none 0 0)), .t (.s (.slice none 0 0))]), (3, .box 46 [.t (.s (.int .i64 4)), .t (.s (.int .i64 0)), .t (.s (.string ByteArray.empty)), .rf 4, .t (.s (.slice none 0 0))]), (4, .row 0 46 5 (qWB z40))]⟩) ?_ ?_
   ·
    skip
    refine Run.seq ?_
    refine Run.region hL hT [] (by cbv) ?_ ?_
    · exact (hq Tt hq0)
    rw [show ln (qB a2) = qZ a2 from ln_eq Int_c _]
    refine Run.cond (by cbv) (hq0) (fun c46 => ?_) (fun c46 => ?_)
    ·
     have h := if_t c46 h
     obtain ⟨x47, h_x47, h⟩ := bnd h
     refine Run.region hL hT [(2, .el [.s (.int .i64 x47)])] (by cbv) ?_ ?_
     · exact (hq (qP h_x47) (hq (qe (f := Int_c) h_x47) (hq (qw (f := Int_c) h_x47) hq0)))
     refine ⟨x47, h, Weak.of _ [(1, 1), (2, 2), (3, 3), (4, 4)] hA (by cbv) ?_⟩
     repeat (first | exact hq0 | refine hq (by first | exact Tt | rfl) ?_)
    have h := if_f c46 h
    refine Run.skip ?_
    refine ⟨0, h, Weak.of _ [(1, 1), (2, 2), (3, 3), (4, 4)] hA (by cbv) ?_⟩
    repeat (first | exact hq0 | refine hq (by first | exact Tt | rfl) ?_)
   intro y44 h
   rw [h_K45] at h
   obtain ⟨⟨qoa, qJV⟩, h_x48, h⟩ := bnd h
   obtain ⟨⟨qqJ, qhT, qiT, qaI, qbI⟩, h_r49, h⟩ := bnd h
   obtain ⟨l50, h_l50, h⟩ := bnd h
   obtain ⟨l51, h_l51, h⟩ := bnd h
   refine Run.draw hL hT hM [(5, .el [.s (.int .i64 qoa), .im false (qB qJV)]), (8, .call [false, false, false] [.ag [.jk, .jk, .jk, .jk, .jk, .jk, .jk, .jk, .jk], .ag [.jk, .jk], .v (.jk)] [.ag [.s (.int .i64 qqJ), .s (.int .i64 qhT), .s (.string qiT), .im true (qWB qaI), .im true (qR qbI)]])] (by cbv) (by cbv) (by cbv) (by cbv) (by cbv) ?_ ?_
   · exact (hq Tt (hq Tt (hq (qP h_x48) (hq (qe (f := Row_i) h_x48) (hq (qw (f := Row_i) h_x48) (hq (hC (qoN h_r49)) (hq (qnC (P := Tryz.prog) (f := qVC) RLe.r (qeD qYD h_l50 (RLe.cons rfl LLe.r RLe.nil)) h_l51) (hq Tt hq0))))))))
   refine Run.row (rows := (ap (qWB z40) ([[.s (.int .i64 qqJ), .s (.int .i64 qhT), .s (.string qiT), .im true (qWB qaI), .im true (qR qbI)]]))) 100010 (qWB l51) (by cbv) (qmC (f := qVC) RLe.r (qeD qYD h_l50 (RLe.cons rfl LLe.r RLe.nil)) h_l51) ?_
   refine Run.region hL hT [] (by cbv) ?_ ?_
   · exact (hq Tt hq0)
   refine ⟨l51, (ar .add .i64 z41 1), h, Weak.of _ [(1, 1), (2, 2), (3, 3), (4, 100010)] hA (by cbv) ?_⟩
   repeat (first | exact hq0 | refine hq (by first | exact Tt | rfl) ?_)
  have h := if_f c43 h
  refine Run.exit ?_
  refine ⟨z40, h, Weak.of _ [(1, 2), (2, 3), (3, 4)] hA (by cbv) ?_⟩
  repeat (first | exact hq0 | refine hq (by first | exact Tt | rfl) ?_)
 intro y1 h
 rw [h_K2] at h
 refine Run.seq ?_
 refine Run.weak ?_ (Weak.keepL (rows := qWB y1) 3 (by cbv) (qWB y1) (qmJ _))
 obtain ⟨l52, h_l52, h⟩ := bnd h
 obtain ⟨⟨qpX, qXc, qYc, qKV, qLV⟩, h_r53, h⟩ := bnd h
 obtain ⟨l54, h_l54, h⟩ := bnd h
 obtain ⟨⟨qqX, qZc, qac, qMV, qNV⟩, h_r55, h⟩ := bnd h
 refine Run.draw hL hT hM [(3, .call [false] [.v (.jk)] [.ag [.s (.int .i64 qpX), .s (.int .i64 qXc), .s (.string qYc), .im true (qWB qKV), .im true (qR qLV)]]), (7, .call [true] [.ag [.jk, .jk, .jk, .jk, .jk]] [.ag [.s (.int .i64 qqX), .s (.int .i64 qZc), .s (.string qac), .im true (qWB qMV), .im true (qR qNV)]])] (by cbv) (by cbv) (by cbv) (by cbv) (by cbv) ?_ ?_
 · exact (hq (by rw [show ln (qZB a1) = qS a1 from ln_eq Row_i _]; exact (hC (qWF h_r53))) (hq Tt (hq (hC (AC.args (qLJ h_r55) (ALe.ag rfl (LLe.c (LLe.c (LLe.c (LLe.cons (LLe.ow (qeD qYD h_l54 (RLe.cons rfl LLe.r (RLe.cons rfl (LLe.c (LLe.c (LLe.c (LLe.c (LLe.cons LLe.nilI LLe.nil))))) RLe.nil)))) (LLe.cons (LLe.ow (qGB (f := Str_c) h_l52 (RLe.cons rfl LLe.r (RLe.cons rfl LLe.r RLe.nil)))) LLe.nil))))) ALe.nil))) (hq Tt hq0))))
 rw [show ln (qZB a1) = qS a1 from ln_eq Row_i _]
 refine Run.ret ?_
 cases h
 refine ⟨_, _, by cbv, ?_, ?_⟩
 · exact LLe.r
 exact (ALe.ag rfl LLe.r ALe.nil)
theorem qvR {qN : List Int} {qEB : Int} {qq : List (List Row)} {qr : Int} {qT : List Cond} {qt : Int} {qHB : Bool} {qu : Int} {qBB : List Int} {qIB : Bool} {qQ : Int} {qb : Int} {r : Json} (h : qrD.f (Store.mk (Schema.mk qN) qEB qq) (Query.mk qr qT qt qHB qu qBB qIB qQ qb) = some r) : AC Tryz.prog 19 [.ag [.im false (rowsOf Int_c qN), .s (.int .i64 qEB), .im false (rowsOf qLC qq)], .ag [.s (.int .i64 qr), .im false (rowsOf qy qT), .s (.int .i64 qt), .s (.bool qHB), .s (.int .i64 qu), .im false (rowsOf Int_c qBB), .s (.bool qIB), .s (.int .i64 qQ), .s (.int .i64 qb)]] [.ag [.jk, .jk, .jk], .ag [.jk, .jk, .jk, .jk, .jk, .jk, .jk, .jk, .jk]] [.ag [.s (.int .i64 r.Kind), .s (.int .i64 r.N), .s (.string r.S), .im true (rowsOf qVC r.List_), .im true (rowsOf Str_c r.Names)]] := by
 unfold qrD.f at h
 let qK := rowsOf qy
 let qB := rowsOf Int_c
 let qWB := rowsOf qVC
 let qBC := rowsOf qLC
 let qJ := rowsOf Row_o
 let qR := rowsOf Str_c
 let qS := @lenI Row
 show AC Tryz.prog 19 [.ag [.im false (qB qN), .s (.int .i64 qEB), .im false (qBC qq)], .ag [.s (.int .i64 qr), .im false (qK qT), .s (.int .i64 qt), .s (.bool qHB), .s (.int .i64 qu), .im false (qB qBB), .s (.bool qIB), .s (.int .i64 qQ), .s (.int .i64 qb)]] _ _
 refine run3 Tryz.func19 (by rfl) (by rfl) (by cbv) ⟨by decide, rfl⟩ ?_
 intro ar cm bo sc sa sx ss sl bs sb ln sr ap up rp fr ge le lt nz mm ma sm fl al ci hL F hP hA hT hM hC
 refine Run.seq ?_
 refine Run.region hL hT [] (by cbv) hq0 ?_
 refine Run.seq ?_
 refine Run.seq ?_
 obtain ⟨r1, h_r1, h⟩ := bnd h
 obtain ⟨r2, h_r2, h⟩ := bnd h
 refine Run.region hL hT [(1, .call [false] [.ag [.jk, .jk, .jk]] [.v (.s (.bool r1))]), (7, .call [false, false] [.ag [.jk], .ag [.jk, .jk, .jk, .jk, .jk, .jk, .jk, .jk, .jk]] [.v (.s (.bool r2))])] (by cbv) ?_ ?_
 · exact (hq Tt (hq (hC (qGF h_r1)) (hq (fun _ => hq0) (hq (fun g4 => (hq g4 (hq Tt hq0))) (hq (fun g5 => (hq Tt hq0)) (hq (fun g6 => (hq g6 (hq g6 (hq (hC (qHF (gd_t h_r2 g6))) hq0)))) (hq (fun g7 => (hq g7 hq0)) (hq (fun _ => hq0) (hq (fun q9 => (hq (bo_m q9) hq0)) hq0)))))))))
 refine Run.cond (by cbv) (hq0) (fun c10 => ?_) (fun c10 => ?_)
 ·
  have h := if_t c10 h
  refine Run.seq ?_
  refine Run.region hL hT [] (by cbv) ?_ ?_
  · exact (hq Tt hq0)
  refine Run.ret ?_
  cases h
  refine ⟨_, _, by cbv, ?_, ?_⟩
  · exact LLe.r
  exact (ALe.ag rfl (LLe.c (LLe.c (LLe.c (LLe.cons LLe.nilI (LLe.cons LLe.nilI LLe.nil))))) ALe.nil)
 have h := if_f c10 h
 refine Run.skip ?_
 refine Run.seq ?_
 obtain ⟨r11, h_r11, h⟩ := bnd h
 refine Run.region hL hT [(2, .call [false, false] [.ag [.jk, .jk, .jk], .ag [.jk, .jk, .jk, .jk, .jk, .jk, .jk, .jk, .jk]] [.v (.ow 56 (qJ r11))])] (by cbv) ?_ ?_
 · exact (hq Tt (hq Tt (hq (hC (qRI h_r11)) hq0)))
 refine Run.seq ?_
 refine Run.region hL hT [] (by cbv) hq0 ?_
 obtain ⟨K13, h_K13, h⟩ := joinE h
 refine Run.join1 K13 (r := r) (fun (y12 : List Int) => ⟨44, 100000, [(3, .pt 1 0 0), (4, .pt 2 0 0), (5, .rf 3), (6, .rf 4)], [(1, .box 32 [.t (.s (.int .i64 qr)), .t (.im false (qK qT)), .t (.s (.int .i64 qt)), .t (.s (.bool qHB)), .t (.s (.int .i64 qu)), .t (.im false (qB qBB)), .t (.s (.bool qIB)), .t (.s (.int .i64 qQ)), .t (.s (.int .i64 qb))]), (2, .box 46 [.t (.s (.int .i64 0)), .t (.s (.int .i64 0)), .t (.s (.string ByteArray.empty)), .t (.s (.slice none 0 0)), .t (.s (.slice none 0 0))]), (3, .row 0 56 2 (qJ r11)), (4, .row 0 3 1 (qB y12))]⟩) ?_ ?_
 ·
  skip
  refine Run.seq ?_
  refine Run.region hL hT [] (by cbv) hq0 ?_
  refine Run.block ?_
  refine Run.loop2 (fun (z32 : List Int) (z33 : Int) => ⟨44, 100000, [(2, .pt 1 0 0), (3, .pt 2 0 0), (4, .pt 3 0 0), (5, .rf 4), (6, .rf 5), (7, .t (.s (.int .i64 z33)))], [(1, .box 29 [.t (.im false (qB qN)), .t (.s (.int .i64 qEB)), .t (.im false (qBC qq))]), (2, .box 32 [.t (.s (.int .i64 qr)), .t (.im false (qK qT)), .t (.s (.int .i64 qt)), .t (.s (.bool qHB)), .t (.s (.int .i64 qu)), .t (.im false (qB qBB)), .t (.s (.bool qIB)), .t (.s (.int .i64 qQ)), .t (.s (.int .i64 qb))]), (3, .box 46 [.t (.s (.int .i64 0)), .t (.s (.int .i64 0)), .t (.s (.string ByteArray.empty)), .t (.s (.slice none 0 0)), .t (.s (.slice none 0 0))]), (4, .row 0 56 2 (qJ r11)), (5, .row 0 3 1 (qB z32))]⟩) (x0 := []) (x1 := 0) h (Weak.of _ [(1, 0), (2, 1), (3, 2), (4, 8194), (5, 12288)] hA (by cbv) ?_) (fun _ _ => rfl) ?_
  · repeat (first | exact hq0 | refine hq (by first | exact Tt | rfl) ?_)
  intro k z32 z33 h
  rw [qrD.l0] at h
  refine Run.seq ?_
  refine Run.seq ?_
  refine Run.region hL hT [] (by cbv) ?_ ?_
  · exact (hq Tt hq0)
  rw [show ln (qJ r11) = qS r11 from ln_eq Row_o _]
  refine Run.cond (by cbv) (hq0) (fun c34 => ?_) (fun c34 => ?_)
  ·
   have h := if_t c34 h
   refine Run.skip ?_
   refine Run.seq ?_
   refine Run.block ?_
   obtain ⟨⟨qoS, qZK⟩, h_x35, h⟩ := bnd h
   obtain ⟨r36, h_r36, h⟩ := bnd h
   obtain ⟨l37, h_l37, h⟩ := bnd h
   obtain ⟨l38, h_l38, h⟩ := bnd h
   refine Run.draw hL hT hM [(7, .el [.s (.int .i64 qoS), .ow 3 (qB qZK)]), (8, .call [false, false, false] [.ag [.jk, .jk, .jk], .ag [.jk, .jk, .jk, .jk, .jk, .jk, .jk, .jk, .jk], .v (.jk)] [.v (.s (.int .i64 r36))])] (by cbv) (by cbv) (by cbv) (by cbv) (by cbv) ?_ ?_
   · exact (hq Tt (hq Tt (hq (qP h_x35) (hq (qe (f := Row_o) h_x35) (hq (qP h_x35) (hq (qe (f := Row_o) h_x35) (hq (qw (f := Row_o) h_x35) (hq (hC (qnN h_r36)) (hq (qnC (P := Tryz.prog) (f := Int_c) RLe.r (qGB (f := Int_c) h_l37 (RLe.cons rfl LLe.r RLe.nil)) h_l38) hq0)))))))))
   refine Run.row (rows := (ap (qB z32) ([[.s (.int .i64 r36)]]))) 104106 (qB l38) (by cbv) (qmC (f := Int_c) RLe.r (qGB (f := Int_c) h_l37 (RLe.cons rfl LLe.r RLe.nil)) h_l38) ?_
   refine Run.region hL hT [] (by cbv) ?_ ?_
   · exact (hq Tt hq0)
   refine ⟨l38, (ar .add .i64 z33 1), h, Weak.of _ [(1, 1), (2, 2), (3, 3), (4, 4), (5, 104106)] hA (by cbv) ?_⟩
   repeat (first | exact hq0 | refine hq (by first | exact Tt | rfl) ?_)
  have h := if_f c34 h
  refine Run.exit ?_
  refine ⟨z32, h, Weak.of _ [(1, 2), (2, 3), (3, 4), (4, 5)] hA (by cbv) ?_⟩
  repeat (first | exact hq0 | refine hq (by first | exact Tt | rfl) ?_)
 intro y12 h
 rw [h_K13] at h
 refine Run.seq ?_
 obtain ⟨⟨qrX, qbc, qcc, qOV, qPV⟩, h_r39, h⟩ := bnd h
 refine Run.region hL hT [(3, .call [false, false, false] [.ag [.jk, .jk, .jk, .jk, .jk, .jk, .jk, .jk, .jk], .v (.jk), .v (.jk)] [.ag [.s (.int .i64 qrX), .s (.int .i64 qbc), .s (.string qcc), .im true (qWB qOV), .im true (qR qPV)]])] (by cbv) ?_ ?_
 · exact (hq Tt (hq (hC (AC.args (qRQ h_r39) (ALe.ag rfl LLe.r (ALe.v (LLe.im (RLe.eq (qAC qkP _))) (ALe.v (LLe.im (RLe.eq (qAC qwC _))) ALe.nil))))) (hq Tt hq0)))
 refine Run.ret ?_
 cases h
 refine ⟨_, _, by cbv, ?_, ?_⟩
 · exact LLe.r
 exact (ALe.ag rfl LLe.r ALe.nil)
theorem qrH {a0 : List ByteArray} {a1 : ByteArray} {r : Int} (h : qdB.f a0 a1 = some r) : AC Tryz.prog 68 [.v (.im false (rowsOf Str_c a0)), .v (.s (.string a1))] [.v (.jk), .v (.jk)] [.v (.s (.int .i64 r))] := by
 unfold qdB.f at h
 let qR := rowsOf Str_c
 let qvB := @lenI ByteArray
 show AC Tryz.prog 68 [.v (.im false (qR a0)), .v (.s (.string a1))] _ _
 refine run3 Tryz.func68 (by rfl) (by rfl) (by cbv) ⟨by decide, rfl⟩ ?_
 intro ar cm bo sc sa sx ss sl bs sb ln sr ap up rp fr ge le lt nz mm ma sm fl al ci hL F hP hA hT hM hC
 refine Run.seq ?_
 refine Run.region hL hT [] (by cbv) hq0 ?_
 refine Run.seq ?_
 refine Run.seq ?_
 refine Run.region hL hT [] (by cbv) hq0 ?_
 rw [show ln (qR a0) = qvB a0 from ln_eq Str_c _]
 refine Run.block ?_
 refine Run.loop1 (fun (z5 : Int) => ⟨19, 100000, [(0, .t (.im false (qR a0))), (1, .t (.s (.string a1))), (7, .t (.s (.int .i64 (qvB a0)))), (8, .t (.s (.int .i64 z5)))], []⟩) (x0 := 0) h (Weak.of _ [] hA (by cbv) ?_) (fun _ => rfl) ?_
 · repeat (first | exact hq0 | refine hq (by first | exact Tt | rfl) ?_)
 intro k z5 h
 rw [qdB.l0] at h
 refine Run.seq ?_
 refine Run.region hL hT [] (by cbv) ?_ ?_
 · exact (hq Tt hq0)
 refine Run.seq ?_
 refine Run.cond (by cbv) (hq0) (fun c6 => ?_) (fun c6 => ?_)
 ·
  have h := if_t c6 h
  refine Run.skip ?_
  refine Run.seq ?_
  refine Run.block ?_
  refine Run.seq ?_
  refine Run.region hL hT [] (by cbv) hq0 ?_
  refine Run.seq ?_
  obtain ⟨x7, h_x7, h⟩ := bnd h
  refine Run.region hL hT [(3, .el [.s (.string x7)])] (by cbv) ?_ ?_
  · exact (hq (qP h_x7) (hq (qe (f := Str_c) h_x7) (hq (qw (f := Str_c) h_x7) hq0)))
  refine Run.cond (by cbv) (hq0) (fun c8 => ?_) (fun c8 => ?_)
  ·
   have h := if_t c8 h
   refine Run.seq ?_
   refine Run.region hL hT [] (by cbv) hq0 ?_
   refine Run.ret ?_
   cases h
   refine ⟨_, _, by cbv, ?_, ?_⟩
   · exact LLe.r
   exact (ALe.v LLe.r ALe.nil)
  have h := if_f c8 h
  refine Run.skip ?_
  refine Run.region hL hT [] (by cbv) ?_ ?_
  · exact (hq Tt hq0)
  refine ⟨(ar .add .i64 z5 1), h, Weak.of _ [] hA (by cbv) ?_⟩
  repeat (first | exact hq0 | refine hq (by first | exact Tt | rfl) ?_)
 have h := if_f c6 h
 refine Run.exit ?_
 refine Run.seq ?_
 refine Run.region hL hT [] (by cbv) hq0 ?_
 refine Run.ret ?_
 cases h
 refine ⟨_, _, by cbv, ?_, ?_⟩
 · exact LLe.r
 exact (ALe.v LLe.r ALe.nil)
theorem qjK {a0 : List ByteArray} {r : (List ByteArray)} (h : qYE.f a0 = some r) : AC Tryz.prog 129 [.v (.im false (rowsOf Str_c a0))] [.v (.jk)] [.v (.ow 9 (rowsOf Str_c r))] := by
 unfold qYE.f at h
 let qR := rowsOf Str_c
 show AC Tryz.prog 129 [.v (.im false (qR a0))] _ _
 refine run3 Tryz.func129 (by rfl) (by rfl) (by cbv) ⟨by decide, rfl⟩ ?_
 intro ar cm bo sc sa sx ss sl bs sb ln sr ap up rp fr ge le lt nz mm ma sm fl al ci hL F hP hA hT hM hC
 refine Run.seq ?_
 refine Run.region hL hT [] (by cbv) hq0 ?_
 refine Run.seq ?_
 obtain ⟨l1, h_l1, h⟩ := bnd h
 refine Run.region hL hT [] (by cbv) ?_ ?_
 · exact (hq (qHT qVa _) (hq (qnC (P := Tryz.prog) (f := Str_c) RLe.r RLe.r h_l1) hq0))
 refine Run.row (rows := (ap ([]) ((qR a0)))) 4098 (qR l1) (by cbv) (qmC (f := Str_c) RLe.r RLe.r h_l1) ?_
 refine Run.ret ?_
 cases h
 refine ⟨_, _, by cbv, ?_, ?_⟩
 · exact LLe.r
 exact (ALe.v LLe.r ALe.nil)
theorem qkK (self : Json → Option Json) (hself : ∀ {qO : Int} {a0v_N : Int} {a0v_S : ByteArray} {qD : List Json} {qF : List ByteArray} {r : Json} (h : self (Json.mk qO a0v_N a0v_S qD qF) = some r), AC Tryz.prog 69 [.ag [.s (.int .i64 qO), .s (.int .i64 a0v_N), .s (.string a0v_S), .im false (rowsOf ql qD), .im false (rowsOf Str_c qF)]] [.ag [.jk, .jk, .jk, .jk, .jk]] [.ag [.s (.int .i64 r.Kind), .s (.int .i64 r.N), .s (.string r.S), .ow 46 (rowsOf qnB r.List_), .ow 9 (rowsOf Str_c r.Names)]]) {qO : Int} {a0v_N : Int} {a0v_S : ByteArray} {qD : List Json} {qF : List ByteArray} {r : Json} (h : qRB.b self (Json.mk qO a0v_N a0v_S qD qF) = some r) : AC Tryz.prog 69 [.ag [.s (.int .i64 qO), .s (.int .i64 a0v_N), .s (.string a0v_S), .im false (rowsOf ql qD), .im false (rowsOf Str_c qF)]] [.ag [.jk, .jk, .jk, .jk, .jk]] [.ag [.s (.int .i64 r.Kind), .s (.int .i64 r.N), .s (.string r.S), .ow 46 (rowsOf qnB r.List_), .ow 9 (rowsOf Str_c r.Names)]] := by
 unfold qRB.b at h
 let qj := rowsOf ql
 let qXB := rowsOf qnB
 let qR := rowsOf Str_c
 let qV := @lenI Json
 show AC Tryz.prog 69 [.ag [.s (.int .i64 qO), .s (.int .i64 a0v_N), .s (.string a0v_S), .im false (qj qD), .im false (qR qF)]] _ _
 refine run3 Tryz.func69 (by rfl) (by rfl) (by cbv) ⟨by decide, rfl⟩ ?_
 intro ar cm bo sc sa sx ss sl bs sb ln sr ap up rp fr ge le lt nz mm ma sm fl al ci hL F hP hA hT hM hC
 refine Run.seq ?_
 refine Run.region hL hT [] (by cbv) hq0 ?_
 refine Run.seq ?_
 obtain ⟨r1, h_r1, h⟩ := bnd h
 refine Run.draw hL hT hM [(8, .call [false] [.v (.jk)] [.v (.ow 9 (qR r1))])] (by cbv) (by cbv) (by cbv) (by cbv) (by cbv) ?_ ?_
 · exact (hq Tt (hq Tt (hq Tt (hq Tt (hq (hC (qjK h_r1)) (hq Tt hq0))))))
 refine Run.seq ?_
 refine Run.seq ?_
 refine Run.region hL hT [] (by cbv) ?_ ?_
 · exact (hq Tt hq0)
 rw [show ln (qj qD) = qV qD from ln_eq ql _]
 refine Run.block ?_
 refine Run.loop2 (fun (z23 : List Json) (z24 : Int) => ⟨32, 100000, [(2, .pt 1 0 0), (3, .pt 2 0 0), (17, .t (.im false (qj qD))), (18, .t (.s (.int .i64 (qV qD)))), (19, .t (.s (.int .i64 z24)))], [(1, .box 46 [.t (.s (.int .i64 0)), .t (.s (.int .i64 0)), .t (.s (.string ByteArray.empty)), .t (.s (.slice none 0 0)), .t (.s (.slice none 0 0))]), (2, .box 46 [.t (.s (.int .i64 qO)), .t (.s (.int .i64 a0v_N)), .t (.s (.string a0v_S)), .rf 3, .rf 4]), (3, .row 0 46 5 (qXB z23)), (4, .row 0 9 1 (qR r1))]⟩) (x0 := []) (x1 := 0) h ((Weak.nilB (l := [.t (.s (.int .i64 qO)), .t (.s (.int .i64 a0v_N)), .t (.s (.string a0v_S))]) hT 4106 3 13288 46 rfl (by cbv) (by cbv) (by cbv)).trans (Weak.of _ [(1, 1), (2, 4106), (3, 13288), (4, 4104)] hA (by cbv) ?_)) (fun _ _ => rfl) ?_
 · repeat (first | exact hq0 | refine hq (by first | exact Tt | rfl) ?_)
 intro k z23 z24 h
 rw [qRB.l0] at h
 refine Run.seq ?_
 refine Run.region hL hT [] (by cbv) ?_ ?_
 · exact (hq Tt hq0)
 refine Run.seq ?_
 refine Run.cond (by cbv) (hq0) (fun c25 => ?_) (fun c25 => ?_)
 ·
  have h := if_t c25 h
  refine Run.skip ?_
  refine Run.seq ?_
  refine Run.block ?_
  refine Run.seq ?_
  obtain ⟨⟨qsX, qdc, qec, qQV, qRV⟩, h_x26, h⟩ := bnd h
  refine Run.region hL hT [(0, .el [.s (.int .i64 qsX), .s (.int .i64 qdc), .s (.string qec), .im false (qj qQV), .im false (qR qRV)])] (by cbv) ?_ ?_
  · exact (hq (qP h_x26) (hq (qe (f := ql) h_x26) (hq (qzH qcE h_x26) (hq Tt hq0))))
  obtain ⟨⟨qwR, qfZ, qgZ, quO, qvO⟩, h_r27, h⟩ := bnd h
  obtain ⟨l28, h_l28, h⟩ := bnd h
  obtain ⟨l29, h_l29, h⟩ := bnd h
  refine Run.draw hL hT hM [(3, .call [false] [.ag [.jk, .jk, .jk, .jk, .jk]] [.ag [.s (.int .i64 qwR), .s (.int .i64 qfZ), .s (.string qgZ), .ow 46 (qXB quO), .ow 9 (qR qvO)]])] (by cbv) (by cbv) (by cbv) (by cbv) (by cbv) ?_ ?_
  · exact (hq Tt (hq Tt (hq (hC (hself h_r27)) (hq (qnC (P := Tryz.prog) (f := qnB) RLe.r (qeD qcH h_l28 (RLe.cons rfl LLe.r RLe.nil)) h_l29) (hq Tt hq0)))))
  refine Run.row (rows := (ap (qXB z23) ([[.s (.int .i64 qwR), .s (.int .i64 qfZ), .s (.string qgZ), .ow 46 (qXB quO), .ow 9 (qR qvO)]]))) 108197 (qXB l29) (by cbv) (qmC (f := qnB) RLe.r (qeD qcH h_l28 (RLe.cons rfl LLe.r RLe.nil)) h_l29) ?_
  refine Run.region hL hT [] (by cbv) ?_ ?_
  · exact (hq Tt hq0)
  refine ⟨l29, (ar .add .i64 z24 1), h, Weak.of _ [(1, 1), (2, 2), (3, 108197), (4, 4)] hA (by cbv) ?_⟩
  repeat (first | exact hq0 | refine hq (by first | exact Tt | rfl) ?_)
 have h := if_f c25 h
 refine Run.exit ?_
 refine Run.seq ?_
 refine Run.region hL hT [] (by cbv) ?_ ?_
 · exact (hq Tt (hq Tt hq0))
 refine Run.ret ?_
 cases h
 refine ⟨_, _, by cbv, ?_, ?_⟩
 · exact LLe.r
 exact (ALe.ag rfl LLe.r ALe.nil)
theorem qNH : ∀ (k : Nat) {qO : Int} {a0v_N : Int} {a0v_S : ByteArray} {qD : List Json} {qF : List ByteArray} {r : Json} (h : qRB.g k (Json.mk qO a0v_N a0v_S qD qF) = some r), AC Tryz.prog 69 [.ag [.s (.int .i64 qO), .s (.int .i64 a0v_N), .s (.string a0v_S), .im false (rowsOf ql qD), .im false (rowsOf Str_c qF)]] [.ag [.jk, .jk, .jk, .jk, .jk]] [.ag [.s (.int .i64 r.Kind), .s (.int .i64 r.N), .s (.string r.S), .ow 46 (rowsOf qnB r.List_), .ow 9 (rowsOf Str_c r.Names)]]
 | 0 => fun h => by cases h
 | k + 1 => fun h => qkK (qRB.g k) (qNH k) h
theorem qQL {qO : Int} {a0v_N : Int} {a0v_S : ByteArray} {qD : List Json} {qF : List ByteArray} {r : Json} (h : qRB.f (Json.mk qO a0v_N a0v_S qD qF) = some r) : AC Tryz.prog 69 [.ag [.s (.int .i64 qO), .s (.int .i64 a0v_N), .s (.string a0v_S), .im false (rowsOf ql qD), .im false (rowsOf Str_c qF)]] [.ag [.jk, .jk, .jk, .jk, .jk]] [.ag [.s (.int .i64 r.Kind), .s (.int .i64 r.N), .s (.string r.S), .ow 46 (rowsOf qnB r.List_), .ow 9 (rowsOf Str_c r.Names)]] := qNH 20 h
theorem qyJ {qO : Int} {a0v_N : Int} {a0v_S : ByteArray} {qD : List Json} {qF : List ByteArray} {a1 : ByteArray} {r : Json × Bool} (h : qoE.f (Json.mk qO a0v_N a0v_S qD qF) a1 = some r) : AC Tryz.prog 24 [.ag [.s (.int .i64 qO), .s (.int .i64 a0v_N), .s (.string a0v_S), .im false (rowsOf ql qD), .im false (rowsOf Str_c qF)], .v (.s (.string a1))] [.ag [.jk, .jk, .jk, .jk, .jk], .v (.jk)] [.ag [.s (.int .i64 r.1.Kind), .s (.int .i64 r.1.N), .s (.string r.1.S), .ow 46 (rowsOf qnB r.1.List_), .ow 9 (rowsOf Str_c r.1.Names)], .v (.s (.bool r.2))] := by
 unfold qoE.f at h
 let qj := rowsOf ql
 let qXB := rowsOf qnB
 let qR := rowsOf Str_c
 show AC Tryz.prog 24 [.ag [.s (.int .i64 qO), .s (.int .i64 a0v_N), .s (.string a0v_S), .im false (qj qD), .im false (qR qF)], .v (.s (.string a1))] _ _
 refine run3 Tryz.func24 (by rfl) (by rfl) (by cbv) ⟨by decide, rfl⟩ ?_
 intro ar cm bo sc sa sx ss sl bs sb ln sr ap up rp fr ge le lt nz mm ma sm fl al ci hL F hP hA hT hM hC
 refine Run.seq ?_
 refine Run.region hL hT [] (by cbv) hq0 ?_
 refine Run.seq ?_
 obtain ⟨r1, h_r1, h⟩ := bnd h
 refine Run.region hL hT [(3, .call [false, false] [.v (.jk), .v (.jk)] [.v (.s (.int .i64 r1))])] (by cbv) ?_ ?_
 · exact (hq Tt (hq (hC (qrH h_r1)) hq0))
 refine Run.seq ?_
 refine Run.seq ?_
 obtain ⟨r2, h_r2, h⟩ := bnd h
 refine Run.region hL hT [(1, .call [false] [.ag [.jk, .jk, .jk, .jk, .jk]] [.v (.s (.bool r2))])] (by cbv) ?_ ?_
 · exact (hq Tt (hq (hC (quG h_r2)) (hq (fun _ => hq0) (hq (fun g4 => (hq g4 (hq Tt hq0))) (hq (fun _ => hq0) (hq (fun q6 => (hq (bo_m q6) hq0)) hq0))))))
 refine Run.cond (by cbv) (hq0) (fun c7 => ?_) (fun c7 => ?_)
 ·
  have h := if_t c7 h
  refine Run.seq ?_
  refine Run.region hL hT [] (by cbv) ?_ ?_
  · exact (hq Tt hq0)
  refine Run.ret ?_
  cases h
  refine ⟨_, _, by cbv, ?_, ?_⟩
  · exact LLe.r
  exact (ALe.ag rfl (LLe.c (LLe.c (LLe.c (LLe.cons LLe.nilO (LLe.cons LLe.nilO LLe.nil))))) (ALe.v LLe.r ALe.nil))
 have h := if_f c7 h
 refine Run.skip ?_
 refine Run.seq ?_
 obtain ⟨⟨qCZ, x8v_N, x8v_S, qtX, quX⟩, h_x8, h⟩ := bnd h
 obtain ⟨⟨qDZ, r9v_N, r9v_S, qvX, qwX⟩, h_r9, h⟩ := bnd h
 refine Run.region hL hT [(3, .el [.s (.int .i64 qCZ), .s (.int .i64 x8v_N), .s (.string x8v_S), .im false (qj qtX), .im false (qR quX)]), (5, .call [false] [.ag [.jk, .jk, .jk, .jk, .jk]] [.ag [.s (.int .i64 qDZ), .s (.int .i64 r9v_N), .s (.string r9v_S), .ow 46 (qXB qvX), .ow 9 (qR qwX)]])] (by cbv) ?_ ?_
 · exact (hq Tt (hq (qP h_x8) (hq (qe (f := ql) h_x8) (hq (qzH qcE h_x8) (hq (hC (qQL h_r9)) (hq Tt hq0))))))
 refine Run.ret ?_
 cases h
 refine ⟨_, _, by cbv, ?_, ?_⟩
 · exact LLe.r
 exact (ALe.ag rfl LLe.r (ALe.v LLe.r ALe.nil))
theorem qsS {a0 : List Int} {r : Bool} (h : qXJ.f a0 = some r) : AC Tryz.prog 6 [.v (.im false (rowsOf u8_c a0))] [.v (.jk)] [.v (.s (.bool r))] := by
 unfold qXJ.f at h
 let eu8_c := rowsOf u8_c
 let qiH := @lenI Int
 show AC Tryz.prog 6 [.v (.im false (eu8_c a0))] _ _
 refine run3 Tryz.func6 (by rfl) (by rfl) (by cbv) ⟨by decide, rfl⟩ ?_
 intro ar cm bo sc sa sx ss sl bs sb ln sr ap up rp fr ge le lt nz mm ma sm fl al ci hL F hP hA hT hM hC
 refine Run.seq ?_
 refine Run.region hL hT [] (by cbv) hq0 ?_
 refine Run.seq ?_
 refine Run.region hL hT [] (by cbv) ?_ ?_
 · exact (hq Tt hq0)
 rw [show ln (eu8_c a0) = qiH a0 from ln_eq u8_c _]
 refine Run.ret ?_
 cases h
 refine ⟨_, _, by cbv, ?_, ?_⟩
 · exact LLe.r
 exact (ALe.v LLe.r ALe.nil)
theorem laws_FnAnswer_ac {a0 : List Int} {r : Bool} (h : qmB.f a0 = some r) : AC Tryz.prog 4 [.v (.im true (rowsOf u8_c a0))] [.v (.jk)] [.v (.s (.bool r))] := by
 unfold qmB.f at h
 let qK := rowsOf qy
 let qB := rowsOf Int_c
 let qj := rowsOf ql
 let qWB := rowsOf qVC
 let qXB := rowsOf qnB
 let qBC := rowsOf qLC
 let qZB := rowsOf Row_i
 let qJ := rowsOf Row_o
 let qR := rowsOf Str_c
 let eu8_c := rowsOf u8_c
 let qV := @lenI Json
 let qS := @lenI Row
 show AC Tryz.prog 4 [.v (.im true (eu8_c a0))] _ _
 refine run3 Tryz.func4 (by rfl) (by rfl) (by cbv) ⟨by decide, rfl⟩ ?_
 intro ar cm bo sc sa sx ss sl bs sb ln sr ap up rp fr ge le lt nz mm ma sm fl al ci hL F hP hA hT hM hC
 refine Run.seq ?_
 refine Run.region hL hT [] (by cbv) hq0 ?_
 refine Run.seq ?_
 refine Run.seq ?_
 obtain ⟨r1, h_r1, h⟩ := bnd h
 refine Run.region hL hT [(1, .call [false] [.v (.jk)] [.v (.s (.bool r1))])] (by cbv) ?_ ?_
 · exact (hq (hC (qsS h_r1)) hq0)
 refine Run.cond (by cbv) (hq0) (fun c2 => ?_) (fun c2 => ?_)
 ·
  have h := if_t c2 h
  refine Run.seq ?_
  refine Run.region hL hT [] (by cbv) hq0 ?_
  refine Run.ret ?_
  cases h
  refine ⟨_, _, by cbv, ?_, ?_⟩
  · exact LLe.r
  exact (ALe.v LLe.r ALe.nil)
 have h := if_f c2 h
 refine Run.skip ?_
 refine Run.seq ?_
 obtain ⟨⟨⟨⟨qbG⟩, qqI, qzJ⟩, ⟨qOE, qRD, qPE, qkE, qQE, qmD, qlE, qID, qnD⟩⟩, h_r3, h⟩ := bnd h
 refine Run.region hL hT [(1, .call [true] [.v (.jk)] [.ag [.im true (qB qbG), .s (.int .i64 qqI), .im true (qBC qzJ)], .ag [.s (.int .i64 qOE), .im true (qK qRD), .s (.int .i64 qPE), .s (.bool qkE), .s (.int .i64 qQE), .im true (qB qmD), .s (.bool qlE), .s (.int .i64 qID), .s (.int .i64 qnD)]])] (by cbv) ?_ ?_
 · exact (hq (hC (qLL h_r3)) (hq Tt (hq Tt hq0)))
 refine Run.seq ?_
 obtain ⟨r4, h_r4, h⟩ := bnd h
 refine Run.region hL hT [(2, .call [false, false] [.ag [.jk, .jk, .jk], .ag [.jk, .jk, .jk, .jk, .jk, .jk, .jk, .jk, .jk]] [.v (.ow 56 (qJ r4))])] (by cbv) ?_ ?_
 · exact (hq Tt (hq Tt (hq (hC (qLI h_r4)) hq0)))
 refine Run.seq ?_
 obtain ⟨r5, h_r5, h⟩ := bnd h
 refine Run.region hL hT [(2, .call [false, false] [.ag [.jk, .jk, .jk], .ag [.jk, .jk, .jk, .jk, .jk, .jk, .jk, .jk, .jk]] [.v (.ow 56 (qJ r5))])] (by cbv) ?_ ?_
 · exact (hq Tt (hq Tt (hq (hC (qRI h_r5)) hq0)))
 refine Run.seq ?_
 obtain ⟨⟨qhH, r6v_N, r6v_S, qXG, qYG⟩, h_r6, h⟩ := bnd h
 refine Run.region hL hT [(2, .call [false, false] [.ag [.jk, .jk, .jk], .ag [.jk, .jk, .jk, .jk, .jk, .jk, .jk, .jk, .jk]] [.ag [.s (.int .i64 qhH), .s (.int .i64 r6v_N), .s (.string r6v_S), .ow 46 (qXB qXG), .ow 9 (qR qYG)]])] (by cbv) ?_ ?_
 · exact (hq Tt (hq Tt (hq (hC (qiR h_r6)) (hq Tt hq0))))
 refine Run.seq ?_
 refine Run.seq ?_
 obtain ⟨⟨qEZ, r7v_N, r7v_S, qxX, qyX⟩, h_r7, h⟩ := bnd h
 obtain ⟨r8, h_r8, h⟩ := bnd h
 refine Run.draw hL hT hM [(9, .call [false, false] [.ag [.jk, .jk, .jk], .ag [.jk, .jk, .jk, .jk, .jk, .jk, .jk, .jk, .jk]] [.ag [.s (.int .i64 qEZ), .s (.int .i64 r7v_N), .s (.string r7v_S), .im true (qWB qxX), .im true (qR qyX)]]), (10, .call [false, false] [.ag [.jk, .jk, .jk, .jk, .jk], .ag [.jk, .jk, .jk, .jk, .jk]] [.v (.s (.bool r8))])] (by cbv) (by cbv) (by cbv) (by cbv) (by cbv) ?_ ?_
 · exact (hq Tt (hq (fun g9 => (by have g9C := g9; rw [show ln (qJ r4) = qS r4 from ln_eq Row_o _, show ln (qJ r5) = qS r5 from ln_eq Row_o _] at g9C; exact (hq Tt hq0))) (hq (fun g10 => (by have g10C := g10; rw [show ln (qJ r4) = qS r4 from ln_eq Row_o _, show ln (qJ r5) = qS r5 from ln_eq Row_o _] at g10C; exact (hq Tt hq0))) (hq (fun g11 => (by have g11C := g11; rw [show ln (qJ r4) = qS r4 from ln_eq Row_o _, show ln (qJ r5) = qS r5 from ln_eq Row_o _] at g11C; exact (hq Tt hq0))) (hq (fun g12 => (by have g12C := g12; rw [show ln (qJ r4) = qS r4 from ln_eq Row_o _, show ln (qJ r5) = qS r5 from ln_eq Row_o _] at g12C; exact (hq g12 (hq g12 (hq (hC (qvR (gd_t h_r7 g12C))) hq0))))) (hq (fun g13 => (by have g13C := g13; rw [show ln (qJ r4) = qS r4 from ln_eq Row_o _, show ln (qJ r5) = qS r5 from ln_eq Row_o _] at g13C; exact (hq g13 (hq g13 (hq (hC (AC.args (qML (gd_t h_r8 g13C)) (ALe.ag rfl (LLe.c (LLe.c (LLe.c (LLe.cons (LLe.im (RLe.eq (qAC qdH _))) (LLe.cons (LLe.im (RLe.eq (qAC qnF _))) LLe.nil))))) (ALe.ag rfl (LLe.c (LLe.c (LLe.c (LLe.cons (LLe.im (qlJ _)) (LLe.c LLe.nil))))) ALe.nil)))) hq0))))) (hq (fun g14 => (by have g14C := g14; rw [show ln (qJ r4) = qS r4 from ln_eq Row_o _, show ln (qJ r5) = qS r5 from ln_eq Row_o _] at g14C; exact (hq g14 hq0))) (hq (fun _ => hq0) (hq (fun q16 => (by have q16C := q16; rw [show ln (qJ r4) = qS r4 from ln_eq Row_o _, show ln (qJ r5) = qS r5 from ln_eq Row_o _] at q16C; exact (hq (bo_m q16) hq0))) hq0)))))))))
 rw [show ln (qJ r4) = qS r4 from ln_eq Row_o _]
 rw [show ln (qJ r5) = qS r5 from ln_eq Row_o _]
 refine Run.cond (by cbv) (hq0) (fun c17 => ?_) (fun c17 => ?_)
 ·
  have h := if_t c17 h
  refine Run.seq ?_
  refine Run.region hL hT [] (by cbv) hq0 ?_
  refine Run.ret ?_
  cases h
  refine ⟨_, _, by cbv, ?_, ?_⟩
  · exact LLe.r
  exact (ALe.v LLe.r ALe.nil)
 have h := if_f c17 h
 refine Run.skip ?_
 refine Run.seq ?_
 refine Run.seq ?_
 obtain ⟨r18, h_r18, h⟩ := bnd h
 obtain ⟨r19, h_r19, h⟩ := bnd h
 refine Run.region hL hT [(1, .call [false] [.ag [.jk, .jk, .jk]] [.v (.s (.bool r18))]), (7, .call [false, false] [.ag [.jk], .ag [.jk, .jk, .jk, .jk, .jk, .jk, .jk, .jk, .jk]] [.v (.s (.bool r19))])] (by cbv) ?_ ?_
 · exact (hq Tt (hq (hC (qGF h_r18)) (hq (fun _ => hq0) (hq (fun g21 => (hq g21 (hq Tt hq0))) (hq (fun g22 => (hq Tt hq0)) (hq (fun g23 => (hq g23 (hq g23 (hq (hC (qHF (gd_t h_r19 g23))) hq0)))) (hq (fun g24 => (hq g24 hq0)) (hq (fun _ => hq0) (hq (fun q26 => (hq (bo_m q26) hq0)) hq0)))))))))
 refine Run.cond (by cbv) (hq0) (fun c27 => ?_) (fun c27 => ?_)
 ·
  have h := if_t c27 h
  refine Run.seq ?_
  refine Run.region hL hT [] (by cbv) ?_ ?_
  · exact (hq Tt (hq (fun _ => hq0) (hq (fun g29 => (by have g29C := g29; rw [show ln (qJ r4) = qS r4 from ln_eq Row_o _] at g29C; exact (hq g29 (hq Tt hq0)))) (hq (fun g30 => (by have g30C := g30; rw [show ln (qJ r4) = qS r4 from ln_eq Row_o _] at g30C; exact (hq g30 (hq Tt hq0)))) (hq (fun q31 => (by have q31C := q31; rw [show ln (qJ r4) = qS r4 from ln_eq Row_o _] at q31C; exact (hq q31 hq0))) (hq (fun _ => hq0) hq0))))))
  rw [show ln (qJ r4) = qS r4 from ln_eq Row_o _]
  refine Run.ret ?_
  cases h
  refine ⟨_, _, by cbv, ?_, ?_⟩
  · exact LLe.r
  exact (ALe.v LLe.r ALe.nil)
 have h := if_f c27 h
 refine Run.skip ?_
 refine Run.seq ?_
 refine Run.region hL hT [] (by cbv) hq0 ?_
 obtain ⟨K34, h_K34, h⟩ := joinE h
 refine Run.join1 K34 (r := r) (fun (y33 : Int) => ⟨167, 100000, [(4, .pt 1 0 0), (5, .rf 2), (7, .pt 3 0 0), (8, .t (.s (.int .i64 y33)))], [(1, .box 32 [.t (.s (.int .i64 qOE)), .t (.im true (qK qRD)), .t (.s (.int .i64 qPE)), .t (.s (.bool qkE)), .t (.s (.int .i64 qQE)), .t (.im true (qB qmD)), .t (.s (.bool qlE)), .t (.s (.int .i64 qID)), .t (.s (.int .i64 qnD))]), (2, .row 0 56 2 (qJ r4)), (3, .box 46 [.t (.s (.int .i64 qhH)), .t (.s (.int .i64 r6v_N)), .t (.s (.string r6v_S)), .rf 4, .rf 5]), (4, .row 0 46 5 (qXB qXG)), (5, .row 0 9 1 (qR qYG))]⟩) ?_ ?_
 ·
  skip
  refine Run.seq ?_
  refine Run.region hL hT [] (by cbv) hq0 ?_
  refine Run.block ?_
  refine Run.loop2 (fun (z55 : Int) (z56 : Int) => ⟨167, 100000, [(3, .pt 1 0 0), (4, .pt 2 0 0), (5, .rf 3), (7, .pt 4 0 0), (8, .t (.s (.int .i64 z55))), (9, .t (.s (.int .i64 z56)))], [(1, .box 29 [.t (.im true (qB qbG)), .t (.s (.int .i64 qqI)), .t (.im true (qBC qzJ))]), (2, .box 32 [.t (.s (.int .i64 qOE)), .t (.im true (qK qRD)), .t (.s (.int .i64 qPE)), .t (.s (.bool qkE)), .t (.s (.int .i64 qQE)), .t (.im true (qB qmD)), .t (.s (.bool qlE)), .t (.s (.int .i64 qID)), .t (.s (.int .i64 qnD))]), (3, .row 0 56 2 (qJ r4)), (4, .box 46 [.t (.s (.int .i64 qhH)), .t (.s (.int .i64 r6v_N)), .t (.s (.string r6v_S)), .rf 5, .rf 6]), (5, .row 0 46 5 (qXB qXG)), (6, .row 0 9 1 (qR qYG))]⟩) (x0 := 0) (x1 := 0) h (Weak.of _ [(1, 8197), (2, 8198), (3, 12290), (4, 20483), (5, 20482), (6, 20738)] hA (by cbv) ?_) (fun _ _ => rfl) ?_
  · repeat (first | exact hq0 | refine hq (by first | exact Tt | rfl) ?_)
  intro k z55 z56 h
  rw [qmB.l0] at h
  refine Run.seq ?_
  refine Run.seq ?_
  obtain ⟨x57, h_x57, h⟩ := bnd h
  refine Run.region hL hT [(5, .el [.im false (qZB x57)])] (by cbv) ?_ ?_
  · exact (hq Tt (hq Tt (hq (qP h_x57) (hq (qe (f := qLC) h_x57) (hq (qw (f := qLC) h_x57) (hq Tt hq0))))))
  rw [show ln (qZB x57) = qS x57 from ln_eq Row_i _]
  refine Run.cond (by cbv) (hq0) (fun c58 => ?_) (fun c58 => ?_)
  ·
   have h := if_t c58 h
   refine Run.skip ?_
   refine Run.seq ?_
   refine Run.block ?_
   refine Run.seq ?_
   obtain ⟨⟨qpa, qSV⟩, h_x59, h⟩ := bnd h
   obtain ⟨r60, h_r60, h⟩ := bnd h
   refine Run.draw hL hT hM [(5, .el [.im false (qZB x57)]), (8, .el [.s (.int .i64 qpa), .im false (qB qSV)]), (10, .call [false, false] [.ag [.jk, .jk, .jk, .jk, .jk, .jk, .jk, .jk, .jk], .ag [.jk, .jk]] [.v (.s (.bool r60))])] (by cbv) (by cbv) (by cbv) (by cbv) (by cbv) ?_ ?_
   · exact (hq Tt (hq Tt (hq Tt (hq (qP h_x57) (hq (qe (f := qLC) h_x57) (hq (qw (f := qLC) h_x57) (hq (qP h_x59) (hq (qe (f := Row_i) h_x59) (hq (qw (f := Row_i) h_x59) (hq (hC (qSG h_r60)) hq0))))))))))
   refine Run.cond (by cbv) (hq0) (fun c61 => ?_) (fun c61 => ?_)
   ·
    have h := if_t c61 h
    refine Run.region hL hT [] (by cbv) ?_ ?_
    · exact (hq Tt hq0)
    refine Run.region hL hT [] (by cbv) ?_ ?_
    · exact (hq Tt hq0)
    refine ⟨(ar .add .i64 z55 1), (ar .add .i64 z56 1), h, Weak.of _ [(1, 1), (2, 2), (3, 3), (4, 4), (5, 5), (6, 6)] hA (by cbv) ?_⟩
    repeat (first | exact hq0 | refine hq (by first | exact Tt | rfl) ?_)
   have h := if_f c61 h
   refine Run.skip ?_
   refine Run.region hL hT [] (by cbv) ?_ ?_
   · exact (hq Tt hq0)
   refine ⟨z55, (ar .add .i64 z56 1), h, Weak.of _ [(1, 1), (2, 2), (3, 3), (4, 4), (5, 5), (6, 6)] hA (by cbv) ?_⟩
   repeat (first | exact hq0 | refine hq (by first | exact Tt | rfl) ?_)
  have h := if_f c58 h
  refine Run.exit ?_
  refine ⟨z55, h, Weak.of _ [(1, 2), (2, 3), (3, 4), (4, 5), (5, 6)] hA (by cbv) ?_⟩
  repeat (first | exact hq0 | refine hq (by first | exact Tt | rfl) ?_)
 intro y33 h
 rw [h_K34] at h
 obtain ⟨K63, h_K63, h⟩ := joinE h
 refine Run.join1 K63 (r := r) (fun (y62 : Unit) => ⟨167, 100000, [(4, .pt 1 0 0), (5, .rf 2), (7, .pt 3 0 0), (8, .t (.s (.int .i64 y33)))], [(1, .box 32 [.t (.s (.int .i64 qOE)), .t (.im true (qK qRD)), .t (.s (.int .i64 qPE)), .t (.s (.bool qkE)), .t (.s (.int .i64 qQE)), .t (.im true (qB qmD)), .t (.s (.bool qlE)), .t (.s (.int .i64 qID)), .t (.s (.int .i64 qnD))]), (2, .row 0 56 2 (qJ r4)), (3, .box 46 [.t (.s (.int .i64 qhH)), .t (.s (.int .i64 r6v_N)), .t (.s (.string r6v_S)), .rf 4, .rf 5]), (4, .row 0 46 5 (qXB qXG)), (5, .row 0 9 1 (qR qYG))]⟩) ?_ ?_
 ·
  skip
  refine Run.seq ?_
  refine Run.region hL hT [] (by cbv) hq0 ?_
  refine Run.block ?_
  refine Run.loop1 (fun (z81 : Int) => ⟨167, 100000, [(4, .pt 1 0 0), (5, .rf 2), (7, .pt 3 0 0), (8, .t (.s (.int .i64 y33))), (10, .t (.s (.int .i64 z81)))], [(1, .box 32 [.t (.s (.int .i64 qOE)), .t (.im true (qK qRD)), .t (.s (.int .i64 qPE)), .t (.s (.bool qkE)), .t (.s (.int .i64 qQE)), .t (.im true (qB qmD)), .t (.s (.bool qlE)), .t (.s (.int .i64 qID)), .t (.s (.int .i64 qnD))]), (2, .row 0 56 2 (qJ r4)), (3, .box 46 [.t (.s (.int .i64 qhH)), .t (.s (.int .i64 r6v_N)), .t (.s (.string r6v_S)), .rf 4, .rf 5]), (4, .row 0 46 5 (qXB qXG)), (5, .row 0 9 1 (qR qYG))]⟩) (x0 := 0) h (Weak.of _ [(1, 1), (2, 2), (3, 3), (4, 4), (5, 5)] hA (by cbv) ?_) (fun _ => rfl) ?_
  · repeat (first | exact hq0 | refine hq (by first | exact Tt | rfl) ?_)
  intro k z81 h
  rw [qmB.l1] at h
  refine Run.seq ?_
  refine Run.seq ?_
  refine Run.region hL hT [] (by cbv) ?_ ?_
  · exact (hq Tt hq0)
  rw [show ln (qJ r4) = qS r4 from ln_eq Row_o _]
  refine Run.cond (by cbv) (hq0) (fun c82 => ?_) (fun c82 => ?_)
  ·
   have h := if_t c82 h
   refine Run.skip ?_
   refine Run.seq ?_
   refine Run.block ?_
   refine Run.seq ?_
   obtain ⟨⟨qzX, qwO⟩, h_x83, h⟩ := bnd h
   obtain ⟨r84, h_r84, h⟩ := bnd h
   obtain ⟨⟨qqa, qTV⟩, h_x85, h⟩ := bnd h
   obtain ⟨r86, h_r86, h⟩ := bnd h
   refine Run.draw hL hT hM [(4, .el [.s (.int .i64 qzX), .ow 3 (qB qwO)]), (5, .call [false, false] [.ag [.jk, .jk, .jk, .jk, .jk, .jk, .jk, .jk, .jk], .ag [.jk, .jk]] [.v (.s (.bool r84))]), (16, .el [.s (.int .i64 qqa), .ow 3 (qB qTV)]), (20, .el [.s (.int .i64 qzX), .ow 3 (qB qwO)]), (21, .call [false, false, false] [.ag [.jk, .jk, .jk, .jk, .jk, .jk, .jk, .jk, .jk], .ag [.jk, .jk], .ag [.jk, .jk]] [.v (.s (.bool r86))])] (by cbv) (by cbv) (by cbv) (by cbv) (by cbv) ?_ ?_
   · exact (hq Tt (hq (qP h_x83) (hq (qe (f := Row_o) h_x83) (hq (qP h_x83) (hq (qe (f := Row_o) h_x83) (hq (qw (f := Row_o) h_x83) (hq (hC (AC.args (qSG h_r84) (ALe.ag rfl LLe.r (ALe.ag rfl (LLe.c (LLe.cons (LLe.im (RLe.eq (qAC qwC _))) LLe.nil)) ALe.nil)))) (hq (fun _ => hq0) (hq (fun g88 => (hq g88 (hq Tt hq0))) (hq (fun g89 => (hq g89 hq0)) (hq (fun g90 => (hq Tt hq0)) (hq (fun _ => hq0) (hq (fun _ => hq0) (hq (fun g93 => (hq g93 (hq Tt hq0))) (hq (fun g94 => (hq g94 (hq g94 (hq (qP (gd_t h_x85 g94)) (hq (qe (f := Row_o) (gd_t h_x85 g94)) hq0))))) (hq (fun g95 => (hq g95 (hq (qP (gd_t h_x85 g95)) (hq (qe (f := Row_o) (gd_t h_x85 g95)) (hq (qw (f := Row_o) (gd_t h_x85 g95)) hq0))))) (hq (fun _ => hq0) (hq (fun _ => hq0) (hq (fun g98 => (hq g98 (hq g98 (hq (qP h_x83) (hq (qe (f := Row_o) h_x83) hq0))))) (hq (fun g99 => (hq g99 (hq (qP h_x83) (hq (qe (f := Row_o) h_x83) (hq (qw (f := Row_o) h_x83) hq0))))) (hq (fun g100 => (hq g100 (hq g100 (hq g100 (hq (hC (AC.args (qoJ (gd_t h_r86 g100)) (ALe.ag rfl LLe.r (ALe.ag rfl (LLe.c (LLe.cons (LLe.im (RLe.eq (qAC qwC _))) LLe.nil)) (ALe.ag rfl (LLe.c (LLe.cons (LLe.im (RLe.eq (qAC qwC _))) LLe.nil)) ALe.nil))))) hq0))))) (hq (fun g101 => (hq g101 hq0)) (hq (fun g102 => (hq g102 (hq (fun q103 => (hq (bo_a g102 q103) hq0)) (hq (fun _ => hq0) hq0)))) (hq (fun _ => hq0) (hq (fun q106 => (hq (bo_m q106) hq0)) hq0)))))))))))))))))))))))))
   refine Run.cond (by cbv) (hq0) (fun c107 => ?_) (fun c107 => ?_)
   ·
    have h := if_t c107 h
    refine Run.seq ?_
    refine Run.region hL hT [] (by cbv) hq0 ?_
    refine Run.ret ?_
    cases h
    refine ⟨_, _, by cbv, ?_, ?_⟩
    · exact LLe.r
    exact (ALe.v LLe.r ALe.nil)
   have h := if_f c107 h
   refine Run.skip ?_
   refine Run.region hL hT [] (by cbv) ?_ ?_
   · exact (hq Tt hq0)
   refine ⟨(ar .add .i64 z81 1), h, Weak.of _ [(1, 1), (2, 2), (3, 3), (4, 4), (5, 5)] hA (by cbv) ?_⟩
   repeat (first | exact hq0 | refine hq (by first | exact Tt | rfl) ?_)
  have h := if_f c82 h
  refine Run.exit ?_
  refine ⟨(), h, Weak.of _ [(1, 1), (2, 2), (3, 3), (4, 4), (5, 5)] hA (by cbv) ?_⟩
  repeat (first | exact hq0 | refine hq (by first | exact Tt | rfl) ?_)
 intro y62 h
 rw [h_K63] at h
 refine Run.seq ?_
 obtain ⟨⟨⟨qSQ, qUV, qVV, qqN, qrN⟩, qra⟩, qfc, h⟩ := bnd h
 refine Run.region hL hT [(1, .call [false, false] [.ag [.jk, .jk, .jk, .jk, .jk], .v (.jk)] [.ag [.s (.int .i64 qSQ), .s (.int .i64 qUV), .s (.string qVV), .ow 46 (qXB qqN), .ow 9 (qR qrN)], .v (.s (.bool qra))])] (by cbv) ?_ ?_
 · exact (hq Tt (hq (hC (AC.args (qyJ qfc) (ALe.ag rfl (LLe.c (LLe.c (LLe.c (LLe.cons (LLe.im (RLe.eq (qAC qdH _))) (LLe.cons (LLe.im (RLe.eq (qAC qnF _))) LLe.nil))))) (ALe.v LLe.r ALe.nil)))) (hq Tt hq0)))
 refine Run.seq ?_
 obtain ⟨⟨⟨qTQ, qWV, qXV, qn, qsN⟩, qsa⟩, qgc, h⟩ := bnd h
 refine Run.region hL hT [(1, .call [false, false] [.ag [.jk, .jk, .jk, .jk, .jk], .v (.jk)] [.ag [.s (.int .i64 qTQ), .s (.int .i64 qWV), .s (.string qXV), .ow 46 (qXB qn), .ow 9 (qR qsN)], .v (.s (.bool qsa))])] (by cbv) ?_ ?_
 · exact (hq Tt (hq (hC (AC.args (qyJ qgc) (ALe.ag rfl (LLe.c (LLe.c (LLe.c (LLe.cons (LLe.im (RLe.eq (qAC qdH _))) (LLe.cons (LLe.im (RLe.eq (qAC qnF _))) LLe.nil))))) (ALe.v LLe.r ALe.nil)))) (hq Tt hq0)))
 refine Run.seq ?_
 obtain ⟨r110, qhc, h⟩ := bnd h
 refine Run.region hL hT [(38, .call [false] [.ag [.jk, .jk, .jk, .jk, .jk]] [.v (.s (.bool r110))])] (by cbv) ?_ ?_
 · exact (hq Tt (hq (fun _ => hq0) (hq (fun q112 => (by have q112C := q112; rw [show ln (qJ r4) = qS r4 from ln_eq Row_o _] at q112C; exact (hq q112 hq0))) (hq (fun _ => hq0) (hq (fun _ => hq0) (hq (fun g115 => (by have g115C := g115; rw [show ln (qJ r4) = qS r4 from ln_eq Row_o _] at g115C; exact (hq g115 (hq Tt hq0)))) (hq (fun _ => hq0) (hq (fun g117 => (by have g117C := g117; rw [show ln (qJ r4) = qS r4 from ln_eq Row_o _] at g117C; exact (hq g117 (hq g117 (hq Tt hq0))))) (hq (fun q118 => (by have q118C := q118; rw [show ln (qJ r4) = qS r4 from ln_eq Row_o _] at q118C; exact (hq q118 hq0))) (hq (fun _ => hq0) (hq (fun _ => hq0) (hq (fun q121 => (by have q121C := q121; rw [show ln (qJ r4) = qS r4 from ln_eq Row_o _] at q121C; exact (hq q121 hq0))) (hq (fun _ => hq0) (hq (fun _ => hq0) (hq (fun g124 => (by have g124C := g124; rw [show ln (qJ r4) = qS r4 from ln_eq Row_o _] at g124C; exact (hq g124 (hq Tt hq0)))) (hq (fun g125 => (by have g125C := g125; rw [show ln (qJ r4) = qS r4 from ln_eq Row_o _] at g125C; exact (hq g125 hq0))) (hq (fun _ => hq0) (hq (fun g127 => (by have g127C := g127; rw [show ln (qJ r4) = qS r4 from ln_eq Row_o _] at g127C; exact (hq g127 (hq g127 (hq Tt hq0))))) (hq (fun g128 => (by have g128C := g128; rw [show ln (qJ r4) = qS r4 from ln_eq Row_o _] at g128C; exact (hq g128 hq0))) (hq (fun _ => hq0) (hq (fun g130 => (by have g130C := g130; rw [show ln (qXB qn) = qV qn from ln_eq qnB _, show ln (qJ r4) = qS r4 from ln_eq Row_o _] at g130C; exact (hq g130 (hq Tt hq0)))) (hq (fun g131 => (by have g131C := g131; rw [show ln (qXB qn) = qV qn from ln_eq qnB _, show ln (qJ r4) = qS r4 from ln_eq Row_o _] at g131C; exact (hq g131 hq0))) (hq (fun _ => hq0) (hq (fun g133 => (by have g133C := g133; rw [show ln (qXB qn) = qV qn from ln_eq qnB _, show ln (qJ r4) = qS r4 from ln_eq Row_o _] at g133C; exact (hq g133 (hq Tt hq0)))) (hq (fun g134 => (by have g134C := g134; rw [show ln (qXB qn) = qV qn from ln_eq qnB _, show ln (qJ r4) = qS r4 from ln_eq Row_o _] at g134C; exact (hq g134 (hq g134 (hq Tt hq0))))) (hq (fun g135 => (by have g135C := g135; rw [show ln (qXB qn) = qV qn from ln_eq qnB _, show ln (qJ r4) = qS r4 from ln_eq Row_o _] at g135C; exact (hq g135 hq0))) (hq (fun _ => hq0) (hq (fun g137 => (by have g137C := g137; rw [show ln (qXB qn) = qV qn from ln_eq qnB _, show ln (qJ r4) = qS r4 from ln_eq Row_o _] at g137C; exact (hq g137 (hq Tt hq0)))) (hq (fun g138 => (by have g138C := g138; rw [show ln (qXB qn) = qV qn from ln_eq qnB _, show ln (qJ r4) = qS r4 from ln_eq Row_o _] at g138C; exact (hq g138 (hq Tt hq0)))) (hq (fun g139 => (by have g139C := g139; rw [show ln (qXB qn) = qV qn from ln_eq qnB _, show ln (qJ r4) = qS r4 from ln_eq Row_o _] at g139C; exact (hq g139 (hq (fun q140 => (by have q140C := q140; rw [show ln (qXB qn) = qV qn from ln_eq qnB _] at q140C; exact (hq (bo_a g139 q140) hq0))) (hq (fun _ => hq0) hq0))))) (hq (fun g142 => (by have g142C := g142; rw [show ln (qJ r4) = qS r4 from ln_eq Row_o _] at g142C; exact (hq g142 (hq (fun _ => hq0) (hq (fun q144 => (by have q144C := q144; rw [show ln (qXB qn) = qV qn from ln_eq qnB _] at q144C; exact (hq (bo_a g142 (bo_m q144)) hq0))) hq0))))) (hq (fun q145 => (by have q145C := q145; rw [show ln (qJ r4) = qS r4 from ln_eq Row_o _] at q145C; exact (hq q145 hq0))) (hq (fun _ => hq0) (hq (fun g147 => (by have g147C := g147; rw [show ln (qXB qn) = qV qn from ln_eq qnB _, show ln (qJ r4) = qS r4 from ln_eq Row_o _] at g147C; exact (hq Tt hq0))) (hq (fun g148 => (by have g148C := g148; rw [show ln (qXB qn) = qV qn from ln_eq qnB _, show ln (qJ r4) = qS r4 from ln_eq Row_o _] at g148C; exact (hq g148 (hq (hC (AC.args (quG (gd_t qhc g148C)) (ALe.ag rfl (LLe.c (LLe.c (LLe.c (LLe.cons (LLe.im (RLe.eq (qAC qdH _))) (LLe.cons (LLe.im (RLe.eq (qAC qnF _))) LLe.nil))))) ALe.nil))) hq0)))) (hq (fun q149 => (by have q149C := q149; rw [show ln (qXB qn) = qV qn from ln_eq qnB _, show ln (qJ r4) = qS r4 from ln_eq Row_o _] at q149C; exact (hq q149 hq0))) (hq (fun _ => hq0) hq0)))))))))))))))))))))))))))))))))))))
 rw [show ln (qXB qn) = qV qn from ln_eq qnB _]
 rw [show ln (qJ r4) = qS r4 from ln_eq Row_o _]
 refine Run.ret ?_
 cases h
 refine ⟨_, _, by cbv, ?_, ?_⟩
 · exact LLe.r
 exact (ALe.v LLe.r ALe.nil)
end Go.Proofs.YtbhleignjmcdiaaGreatDoor.L