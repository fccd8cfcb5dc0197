/- The contracts of the program's functions. -/
import Derived.Test.YtbhleignjmcdiaaGreatDoorProg
import Derived.Test.YtbhleignjmcdiaaGreatDoorFnAnswerC0
import Derived.KernelRfl
namespace Go.Proofs.YtbhleignjmcdiaaGreatDoor.L
open Go Go.Proofs
set_option linter.unusedVariables false
set_option linter.unusedSimpArgs false
set_option maxRecDepth 8000
theorem qiR {qN : List Int} {qEB : Int} {qq : List (List Row)} {qr : Int} {qT : List Cond} {qt : Int} {qHB : Bool} {qu : Int} {qBB : List Int} {qIB : Bool} {qQ : Int} {qb : Int} {r : Json} (h : qpD.f (Store.mk (Schema.mk qN) qEB qq) (Query.mk qr qT qt qHB qu qBB qIB qQ qb) = some r) : AC Tryz.prog 14 [.ag [.im false (rowsOf Int_c qN), .s (.int .i64 qEB), .im false (rowsOf qLC qq)], .ag [.s (.int .i64 qr), .im false (rowsOf qy qT), .s (.int .i64 qt), .s (.bool qHB), .s (.int .i64 qu), .im false (rowsOf Int_c qBB), .s (.bool qIB), .s (.int .i64 qQ), .s (.int .i64 qb)]] [.ag [.jk, .jk, .jk], .ag [.jk, .jk, .jk, .jk, .jk, .jk, .jk, .jk, .jk]] [.ag [.s (.int .i64 r.Kind), .s (.int .i64 r.N), .s (.string r.S), .ow 46 (rowsOf qnB r.List_), .ow 9 (rowsOf Str_c r.Names)]] := by
 unfold qpD.f at h
 let qK := rowsOf qy
 let qB := rowsOf Int_c
 let qXB := rowsOf qnB
 let qBC := rowsOf qLC
 let qJ := rowsOf Row_o
 let qR := rowsOf Str_c
 let qS := @lenI Row
 show AC Tryz.prog 14 [.ag [.im false (qB qN), .s (.int .i64 qEB), .im false (qBC qq)], .ag [.s (.int .i64 qr), .im false (qK qT), .s (.int .i64 qt), .s (.bool qHB), .s (.int .i64 qu), .im false (qB qBB), .s (.bool qIB), .s (.int .i64 qQ), .s (.int .i64 qb)]] _ _
 refine run3 Tryz.func14 (by rfl) (by rfl) (by cbv) ⟨by decide, rfl⟩ ?_
 intro ar cm bo sc sa sx ss sl bs sb ln sr ap up rp fr ge le lt nz mm ma sm fl al ci hL F hP hA hT hM hC
 refine Run.seq ?_
 refine Run.region hL hT [] (by cbv) hq0 ?_
 refine Run.seq ?_
 refine Run.seq ?_
 obtain ⟨r1, h_r1, h⟩ := bnd h
 obtain ⟨r2, h_r2, h⟩ := bnd h
 refine Run.region hL hT [(1, .call [false] [.ag [.jk, .jk, .jk]] [.v (.s (.bool r1))]), (7, .call [false, false] [.ag [.jk], .ag [.jk, .jk, .jk, .jk, .jk, .jk, .jk, .jk, .jk]] [.v (.s (.bool r2))])] (by cbv) ?_ ?_
 · exact (hq Tt (hq (hC (qTG h_r1)) (hq (fun _ => hq0) (hq (fun g4 => (hq g4 (hq Tt hq0))) (hq (fun g5 => (hq Tt hq0)) (hq (fun g6 => (hq g6 (hq g6 (hq (hC (qUG (gd_t h_r2 g6))) hq0)))) (hq (fun g7 => (hq g7 hq0)) (hq (fun _ => hq0) (hq (fun q9 => (hq (bo_m q9) hq0)) hq0)))))))))
 refine Run.cond (by cbv) (hq0) (fun c10 => ?_) (fun c10 => ?_)
 ·
  have h := if_t c10 h
  refine Run.seq ?_
  refine Run.region hL hT [] (by cbv) ?_ ?_
  · exact (hq Tt hq0)
  refine Run.ret ?_
  cases h
  refine ⟨_, _, by cbv, ?_, ?_⟩
  · exact LLe.r
  exact (ALe.ag rfl (LLe.c (LLe.c (LLe.c (LLe.cons LLe.nilO (LLe.cons LLe.nilO LLe.nil))))) ALe.nil)
 have h := if_f c10 h
 refine Run.skip ?_
 refine Run.seq ?_
 obtain ⟨r11, h_r11, h⟩ := bnd h
 refine Run.region hL hT [(2, .call [false, false] [.ag [.jk, .jk, .jk], .ag [.jk, .jk, .jk, .jk, .jk, .jk, .jk, .jk, .jk]] [.v (.ow 56 (qJ r11))])] (by cbv) ?_ ?_
 · exact (hq Tt (hq Tt (hq (hC (qLI h_r11)) hq0)))
 refine Run.seq ?_
 refine Run.region hL hT [] (by cbv) hq0 ?_
 obtain ⟨K13, h_K13, h⟩ := joinE h
 refine Run.join1 K13 (r := r) (fun (y12 : List Int) => ⟨43, 100000, [(3, .pt 1 0 0), (4, .pt 2 0 0), (5, .rf 3), (6, .rf 4)], [(1, .box 32 [.t (.s (.int .i64 qr)), .t (.im false (qK qT)), .t (.s (.int .i64 qt)), .t (.s (.bool qHB)), .t (.s (.int .i64 qu)), .t (.im false (qB qBB)), .t (.s (.bool qIB)), .t (.s (.int .i64 qQ)), .t (.s (.int .i64 qb))]), (2, .box 46 [.t (.s (.int .i64 0)), .t (.s (.int .i64 0)), .t (.s (.string ByteArray.empty)), .t (.s (.slice none 0 0)), .t (.s (.slice none 0 0))]), (3, .row 0 56 2 (qJ r11)), (4, .row 0 3 1 (qB y12))]⟩) ?_ ?_
 ·
  skip
  refine Run.seq ?_
  refine Run.region hL hT [] (by cbv) hq0 ?_
  rw [show ln (qJ r11) = qS r11 from ln_eq Row_o _]
  refine Run.block ?_
  refine Run.loop2 (fun (z33 : List Int) (z34 : Int) => ⟨43, 100000, [(2, .pt 1 0 0), (3, .pt 2 0 0), (4, .pt 3 0 0), (5, .rf 4), (6, .rf 5), (24, .rf 4), (25, .t (.s (.int .i64 (qS r11)))), (26, .t (.s (.int .i64 z34)))], [(1, .box 29 [.t (.im false (qB qN)), .t (.s (.int .i64 qEB)), .t (.im false (qBC qq))]), (2, .box 32 [.t (.s (.int .i64 qr)), .t (.im false (qK qT)), .t (.s (.int .i64 qt)), .t (.s (.bool qHB)), .t (.s (.int .i64 qu)), .t (.im false (qB qBB)), .t (.s (.bool qIB)), .t (.s (.int .i64 qQ)), .t (.s (.int .i64 qb))]), (3, .box 46 [.t (.s (.int .i64 0)), .t (.s (.int .i64 0)), .t (.s (.string ByteArray.empty)), .t (.s (.slice none 0 0)), .t (.s (.slice none 0 0))]), (4, .row 0 56 2 (qJ r11)), (5, .row 0 3 1 (qB z33))]⟩) (x0 := []) (x1 := 0) h (Weak.of _ [(1, 0), (2, 1), (3, 2), (4, 8194), (5, 12288)] hA (by cbv) ?_) (fun _ _ => rfl) ?_
  · repeat (first | exact hq0 | refine hq (by first | exact Tt | rfl) ?_)
  intro k z33 z34 h
  rw [qpD.l0] at h
  refine Run.seq ?_
  refine Run.region hL hT [] (by cbv) ?_ ?_
  · exact (hq Tt hq0)
  refine Run.seq ?_
  refine Run.cond (by cbv) (hq0) (fun c35 => ?_) (fun c35 => ?_)
  ·
   have h := if_t c35 h
   refine Run.skip ?_
   refine Run.seq ?_
   refine Run.block ?_
   refine Run.seq ?_
   obtain ⟨⟨qpS, qaK⟩, h_x36, h⟩ := bnd h
   refine Run.region hL hT [(1, .el [.s (.int .i64 qpS), .ow 3 (qB qaK)])] (by cbv) ?_ ?_
   · exact (hq (qP h_x36) (hq (qe (f := Row_o) h_x36) (hq (qP h_x36) (hq (qe (f := Row_o) h_x36) (hq (qw (f := Row_o) h_x36) (hq Tt hq0))))))
   obtain ⟨r37, h_r37, h⟩ := bnd h
   obtain ⟨l38, h_l38, h⟩ := bnd h
   obtain ⟨l39, h_l39, h⟩ := bnd h
   refine Run.region hL hT [(5, .call [false, false, false] [.ag [.jk, .jk, .jk], .ag [.jk, .jk, .jk, .jk, .jk, .jk, .jk, .jk, .jk], .v (.jk)] [.v (.s (.int .i64 r37))])] (by cbv) ?_ ?_
   · exact (hq Tt (hq Tt (hq Tt (hq (hC (qcN h_r37)) (hq (qnC (P := Tryz.prog) (f := Int_c) RLe.r (qGB (f := Int_c) h_l38 (RLe.cons rfl LLe.r RLe.nil)) h_l39) hq0)))))
   refine Run.row (rows := (ap (qB z33) ([[.s (.int .i64 r37)]]))) 108199 (qB l39) (by cbv) (qmC (f := Int_c) RLe.r (qGB (f := Int_c) h_l38 (RLe.cons rfl LLe.r RLe.nil)) h_l39) ?_
   refine Run.region hL hT [] (by cbv) ?_ ?_
   · exact (hq Tt hq0)
   refine ⟨l39, (ar .add .i64 z34 1), h, Weak.of _ [(1, 1), (2, 2), (3, 3), (4, 4), (5, 108199)] hA (by cbv) ?_⟩
   repeat (first | exact hq0 | refine hq (by first | exact Tt | rfl) ?_)
  have h := if_f c35 h
  refine Run.exit ?_
  refine ⟨z33, h, Weak.of _ [(1, 2), (2, 3), (3, 4), (4, 5)] hA (by cbv) ?_⟩
  repeat (first | exact hq0 | refine hq (by first | exact Tt | rfl) ?_)
 intro y12 h
 rw [h_K13] at h
 refine Run.seq ?_
 obtain ⟨⟨qxW, qZb, qab, qiU, qjU⟩, h_r40, h⟩ := bnd h
 refine Run.region hL hT [(3, .call [false, false, false] [.ag [.jk, .jk, .jk, .jk, .jk, .jk, .jk, .jk, .jk], .v (.jk), .v (.jk)] [.ag [.s (.int .i64 qxW), .s (.int .i64 qZb), .s (.string qab), .ow 46 (qXB qiU), .ow 9 (qR qjU)]])] (by cbv) ?_ ?_
 · exact (hq Tt (hq (hC (AC.args (qzP h_r40) (ALe.ag rfl LLe.r (ALe.v (LLe.im (RLe.eq (qAC qkP _))) (ALe.v (LLe.im (RLe.eq (qAC qwC _))) ALe.nil))))) (hq Tt hq0)))
 refine Run.ret ?_
 cases h
 refine ⟨_, _, by cbv, ?_, ?_⟩
 · exact LLe.r
 exact (ALe.ag rfl LLe.r ALe.nil)
theorem qZE {a0v_b : List Int} {a0v_i : Int} {a0v_h : Int} {r : l1Cur × Int} (h : qfD.f (l1Cur.mk a0v_b a0v_i a0v_h) = some r) : AC Tryz.prog 95 [.v (.bx 119 [.im true (rowsOf u8_c a0v_b), .s (.int .i64 a0v_i), .s (.int .i64 a0v_h)])] [.v (.bx 119 [.im true (rowsOf u8_c a0v_b), .s (.int .i64 r.1.i), .s (.int .i64 r.1.h)])] [.v (.s (.int .i64 r.2))] := by
 unfold qfD.f at h
 let eu8_c := rowsOf u8_c
 let qiH := @lenI Int
 show AC Tryz.prog 95 [.v (.bx 119 [.im true (eu8_c a0v_b), .s (.int .i64 a0v_i), .s (.int .i64 a0v_h)])] _ _
 refine run3 Tryz.func95 (by rfl) (by rfl) (by cbv) ⟨by decide, rfl⟩ ?_
 intro ar cm bo sc sa sx ss sl bs sb ln sr ap up rp fr ge le lt nz mm ma sm fl al ci hL F hP hA hT hM hC
 refine Run.seq ?_
 refine Run.region hL hT [] (by cbv) hq0 ?_
 refine Run.seq ?_
 refine Run.region hL hT [] (by cbv) ?_ ?_
 · exact (hq Tt (hq Tt (hq Tt (hq Tt hq0))))
 refine Run.seq ?_
 refine Run.draw hL hT hM [] (by cbv) (by cbv) (by cbv) (by cbv) (by cbv) ?_ ?_
 · exact (hq Tt (hq Tt (hq Tt (hq (by decide : (0 : Int) ≤ 33) (hq (by decide : (33 : Int) < 64) (hq Tt (hq Tt (hq Tt (hq (by decide : (0 : Int) ≤ 45) (hq (by decide : (45 : Int) < 64) (hq Tt (hq Tt hq0))))))))))))
 refine Run.seq ?_
 refine Run.seq ?_
 refine Run.draw hL hT hM [] (by cbv) (by cbv) (by cbv) (by cbv) (by cbv) ?_ ?_
 · exact (hq Tt (hq Tt (hq Tt hq0)))
 rw [show ln (eu8_c a0v_b) = qiH a0v_b from ln_eq u8_c _]
 refine Run.cond (by cbv) (hq0) (fun c1 => ?_) (fun c1 => ?_)
 ·
  have h := if_t c1 h
  refine Run.seq ?_
  obtain ⟨x2, h_x2, h⟩ := bnd h
  refine Run.draw hL hT hM [(9, .el [.s (.int .u8 x2)])] (by cbv) (by cbv) (by cbv) (by cbv) (by cbv) ?_ ?_
  · exact (hq Tt (hq Tt (hq (qP h_x2) (hq (qe (f := u8_c) h_x2) (hq (qw (f := u8_c) h_x2) (hq Tt (hq Tt hq0)))))))
  refine Run.region hL hT [] (by cbv) ?_ ?_
  · exact (hq Tt (hq Tt (hq Tt hq0)))
  refine Run.seq ?_
  refine Run.region hL hT [] (by cbv) hq0 ?_
  refine Run.ret ?_
  cases h
  refine ⟨_, _, by cbv, ?_, ?_⟩
  · exact LLe.r
  exact (ALe.v LLe.r ALe.nil)
 have h := if_f c1 h
 refine Run.skip ?_
 refine Run.seq ?_
 refine Run.region hL hT [] (by cbv) hq0 ?_
 refine Run.ret ?_
 cases h
 refine ⟨_, _, by cbv, ?_, ?_⟩
 · exact LLe.r
 exact (ALe.v LLe.r ALe.nil)
theorem qx {a0v_b : List Int} {a0v_i : Int} {a0v_h : Int} {a1 : Int} {r : l1Cur × Int} (h : qk.f (l1Cur.mk a0v_b a0v_i a0v_h) a1 = some r) : AC Tryz.prog 39 [.v (.bx 119 [.im true (rowsOf u8_c a0v_b), .s (.int .i64 a0v_i), .s (.int .i64 a0v_h)]), .v (.s (.int .i64 a1))] [.v (.bx 119 [.im true (rowsOf u8_c a0v_b), .s (.int .i64 r.1.i), .s (.int .i64 r.1.h)]), .v (.jk)] [.v (.s (.int .i64 r.2))] := by
 unfold qk.f at h
 let eu8_c := rowsOf u8_c
 show AC Tryz.prog 39 [.v (.bx 119 [.im true (eu8_c a0v_b), .s (.int .i64 a0v_i), .s (.int .i64 a0v_h)]), .v (.s (.int .i64 a1))] _ _
 refine run3 Tryz.func39 (by rfl) (by rfl) (by cbv) ⟨by decide, rfl⟩ ?_
 intro ar cm bo sc sa sx ss sl bs sb ln sr ap up rp fr ge le lt nz mm ma sm fl al ci hL F hP hA hT hM hC
 refine Run.seq ?_
 refine Run.region hL hT [] (by cbv) hq0 ?_
 refine Run.seq ?_
 refine Run.seq ?_
 refine Run.region hL hT [] (by cbv) ?_ ?_
 · exact (hq Tt hq0)
 refine Run.cond (by cbv) (hq0) (fun c1 => ?_) (fun c1 => ?_)
 ·
  have h := if_t c1 h
  refine Run.seq ?_
  refine Run.region hL hT [] (by cbv) hq0 ?_
  refine Run.ret ?_
  cases h
  refine ⟨_, _, by cbv, ?_, ?_⟩
  · exact LLe.r
  exact (ALe.v LLe.r ALe.nil)
 have h := if_f c1 h
 refine Run.skip ?_
 refine Run.seq ?_
 refine Run.seq ?_
 refine Run.region hL hT [] (by cbv) ?_ ?_
 · exact (hq Tt hq0)
 refine Run.cond (by cbv) (hq0) (fun c2 => ?_) (fun c2 => ?_)
 ·
  have h := if_t c2 h
  refine Run.seq ?_
  obtain ⟨⟨⟨qqY, qAQ, qBQ⟩, r3v_2⟩, h_r3, h⟩ := bnd h
  obtain ⟨u4, h_u4, h⟩ := bnd h
  refine Run.region hL hT [(1, .call [true] [.v (.bx 119 [.im true (eu8_c a0v_b), .s (.int .i64 qAQ), .s (.int .i64 qBQ)])] [.v (.s (.int .i64 r3v_2))])] (by cbv) ?_ ?_
  · exact (hq (hC (qZE h_r3)) (hq Tt (hq (nz_t h_u4) hq0)))
  refine Run.ret ?_
  cases h
  refine ⟨_, _, by cbv, ?_, ?_⟩
  · exact LLe.r
  exact (ALe.v LLe.r ALe.nil)
 have h := if_f c2 h
 refine Run.skip ?_
 refine Run.seq ?_
 obtain ⟨⟨⟨qrY, qCQ, qDQ⟩, r5v_2⟩, h_r5, h⟩ := bnd h
 refine Run.region hL hT [(1, .call [true] [.v (.bx 119 [.im true (eu8_c a0v_b), .s (.int .i64 qCQ), .s (.int .i64 qDQ)])] [.v (.s (.int .i64 r5v_2))])] (by cbv) ?_ ?_
 · exact (hq (hC (qZE h_r5)) hq0)
 refine Run.seq ?_
 obtain ⟨⟨⟨qsY, qEQ, qFQ⟩, r6v_2⟩, h_r6, h⟩ := bnd h
 refine Run.region hL hT [(1, .call [true] [.v (.bx 119 [.im true (eu8_c a0v_b), .s (.int .i64 qEQ), .s (.int .i64 qFQ)])] [.v (.s (.int .i64 r6v_2))])] (by cbv) ?_ ?_
 · exact (hq (hC (qZE h_r6)) hq0)
 refine Run.seq ?_
 obtain ⟨⟨⟨qtY, qGQ, qHQ⟩, r7v_2⟩, h_r7, h⟩ := bnd h
 refine Run.region hL hT [(1, .call [true] [.v (.bx 119 [.im true (eu8_c a0v_b), .s (.int .i64 qGQ), .s (.int .i64 qHQ)])] [.v (.s (.int .i64 r7v_2))])] (by cbv) ?_ ?_
 · exact (hq (hC (qZE h_r7)) hq0)
 refine Run.seq ?_
 obtain ⟨⟨⟨quY, qIQ, qJQ⟩, r8v_2⟩, h_r8, h⟩ := bnd h
 refine Run.region hL hT [(1, .call [true] [.v (.bx 119 [.im true (eu8_c a0v_b), .s (.int .i64 qIQ), .s (.int .i64 qJQ)])] [.v (.s (.int .i64 r8v_2))])] (by cbv) ?_ ?_
 · exact (hq (hC (qZE h_r8)) hq0)
 refine Run.seq ?_
 obtain ⟨u9, h_u9, h⟩ := bnd h
 refine Run.region hL hT [] (by cbv) ?_ ?_
 · exact (hq Tt (hq Tt (hq Tt (hq Tt (hq Tt (hq Tt (hq Tt (hq (nz_t h_u9) hq0))))))))
 refine Run.ret ?_
 cases h
 refine ⟨_, _, by cbv, ?_, ?_⟩
 · exact LLe.r
 exact (ALe.v LLe.r ALe.nil)
theorem qqF {a0v_b : List Int} {a0v_i : Int} {a0v_h : Int} {r : l1Cur × Schema} (h : qkB.f (l1Cur.mk a0v_b a0v_i a0v_h) = some r) : AC Tryz.prog 91 [.v (.bx 119 [.im true (rowsOf u8_c a0v_b), .s (.int .i64 a0v_i), .s (.int .i64 a0v_h)])] [.v (.bx 119 [.im true (rowsOf u8_c a0v_b), .s (.int .i64 r.1.i), .s (.int .i64 r.1.h)])] [.ag [.ow 3 (rowsOf Int_c r.2.Cols)]] := by
 unfold qkB.f at h
 let qB := rowsOf Int_c
 let eu8_c := rowsOf u8_c
 show AC Tryz.prog 91 [.v (.bx 119 [.im true (eu8_c a0v_b), .s (.int .i64 a0v_i), .s (.int .i64 a0v_h)])] _ _
 refine run3 Tryz.func91 (by rfl) (by rfl) (by cbv) ⟨by decide, rfl⟩ ?_
 intro ar cm bo sc sa sx ss sl bs sb ln sr ap up rp fr ge le lt nz mm ma sm fl al ci hL F hP hA hT hM hC
 refine Run.seq ?_
 refine Run.region hL hT [] (by cbv) hq0 ?_
 refine Run.seq ?_
 refine Run.region hL hT [] (by cbv) ?_ ?_
 · exact (hq Tt hq0)
 refine Run.seq ?_
 refine Run.seq ?_
 refine Run.region hL hT [] (by cbv) hq0 ?_
 refine Run.block ?_
 refine Run.loop4 (fun (z10 : Int) (z11 : Int) (z12 : List Int) (z13 : Int) => ⟨22, 100000, [(0, .pt 0 0 0), (2, .pt 1 0 0), (3, .pt 2 0 0), (4, .t (.s (.int .i64 z13)))], [(0, .box 119 [.t (.im true (eu8_c a0v_b)), .t (.s (.int .i64 z10)), .t (.s (.int .i64 z11))]), (1, .box 26 [.t (.s (.slice none 0 0))]), (2, .box 26 [.rf 3]), (3, .row 0 3 1 (qB z12))]⟩) (x0 := a0v_i) (x1 := a0v_h) (x2 := []) (x3 := 0) h ((Weak.nilB (l := []) hT 4098 0 13289 3 rfl (by cbv) (by cbv) (by cbv)).trans (Weak.of _ [(0, 0), (1, 1), (2, 4098), (3, 13289)] hA (by cbv) ?_)) (fun _ _ _ _ => rfl) ?_
 · repeat (first | exact hq0 | refine hq (by first | exact Tt | rfl) ?_)
 intro k z10 z11 z12 z13 h
 rw [qkB.l0] at h
 refine Run.seq ?_
 refine Run.seq ?_
 obtain ⟨⟨⟨qbb, qyW, qzW⟩, qcb⟩, h_r14, h⟩ := bnd h
 refine Run.region hL hT [(2, .call [true, false] [.v (.bx 119 [.im true (eu8_c a0v_b), .s (.int .i64 qyW), .s (.int .i64 qzW)]), .v (.jk)] [.v (.s (.int .i64 qcb))])] (by cbv) ?_ ?_
 · exact (hq (hC (qx h_r14)) (hq Tt (hq Tt hq0)))
 refine Run.cond (by cbv) (hq0) (fun c15 => ?_) (fun c15 => ?_)
 ·
  have h := if_t c15 h
  refine Run.skip ?_
  refine Run.seq ?_
  refine Run.block ?_
  obtain ⟨⟨⟨qAX, qrJ, qsJ⟩, qjT⟩, h_r16, h⟩ := bnd h
  obtain ⟨l17, h_l17, h⟩ := bnd h
  obtain ⟨l18, h_l18, h⟩ := bnd h
  refine Run.draw hL hT hM [(3, .call [true, false] [.v (.bx 119 [.im true (eu8_c a0v_b), .s (.int .i64 qrJ), .s (.int .i64 qsJ)]), .v (.jk)] [.v (.s (.int .i64 qjT))])] (by cbv) (by cbv) (by cbv) (by cbv) (by cbv) ?_ ?_
  · exact (hq Tt (hq (hC (qx h_r16)) (hq Tt (hq (qnC (P := Tryz.prog) (f := Int_c) RLe.r (qGB (f := Int_c) h_l17 (RLe.cons rfl LLe.r RLe.nil)) h_l18) (hq Tt hq0)))))
  refine Run.row (rows := (ap (qB z12) ([[.s (.int .i64 (ar .add .i64 1 qjT))]]))) 104102 (qB l18) (by cbv) (qmC (f := Int_c) RLe.r (qGB (f := Int_c) h_l17 (RLe.cons rfl LLe.r RLe.nil)) h_l18) ?_
  refine Run.region hL hT [] (by cbv) ?_ ?_
  · exact (hq Tt hq0)
  refine ⟨qrJ, qsJ, l18, (ar .add .i64 z13 1), h, Weak.of _ [(0, 0), (1, 1), (2, 2), (3, 104102)] hA (by cbv) ?_⟩
  repeat (first | exact hq0 | refine hq (by first | exact Tt | rfl) ?_)
 have h := if_f c15 h
 refine Run.exit ?_
 refine Run.seq ?_
 refine Run.region hL hT [] (by cbv) ?_ ?_
 · exact (hq Tt (hq Tt hq0))
 refine Run.ret ?_
 cases h
 refine ⟨_, _, by cbv, ?_, ?_⟩
 · exact LLe.r
 exact (ALe.ag rfl LLe.r ALe.nil)
theorem qaD {a0v_b : List Int} {a0v_i : Int} {a0v_h : Int} {a1 : List Int} {r : l1Cur × Int} (h : qUC.f (l1Cur.mk a0v_b a0v_i a0v_h) a1 = some r) : AC Tryz.prog 94 [.v (.bx 119 [.im true (rowsOf u8_c a0v_b), .s (.int .i64 a0v_i), .s (.int .i64 a0v_h)]), .v (.im false (rowsOf Int_c a1))] [.v (.bx 119 [.im true (rowsOf u8_c a0v_b), .s (.int .i64 r.1.i), .s (.int .i64 r.1.h)]), .v (.jk)] [.v (.s (.int .i64 r.2))] := by
 unfold qUC.f at h
 let qB := rowsOf Int_c
 let eu8_c := rowsOf u8_c
 let qZ := @lenI Int
 show AC Tryz.prog 94 [.v (.bx 119 [.im true (eu8_c a0v_b), .s (.int .i64 a0v_i), .s (.int .i64 a0v_h)]), .v (.im false (qB a1))] _ _
 refine run3 Tryz.func94 (by rfl) (by rfl) (by cbv) ⟨by decide, rfl⟩ ?_
 intro ar cm bo sc sa sx ss sl bs sb ln sr ap up rp fr ge le lt nz mm ma sm fl al ci hL F hP hA hT hM hC
 refine Run.seq ?_
 refine Run.region hL hT [] (by cbv) hq0 ?_
 refine Run.seq ?_
 obtain ⟨⟨⟨qcI, qkD, qlD⟩, r1v_2⟩, h_r1, h⟩ := bnd h
 obtain ⟨x2, h_x2, h⟩ := bnd h
 refine Run.region hL hT [(4, .call [true, false] [.v (.bx 119 [.im true (eu8_c a0v_b), .s (.int .i64 qkD), .s (.int .i64 qlD)]), .v (.jk)] [.v (.s (.int .i64 r1v_2))]), (5, .el [.s (.int .i64 x2)])] (by cbv) ?_ ?_
 · exact (hq (by rw [show ln (qB a1) = qZ a1 from ln_eq Int_c _]; exact (hC (qx h_r1))) (hq (qP h_x2) (hq (qe (f := Int_c) h_x2) (hq (qw (f := Int_c) h_x2) hq0))))
 rw [show ln (qB a1) = qZ a1 from ln_eq Int_c _]
 refine Run.ret ?_
 cases h
 refine ⟨_, _, by cbv, ?_, ?_⟩
 · exact LLe.r
 exact (ALe.v LLe.r ALe.nil)
theorem qeK {a0v_b : List Int} {a0v_i : Int} {a0v_h : Int} {r : l1Cur × Schema} (h : qXE.f (l1Cur.mk a0v_b a0v_i a0v_h) = some r) : AC Tryz.prog 149 [.v (.bx 119 [.im true (rowsOf u8_c a0v_b), .s (.int .i64 a0v_i), .s (.int .i64 a0v_h)])] [.v (.bx 119 [.im true (rowsOf u8_c a0v_b), .s (.int .i64 r.1.i), .s (.int .i64 r.1.h)])] [.ag [.ow 3 (rowsOf Int_c r.2.Cols)]] := by
 unfold qXE.f at h
 let qB := rowsOf Int_c
 let eu8_c := rowsOf u8_c
 show AC Tryz.prog 149 [.v (.bx 119 [.im true (eu8_c a0v_b), .s (.int .i64 a0v_i), .s (.int .i64 a0v_h)])] _ _
 refine run3 Tryz.func149 (by rfl) (by rfl) (by cbv) ⟨by decide, rfl⟩ ?_
 intro ar cm bo sc sa sx ss sl bs sb ln sr ap up rp fr ge le lt nz mm ma sm fl al ci hL F hP hA hT hM hC
 refine Run.seq ?_
 refine Run.region hL hT [] (by cbv) hq0 ?_
 refine Run.seq ?_
 obtain ⟨⟨⟨qcI, qkD, qlD⟩, ⟨qZG⟩⟩, h_r1, h⟩ := bnd h
 refine Run.region hL hT [(1, .call [true] [.v (.bx 119 [.im true (eu8_c a0v_b), .s (.int .i64 qkD), .s (.int .i64 qlD)])] [.ag [.ow 3 (qB qZG)]])] (by cbv) ?_ ?_
 · exact (hq (hC (qqF h_r1)) (hq Tt hq0))
 refine Run.seq ?_
 refine Run.seq ?_
 obtain ⟨⟨⟨qdL, qDF, qEF⟩, r2v_2⟩, h_r2, h⟩ := bnd h
 refine Run.region hL hT [(1, .call [true, false] [.v (.bx 119 [.im true (eu8_c a0v_b), .s (.int .i64 qDF), .s (.int .i64 qEF)]), .v (.jk)] [.v (.s (.int .i64 r2v_2))])] (by cbv) ?_ ?_
 · exact (hq (hC (qx h_r2)) hq0)
 refine Run.block ?_
 refine Run.seq ?_
 refine Run.region hL hT [] (by cbv) ?_ ?_
 · exact (hq Tt hq0)
 refine Run.cond (by cbv) (hq0) (fun c3 => ?_) (fun c3 => ?_)
 ·
  have h := if_t c3 h
  obtain ⟨l4, h_l4, h⟩ := bnd h
  obtain ⟨l5, h_l5, h⟩ := bnd h
  refine Run.region hL hT [] (by cbv) ?_ ?_
  · exact (hq Tt (hq (qnC (P := Tryz.prog) (f := Int_c) RLe.r (qGB (f := Int_c) h_l4 (RLe.cons rfl LLe.r (RLe.cons rfl LLe.r (RLe.cons rfl LLe.r RLe.nil)))) h_l5) (hq Tt hq0)))
  refine Run.row (rows := (ap (qB qZG) ([[.s (.int .i64 1)], [.s (.int .i64 1)], [.s (.int .i64 1)]]))) 16388 (qB l5) (by cbv) (qmC (f := Int_c) RLe.r (qGB (f := Int_c) h_l4 (RLe.cons rfl LLe.r (RLe.cons rfl LLe.r (RLe.cons rfl LLe.r RLe.nil)))) h_l5) ?_
  refine Run.seq ?_
  refine Run.region hL hT [] (by cbv) ?_ ?_
  · exact (hq Tt (hq Tt hq0))
  refine Run.ret ?_
  cases h
  refine ⟨_, _, by cbv, ?_, ?_⟩
  · exact LLe.r
  exact (ALe.ag rfl LLe.r ALe.nil)
 have h := if_f c3 h
 refine Run.seq ?_
 refine Run.region hL hT [] (by cbv) ?_ ?_
 · exact (hq Tt hq0)
 refine Run.cond (by cbv) (hq0) (fun c6 => ?_) (fun c6 => ?_)
 ·
  have h := if_t c6 h
  obtain ⟨l7, h_l7, h⟩ := bnd h
  obtain ⟨⟨⟨quY, qIQ, qJQ⟩, r8v_2⟩, h_r8, h⟩ := bnd h
  obtain ⟨x9, h_x9, h⟩ := bnd h
  obtain ⟨l10, h_l10, h⟩ := bnd h
  refine Run.draw hL hT hM [(4, .call [true, false] [.v (.bx 119 [.im true (eu8_c a0v_b), .s (.int .i64 qIQ), .s (.int .i64 qJQ)]), .v (.jk)] [.v (.s (.int .i64 r8v_2))])] (by cbv) (by cbv) (by cbv) (by cbv) (by cbv) ?_ ?_
  · exact (hq Tt (hq (hC (AC.args (qaD h_r8) (ALe.v LLe.r (ALe.v (quQ rfl (qGB (f := Int_c) h_l7 (RLe.cons rfl LLe.r (RLe.cons rfl LLe.r (RLe.cons rfl LLe.r RLe.nil))))) ALe.nil)))) (hq (qP h_x9) (hq (qe (f := Int_c) h_x9) (hq (qP h_x9) (hq (qe (f := Int_c) h_x9) hq0))))))
  refine Run.row (rows := (up (qB qZG) 0 0 [.s (.int .i64 r8v_2)])) 4098 (qB l10) (by cbv) (qyV (f := Int_c) h_x9 h_l10 rfl LLe.r) ?_
  refine Run.row (rows := [[.s (.int .i64 0)], [.s (.int .i64 5)], [.s (.int .i64 (-1))]]) 20484 (qB l7) (by cbv) (qGB (f := Int_c) h_l7 (RLe.cons rfl LLe.r (RLe.cons rfl LLe.r (RLe.cons rfl LLe.r RLe.nil)))) ?_
  refine Run.seq ?_
  refine Run.region hL hT [] (by cbv) ?_ ?_
  · exact (hq Tt (hq Tt hq0))
  refine Run.ret ?_
  cases h
  refine ⟨_, _, by cbv, ?_, ?_⟩
  · exact LLe.r
  exact (ALe.ag rfl LLe.r ALe.nil)
 have h := if_f c6 h
 refine Run.seq ?_
 refine Run.region hL hT [] (by cbv) ?_ ?_
 · exact (hq Tt hq0)
 refine Run.cond (by cbv) (hq0) (fun c11 => ?_) (fun c11 => ?_)
 ·
  have h := if_t c11 h
  refine Run.region hL hT [] (by cbv) ?_ ?_
  · exact (hq Tt hq0)
  refine Run.seq ?_
  refine Run.region hL hT [] (by cbv) ?_ ?_
  · exact (hq Tt (hq Tt hq0))
  refine Run.ret ?_
  cases h
  refine ⟨_, _, by cbv, ?_, ?_⟩
  · exact LLe.r
  exact (ALe.ag rfl (LLe.cons LLe.nilO LLe.nil) ALe.nil)
 have h := if_f c11 h
 refine Run.skip ?_
 refine Run.seq ?_
 refine Run.region hL hT [] (by cbv) ?_ ?_
 · exact (hq Tt (hq Tt hq0))
 refine Run.ret ?_
 cases h
 refine ⟨_, _, by cbv, ?_, ?_⟩
 · exact LLe.r
 exact (ALe.ag rfl LLe.r ALe.nil)
theorem qJL {qL : List Int} {r : Schema} (h : qvE.f (Schema.mk qL) = some r) : AC Tryz.prog 107 [.ag [.im false (rowsOf Int_c qL)]] [.ag [.jk]] [.ag [.ow 3 (rowsOf Int_c r.Cols)]] := by
 unfold qvE.f at h
 let qB := rowsOf Int_c
 show AC Tryz.prog 107 [.ag [.im false (qB qL)]] _ _
 refine run3 Tryz.func107 (by rfl) (by rfl) (by cbv) ⟨by decide, rfl⟩ ?_
 intro ar cm bo sc sa sx ss sl bs sb ln sr ap up rp fr ge le lt nz mm ma sm fl al ci hL F hP hA hT hM hC
 refine Run.seq ?_
 refine Run.region hL hT [] (by cbv) hq0 ?_
 refine Run.seq ?_
 obtain ⟨l1, h_l1, h⟩ := bnd h
 refine Run.region hL hT [] (by cbv) ?_ ?_
 · exact (hq Tt (hq (qHT qmS _) (hq (qnC (P := Tryz.prog) (f := Int_c) RLe.r RLe.r h_l1) (hq Tt hq0))))
 refine Run.row (rows := (ap ([]) ((qB qL)))) 4099 (qB l1) (by cbv) (qmC (f := Int_c) RLe.r RLe.r h_l1) ?_
 refine Run.ret ?_
 cases h
 refine ⟨_, _, by cbv, ?_, ?_⟩
 · exact LLe.r
 exact (ALe.ag rfl LLe.r ALe.nil)
theorem qfB {a0 : Int} {a1 : Int} {a2 : Int} {r : Bool} (h : qxB.f a0 a1 a2 = some r) : AC Tryz.prog 47 [.v (.s (.int .i64 a0)), .v (.s (.int .i64 a1)), .v (.s (.int .i64 a2))] [.v (.jk), .v (.jk), .v (.jk)] [.v (.s (.bool r))] := by
 unfold qxB.f at h
 show AC Tryz.prog 47 [.v (.s (.int .i64 a0)), .v (.s (.int .i64 a1)), .v (.s (.int .i64 a2))] _ _
 refine run3 Tryz.func47 (by rfl) (by rfl) (by cbv) ⟨by decide, rfl⟩ ?_
 intro ar cm bo sc sa sx ss sl bs sb ln sr ap up rp fr ge le lt nz mm ma sm fl al ci hL F hP hA hT hM hC
 refine Run.seq ?_
 refine Run.region hL hT [] (by cbv) hq0 ?_
 refine Run.seq ?_
 refine Run.region hL hT [] (by cbv) ?_ ?_
 · exact (hq Tt (hq (fun _ => hq0) (hq (fun _ => hq0) (hq (fun g3 => (hq g3 (hq g3 (hq Tt hq0)))) (hq (fun q4 => (hq q4 hq0)) (hq (fun _ => hq0) hq0))))))
 refine Run.ret ?_
 cases h
 refine ⟨_, _, by cbv, ?_, ?_⟩
 · exact LLe.r
 exact (ALe.v LLe.r ALe.nil)
theorem qvD {qL : List Int} {r : Bool} (h : qrB.f (Schema.mk qL) = some r) : AC Tryz.prog 64 [.ag [.im false (rowsOf Int_c qL)]] [.ag [.jk]] [.v (.s (.bool r))] := by
 unfold qrB.f at h
 let qB := rowsOf Int_c
 let qZ := @lenI Int
 show AC Tryz.prog 64 [.ag [.im false (qB qL)]] _ _
 refine run3 Tryz.func64 (by rfl) (by rfl) (by cbv) ⟨by decide, rfl⟩ ?_
 intro ar cm bo sc sa sx ss sl bs sb ln sr ap up rp fr ge le lt nz mm ma sm fl al ci hL F hP hA hT hM hC
 refine Run.seq ?_
 refine Run.region hL hT [] (by cbv) hq0 ?_
 obtain ⟨K2, h_K2, h⟩ := joinE h
 refine Run.join1 K2 (r := r) (fun (y1 : Unit) => ⟨22, 100000, [(1, .pt 1 0 0)], [(1, .box 26 [.t (.im false (qB qL))])]⟩) ?_ ?_
 ·
  skip
  refine Run.seq ?_
  refine Run.region hL hT [] (by cbv) hq0 ?_
  refine Run.block ?_
  refine Run.loop1 (fun (z5 : Int) => ⟨22, 100000, [(1, .pt 1 0 0), (3, .t (.s (.int .i64 z5)))], [(1, .box 26 [.t (.im false (qB qL))])]⟩) (x0 := 0) h (Weak.of _ [(1, 0)] hA (by cbv) ?_) (fun _ => rfl) ?_
  · repeat (first | exact hq0 | refine hq (by first | exact Tt | rfl) ?_)
  intro k z5 h
  rw [qrB.l0] at h
  refine Run.seq ?_
  refine Run.seq ?_
  refine Run.region hL hT [] (by cbv) ?_ ?_
  · exact (hq Tt (hq Tt hq0))
  rw [show ln (qB qL) = qZ qL from ln_eq Int_c _]
  refine Run.cond (by cbv) (hq0) (fun c6 => ?_) (fun c6 => ?_)
  ·
   have h := if_t c6 h
   refine Run.skip ?_
   refine Run.seq ?_
   refine Run.block ?_
   refine Run.seq ?_
   obtain ⟨x7, h_x7, h⟩ := bnd h
   obtain ⟨r8, h_r8, h⟩ := bnd h
   refine Run.region hL hT [(3, .el [.s (.int .i64 x7)]), (5, .call [false, false, false] [.v (.jk), .v (.jk), .v (.jk)] [.v (.s (.bool r8))])] (by cbv) ?_ ?_
   · exact (hq Tt (hq (qP h_x7) (hq (qe (f := Int_c) h_x7) (hq (qw (f := Int_c) h_x7) (hq (hC (qfB h_r8)) hq0)))))
   refine Run.cond (by cbv) (hq0) (fun c9 => ?_) (fun c9 => ?_)
   ·
    have h := if_t c9 h
    refine Run.seq ?_
    refine Run.region hL hT [] (by cbv) hq0 ?_
    refine Run.ret ?_
    cases h
    refine ⟨_, _, by cbv, ?_, ?_⟩
    · exact LLe.r
    exact (ALe.v LLe.r ALe.nil)
   have h := if_f c9 h
   refine Run.skip ?_
   refine Run.region hL hT [] (by cbv) ?_ ?_
   · exact (hq Tt hq0)
   refine ⟨(ar .add .i64 z5 1), h, Weak.of _ [(1, 1)] hA (by cbv) ?_⟩
   repeat (first | exact hq0 | refine hq (by first | exact Tt | rfl) ?_)
  have h := if_f c6 h
  refine Run.exit ?_
  refine ⟨(), h, Weak.of _ [(1, 1)] hA (by cbv) ?_⟩
  repeat (first | exact hq0 | refine hq (by first | exact Tt | rfl) ?_)
 intro y1 h
 rw [h_K2] at h
 refine Run.seq ?_
 obtain ⟨r10, h_r10, h⟩ := bnd h
 refine Run.region hL hT [(3, .call [false, false, false] [.v (.jk), .v (.jk), .v (.jk)] [.v (.s (.bool r10))])] (by cbv) ?_ ?_
 · exact (hq Tt (hq (by rw [show ln (qB qL) = qZ qL from ln_eq Int_c _]; exact (hC (qfB h_r10))) hq0))
 rw [show ln (qB qL) = qZ qL from ln_eq Int_c _]
 refine Run.ret ?_
 cases h
 refine ⟨_, _, by cbv, ?_, ?_⟩
 · exact LLe.r
 exact (ALe.v LLe.r ALe.nil)
theorem qKL {qL : List Int} {r : Store × Bool} (h : qwE.f (Schema.mk qL) = some r) : AC Tryz.prog 90 [.ag [.im false (rowsOf Int_c qL)]] [.ag [.jk]] [.ag [.ow 3 (rowsOf Int_c r.1.Schema.Cols), .s (.int .i64 r.1.Version), .ow 50 (rowsOf qIE r.1.Tables)], .v (.s (.bool r.2))] := by
 unfold qwE.f at h
 let qB := rowsOf Int_c
 let qbD := rowsOf qIE
 let qZ := @lenI Int
 show AC Tryz.prog 90 [.ag [.im false (qB qL)]] _ _
 refine run3 Tryz.func90 (by rfl) (by rfl) (by cbv) ⟨by decide, rfl⟩ ?_
 intro ar cm bo sc sa sx ss sl bs sb ln sr ap up rp fr ge le lt nz mm ma sm fl al ci hL F hP hA hT hM hC
 refine Run.seq ?_
 refine Run.region hL hT [] (by cbv) hq0 ?_
 refine Run.seq ?_
 refine Run.seq ?_
 obtain ⟨r1, h_r1, h⟩ := bnd h
 refine Run.region hL hT [(1, .call [false] [.ag [.jk]] [.v (.s (.bool r1))])] (by cbv) ?_ ?_
 · exact (hq Tt (hq (hC (qvD h_r1)) hq0))
 refine Run.cond (by cbv) (hq0) (fun c2 => ?_) (fun c2 => ?_)
 ·
  have h := if_t c2 h
  refine Run.seq ?_
  refine Run.region hL hT [] (by cbv) ?_ ?_
  · exact (hq Tt hq0)
  refine Run.ret ?_
  cases h
  refine ⟨_, _, by cbv, ?_, ?_⟩
  · exact LLe.r
  exact (ALe.ag rfl (LLe.cons LLe.nilO (LLe.c (LLe.cons LLe.nilO LLe.nil))) (ALe.v LLe.r ALe.nil))
 have h := if_f c2 h
 refine Run.skip ?_
 refine Run.seq ?_
 obtain ⟨⟨qvY⟩, h_r3, h⟩ := bnd h
 obtain ⟨l4, h_l4, h⟩ := bnd h
 refine Run.draw hL hT hM [(1, .call [false] [.ag [.jk]] [.ag [.ow 3 (qB qvY)]])] (by cbv) (by cbv) (by cbv) (by cbv) (by cbv) ?_ ?_
 · exact (hq Tt (hq (hC (qJL h_r3)) (hq Tt (hq Tt (hq (by rw [show ln (qB qL) = qZ qL from ln_eq Int_c _]; exact (mk_0 h_l4)) (hq (by rw [show ln (qB qL) = qZ qL from ln_eq Int_c _]; exact (mk_mm h_l4)) (hq Tt hq0)))))))
 rw [show ln (qB qL) = qZ qL from ln_eq Int_c _]
 refine Run.row (rows := (rp (qZ qL) [.s (.slice none 0 0)])) 8197 (qbD l4) (by cbv) (mk_le (f := qIE) rfl (LLe.cons LLe.nilO LLe.nil) h_l4) ?_
 refine Run.ret ?_
 cases h
 refine ⟨_, _, by cbv, ?_, ?_⟩
 · exact LLe.r
 exact (ALe.ag rfl LLe.r (ALe.v LLe.r ALe.nil))
theorem qVF {qCF : Int} {qqB : List Int} {r : Row} (h : qUD.f (Row.mk qCF qqB) = some r) : AC Tryz.prog 124 [.ag [.s (.int .i64 qCF), .im false (rowsOf Int_c qqB)]] [.ag [.jk, .jk]] [.ag [.s (.int .i64 r.Id), .ow 3 (rowsOf Int_c r.Cells)]] := by
 unfold qUD.f at h
 let qB := rowsOf Int_c
 show AC Tryz.prog 124 [.ag [.s (.int .i64 qCF), .im false (qB qqB)]] _ _
 refine run3 Tryz.func124 (by rfl) (by rfl) (by cbv) ⟨by decide, rfl⟩ ?_
 intro ar cm bo sc sa sx ss sl bs sb ln sr ap up rp fr ge le lt nz mm ma sm fl al ci hL F hP hA hT hM hC
 refine Run.seq ?_
 refine Run.region hL hT [] (by cbv) hq0 ?_
 refine Run.seq ?_
 obtain ⟨l1, h_l1, h⟩ := bnd h
 refine Run.draw hL hT hM [] (by cbv) (by cbv) (by cbv) (by cbv) (by cbv) ?_ ?_
 · exact (hq Tt (hq Tt (hq (qHT qmS _) (hq (qnC (P := Tryz.prog) (f := Int_c) RLe.r RLe.r h_l1) (hq Tt hq0)))))
 refine Run.row (rows := (ap ([]) ((qB qqB)))) 4101 (qB l1) (by cbv) (qmC (f := Int_c) RLe.r RLe.r h_l1) ?_
 refine Run.ret ?_
 cases h
 refine ⟨_, _, by cbv, ?_, ?_⟩
 · exact LLe.r
 exact (ALe.ag rfl LLe.r ALe.nil)
theorem qjH {a0 : List Row} {a1 : Int} {r : Int} (h : qBD.f a0 a1 = some r) : AC Tryz.prog 86 [.v (.im false (rowsOf Row_i a0)), .v (.s (.int .i64 a1))] [.v (.jk), .v (.jk)] [.v (.s (.int .i64 r))] := by
 unfold qBD.f at h
 let qB := rowsOf Int_c
 let qZB := rowsOf Row_i
 let qS := @lenI Row
 show AC Tryz.prog 86 [.v (.im false (qZB a0)), .v (.s (.int .i64 a1))] _ _
 refine run3 Tryz.func86 (by rfl) (by rfl) (by cbv) ⟨by decide, rfl⟩ ?_
 intro ar cm bo sc sa sx ss sl bs sb ln sr ap up rp fr ge le lt nz mm ma sm fl al ci hL F hP hA hT hM hC
 refine Run.seq ?_
 refine Run.region hL hT [] (by cbv) hq0 ?_
 refine Run.seq ?_
 refine Run.seq ?_
 refine Run.region hL hT [] (by cbv) hq0 ?_
 refine Run.block ?_
 refine Run.loop1 (fun (z4 : Int) => ⟨20, 100000, [(0, .t (.im false (qZB a0))), (1, .t (.s (.int .i64 a1))), (5, .t (.s (.int .i64 z4)))], []⟩) (x0 := 0) h (Weak.of _ [] hA (by cbv) ?_) (fun _ => rfl) ?_
 · repeat (first | exact hq0 | refine hq (by first | exact Tt | rfl) ?_)
 intro k z4 h
 rw [qBD.l0] at h
 refine Run.seq ?_
 refine Run.seq ?_
 refine Run.region hL hT [] (by cbv) ?_ ?_
 · exact (hq Tt hq0)
 rw [show ln (qZB a0) = qS a0 from ln_eq Row_i _]
 refine Run.cond (by cbv) (hq0) (fun c5 => ?_) (fun c5 => ?_)
 ·
  have h := if_t c5 h
  refine Run.skip ?_
  refine Run.seq ?_
  refine Run.block ?_
  refine Run.seq ?_
  obtain ⟨⟨qdb, qBX⟩, h_x6, h⟩ := bnd h
  refine Run.region hL hT [(2, .el [.s (.int .i64 qdb), .im false (qB qBX)])] (by cbv) ?_ ?_
  · exact (hq (qP h_x6) (hq (qe (f := Row_i) h_x6) (hq (qw (f := Row_i) h_x6) (hq Tt hq0))))
  refine Run.cond (by cbv) (hq0) (fun c7 => ?_) (fun c7 => ?_)
  ·
   have h := if_t c7 h
   refine Run.seq ?_
   refine Run.region hL hT [] (by cbv) hq0 ?_
   refine Run.ret ?_
   cases h
   refine ⟨_, _, by cbv, ?_, ?_⟩
   · exact LLe.r
   exact (ALe.v LLe.r ALe.nil)
  have h := if_f c7 h
  refine Run.skip ?_
  refine Run.region hL hT [] (by cbv) ?_ ?_
  · exact (hq Tt hq0)
  refine ⟨(ar .add .i64 z4 1), h, Weak.of _ [] hA (by cbv) ?_⟩
  repeat (first | exact hq0 | refine hq (by first | exact Tt | rfl) ?_)
 have h := if_f c5 h
 refine Run.exit ?_
 refine Run.seq ?_
 refine Run.region hL hT [] (by cbv) hq0 ?_
 refine Run.ret ?_
 cases h
 refine ⟨_, _, by cbv, ?_, ?_⟩
 · exact LLe.r
 exact (ALe.v LLe.r ALe.nil)
theorem qxM {a0 : List Row} {a1 : Int} {r : (List Row)} (h : qYC.f a0 a1 = some r) : AC Tryz.prog 142 [.v (.im false (rowsOf Row_i a0)), .v (.s (.int .i64 a1))] [.v (.jk), .v (.jk)] [.v (.ow 56 (rowsOf Row_o r))] := by
 unfold qYC.f at h
 let qB := rowsOf Int_c
 let qZB := rowsOf Row_i
 let qJ := rowsOf Row_o
 let qS := @lenI Row
 show AC Tryz.prog 142 [.v (.im false (qZB a0)), .v (.s (.int .i64 a1))] _ _
 refine run3 Tryz.func142 (by rfl) (by rfl) (by cbv) ⟨by decide, rfl⟩ ?_
 intro ar cm bo sc sa sx ss sl bs sb ln sr ap up rp fr ge le lt nz mm ma sm fl al ci hL F hP hA hT hM hC
 refine Run.seq ?_
 refine Run.region hL hT [] (by cbv) hq0 ?_
 refine Run.seq ?_
 obtain ⟨r1, h_r1, h⟩ := bnd h
 refine Run.region hL hT [(2, .call [false, false] [.v (.jk), .v (.jk)] [.v (.s (.int .i64 r1))])] (by cbv) ?_ ?_
 · exact (hq (hC (qjH h_r1)) hq0)
 refine Run.seq ?_
 refine Run.region hL hT [] (by cbv) hq0 ?_
 refine Run.seq ?_
 refine Run.seq ?_
 refine Run.region hL hT [] (by cbv) hq0 ?_
 refine Run.block ?_
 refine Run.loop2 (fun (z6 : List Row) (z7 : Int) => ⟨30, 100000, [(0, .t (.im false (qZB a0))), (5, .t (.s (.int .i64 r1))), (6, .rf 1), (7, .t (.s (.int .i64 z7)))], [(1, .row 0 56 2 (qJ z6))]⟩) (x0 := []) (x1 := 0) h (Weak.of _ [(1, 8192)] hA (by cbv) ?_) (fun _ _ => rfl) ?_
 · repeat (first | exact hq0 | refine hq (by first | exact Tt | rfl) ?_)
 intro k z6 z7 h
 rw [qYC.l0] at h
 refine Run.seq ?_
 refine Run.seq ?_
 refine Run.region hL hT [] (by cbv) ?_ ?_
 · exact (hq Tt hq0)
 rw [show ln (qZB a0) = qS a0 from ln_eq Row_i _]
 refine Run.cond (by cbv) (hq0) (fun c8 => ?_) (fun c8 => ?_)
 ·
  have h := if_t c8 h
  refine Run.skip ?_
  refine Run.seq ?_
  refine Run.block ?_
  refine Run.seq ?_
  refine Run.region hL hT [] (by cbv) ?_ ?_
  · exact (hq Tt hq0)
  refine Run.cond (by cbv) (hq0) (fun c9 => ?_) (fun c9 => ?_)
  ·
   have h := if_t c9 h
   obtain ⟨⟨qvP, qYI⟩, h_x10, h⟩ := bnd h
   obtain ⟨⟨qCX, qhO⟩, h_r11, h⟩ := bnd h
   obtain ⟨l12, h_l12, h⟩ := bnd h
   obtain ⟨l13, h_l13, h⟩ := bnd h
   refine Run.region hL hT [(3, .el [.s (.int .i64 qvP), .im false (qB qYI)]), (5, .call [false] [.ag [.jk, .jk]] [.ag [.s (.int .i64 qCX), .ow 3 (qB qhO)]])] (by cbv) ?_ ?_
   · exact (hq (qP h_x10) (hq (qe (f := Row_i) h_x10) (hq (qw (f := Row_i) h_x10) (hq (hC (qVF h_r11)) (hq (qnC (P := Tryz.prog) (f := Row_o) RLe.r (qGB (f := Row_o) h_l12 (RLe.cons rfl LLe.r RLe.nil)) h_l13) hq0)))))
   refine Run.row (rows := (ap (qJ z6) ([[.s (.int .i64 qCX), .ow 3 (qB qhO)]]))) 108199 (qJ l13) (by cbv) (qmC (f := Row_o) RLe.r (qGB (f := Row_o) h_l12 (RLe.cons rfl LLe.r RLe.nil)) h_l13) ?_
   refine Run.region hL hT [] (by cbv) ?_ ?_
   · exact (hq Tt hq0)
   refine ⟨l13, (ar .add .i64 z7 1), h, Weak.of _ [(1, 108199)] hA (by cbv) ?_⟩
   repeat (first | exact hq0 | refine hq (by first | exact Tt | rfl) ?_)
  have h := if_f c9 h
  refine Run.skip ?_
  refine Run.region hL hT [] (by cbv) ?_ ?_
  · exact (hq Tt hq0)
  refine ⟨z6, (ar .add .i64 z7 1), h, Weak.of _ [(1, 1)] hA (by cbv) ?_⟩
  repeat (first | exact hq0 | refine hq (by first | exact Tt | rfl) ?_)
 have h := if_f c8 h
 refine Run.exit ?_
 refine Run.seq ?_
 refine Run.region hL hT [] (by cbv) hq0 ?_
 refine Run.ret ?_
 cases h
 refine ⟨_, _, by cbv, ?_, ?_⟩
 · exact LLe.r
 exact (ALe.v LLe.r ALe.nil)
theorem qgN {a0 : List Row} {qGC : Int} {qm : List Int} {r : (List Row)} (h : qiC.f a0 (Row.mk qGC qm) = some r) : AC Tryz.prog 141 [.v (.im false (rowsOf Row_i a0)), .ag [.s (.int .i64 qGC), .im false (rowsOf Int_c qm)]] [.v (.jk), .ag [.jk, .jk]] [.v (.ow 56 (rowsOf Row_o r))] := by
 unfold qiC.f at h
 let qB := rowsOf Int_c
 let qZB := rowsOf Row_i
 let qJ := rowsOf Row_o
 let qS := @lenI Row
 show AC Tryz.prog 141 [.v (.im false (qZB a0)), .ag [.s (.int .i64 qGC), .im false (qB qm)]] _ _
 refine run3 Tryz.func141 (by rfl) (by rfl) (by cbv) ⟨by decide, rfl⟩ ?_
 intro ar cm bo sc sa sx ss sl bs sb ln sr ap up rp fr ge le lt nz mm ma sm fl al ci hL F hP hA hT hM hC
 refine Run.seq ?_
 refine Run.region hL hT [] (by cbv) hq0 ?_
 refine Run.seq ?_
 obtain ⟨r1, h_r1, h⟩ := bnd h
 refine Run.region hL hT [(3, .call [false, false] [.v (.jk), .v (.jk)] [.v (.ow 56 (qJ r1))])] (by cbv) ?_ ?_
 · exact (hq Tt (hq (hC (qxM h_r1)) hq0))
 refine Run.seq ?_
 refine Run.region hL hT [] (by cbv) hq0 ?_
 rw [show ln (qJ r1) = qS r1 from ln_eq Row_o _]
 obtain ⟨K3, h_K3, h⟩ := joinE h
 refine Run.join1 K3 (r := r) (fun (y2 : Int) => ⟨55, 100000, [(3, .pt 1 0 0), (5, .rf 2), (6, .t (.s (.int .i64 y2)))], [(1, .box 56 [.t (.s (.int .i64 qGC)), .t (.im false (qB qm))]), (2, .row 0 56 2 (qJ r1))]⟩) ?_ ?_
 ·
  skip
  refine Run.seq ?_
  obtain ⟨r4, h_r4, h⟩ := bnd h
  refine Run.region hL hT [(3, .call [false, false] [.v (.jk), .v (.jk)] [.v (.s (.int .i64 r4))])] (by cbv) ?_ ?_
  · exact (hq Tt (hq (hC (qjH h_r4)) (hq Tt hq0)))
  refine Run.cond (by cbv) (hq0) (fun c5 => ?_) (fun c5 => ?_)
  ·
   have h := if_t c5 h
   obtain ⟨r6, h_r6, h⟩ := bnd h
   refine Run.region hL hT [(3, .call [false, false] [.v (.jk), .v (.jk)] [.v (.s (.int .i64 r6))])] (by cbv) ?_ ?_
   · exact (hq Tt (hq (hC (qjH h_r6)) hq0))
   refine ⟨r6, h, Weak.of _ [(1, 0), (2, 4099)] hA (by cbv) ?_⟩
   repeat (first | exact hq0 | refine hq (by first | exact Tt | rfl) ?_)
  have h := if_f c5 h
  refine Run.seq ?_
  refine Run.region hL hT [] (by cbv) ?_ ?_
  · exact (hq Tt hq0)
  rw [show ln (qJ r1) = qS r1 from ln_eq Row_o _]
  refine Run.block ?_
  refine Run.loop2 (fun (z12 : Int) (z13 : Int) => ⟨55, 100000, [(3, .pt 1 0 0), (5, .rf 2), (6, .t (.s (.int .i64 z12))), (7, .t (.s (.int .i64 z13)))], [(1, .box 56 [.t (.s (.int .i64 qGC)), .t (.im false (qB qm))]), (2, .row 0 56 2 (qJ r1))]⟩) (x0 := (qS r1)) (x1 := (ar .sub .i64 (qS r1) 1)) h (Weak.of _ [(1, 0), (2, 4099)] hA (by cbv) ?_) (fun _ _ => rfl) ?_
  · repeat (first | exact hq0 | refine hq (by first | exact Tt | rfl) ?_)
  intro k z12 z13 h
  rw [qiC.l0] at h
  refine Run.seq ?_
  refine Run.seq ?_
  refine Run.region hL hT [] (by cbv) ?_ ?_
  · exact (hq Tt hq0)
  refine Run.cond (by cbv) (hq0) (fun c14 => ?_) (fun c14 => ?_)
  ·
   have h := if_t c14 h
   refine Run.skip ?_
   refine Run.seq ?_
   refine Run.block ?_
   refine Run.seq ?_
   obtain ⟨⟨qga, qkU⟩, h_x15, h⟩ := bnd h
   refine Run.draw hL hT hM [(4, .el [.s (.int .i64 qga), .ow 3 (qB qkU)])] (by cbv) (by cbv) (by cbv) (by cbv) (by cbv) ?_ ?_
   · exact (hq (qP h_x15) (hq (qe (f := Row_o) h_x15) (hq (qP h_x15) (hq (qe (f := Row_o) h_x15) (hq (qw (f := Row_o) h_x15) (hq Tt (hq Tt hq0)))))))
   refine Run.cond (by cbv) (hq0) (fun c16 => ?_) (fun c16 => ?_)
   ·
    have h := if_t c16 h
    refine Run.region hL hT [] (by cbv) hq0 ?_
    refine Run.region hL hT [] (by cbv) ?_ ?_
    · exact (hq Tt hq0)
    refine ⟨z13, (ar .sub .i64 z13 1), h, Weak.of _ [(1, 1), (2, 2)] hA (by cbv) ?_⟩
    repeat (first | exact hq0 | refine hq (by first | exact Tt | rfl) ?_)
   have h := if_f c16 h
   refine Run.skip ?_
   refine Run.region hL hT [] (by cbv) ?_ ?_
   · exact (hq Tt hq0)
   refine ⟨z12, (ar .sub .i64 z13 1), h, Weak.of _ [(1, 1), (2, 2)] hA (by cbv) ?_⟩
   repeat (first | exact hq0 | refine hq (by first | exact Tt | rfl) ?_)
  have h := if_f c14 h
  refine Run.exit ?_
  refine ⟨z12, h, Weak.of _ [(1, 1), (2, 2)] hA (by cbv) ?_⟩
  repeat (first | exact hq0 | refine hq (by first | exact Tt | rfl) ?_)
 intro y2 h
 rw [h_K3] at h
 refine Run.seq ?_
 obtain ⟨l17, h_l17, h⟩ := bnd h
 obtain ⟨l18, h_l18, h⟩ := bnd h
 refine Run.region hL hT [] (by cbv) ?_ ?_
 · exact (hq (cut_0 h_l17) (hq (cut_1 h_l17) (hq (cut_2 (f := Row_o) h_l17) (hq (cut_2 (f := Row_o) h_l17) (hq (qnC (P := Tryz.prog) (f := Row_o) RLe.r (mv_le Row_o h_l17) h_l18) hq0)))))
 refine Run.row (rows := (ap ([]) ((sr (qJ r1) 0 y2)))) 100004 (qJ l18) (by cbv) (qmC (f := Row_o) RLe.r (mv_le Row_o h_l17) h_l18) ?_
 refine Run.seq ?_
 obtain ⟨⟨qDX, qiO⟩, h_r19, h⟩ := bnd h
 obtain ⟨l20, h_l20, h⟩ := bnd h
 obtain ⟨l21, h_l21, h⟩ := bnd h
 refine Run.region hL hT [(2, .call [false] [.ag [.jk, .jk]] [.ag [.s (.int .i64 qDX), .ow 3 (qB qiO)]])] (by cbv) ?_ ?_
 · exact (hq Tt (hq (hC (qVF h_r19)) (hq (qnC (P := Tryz.prog) (f := Row_o) RLe.r (qGB (f := Row_o) h_l20 (RLe.cons rfl LLe.r RLe.nil)) h_l21) hq0)))
 refine Run.row (rows := (ap (qJ l18) ([[.s (.int .i64 qDX), .ow 3 (qB qiO)]]))) 104100 (qJ l21) (by cbv) (qmC (f := Row_o) RLe.r (qGB (f := Row_o) h_l20 (RLe.cons rfl LLe.r RLe.nil)) h_l21) ?_
 refine Run.seq ?_
 obtain ⟨l22, h_l22, h⟩ := bnd h
 obtain ⟨l23, h_l23, h⟩ := bnd h
 refine Run.region hL hT [] (by cbv) ?_ ?_
 · exact (hq (cut_0 h_l22) (hq (jr_1 Row_o h_l17 h_l18 h_l22) (hq (Int.le_refl _) (hq (Int.le_refl _) (hq (qnC (P := Tryz.prog) (f := Row_o) RLe.r (qHZ Row_o h_l17 h_l18 h_l22) h_l23) hq0)))))
 refine Run.row (rows := (ap (qJ l21) ((sr (ap (ap (sr (qJ r1) 0 0) (rp (ar .sub .i64 y2 0) [.jk, .jk])) (sr (qJ r1) y2 (ln (qJ r1)))) y2 (ln (ap (ap (sr (qJ r1) 0 0) (rp (ar .sub .i64 y2 0) [.jk, .jk])) (sr (qJ r1) y2 (ln (qJ r1))))))))) 108196 (qJ l23) (by cbv) (qmC (f := Row_o) RLe.r (qHZ Row_o h_l17 h_l18 h_l22) h_l23) ?_
 refine Run.ret ?_
 cases h
 refine ⟨_, _, by cbv, ?_, ?_⟩
 · exact LLe.r
 exact (ALe.v LLe.r ALe.nil)
theorem qLH {a0v_b : List Int} {a0v_i : Int} {a0v_h : Int} {a1 : Int} {r : l1Cur × Row} (h : qJC.f (l1Cur.mk a0v_b a0v_i a0v_h) a1 = some r) : AC Tryz.prog 96 [.v (.bx 119 [.im true (rowsOf u8_c a0v_b), .s (.int .i64 a0v_i), .s (.int .i64 a0v_h)]), .v (.s (.int .i64 a1))] [.v (.bx 119 [.im true (rowsOf u8_c a0v_b), .s (.int .i64 r.1.i), .s (.int .i64 r.1.h)]), .v (.jk)] [.ag [.s (.int .i64 r.2.Id), .ow 3 (rowsOf Int_c r.2.Cells)]] := by
 unfold qJC.f at h
 let qB := rowsOf Int_c
 let eu8_c := rowsOf u8_c
 show AC Tryz.prog 96 [.v (.bx 119 [.im true (eu8_c a0v_b), .s (.int .i64 a0v_i), .s (.int .i64 a0v_h)]), .v (.s (.int .i64 a1))] _ _
 refine run3 Tryz.func96 (by rfl) (by rfl) (by cbv) ⟨by decide, rfl⟩ ?_
 intro ar cm bo sc sa sx ss sl bs sb ln sr ap up rp fr ge le lt nz mm ma sm fl al ci hL F hP hA hT hM hC
 refine Run.seq ?_
 refine Run.region hL hT [] (by cbv) hq0 ?_
 refine Run.seq ?_
 obtain ⟨⟨⟨qcI, qkD, qlD⟩, r1v_2⟩, h_r1, h⟩ := bnd h
 refine Run.region hL hT [(1, .call [true, false] [.v (.bx 119 [.im true (eu8_c a0v_b), .s (.int .i64 qkD), .s (.int .i64 qlD)]), .v (.jk)] [.v (.s (.int .i64 r1v_2))])] (by cbv) ?_ ?_
 · exact (hq (hC (qx h_r1)) (hq Tt (hq Tt hq0)))
 refine Run.seq ?_
 refine Run.seq ?_
 refine Run.region hL hT [] (by cbv) hq0 ?_
 refine Run.block ?_
 refine Run.loop5 (fun (z17 : Int) (z18 : Int) (z19 : Int) (z20 : List Int) (z21 : Int) => ⟨24, 100000, [(0, .pt 0 0 0), (1, .t (.s (.int .i64 a1))), (4, .pt 1 0 0), (5, .pt 2 0 0), (6, .t (.s (.int .i64 z21)))], [(0, .box 119 [.t (.im true (eu8_c a0v_b)), .t (.s (.int .i64 z17)), .t (.s (.int .i64 z18))]), (1, .box 56 [.t (.s (.int .i64 0)), .t (.s (.slice none 0 0))]), (2, .box 56 [.t (.s (.int .i64 z19)), .rf 3]), (3, .row 0 3 1 (qB z20))]⟩) (x0 := qkD) (x1 := qlD) (x2 := (ar .add .i64 1 r1v_2)) (x3 := []) (x4 := 0) h ((Weak.nilB (l := [.t (.s (.int .i64 (ar .add .i64 1 r1v_2)))]) hT 4101 1 13289 3 rfl (by cbv) (by cbv) (by cbv)).trans (Weak.of _ [(0, 0), (1, 1), (2, 4101), (3, 13289)] hA (by cbv) ?_)) (fun _ _ _ _ _ => rfl) ?_
 · repeat (first | exact hq0 | refine hq (by first | exact Tt | rfl) ?_)
 intro k z17 z18 z19 z20 z21 h
 rw [qJC.l0] at h
 refine Run.seq ?_
 refine Run.seq ?_
 refine Run.region hL hT [] (by cbv) ?_ ?_
 · exact (hq Tt hq0)
 refine Run.cond (by cbv) (hq0) (fun c22 => ?_) (fun c22 => ?_)
 ·
  have h := if_t c22 h
  refine Run.skip ?_
  refine Run.seq ?_
  refine Run.block ?_
  obtain ⟨⟨⟨qeb, qjR, qkR⟩, qTZ⟩, h_r23, h⟩ := bnd h
  obtain ⟨l24, h_l24, h⟩ := bnd h
  obtain ⟨l25, h_l25, h⟩ := bnd h
  refine Run.draw hL hT hM [(3, .call [true, false] [.v (.bx 119 [.im true (eu8_c a0v_b), .s (.int .i64 qjR), .s (.int .i64 qkR)]), .v (.jk)] [.v (.s (.int .i64 qTZ))])] (by cbv) (by cbv) (by cbv) (by cbv) (by cbv) ?_ ?_
  · exact (hq Tt (hq (hC (qx h_r23)) (hq (qnC (P := Tryz.prog) (f := Int_c) RLe.r (qGB (f := Int_c) h_l24 (RLe.cons rfl LLe.r RLe.nil)) h_l25) (hq Tt hq0))))
  refine Run.row (rows := (ap (qB z20) ([[.s (.int .i64 qTZ)]]))) 104101 (qB l25) (by cbv) (qmC (f := Int_c) RLe.r (qGB (f := Int_c) h_l24 (RLe.cons rfl LLe.r RLe.nil)) h_l25) ?_
  refine Run.region hL hT [] (by cbv) ?_ ?_
  · exact (hq Tt hq0)
  refine ⟨qjR, qkR, z19, l25, (ar .add .i64 z21 1), h, Weak.of _ [(0, 0), (1, 1), (2, 2), (3, 104101)] hA (by cbv) ?_⟩
  repeat (first | exact hq0 | refine hq (by first | exact Tt | rfl) ?_)
 have h := if_f c22 h
 refine Run.exit ?_
 refine Run.seq ?_
 refine Run.region hL hT [] (by cbv) ?_ ?_
 · exact (hq Tt (hq Tt hq0))
 refine Run.ret ?_
 cases h
 refine ⟨_, _, by cbv, ?_, ?_⟩
 · exact LLe.r
 exact (ALe.ag rfl LLe.r ALe.nil)
theorem qtJ {a0v_b : List Int} {a0v_i : Int} {a0v_h : Int} {a1 : Int} {r : l1Cur × (List Row)} (h : qEC.f (l1Cur.mk a0v_b a0v_i a0v_h) a1 = some r) : AC Tryz.prog 92 [.v (.bx 119 [.im true (rowsOf u8_c a0v_b), .s (.int .i64 a0v_i), .s (.int .i64 a0v_h)]), .v (.s (.int .i64 a1))] [.v (.bx 119 [.im true (rowsOf u8_c a0v_b), .s (.int .i64 r.1.i), .s (.int .i64 r.1.h)]), .v (.jk)] [.v (.ow 56 (rowsOf Row_o r.2))] := by
 unfold qEC.f at h
 let qB := rowsOf Int_c
 let qJ := rowsOf Row_o
 let eu8_c := rowsOf u8_c
 show AC Tryz.prog 92 [.v (.bx 119 [.im true (eu8_c a0v_b), .s (.int .i64 a0v_i), .s (.int .i64 a0v_h)]), .v (.s (.int .i64 a1))] _ _
 refine run3 Tryz.func92 (by rfl) (by rfl) (by cbv) ⟨by decide, rfl⟩ ?_
 intro ar cm bo sc sa sx ss sl bs sb ln sr ap up rp fr ge le lt nz mm ma sm fl al ci hL F hP hA hT hM hC
 refine Run.seq ?_
 refine Run.region hL hT [] (by cbv) hq0 ?_
 refine Run.seq ?_
 refine Run.region hL hT [] (by cbv) hq0 ?_
 refine Run.seq ?_
 refine Run.seq ?_
 refine Run.region hL hT [] (by cbv) hq0 ?_
 refine Run.block ?_
 refine Run.loop4 (fun (z7 : Int) (z8 : Int) (z9 : List Row) (z10 : Int) => ⟨20, 100000, [(0, .pt 0 0 0), (1, .t (.s (.int .i64 a1))), (5, .rf 1), (6, .t (.s (.int .i64 z10)))], [(0, .box 119 [.t (.im true (eu8_c a0v_b)), .t (.s (.int .i64 z7)), .t (.s (.int .i64 z8))]), (1, .row 0 56 2 (qJ z9))]⟩) (x0 := a0v_i) (x1 := a0v_h) (x2 := []) (x3 := 0) h (Weak.of _ [(0, 0), (1, 4097)] hA (by cbv) ?_) (fun _ _ _ _ => rfl) ?_
 · repeat (first | exact hq0 | refine hq (by first | exact Tt | rfl) ?_)
 intro k z7 z8 z9 z10 h
 rw [qEC.l0] at h
 refine Run.seq ?_
 refine Run.seq ?_
 obtain ⟨⟨⟨qfb, qEX, qFX⟩, qgb⟩, h_r11, h⟩ := bnd h
 refine Run.region hL hT [(2, .call [true, false] [.v (.bx 119 [.im true (eu8_c a0v_b), .s (.int .i64 qEX), .s (.int .i64 qFX)]), .v (.jk)] [.v (.s (.int .i64 qgb))])] (by cbv) ?_ ?_
 · exact (hq (hC (qx h_r11)) (hq Tt hq0))
 refine Run.cond (by cbv) (hq0) (fun c12 => ?_) (fun c12 => ?_)
 ·
  have h := if_t c12 h
  refine Run.skip ?_
  refine Run.seq ?_
  refine Run.block ?_
  obtain ⟨⟨⟨qGX, quJ, qvJ⟩, ⟨qlU, qKQ⟩⟩, h_r13, h⟩ := bnd h
  obtain ⟨r14, h_r14, h⟩ := bnd h
  refine Run.region hL hT [(3, .call [true, false] [.v (.bx 119 [.im true (eu8_c a0v_b), .s (.int .i64 quJ), .s (.int .i64 qvJ)]), .v (.jk)] [.ag [.s (.int .i64 qlU), .ow 3 (qB qKQ)]]), (4, .call [false, false] [.v (.jk), .ag [.jk, .jk]] [.v (.ow 56 (qJ r14))])] (by cbv) ?_ ?_
  · exact (hq (hC (qLH h_r13)) (hq (hC (AC.args (qgN h_r14) (ALe.v (LLe.im (RLe.eq (qAC qkP _))) (ALe.ag rfl (LLe.c (LLe.cons (LLe.im (RLe.eq (qAC qwC _))) LLe.nil)) ALe.nil)))) hq0))
  refine Run.region hL hT [] (by cbv) ?_ ?_
  · exact (hq Tt hq0)
  refine ⟨quJ, qvJ, r14, (ar .add .i64 z10 1), h, Weak.of _ [(0, 0), (1, 104100)] hA (by cbv) ?_⟩
  repeat (first | exact hq0 | refine hq (by first | exact Tt | rfl) ?_)
 have h := if_f c12 h
 refine Run.exit ?_
 refine Run.seq ?_
 refine Run.region hL hT [] (by cbv) hq0 ?_
 refine Run.ret ?_
 cases h
 refine ⟨_, _, by cbv, ?_, ?_⟩
 · exact LLe.r
 exact (ALe.v LLe.r ALe.nil)
theorem qFJ {a0v_b : List Int} {a0v_i : Int} {a0v_h : Int} {r : l1Cur × Store} (h : qsB.f (l1Cur.mk a0v_b a0v_i a0v_h) = some r) : AC Tryz.prog 37 [.v (.bx 119 [.im true (rowsOf u8_c a0v_b), .s (.int .i64 a0v_i), .s (.int .i64 a0v_h)])] [.v (.bx 119 [.im true (rowsOf u8_c a0v_b), .s (.int .i64 r.1.i), .s (.int .i64 r.1.h)])] [.ag [.ow 3 (rowsOf Int_c r.2.Schema.Cols), .s (.int .i64 r.2.Version), .ow 50 (rowsOf qIE r.2.Tables)]] := by
 unfold qsB.f at h
 let qB := rowsOf Int_c
 let qbD := rowsOf qIE
 let qJ := rowsOf Row_o
 let eu8_c := rowsOf u8_c
 let qJE := @lenI (List Row)
 show AC Tryz.prog 37 [.v (.bx 119 [.im true (eu8_c a0v_b), .s (.int .i64 a0v_i), .s (.int .i64 a0v_h)])] _ _
 refine run3 Tryz.func37 (by rfl) (by rfl) (by cbv) ⟨by decide, rfl⟩ ?_
 intro ar cm bo sc sa sx ss sl bs sb ln sr ap up rp fr ge le lt nz mm ma sm fl al ci hL F hP hA hT hM hC
 refine Run.seq ?_
 refine Run.region hL hT [] (by cbv) hq0 ?_
 refine Run.seq ?_
 obtain ⟨⟨⟨qcI, qkD, qlD⟩, ⟨qZG⟩⟩, h_r1, h⟩ := bnd h
 obtain ⟨⟨⟨⟨qjE⟩, qxG, qwJ⟩, r2v_2⟩, h_r2, h⟩ := bnd h
 refine Run.region hL hT [(1, .call [true] [.v (.bx 119 [.im true (eu8_c a0v_b), .s (.int .i64 qkD), .s (.int .i64 qlD)])] [.ag [.ow 3 (qB qZG)]]), (2, .call [false] [.ag [.jk]] [.ag [.ow 3 (qB qjE), .s (.int .i64 qxG), .ow 50 (qbD qwJ)], .v (.s (.bool r2v_2))])] (by cbv) ?_ ?_
 · exact (hq (hC (qqF h_r1)) (hq (hC (AC.args (qKL h_r2) (ALe.ag rfl (LLe.cons (LLe.im (RLe.eq (qAC qwC _))) LLe.nil) ALe.nil))) (hq Tt hq0)))
 obtain ⟨K6, h_K6, h⟩ := joinE h
 refine Run.join3 K6 (r := r) (fun (y3 : Int) (y4 : Int) (y5 : List (List Row)) => ⟨35, 100000, [(0, .pt 0 0 0), (2, .pt 1 0 0), (3, .pt 2 0 0)], [(0, .box 119 [.t (.im true (eu8_c a0v_b)), .t (.s (.int .i64 y3)), .t (.s (.int .i64 y4))]), (1, .box 29 [.t (.s (.slice none 0 0)), .t (.s (.int .i64 0)), .t (.s (.slice none 0 0))]), (2, .box 29 [.rf 3, .t (.s (.int .i64 qxG)), .rf 4]), (3, .row 0 3 1 (qB qjE)), (4, .row 0 50 1 (qbD y5))]⟩) ?_ ?_
 ·
  skip
  refine Run.seq ?_
  refine Run.region hL hT [] (by cbv) hq0 ?_
  refine Run.block ?_
  refine Run.loop4 (fun (z15 : Int) (z16 : Int) (z17 : List (List Row)) (z18 : Int) => ⟨35, 100000, [(0, .pt 0 0 0), (2, .pt 1 0 0), (3, .pt 2 0 0), (5, .t (.s (.int .i64 z18)))], [(0, .box 119 [.t (.im true (eu8_c a0v_b)), .t (.s (.int .i64 z15)), .t (.s (.int .i64 z16))]), (1, .box 29 [.t (.s (.slice none 0 0)), .t (.s (.int .i64 0)), .t (.s (.slice none 0 0))]), (2, .box 29 [.rf 3, .t (.s (.int .i64 qxG)), .rf 4]), (3, .row 0 3 1 (qB qjE)), (4, .row 0 50 1 (qbD z17))]⟩) (x0 := qkD) (x1 := qlD) (x2 := qwJ) (x3 := 0) h (Weak.of _ [(0, 0), (1, 1), (2, 4103), (3, 4099), (4, 4355)] hA (by cbv) ?_) (fun _ _ _ _ => rfl) ?_
  · repeat (first | exact hq0 | refine hq (by first | exact Tt | rfl) ?_)
  intro k z15 z16 z17 z18 h
  rw [qsB.l0] at h
  refine Run.seq ?_
  refine Run.seq ?_
  refine Run.region hL hT [] (by cbv) ?_ ?_
  · exact (hq Tt (hq Tt hq0))
  rw [show ln (qbD z17) = qJE z17 from ln_eq qIE _]
  refine Run.cond (by cbv) (hq0) (fun c19 => ?_) (fun c19 => ?_)
  ·
   have h := if_t c19 h
   refine Run.skip ?_
   refine Run.seq ?_
   refine Run.block ?_
   obtain ⟨x20, h_x20, h⟩ := bnd h
   obtain ⟨⟨⟨qhb, qlR, qmR⟩, qUZ⟩, h_r21, h⟩ := bnd h
   obtain ⟨x22, h_x22, h⟩ := bnd h
   obtain ⟨l23, h_l23, h⟩ := bnd h
   refine Run.draw hL hT hM [(9, .el [.s (.int .i64 x20)]), (10, .call [true, false] [.v (.bx 119 [.im true (eu8_c a0v_b), .s (.int .i64 qlR), .s (.int .i64 qmR)]), .v (.jk)] [.v (.ow 56 (qJ qUZ))])] (by cbv) (by cbv) (by cbv) (by cbv) (by cbv) ?_ ?_
   · exact (hq Tt (hq Tt (hq (qP h_x20) (hq (qe (f := Int_c) h_x20) (hq (qP h_x20) (hq (qe (f := Int_c) h_x20) (hq (qw (f := Int_c) h_x20) (hq (hC (qtJ h_r21)) (hq (qP h_x22) (hq (qe (f := qIE) h_x22) (hq (qP h_x22) (hq (qe (f := qIE) h_x22) hq0))))))))))))
   refine Run.row (rows := (up (qbD z17) z18 0 [.ow 56 (qJ qUZ)])) 4 (qbD l23) (by cbv) (qyV (f := qIE) h_x22 h_l23 rfl LLe.r) ?_
   refine Run.region hL hT [] (by cbv) ?_ ?_
   · exact (hq Tt hq0)
   refine ⟨qlR, qmR, l23, (ar .add .i64 z18 1), h, Weak.of _ [(0, 0), (1, 1), (2, 2), (3, 3), (4, 4)] hA (by cbv) ?_⟩
   repeat (first | exact hq0 | refine hq (by first | exact Tt | rfl) ?_)
  have h := if_f c19 h
  refine Run.exit ?_
  refine ⟨z15, z16, z17, h, Weak.of _ [(0, 0), (1, 1), (2, 2), (3, 3), (4, 4)] hA (by cbv) ?_⟩
  repeat (first | exact hq0 | refine hq (by first | exact Tt | rfl) ?_)
 intro y3 y4 y5 h
 rw [h_K6] at h
 refine Run.seq ?_
 obtain ⟨⟨⟨qib, qHX, qIX⟩, qjb⟩, h_r24, h⟩ := bnd h
 refine Run.region hL hT [(1, .call [true, false] [.v (.bx 119 [.im true (eu8_c a0v_b), .s (.int .i64 qHX), .s (.int .i64 qIX)]), .v (.jk)] [.v (.s (.int .i64 qjb))])] (by cbv) ?_ ?_
 · exact (hq (hC (qx h_r24)) (hq Tt hq0))
 refine Run.seq ?_
 refine Run.region hL hT [] (by cbv) ?_ ?_
 · exact (hq Tt (hq Tt hq0))
 refine Run.ret ?_
 cases h
 refine ⟨_, _, by cbv, ?_, ?_⟩
 · exact LLe.r
 exact (ALe.ag rfl LLe.r ALe.nil)
theorem qhN {a0v_b : List Int} {a0v_i : Int} {a0v_h : Int} {r : l1Cur × Store} (h : qHG.f (l1Cur.mk a0v_b a0v_i a0v_h) = some r) : AC Tryz.prog 120 [.v (.bx 119 [.im true (rowsOf u8_c a0v_b), .s (.int .i64 a0v_i), .s (.int .i64 a0v_h)])] [.v (.bx 119 [.im true (rowsOf u8_c a0v_b), .s (.int .i64 r.1.i), .s (.int .i64 r.1.h)])] [.ag [.im true (rowsOf Int_c r.2.Schema.Cols), .s (.int .i64 r.2.Version), .im true (rowsOf qLC r.2.Tables)]] := by
 unfold qHG.f at h
 let qB := rowsOf Int_c
 let qBC := rowsOf qLC
 let qbD := rowsOf qIE
 let qJ := rowsOf Row_o
 let eu8_c := rowsOf u8_c
 let qJE := @lenI (List Row)
 show AC Tryz.prog 120 [.v (.bx 119 [.im true (eu8_c a0v_b), .s (.int .i64 a0v_i), .s (.int .i64 a0v_h)])] _ _
 refine run3 Tryz.func120 (by rfl) (by rfl) (by cbv) ⟨by decide, rfl⟩ ?_
 intro ar cm bo sc sa sx ss sl bs sb ln sr ap up rp fr ge le lt nz mm ma sm fl al ci hL F hP hA hT hM hC
 refine Run.seq ?_
 refine Run.region hL hT [] (by cbv) hq0 ?_
 refine Run.seq ?_
 obtain ⟨⟨⟨qcI, qkD, qlD⟩, ⟨⟨qoB⟩, qoI, qDC⟩⟩, h_r1, h⟩ := bnd h
 refine Run.region hL hT [(1, .call [true] [.v (.bx 119 [.im true (eu8_c a0v_b), .s (.int .i64 qkD), .s (.int .i64 qlD)])] [.ag [.ow 3 (qB qoB), .s (.int .i64 qoI), .ow 50 (qbD qDC)]])] (by cbv) ?_ ?_
 · exact (hq (hC (qFJ h_r1)) (hq Tt hq0))
 refine Run.seq ?_
 refine Run.seq ?_
 obtain ⟨⟨⟨qdL, qDF, qEF⟩, r2v_2⟩, h_r2, h⟩ := bnd h
 refine Run.region hL hT [(1, .call [true, false] [.v (.bx 119 [.im true (eu8_c a0v_b), .s (.int .i64 qDF), .s (.int .i64 qEF)]), .v (.jk)] [.v (.s (.int .i64 r2v_2))])] (by cbv) ?_ ?_
 · exact (hq (hC (qx h_r2)) hq0)
 refine Run.block ?_
 refine Run.seq ?_
 refine Run.region hL hT [] (by cbv) ?_ ?_
 · exact (hq Tt hq0)
 refine Run.cond (by cbv) (hq0) (fun c3 => ?_) (fun c3 => ?_)
 ·
  have h := if_t c3 h
  obtain ⟨l4, h_l4, h⟩ := bnd h
  obtain ⟨⟨⟨qrY, qCQ, qDQ⟩, r5v_2⟩, h_r5, h⟩ := bnd h
  refine Run.region hL hT [(2, .call [true, false] [.v (.bx 119 [.im true (eu8_c a0v_b), .s (.int .i64 qCQ), .s (.int .i64 qDQ)]), .v (.jk)] [.v (.s (.int .i64 r5v_2))])] (by cbv) ?_ ?_
  · exact (hq (hC (AC.args (qaD h_r5) (ALe.v LLe.r (ALe.v (quQ rfl (qGB (f := Int_c) h_l4 (RLe.cons rfl LLe.r (RLe.cons rfl LLe.r (RLe.cons rfl LLe.r RLe.nil))))) ALe.nil)))) (hq Tt hq0))
  refine Run.row (rows := [[.s (.int .i64 (-1))], [.s (.int .i64 100000)], [.s (.int .i64 100001)]]) 16386 (qB l4) (by cbv) (qGB (f := Int_c) h_l4 (RLe.cons rfl LLe.r (RLe.cons rfl LLe.r (RLe.cons rfl LLe.r RLe.nil)))) ?_
  refine Run.seq ?_
  refine Run.region hL hT [] (by cbv) ?_ ?_
  · exact (hq Tt (hq Tt hq0))
  refine Run.weak ?_ (Weak.keep (rows := qB qoB) 4098 (by cbv) (qB qoB) (qAC qwC _))
  refine Run.weak ?_ (Weak.keep (rows := qbD qDC) 4354 (by cbv) (qBC qDC) (qAC qnJ _))
  refine Run.ret ?_
  cases h
  refine ⟨_, _, by cbv, ?_, ?_⟩
  · exact LLe.r
  exact (ALe.ag rfl LLe.r ALe.nil)
 have h := if_f c3 h
 refine Run.seq ?_
 refine Run.region hL hT [] (by cbv) ?_ ?_
 · exact (hq Tt hq0)
 refine Run.cond (by cbv) (hq0) (fun c6 => ?_) (fun c6 => ?_)
 ·
  have h := if_t c6 h
  obtain ⟨l7, h_l7, h⟩ := bnd h
  refine Run.region hL hT [] (by cbv) ?_ ?_
  · exact (hq Tt (hq (cut_0 h_l7) (hq (qGb (f := qIE) h_l7) (hq (Int.le_refl _) (hq Tt hq0)))))
  rw [show ln (qbD qDC) = qJE qDC from ln_eq qIE _]
  refine Run.seq ?_
  refine Run.region hL hT [] (by cbv) ?_ ?_
  · exact (hq Tt (hq Tt hq0))
  refine Run.weak ?_ (Weak.keep (rows := qB qoB) 4098 (by cbv) (qB qoB) (qAC qwC _))
  refine Run.weak ?_ (Weak.keepB (rows := qbD qDC) (l := [.t (.im true (qB qoB)), .t (.s (.int .i64 qoI))]) 1 4354 (by cbv) (by cbv) (qBC l7) ((congrArg (fun q => sr q 1 (qJE qDC)) (qAC qnJ _)).trans (qLO qLC h_l7)))
  refine Run.ret ?_
  cases h
  refine ⟨_, _, by cbv, ?_, ?_⟩
  · exact LLe.r
  exact (ALe.ag rfl LLe.r ALe.nil)
 have h := if_f c6 h
 refine Run.seq ?_
 refine Run.region hL hT [] (by cbv) ?_ ?_
 · exact (hq Tt hq0)
 refine Run.cond (by cbv) (hq0) (fun c8 => ?_) (fun c8 => ?_)
 ·
  have h := if_t c8 h
  obtain ⟨x9, h_x9, h⟩ := bnd h
  obtain ⟨⟨⟨qkb, qJX, qKX⟩, ⟨qjO, qxJ⟩⟩, h_r10, h⟩ := bnd h
  obtain ⟨l11, h_l11, h⟩ := bnd h
  obtain ⟨l12, h_l12, h⟩ := bnd h
  obtain ⟨l13, h_l13, h⟩ := bnd h
  refine Run.weak ?_ (Weak.take (rows := qbD qDC) (e2 := 56) (r2 := qJ x9) hT 4354 0 0 27577 1027577 (by cbv) (by cbv) (by cbv) (qTD h_x9) (qWE qIE h_x9) ((congrArg (fun q => q[0]?) (qw (f := qIE) h_x9)).trans rfl) rfl (up (qbD qDC) 0 0 [.jk]) rfl)
  refine Run.draw hL hT hM [(5, .lk [.jk] [(0, 1027577)]), (7, .call [true, false] [.v (.bx 119 [.im true (eu8_c a0v_b), .s (.int .i64 qJX), .s (.int .i64 qKX)]), .v (.jk)] [.ag [.s (.int .i64 qjO), .ow 3 (qB qxJ)]])] (by cbv) (by cbv) (by cbv) (by cbv) (by cbv) ?_ ?_
  · exact (hq Tt (hq Tt (hq (qP h_x9) (hq (up_lt qIE h_x9) (hq Tt (hq (qP h_x9) (hq (up_lt qIE h_x9) (hq (up_ge qIE h_x9) (hq (hC (qLH h_r10)) (hq (qnC (P := Tryz.prog) (f := Row_o) RLe.r (qGB (f := Row_o) h_l11 (RLe.cons rfl LLe.r RLe.nil)) h_l12) (hq (qP h_x9) (hq (up_lt qIE h_x9) (hq (qP h_x9) (hq (up_lt qIE h_x9) hq0))))))))))))))
  refine Run.row (rows := (up (up (qbD qDC) 0 0 [.jk]) 0 0 [.ow 56 ((ap (qJ x9) ([[.s (.int .i64 qjO), .ow 3 (qB qxJ)]])))])) 4354 (qbD l13) (by cbv) (qwZ (f := qIE) h_x9 h_l13 (ltn (qlY _) (by decide)) rfl (LLe.cons (LLe.ow (qmC (f := Row_o) RLe.r (qGB (f := Row_o) h_l11 (RLe.cons rfl LLe.r RLe.nil)) h_l12)) LLe.nil)) ?_
  refine Run.seq ?_
  refine Run.region hL hT [] (by cbv) ?_ ?_
  · exact (hq Tt (hq Tt hq0))
  refine Run.weak ?_ (Weak.keep (rows := qB qoB) 4098 (by cbv) (qB qoB) (qAC qwC _))
  refine Run.weak ?_ (Weak.keep (rows := qbD l13) 4354 (by cbv) (qBC l13) (qAC qnJ _))
  refine Run.ret ?_
  cases h
  refine ⟨_, _, by cbv, ?_, ?_⟩
  · exact LLe.r
  exact (ALe.ag rfl LLe.r ALe.nil)
 have h := if_f c8 h
 refine Run.seq ?_
 refine Run.region hL hT [] (by cbv) ?_ ?_
 · exact (hq Tt hq0)
 refine Run.cond (by cbv) (hq0) (fun c14 => ?_) (fun c14 => ?_)
 ·
  have h := if_t c14 h
  obtain ⟨⟨⟨qlb, qLX, qMX⟩, ⟨qNI⟩⟩, h_r15, h⟩ := bnd h
  refine Run.region hL hT [(1, .call [true] [.v (.bx 119 [.im true (eu8_c a0v_b), .s (.int .i64 qLX), .s (.int .i64 qMX)])] [.ag [.ow 3 (qB qNI)]])] (by cbv) ?_ ?_
  · exact (hq (hC (qeK h_r15)) (hq Tt hq0))
  refine Run.seq ?_
  refine Run.region hL hT [] (by cbv) ?_ ?_
  · exact (hq Tt (hq Tt hq0))
  refine Run.weak ?_ (Weak.keep (rows := qB qNI) 28674 (by cbv) (qB qNI) (qAC qwC _))
  refine Run.weak ?_ (Weak.keep (rows := qbD qDC) 4354 (by cbv) (qBC qDC) (qAC qnJ _))
  refine Run.ret ?_
  cases h
  refine ⟨_, _, by cbv, ?_, ?_⟩
  · exact LLe.r
  exact (ALe.ag rfl LLe.r ALe.nil)
 have h := if_f c14 h
 refine Run.skip ?_
 refine Run.seq ?_
 refine Run.region hL hT [] (by cbv) ?_ ?_
 · exact (hq Tt (hq Tt hq0))
 refine Run.weak ?_ (Weak.keep (rows := qB qoB) 4098 (by cbv) (qB qoB) (qAC qwC _))
 refine Run.weak ?_ (Weak.keep (rows := qbD qDC) 4354 (by cbv) (qBC qDC) (qAC qnJ _))
 refine Run.ret ?_
 cases h
 refine ⟨_, _, by cbv, ?_, ?_⟩
 · exact LLe.r
 exact (ALe.ag rfl LLe.r ALe.nil)
theorem qyG {a0v_b : List Int} {a0v_i : Int} {a0v_h : Int} {a1 : Int} {r : l1Cur × Bool} (h : qjC.f (l1Cur.mk a0v_b a0v_i a0v_h) a1 = some r) : AC Tryz.prog 83 [.v (.bx 119 [.im true (rowsOf u8_c a0v_b), .s (.int .i64 a0v_i), .s (.int .i64 a0v_h)]), .v (.s (.int .i64 a1))] [.v (.bx 119 [.im true (rowsOf u8_c a0v_b), .s (.int .i64 r.1.i), .s (.int .i64 r.1.h)]), .v (.jk)] [.v (.s (.bool r.2))] := by
 unfold qjC.f at h
 let eu8_c := rowsOf u8_c
 show AC Tryz.prog 83 [.v (.bx 119 [.im true (eu8_c a0v_b), .s (.int .i64 a0v_i), .s (.int .i64 a0v_h)]), .v (.s (.int .i64 a1))] _ _
 refine run3 Tryz.func83 (by rfl) (by rfl) (by cbv) ⟨by decide, rfl⟩ ?_
 intro ar cm bo sc sa sx ss sl bs sb ln sr ap up rp fr ge le lt nz mm ma sm fl al ci hL F hP hA hT hM hC
 refine Run.seq ?_
 refine Run.region hL hT [] (by cbv) hq0 ?_
 refine Run.seq ?_
 obtain ⟨⟨⟨qcI, qkD, qlD⟩, r1v_2⟩, h_r1, h⟩ := bnd h
 refine Run.region hL hT [(2, .call [true, false] [.v (.bx 119 [.im true (eu8_c a0v_b), .s (.int .i64 qkD), .s (.int .i64 qlD)]), .v (.jk)] [.v (.s (.int .i64 r1v_2))])] (by cbv) ?_ ?_
 · exact (hq (hC (qx h_r1)) (hq Tt hq0))
 refine Run.ret ?_
 cases h
 refine ⟨_, _, by cbv, ?_, ?_⟩
 · exact LLe.r
 exact (ALe.v LLe.r ALe.nil)
theorem qFF {a0 : Int} {a1 : Int} {r : Int} (h : qkC.f a0 a1 = some r) : AC Tryz.prog 93 [.v (.s (.int .i64 a0)), .v (.s (.int .i64 a1))] [.v (.jk), .v (.jk)] [.v (.s (.int .i64 r))] := by
 unfold qkC.f at h
 show AC Tryz.prog 93 [.v (.s (.int .i64 a0)), .v (.s (.int .i64 a1))] _ _
 refine run3 Tryz.func93 (by rfl) (by rfl) (by cbv) ⟨by decide, rfl⟩ ?_
 intro ar cm bo sc sa sx ss sl bs sb ln sr ap up rp fr ge le lt nz mm ma sm fl al ci hL F hP hA hT hM hC
 refine Run.seq ?_
 refine Run.region hL hT [] (by cbv) hq0 ?_
 refine Run.seq ?_
 refine Run.seq ?_
 refine Run.region hL hT [] (by cbv) ?_ ?_
 · exact (hq Tt hq0)
 refine Run.cond (by cbv) (hq0) (fun c1 => ?_) (fun c1 => ?_)
 ·
  have h := if_t c1 h
  refine Run.seq ?_
  refine Run.region hL hT [] (by cbv) hq0 ?_
  refine Run.ret ?_
  cases h
  refine ⟨_, _, by cbv, ?_, ?_⟩
  · exact LLe.r
  exact (ALe.v LLe.r ALe.nil)
 have h := if_f c1 h
 refine Run.skip ?_
 refine Run.seq ?_
 refine Run.region hL hT [] (by cbv) hq0 ?_
 refine Run.ret ?_
 cases h
 refine ⟨_, _, by cbv, ?_, ?_⟩
 · exact LLe.r
 exact (ALe.v LLe.r ALe.nil)
theorem qGJ {a0v_b : List Int} {a0v_i : Int} {a0v_h : Int} {qaC : List Int} {r : l1Cur × Query} (h : qo.f (l1Cur.mk a0v_b a0v_i a0v_h) (Schema.mk qaC) = some r) : AC Tryz.prog 38 [.v (.bx 119 [.im true (rowsOf u8_c a0v_b), .s (.int .i64 a0v_i), .s (.int .i64 a0v_h)]), .ag [.im false (rowsOf Int_c qaC)]] [.v (.bx 119 [.im true (rowsOf u8_c a0v_b), .s (.int .i64 r.1.i), .s (.int .i64 r.1.h)]), .ag [.jk]] [.ag [.s (.int .i64 r.2.Table), .ow 98 (rowsOf qy r.2.Where), .s (.int .i64 r.2.Order), .s (.bool r.2.Down), .s (.int .i64 r.2.First), .ow 3 (rowsOf Int_c r.2.Show), .s (.bool r.2.Kids), .s (.int .i64 r.2.KidTable), .s (.int .i64 r.2.KidCol)]] := by
 unfold qo.f at h
 let qK := rowsOf qy
 let qB := rowsOf Int_c
 let eu8_c := rowsOf u8_c
 let qZ := @lenI Int
 show AC Tryz.prog 38 [.v (.bx 119 [.im true (eu8_c a0v_b), .s (.int .i64 a0v_i), .s (.int .i64 a0v_h)]), .ag [.im false (qB qaC)]] _ _
 refine run3 Tryz.func38 (by rfl) (by rfl) (by cbv) ⟨by decide, rfl⟩ ?_
 intro ar cm bo sc sa sx ss sl bs sb ln sr ap up rp fr ge le lt nz mm ma sm fl al ci hL F hP hA hT hM hC
 refine Run.seq ?_
 refine Run.region hL hT [] (by cbv) hq0 ?_
 refine Run.seq ?_
 obtain ⟨r1, h_r1, h⟩ := bnd h
 obtain ⟨⟨⟨qdL, qDF, qEF⟩, r2v_2⟩, h_r2, h⟩ := bnd h
 refine Run.region hL hT [(4, .call [false, false] [.v (.jk), .v (.jk)] [.v (.s (.int .i64 r1))]), (5, .call [true, false] [.v (.bx 119 [.im true (eu8_c a0v_b), .s (.int .i64 qDF), .s (.int .i64 qEF)]), .v (.jk)] [.v (.s (.int .i64 r2v_2))])] (by cbv) ?_ ?_
 · exact (hq Tt (hq (by rw [show ln (qB qaC) = qZ qaC from ln_eq Int_c _]; exact (hC (qFF h_r1))) (hq (hC (qx h_r2)) (hq Tt hq0))))
 rw [show ln (qB qaC) = qZ qaC from ln_eq Int_c _]
 refine Run.seq ?_
 refine Run.region hL hT [] (by cbv) hq0 ?_
 obtain ⟨K4, h_K4, h⟩ := joinE h
 refine Run.join1 K4 (r := r) (fun (y3 : Int) => ⟨106, 100000, [(0, .pt 0 0 0), (3, .pt 1 0 0), (4, .pt 2 0 0), (5, .pt 3 0 0), (6, .t (.s (.int .i64 y3)))], [(0, .box 119 [.t (.im true (eu8_c a0v_b)), .t (.s (.int .i64 qDF)), .t (.s (.int .i64 qEF))]), (1, .box 26 [.t (.im false (qB qaC))]), (2, .box 32 [.t (.s (.int .i64 0)), .t (.s (.slice none 0 0)), .t (.s (.int .i64 0)), .t (.s (.bool false)), .t (.s (.int .i64 0)), .t (.s (.slice none 0 0)), .t (.s (.bool false)), .t (.s (.int .i64 0)), .t (.s (.int .i64 0))]), (3, .box 32 [.t (.s (.int .i64 r2v_2)), .t (.s (.slice none 0 0)), .t (.s (.int .i64 0)), .t (.s (.bool false)), .t (.s (.int .i64 0)), .t (.s (.slice none 0 0)), .t (.s (.bool false)), .t (.s (.int .i64 0)), .t (.s (.int .i64 0))])]⟩) ?_ ?_
 ·
  skip
  refine Run.seq ?_
  refine Run.region hL hT [] (by cbv) ?_ ?_
  · exact (hq Tt (hq Tt (hq Tt hq0)))
  rw [show ln (qB qaC) = qZ qaC from ln_eq Int_c _]
  refine Run.cond (by cbv) (hq0) (fun c5 => ?_) (fun c5 => ?_)
  ·
   have h := if_t c5 h
   obtain ⟨x6, h_x6, h⟩ := bnd h
   obtain ⟨r7, h_r7, h⟩ := bnd h
   refine Run.region hL hT [(4, .el [.s (.int .i64 x6)]), (6, .call [false, false] [.v (.jk), .v (.jk)] [.v (.s (.int .i64 r7))])] (by cbv) ?_ ?_
   · exact (hq Tt (hq Tt (hq (qP h_x6) (hq (qe (f := Int_c) h_x6) (hq (qw (f := Int_c) h_x6) (hq (hC (qFF h_r7)) hq0))))))
   refine ⟨r7, h, Weak.of _ [(0, 0), (1, 1), (2, 2), (3, 4104)] hA (by cbv) ?_⟩
   repeat (first | exact hq0 | refine hq (by first | exact Tt | rfl) ?_)
  have h := if_f c5 h
  refine Run.skip ?_
  refine ⟨1, h, Weak.of _ [(0, 0), (1, 1), (2, 2), (3, 4104)] hA (by cbv) ?_⟩
  repeat (first | exact hq0 | refine hq (by first | exact Tt | rfl) ?_)
 intro y3 h
 rw [h_K4] at h
 obtain ⟨K11, h_K11, h⟩ := joinE h
 refine Run.join3 K11 (r := r) (fun (y8 : Int) (y9 : Int) (y10 : List Cond) => ⟨106, 100000, [(0, .pt 0 0 0), (3, .pt 1 0 0), (4, .pt 2 0 0), (5, .pt 3 0 0), (6, .t (.s (.int .i64 y3)))], [(0, .box 119 [.t (.im true (eu8_c a0v_b)), .t (.s (.int .i64 y8)), .t (.s (.int .i64 y9))]), (1, .box 26 [.t (.im false (qB qaC))]), (2, .box 32 [.t (.s (.int .i64 0)), .t (.s (.slice none 0 0)), .t (.s (.int .i64 0)), .t (.s (.bool false)), .t (.s (.int .i64 0)), .t (.s (.slice none 0 0)), .t (.s (.bool false)), .t (.s (.int .i64 0)), .t (.s (.int .i64 0))]), (3, .box 32 [.t (.s (.int .i64 r2v_2)), .rf 4, .t (.s (.int .i64 0)), .t (.s (.bool false)), .t (.s (.int .i64 0)), .t (.s (.slice none 0 0)), .t (.s (.bool false)), .t (.s (.int .i64 0)), .t (.s (.int .i64 0))]), (4, .row 0 98 3 (qK y10))]⟩) ?_ ?_
 ·
  skip
  refine Run.seq ?_
  refine Run.region hL hT [] (by cbv) hq0 ?_
  refine Run.block ?_
  refine Run.loop4 (fun (z53 : Int) (z54 : Int) (z55 : List Cond) (z56 : Int) => ⟨106, 100000, [(0, .pt 0 0 0), (3, .pt 1 0 0), (4, .pt 2 0 0), (5, .pt 3 0 0), (6, .t (.s (.int .i64 y3))), (7, .t (.s (.int .i64 z56)))], [(0, .box 119 [.t (.im true (eu8_c a0v_b)), .t (.s (.int .i64 z53)), .t (.s (.int .i64 z54))]), (1, .box 26 [.t (.im false (qB qaC))]), (2, .box 32 [.t (.s (.int .i64 0)), .t (.s (.slice none 0 0)), .t (.s (.int .i64 0)), .t (.s (.bool false)), .t (.s (.int .i64 0)), .t (.s (.slice none 0 0)), .t (.s (.bool false)), .t (.s (.int .i64 0)), .t (.s (.int .i64 0))]), (3, .box 32 [.t (.s (.int .i64 r2v_2)), .rf 4, .t (.s (.int .i64 0)), .t (.s (.bool false)), .t (.s (.int .i64 0)), .t (.s (.slice none 0 0)), .t (.s (.bool false)), .t (.s (.int .i64 0)), .t (.s (.int .i64 0))]), (4, .row 0 98 3 (qK z55))]⟩) (x0 := qDF) (x1 := qEF) (x2 := []) (x3 := 0) h ((Weak.nilB (l := [.t (.s (.int .i64 r2v_2))]) hT 3 1 105096 98 rfl (by cbv) (by cbv) (by cbv)).trans (Weak.of _ [(0, 0), (1, 1), (2, 2), (3, 3), (4, 105096)] hA (by cbv) ?_)) (fun _ _ _ _ => rfl) ?_
  · repeat (first | exact hq0 | refine hq (by first | exact Tt | rfl) ?_)
  intro k z53 z54 z55 z56 h
  rw [qo.l0] at h
  refine Run.seq ?_
  refine Run.seq ?_
  obtain ⟨⟨⟨qmb, qnR, qoR⟩, qnb⟩, h_r57, h⟩ := bnd h
  refine Run.region hL hT [(2, .call [true, false] [.v (.bx 119 [.im true (eu8_c a0v_b), .s (.int .i64 qnR), .s (.int .i64 qoR)]), .v (.jk)] [.v (.s (.int .i64 qnb))])] (by cbv) ?_ ?_
  · exact (hq (hC (qx h_r57)) (hq Tt hq0))
  refine Run.cond (by cbv) (hq0) (fun c58 => ?_) (fun c58 => ?_)
  ·
   have h := if_t c58 h
   refine Run.skip ?_
   refine Run.seq ?_
   refine Run.block ?_
   obtain ⟨⟨⟨qob, qNX, qOX⟩, qVZ⟩, h_r59, h⟩ := bnd h
   obtain ⟨⟨⟨qpb, qPX, qQX⟩, qWZ⟩, h_r60, h⟩ := bnd h
   obtain ⟨⟨⟨qqb, qpR, qqR⟩, qXZ⟩, h_r61, h⟩ := bnd h
   obtain ⟨l62, h_l62, h⟩ := bnd h
   obtain ⟨l63, h_l63, h⟩ := bnd h
   refine Run.draw hL hT hM [(4, .call [true, false] [.v (.bx 119 [.im true (eu8_c a0v_b), .s (.int .i64 qNX), .s (.int .i64 qOX)]), .v (.jk)] [.v (.s (.int .i64 qVZ))]), (6, .call [true, false] [.v (.bx 119 [.im true (eu8_c a0v_b), .s (.int .i64 qPX), .s (.int .i64 qQX)]), .v (.jk)] [.v (.s (.int .i64 qWZ))]), (9, .call [true, false] [.v (.bx 119 [.im true (eu8_c a0v_b), .s (.int .i64 qpR), .s (.int .i64 qqR)]), .v (.jk)] [.v (.s (.int .i64 qXZ))])] (by cbv) (by cbv) (by cbv) (by cbv) (by cbv) ?_ ?_
   · exact (hq Tt (hq (hC (qx h_r59)) (hq (hC (qx h_r60)) (hq Tt (hq (hC (qx h_r61)) (hq (qnC (P := Tryz.prog) (f := qy) RLe.r (qGB (f := qy) h_l62 (RLe.cons rfl LLe.r RLe.nil)) h_l63) (hq Tt hq0)))))))
   refine Run.row (rows := (ap (qK z55) ([[.s (.int .i64 qVZ), .s (.int .i64 (ar .add .i64 1 qWZ)), .s (.int .i64 qXZ)]]))) 104108 (qK l63) (by cbv) (qmC (f := qy) RLe.r (qGB (f := qy) h_l62 (RLe.cons rfl LLe.r RLe.nil)) h_l63) ?_
   refine Run.region hL hT [] (by cbv) ?_ ?_
   · exact (hq Tt hq0)
   refine ⟨qpR, qqR, l63, (ar .add .i64 z56 1), h, Weak.of _ [(0, 0), (1, 1), (2, 2), (3, 3), (4, 104108)] hA (by cbv) ?_⟩
   repeat (first | exact hq0 | refine hq (by first | exact Tt | rfl) ?_)
  have h := if_f c58 h
  refine Run.exit ?_
  refine ⟨qnR, qoR, z55, h, Weak.of _ [(0, 0), (1, 1), (2, 2), (3, 3), (4, 4)] hA (by cbv) ?_⟩
  repeat (first | exact hq0 | refine hq (by first | exact Tt | rfl) ?_)
 intro y8 y9 y10 h
 rw [h_K11] at h
 refine Run.seq ?_
 obtain ⟨⟨⟨qrb, qRX, qSX⟩, qkO⟩, h_r64, h⟩ := bnd h
 refine Run.region hL hT [(3, .call [true, false] [.v (.bx 119 [.im true (eu8_c a0v_b), .s (.int .i64 qRX), .s (.int .i64 qSX)]), .v (.jk)] [.v (.s (.int .i64 qkO))])] (by cbv) ?_ ?_
 · exact (hq Tt (hq (hC (qx h_r64)) (hq Tt hq0)))
 refine Run.seq ?_
 obtain ⟨⟨⟨qsb, qTX, qUX⟩, qVX⟩, h_r65, h⟩ := bnd h
 refine Run.region hL hT [(5, .call [true, false] [.v (.bx 119 [.im true (eu8_c a0v_b), .s (.int .i64 qTX), .s (.int .i64 qUX)]), .v (.jk)] [.v (.s (.bool qVX))])] (by cbv) ?_ ?_
 · exact (hq Tt (hq Tt (hq (fun _ => hq0) (hq (fun g67 => (hq g67 (hq (hC (qyG (gd_t h_r65 g67))) hq0))) (hq Tt (hq Tt (hq Tt (hq (fun q68 => (hq q68 hq0)) (hq (fun _ => hq0) (hq Tt hq0))))))))))
 refine Run.seq ?_
 obtain ⟨l70, h_l70, h⟩ := bnd h
 obtain ⟨⟨⟨qtb, qrR, qsR⟩, qkT⟩, h_r71, h⟩ := bnd h
 refine Run.region hL hT [(2, .call [true, false] [.v (.bx 119 [.im true (eu8_c a0v_b), .s (.int .i64 qrR), .s (.int .i64 qsR)]), .v (.jk)] [.v (.s (.int .i64 qkT))])] (by cbv) ?_ ?_
 · exact (hq (hC (AC.args (qaD h_r71) (ALe.v LLe.r (ALe.v (quQ rfl (qGB (f := Int_c) h_l70 (RLe.cons rfl LLe.r (RLe.cons rfl LLe.r (RLe.cons rfl LLe.r (RLe.cons rfl LLe.r (RLe.cons rfl LLe.r (RLe.cons rfl LLe.r RLe.nil)))))))) ALe.nil)))) (hq Tt hq0))
 refine Run.row (rows := [[.s (.int .i64 0)], [.s (.int .i64 0)], [.s (.int .i64 1)], [.s (.int .i64 2)], [.s (.int .i64 3)], [.s (.int .i64 5)]]) 108193 (qB l70) (by cbv) (qGB (f := Int_c) h_l70 (RLe.cons rfl LLe.r (RLe.cons rfl LLe.r (RLe.cons rfl LLe.r (RLe.cons rfl LLe.r (RLe.cons rfl LLe.r (RLe.cons rfl LLe.r RLe.nil))))))) ?_
 obtain ⟨K76, h_K76, h⟩ := joinE h
 refine Run.join4 K76 (r := r) (fun (y72 : Int) (y73 : Int) (y74 : Bool) (y75 : List Int) => ⟨106, 100000, [(0, .pt 0 0 0), (3, .pt 1 0 0), (4, .pt 2 0 0), (5, .pt 3 0 0)], [(0, .box 119 [.t (.im true (eu8_c a0v_b)), .t (.s (.int .i64 y72)), .t (.s (.int .i64 y73))]), (1, .box 26 [.t (.im false (qB qaC))]), (2, .box 32 [.t (.s (.int .i64 0)), .t (.s (.slice none 0 0)), .t (.s (.int .i64 0)), .t (.s (.bool false)), .t (.s (.int .i64 0)), .t (.s (.slice none 0 0)), .t (.s (.bool false)), .t (.s (.int .i64 0)), .t (.s (.int .i64 0))]), (3, .box 32 [.t (.s (.int .i64 r2v_2)), .rf 4, .t (.s (.int .i64 qkO)), .t (.s (.bool y74)), .t (.s (.int .i64 qkT)), .rf 5, .t (.s (.bool false)), .t (.s (.int .i64 0)), .t (.s (.int .i64 0))]), (4, .row 0 98 3 (qK y10)), (5, .row 0 3 1 (qB y75))]⟩) ?_ ?_
 ·
  skip
  refine Run.seq ?_
  refine Run.region hL hT [] (by cbv) hq0 ?_
  refine Run.block ?_
  refine Run.loop5 (fun (z120 : Int) (z121 : Int) (z122 : Bool) (z123 : List Int) (z124 : Int) => ⟨106, 100000, [(0, .pt 0 0 0), (3, .pt 1 0 0), (4, .pt 2 0 0), (5, .pt 3 0 0), (6, .t (.s (.int .i64 y3))), (8, .t (.s (.int .i64 z124)))], [(0, .box 119 [.t (.im true (eu8_c a0v_b)), .t (.s (.int .i64 z120)), .t (.s (.int .i64 z121))]), (1, .box 26 [.t (.im false (qB qaC))]), (2, .box 32 [.t (.s (.int .i64 0)), .t (.s (.slice none 0 0)), .t (.s (.int .i64 0)), .t (.s (.bool false)), .t (.s (.int .i64 0)), .t (.s (.slice none 0 0)), .t (.s (.bool false)), .t (.s (.int .i64 0)), .t (.s (.int .i64 0))]), (3, .box 32 [.t (.s (.int .i64 r2v_2)), .rf 4, .t (.s (.int .i64 qkO)), .t (.s (.bool z122)), .t (.s (.int .i64 qkT)), .rf 5, .t (.s (.bool false)), .t (.s (.int .i64 0)), .t (.s (.int .i64 0))]), (4, .row 0 98 3 (qK y10)), (5, .row 0 3 1 (qB z123))]⟩) (x0 := qrR) (x1 := qsR) (x2 := (bo (cm .gtr qkO 0) qVX false)) (x3 := []) (x4 := 0) h ((Weak.nilB (l := [.t (.s (.int .i64 r2v_2)), .rf 4, .t (.s (.int .i64 qkO)), .t (.s (.bool (bo (cm .gtr qkO 0) qVX false))), .t (.s (.int .i64 qkT))]) hT 3 5 117384 3 rfl (by cbv) (by cbv) (by cbv)).trans (Weak.of _ [(0, 0), (1, 1), (2, 2), (3, 3), (4, 4), (5, 117384)] hA (by cbv) ?_)) (fun _ _ _ _ _ => rfl) ?_
  · repeat (first | exact hq0 | refine hq (by first | exact Tt | rfl) ?_)
  intro k z120 z121 z122 z123 z124 h
  rw [qo.l1] at h
  refine Run.seq ?_
  refine Run.seq ?_
  refine Run.region hL hT [] (by cbv) ?_ ?_
  · exact (hq Tt hq0)
  refine Run.cond (by cbv) (hq0) (fun c125 => ?_) (fun c125 => ?_)
  ·
   have h := if_t c125 h
   refine Run.skip ?_
   refine Run.seq ?_
   refine Run.block ?_
   refine Run.seq ?_
   obtain ⟨⟨⟨qta, qfK, qgK⟩, qha⟩, qub, h⟩ := bnd h
   refine Run.region hL hT [(1, .call [true, false] [.v (.bx 119 [.im true (eu8_c a0v_b), .s (.int .i64 qfK), .s (.int .i64 qgK)]), .v (.jk)] [.v (.s (.bool qha))])] (by cbv) ?_ ?_
   · exact (hq (hC (qyG qub)) hq0)
   refine Run.cond (by cbv) (hq0) (fun c127 => ?_) (fun c127 => ?_)
   ·
    have h := if_t c127 h
    obtain ⟨l128, qYZ, h⟩ := bnd h
    obtain ⟨l129, qZZ, h⟩ := bnd h
    refine Run.region hL hT [] (by cbv) ?_ ?_
    · exact (hq Tt (hq (qnC (P := Tryz.prog) (f := Int_c) RLe.r (qGB (f := Int_c) qYZ (RLe.cons rfl LLe.r RLe.nil)) qZZ) (hq Tt hq0)))
    refine Run.row (rows := (ap (qB z123) ([[.s (.int .i64 z124)]]))) 108196 (qB l129) (by cbv) (qmC (f := Int_c) RLe.r (qGB (f := Int_c) qYZ (RLe.cons rfl LLe.r RLe.nil)) qZZ) ?_
    refine Run.region hL hT [] (by cbv) ?_ ?_
    · exact (hq Tt hq0)
    refine ⟨qfK, qgK, z122, l129, (ar .add .i64 z124 1), h, Weak.of _ [(0, 0), (1, 1), (2, 2), (3, 3), (4, 4), (5, 108196)] hA (by cbv) ?_⟩
    repeat (first | exact hq0 | refine hq (by first | exact Tt | rfl) ?_)
   have h := if_f c127 h
   refine Run.skip ?_
   refine Run.region hL hT [] (by cbv) ?_ ?_
   · exact (hq Tt hq0)
   refine ⟨qfK, qgK, z122, z123, (ar .add .i64 z124 1), h, Weak.of _ [(0, 0), (1, 1), (2, 2), (3, 3), (4, 4), (5, 5)] hA (by cbv) ?_⟩
   repeat (first | exact hq0 | refine hq (by first | exact Tt | rfl) ?_)
  have h := if_f c125 h
  refine Run.exit ?_
  refine ⟨z120, z121, z122, z123, h, Weak.of _ [(0, 0), (1, 1), (2, 2), (3, 3), (4, 4), (5, 5)] hA (by cbv) ?_⟩
  repeat (first | exact hq0 | refine hq (by first | exact Tt | rfl) ?_)
 intro y72 y73 y74 y75 h
 rw [h_K76] at h
 refine Run.seq ?_
 refine Run.seq ?_
 obtain ⟨⟨⟨qua, qmU, qnU⟩, qia⟩, qqW, h⟩ := bnd h
 refine Run.region hL hT [(1, .call [true, false] [.v (.bx 119 [.im true (eu8_c a0v_b), .s (.int .i64 qmU), .s (.int .i64 qnU)]), .v (.jk)] [.v (.s (.bool qia))])] (by cbv) ?_ ?_
 · exact (hq (hC (qyG qqW)) hq0)
 refine Run.cond (by cbv) (hq0) (fun c131 => ?_) (fun c131 => ?_)
 ·
  have h := if_t c131 h
  refine Run.seq ?_
  refine Run.region hL hT [] (by cbv) ?_ ?_
  · exact (hq Tt hq0)
  refine Run.seq ?_
  obtain ⟨r132, qvb, h⟩ := bnd h
  obtain ⟨⟨⟨qva, qoU, qpU⟩, qja⟩, qwb, h⟩ := bnd h
  refine Run.region hL hT [(4, .call [false, false] [.v (.jk), .v (.jk)] [.v (.s (.int .i64 r132))]), (5, .call [true, false] [.v (.bx 119 [.im true (eu8_c a0v_b), .s (.int .i64 qoU), .s (.int .i64 qpU)]), .v (.jk)] [.v (.s (.int .i64 qja))])] (by cbv) ?_ ?_
  · exact (hq Tt (hq (by rw [show ln (qB qaC) = qZ qaC from ln_eq Int_c _]; exact (hC (qFF qvb))) (hq (hC (qx qwb)) (hq Tt hq0))))
  rw [show ln (qB qaC) = qZ qaC from ln_eq Int_c _]
  refine Run.seq ?_
  refine Run.region hL hT [] (by cbv) ?_ ?_
  · exact (hq Tt (hq Tt (hq Tt hq0)))
  rw [show ln (qB qaC) = qZ qaC from ln_eq Int_c _]
  refine Run.cond (by cbv) (hq0) (fun c134 => ?_) (fun c134 => ?_)
  ·
   have h := if_t c134 h
   obtain ⟨x135, qWX, h⟩ := bnd h
   obtain ⟨r136, qxb, h⟩ := bnd h
   obtain ⟨⟨⟨qwa, qqU, qrU⟩, qka⟩, qyb, h⟩ := bnd h
   refine Run.region hL hT [(5, .el [.s (.int .i64 x135)]), (7, .call [false, false] [.v (.jk), .v (.jk)] [.v (.s (.int .i64 r136))]), (8, .call [true, false] [.v (.bx 119 [.im true (eu8_c a0v_b), .s (.int .i64 qqU), .s (.int .i64 qrU)]), .v (.jk)] [.v (.s (.int .i64 qka))])] (by cbv) ?_ ?_
   · exact (hq Tt (hq Tt (hq (qP qWX) (hq (qe (f := Int_c) qWX) (hq (qw (f := Int_c) qWX) (hq (hC (qFF qxb)) (hq (hC (qx qyb)) (hq Tt hq0))))))))
   refine Run.seq ?_
   refine Run.region hL hT [] (by cbv) ?_ ?_
   · exact (hq Tt (hq Tt hq0))
   refine Run.ret ?_
   cases h
   refine ⟨_, _, by cbv, ?_, ?_⟩
   · exact LLe.r
   exact (ALe.ag rfl LLe.r ALe.nil)
  have h := if_f c134 h
  refine Run.skip ?_
  refine Run.seq ?_
  refine Run.region hL hT [] (by cbv) ?_ ?_
  · exact (hq Tt (hq Tt hq0))
  refine Run.ret ?_
  cases h
  refine ⟨_, _, by cbv, ?_, ?_⟩
  · exact LLe.r
  exact (ALe.ag rfl LLe.r ALe.nil)
 have h := if_f c131 h
 refine Run.skip ?_
 refine Run.seq ?_
 refine Run.region hL hT [] (by cbv) ?_ ?_
 · exact (hq Tt (hq Tt hq0))
 refine Run.ret ?_
 cases h
 refine ⟨_, _, by cbv, ?_, ?_⟩
 · exact LLe.r
 exact (ALe.ag rfl LLe.r ALe.nil)
theorem qiN {a0v_b : List Int} {a0v_i : Int} {a0v_h : Int} {qaC : List Int} {r : l1Cur × Query} (h : qIG.f (l1Cur.mk a0v_b a0v_i a0v_h) (Schema.mk qaC) = some r) : AC Tryz.prog 121 [.v (.bx 119 [.im true (rowsOf u8_c a0v_b), .s (.int .i64 a0v_i), .s (.int .i64 a0v_h)]), .ag [.im false (rowsOf Int_c qaC)]] [.v (.bx 119 [.im true (rowsOf u8_c a0v_b), .s (.int .i64 r.1.i), .s (.int .i64 r.1.h)]), .ag [.jk]] [.ag [.s (.int .i64 r.2.Table), .ow 98 (rowsOf qy r.2.Where), .s (.int .i64 r.2.Order), .s (.bool r.2.Down), .s (.int .i64 r.2.First), .ow 3 (rowsOf Int_c r.2.Show), .s (.bool r.2.Kids), .s (.int .i64 r.2.KidTable), .s (.int .i64 r.2.KidCol)]] := by
 unfold qIG.f at h
 let qK := rowsOf qy
 let qB := rowsOf Int_c
 let eu8_c := rowsOf u8_c
 show AC Tryz.prog 121 [.v (.bx 119 [.im true (eu8_c a0v_b), .s (.int .i64 a0v_i), .s (.int .i64 a0v_h)]), .ag [.im false (qB qaC)]] _ _
 refine run3 Tryz.func121 (by rfl) (by rfl) (by cbv) ⟨by decide, rfl⟩ ?_
 intro ar cm bo sc sa sx ss sl bs sb ln sr ap up rp fr ge le lt nz mm ma sm fl al ci hL F hP hA hT hM hC
 refine Run.seq ?_
 refine Run.region hL hT [] (by cbv) hq0 ?_
 refine Run.seq ?_
 obtain ⟨⟨⟨qcI, qkD, qlD⟩, ⟨qOI, qmG, qPI, qHJ, qQI, qkH, qIJ, qaG, qlH⟩⟩, h_r1, h⟩ := bnd h
 refine Run.region hL hT [(2, .call [true, false] [.v (.bx 119 [.im true (eu8_c a0v_b), .s (.int .i64 qkD), .s (.int .i64 qlD)]), .ag [.jk]] [.ag [.s (.int .i64 qOI), .ow 98 (qK qmG), .s (.int .i64 qPI), .s (.bool qHJ), .s (.int .i64 qQI), .ow 3 (qB qkH), .s (.bool qIJ), .s (.int .i64 qaG), .s (.int .i64 qlH)]])] (by cbv) ?_ ?_
 · exact (hq Tt (hq (hC (qGJ h_r1)) (hq Tt hq0)))
 refine Run.seq ?_
 refine Run.seq ?_
 obtain ⟨⟨⟨qdL, qDF, qEF⟩, r2v_2⟩, h_r2, h⟩ := bnd h
 refine Run.region hL hT [(1, .call [true, false] [.v (.bx 119 [.im true (eu8_c a0v_b), .s (.int .i64 qDF), .s (.int .i64 qEF)]), .v (.jk)] [.v (.s (.int .i64 r2v_2))])] (by cbv) ?_ ?_
 · exact (hq (hC (qx h_r2)) hq0)
 refine Run.block ?_
 refine Run.seq ?_
 refine Run.region hL hT [] (by cbv) ?_ ?_
 · exact (hq Tt hq0)
 refine Run.cond (by cbv) (hq0) (fun c3 => ?_) (fun c3 => ?_)
 ·
  have h := if_t c3 h
  obtain ⟨⟨⟨qjc, qwY, qxY⟩, r4v_2⟩, h_r4, h⟩ := bnd h
  refine Run.region hL hT [(1, .call [true, false] [.v (.bx 119 [.im true (eu8_c a0v_b), .s (.int .i64 qwY), .s (.int .i64 qxY)]), .v (.jk)] [.v (.s (.int .i64 r4v_2))])] (by cbv) ?_ ?_
  · exact (hq (hC (qx h_r4)) (hq Tt (hq Tt hq0)))
  refine Run.seq ?_
  refine Run.region hL hT [] (by cbv) ?_ ?_
  · exact (hq Tt (hq Tt hq0))
  refine Run.ret ?_
  cases h
  refine ⟨_, _, by cbv, ?_, ?_⟩
  · exact LLe.r
  exact (ALe.ag rfl LLe.r ALe.nil)
 have h := if_f c3 h
 refine Run.seq ?_
 refine Run.region hL hT [] (by cbv) ?_ ?_
 · exact (hq Tt hq0)
 refine Run.cond (by cbv) (hq0) (fun c5 => ?_) (fun c5 => ?_)
 ·
  have h := if_t c5 h
  obtain ⟨⟨⟨qsY, qEQ, qFQ⟩, r6v_2⟩, h_r6, h⟩ := bnd h
  obtain ⟨⟨⟨qtY, qGQ, qHQ⟩, r7v_2⟩, h_r7, h⟩ := bnd h
  obtain ⟨l8, h_l8, h⟩ := bnd h
  obtain ⟨⟨⟨qkc, qyY, qzY⟩, r9v_2⟩, h_r9, h⟩ := bnd h
  obtain ⟨l10, h_l10, h⟩ := bnd h
  obtain ⟨l11, h_l11, h⟩ := bnd h
  refine Run.draw hL hT hM [(3, .call [true, false] [.v (.bx 119 [.im true (eu8_c a0v_b), .s (.int .i64 qEQ), .s (.int .i64 qFQ)]), .v (.jk)] [.v (.s (.int .i64 r6v_2))]), (6, .call [true, false] [.v (.bx 119 [.im true (eu8_c a0v_b), .s (.int .i64 qGQ), .s (.int .i64 qHQ)]), .v (.jk)] [.v (.s (.int .i64 r7v_2))]), (9, .call [true, false] [.v (.bx 119 [.im true (eu8_c a0v_b), .s (.int .i64 qyY), .s (.int .i64 qzY)]), .v (.jk)] [.v (.s (.int .i64 r9v_2))])] (by cbv) (by cbv) (by cbv) (by cbv) (by cbv) ?_ ?_
  · exact (hq Tt (hq (hC (qx h_r6)) (hq Tt (hq (hC (qx h_r7)) (hq (hC (AC.args (qaD h_r9) (ALe.v LLe.r (ALe.v (quQ rfl (qGB (f := Int_c) h_l8 (RLe.cons rfl LLe.r (RLe.cons rfl LLe.r RLe.nil)))) ALe.nil)))) (hq (qnC (P := Tryz.prog) (f := qy) RLe.r (qGB (f := qy) h_l10 (RLe.cons rfl LLe.r RLe.nil)) h_l11) (hq Tt hq0)))))))
  refine Run.row (rows := [[.s (.int .i64 0)], [.s (.int .i64 1000000001)]]) 20489 (qB l8) (by cbv) (qGB (f := Int_c) h_l8 (RLe.cons rfl LLe.r (RLe.cons rfl LLe.r RLe.nil))) ?_
  refine Run.row (rows := (ap (qK qmG) ([[.s (.int .i64 (ar .sub .i64 r6v_2 1)), .s (.int .i64 r7v_2), .s (.int .i64 r9v_2)]]))) 20493 (qK l11) (by cbv) (qmC (f := qy) RLe.r (qGB (f := qy) h_l10 (RLe.cons rfl LLe.r RLe.nil)) h_l11) ?_
  refine Run.seq ?_
  refine Run.region hL hT [] (by cbv) ?_ ?_
  · exact (hq Tt (hq Tt hq0))
  refine Run.ret ?_
  cases h
  refine ⟨_, _, by cbv, ?_, ?_⟩
  · exact LLe.r
  exact (ALe.ag rfl LLe.r ALe.nil)
 have h := if_f c5 h
 refine Run.seq ?_
 refine Run.region hL hT [] (by cbv) ?_ ?_
 · exact (hq Tt hq0)
 refine Run.cond (by cbv) (hq0) (fun c12 => ?_) (fun c12 => ?_)
 ·
  have h := if_t c12 h
  obtain ⟨⟨⟨qGX, quJ, qvJ⟩, qzb⟩, h_r13, h⟩ := bnd h
  refine Run.region hL hT [(1, .call [true, false] [.v (.bx 119 [.im true (eu8_c a0v_b), .s (.int .i64 quJ), .s (.int .i64 qvJ)]), .v (.jk)] [.v (.s (.int .i64 qzb))])] (by cbv) ?_ ?_
  · exact (hq (hC (qx h_r13)) (hq Tt (hq Tt hq0)))
  refine Run.seq ?_
  refine Run.region hL hT [] (by cbv) ?_ ?_
  · exact (hq Tt (hq Tt hq0))
  refine Run.ret ?_
  cases h
  refine ⟨_, _, by cbv, ?_, ?_⟩
  · exact LLe.r
  exact (ALe.ag rfl LLe.r ALe.nil)
 have h := if_f c12 h
 refine Run.seq ?_
 refine Run.region hL hT [] (by cbv) ?_ ?_
 · exact (hq Tt hq0)
 refine Run.cond (by cbv) (hq0) (fun c14 => ?_) (fun c14 => ?_)
 ·
  have h := if_t c14 h
  obtain ⟨l15, h_l15, h⟩ := bnd h
  obtain ⟨⟨⟨qAX, qrJ, qsJ⟩, qjT⟩, h_r16, h⟩ := bnd h
  refine Run.region hL hT [(2, .call [true, false] [.v (.bx 119 [.im true (eu8_c a0v_b), .s (.int .i64 qrJ), .s (.int .i64 qsJ)]), .v (.jk)] [.v (.s (.int .i64 qjT))])] (by cbv) ?_ ?_
  · exact (hq (hC (AC.args (qaD h_r16) (ALe.v LLe.r (ALe.v (quQ rfl (qGB (f := Int_c) h_l15 (RLe.cons rfl LLe.r (RLe.cons rfl LLe.r (RLe.cons rfl LLe.r RLe.nil))))) ALe.nil)))) (hq Tt hq0))
  refine Run.row (rows := [[.s (.int .i64 (-1))], [.s (.int .i64 24)], [.s (.int .i64 25)]]) 28674 (qB l15) (by cbv) (qGB (f := Int_c) h_l15 (RLe.cons rfl LLe.r (RLe.cons rfl LLe.r (RLe.cons rfl LLe.r RLe.nil)))) ?_
  refine Run.seq ?_
  refine Run.region hL hT [] (by cbv) ?_ ?_
  · exact (hq Tt (hq Tt hq0))
  refine Run.ret ?_
  cases h
  refine ⟨_, _, by cbv, ?_, ?_⟩
  · exact LLe.r
  exact (ALe.ag rfl LLe.r ALe.nil)
 have h := if_f c14 h
 refine Run.seq ?_
 refine Run.region hL hT [] (by cbv) ?_ ?_
 · exact (hq Tt hq0)
 refine Run.cond (by cbv) (hq0) (fun c17 => ?_) (fun c17 => ?_)
 ·
  have h := if_t c17 h
  obtain ⟨⟨⟨qAc, qXX, qYX⟩, qaZ⟩, h_r18, h⟩ := bnd h
  obtain ⟨l19, h_l19, h⟩ := bnd h
  obtain ⟨l20, h_l20, h⟩ := bnd h
  refine Run.draw hL hT hM [(3, .call [true, false] [.v (.bx 119 [.im true (eu8_c a0v_b), .s (.int .i64 qXX), .s (.int .i64 qYX)]), .v (.jk)] [.v (.s (.int .i64 qaZ))])] (by cbv) (by cbv) (by cbv) (by cbv) (by cbv) ?_ ?_
  · exact (hq Tt (hq (hC (qx h_r18)) (hq (qnC (P := Tryz.prog) (f := Int_c) RLe.r (qGB (f := Int_c) h_l19 (RLe.cons rfl LLe.r RLe.nil)) h_l20) (hq Tt hq0))))
  refine Run.row (rows := (ap (qB qkH) ([[.s (.int .i64 qaZ)]]))) 32774 (qB l20) (by cbv) (qmC (f := Int_c) RLe.r (qGB (f := Int_c) h_l19 (RLe.cons rfl LLe.r RLe.nil)) h_l20) ?_
  refine Run.seq ?_
  refine Run.region hL hT [] (by cbv) ?_ ?_
  · exact (hq Tt (hq Tt hq0))
  refine Run.ret ?_
  cases h
  refine ⟨_, _, by cbv, ?_, ?_⟩
  · exact LLe.r
  exact (ALe.ag rfl LLe.r ALe.nil)
 have h := if_f c17 h
 refine Run.seq ?_
 refine Run.region hL hT [] (by cbv) ?_ ?_
 · exact (hq Tt hq0)
 refine Run.cond (by cbv) (hq0) (fun c21 => ?_) (fun c21 => ?_)
 ·
  have h := if_t c21 h
  obtain ⟨⟨⟨qBc, qZX, qaX⟩, qCc⟩, h_r22, h⟩ := bnd h
  refine Run.region hL hT [(1, .call [true, false] [.v (.bx 119 [.im true (eu8_c a0v_b), .s (.int .i64 qZX), .s (.int .i64 qaX)]), .v (.jk)] [.v (.s (.int .i64 qCc))])] (by cbv) ?_ ?_
  · exact (hq (hC (qx h_r22)) (hq Tt (hq Tt hq0)))
  refine Run.seq ?_
  refine Run.region hL hT [] (by cbv) ?_ ?_
  · exact (hq Tt (hq Tt hq0))
  refine Run.ret ?_
  cases h
  refine ⟨_, _, by cbv, ?_, ?_⟩
  · exact LLe.r
  exact (ALe.ag rfl LLe.r ALe.nil)
 have h := if_f c21 h
 refine Run.skip ?_
 refine Run.seq ?_
 refine Run.region hL hT [] (by cbv) ?_ ?_
 · exact (hq Tt (hq Tt hq0))
 refine Run.ret ?_
 cases h
 refine ⟨_, _, by cbv, ?_, ?_⟩
 · exact LLe.r
 exact (ALe.ag rfl LLe.r ALe.nil)
theorem qLQ {a0 : List Int} {r : l1Cur} (h : qZD.f a0 = some r) : AC Tryz.prog 36 [.v (.im true (rowsOf u8_c a0))] [.v (.jk)] [.v (.bx 119 [.im true (rowsOf u8_c r.b), .s (.int .i64 r.i), .s (.int .i64 r.h)])] := by
 unfold qZD.f at h
 let eu8_c := rowsOf u8_c
 let qiH := @lenI Int
 show AC Tryz.prog 36 [.v (.im true (eu8_c a0))] _ _
 refine run3 Tryz.func36 (by rfl) (by rfl) (by cbv) ⟨by decide, rfl⟩ ?_
 intro ar cm bo sc sa sx ss sl bs sb ln sr ap up rp fr ge le lt nz mm ma sm fl al ci hL F hP hA hT hM hC
 refine Run.seq ?_
 refine Run.region hL hT [] (by cbv) hq0 ?_
 refine Run.seq ?_
 refine Run.region hL hT [] (by cbv) ?_ ?_
 · exact (hq Tt hq0)
 rw [show ln (eu8_c a0) = qiH a0 from ln_eq u8_c _]
 refine Run.seq ?_
 refine Run.seq ?_
 refine Run.region hL hT [] (by cbv) hq0 ?_
 refine Run.block ?_
 refine Run.loop2 (fun (z4 : Int) (z5 : Int) => ⟨32, 100000, [(0, .t (.im true (eu8_c a0))), (3, .t (.s (.int .i64 z4))), (4, .t (.s (.int .i64 z5)))], []⟩) (x0 := (ar .add .i64 17333 (qiH a0))) (x1 := 0) h (Weak.of _ [] hA (by cbv) ?_) (fun _ _ => rfl) ?_
 · repeat (first | exact hq0 | refine hq (by first | exact Tt | rfl) ?_)
 intro k z4 z5 h
 rw [qZD.l0] at h
 refine Run.seq ?_
 refine Run.seq ?_
 refine Run.region hL hT [] (by cbv) ?_ ?_
 · exact (hq Tt (hq (fun _ => hq0) (hq (fun g7 => (by have g7C := g7; rw [show ln (eu8_c a0) = qiH a0 from ln_eq u8_c _] at g7C; exact (hq g7 (hq Tt hq0)))) (hq (fun q8 => (by have q8C := q8; rw [show ln (eu8_c a0) = qiH a0 from ln_eq u8_c _] at q8C; exact (hq q8 hq0))) (hq (fun _ => hq0) hq0)))))
 rw [show ln (eu8_c a0) = qiH a0 from ln_eq u8_c _]
 refine Run.cond (by cbv) (hq0) (fun c10 => ?_) (fun c10 => ?_)
 ·
  have h := if_t c10 h
  refine Run.skip ?_
  refine Run.seq ?_
  refine Run.block ?_
  obtain ⟨x11, h_x11, h⟩ := bnd h
  refine Run.region hL hT [(4, .el [.s (.int .u8 x11)])] (by cbv) ?_ ?_
  · exact (hq Tt (hq (qP h_x11) (hq (qe (f := u8_c) h_x11) (hq (qw (f := u8_c) h_x11) (hq Tt (hq Tt (hq Tt hq0)))))))
  refine Run.region hL hT [] (by cbv) ?_ ?_
  · exact (hq Tt hq0)
  refine ⟨(ar .and .i64 (ar .add .i64 (ar .add .i64 (ar .mul .i64 z4 131) (ar .or .i64 x11 0)) 7) 1073741823), (ar .add .i64 z5 1), h, Weak.of _ [] hA (by cbv) ?_⟩
  repeat (first | exact hq0 | refine hq (by first | exact Tt | rfl) ?_)
 have h := if_f c10 h
 refine Run.exit ?_
 refine Run.seq ?_
 refine Run.region hL hT [] (by cbv) hq0 ?_
 refine Run.ret ?_
 cases h
 refine ⟨_, _, by cbv, ?_, ?_⟩
 · exact LLe.r
 exact (ALe.v LLe.r ALe.nil)
theorem qyM {a0 : List Int} {r : Store × Query} (h : qgF.f a0 = some r) : AC Tryz.prog 55 [.v (.im true (rowsOf u8_c a0))] [.v (.jk)] [.ag [.im true (rowsOf Int_c r.1.Schema.Cols), .s (.int .i64 r.1.Version), .im true (rowsOf qLC r.1.Tables)], .ag [.s (.int .i64 r.2.Table), .im true (rowsOf qy r.2.Where), .s (.int .i64 r.2.Order), .s (.bool r.2.Down), .s (.int .i64 r.2.First), .im true (rowsOf Int_c r.2.Show), .s (.bool r.2.Kids), .s (.int .i64 r.2.KidTable), .s (.int .i64 r.2.KidCol)]] := by
 unfold qgF.f at h
 let qK := rowsOf qy
 let qB := rowsOf Int_c
 let qBC := rowsOf qLC
 let eu8_c := rowsOf u8_c
 show AC Tryz.prog 55 [.v (.im true (eu8_c a0))] _ _
 refine run3 Tryz.func55 (by rfl) (by rfl) (by cbv) ⟨by decide, rfl⟩ ?_
 intro ar cm bo sc sa sx ss sl bs sb ln sr ap up rp fr ge le lt nz mm ma sm fl al ci hL F hP hA hT hM hC
 refine Run.seq ?_
 refine Run.region hL hT [] (by cbv) hq0 ?_
 refine Run.seq ?_
 obtain ⟨⟨r1v_b, r1v_i, r1v_h⟩, h_r1, h⟩ := bnd h
 refine Run.region hL hT [(1, .call [true] [.v (.jk)] [.v (.bx 119 [.im true (eu8_c r1v_b), .s (.int .i64 r1v_i), .s (.int .i64 r1v_h)])])] (by cbv) ?_ ?_
 · exact (hq (hC (qLQ h_r1)) hq0)
 refine Run.seq ?_
 obtain ⟨⟨⟨qdL, qDF, qEF⟩, ⟨⟨qJJ⟩, qjN, qMQ⟩⟩, h_r2, h⟩ := bnd h
 refine Run.region hL hT [(1, .call [true] [.v (.bx 119 [.im true (eu8_c r1v_b), .s (.int .i64 qDF), .s (.int .i64 qEF)])] [.ag [.im true (qB qJJ), .s (.int .i64 qjN), .im true (qBC qMQ)]])] (by cbv) ?_ ?_
 · exact (hq (hC (qhN h_r2)) (hq Tt hq0))
 refine Run.seq ?_
 obtain ⟨⟨⟨qqY, qAQ, qBQ⟩, ⟨qOE, qRD, qPE, qkE, qQE, qmD, qlE, qID, qnD⟩⟩, h_r3, h⟩ := bnd h
 refine Run.draw hL hT hM [(4, .call [true, false] [.v (.bx 119 [.im true (eu8_c r1v_b), .s (.int .i64 qAQ), .s (.int .i64 qBQ)]), .ag [.jk]] [.ag [.s (.int .i64 qOE), .ow 98 (qK qRD), .s (.int .i64 qPE), .s (.bool qkE), .s (.int .i64 qQE), .ow 3 (qB qmD), .s (.bool qlE), .s (.int .i64 qID), .s (.int .i64 qnD)]])] (by cbv) (by cbv) (by cbv) (by cbv) (by cbv) ?_ ?_
 · exact (hq Tt (hq Tt (hq (hC (qiN h_r3)) (hq Tt (hq Tt hq0)))))
 refine Run.weak ?_ (Weak.keep (rows := qK qRD) 12292 (by cbv) (qK qRD) (qAC qkY _))
 refine Run.weak ?_ (Weak.keep (rows := qB qmD) 12548 (by cbv) (qB qmD) (qAC qwC _))
 refine Run.ret ?_
 cases h
 refine ⟨_, _, by cbv, ?_, ?_⟩
 · exact LLe.r
 exact (ALe.ag rfl LLe.r (ALe.ag rfl LLe.r ALe.nil))
theorem qLL {a0 : List Int} {r : Store × Query} (h : qxE.f a0 = some r) : AC Tryz.prog 15 [.v (.im true (rowsOf u8_c a0))] [.v (.jk)] [.ag [.im true (rowsOf Int_c r.1.Schema.Cols), .s (.int .i64 r.1.Version), .im true (rowsOf qLC r.1.Tables)], .ag [.s (.int .i64 r.2.Table), .im true (rowsOf qy r.2.Where), .s (.int .i64 r.2.Order), .s (.bool r.2.Down), .s (.int .i64 r.2.First), .im true (rowsOf Int_c r.2.Show), .s (.bool r.2.Kids), .s (.int .i64 r.2.KidTable), .s (.int .i64 r.2.KidCol)]] := by
 unfold qxE.f at h
 let qK := rowsOf qy
 let qB := rowsOf Int_c
 let qBC := rowsOf qLC
 let eu8_c := rowsOf u8_c
 show AC Tryz.prog 15 [.v (.im true (eu8_c a0))] _ _
 refine run3 Tryz.func15 (by rfl) (by rfl) (by cbv) ⟨by decide, rfl⟩ ?_
 intro ar cm bo sc sa sx ss sl bs sb ln sr ap up rp fr ge le lt nz mm ma sm fl al ci hL F hP hA hT hM hC
 refine Run.seq ?_
 refine Run.region hL hT [] (by cbv) hq0 ?_
 refine Run.seq ?_
 obtain ⟨⟨⟨⟨qKJ⟩, qkN, qNQ⟩, ⟨qOI, qmG, qPI, qHJ, qQI, qkH, qIJ, qaG, qlH⟩⟩, h_r1, h⟩ := bnd h
 refine Run.region hL hT [(1, .call [true] [.v (.jk)] [.ag [.im true (qB qKJ), .s (.int .i64 qkN), .im true (qBC qNQ)], .ag [.s (.int .i64 qOI), .im true (qK qmG), .s (.int .i64 qPI), .s (.bool qHJ), .s (.int .i64 qQI), .im true (qB qkH), .s (.bool qIJ), .s (.int .i64 qaG), .s (.int .i64 qlH)]])] (by cbv) ?_ ?_
 · exact (hq (hC (qyM h_r1)) (hq Tt (hq Tt hq0)))
 refine Run.seq ?_
 refine Run.draw hL hT hM [] (by cbv) (by cbv) (by cbv) (by cbv) (by cbv) ?_ ?_
 · exact (hq Tt (hq Tt (hq Tt (hq Tt hq0))))
 refine Run.ret ?_
 cases h
 refine ⟨_, _, by cbv, ?_, ?_⟩
 · exact LLe.r
 exact (ALe.ag rfl LLe.r (ALe.ag rfl LLe.r ALe.nil))
theorem qOQ {qL : List Int} {a1 : Int} {qDE : Int} {qOB : List Int} {r : Bool} (h : qLD.f (Schema.mk qL) a1 (Row.mk qDE qOB) = some r) : AC Tryz.prog 85 [.ag [.im false (rowsOf Int_c qL)], .v (.s (.int .i64 a1)), .ag [.s (.int .i64 qDE), .im false (rowsOf Int_c qOB)]] [.ag [.jk], .v (.jk), .ag [.jk, .jk]] [.v (.s (.bool r))] := by
 unfold qLD.f at h
 let qB := rowsOf Int_c
 let qZ := @lenI Int
 show AC Tryz.prog 85 [.ag [.im false (qB qL)], .v (.s (.int .i64 a1)), .ag [.s (.int .i64 qDE), .im false (qB qOB)]] _ _
 refine run3 Tryz.func85 (by rfl) (by rfl) (by cbv) ⟨by decide, rfl⟩ ?_
 intro ar cm bo sc sa sx ss sl bs sb ln sr ap up rp fr ge le lt nz mm ma sm fl al ci hL F hP hA hT hM hC
 refine Run.seq ?_
 refine Run.region hL hT [] (by cbv) hq0 ?_
 refine Run.seq ?_
 refine Run.seq ?_
 obtain ⟨r1, h_r1, h⟩ := bnd h
 obtain ⟨r2, h_r2, h⟩ := bnd h
 obtain ⟨r3, h_r3, h⟩ := bnd h
 obtain ⟨x4, h_x4, h⟩ := bnd h
 refine Run.draw hL hT hM [(1, .call [false] [.ag [.jk]] [.v (.s (.bool r1))]), (9, .call [false, false, false] [.v (.jk), .v (.jk), .v (.jk)] [.v (.s (.bool r2))]), (15, .call [false, false, false] [.v (.jk), .v (.jk), .v (.jk)] [.v (.s (.bool r3))]), (25, .el [.s (.int .i64 x4)])] (by cbv) (by cbv) (by cbv) (by cbv) (by cbv) ?_ ?_
 · exact (hq Tt (hq (hC (qvD h_r1)) (hq (fun _ => hq0) (hq (fun _ => hq0) (hq (fun g7 => (hq g7 (hq Tt hq0))) (hq (fun g8 => (hq g8 hq0)) (hq (fun g9 => (hq g9 (hq Tt hq0))) (hq (fun g10 => (hq g10 (hq g10 (hq (by rw [show ln (qB qL) = qZ qL from ln_eq Int_c _]; exact (hC (qfB (gd_t h_r2 g10)))) hq0)))) (hq (fun g11 => (hq g11 hq0)) (hq (fun _ => hq0) (hq (fun q13 => (hq (bo_m q13) hq0)) (hq (fun _ => hq0) (hq (fun g15 => (hq g15 (hq Tt hq0))) (hq (fun g16 => (hq g16 (hq (hC (qfB (gd_t h_r3 g16))) hq0))) (hq (fun g17 => (hq g17 hq0)) (hq (fun _ => hq0) (hq (fun q19 => (hq (bo_m q19) hq0)) (hq (fun _ => hq0) (hq (fun g21 => (hq g21 (hq Tt hq0))) (hq (fun g22 => (hq g22 hq0)) (hq (fun _ => hq0) (hq (fun g24 => (hq g24 (hq Tt hq0))) (hq (fun _ => hq0) (hq (fun g26 => (hq g26 (hq g26 (hq (qP (gd_t h_x4 g26)) (hq (qe (f := Int_c) (gd_t h_x4 g26)) (hq (qw (f := Int_c) (gd_t h_x4 g26)) hq0)))))) (hq (fun g27 => (hq g27 hq0)) (hq (fun g28 => (hq g28 (hq g28 (hq Tt hq0)))) (hq (fun _ => hq0) (hq (fun q30 => (hq (bo_m q30) hq0)) hq0))))))))))))))))))))))))))))
 rw [show ln (qB qL) = qZ qL from ln_eq Int_c _]
 rw [show ln (qB qOB) = qZ qOB from ln_eq Int_c _]
 refine Run.cond (by cbv) (hq0) (fun c31 => ?_) (fun c31 => ?_)
 ·
  have h := if_t c31 h
  refine Run.seq ?_
  refine Run.region hL hT [] (by cbv) hq0 ?_
  refine Run.ret ?_
  cases h
  refine ⟨_, _, by cbv, ?_, ?_⟩
  · exact LLe.r
  exact (ALe.v LLe.r ALe.nil)
 have h := if_f c31 h
 refine Run.skip ?_
 refine Run.seq ?_
 refine Run.seq ?_
 refine Run.region hL hT [] (by cbv) hq0 ?_
 refine Run.block ?_
 refine Run.loop1 (fun (z35 : Int) => ⟨51, 100000, [(5, .pt 1 0 0), (7, .t (.s (.int .i64 z35)))], [(1, .box 56 [.t (.s (.int .i64 qDE)), .t (.im false (qB qOB))])]⟩) (x0 := 0) h (Weak.of _ [(1, 1)] hA (by cbv) ?_) (fun _ => rfl) ?_
 · repeat (first | exact hq0 | refine hq (by first | exact Tt | rfl) ?_)
 intro k z35 h
 rw [qLD.l0] at h
 refine Run.seq ?_
 refine Run.seq ?_
 refine Run.region hL hT [] (by cbv) ?_ ?_
 · exact (hq Tt (hq Tt hq0))
 rw [show ln (qB qOB) = qZ qOB from ln_eq Int_c _]
 refine Run.cond (by cbv) (hq0) (fun c36 => ?_) (fun c36 => ?_)
 ·
  have h := if_t c36 h
  refine Run.skip ?_
  refine Run.seq ?_
  refine Run.block ?_
  refine Run.seq ?_
  obtain ⟨x37, h_x37, h⟩ := bnd h
  obtain ⟨r38, h_r38, h⟩ := bnd h
  refine Run.region hL hT [(3, .el [.s (.int .i64 x37)]), (5, .call [false, false, false] [.v (.jk), .v (.jk), .v (.jk)] [.v (.s (.bool r38))])] (by cbv) ?_ ?_
  · exact (hq Tt (hq (qP h_x37) (hq (qe (f := Int_c) h_x37) (hq (qw (f := Int_c) h_x37) (hq (hC (qfB h_r38)) hq0)))))
  refine Run.cond (by cbv) (hq0) (fun c39 => ?_) (fun c39 => ?_)
  ·
   have h := if_t c39 h
   refine Run.seq ?_
   refine Run.region hL hT [] (by cbv) hq0 ?_
   refine Run.ret ?_
   cases h
   refine ⟨_, _, by cbv, ?_, ?_⟩
   · exact LLe.r
   exact (ALe.v LLe.r ALe.nil)
  have h := if_f c39 h
  refine Run.skip ?_
  refine Run.region hL hT [] (by cbv) ?_ ?_
  · exact (hq Tt hq0)
  refine ⟨(ar .add .i64 z35 1), h, Weak.of _ [(1, 1)] hA (by cbv) ?_⟩
  repeat (first | exact hq0 | refine hq (by first | exact Tt | rfl) ?_)
 have h := if_f c36 h
 refine Run.exit ?_
 refine Run.seq ?_
 refine Run.region hL hT [] (by cbv) hq0 ?_
 refine Run.ret ?_
 cases h
 refine ⟨_, _, by cbv, ?_, ?_⟩
 · exact LLe.r
 exact (ALe.v LLe.r ALe.nil)
theorem qlN {qL : List Int} {a1 : Int} {a2 : List Row} {r : Bool} (h : qsC.f (Schema.mk qL) a1 a2 = some r) : AC Tryz.prog 65 [.ag [.im false (rowsOf Int_c qL)], .v (.s (.int .i64 a1)), .v (.im false (rowsOf Row_i a2))] [.ag [.jk], .v (.jk), .v (.jk)] [.v (.s (.bool r))] := by
 unfold qsC.f at h
 let qB := rowsOf Int_c
 let qZB := rowsOf Row_i
 let qZ := @lenI Int
 let qS := @lenI Row
 show AC Tryz.prog 65 [.ag [.im false (qB qL)], .v (.s (.int .i64 a1)), .v (.im false (qZB a2))] _ _
 refine run3 Tryz.func65 (by rfl) (by rfl) (by cbv) ⟨by decide, rfl⟩ ?_
 intro ar cm bo sc sa sx ss sl bs sb ln sr ap up rp fr ge le lt nz mm ma sm fl al ci hL F hP hA hT hM hC
 refine Run.seq ?_
 refine Run.region hL hT [] (by cbv) hq0 ?_
 obtain ⟨K2, h_K2, h⟩ := joinE h
 refine Run.join1 K2 (r := r) (fun (y1 : Unit) => ⟨55, 100000, [(1, .t (.s (.int .i64 a1))), (2, .t (.im false (qZB a2))), (3, .pt 1 0 0)], [(1, .box 26 [.t (.im false (qB qL))])]⟩) ?_ ?_
 ·
  skip
  refine Run.seq ?_
  refine Run.region hL hT [] (by cbv) hq0 ?_
  refine Run.block ?_
  refine Run.loop1 (fun (z7 : Int) => ⟨55, 100000, [(1, .t (.s (.int .i64 a1))), (2, .t (.im false (qZB a2))), (3, .pt 1 0 0), (7, .t (.s (.int .i64 z7)))], [(1, .box 26 [.t (.im false (qB qL))])]⟩) (x0 := 0) h (Weak.of _ [(1, 0)] hA (by cbv) ?_) (fun _ => rfl) ?_
  · repeat (first | exact hq0 | refine hq (by first | exact Tt | rfl) ?_)
  intro k z7 h
  rw [qsC.l0] at h
  refine Run.seq ?_
  refine Run.seq ?_
  refine Run.region hL hT [] (by cbv) ?_ ?_
  · exact (hq Tt hq0)
  rw [show ln (qZB a2) = qS a2 from ln_eq Row_i _]
  refine Run.cond (by cbv) (hq0) (fun c8 => ?_) (fun c8 => ?_)
  ·
   have h := if_t c8 h
   refine Run.skip ?_
   refine Run.seq ?_
   refine Run.block ?_
   refine Run.seq ?_
   obtain ⟨⟨qdR, qJI⟩, h_x9, h⟩ := bnd h
   obtain ⟨r10, h_r10, h⟩ := bnd h
   obtain ⟨⟨qnS, qXK⟩, h_x11, h⟩ := bnd h
   refine Run.draw hL hT hM [(4, .el [.s (.int .i64 qdR), .im false (qB qJI)]), (6, .call [false, false, false] [.ag [.jk], .v (.jk), .ag [.jk, .jk]] [.v (.s (.bool r10))]), (15, .el [.s (.int .i64 qnS), .im false (qB qXK)]), (20, .el [.s (.int .i64 qdR), .im false (qB qJI)])] (by cbv) (by cbv) (by cbv) (by cbv) (by cbv) ?_ ?_
   · exact (hq Tt (hq (qP h_x9) (hq (qe (f := Row_i) h_x9) (hq (qw (f := Row_i) h_x9) (hq (hC (qOQ h_r10)) (hq (fun _ => hq0) (hq (fun g13 => (hq g13 (hq Tt hq0))) (hq (fun g14 => (hq g14 hq0)) (hq (fun _ => hq0) (hq (fun _ => hq0) (hq (fun g17 => (hq g17 (hq Tt hq0))) (hq (fun g18 => (hq g18 (hq g18 (hq (qP (gd_t h_x11 g18)) (hq (qe (f := Row_i) (gd_t h_x11 g18)) (hq (qw (f := Row_i) (gd_t h_x11 g18)) hq0)))))) (hq (fun g19 => (hq g19 hq0)) (hq (fun g20 => (hq g20 hq0)) (hq (fun _ => hq0) (hq (fun _ => hq0) (hq (fun g23 => (hq g23 (hq g23 (hq (qP h_x9) (hq (qe (f := Row_i) h_x9) (hq (qw (f := Row_i) h_x9) hq0)))))) (hq (fun g24 => (hq g24 hq0)) (hq (fun g25 => (hq g25 hq0)) (hq (fun g26 => (hq g26 (hq g26 (hq Tt hq0)))) (hq (fun g27 => (hq g27 (hq (fun q28 => (hq (bo_a g27 q28) hq0)) (hq (fun _ => hq0) hq0)))) (hq (fun _ => hq0) (hq (fun q31 => (hq (bo_m q31) hq0)) hq0)))))))))))))))))))))))
   refine Run.cond (by cbv) (hq0) (fun c32 => ?_) (fun c32 => ?_)
   ·
    have h := if_t c32 h
    refine Run.seq ?_
    refine Run.region hL hT [] (by cbv) hq0 ?_
    refine Run.ret ?_
    cases h
    refine ⟨_, _, by cbv, ?_, ?_⟩
    · exact LLe.r
    exact (ALe.v LLe.r ALe.nil)
   have h := if_f c32 h
   refine Run.skip ?_
   refine Run.region hL hT [] (by cbv) ?_ ?_
   · exact (hq Tt hq0)
   refine ⟨(ar .add .i64 z7 1), h, Weak.of _ [(1, 1)] hA (by cbv) ?_⟩
   repeat (first | exact hq0 | refine hq (by first | exact Tt | rfl) ?_)
  have h := if_f c8 h
  refine Run.exit ?_
  refine ⟨(), h, Weak.of _ [(1, 1)] hA (by cbv) ?_⟩
  repeat (first | exact hq0 | refine hq (by first | exact Tt | rfl) ?_)
 intro y1 h
 rw [h_K2] at h
 refine Run.seq ?_
 obtain ⟨r33, h_r33, h⟩ := bnd h
 obtain ⟨r34, h_r34, h⟩ := bnd h
 refine Run.region hL hT [(1, .call [false] [.ag [.jk]] [.v (.s (.bool r33))]), (8, .call [false, false, false] [.v (.jk), .v (.jk), .v (.jk)] [.v (.s (.bool r34))])] (by cbv) ?_ ?_
 · exact (hq Tt (hq (hC (qvD h_r33)) (hq (fun _ => hq0) (hq (fun _ => hq0) (hq (fun g37 => (hq g37 (hq Tt hq0))) (hq (fun g38 => (hq g38 hq0)) (hq (fun g39 => (hq g39 (hq Tt hq0))) (hq (fun g40 => (hq g40 (hq g40 (hq (by rw [show ln (qB qL) = qZ qL from ln_eq Int_c _]; exact (hC (qfB (gd_t h_r34 g40)))) hq0)))) (hq (fun q41 => (hq q41 hq0)) (hq (fun _ => hq0) (hq (fun _ => hq0) (hq (fun g44 => (hq g44 hq0)) (hq (fun g45 => (hq g45 (hq Tt hq0))) (hq (fun q46 => (hq q46 hq0)) (hq (fun _ => hq0) hq0)))))))))))))))
 rw [show ln (qB qL) = qZ qL from ln_eq Int_c _]
 rw [show ln (qZB a2) = qS a2 from ln_eq Row_i _]
 refine Run.ret ?_
 cases h
 refine ⟨_, _, by cbv, ?_, ?_⟩
 · exact LLe.r
 exact (ALe.v LLe.r ALe.nil)
theorem qGF {qN : List Int} {qEB : Int} {qq : List (List Row)} {r : Bool} (h : qFC.f (Store.mk (Schema.mk qN) qEB qq) = some r) : AC Tryz.prog 20 [.ag [.im false (rowsOf Int_c qN), .s (.int .i64 qEB), .im false (rowsOf qLC qq)]] [.ag [.jk, .jk, .jk]] [.v (.s (.bool r))] := by
 unfold qFC.f at h
 let qB := rowsOf Int_c
 let qBC := rowsOf qLC
 let qZB := rowsOf Row_i
 let qZ := @lenI Int
 let qJE := @lenI (List Row)
 show AC Tryz.prog 20 [.ag [.im false (qB qN), .s (.int .i64 qEB), .im false (qBC qq)]] _ _
 refine run3 Tryz.func20 (by rfl) (by rfl) (by cbv) ⟨by decide, rfl⟩ ?_
 intro ar cm bo sc sa sx ss sl bs sb ln sr ap up rp fr ge le lt nz mm ma sm fl al ci hL F hP hA hT hM hC
 refine Run.seq ?_
 refine Run.region hL hT [] (by cbv) hq0 ?_
 refine Run.seq ?_
 refine Run.seq ?_
 obtain ⟨r1, h_r1, h⟩ := bnd h
 obtain ⟨r2, h_r2, h⟩ := bnd h
 refine Run.region hL hT [(2, .call [false] [.ag [.jk]] [.v (.s (.bool r1))]), (7, .call [false, false, false] [.v (.jk), .v (.jk), .v (.jk)] [.v (.s (.bool r2))])] (by cbv) ?_ ?_
 · exact (hq Tt (hq (hC (qvD h_r1)) (hq (fun _ => hq0) (hq (fun g4 => (hq g4 (hq Tt hq0))) (hq (fun g5 => (hq g5 (hq (hC (qfB (gd_t h_r2 g5))) hq0))) (hq (fun g6 => (hq g6 hq0)) (hq (fun _ => hq0) (hq (fun q8 => (hq (bo_m q8) hq0)) (hq (fun _ => hq0) (hq (fun g10 => (hq g10 (hq Tt hq0))) (hq (fun g11 => (hq g11 hq0)) (hq (fun _ => hq0) (hq (fun g13 => (hq g13 hq0)) (hq (fun g14 => (hq g14 (hq Tt hq0))) (hq (fun g15 => (hq g15 hq0)) (hq (fun g16 => (hq g16 (hq g16 (hq Tt hq0)))) (hq (fun _ => hq0) (hq (fun q18 => (hq (bo_m q18) hq0)) hq0))))))))))))))))))
 rw [show ln (qB qN) = qZ qN from ln_eq Int_c _]
 rw [show ln (qBC qq) = qJE qq from ln_eq qLC _]
 refine Run.cond (by cbv) (hq0) (fun c19 => ?_) (fun c19 => ?_)
 ·
  have h := if_t c19 h
  refine Run.seq ?_
  refine Run.region hL hT [] (by cbv) hq0 ?_
  refine Run.ret ?_
  cases h
  refine ⟨_, _, by cbv, ?_, ?_⟩
  · exact LLe.r
  exact (ALe.v LLe.r ALe.nil)
 have h := if_f c19 h
 refine Run.skip ?_
 refine Run.seq ?_
 refine Run.seq ?_
 refine Run.region hL hT [] (by cbv) hq0 ?_
 refine Run.block ?_
 refine Run.loop1 (fun (z24 : Int) => ⟨41, 100000, [(1, .pt 1 0 0), (3, .t (.s (.int .i64 z24)))], [(1, .box 29 [.t (.im false (qB qN)), .t (.s (.int .i64 qEB)), .t (.im false (qBC qq))])]⟩) (x0 := 0) h (Weak.of _ [(1, 0)] hA (by cbv) ?_) (fun _ => rfl) ?_
 · repeat (first | exact hq0 | refine hq (by first | exact Tt | rfl) ?_)
 intro k z24 h
 rw [qFC.l0] at h
 refine Run.seq ?_
 refine Run.seq ?_
 refine Run.region hL hT [] (by cbv) ?_ ?_
 · exact (hq Tt (hq Tt hq0))
 rw [show ln (qBC qq) = qJE qq from ln_eq qLC _]
 refine Run.cond (by cbv) (hq0) (fun c25 => ?_) (fun c25 => ?_)
 ·
  have h := if_t c25 h
  refine Run.skip ?_
  refine Run.seq ?_
  refine Run.block ?_
  refine Run.seq ?_
  obtain ⟨x26, h_x26, h⟩ := bnd h
  obtain ⟨r27, h_r27, h⟩ := bnd h
  refine Run.draw hL hT hM [(6, .el [.im false (qZB x26)]), (8, .call [false, false, false] [.ag [.jk], .v (.jk), .v (.jk)] [.v (.s (.bool r27))])] (by cbv) (by cbv) (by cbv) (by cbv) (by cbv) ?_ ?_
  · exact (hq Tt (hq Tt (hq (qP h_x26) (hq (qe (f := qLC) h_x26) (hq (qw (f := qLC) h_x26) (hq (hC (qlN h_r27)) hq0))))))
  refine Run.cond (by cbv) (hq0) (fun c28 => ?_) (fun c28 => ?_)
  ·
   have h := if_t c28 h
   refine Run.seq ?_
   refine Run.region hL hT [] (by cbv) hq0 ?_
   refine Run.ret ?_
   cases h
   refine ⟨_, _, by cbv, ?_, ?_⟩
   · exact LLe.r
   exact (ALe.v LLe.r ALe.nil)
  have h := if_f c28 h
  refine Run.skip ?_
  refine Run.region hL hT [] (by cbv) ?_ ?_
  · exact (hq Tt hq0)
  refine ⟨(ar .add .i64 z24 1), h, Weak.of _ [(1, 1)] hA (by cbv) ?_⟩
  repeat (first | exact hq0 | refine hq (by first | exact Tt | rfl) ?_)
 have h := if_f c25 h
 refine Run.exit ?_
 refine Run.seq ?_
 refine Run.region hL hT [] (by cbv) hq0 ?_
 refine Run.ret ?_
 cases h
 refine ⟨_, _, by cbv, ?_, ?_⟩
 · exact LLe.r
 exact (ALe.v LLe.r ALe.nil)
theorem qHF {qL : List Int} {qr : Int} {qT : List Cond} {qt : Int} {qHB : Bool} {qu : Int} {qBB : List Int} {qIB : Bool} {qQ : Int} {qb : Int} {r : Bool} (h : qYB.f (Schema.mk qL) (Query.mk qr qT qt qHB qu qBB qIB qQ qb) = some r) : AC Tryz.prog 21 [.ag [.im false (rowsOf Int_c qL)], .ag [.s (.int .i64 qr), .im false (rowsOf qy qT), .s (.int .i64 qt), .s (.bool qHB), .s (.int .i64 qu), .im false (rowsOf Int_c qBB), .s (.bool qIB), .s (.int .i64 qQ), .s (.int .i64 qb)]] [.ag [.jk], .ag [.jk, .jk, .jk, .jk, .jk, .jk, .jk, .jk, .jk]] [.v (.s (.bool r))] := by
 unfold qYB.f at h
 let qK := rowsOf qy
 let qB := rowsOf Int_c
 let qbC := @lenI Cond
 let qZ := @lenI Int
 show AC Tryz.prog 21 [.ag [.im false (qB qL)], .ag [.s (.int .i64 qr), .im false (qK qT), .s (.int .i64 qt), .s (.bool qHB), .s (.int .i64 qu), .im false (qB qBB), .s (.bool qIB), .s (.int .i64 qQ), .s (.int .i64 qb)]] _ _
 refine run3 Tryz.func21 (by rfl) (by rfl) (by cbv) ⟨by decide, rfl⟩ ?_
 intro ar cm bo sc sa sx ss sl bs sb ln sr ap up rp fr ge le lt nz mm ma sm fl al ci hL F hP hA hT hM hC
 refine Run.seq ?_
 refine Run.region hL hT [] (by cbv) hq0 ?_
 refine Run.seq ?_
 refine Run.seq ?_
 obtain ⟨r1, h_r1, h⟩ := bnd h
 obtain ⟨r2, h_r2, h⟩ := bnd h
 refine Run.region hL hT [(1, .call [false] [.ag [.jk]] [.v (.s (.bool r1))]), (10, .call [false, false, false] [.v (.jk), .v (.jk), .v (.jk)] [.v (.s (.bool r2))])] (by cbv) ?_ ?_
 · exact (hq Tt (hq (hC (qvD h_r1)) (hq (fun _ => hq0) (hq (fun g4 => (hq g4 (hq Tt hq0))) (hq (fun _ => hq0) (hq (fun g6 => (hq g6 (hq Tt hq0))) (hq (fun g7 => (hq g7 hq0)) (hq (fun g8 => (hq g8 (hq Tt hq0))) (hq (fun g9 => (hq g9 (hq g9 (hq (by rw [show ln (qB qL) = qZ qL from ln_eq Int_c _]; exact (hC (qfB (gd_t h_r2 g9)))) hq0)))) (hq (fun g10 => (hq g10 hq0)) (hq (fun _ => hq0) (hq (fun q12 => (hq (bo_m q12) hq0)) (hq (fun _ => hq0) (hq (fun g14 => (hq g14 (hq Tt hq0))) (hq (fun g15 => (hq g15 hq0)) (hq (fun g16 => (hq g16 (hq Tt hq0))) (hq (fun _ => hq0) (hq (fun q18 => (hq (bo_m q18) hq0)) hq0))))))))))))))))))
 rw [show ln (qK qT) = qbC qT from ln_eq qy _]
 rw [show ln (qB qL) = qZ qL from ln_eq Int_c _]
 refine Run.cond (by cbv) (hq0) (fun c19 => ?_) (fun c19 => ?_)
 ·
  have h := if_t c19 h
  refine Run.seq ?_
  refine Run.region hL hT [] (by cbv) hq0 ?_
  refine Run.ret ?_
  cases h
  refine ⟨_, _, by cbv, ?_, ?_⟩
  · exact LLe.r
  exact (ALe.v LLe.r ALe.nil)
 have h := if_f c19 h
 refine Run.skip ?_
 refine Run.seq ?_
 obtain ⟨x20, h_x20, h⟩ := bnd h
 refine Run.region hL hT [(4, .el [.s (.int .i64 x20)])] (by cbv) ?_ ?_
 · exact (hq Tt (hq Tt (hq (qP h_x20) (hq (qe (f := Int_c) h_x20) (hq (qw (f := Int_c) h_x20) hq0)))))
 obtain ⟨K22, h_K22, h⟩ := joinE h
 refine Run.join1 K22 (r := r) (fun (y21 : Unit) => ⟨148, 100000, [(2, .pt 1 0 0), (3, .pt 2 0 0), (5, .t (.s (.int .i64 x20)))], [(1, .box 26 [.t (.im false (qB qL))]), (2, .box 32 [.t (.s (.int .i64 qr)), .t (.im false (qK qT)), .t (.s (.int .i64 qt)), .t (.s (.bool qHB)), .t (.s (.int .i64 qu)), .t (.im false (qB qBB)), .t (.s (.bool qIB)), .t (.s (.int .i64 qQ)), .t (.s (.int .i64 qb))])]⟩) ?_ ?_
 ·
  skip
  refine Run.seq ?_
  refine Run.region hL hT [] (by cbv) hq0 ?_
  refine Run.block ?_
  refine Run.loop1 (fun (z35 : Int) => ⟨148, 100000, [(2, .pt 1 0 0), (3, .pt 2 0 0), (5, .t (.s (.int .i64 x20))), (6, .t (.s (.int .i64 z35)))], [(1, .box 26 [.t (.im false (qB qL))]), (2, .box 32 [.t (.s (.int .i64 qr)), .t (.im false (qK qT)), .t (.s (.int .i64 qt)), .t (.s (.bool qHB)), .t (.s (.int .i64 qu)), .t (.im false (qB qBB)), .t (.s (.bool qIB)), .t (.s (.int .i64 qQ)), .t (.s (.int .i64 qb))])]⟩) (x0 := 0) h (Weak.of _ [(1, 0), (2, 1)] hA (by cbv) ?_) (fun _ => rfl) ?_
  · repeat (first | exact hq0 | refine hq (by first | exact Tt | rfl) ?_)
  intro k z35 h
  rw [qYB.l0] at h
  refine Run.seq ?_
  refine Run.seq ?_
  refine Run.region hL hT [] (by cbv) ?_ ?_
  · exact (hq Tt (hq Tt hq0))
  rw [show ln (qK qT) = qbC qT from ln_eq qy _]
  refine Run.cond (by cbv) (hq0) (fun c36 => ?_) (fun c36 => ?_)
  ·
   have h := if_t c36 h
   refine Run.skip ?_
   refine Run.seq ?_
   refine Run.block ?_
   refine Run.seq ?_
   obtain ⟨⟨qAZ, qla, qDc⟩, h_x37, h⟩ := bnd h
   refine Run.region hL hT [(3, .el [.s (.int .i64 qAZ), .s (.int .i64 qla), .s (.int .i64 qDc)])] (by cbv) ?_ ?_
   · exact (hq Tt (hq (qP h_x37) (hq (qe (f := qy) h_x37) (hq (qw (f := qy) h_x37) (hq Tt hq0)))))
   refine Run.seq ?_
   obtain ⟨r38, h_r38, h⟩ := bnd h
   obtain ⟨r39, h_r39, h⟩ := bnd h
   obtain ⟨r40, h_r40, h⟩ := bnd h
   refine Run.region hL hT [(4, .call [false, false, false] [.v (.jk), .v (.jk), .v (.jk)] [.v (.s (.bool r38))]), (9, .call [false, false, false] [.v (.jk), .v (.jk), .v (.jk)] [.v (.s (.bool r39))]), (15, .call [false, false, false] [.v (.jk), .v (.jk), .v (.jk)] [.v (.s (.bool r40))])] (by cbv) ?_ ?_
   · exact (hq Tt (hq Tt (hq (hC (qfB h_r38)) (hq (fun _ => hq0) (hq (fun g42 => (hq g42 (hq Tt hq0))) (hq (fun g43 => (hq g43 (hq (hC (qfB (gd_t h_r39 g43))) hq0))) (hq (fun g44 => (hq g44 hq0)) (hq (fun _ => hq0) (hq (fun q46 => (hq (bo_m q46) hq0)) (hq (fun _ => hq0) (hq (fun g48 => (hq g48 (hq Tt hq0))) (hq (fun g49 => (hq g49 (hq (hC (qfB (gd_t h_r40 g49))) hq0))) (hq (fun g50 => (hq g50 hq0)) (hq (fun _ => hq0) (hq (fun q52 => (hq (bo_m q52) hq0)) hq0)))))))))))))))
   refine Run.cond (by cbv) (hq0) (fun c53 => ?_) (fun c53 => ?_)
   ·
    have h := if_t c53 h
    refine Run.seq ?_
    refine Run.region hL hT [] (by cbv) hq0 ?_
    refine Run.ret ?_
    cases h
    refine ⟨_, _, by cbv, ?_, ?_⟩
    · exact LLe.r
    exact (ALe.v LLe.r ALe.nil)
   have h := if_f c53 h
   refine Run.skip ?_
   refine Run.region hL hT [] (by cbv) ?_ ?_
   · exact (hq Tt hq0)
   refine ⟨(ar .add .i64 z35 1), h, Weak.of _ [(1, 1), (2, 2)] hA (by cbv) ?_⟩
   repeat (first | exact hq0 | refine hq (by first | exact Tt | rfl) ?_)
  have h := if_f c36 h
  refine Run.exit ?_
  refine ⟨(), h, Weak.of _ [(1, 1), (2, 2)] hA (by cbv) ?_⟩
  repeat (first | exact hq0 | refine hq (by first | exact Tt | rfl) ?_)
 intro y21 h
 rw [h_K22] at h
 obtain ⟨K55, h_K55, h⟩ := joinE h
 refine Run.join1 K55 (r := r) (fun (y54 : Unit) => ⟨148, 100000, [(2, .pt 1 0 0), (3, .pt 2 0 0), (5, .t (.s (.int .i64 x20)))], [(1, .box 26 [.t (.im false (qB qL))]), (2, .box 32 [.t (.s (.int .i64 qr)), .t (.im false (qK qT)), .t (.s (.int .i64 qt)), .t (.s (.bool qHB)), .t (.s (.int .i64 qu)), .t (.im false (qB qBB)), .t (.s (.bool qIB)), .t (.s (.int .i64 qQ)), .t (.s (.int .i64 qb))])]⟩) ?_ ?_
 ·
  skip
  refine Run.seq ?_
  refine Run.region hL hT [] (by cbv) hq0 ?_
  refine Run.block ?_
  refine Run.loop1 (fun (z68 : Int) => ⟨148, 100000, [(2, .pt 1 0 0), (3, .pt 2 0 0), (5, .t (.s (.int .i64 x20))), (8, .t (.s (.int .i64 z68)))], [(1, .box 26 [.t (.im false (qB qL))]), (2, .box 32 [.t (.s (.int .i64 qr)), .t (.im false (qK qT)), .t (.s (.int .i64 qt)), .t (.s (.bool qHB)), .t (.s (.int .i64 qu)), .t (.im false (qB qBB)), .t (.s (.bool qIB)), .t (.s (.int .i64 qQ)), .t (.s (.int .i64 qb))])]⟩) (x0 := 0) h (Weak.of _ [(1, 1), (2, 2)] hA (by cbv) ?_) (fun _ => rfl) ?_
  · repeat (first | exact hq0 | refine hq (by first | exact Tt | rfl) ?_)
  intro k z68 h
  rw [qYB.l1] at h
  refine Run.seq ?_
  refine Run.seq ?_
  refine Run.region hL hT [] (by cbv) ?_ ?_
  · exact (hq Tt (hq Tt hq0))
  rw [show ln (qB qBB) = qZ qBB from ln_eq Int_c _]
  refine Run.cond (by cbv) (hq0) (fun c69 => ?_) (fun c69 => ?_)
  ·
   have h := if_t c69 h
   refine Run.skip ?_
   refine Run.seq ?_
   refine Run.block ?_
   refine Run.seq ?_
   obtain ⟨x70, h_x70, h⟩ := bnd h
   obtain ⟨r71, h_r71, h⟩ := bnd h
   obtain ⟨x72, h_x72, h⟩ := bnd h
   refine Run.draw hL hT hM [(3, .el [.s (.int .i64 x70)]), (7, .call [false, false, false] [.v (.jk), .v (.jk), .v (.jk)] [.v (.s (.bool r71))]), (17, .el [.s (.int .i64 x72)]), (22, .el [.s (.int .i64 x70)])] (by cbv) (by cbv) (by cbv) (by cbv) (by cbv) ?_ ?_
   · exact (hq Tt (hq (qP h_x70) (hq (qe (f := Int_c) h_x70) (hq (qw (f := Int_c) h_x70) (hq Tt (hq (hC (qfB h_r71)) (hq (fun _ => hq0) (hq (fun g74 => (hq g74 (hq Tt hq0))) (hq (fun g75 => (hq g75 hq0)) (hq (fun _ => hq0) (hq (fun g77 => (hq g77 (hq Tt hq0))) (hq (fun _ => hq0) (hq (fun g79 => (hq g79 (hq Tt hq0))) (hq (fun g80 => (hq g80 (hq g80 (hq (qP (gd_t h_x72 g80)) (hq (qe (f := Int_c) (gd_t h_x72 g80)) (hq (qw (f := Int_c) (gd_t h_x72 g80)) hq0)))))) (hq (fun g81 => (hq g81 hq0)) (hq (fun _ => hq0) (hq (fun g83 => (hq g83 (hq Tt hq0))) (hq (fun _ => hq0) (hq (fun g85 => (hq g85 (hq g85 (hq (qP h_x70) (hq (qe (f := Int_c) h_x70) (hq (qw (f := Int_c) h_x70) hq0)))))) (hq (fun g86 => (hq g86 hq0)) (hq (fun g87 => (hq g87 (hq g87 (hq Tt hq0)))) (hq (fun g88 => (hq g88 (hq (fun q89 => (hq (bo_a g88 q89) hq0)) (hq (fun _ => hq0) hq0)))) (hq (fun _ => hq0) (hq (fun q92 => (hq (bo_m q92) hq0)) hq0))))))))))))))))))))))))
   refine Run.cond (by cbv) (hq0) (fun c93 => ?_) (fun c93 => ?_)
   ·
    have h := if_t c93 h
    refine Run.seq ?_
    refine Run.region hL hT [] (by cbv) hq0 ?_
    refine Run.ret ?_
    cases h
    refine ⟨_, _, by cbv, ?_, ?_⟩
    · exact LLe.r
    exact (ALe.v LLe.r ALe.nil)
   have h := if_f c93 h
   refine Run.skip ?_
   refine Run.region hL hT [] (by cbv) ?_ ?_
   · exact (hq Tt hq0)
   refine ⟨(ar .add .i64 z68 1), h, Weak.of _ [(1, 1), (2, 2)] hA (by cbv) ?_⟩
   repeat (first | exact hq0 | refine hq (by first | exact Tt | rfl) ?_)
  have h := if_f c69 h
  refine Run.exit ?_
  refine ⟨(), h, Weak.of _ [(1, 1), (2, 2)] hA (by cbv) ?_⟩
  repeat (first | exact hq0 | refine hq (by first | exact Tt | rfl) ?_)
 intro y54 h
 rw [h_K55] at h
 refine Run.seq ?_
 refine Run.seq ?_
 obtain ⟨r94, h_r94, h⟩ := bnd h
 obtain ⟨r95, h_r95, h⟩ := bnd h
 refine Run.region hL hT [(3, .call [false, false, false] [.v (.jk), .v (.jk), .v (.jk)] [.v (.s (.bool r94))]), (8, .call [false, false, false] [.v (.jk), .v (.jk), .v (.jk)] [.v (.s (.bool r95))])] (by cbv) ?_ ?_
 · exact (hq Tt (hq (hC (qfB h_r94)) (hq (fun _ => hq0) (hq (fun g97 => (hq g97 (hq Tt hq0))) (hq (fun g98 => (hq g98 (hq (hC (qfB (gd_t h_r95 g98))) hq0))) (hq (fun g99 => (hq g99 hq0)) (hq (fun _ => hq0) (hq (fun q101 => (hq (bo_m q101) hq0)) (hq (fun _ => hq0) (hq (fun g103 => (hq g103 (hq Tt hq0))) (hq (fun g104 => (hq g104 (hq Tt hq0))) (hq (fun g105 => (hq g105 hq0)) (hq (fun _ => hq0) (hq (fun g107 => (hq g107 (hq Tt hq0))) (hq (fun g108 => (hq g108 (hq (fun q109 => (hq (bo_a g108 q109) hq0)) (hq (fun _ => hq0) hq0)))) (hq (fun _ => hq0) (hq (fun q112 => (hq (bo_m q112) hq0)) hq0)))))))))))))))))
 refine Run.cond (by cbv) (hq0) (fun c113 => ?_) (fun c113 => ?_)
 ·
  have h := if_t c113 h
  refine Run.seq ?_
  refine Run.region hL hT [] (by cbv) hq0 ?_
  refine Run.ret ?_
  cases h
  refine ⟨_, _, by cbv, ?_, ?_⟩
  · exact LLe.r
  exact (ALe.v LLe.r ALe.nil)
 have h := if_f c113 h
 refine Run.skip ?_
 refine Run.seq ?_
 refine Run.seq ?_
 refine Run.region hL hT [] (by cbv) ?_ ?_
 · exact (hq Tt hq0)
 refine Run.cond (by cbv) (hq0) (fun c114 => ?_) (fun c114 => ?_)
 ·
  have h := if_t c114 h
  refine Run.seq ?_
  refine Run.region hL hT [] (by cbv) ?_ ?_
  · exact (hq Tt (hq Tt (hq (fun _ => hq0) (hq (fun g116 => (hq g116 (hq Tt hq0))) (hq (fun g117 => (hq g117 (hq Tt hq0))) (hq (fun q118 => (hq q118 hq0)) (hq (fun _ => hq0) hq0)))))))
  refine Run.ret ?_
  cases h
  refine ⟨_, _, by cbv, ?_, ?_⟩
  · exact LLe.r
  exact (ALe.v LLe.r ALe.nil)
 have h := if_f c114 h
 refine Run.skip ?_
 refine Run.seq ?_
 obtain ⟨r120, qEc, h⟩ := bnd h
 obtain ⟨x121, qbX, h⟩ := bnd h
 obtain ⟨r122, qFc, h⟩ := bnd h
 refine Run.draw hL hT hM [(6, .call [false, false, false] [.v (.jk), .v (.jk), .v (.jk)] [.v (.s (.bool r120))]), (14, .el [.s (.int .i64 x121)]), (17, .call [false, false, false] [.v (.jk), .v (.jk), .v (.jk)] [.v (.s (.bool r122))])] (by cbv) (by cbv) (by cbv) (by cbv) (by cbv) ?_ ?_
 · exact (hq Tt (hq Tt (hq Tt (hq (by rw [show ln (qB qL) = qZ qL from ln_eq Int_c _]; exact (hC (qfB qEc))) (hq (fun _ => hq0) (hq (fun g124 => (hq g124 (hq Tt hq0))) (hq (fun _ => hq0) (hq (fun g126 => (hq g126 (hq Tt hq0))) (hq (fun _ => hq0) (hq (fun g128 => (hq g128 (hq Tt hq0))) (hq (fun g129 => (hq g129 (hq g129 (hq (qP (gd_t qbX g129)) (hq (qe (f := Int_c) (gd_t qbX g129)) (hq (qw (f := Int_c) (gd_t qbX g129)) hq0)))))) (hq (fun g130 => (hq g130 hq0)) (hq (fun g131 => (hq g131 (hq Tt hq0))) (hq (fun g132 => (hq g132 (hq g132 (hq (hC (qfB (gd_t qFc g132))) hq0)))) (hq (fun q133 => (hq q133 hq0)) (hq (fun _ => hq0) hq0))))))))))))))))
 rw [show ln (qB qL) = qZ qL from ln_eq Int_c _]
 refine Run.ret ?_
 cases h
 refine ⟨_, _, by cbv, ?_, ?_⟩
 · exact LLe.r
 exact (ALe.v LLe.r ALe.nil)
theorem qzM {qzI : Int} {qkM : Int} {a0v_V : Int} {qGC : Int} {qm : List Int} {r : Bool} (h : qhF.f (Cond.mk qzI qkM a0v_V) (Row.mk qGC qm) = some r) : AC Tryz.prog 123 [.ag [.s (.int .i64 qzI), .s (.int .i64 qkM), .s (.int .i64 a0v_V)], .ag [.s (.int .i64 qGC), .im false (rowsOf Int_c qm)]] [.ag [.jk, .jk, .jk], .ag [.jk, .jk]] [.v (.s (.bool r))] := by
 unfold qhF.f at h
 let qB := rowsOf Int_c
 let qZ := @lenI Int
 show AC Tryz.prog 123 [.ag [.s (.int .i64 qzI), .s (.int .i64 qkM), .s (.int .i64 a0v_V)], .ag [.s (.int .i64 qGC), .im false (qB qm)]] _ _
 refine run3 Tryz.func123 (by rfl) (by rfl) (by cbv) ⟨by decide, rfl⟩ ?_
 intro ar cm bo sc sa sx ss sl bs sb ln sr ap up rp fr ge le lt nz mm ma sm fl al ci hL F hP hA hT hM hC
 refine Run.seq ?_
 refine Run.region hL hT [] (by cbv) hq0 ?_
 refine Run.seq ?_
 refine Run.seq ?_
 obtain ⟨r1, h_r1, h⟩ := bnd h
 refine Run.region hL hT [(6, .call [false, false, false] [.v (.jk), .v (.jk), .v (.jk)] [.v (.s (.bool r1))])] (by cbv) ?_ ?_
 · exact (hq Tt (hq Tt (hq Tt (hq (by rw [show ln (qB qm) = qZ qm from ln_eq Int_c _]; exact (hC (qfB h_r1))) hq0))))
 rw [show ln (qB qm) = qZ qm from ln_eq Int_c _]
 refine Run.cond (by cbv) (hq0) (fun c2 => ?_) (fun c2 => ?_)
 ·
  have h := if_t c2 h
  refine Run.seq ?_
  refine Run.region hL hT [] (by cbv) hq0 ?_
  refine Run.ret ?_
  cases h
  refine ⟨_, _, by cbv, ?_, ?_⟩
  · exact LLe.r
  exact (ALe.v LLe.r ALe.nil)
 have h := if_f c2 h
 refine Run.skip ?_
 refine Run.seq ?_
 obtain ⟨x3, h_x3, h⟩ := bnd h
 refine Run.region hL hT [(4, .el [.s (.int .i64 x3)])] (by cbv) ?_ ?_
 · exact (hq Tt (hq Tt (hq (qP h_x3) (hq (qe (f := Int_c) h_x3) (hq (qw (f := Int_c) h_x3) hq0)))))
 refine Run.seq ?_
 refine Run.seq ?_
 refine Run.region hL hT [] (by cbv) ?_ ?_
 · exact (hq Tt hq0)
 refine Run.block ?_
 refine Run.seq ?_
 refine Run.region hL hT [] (by cbv) ?_ ?_
 · exact (hq Tt hq0)
 refine Run.cond (by cbv) (hq0) (fun c4 => ?_) (fun c4 => ?_)
 ·
  have h := if_t c4 h
  refine Run.seq ?_
  refine Run.region hL hT [] (by cbv) ?_ ?_
  · exact (hq Tt (hq Tt hq0))
  refine Run.ret ?_
  cases h
  refine ⟨_, _, by cbv, ?_, ?_⟩
  · exact LLe.r
  exact (ALe.v LLe.r ALe.nil)
 have h := if_f c4 h
 refine Run.seq ?_
 refine Run.region hL hT [] (by cbv) ?_ ?_
 · exact (hq Tt hq0)
 refine Run.cond (by cbv) (hq0) (fun c5 => ?_) (fun c5 => ?_)
 ·
  have h := if_t c5 h
  refine Run.seq ?_
  refine Run.region hL hT [] (by cbv) ?_ ?_
  · exact (hq Tt (hq Tt hq0))
  refine Run.ret ?_
  cases h
  refine ⟨_, _, by cbv, ?_, ?_⟩
  · exact LLe.r
  exact (ALe.v LLe.r ALe.nil)
 have h := if_f c5 h
 refine Run.seq ?_
 refine Run.region hL hT [] (by cbv) ?_ ?_
 · exact (hq Tt hq0)
 refine Run.cond (by cbv) (hq0) (fun c6 => ?_) (fun c6 => ?_)
 ·
  have h := if_t c6 h
  refine Run.seq ?_
  refine Run.region hL hT [] (by cbv) ?_ ?_
  · exact (hq Tt (hq Tt hq0))
  refine Run.ret ?_
  cases h
  refine ⟨_, _, by cbv, ?_, ?_⟩
  · exact LLe.r
  exact (ALe.v LLe.r ALe.nil)
 have h := if_f c6 h
 refine Run.seq ?_
 refine Run.region hL hT [] (by cbv) ?_ ?_
 · exact (hq Tt hq0)
 refine Run.cond (by cbv) (hq0) (fun c7 => ?_) (fun c7 => ?_)
 ·
  have h := if_t c7 h
  refine Run.seq ?_
  refine Run.region hL hT [] (by cbv) ?_ ?_
  · exact (hq Tt (hq Tt hq0))
  refine Run.ret ?_
  cases h
  refine ⟨_, _, by cbv, ?_, ?_⟩
  · exact LLe.r
  exact (ALe.v LLe.r ALe.nil)
 have h := if_f c7 h
 refine Run.skip ?_
 refine Run.seq ?_
 refine Run.region hL hT [] (by cbv) hq0 ?_
 refine Run.ret ?_
 cases h
 refine ⟨_, _, by cbv, ?_, ?_⟩
 · exact LLe.r
 exact (ALe.v LLe.r ALe.nil)
theorem qAN {qg : Int} {qa : List Cond} {qh : Int} {qCB : Bool} {qi : Int} {qp : List Int} {qDB : Bool} {qM : Int} {qY : Int} {qGC : Int} {qm : List Int} {r : Bool} (h : qeC.f (Query.mk qg qa qh qCB qi qp qDB qM qY) (Row.mk qGC qm) = some r) : AC Tryz.prog 59 [.ag [.s (.int .i64 qg), .im false (rowsOf qy qa), .s (.int .i64 qh), .s (.bool qCB), .s (.int .i64 qi), .im false (rowsOf Int_c qp), .s (.bool qDB), .s (.int .i64 qM), .s (.int .i64 qY)], .ag [.s (.int .i64 qGC), .im false (rowsOf Int_c qm)]] [.ag [.jk, .jk, .jk, .jk, .jk, .jk, .jk, .jk, .jk], .ag [.jk, .jk]] [.v (.s (.bool r))] := by
 unfold qeC.f at h
 let qK := rowsOf qy
 let qB := rowsOf Int_c
 let qbC := @lenI Cond
 show AC Tryz.prog 59 [.ag [.s (.int .i64 qg), .im false (qK qa), .s (.int .i64 qh), .s (.bool qCB), .s (.int .i64 qi), .im false (qB qp), .s (.bool qDB), .s (.int .i64 qM), .s (.int .i64 qY)], .ag [.s (.int .i64 qGC), .im false (qB qm)]] _ _
 refine run3 Tryz.func59 (by rfl) (by rfl) (by cbv) ⟨by decide, rfl⟩ ?_
 intro ar cm bo sc sa sx ss sl bs sb ln sr ap up rp fr ge le lt nz mm ma sm fl al ci hL F hP hA hT hM hC
 refine Run.seq ?_
 refine Run.region hL hT [] (by cbv) hq0 ?_
 refine Run.seq ?_
 refine Run.seq ?_
 refine Run.region hL hT [] (by cbv) hq0 ?_
 refine Run.block ?_
 refine Run.loop1 (fun (z13 : Int) => ⟨21, 100000, [(2, .pt 1 0 0), (3, .pt 2 0 0), (5, .t (.s (.int .i64 z13)))], [(1, .box 32 [.t (.s (.int .i64 qg)), .t (.im false (qK qa)), .t (.s (.int .i64 qh)), .t (.s (.bool qCB)), .t (.s (.int .i64 qi)), .t (.im false (qB qp)), .t (.s (.bool qDB)), .t (.s (.int .i64 qM)), .t (.s (.int .i64 qY))]), (2, .box 56 [.t (.s (.int .i64 qGC)), .t (.im false (qB qm))])]⟩) (x0 := 0) h (Weak.of _ [(1, 0), (2, 1)] hA (by cbv) ?_) (fun _ => rfl) ?_
 · repeat (first | exact hq0 | refine hq (by first | exact Tt | rfl) ?_)
 intro k z13 h
 rw [qeC.l0] at h
 refine Run.seq ?_
 refine Run.seq ?_
 refine Run.region hL hT [] (by cbv) ?_ ?_
 · exact (hq Tt (hq Tt hq0))
 rw [show ln (qK qa) = qbC qa from ln_eq qy _]
 refine Run.cond (by cbv) (hq0) (fun c14 => ?_) (fun c14 => ?_)
 ·
  have h := if_t c14 h
  refine Run.skip ?_
  refine Run.seq ?_
  refine Run.block ?_
  refine Run.seq ?_
  obtain ⟨⟨qBZ, qma, qGc⟩, h_x15, h⟩ := bnd h
  obtain ⟨r16, h_r16, h⟩ := bnd h
  refine Run.draw hL hT hM [(3, .el [.s (.int .i64 qBZ), .s (.int .i64 qma), .s (.int .i64 qGc)]), (6, .call [false, false] [.ag [.jk, .jk, .jk], .ag [.jk, .jk]] [.v (.s (.bool r16))])] (by cbv) (by cbv) (by cbv) (by cbv) (by cbv) ?_ ?_
  · exact (hq Tt (hq (qP h_x15) (hq (qe (f := qy) h_x15) (hq (qw (f := qy) h_x15) (hq Tt (hq (hC (qzM h_r16)) hq0))))))
  refine Run.cond (by cbv) (hq0) (fun c17 => ?_) (fun c17 => ?_)
  ·
   have h := if_t c17 h
   refine Run.seq ?_
   refine Run.region hL hT [] (by cbv) hq0 ?_
   refine Run.ret ?_
   cases h
   refine ⟨_, _, by cbv, ?_, ?_⟩
   · exact LLe.r
   exact (ALe.v LLe.r ALe.nil)
  have h := if_f c17 h
  refine Run.skip ?_
  refine Run.region hL hT [] (by cbv) ?_ ?_
  · exact (hq Tt hq0)
  refine ⟨(ar .add .i64 z13 1), h, Weak.of _ [(1, 1), (2, 2)] hA (by cbv) ?_⟩
  repeat (first | exact hq0 | refine hq (by first | exact Tt | rfl) ?_)
 have h := if_f c14 h
 refine Run.exit ?_
 refine Run.seq ?_
 refine Run.region hL hT [] (by cbv) hq0 ?_
 refine Run.ret ?_
 cases h
 refine ⟨_, _, by cbv, ?_, ?_⟩
 · exact LLe.r
 exact (ALe.v LLe.r ALe.nil)
theorem qzG {qCF : Int} {qqB : List Int} {a1 : Int} {r : Int} (h : qiE.f (Row.mk qCF qqB) a1 = some r) : AC Tryz.prog 110 [.ag [.s (.int .i64 qCF), .im false (rowsOf Int_c qqB)], .v (.s (.int .i64 a1))] [.ag [.jk, .jk], .v (.jk)] [.v (.s (.int .i64 r))] := by
 unfold qiE.f at h
 let qB := rowsOf Int_c
 let qZ := @lenI Int
 show AC Tryz.prog 110 [.ag [.s (.int .i64 qCF), .im false (qB qqB)], .v (.s (.int .i64 a1))] _ _
 refine run3 Tryz.func110 (by rfl) (by rfl) (by cbv) ⟨by decide, rfl⟩ ?_
 intro ar cm bo sc sa sx ss sl bs sb ln sr ap up rp fr ge le lt nz mm ma sm fl al ci hL F hP hA hT hM hC
 refine Run.seq ?_
 refine Run.region hL hT [] (by cbv) hq0 ?_
 refine Run.seq ?_
 refine Run.seq ?_
 obtain ⟨r1, h_r1, h⟩ := bnd h
 refine Run.region hL hT [(5, .call [false, false, false] [.v (.jk), .v (.jk), .v (.jk)] [.v (.s (.bool r1))])] (by cbv) ?_ ?_
 · exact (hq Tt (hq Tt (hq (by rw [show ln (qB qqB) = qZ qqB from ln_eq Int_c _]; exact (hC (qfB h_r1))) hq0)))
 rw [show ln (qB qqB) = qZ qqB from ln_eq Int_c _]
 refine Run.cond (by cbv) (hq0) (fun c2 => ?_) (fun c2 => ?_)
 ·
  have h := if_t c2 h
  refine Run.seq ?_
  refine Run.region hL hT [] (by cbv) hq0 ?_
  refine Run.ret ?_
  cases h
  refine ⟨_, _, by cbv, ?_, ?_⟩
  · exact LLe.r
  exact (ALe.v LLe.r ALe.nil)
 have h := if_f c2 h
 refine Run.skip ?_
 refine Run.seq ?_
 obtain ⟨x3, h_x3, h⟩ := bnd h
 refine Run.region hL hT [(3, .el [.s (.int .i64 x3)])] (by cbv) ?_ ?_
 · exact (hq Tt (hq (qP h_x3) (hq (qe (f := Int_c) h_x3) (hq (qw (f := Int_c) h_x3) hq0))))
 refine Run.ret ?_
 cases h
 refine ⟨_, _, by cbv, ?_, ?_⟩
 · exact LLe.r
 exact (ALe.v LLe.r ALe.nil)
theorem qPQ {qg : Int} {qa : List Cond} {qh : Int} {qCB : Bool} {qi : Int} {qp : List Int} {qDB : Bool} {qM : Int} {qY : Int} {qGC : Int} {qm : List Int} {qDE : Int} {qOB : List Int} {r : Bool} (h : qFH.f (Query.mk qg qa qh qCB qi qp qDB qM qY) (Row.mk qGC qm) (Row.mk qDE qOB) = some r) : AC Tryz.prog 87 [.ag [.s (.int .i64 qg), .im false (rowsOf qy qa), .s (.int .i64 qh), .s (.bool qCB), .s (.int .i64 qi), .im false (rowsOf Int_c qp), .s (.bool qDB), .s (.int .i64 qM), .s (.int .i64 qY)], .ag [.s (.int .i64 qGC), .im false (rowsOf Int_c qm)], .ag [.s (.int .i64 qDE), .im false (rowsOf Int_c qOB)]] [.ag [.jk, .jk, .jk, .jk, .jk, .jk, .jk, .jk, .jk], .ag [.jk, .jk], .ag [.jk, .jk]] [.v (.s (.bool r))] := by
 unfold qFH.f at h
 let qK := rowsOf qy
 let qB := rowsOf Int_c
 show AC Tryz.prog 87 [.ag [.s (.int .i64 qg), .im false (qK qa), .s (.int .i64 qh), .s (.bool qCB), .s (.int .i64 qi), .im false (qB qp), .s (.bool qDB), .s (.int .i64 qM), .s (.int .i64 qY)], .ag [.s (.int .i64 qGC), .im false (qB qm)], .ag [.s (.int .i64 qDE), .im false (qB qOB)]] _ _
 refine run3 Tryz.func87 (by rfl) (by rfl) (by cbv) ⟨by decide, rfl⟩ ?_
 intro ar cm bo sc sa sx ss sl bs sb ln sr ap up rp fr ge le lt nz mm ma sm fl al ci hL F hP hA hT hM hC
 refine Run.seq ?_
 refine Run.region hL hT [] (by cbv) hq0 ?_
 refine Run.seq ?_
 refine Run.seq ?_
 refine Run.region hL hT [] (by cbv) ?_ ?_
 · exact (hq Tt (hq Tt hq0))
 refine Run.cond (by cbv) (hq0) (fun c1 => ?_) (fun c1 => ?_)
 ·
  have h := if_t c1 h
  refine Run.seq ?_
  obtain ⟨r2, h_r2, h⟩ := bnd h
  obtain ⟨r3, h_r3, h⟩ := bnd h
  refine Run.draw hL hT hM [(4, .call [false, false] [.ag [.jk, .jk], .v (.jk)] [.v (.s (.int .i64 r2))]), (9, .call [false, false] [.ag [.jk, .jk], .v (.jk)] [.v (.s (.int .i64 r3))])] (by cbv) (by cbv) (by cbv) (by cbv) (by cbv) ?_ ?_
  · exact (hq Tt (hq Tt (hq Tt (hq (hC (qzG h_r2)) (hq Tt (hq Tt (hq Tt (hq (hC (qzG h_r3)) hq0))))))))
  refine Run.seq ?_
  refine Run.region hL hT [] (by cbv) ?_ ?_
  · exact (hq Tt hq0)
  refine Run.cond (by cbv) (hq0) (fun c4 => ?_) (fun c4 => ?_)
  ·
   have h := if_t c4 h
   refine Run.seq ?_
   refine Run.region hL hT [] (by cbv) ?_ ?_
   · exact (hq Tt (hq Tt hq0))
   refine Run.ret ?_
   cases h
   refine ⟨_, _, by cbv, ?_, ?_⟩
   · exact LLe.r
   exact (ALe.v LLe.r ALe.nil)
  have h := if_f c4 h
  refine Run.skip ?_
  refine Run.seq ?_
  refine Run.region hL hT [] (by cbv) ?_ ?_
  · exact (hq Tt (hq Tt (hq Tt hq0)))
  refine Run.ret ?_
  cases h
  refine ⟨_, _, by cbv, ?_, ?_⟩
  · exact LLe.r
  exact (ALe.v LLe.r ALe.nil)
 have h := if_f c1 h
 refine Run.skip ?_
 refine Run.seq ?_
 refine Run.region hL hT [] (by cbv) ?_ ?_
 · exact (hq Tt (hq Tt (hq Tt hq0)))
 refine Run.ret ?_
 cases h
 refine ⟨_, _, by cbv, ?_, ?_⟩
 · exact LLe.r
 exact (ALe.v LLe.r ALe.nil)
theorem qmN {qg : Int} {qa : List Cond} {qh : Int} {qCB : Bool} {qi : Int} {qp : List Int} {qDB : Bool} {qM : Int} {qY : Int} {a1 : List Row} {qDE : Int} {qOB : List Int} {r : (List Row)} (h : qQC.f (Query.mk qg qa qh qCB qi qp qDB qM qY) a1 (Row.mk qDE qOB) = some r) : AC Tryz.prog 60 [.ag [.s (.int .i64 qg), .im false (rowsOf qy qa), .s (.int .i64 qh), .s (.bool qCB), .s (.int .i64 qi), .im false (rowsOf Int_c qp), .s (.bool qDB), .s (.int .i64 qM), .s (.int .i64 qY)], .v (.ow 56 (rowsOf Row_o a1)), .ag [.s (.int .i64 qDE), .im false (rowsOf Int_c qOB)]] [.ag [.jk, .jk, .jk, .jk, .jk, .jk, .jk, .jk, .jk], .v (.jk), .ag [.jk, .jk]] [.v (.ow 56 (rowsOf Row_o r))] := by
 unfold qQC.f at h
 let qK := rowsOf qy
 let qB := rowsOf Int_c
 let qJ := rowsOf Row_o
 let qS := @lenI Row
 let jp := jpR
 show AC Tryz.prog 60 [.ag [.s (.int .i64 qg), .im false (qK qa), .s (.int .i64 qh), .s (.bool qCB), .s (.int .i64 qi), .im false (qB qp), .s (.bool qDB), .s (.int .i64 qM), .s (.int .i64 qY)], .v (.ow 56 (qJ a1)), .ag [.s (.int .i64 qDE), .im false (qB qOB)]] _ _
 refine run3 Tryz.func60 (by rfl) (by rfl) (by cbv) ⟨by decide, rfl⟩ ?_
 intro ar cm bo sc sa sx ss sl bs sb ln sr ap up rp fr ge le lt nz mm ma sm fl al ci hL F hP hA hT hM hC
 refine Run.seq ?_
 refine Run.region hL hT [] (by cbv) hq0 ?_
 refine Run.seq ?_
 refine Run.region hL hT [] (by cbv) hq0 ?_
 refine Run.seq ?_
 refine Run.region hL hT [] (by cbv) hq0 ?_
 obtain ⟨K4, h_K4, h⟩ := joinE h
 refine Run.join3 K4 (r := r) (fun (y1 : List Row) (y2 : Bool) (y3 : Int) => ⟨48, 100000, [(5, .pt 1 0 0), (7, .rf 2), (8, .t (.s (.bool y2)))], [(0, .row 0 56 2 ((jp y3 (qJ a1)))), (1, .box 56 [.t (.s (.int .i64 qDE)), .t (.im false (qB qOB))]), (2, .row 0 56 2 (qJ y1))]⟩) ?_ ?_
 ·
  skip
  refine Run.seq ?_
  refine Run.region hL hT [] (by cbv) hq0 ?_
  refine Run.block ?_
  refine Run.loop3 (fun (z20 : List Row) (z21 : Bool) (z22 : Int) => ⟨48, 100000, [(1, .rf 0), (3, .pt 1 0 0), (5, .pt 2 0 0), (7, .rf 3), (8, .t (.s (.bool z21))), (9, .t (.s (.int .i64 z22)))], [(0, .row 0 56 2 ((jp z22 (qJ a1)))), (1, .box 32 [.t (.s (.int .i64 qg)), .t (.im false (qK qa)), .t (.s (.int .i64 qh)), .t (.s (.bool qCB)), .t (.s (.int .i64 qi)), .t (.im false (qB qp)), .t (.s (.bool qDB)), .t (.s (.int .i64 qM)), .t (.s (.int .i64 qY))]), (2, .box 56 [.t (.s (.int .i64 qDE)), .t (.im false (qB qOB))]), (3, .row 0 56 2 (qJ z20))]⟩) (x0 := []) (x1 := false) (x2 := 0) h ((Weak.row (rows := qJ a1) 0 (jp 0 (qJ a1)) (by cbv) (RLe.eq (jp_0 _).symm)).trans (Weak.of _ [(0, 0), (1, 1), (2, 2), (3, 4097)] hA (by cbv) ?_)) (fun _ _ _ => rfl) ?_
  · repeat (first | exact hq0 | refine hq (by first | exact Tt | rfl) ?_)
  intro k z20 z21 z22 h
  rw [qQC.l0] at h
  refine Run.seq ?_
  refine Run.seq ?_
  refine Run.region hL hT [] (by cbv) ?_ ?_
  · exact (hq Tt hq0)
  rw [show ln (jp z22 (qJ a1)) = qS a1 from jp_ln (f := Row_o) _ _]
  refine Run.cond (by cbv) (hq0) (fun c23 => ?_) (fun c23 => ?_)
  ·
   have h := if_t c23 h
   refine Run.skip ?_
   refine Run.seq ?_
   refine Run.block ?_
   refine Run.seq ?_
   refine Run.seq ?_
   obtain ⟨⟨qna, qsU⟩, h_x24, h⟩ := bnd h
   obtain ⟨r25, h_r25, h⟩ := bnd h
   refine Run.draw hL hT hM [(8, .el [.s (.int .i64 qna), .ow 3 (qB qsU)]), (9, .call [false, false, false] [.ag [.jk, .jk, .jk, .jk, .jk, .jk, .jk, .jk, .jk], .ag [.jk, .jk], .ag [.jk, .jk]] [.v (.s (.bool r25))])] (by cbv) (by cbv) (by cbv) (by cbv) (by cbv) ?_ ?_
   · exact (hq (fun g26 => (hq Tt hq0)) (hq (fun g27 => (hq Tt hq0)) (hq (fun _ => hq0) (hq (fun _ => hq0) (hq (fun g30 => (hq g30 (hq g30 (hq (qP (gd_t h_x24 g30)) (hq (jp_lt (f := Row_o) (gd_t h_x24 g30)) hq0))))) (hq (fun g31 => (hq g31 (hq (qP (gd_t h_x24 g31)) (hq (jp_lt (f := Row_o) (gd_t h_x24 g31)) (hq (jp_ge (f := Row_o) (gd_t h_x24 g31)) hq0))))) (hq (fun g32 => (hq g32 (hq g32 (hq g32 (hq (hC (AC.args (qPQ (gd_t h_r25 g32)) (ALe.ag rfl LLe.r (ALe.ag rfl LLe.r (ALe.ag rfl (LLe.c (LLe.cons (LLe.im (RLe.eq (qAC qwC _))) LLe.nil)) ALe.nil))))) hq0))))) (hq (fun q33 => (hq q33 hq0)) (hq (fun _ => hq0) hq0)))))))))
   refine Run.cond (by cbv) (hq0) (fun c35 => ?_) (fun c35 => ?_)
   ·
    have h := if_t c35 h
    refine Run.seq ?_
    obtain ⟨⟨qcX, qlO⟩, h_r36, h⟩ := bnd h
    obtain ⟨l37, h_l37, h⟩ := bnd h
    obtain ⟨l38, h_l38, h⟩ := bnd h
    refine Run.region hL hT [(2, .call [false] [.ag [.jk, .jk]] [.ag [.s (.int .i64 qcX), .ow 3 (qB qlO)]])] (by cbv) ?_ ?_
    · exact (hq Tt (hq (hC (qVF h_r36)) (hq (qnC (P := Tryz.prog) (f := Row_o) RLe.r (qGB (f := Row_o) h_l37 (RLe.cons rfl LLe.r RLe.nil)) h_l38) hq0)))
    refine Run.row (rows := (ap (qJ z20) ([[.s (.int .i64 qcX), .ow 3 (qB qlO)]]))) 108196 (qJ l38) (by cbv) (qmC (f := Row_o) RLe.r (qGB (f := Row_o) h_l37 (RLe.cons rfl LLe.r RLe.nil)) h_l38) ?_
    refine Run.region hL hT [] (by cbv) hq0 ?_
    obtain ⟨⟨qdX, qmO⟩, h_x39, h⟩ := bnd h
    obtain ⟨u40, h_u40, h⟩ := bnd h
    obtain ⟨l41, h_l41, h⟩ := bnd h
    obtain ⟨l42, h_l42, h⟩ := bnd h
    refine Run.weak ?_ (Weak.take (rows := (jp z22 (qJ a1))) (e2 := 3) (r2 := qB qmO) hT 0 z22 1 119384 1119384 (by cbv) (by cbv) (by cbv) (qTD h_x39) (qMT Row_o h_x39) ((congrArg (fun q => q[1]?) (jp_ge (f := Row_o) h_x39)).trans rfl) rfl (up (jp z22 (qJ a1)) z22 1 [.jk]) rfl)
    refine Run.region hL hT [(4, .lk [.s (.int .i64 qdX), .jk] [(1, 1119384)])] (by cbv) ?_ ?_
    · exact (hq (qP h_x39) (hq (qNT Row_o h_x39) (hq Tt (hq (qP h_x39) (hq (qNT Row_o h_x39) (hq (qJZ Row_o h_x39) (hq (qnC (P := Tryz.prog) (f := Row_o) RLe.r (qGB (f := Row_o) h_l41 (RLe.cons rfl LLe.r RLe.nil)) h_l42) hq0)))))))
    refine Run.weak ?_ (Weak.row (rows := (up (jp z22 (qJ a1)) z22 1 [.jk])) 0 (jp (ar .add .i64 z22 1) (qJ a1)) (by cbv) (qFW (f := Row_o) h_x39 h_u40 (ltn (qVK _) (by decide))))
    refine Run.row (rows := (ap (qJ l38) ([[.s (.int .i64 qdX), .ow 3 (qB qmO)]]))) 116390 (qJ l42) (by cbv) (qmC (f := Row_o) RLe.r (qGB (f := Row_o) h_l41 (RLe.cons rfl LLe.r RLe.nil)) h_l42) ?_
    refine Run.region hL hT [] (by cbv) ?_ ?_
    · exact (hq Tt hq0)
    refine ⟨l42, true, (ar .add .i64 z22 1), h, Weak.of _ [(0, 0), (1, 1), (2, 2), (3, 116390)] hA (by cbv) ?_⟩
    repeat (first | exact hq0 | refine hq (by first | exact Tt | rfl) ?_)
   have h := if_f c35 h
   refine Run.skip ?_
   obtain ⟨⟨qeX, qnO⟩, h_x43, h⟩ := bnd h
   obtain ⟨u44, h_u44, h⟩ := bnd h
   obtain ⟨l45, h_l45, h⟩ := bnd h
   obtain ⟨l46, h_l46, h⟩ := bnd h
   refine Run.weak ?_ (Weak.take (rows := (jp z22 (qJ a1))) (e2 := 3) (r2 := qB qnO) hT 0 z22 1 111192 1111192 (by cbv) (by cbv) (by cbv) (qTD h_x43) (qMT Row_o h_x43) ((congrArg (fun q => q[1]?) (jp_ge (f := Row_o) h_x43)).trans rfl) rfl (up (jp z22 (qJ a1)) z22 1 [.jk]) rfl)
   refine Run.region hL hT [(4, .lk [.s (.int .i64 qeX), .jk] [(1, 1111192)])] (by cbv) ?_ ?_
   · exact (hq (qP h_x43) (hq (qNT Row_o h_x43) (hq Tt (hq (qP h_x43) (hq (qNT Row_o h_x43) (hq (qJZ Row_o h_x43) (hq (qnC (P := Tryz.prog) (f := Row_o) RLe.r (qGB (f := Row_o) h_l45 (RLe.cons rfl LLe.r RLe.nil)) h_l46) hq0)))))))
   refine Run.weak ?_ (Weak.row (rows := (up (jp z22 (qJ a1)) z22 1 [.jk])) 0 (jp (ar .add .i64 z22 1) (qJ a1)) (by cbv) (qFW (f := Row_o) h_x43 h_u44 (ltn (qVK _) (by decide))))
   refine Run.row (rows := (ap (qJ z20) ([[.s (.int .i64 qeX), .ow 3 (qB qnO)]]))) 108198 (qJ l46) (by cbv) (qmC (f := Row_o) RLe.r (qGB (f := Row_o) h_l45 (RLe.cons rfl LLe.r RLe.nil)) h_l46) ?_
   refine Run.region hL hT [] (by cbv) ?_ ?_
   · exact (hq Tt hq0)
   refine ⟨l46, z21, (ar .add .i64 z22 1), h, Weak.of _ [(0, 0), (1, 1), (2, 2), (3, 108198)] hA (by cbv) ?_⟩
   repeat (first | exact hq0 | refine hq (by first | exact Tt | rfl) ?_)
  have h := if_f c23 h
  refine Run.exit ?_
  refine ⟨z20, z21, z22, h, Weak.of _ [(0, 0), (1, 2), (2, 3)] hA (by cbv) ?_⟩
  repeat (first | exact hq0 | refine hq (by first | exact Tt | rfl) ?_)
 intro y1 y2 y3 h
 rw [h_K4] at h
 refine Run.seq ?_
 refine Run.seq ?_
 refine Run.region hL hT [] (by cbv) hq0 ?_
 refine Run.cond (by cbv) (hq0) (fun c47 => ?_) (fun c47 => ?_)
 ·
  have h := if_t c47 h
  obtain ⟨⟨qfX, qoO⟩, h_r48, h⟩ := bnd h
  obtain ⟨l49, h_l49, h⟩ := bnd h
  obtain ⟨l50, h_l50, h⟩ := bnd h
  refine Run.region hL hT [(2, .call [false] [.ag [.jk, .jk]] [.ag [.s (.int .i64 qfX), .ow 3 (qB qoO)]])] (by cbv) ?_ ?_
  · exact (hq Tt (hq (hC (qVF h_r48)) (hq (qnC (P := Tryz.prog) (f := Row_o) RLe.r (qGB (f := Row_o) h_l49 (RLe.cons rfl LLe.r RLe.nil)) h_l50) hq0)))
  refine Run.row (rows := (ap (qJ y1) ([[.s (.int .i64 qfX), .ow 3 (qB qoO)]]))) 104100 (qJ l50) (by cbv) (qmC (f := Row_o) RLe.r (qGB (f := Row_o) h_l49 (RLe.cons rfl LLe.r RLe.nil)) h_l50) ?_
  refine Run.seq ?_
  refine Run.region hL hT [] (by cbv) hq0 ?_
  refine Run.ret ?_
  cases h
  refine ⟨_, _, by cbv, ?_, ?_⟩
  · exact (LLe.c (LLe.c (LLe.c (LLe.c (LLe.c (LLe.c (LLe.c (LLe.c (LLe.c (LLe.cons LLe.jk (LLe.c (LLe.c LLe.nil))))))))))))
  exact (ALe.v LLe.r ALe.nil)
 have h := if_f c47 h
 refine Run.skip ?_
 refine Run.seq ?_
 refine Run.region hL hT [] (by cbv) hq0 ?_
 refine Run.ret ?_
 cases h
 refine ⟨_, _, by cbv, ?_, ?_⟩
 · exact (LLe.c (LLe.c (LLe.c (LLe.c (LLe.c (LLe.c (LLe.c (LLe.c (LLe.c (LLe.cons LLe.jk (LLe.c (LLe.c LLe.nil))))))))))))
 exact (ALe.v LLe.r ALe.nil)
theorem qRI {qN : List Int} {qEB : Int} {qq : List (List Row)} {qr : Int} {qT : List Cond} {qt : Int} {qHB : Bool} {qu : Int} {qBB : List Int} {qIB : Bool} {qQ : Int} {qb : Int} {r : (List Row)} (h : qZC.f (Store.mk (Schema.mk qN) qEB qq) (Query.mk qr qT qt qHB qu qBB qIB qQ qb) = some r) : AC Tryz.prog 17 [.ag [.im false (rowsOf Int_c qN), .s (.int .i64 qEB), .im false (rowsOf qLC qq)], .ag [.s (.int .i64 qr), .im false (rowsOf qy qT), .s (.int .i64 qt), .s (.bool qHB), .s (.int .i64 qu), .im false (rowsOf Int_c qBB), .s (.bool qIB), .s (.int .i64 qQ), .s (.int .i64 qb)]] [.ag [.jk, .jk, .jk], .ag [.jk, .jk, .jk, .jk, .jk, .jk, .jk, .jk, .jk]] [.v (.ow 56 (rowsOf Row_o r))] := by
 unfold qZC.f at h
 let qK := rowsOf qy
 let qB := rowsOf Int_c
 let qBC := rowsOf qLC
 let qZB := rowsOf Row_i
 let qJ := rowsOf Row_o
 let qS := @lenI Row
 show AC Tryz.prog 17 [.ag [.im false (qB qN), .s (.int .i64 qEB), .im false (qBC qq)], .ag [.s (.int .i64 qr), .im false (qK qT), .s (.int .i64 qt), .s (.bool qHB), .s (.int .i64 qu), .im false (qB qBB), .s (.bool qIB), .s (.int .i64 qQ), .s (.int .i64 qb)]] _ _
 refine run3 Tryz.func17 (by rfl) (by rfl) (by cbv) ⟨by decide, rfl⟩ ?_
 intro ar cm bo sc sa sx ss sl bs sb ln sr ap up rp fr ge le lt nz mm ma sm fl al ci hL F hP hA hT hM hC
 refine Run.seq ?_
 refine Run.region hL hT [] (by cbv) hq0 ?_
 refine Run.seq ?_
 refine Run.region hL hT [] (by cbv) hq0 ?_
 refine Run.seq ?_
 refine Run.seq ?_
 obtain ⟨r1, h_r1, h⟩ := bnd h
 obtain ⟨r2, h_r2, h⟩ := bnd h
 refine Run.region hL hT [(1, .call [false] [.ag [.jk, .jk, .jk]] [.v (.s (.bool r1))]), (7, .call [false, false] [.ag [.jk], .ag [.jk, .jk, .jk, .jk, .jk, .jk, .jk, .jk, .jk]] [.v (.s (.bool r2))])] (by cbv) ?_ ?_
 · exact (hq Tt (hq (hC (qGF h_r1)) (hq (fun _ => hq0) (hq (fun g4 => (hq g4 (hq Tt hq0))) (hq (fun g5 => (hq Tt hq0)) (hq (fun g6 => (hq g6 (hq g6 (hq (hC (qHF (gd_t h_r2 g6))) hq0)))) (hq (fun g7 => (hq g7 hq0)) (hq (fun _ => hq0) (hq (fun q9 => (hq (bo_m q9) hq0)) hq0)))))))))
 refine Run.cond (by cbv) (hq0) (fun c10 => ?_) (fun c10 => ?_)
 ·
  have h := if_t c10 h
  refine Run.seq ?_
  refine Run.region hL hT [] (by cbv) hq0 ?_
  refine Run.ret ?_
  cases h
  refine ⟨_, _, by cbv, ?_, ?_⟩
  · exact LLe.r
  exact (ALe.v LLe.r ALe.nil)
 have h := if_f c10 h
 refine Run.skip ?_
 refine Run.seq ?_
 obtain ⟨x11, h_x11, h⟩ := bnd h
 refine Run.region hL hT [(4, .el [.im false (qZB x11)])] (by cbv) ?_ ?_
 · exact (hq Tt (hq Tt (hq (qP h_x11) (hq (qe (f := qLC) h_x11) (hq (qw (f := qLC) h_x11) hq0)))))
 refine Run.seq ?_
 refine Run.seq ?_
 refine Run.region hL hT [] (by cbv) hq0 ?_
 refine Run.block ?_
 refine Run.loop2 (fun (z24 : List Row) (z25 : Int) => ⟨46, 100000, [(3, .pt 1 0 0), (5, .rf 2), (6, .t (.im false (qZB x11))), (7, .t (.s (.int .i64 z25)))], [(1, .box 32 [.t (.s (.int .i64 qr)), .t (.im false (qK qT)), .t (.s (.int .i64 qt)), .t (.s (.bool qHB)), .t (.s (.int .i64 qu)), .t (.im false (qB qBB)), .t (.s (.bool qIB)), .t (.s (.int .i64 qQ)), .t (.s (.int .i64 qb))]), (2, .row 0 56 2 (qJ z24))]⟩) (x0 := []) (x1 := 0) h (Weak.of _ [(1, 1), (2, 4096)] hA (by cbv) ?_) (fun _ _ => rfl) ?_
 · repeat (first | exact hq0 | refine hq (by first | exact Tt | rfl) ?_)
 intro k z24 z25 h
 rw [qZC.l0] at h
 refine Run.seq ?_
 refine Run.seq ?_
 refine Run.region hL hT [] (by cbv) ?_ ?_
 · exact (hq Tt hq0)
 rw [show ln (qZB x11) = qS x11 from ln_eq Row_i _]
 refine Run.cond (by cbv) (hq0) (fun c26 => ?_) (fun c26 => ?_)
 ·
  have h := if_t c26 h
  refine Run.skip ?_
  refine Run.seq ?_
  refine Run.block ?_
  refine Run.seq ?_
  obtain ⟨⟨qgX, qpO⟩, h_x27, h⟩ := bnd h
  obtain ⟨r28, h_r28, h⟩ := bnd h
  refine Run.draw hL hT hM [(3, .el [.s (.int .i64 qgX), .im false (qB qpO)]), (5, .call [false, false] [.ag [.jk, .jk, .jk, .jk, .jk, .jk, .jk, .jk, .jk], .ag [.jk, .jk]] [.v (.s (.bool r28))])] (by cbv) (by cbv) (by cbv) (by cbv) (by cbv) ?_ ?_
  · exact (hq Tt (hq (qP h_x27) (hq (qe (f := Row_i) h_x27) (hq (qw (f := Row_i) h_x27) (hq (hC (qAN h_r28)) hq0)))))
  refine Run.cond (by cbv) (hq0) (fun c29 => ?_) (fun c29 => ?_)
  ·
   have h := if_t c29 h
   obtain ⟨r30, h_r30, h⟩ := bnd h
   refine Run.draw hL hT hM [(4, .el [.s (.int .i64 qgX), .im false (qB qpO)]), (6, .call [false, true, false] [.ag [.jk, .jk, .jk, .jk, .jk, .jk, .jk, .jk, .jk], .v (.jk), .ag [.jk, .jk]] [.v (.ow 56 (qJ r30))])] (by cbv) (by cbv) (by cbv) (by cbv) (by cbv) ?_ ?_
   · exact (hq Tt (hq (qP h_x27) (hq (qe (f := Row_i) h_x27) (hq (qw (f := Row_i) h_x27) (hq (hC (qmN h_r30)) hq0)))))
   refine Run.region hL hT [] (by cbv) ?_ ?_
   · exact (hq Tt hq0)
   refine ⟨r30, (ar .add .i64 z25 1), h, Weak.of _ [(1, 1), (2, 108198)] hA (by cbv) ?_⟩
   repeat (first | exact hq0 | refine hq (by first | exact Tt | rfl) ?_)
  have h := if_f c29 h
  refine Run.skip ?_
  refine Run.region hL hT [] (by cbv) ?_ ?_
  · exact (hq Tt hq0)
  refine ⟨z24, (ar .add .i64 z25 1), h, Weak.of _ [(1, 1), (2, 2)] hA (by cbv) ?_⟩
  repeat (first | exact hq0 | refine hq (by first | exact Tt | rfl) ?_)
 have h := if_f c26 h
 refine Run.exit ?_
 refine Run.seq ?_
 refine Run.region hL hT [] (by cbv) hq0 ?_
 refine Run.ret ?_
 cases h
 refine ⟨_, _, by cbv, ?_, ?_⟩
 · exact LLe.r
 exact (ALe.v LLe.r ALe.nil)
theorem qhK {a0 : List ByteArray} {a1 : List ByteArray} {r : Bool} (h : qKC.f a0 a1 = some r) : AC Tryz.prog 61 [.v (.im false (rowsOf Str_c a0)), .v (.im false (rowsOf Str_c a1))] [.v (.jk), .v (.jk)] [.v (.s (.bool r))] := by
 unfold qKC.f at h
 let qR := rowsOf Str_c
 let qvB := @lenI ByteArray
 show AC Tryz.prog 61 [.v (.im false (qR a0)), .v (.im false (qR a1))] _ _
 refine run3 Tryz.func61 (by rfl) (by rfl) (by cbv) ⟨by decide, rfl⟩ ?_
 intro ar cm bo sc sa sx ss sl bs sb ln sr ap up rp fr ge le lt nz mm ma sm fl al ci hL F hP hA hT hM hC
 refine Run.seq ?_
 refine Run.region hL hT [] (by cbv) hq0 ?_
 refine Run.seq ?_
 refine Run.seq ?_
 refine Run.region hL hT [] (by cbv) ?_ ?_
 · exact (hq Tt hq0)
 rw [show ln (qR a0) = qvB a0 from ln_eq Str_c _]
 rw [show ln (qR a1) = qvB a1 from ln_eq Str_c _]
 refine Run.cond (by cbv) (hq0) (fun c1 => ?_) (fun c1 => ?_)
 ·
  have h := if_t c1 h
  refine Run.seq ?_
  refine Run.region hL hT [] (by cbv) hq0 ?_
  refine Run.ret ?_
  cases h
  refine ⟨_, _, by cbv, ?_, ?_⟩
  · exact LLe.r
  exact (ALe.v LLe.r ALe.nil)
 have h := if_f c1 h
 refine Run.skip ?_
 refine Run.seq ?_
 refine Run.seq ?_
 refine Run.region hL hT [] (by cbv) hq0 ?_
 refine Run.block ?_
 refine Run.loop1 (fun (z5 : Int) => ⟨26, 100000, [(0, .t (.im false (qR a0))), (1, .t (.im false (qR a1))), (5, .t (.s (.int .i64 z5)))], []⟩) (x0 := 0) h (Weak.of _ [] hA (by cbv) ?_) (fun _ => rfl) ?_
 · repeat (first | exact hq0 | refine hq (by first | exact Tt | rfl) ?_)
 intro k z5 h
 rw [qKC.l0] at h
 refine Run.seq ?_
 refine Run.seq ?_
 refine Run.region hL hT [] (by cbv) ?_ ?_
 · exact (hq Tt hq0)
 rw [show ln (qR a0) = qvB a0 from ln_eq Str_c _]
 refine Run.cond (by cbv) (hq0) (fun c6 => ?_) (fun c6 => ?_)
 ·
  have h := if_t c6 h
  refine Run.skip ?_
  refine Run.seq ?_
  refine Run.block ?_
  refine Run.seq ?_
  obtain ⟨x7, h_x7, h⟩ := bnd h
  obtain ⟨x8, h_x8, h⟩ := bnd h
  refine Run.draw hL hT hM [(2, .el [.s (.string x7)]), (6, .el [.s (.string x8)])] (by cbv) (by cbv) (by cbv) (by cbv) (by cbv) ?_ ?_
  · exact (hq (qP h_x7) (hq (qe (f := Str_c) h_x7) (hq (qw (f := Str_c) h_x7) (hq (qP h_x8) (hq (qe (f := Str_c) h_x8) (hq (qw (f := Str_c) h_x8) hq0))))))
  refine Run.cond (by cbv) (hq0) (fun c9 => ?_) (fun c9 => ?_)
  ·
   have h := if_t c9 h
   refine Run.seq ?_
   refine Run.region hL hT [] (by cbv) hq0 ?_
   refine Run.ret ?_
   cases h
   refine ⟨_, _, by cbv, ?_, ?_⟩
   · exact LLe.r
   exact (ALe.v LLe.r ALe.nil)
  have h := if_f c9 h
  refine Run.skip ?_
  refine Run.region hL hT [] (by cbv) ?_ ?_
  · exact (hq Tt hq0)
  refine ⟨(ar .add .i64 z5 1), h, Weak.of _ [] hA (by cbv) ?_⟩
  repeat (first | exact hq0 | refine hq (by first | exact Tt | rfl) ?_)
 have h := if_f c6 h
 refine Run.exit ?_
 refine Run.seq ?_
 refine Run.region hL hT [] (by cbv) hq0 ?_
 refine Run.ret ?_
 cases h
 refine ⟨_, _, by cbv, ?_, ?_⟩
 · exact LLe.r
 exact (ALe.v LLe.r ALe.nil)
theorem qiK (self : Json → Json → Option Bool) (hself : ∀ {qO : Int} {a0v_N : Int} {a0v_S : ByteArray} {qD : List Json} {qF : List ByteArray} {qVE : Int} {a1v_N : Int} {a1v_S : ByteArray} {qzB : List Json} {qcD : List ByteArray} {r : Bool} (h : self (Json.mk qO a0v_N a0v_S qD qF) (Json.mk qVE a1v_N a1v_S qzB qcD) = some r), AC Tryz.prog 18 [.ag [.s (.int .i64 qO), .s (.int .i64 a0v_N), .s (.string a0v_S), .im false (rowsOf ql qD), .im false (rowsOf Str_c qF)], .ag [.s (.int .i64 qVE), .s (.int .i64 a1v_N), .s (.string a1v_S), .im false (rowsOf ql qzB), .im false (rowsOf Str_c qcD)]] [.ag [.jk, .jk, .jk, .jk, .jk], .ag [.jk, .jk, .jk, .jk, .jk]] [.v (.s (.bool r))]) {qO : Int} {a0v_N : Int} {a0v_S : ByteArray} {qD : List Json} {qF : List ByteArray} {qVE : Int} {a1v_N : Int} {a1v_S : ByteArray} {qzB : List Json} {qcD : List ByteArray} {r : Bool} (h : qQB.b self (Json.mk qO a0v_N a0v_S qD qF) (Json.mk qVE a1v_N a1v_S qzB qcD) = some r) : AC Tryz.prog 18 [.ag [.s (.int .i64 qO), .s (.int .i64 a0v_N), .s (.string a0v_S), .im false (rowsOf ql qD), .im false (rowsOf Str_c qF)], .ag [.s (.int .i64 qVE), .s (.int .i64 a1v_N), .s (.string a1v_S), .im false (rowsOf ql qzB), .im false (rowsOf Str_c qcD)]] [.ag [.jk, .jk, .jk, .jk, .jk], .ag [.jk, .jk, .jk, .jk, .jk]] [.v (.s (.bool r))] := by
 unfold qQB.b at h
 let qj := rowsOf ql
 let qR := rowsOf Str_c
 let qV := @lenI Json
 show AC Tryz.prog 18 [.ag [.s (.int .i64 qO), .s (.int .i64 a0v_N), .s (.string a0v_S), .im false (qj qD), .im false (qR qF)], .ag [.s (.int .i64 qVE), .s (.int .i64 a1v_N), .s (.string a1v_S), .im false (qj qzB), .im false (qR qcD)]] _ _
 refine run3 Tryz.func18 (by rfl) (by rfl) (by cbv) ⟨by decide, rfl⟩ ?_
 intro ar cm bo sc sa sx ss sl bs sb ln sr ap up rp fr ge le lt nz mm ma sm fl al ci hL F hP hA hT hM hC
 refine Run.seq ?_
 refine Run.region hL hT [] (by cbv) hq0 ?_
 refine Run.seq ?_
 refine Run.seq ?_
 obtain ⟨r1, h_r1, h⟩ := bnd h
 refine Run.region hL hT [(33, .call [false, false] [.v (.jk), .v (.jk)] [.v (.s (.bool r1))])] (by cbv) ?_ ?_
 · exact (hq Tt (hq Tt (hq Tt (hq (fun _ => hq0) (hq (fun g3 => (hq g3 (hq Tt hq0))) (hq (fun _ => hq0) (hq (fun g5 => (hq g5 (hq Tt hq0))) (hq (fun g6 => (hq g6 (hq g6 (hq Tt hq0)))) (hq (fun _ => hq0) (hq (fun q8 => (hq (bo_m q8) hq0)) (hq (fun _ => hq0) (hq (fun g10 => (hq g10 (hq Tt hq0))) (hq (fun _ => hq0) (hq (fun g12 => (hq g12 (hq Tt hq0))) (hq (fun g13 => (hq g13 (hq g13 hq0))) (hq (fun _ => hq0) (hq (fun q15 => (hq (bo_m q15) hq0)) (hq (fun _ => hq0) (hq (fun g17 => (hq g17 (hq Tt hq0))) (hq (fun g18 => (hq g18 hq0)) (hq (fun _ => hq0) (hq (fun g20 => (hq g20 (hq Tt hq0))) (hq (fun g21 => (hq g21 hq0)) (hq (fun g22 => (hq g22 (hq g22 (hq Tt hq0)))) (hq (fun _ => hq0) (hq (fun q24 => (hq (bo_m q24) hq0)) (hq (fun _ => hq0) (hq (fun g26 => (by have g26C := g26; rw [show ln (qj qD) = qV qD from ln_eq ql _, show ln (qj qzB) = qV qzB from ln_eq ql _] at g26C; exact (hq g26 (hq Tt hq0)))) (hq (fun _ => hq0) (hq (fun g28 => (by have g28C := g28; rw [show ln (qj qD) = qV qD from ln_eq ql _, show ln (qj qzB) = qV qzB from ln_eq ql _] at g28C; exact (hq g28 (hq Tt hq0)))) (hq (fun g29 => (by have g29C := g29; rw [show ln (qj qD) = qV qD from ln_eq ql _, show ln (qj qzB) = qV qzB from ln_eq ql _] at g29C; exact (hq g29 (hq g29 (hq (hC (qhK (gd_t h_r1 g29C))) hq0))))) (hq (fun g30 => (by have g30C := g30; rw [show ln (qj qD) = qV qD from ln_eq ql _, show ln (qj qzB) = qV qzB from ln_eq ql _] at g30C; exact (hq g30 hq0))) (hq (fun _ => hq0) (hq (fun q32 => (by have q32C := q32; rw [show ln (qj qD) = qV qD from ln_eq ql _, show ln (qj qzB) = qV qzB from ln_eq ql _] at q32C; exact (hq (bo_m q32) hq0))) hq0))))))))))))))))))))))))))))))))))
 rw [show ln (qj qD) = qV qD from ln_eq ql _]
 rw [show ln (qj qzB) = qV qzB from ln_eq ql _]
 refine Run.cond (by cbv) (hq0) (fun c33 => ?_) (fun c33 => ?_)
 ·
  have h := if_t c33 h
  refine Run.seq ?_
  refine Run.region hL hT [] (by cbv) hq0 ?_
  refine Run.ret ?_
  cases h
  refine ⟨_, _, by cbv, ?_, ?_⟩
  · exact LLe.r
  exact (ALe.v LLe.r ALe.nil)
 have h := if_f c33 h
 refine Run.skip ?_
 refine Run.seq ?_
 refine Run.seq ?_
 refine Run.region hL hT [] (by cbv) hq0 ?_
 refine Run.block ?_
 refine Run.loop1 (fun (z45 : Int) => ⟨61, 100000, [(2, .pt 1 0 0), (3, .pt 2 0 0), (5, .t (.s (.int .i64 z45)))], [(1, .box 46 [.t (.s (.int .i64 qO)), .t (.s (.int .i64 a0v_N)), .t (.s (.string a0v_S)), .t (.im false (qj qD)), .t (.im false (qR qF))]), (2, .box 46 [.t (.s (.int .i64 qVE)), .t (.s (.int .i64 a1v_N)), .t (.s (.string a1v_S)), .t (.im false (qj qzB)), .t (.im false (qR qcD))])]⟩) (x0 := 0) h (Weak.of _ [(1, 0), (2, 1)] hA (by cbv) ?_) (fun _ => rfl) ?_
 · repeat (first | exact hq0 | refine hq (by first | exact Tt | rfl) ?_)
 intro k z45 h
 rw [qQB.l0] at h
 refine Run.seq ?_
 refine Run.seq ?_
 refine Run.region hL hT [] (by cbv) ?_ ?_
 · exact (hq Tt (hq Tt hq0))
 rw [show ln (qj qD) = qV qD from ln_eq ql _]
 refine Run.cond (by cbv) (hq0) (fun c46 => ?_) (fun c46 => ?_)
 ·
  have h := if_t c46 h
  refine Run.skip ?_
  refine Run.seq ?_
  refine Run.block ?_
  refine Run.seq ?_
  obtain ⟨⟨qhX, qHc, qIc, qtU, quU⟩, h_x47, h⟩ := bnd h
  obtain ⟨⟨qiX, qJc, qKc, qvU, qwU⟩, h_x48, h⟩ := bnd h
  obtain ⟨r49, h_r49, h⟩ := bnd h
  refine Run.draw hL hT hM [(3, .el [.s (.int .i64 qhX), .s (.int .i64 qHc), .s (.string qIc), .im false (qj qtU), .im false (qR quU)]), (8, .el [.s (.int .i64 qiX), .s (.int .i64 qJc), .s (.string qKc), .im false (qj qvU), .im false (qR qwU)]), (10, .call [false, false] [.ag [.jk, .jk, .jk, .jk, .jk], .ag [.jk, .jk, .jk, .jk, .jk]] [.v (.s (.bool r49))])] (by cbv) (by cbv) (by cbv) (by cbv) (by cbv) ?_ ?_
  · exact (hq Tt (hq (qP h_x47) (hq (qe (f := ql) h_x47) (hq (qzH qcE h_x47) (hq Tt (hq (qP h_x48) (hq (qe (f := ql) h_x48) (hq (qzH qcE h_x48) (hq (hC (hself h_r49)) hq0)))))))))
  refine Run.cond (by cbv) (hq0) (fun c50 => ?_) (fun c50 => ?_)
  ·
   have h := if_t c50 h
   refine Run.seq ?_
   refine Run.region hL hT [] (by cbv) hq0 ?_
   refine Run.ret ?_
   cases h
   refine ⟨_, _, by cbv, ?_, ?_⟩
   · exact LLe.r
   exact (ALe.v LLe.r ALe.nil)
  have h := if_f c50 h
  refine Run.skip ?_
  refine Run.region hL hT [] (by cbv) ?_ ?_
  · exact (hq Tt hq0)
  refine ⟨(ar .add .i64 z45 1), h, Weak.of _ [(1, 1), (2, 2)] hA (by cbv) ?_⟩
  repeat (first | exact hq0 | refine hq (by first | exact Tt | rfl) ?_)
 have h := if_f c46 h
 refine Run.exit ?_
 refine Run.seq ?_
 refine Run.region hL hT [] (by cbv) hq0 ?_
 refine Run.ret ?_
 cases h
 refine ⟨_, _, by cbv, ?_, ?_⟩
 · exact LLe.r
 exact (ALe.v LLe.r ALe.nil)
theorem qMH : ∀ (k : Nat) {qO : Int} {a0v_N : Int} {a0v_S : ByteArray} {qD : List Json} {qF : List ByteArray} {qVE : Int} {a1v_N : Int} {a1v_S : ByteArray} {qzB : List Json} {qcD : List ByteArray} {r : Bool} (h : qQB.g k (Json.mk qO a0v_N a0v_S qD qF) (Json.mk qVE a1v_N a1v_S qzB qcD) = some r), AC Tryz.prog 18 [.ag [.s (.int .i64 qO), .s (.int .i64 a0v_N), .s (.string a0v_S), .im false (rowsOf ql qD), .im false (rowsOf Str_c qF)], .ag [.s (.int .i64 qVE), .s (.int .i64 a1v_N), .s (.string a1v_S), .im false (rowsOf ql qzB), .im false (rowsOf Str_c qcD)]] [.ag [.jk, .jk, .jk, .jk, .jk], .ag [.jk, .jk, .jk, .jk, .jk]] [.v (.s (.bool r))]
 | 0 => fun h => by cases h
 | k + 1 => fun h => qiK (qQB.g k) (qMH k) h
theorem qML {qO : Int} {a0v_N : Int} {a0v_S : ByteArray} {qD : List Json} {qF : List ByteArray} {qVE : Int} {a1v_N : Int} {a1v_S : ByteArray} {qzB : List Json} {qcD : List ByteArray} {r : Bool} (h : qQB.f (Json.mk qO a0v_N a0v_S qD qF) (Json.mk qVE a1v_N a1v_S qzB qcD) = some r) : AC Tryz.prog 18 [.ag [.s (.int .i64 qO), .s (.int .i64 a0v_N), .s (.string a0v_S), .im false (rowsOf ql qD), .im false (rowsOf Str_c qF)], .ag [.s (.int .i64 qVE), .s (.int .i64 a1v_N), .s (.string a1v_S), .im false (rowsOf ql qzB), .im false (rowsOf Str_c qcD)]] [.ag [.jk, .jk, .jk, .jk, .jk], .ag [.jk, .jk, .jk, .jk, .jk]] [.v (.s (.bool r))] := qMH 20 h
theorem qnN {qN : List Int} {qEB : Int} {qq : List (List Row)} {qr : Int} {qT : List Cond} {qt : Int} {qHB : Bool} {qu : Int} {qBB : List Int} {qIB : Bool} {qQ : Int} {qb : Int} {a2 : Int} {r : Int} (h : qlC.f (Store.mk (Schema.mk qN) qEB qq) (Query.mk qr qT qt qHB qu qBB qIB qQ qb) a2 = some r) : AC Tryz.prog 62 [.ag [.im false (rowsOf Int_c qN), .s (.int .i64 qEB), .im false (rowsOf qLC qq)], .ag [.s (.int .i64 qr), .im false (rowsOf qy qT), .s (.int .i64 qt), .s (.bool qHB), .s (.int .i64 qu), .im false (rowsOf Int_c qBB), .s (.bool qIB), .s (.int .i64 qQ), .s (.int .i64 qb)], .v (.s (.int .i64 a2))] [.ag [.jk, .jk, .jk], .ag [.jk, .jk, .jk, .jk, .jk, .jk, .jk, .jk, .jk], .v (.jk)] [.v (.s (.int .i64 r))] := by
 unfold qlC.f at h
 let qK := rowsOf qy
 let qB := rowsOf Int_c
 let qBC := rowsOf qLC
 let qZB := rowsOf Row_i
 let qS := @lenI Row
 show AC Tryz.prog 62 [.ag [.im false (qB qN), .s (.int .i64 qEB), .im false (qBC qq)], .ag [.s (.int .i64 qr), .im false (qK qT), .s (.int .i64 qt), .s (.bool qHB), .s (.int .i64 qu), .im false (qB qBB), .s (.bool qIB), .s (.int .i64 qQ), .s (.int .i64 qb)], .v (.s (.int .i64 a2))] _ _
 refine run3 Tryz.func62 (by rfl) (by rfl) (by cbv) ⟨by decide, rfl⟩ ?_
 intro ar cm bo sc sa sx ss sl bs sb ln sr ap up rp fr ge le lt nz mm ma sm fl al ci hL F hP hA hT hM hC
 refine Run.seq ?_
 refine Run.region hL hT [] (by cbv) hq0 ?_
 refine Run.seq ?_
 refine Run.region hL hT [] (by cbv) hq0 ?_
 refine Run.seq ?_
 refine Run.seq ?_
 obtain ⟨r1, h_r1, h⟩ := bnd h
 obtain ⟨r2, h_r2, h⟩ := bnd h
 refine Run.region hL hT [(1, .call [false] [.ag [.jk, .jk, .jk]] [.v (.s (.bool r1))]), (7, .call [false, false] [.ag [.jk], .ag [.jk, .jk, .jk, .jk, .jk, .jk, .jk, .jk, .jk]] [.v (.s (.bool r2))])] (by cbv) ?_ ?_
 · exact (hq Tt (hq (hC (qGF h_r1)) (hq (fun _ => hq0) (hq (fun g4 => (hq g4 (hq Tt hq0))) (hq (fun g5 => (hq Tt hq0)) (hq (fun g6 => (hq g6 (hq g6 (hq (hC (qHF (gd_t h_r2 g6))) hq0)))) (hq (fun g7 => (hq g7 hq0)) (hq (fun _ => hq0) (hq (fun q9 => (hq (bo_m q9) hq0)) (hq (fun _ => hq0) (hq (fun g11 => (hq g11 (hq Tt hq0))) (hq (fun g12 => (hq g12 hq0)) (hq (fun _ => hq0) (hq (fun q14 => (hq (bo_m q14) hq0)) hq0))))))))))))))
 refine Run.cond (by cbv) (hq0) (fun c15 => ?_) (fun c15 => ?_)
 ·
  have h := if_t c15 h
  refine Run.seq ?_
  refine Run.region hL hT [] (by cbv) hq0 ?_
  refine Run.ret ?_
  cases h
  refine ⟨_, _, by cbv, ?_, ?_⟩
  · exact LLe.r
  exact (ALe.v LLe.r ALe.nil)
 have h := if_f c15 h
 refine Run.skip ?_
 refine Run.seq ?_
 obtain ⟨x16, h_x16, h⟩ := bnd h
 refine Run.region hL hT [(4, .el [.im false (qZB x16)])] (by cbv) ?_ ?_
 · exact (hq Tt (hq Tt (hq (qP h_x16) (hq (qe (f := qLC) h_x16) (hq (qw (f := qLC) h_x16) hq0)))))
 refine Run.seq ?_
 refine Run.seq ?_
 refine Run.region hL hT [] (by cbv) hq0 ?_
 refine Run.block ?_
 refine Run.loop2 (fun (z30 : Int) (z31 : Int) => ⟨52, 100000, [(2, .t (.s (.int .i64 a2))), (4, .pt 1 0 0), (7, .t (.s (.int .i64 z30))), (8, .t (.im false (qZB x16))), (9, .t (.s (.int .i64 z31)))], [(1, .box 32 [.t (.s (.int .i64 qr)), .t (.im false (qK qT)), .t (.s (.int .i64 qt)), .t (.s (.bool qHB)), .t (.s (.int .i64 qu)), .t (.im false (qB qBB)), .t (.s (.bool qIB)), .t (.s (.int .i64 qQ)), .t (.s (.int .i64 qb))])]⟩) (x0 := 0) (x1 := 0) h (Weak.of _ [(1, 1)] hA (by cbv) ?_) (fun _ _ => rfl) ?_
 · repeat (first | exact hq0 | refine hq (by first | exact Tt | rfl) ?_)
 intro k z30 z31 h
 rw [qlC.l0] at h
 refine Run.seq ?_
 refine Run.seq ?_
 refine Run.region hL hT [] (by cbv) ?_ ?_
 · exact (hq Tt hq0)
 rw [show ln (qZB x16) = qS x16 from ln_eq Row_i _]
 refine Run.cond (by cbv) (hq0) (fun c32 => ?_) (fun c32 => ?_)
 ·
  have h := if_t c32 h
  refine Run.skip ?_
  refine Run.seq ?_
  refine Run.block ?_
  refine Run.seq ?_
  obtain ⟨⟨qwP, qZI⟩, h_x33, h⟩ := bnd h
  obtain ⟨x34, h_x34, h⟩ := bnd h
  refine Run.draw hL hT hM [(2, .el [.s (.int .i64 qwP), .im false (qB qZI)]), (7, .el [.s (.int .i64 x34)])] (by cbv) (by cbv) (by cbv) (by cbv) (by cbv) ?_ ?_
  · exact (hq (qP h_x33) (hq (qe (f := Row_i) h_x33) (hq (qw (f := Row_i) h_x33) (hq Tt (hq (qP h_x34) (hq (qe (f := Int_c) h_x34) (hq (qw (f := Int_c) h_x34) (hq Tt hq0))))))))
  refine Run.cond (by cbv) (hq0) (fun c35 => ?_) (fun c35 => ?_)
  ·
   have h := if_t c35 h
   refine Run.region hL hT [] (by cbv) ?_ ?_
   · exact (hq Tt hq0)
   refine Run.region hL hT [] (by cbv) ?_ ?_
   · exact (hq Tt hq0)
   refine ⟨(ar .add .i64 z30 1), (ar .add .i64 z31 1), h, Weak.of _ [(1, 1)] hA (by cbv) ?_⟩
   repeat (first | exact hq0 | refine hq (by first | exact Tt | rfl) ?_)
  have h := if_f c35 h
  refine Run.skip ?_
  refine Run.region hL hT [] (by cbv) ?_ ?_
  · exact (hq Tt hq0)
  refine ⟨z30, (ar .add .i64 z31 1), h, Weak.of _ [(1, 1)] hA (by cbv) ?_⟩
  repeat (first | exact hq0 | refine hq (by first | exact Tt | rfl) ?_)
 have h := if_f c32 h
 refine Run.exit ?_
 refine Run.seq ?_
 refine Run.region hL hT [] (by cbv) hq0 ?_
 refine Run.ret ?_
 cases h
 refine ⟨_, _, by cbv, ?_, ?_⟩
 · exact LLe.r
 exact (ALe.v LLe.r ALe.nil)
theorem qQQ {a0 : Int} {a1 : Int} {r : Int} (h : qGH.f a0 a1 = some r) : AC Tryz.prog 152 [.v (.s (.int .i64 a0)), .v (.s (.int .i64 a1))] [.v (.jk), .v (.jk)] [.v (.s (.int .i64 r))] := by
 unfold qGH.f at h
 show AC Tryz.prog 152 [.v (.s (.int .i64 a0)), .v (.s (.int .i64 a1))] _ _
 refine run3 Tryz.func152 (by rfl) (by rfl) (by cbv) ⟨by decide, rfl⟩ ?_
 intro ar cm bo sc sa sx ss sl bs sb ln sr ap up rp fr ge le lt nz mm ma sm fl al ci hL F hP hA hT hM hC
 refine Run.seq ?_
 refine Run.region hL hT [] (by cbv) hq0 ?_
 refine Run.seq ?_
 refine Run.seq ?_
 refine Run.region hL hT [] (by cbv) ?_ ?_
 · exact (hq Tt hq0)
 refine Run.cond (by cbv) (hq0) (fun c1 => ?_) (fun c1 => ?_)
 ·
  have h := if_t c1 h
  refine Run.seq ?_
  refine Run.region hL hT [] (by cbv) hq0 ?_
  refine Run.ret ?_
  cases h
  refine ⟨_, _, by cbv, ?_, ?_⟩
  · exact LLe.r
  exact (ALe.v LLe.r ALe.nil)
 have h := if_f c1 h
 refine Run.skip ?_
 refine Run.seq ?_
 refine Run.region hL hT [] (by cbv) hq0 ?_
 refine Run.ret ?_
 cases h
 refine ⟨_, _, by cbv, ?_, ?_⟩
 · exact LLe.r
 exact (ALe.v LLe.r ALe.nil)
theorem qNL {qg : Int} {qa : List Cond} {qh : Int} {qCB : Bool} {qi : Int} {qp : List Int} {qDB : Bool} {qM : Int} {qY : Int} {a1 : Int} {r : Int} (h : qyE.f (Query.mk qg qa qh qCB qi qp qDB qM qY) a1 = some r) : AC Tryz.prog 125 [.ag [.s (.int .i64 qg), .im false (rowsOf qy qa), .s (.int .i64 qh), .s (.bool qCB), .s (.int .i64 qi), .im false (rowsOf Int_c qp), .s (.bool qDB), .s (.int .i64 qM), .s (.int .i64 qY)], .v (.s (.int .i64 a1))] [.ag [.jk, .jk, .jk, .jk, .jk, .jk, .jk, .jk, .jk], .v (.jk)] [.v (.s (.int .i64 r))] := by
 unfold qyE.f at h
 let qK := rowsOf qy
 let qB := rowsOf Int_c
 show AC Tryz.prog 125 [.ag [.s (.int .i64 qg), .im false (qK qa), .s (.int .i64 qh), .s (.bool qCB), .s (.int .i64 qi), .im false (qB qp), .s (.bool qDB), .s (.int .i64 qM), .s (.int .i64 qY)], .v (.s (.int .i64 a1))] _ _
 refine run3 Tryz.func125 (by rfl) (by rfl) (by cbv) ⟨by decide, rfl⟩ ?_
 intro ar cm bo sc sa sx ss sl bs sb ln sr ap up rp fr ge le lt nz mm ma sm fl al ci hL F hP hA hT hM hC
 refine Run.seq ?_
 refine Run.region hL hT [] (by cbv) hq0 ?_
 refine Run.seq ?_
 refine Run.seq ?_
 refine Run.region hL hT [] (by cbv) ?_ ?_
 · exact (hq Tt (hq Tt hq0))
 refine Run.cond (by cbv) (hq0) (fun c1 => ?_) (fun c1 => ?_)
 ·
  have h := if_t c1 h
  refine Run.seq ?_
  refine Run.region hL hT [] (by cbv) hq0 ?_
  refine Run.ret ?_
  cases h
  refine ⟨_, _, by cbv, ?_, ?_⟩
  · exact LLe.r
  exact (ALe.v LLe.r ALe.nil)
 have h := if_f c1 h
 refine Run.skip ?_
 refine Run.seq ?_
 obtain ⟨r2, h_r2, h⟩ := bnd h
 obtain ⟨r3, h_r3, h⟩ := bnd h
 refine Run.region hL hT [(3, .call [false, false] [.v (.jk), .v (.jk)] [.v (.s (.int .i64 r2))]), (4, .call [false, false] [.v (.jk), .v (.jk)] [.v (.s (.int .i64 r3))])] (by cbv) ?_ ?_
 · exact (hq Tt (hq (hC (qQQ h_r2)) (hq (hC (qFF h_r3)) hq0)))
 refine Run.ret ?_
 cases h
 refine ⟨_, _, by cbv, ?_, ?_⟩
 · exact LLe.r
 exact (ALe.v LLe.r ALe.nil)
theorem qWF {a0 : Int} {r : Json} (h : qgD.f a0 = some r) : AC Tryz.prog 128 [.v (.s (.int .i64 a0))] [.v (.jk)] [.ag [.s (.int .i64 r.Kind), .s (.int .i64 r.N), .s (.string r.S), .im true (rowsOf qVC r.List_), .im true (rowsOf Str_c r.Names)]] := by
 unfold qgD.f at h
 show AC Tryz.prog 128 [.v (.s (.int .i64 a0))] _ _
 refine run3 Tryz.func128 (by rfl) (by rfl) (by cbv) ⟨by decide, rfl⟩ ?_
 intro ar cm bo sc sa sx ss sl bs sb ln sr ap up rp fr ge le lt nz mm ma sm fl al ci hL F hP hA hT hM hC
 refine Run.seq ?_
 refine Run.region hL hT [] (by cbv) hq0 ?_
 refine Run.seq ?_
 refine Run.region hL hT [] (by cbv) ?_ ?_
 · exact (hq Tt hq0)
 refine Run.ret ?_
 cases h
 refine ⟨_, _, by cbv, ?_, ?_⟩
 · exact LLe.r
 exact (ALe.ag rfl (LLe.c (LLe.c (LLe.c (LLe.cons LLe.nilI (LLe.cons LLe.nilI LLe.nil))))) ALe.nil)
theorem qmH {qO : Int} {a0v_N : Int} {a0v_S : ByteArray} {qD : List Json} {qF : List ByteArray} {a1 : ByteArray} {qnG : Int} {a2v_N : Int} {a2v_S : ByteArray} {qkF : List Json} {qlF : List ByteArray} {r : Json} (h : qcC.f (Json.mk qO a0v_N a0v_S qD qF) a1 (Json.mk qnG a2v_N a2v_S qkF qlF) = some r) : AC Tryz.prog 153 [.ag [.s (.int .i64 qO), .s (.int .i64 a0v_N), .s (.string a0v_S), .im true (rowsOf qVC qD), .im true (rowsOf Str_c qF)], .v (.s (.string a1)), .ag [.s (.int .i64 qnG), .s (.int .i64 a2v_N), .s (.string a2v_S), .im true (rowsOf qVC qkF), .im true (rowsOf Str_c qlF)]] [.ag [.jk, .jk, .jk, .jk, .jk], .v (.jk), .ag [.jk, .jk, .jk, .jk, .jk]] [.ag [.s (.int .i64 r.Kind), .s (.int .i64 r.N), .s (.string r.S), .im true (rowsOf qVC r.List_), .im true (rowsOf Str_c r.Names)]] := by
 unfold qcC.f at h
 let qWB := rowsOf qVC
 let qXB := rowsOf qnB
 let qR := rowsOf Str_c
 let qvB := @lenI ByteArray
 show AC Tryz.prog 153 [.ag [.s (.int .i64 qO), .s (.int .i64 a0v_N), .s (.string a0v_S), .im true (qWB qD), .im true (qR qF)], .v (.s (.string a1)), .ag [.s (.int .i64 qnG), .s (.int .i64 a2v_N), .s (.string a2v_S), .im true (qWB qkF), .im true (qR qlF)]] _ _
 refine run3 Tryz.func153 (by rfl) (by rfl) (by cbv) ⟨by decide, rfl⟩ ?_
 intro ar cm bo sc sa sx ss sl bs sb ln sr ap up rp fr ge le lt nz mm ma sm fl al ci hL F hP hA hT hM hC
 refine Run.seq ?_
 refine Run.region hL hT [] (by cbv) hq0 ?_
 refine Run.seq ?_
 refine Run.region hL hT [] (by cbv) ?_ ?_
 · exact (hq Tt hq0)
 refine Run.seq ?_
 refine Run.region hL hT [] (by cbv) hq0 ?_
 obtain ⟨K4, h_K4, h⟩ := joinE h
 refine Run.join3 K4 (r := r) (fun (y1 : List Json) (y2 : List ByteArray) (y3 : Bool) => ⟨83, 100000, [(1, .t (.s (.string a1))), (5, .pt 1 0 0), (6, .pt 2 0 0), (7, .pt 3 0 0), (8, .t (.s (.bool y3)))], [(1, .box 46 [.t (.s (.int .i64 qnG)), .t (.s (.int .i64 a2v_N)), .t (.s (.string a2v_S)), .t (.im true (qWB qkF)), .t (.im true (qR qlF))]), (2, .box 46 [.t (.s (.int .i64 0)), .t (.s (.int .i64 0)), .t (.s (.string ByteArray.empty)), .t (.s (.slice none 0 0)), .t (.s (.slice none 0 0))]), (3, .box 46 [.t (.s (.int .i64 5)), .t (.s (.int .i64 0)), .t (.s (.string ByteArray.empty)), .rf 4, .rf 5]), (4, .row 0 46 5 (qWB y1)), (5, .row 0 9 1 (qR y2))]⟩) ?_ ?_
 ·
  skip
  refine Run.seq ?_
  refine Run.region hL hT [] (by cbv) hq0 ?_
  refine Run.block ?_
  refine Run.loop4 (fun (z45 : List Json) (z46 : List ByteArray) (z47 : Bool) (z48 : Int) => ⟨83, 100000, [(1, .t (.s (.string a1))), (3, .pt 1 0 0), (5, .pt 2 0 0), (6, .pt 3 0 0), (7, .pt 4 0 0), (8, .t (.s (.bool z47))), (9, .t (.s (.int .i64 z48)))], [(1, .box 46 [.t (.s (.int .i64 qO)), .t (.s (.int .i64 a0v_N)), .t (.s (.string a0v_S)), .t (.im true (qWB qD)), .t (.im true (qR qF))]), (2, .box 46 [.t (.s (.int .i64 qnG)), .t (.s (.int .i64 a2v_N)), .t (.s (.string a2v_S)), .t (.im true (qWB qkF)), .t (.im true (qR qlF))]), (3, .box 46 [.t (.s (.int .i64 0)), .t (.s (.int .i64 0)), .t (.s (.string ByteArray.empty)), .t (.s (.slice none 0 0)), .t (.s (.slice none 0 0))]), (4, .box 46 [.t (.s (.int .i64 5)), .t (.s (.int .i64 0)), .t (.s (.string ByteArray.empty)), .rf 5, .rf 6]), (5, .row 0 46 5 (qWB z45)), (6, .row 0 9 1 (qR z46))]⟩) (x0 := []) (x1 := []) (x2 := false) (x3 := 0) h ((Weak.nilB (l := [.t (.s (.int .i64 5)), .t (.s (.int .i64 0)), .t (.s (.string ByteArray.empty))]) hT 4097 3 17384 46 rfl (by cbv) (by cbv) (by cbv)).trans ((Weak.nilB (l := [.t (.s (.int .i64 5)), .t (.s (.int .i64 0)), .t (.s (.string ByteArray.empty)), .rf 17384]) hT 4097 4 17385 9 rfl (by cbv) (by cbv) (by cbv)).trans (Weak.of _ [(1, 0), (2, 1), (3, 2), (4, 4097), (5, 17384), (6, 17385)] hA (by cbv) ?_))) (fun _ _ _ _ => rfl) ?_
  · repeat (first | exact hq0 | refine hq (by first | exact Tt | rfl) ?_)
  intro k z45 z46 z47 z48 h
  rw [qcC.l0] at h
  refine Run.seq ?_
  refine Run.seq ?_
  refine Run.region hL hT [] (by cbv) ?_ ?_
  · exact (hq Tt (hq Tt hq0))
  rw [show ln (qR qF) = qvB qF from ln_eq Str_c _]
  refine Run.cond (by cbv) (hq0) (fun c49 => ?_) (fun c49 => ?_)
  ·
   have h := if_t c49 h
   refine Run.skip ?_
   refine Run.seq ?_
   refine Run.block ?_
   obtain ⟨K53, h_K53, h⟩ := joinE h
   refine Run.join3 K53 (r := r) (fun (y50 : List Json) (y51 : List ByteArray) (y52 : Bool) => ⟨83, 100000, [(1, .t (.s (.string a1))), (3, .pt 1 0 0), (5, .pt 2 0 0), (6, .pt 3 0 0), (7, .pt 4 0 0), (8, .t (.s (.bool y52))), (9, .t (.s (.int .i64 z48)))], [(1, .box 46 [.t (.s (.int .i64 qO)), .t (.s (.int .i64 a0v_N)), .t (.s (.string a0v_S)), .t (.im true (qWB qD)), .t (.im true (qR qF))]), (2, .box 46 [.t (.s (.int .i64 qnG)), .t (.s (.int .i64 a2v_N)), .t (.s (.string a2v_S)), .t (.im true (qWB qkF)), .t (.im true (qR qlF))]), (3, .box 46 [.t (.s (.int .i64 0)), .t (.s (.int .i64 0)), .t (.s (.string ByteArray.empty)), .t (.s (.slice none 0 0)), .t (.s (.slice none 0 0))]), (4, .box 46 [.t (.s (.int .i64 5)), .t (.s (.int .i64 0)), .t (.s (.string ByteArray.empty)), .rf 5, .rf 6]), (5, .row 0 46 5 (qWB y50)), (6, .row 0 9 1 (qR y51))]⟩) ?_ ?_
   ·
    skip
    refine Run.seq ?_
    obtain ⟨x54, h_x54, h⟩ := bnd h
    refine Run.region hL hT [(6, .el [.s (.string x54)])] (by cbv) ?_ ?_
    · exact (hq (fun _ => hq0) (hq (fun g56 => (hq g56 (hq Tt hq0))) (hq (fun _ => hq0) (hq (fun g58 => (hq g58 (hq g58 (hq (qP (gd_t h_x54 g58)) (hq (qe (f := Str_c) (gd_t h_x54 g58)) (hq (qw (f := Str_c) (gd_t h_x54 g58)) hq0)))))) (hq (fun g59 => (hq g59 hq0)) (hq (fun _ => hq0) (hq (fun g61 => (hq g61 (hq g61 hq0))) (hq (fun q62 => (hq q62 hq0)) (hq (fun _ => hq0) hq0)))))))))
    refine Run.cond (by cbv) (hq0) (fun c64 => ?_) (fun c64 => ?_)
    ·
     have h := if_t c64 h
     refine Run.seq ?_
     obtain ⟨l65, h_l65, h⟩ := bnd h
     obtain ⟨l66, h_l66, h⟩ := bnd h
     refine Run.region hL hT [] (by cbv) ?_ ?_
     · exact (hq Tt (hq (qnC (P := Tryz.prog) (f := Str_c) RLe.r (qGB (f := Str_c) h_l65 (RLe.cons rfl LLe.r RLe.nil)) h_l66) (hq Tt hq0)))
     refine Run.row (rows := (ap (qR z46) ([[.s (.string a1)]]))) 108196 (qR l66) (by cbv) (qmC (f := Str_c) RLe.r (qGB (f := Str_c) h_l65 (RLe.cons rfl LLe.r RLe.nil)) h_l66) ?_
     refine Run.seq ?_
     obtain ⟨l67, h_l67, h⟩ := bnd h
     obtain ⟨l68, h_l68, h⟩ := bnd h
     refine Run.region hL hT [] (by cbv) ?_ ?_
     · exact (hq Tt (hq Tt (hq (qnC (P := Tryz.prog) (f := qVC) RLe.r (qeD qYD h_l67 (RLe.cons rfl LLe.r RLe.nil)) h_l68) (hq Tt hq0))))
     refine Run.row (rows := (ap (qWB z45) ([[.s (.int .i64 qnG), .s (.int .i64 a2v_N), .s (.string a2v_S), .im true (qWB qkF), .im true (qR qlF)]]))) 112292 (qWB l68) (by cbv) (qmC (f := qVC) RLe.r (qeD qYD h_l67 (RLe.cons rfl LLe.r RLe.nil)) h_l68) ?_
     refine Run.region hL hT [] (by cbv) hq0 ?_
     refine ⟨l68, l66, true, h, Weak.of _ [(1, 1), (2, 2), (3, 3), (4, 4), (5, 112292), (6, 108196)] hA (by cbv) ?_⟩
     repeat (first | exact hq0 | refine hq (by first | exact Tt | rfl) ?_)
    have h := if_f c64 h
    refine Run.skip ?_
    refine ⟨z45, z46, z47, h, Weak.of _ [(1, 1), (2, 2), (3, 3), (4, 4), (5, 5), (6, 6)] hA (by cbv) ?_⟩
    repeat (first | exact hq0 | refine hq (by first | exact Tt | rfl) ?_)
   intro y50 y51 y52 h
   rw [h_K53] at h
   refine Run.seq ?_
   obtain ⟨x69, h_x69, h⟩ := bnd h
   refine Run.region hL hT [(3, .el [.s (.string x69)])] (by cbv) ?_ ?_
   · exact (hq Tt (hq (qP h_x69) (hq (qe (f := Str_c) h_x69) (hq (qw (f := Str_c) h_x69) hq0))))
   refine Run.cond (by cbv) (hq0) (fun c70 => ?_) (fun c70 => ?_)
   ·
    have h := if_t c70 h
    refine Run.seq ?_
    obtain ⟨l71, h_l71, h⟩ := bnd h
    obtain ⟨l72, h_l72, h⟩ := bnd h
    refine Run.draw hL hT hM [(5, .el [.s (.string x69)])] (by cbv) (by cbv) (by cbv) (by cbv) (by cbv) ?_ ?_
    · exact (hq Tt (hq Tt (hq (qP h_x69) (hq (qe (f := Str_c) h_x69) (hq (qw (f := Str_c) h_x69) (hq (qnC (P := Tryz.prog) (f := Str_c) RLe.r (qGB (f := Str_c) h_l71 (RLe.cons rfl LLe.r RLe.nil)) h_l72) (hq Tt hq0)))))))
    refine Run.row (rows := (ap (qR y51) ([[.s (.string x69)]]))) 104104 (qR l72) (by cbv) (qmC (f := Str_c) RLe.r (qGB (f := Str_c) h_l71 (RLe.cons rfl LLe.r RLe.nil)) h_l72) ?_
    obtain ⟨⟨qtR, qbZ, qcZ, qqO, qrO⟩, h_x73, h⟩ := bnd h
    obtain ⟨l74, h_l74, h⟩ := bnd h
    obtain ⟨l75, h_l75, h⟩ := bnd h
    refine Run.draw hL hT hM [(5, .el [.s (.int .i64 qtR), .s (.int .i64 qbZ), .s (.string qcZ), .im true (qWB qqO), .im true (qR qrO)])] (by cbv) (by cbv) (by cbv) (by cbv) (by cbv) ?_ ?_
    · exact (hq Tt (hq Tt (hq (qP h_x73) (hq (qe (f := qVC) h_x73) (hq (qzH qYD h_x73) (hq (qnC (P := Tryz.prog) (f := qVC) RLe.r (qeD qYD h_l74 (RLe.cons rfl LLe.r RLe.nil)) h_l75) (hq Tt hq0)))))))
    refine Run.row (rows := (ap (qWB y50) ([[.s (.int .i64 qtR), .s (.int .i64 qbZ), .s (.string qcZ), .im true (qWB qqO), .im true (qR qrO)]]))) 108200 (qWB l75) (by cbv) (qmC (f := qVC) RLe.r (qeD qYD h_l74 (RLe.cons rfl LLe.r RLe.nil)) h_l75) ?_
    refine Run.region hL hT [] (by cbv) ?_ ?_
    · exact (hq Tt hq0)
    refine ⟨l75, l72, y52, (ar .add .i64 z48 1), h, Weak.of _ [(1, 1), (2, 2), (3, 3), (4, 4), (5, 108200), (6, 104104)] hA (by cbv) ?_⟩
    repeat (first | exact hq0 | refine hq (by first | exact Tt | rfl) ?_)
   have h := if_f c70 h
   refine Run.skip ?_
   refine Run.region hL hT [] (by cbv) ?_ ?_
   · exact (hq Tt hq0)
   refine ⟨y50, y51, y52, (ar .add .i64 z48 1), h, Weak.of _ [(1, 1), (2, 2), (3, 3), (4, 4), (5, 5), (6, 6)] hA (by cbv) ?_⟩
   repeat (first | exact hq0 | refine hq (by first | exact Tt | rfl) ?_)
  have h := if_f c49 h
  refine Run.exit ?_
  refine ⟨z45, z46, z47, h, Weak.of _ [(1, 2), (2, 3), (3, 4), (4, 5), (5, 6)] hA (by cbv) ?_⟩
  repeat (first | exact hq0 | refine hq (by first | exact Tt | rfl) ?_)
 intro y1 y2 y3 h
 rw [h_K4] at h
 refine Run.seq ?_
 refine Run.seq ?_
 refine Run.region hL hT [] (by cbv) hq0 ?_
 refine Run.cond (by cbv) (hq0) (fun c76 => ?_) (fun c76 => ?_)
 ·
  have h := if_t c76 h
  refine Run.seq ?_
  obtain ⟨l77, h_l77, h⟩ := bnd h
  obtain ⟨l78, h_l78, h⟩ := bnd h
  refine Run.region hL hT [] (by cbv) ?_ ?_
  · exact (hq Tt (hq (qnC (P := Tryz.prog) (f := Str_c) RLe.r (qGB (f := Str_c) h_l77 (RLe.cons rfl LLe.r RLe.nil)) h_l78) (hq Tt hq0)))
  refine Run.row (rows := (ap (qR y2) ([[.s (.string a1)]]))) 104100 (qR l78) (by cbv) (qmC (f := Str_c) RLe.r (qGB (f := Str_c) h_l77 (RLe.cons rfl LLe.r RLe.nil)) h_l78) ?_
  obtain ⟨l79, h_l79, h⟩ := bnd h
  obtain ⟨l80, h_l80, h⟩ := bnd h
  refine Run.region hL hT [] (by cbv) ?_ ?_
  · exact (hq Tt (hq Tt (hq (qnC (P := Tryz.prog) (f := qVC) RLe.r (qeD qYD h_l79 (RLe.cons rfl LLe.r RLe.nil)) h_l80) (hq Tt hq0))))
  refine Run.row (rows := (ap (qWB y1) ([[.s (.int .i64 qnG), .s (.int .i64 a2v_N), .s (.string a2v_S), .im true (qWB qkF), .im true (qR qlF)]]))) 108196 (qWB l80) (by cbv) (qmC (f := qVC) RLe.r (qeD qYD h_l79 (RLe.cons rfl LLe.r RLe.nil)) h_l80) ?_
  refine Run.seq ?_
  refine Run.region hL hT [] (by cbv) ?_ ?_
  · exact (hq Tt (hq Tt hq0))
  refine Run.weak ?_ (Weak.keepL (rows := qWB l80) 108196 (by cbv) (qWB l80) (qmJ _))
  refine Run.weak ?_ (Weak.keep (rows := qR l78) 104100 (by cbv) (qR l78) (qAC qnF _))
  refine Run.ret ?_
  cases h
  refine ⟨_, _, by cbv, ?_, ?_⟩
  · exact LLe.r
  exact (ALe.ag rfl LLe.r ALe.nil)
 have h := if_f c76 h
 refine Run.skip ?_
 refine Run.seq ?_
 refine Run.region hL hT [] (by cbv) ?_ ?_
 · exact (hq Tt (hq Tt hq0))
 refine Run.weak ?_ (Weak.keepL (rows := qWB y1) 4 (by cbv) (qWB y1) (qmJ _))
 refine Run.weak ?_ (Weak.keep (rows := qR y2) 5 (by cbv) (qR y2) (qAC qnF _))
 refine Run.ret ?_
 cases h
 refine ⟨_, _, by cbv, ?_, ?_⟩
 · exact LLe.r
 exact (ALe.ag rfl LLe.r ALe.nil)
theorem qOL {a0 : Int} {r : ByteArray} (h : qCC.f a0 = some r) : AC Tryz.prog 154 [.v (.s (.int .i64 a0))] [.v (.jk)] [.v (.s (.string r))] := by
 unfold qCC.f at h
 let eu8_c := rowsOf u8_c
 show AC Tryz.prog 154 [.v (.s (.int .i64 a0))] _ _
 refine run3 Tryz.func154 (by rfl) (by rfl) (by cbv) ⟨by decide, rfl⟩ ?_
 intro ar cm bo sc sa sx ss sl bs sb ln sr ap up rp fr ge le lt nz mm ma sm fl al ci hL F hP hA hT hM hC
 refine Run.seq ?_
 refine Run.region hL hT [] (by cbv) hq0 ?_
 refine Run.seq ?_
 refine Run.seq ?_
 refine Run.region hL hT [] (by cbv) ?_ ?_
 · exact (hq Tt hq0)
 refine Run.cond (by cbv) (hq0) (fun c1 => ?_) (fun c1 => ?_)
 ·
  have h := if_t c1 h
  refine Run.seq ?_
  refine Run.region hL hT [] (by cbv) hq0 ?_
  refine Run.ret ?_
  cases h
  refine ⟨_, _, by cbv, ?_, ?_⟩
  · exact LLe.r
  exact (ALe.v LLe.r ALe.nil)
 have h := if_f c1 h
 refine Run.skip ?_
 refine Run.seq ?_
 refine Run.region hL hT [] (by cbv) ?_ ?_
 · exact (hq Tt hq0)
 refine Run.seq ?_
 refine Run.region hL hT [] (by cbv) hq0 ?_
 obtain ⟨K4, h_K4, h⟩ := joinE h
 refine Run.join2 K4 (r := r) (fun (y2 : Bool) (y3 : ByteArray) => ⟨31, 100000, [(3, .t (.s (.bool y2))), (4, .t (.s (.string y3)))], []⟩) ?_ ?_
 ·
  skip
  refine Run.block ?_
  refine Run.loop3 (fun (z8 : Int) (z9 : Bool) (z10 : ByteArray) => ⟨31, 100000, [(0, .t (.s (.int .i64 z8))), (3, .t (.s (.bool z9))), (4, .t (.s (.string z10)))], []⟩) (x0 := a0) (x1 := (cm .lss a0 0)) (x2 := (ByteArray.mk #[])) h (Weak.of _ [] hA (by cbv) ?_) (fun _ _ _ => rfl) ?_
  · repeat (first | exact hq0 | refine hq (by first | exact Tt | rfl) ?_)
  intro k z8 z9 z10 h
  rw [qCC.l0] at h
  refine Run.seq ?_
  refine Run.seq ?_
  refine Run.region hL hT [] (by cbv) ?_ ?_
  · exact (hq Tt hq0)
  refine Run.cond (by cbv) (hq0) (fun c11 => ?_) (fun c11 => ?_)
  ·
   have h := if_t c11 h
   refine Run.skip ?_
   refine Run.block ?_
   refine Run.seq ?_
   refine Run.region hL hT [] (by cbv) ?_ ?_
   · exact (hq Tt (hq (show Ls.nz 10 from (by decide : (10 : Int) ≠ 0)) hq0))
   refine Run.seq ?_
   refine Run.seq ?_
   refine Run.region hL hT [] (by cbv) ?_ ?_
   · exact (hq Tt hq0)
   refine Run.cond (by cbv) (hq0) (fun c12 => ?_) (fun c12 => ?_)
   ·
    have h := if_t c12 h
    refine Run.region hL hT [] (by cbv) ?_ ?_
    · exact (hq Tt hq0)
    refine Run.seq ?_
    obtain ⟨l13, h_l13, h⟩ := bnd h
    obtain ⟨s14, h_s14, h⟩ := bnd h
    obtain ⟨u15, h_u15, h⟩ := bnd h
    refine Run.region hL hT [(4, .hd [116387] (.t (.s (.string s14))) [])] (by cbv) ?_ ?_
    · exact (hq Tt (hq (qxQ (ns := [(IntKind.wrap .u8 (w64 (48 + (w64 (0 - (Int.tmod z8 10))))))]) hT (by rfl) (by rfl) (by rfl) (by rfl) (by rfl) (by rfl) (by rfl) (qOT h_l13 h_s14)) (hq (sm_t h_u15) hq0)))
    refine Run.row (rows := [[.s (.int .u8 (ar .or .u8 (ar .add .i64 48 (ar .sub .i64 0 (ar .rem .i64 z8 10))) 0))]]) 116387 (eu8_c l13) (by cbv) (qGB (f := u8_c) h_l13 (RLe.cons rfl LLe.r RLe.nil)) ?_
    refine Run.region hL hT [] (by cbv) ?_ ?_
    · exact (hq Tt (hq (show Ls.nz 10 from (by decide : (10 : Int) ≠ 0)) hq0))
    refine ⟨(ar .quo .i64 z8 10), z9, (sa s14 z10), h, Weak.of _ [] hA (by cbv) ?_⟩
    repeat (first | exact hq0 | refine hq (by first | exact Tt | rfl) ?_)
   have h := if_f c12 h
   refine Run.skip ?_
   refine Run.seq ?_
   obtain ⟨l16, h_l16, h⟩ := bnd h
   obtain ⟨s17, h_s17, h⟩ := bnd h
   obtain ⟨u18, h_u18, h⟩ := bnd h
   refine Run.region hL hT [(4, .hd [112291] (.t (.s (.string s17))) [])] (by cbv) ?_ ?_
   · exact (hq Tt (hq (qxQ (ns := [(IntKind.wrap .u8 (w64 (48 + (Int.tmod z8 10))))]) hT (by rfl) (by rfl) (by rfl) (by rfl) (by rfl) (by rfl) (by rfl) (qOT h_l16 h_s17)) (hq (sm_t h_u18) hq0)))
   refine Run.row (rows := [[.s (.int .u8 (ar .or .u8 (ar .add .i64 48 (ar .rem .i64 z8 10)) 0))]]) 112291 (eu8_c l16) (by cbv) (qGB (f := u8_c) h_l16 (RLe.cons rfl LLe.r RLe.nil)) ?_
   refine Run.region hL hT [] (by cbv) ?_ ?_
   · exact (hq Tt (hq (show Ls.nz 10 from (by decide : (10 : Int) ≠ 0)) hq0))
   refine ⟨(ar .quo .i64 z8 10), z9, (sa s17 z10), h, Weak.of _ [] hA (by cbv) ?_⟩
   repeat (first | exact hq0 | refine hq (by first | exact Tt | rfl) ?_)
  have h := if_f c11 h
  refine Run.exit ?_
  refine ⟨z9, z10, h, Weak.of _ [] hA (by cbv) ?_⟩
  repeat (first | exact hq0 | refine hq (by first | exact Tt | rfl) ?_)
 intro y2 y3 h
 rw [h_K4] at h
 refine Run.seq ?_
 refine Run.seq ?_
 refine Run.region hL hT [] (by cbv) hq0 ?_
 refine Run.cond (by cbv) (hq0) (fun c19 => ?_) (fun c19 => ?_)
 ·
  have h := if_t c19 h
  refine Run.seq ?_
  obtain ⟨u20, h_u20, h⟩ := bnd h
  refine Run.region hL hT [] (by cbv) ?_ ?_
  · exact (hq (sm_t h_u20) hq0)
  refine Run.ret ?_
  cases h
  refine ⟨_, _, by cbv, ?_, ?_⟩
  · exact LLe.r
  exact (ALe.v LLe.r ALe.nil)
 have h := if_f c19 h
 refine Run.skip ?_
 refine Run.seq ?_
 refine Run.region hL hT [] (by cbv) hq0 ?_
 refine Run.ret ?_
 cases h
 refine ⟨_, _, by cbv, ?_, ?_⟩
 · exact LLe.r
 exact (ALe.v LLe.r ALe.nil)
theorem qoN {qg : Int} {qa : List Cond} {qh : Int} {qCB : Bool} {qi : Int} {qp : List Int} {qDB : Bool} {qM : Int} {qY : Int} {qGC : Int} {qm : List Int} {a2 : Int} {r : Json} (h : qGD.f (Query.mk qg qa qh qCB qi qp qDB qM qY) (Row.mk qGC qm) a2 = some r) : AC Tryz.prog 126 [.ag [.s (.int .i64 qg), .im false (rowsOf qy qa), .s (.int .i64 qh), .s (.bool qCB), .s (.int .i64 qi), .im false (rowsOf Int_c qp), .s (.bool qDB), .s (.int .i64 qM), .s (.int .i64 qY)], .ag [.s (.int .i64 qGC), .im false (rowsOf Int_c qm)], .v (.s (.int .i64 a2))] [.ag [.jk, .jk, .jk, .jk, .jk, .jk, .jk, .jk, .jk], .ag [.jk, .jk], .v (.jk)] [.ag [.s (.int .i64 r.Kind), .s (.int .i64 r.N), .s (.string r.S), .im true (rowsOf qVC r.List_), .im true (rowsOf Str_c r.Names)]] := by
 unfold qGD.f at h
 let qK := rowsOf qy
 let qB := rowsOf Int_c
 let qWB := rowsOf qVC
 let qR := rowsOf Str_c
 let qZ := @lenI Int
 show AC Tryz.prog 126 [.ag [.s (.int .i64 qg), .im false (qK qa), .s (.int .i64 qh), .s (.bool qCB), .s (.int .i64 qi), .im false (qB qp), .s (.bool qDB), .s (.int .i64 qM), .s (.int .i64 qY)], .ag [.s (.int .i64 qGC), .im false (qB qm)], .v (.s (.int .i64 a2))] _ _
 refine run3 Tryz.func126 (by rfl) (by rfl) (by cbv) ⟨by decide, rfl⟩ ?_
 intro ar cm bo sc sa sx ss sl bs sb ln sr ap up rp fr ge le lt nz mm ma sm fl al ci hL F hP hA hT hM hC
 refine Run.seq ?_
 refine Run.region hL hT [] (by cbv) hq0 ?_
 refine Run.seq ?_
 refine Run.region hL hT [] (by cbv) ?_ ?_
 · exact (hq Tt hq0)
 obtain ⟨K6, h_K6, h⟩ := joinE h
 refine Run.join5 K6 (r := r) (fun (y1 : Int) (y2 : Int) (y3 : ByteArray) (y4 : List Json) (y5 : List ByteArray) => ⟨46, 100000, [(2, .t (.s (.int .i64 a2))), (3, .pt 1 0 0), (4, .pt 2 0 0), (6, .pt 3 0 0), (7, .pt 4 0 0)], [(1, .box 32 [.t (.s (.int .i64 qg)), .t (.im false (qK qa)), .t (.s (.int .i64 qh)), .t (.s (.bool qCB)), .t (.s (.int .i64 qi)), .t (.im false (qB qp)), .t (.s (.bool qDB)), .t (.s (.int .i64 qM)), .t (.s (.int .i64 qY))]), (2, .box 56 [.t (.s (.int .i64 qGC)), .t (.im false (qB qm))]), (3, .box 46 [.t (.s (.int .i64 0)), .t (.s (.int .i64 0)), .t (.s (.string ByteArray.empty)), .t (.s (.slice none 0 0)), .t (.s (.slice none 0 0))]), (4, .box 46 [.t (.s (.int .i64 y1)), .t (.s (.int .i64 y2)), .t (.s (.string y3)), .t (.im true (qWB y4)), .t (.im true (qR y5))])]⟩) ?_ ?_
 ·
  skip
  refine Run.seq ?_
  refine Run.region hL hT [] (by cbv) hq0 ?_
  refine Run.block ?_
  refine Run.loop6 (fun (z47 : Int) (z48 : Int) (z49 : ByteArray) (z50 : List Json) (z51 : List ByteArray) (z52 : Int) => ⟨46, 100000, [(2, .t (.s (.int .i64 a2))), (3, .pt 1 0 0), (4, .pt 2 0 0), (6, .pt 3 0 0), (7, .pt 4 0 0), (8, .t (.s (.int .i64 z52)))], [(1, .box 32 [.t (.s (.int .i64 qg)), .t (.im false (qK qa)), .t (.s (.int .i64 qh)), .t (.s (.bool qCB)), .t (.s (.int .i64 qi)), .t (.im false (qB qp)), .t (.s (.bool qDB)), .t (.s (.int .i64 qM)), .t (.s (.int .i64 qY))]), (2, .box 56 [.t (.s (.int .i64 qGC)), .t (.im false (qB qm))]), (3, .box 46 [.t (.s (.int .i64 0)), .t (.s (.int .i64 0)), .t (.s (.string ByteArray.empty)), .t (.s (.slice none 0 0)), .t (.s (.slice none 0 0))]), (4, .box 46 [.t (.s (.int .i64 z47)), .t (.s (.int .i64 z48)), .t (.s (.string z49)), .t (.im true (qWB z50)), .t (.im true (qR z51))])]⟩) (x0 := 5) (x1 := 0) (x2 := ByteArray.empty) (x3 := []) (x4 := []) (x5 := 0) h ((Weak.cellB (l := [.t (.s (.int .i64 5)), .t (.s (.int .i64 0)), .t (.s (.string ByteArray.empty))]) (y := .im true (qWB [])) 4097 (by cbv) LLe.nilI).trans ((Weak.cellB (l := [.t (.s (.int .i64 5)), .t (.s (.int .i64 0)), .t (.s (.string ByteArray.empty)), .t (.im true (qWB []))]) (y := .im true (qR [])) 4097 (by cbv) LLe.nilI).trans (Weak.of _ [(1, 0), (2, 1), (3, 2), (4, 4097)] hA (by cbv) ?_))) (fun _ _ _ _ _ _ => rfl) ?_
  · repeat (first | exact hq0 | refine hq (by first | exact Tt | rfl) ?_)
  intro k z47 z48 z49 z50 z51 z52 h
  rw [qGD.l0] at h
  refine Run.seq ?_
  refine Run.seq ?_
  refine Run.region hL hT [] (by cbv) ?_ ?_
  · exact (hq Tt (hq Tt hq0))
  rw [show ln (qB qp) = qZ qp from ln_eq Int_c _]
  refine Run.cond (by cbv) (hq0) (fun c53 => ?_) (fun c53 => ?_)
  ·
   have h := if_t c53 h
   refine Run.skip ?_
   refine Run.seq ?_
   refine Run.block ?_
   obtain ⟨x54, h_x54, h⟩ := bnd h
   obtain ⟨r55, h_r55, h⟩ := bnd h
   obtain ⟨u56, h_u56, h⟩ := bnd h
   obtain ⟨r57, h_r57, h⟩ := bnd h
   obtain ⟨⟨qjX, qLc, qMc, qxU, qyU⟩, h_r58, h⟩ := bnd h
   obtain ⟨⟨quR, qdZ, qeZ, qsO, qtO⟩, h_r59, h⟩ := bnd h
   refine Run.draw hL hT hM [(4, .el [.s (.int .i64 x54)]), (6, .call [false] [.v (.jk)] [.v (.s (.string r55))]), (12, .el [.s (.int .i64 x54)]), (14, .call [false, false] [.ag [.jk, .jk], .v (.jk)] [.v (.s (.int .i64 r57))]), (15, .call [false] [.v (.jk)] [.ag [.s (.int .i64 qjX), .s (.int .i64 qLc), .s (.string qMc), .im true (qWB qxU), .im true (qR qyU)]]), (16, .call [true, false, true] [.ag [.jk, .jk, .jk, .jk, .jk], .v (.jk), .ag [.jk, .jk, .jk, .jk, .jk]] [.ag [.s (.int .i64 quR), .s (.int .i64 qdZ), .s (.string qeZ), .im true (qWB qsO), .im true (qR qtO)]])] (by cbv) (by cbv) (by cbv) (by cbv) (by cbv) ?_ ?_
   · exact (hq Tt (hq Tt (hq (qP h_x54) (hq (qe (f := Int_c) h_x54) (hq (qw (f := Int_c) h_x54) (hq (hC (qOL h_r55)) (hq (sm_t h_u56) (hq Tt (hq Tt (hq (qP h_x54) (hq (qe (f := Int_c) h_x54) (hq (qw (f := Int_c) h_x54) (hq (hC (qzG h_r57)) (hq (hC (qWF h_r58)) (hq (hC (qmH h_r59)) (hq Tt hq0))))))))))))))))
   refine Run.region hL hT [] (by cbv) ?_ ?_
   · exact (hq Tt hq0)
   refine ⟨quR, qdZ, qeZ, qsO, qtO, (ar .add .i64 z52 1), h, Weak.of _ [(1, 1), (2, 2), (3, 3), (4, 4)] hA (by cbv) ?_⟩
   repeat (first | exact hq0 | refine hq (by first | exact Tt | rfl) ?_)
  have h := if_f c53 h
  refine Run.exit ?_
  refine ⟨z47, z48, z49, z50, z51, h, Weak.of _ [(1, 1), (2, 2), (3, 3), (4, 4)] hA (by cbv) ?_⟩
  repeat (first | exact hq0 | refine hq (by first | exact Tt | rfl) ?_)
 intro y1 y2 y3 y4 y5 h
 rw [h_K6] at h
 refine Run.seq ?_
 obtain ⟨⟨qkX, qNc, qOc, qzU, qAV⟩, h_r60, h⟩ := bnd h
 obtain ⟨⟨qlX, qPc, qQc, qBV, qCV⟩, h_r61, h⟩ := bnd h
 refine Run.draw hL hT hM [(3, .call [false] [.v (.jk)] [.ag [.s (.int .i64 qkX), .s (.int .i64 qNc), .s (.string qOc), .im true (qWB qzU), .im true (qR qAV)]]), (4, .call [true, false, true] [.ag [.jk, .jk, .jk, .jk, .jk], .v (.jk), .ag [.jk, .jk, .jk, .jk, .jk]] [.ag [.s (.int .i64 qlX), .s (.int .i64 qPc), .s (.string qQc), .im true (qWB qBV), .im true (qR qCV)]])] (by cbv) (by cbv) (by cbv) (by cbv) (by cbv) ?_ ?_
 · exact (hq Tt (hq Tt (hq (hC (qWF h_r60)) (hq (hC (qmH h_r61)) (hq Tt hq0)))))
 refine Run.seq ?_
 refine Run.seq ?_
 refine Run.region hL hT [] (by cbv) ?_ ?_
 · exact (hq Tt hq0)
 refine Run.cond (by cbv) (hq0) (fun c62 => ?_) (fun c62 => ?_)
 ·
  have h := if_t c62 h
  obtain ⟨⟨qmX, qRc, qSc, qDV, qEV⟩, h_r63, h⟩ := bnd h
  obtain ⟨⟨qnX, qTc, qUc, qFV, qGV⟩, h_r64, h⟩ := bnd h
  refine Run.draw hL hT hM [(2, .call [false] [.v (.jk)] [.ag [.s (.int .i64 qmX), .s (.int .i64 qRc), .s (.string qSc), .im true (qWB qDV), .im true (qR qEV)]]), (3, .call [true, false, true] [.ag [.jk, .jk, .jk, .jk, .jk], .v (.jk), .ag [.jk, .jk, .jk, .jk, .jk]] [.ag [.s (.int .i64 qnX), .s (.int .i64 qTc), .s (.string qUc), .im true (qWB qFV), .im true (qR qGV)]])] (by cbv) (by cbv) (by cbv) (by cbv) (by cbv) ?_ ?_
  · exact (hq Tt (hq (hC (qWF h_r63)) (hq (hC (qmH h_r64)) (hq Tt hq0))))
  refine Run.seq ?_
  refine Run.region hL hT [] (by cbv) ?_ ?_
  · exact (hq Tt (hq Tt hq0))
  refine Run.ret ?_
  cases h
  refine ⟨_, _, by cbv, ?_, ?_⟩
  · exact LLe.r
  exact (ALe.ag rfl LLe.r ALe.nil)
 have h := if_f c62 h
 refine Run.skip ?_
 refine Run.seq ?_
 refine Run.region hL hT [] (by cbv) ?_ ?_
 · exact (hq Tt (hq Tt hq0))
 refine Run.ret ?_
 cases h
 refine ⟨_, _, by cbv, ?_, ?_⟩
 · exact LLe.r
 exact (ALe.ag rfl LLe.r ALe.nil)
theorem qpI {a0 : ByteArray} {r : Bool} (h : qtC.f a0 = some r) : AC Tryz.prog 175 [.v (.s (.string a0))] [.v (.jk)] [.v (.s (.bool r))] := by
 unfold qtC.f at h
 show AC Tryz.prog 175 [.v (.s (.string a0))] _ _
 refine run3 Tryz.func175 (by rfl) (by rfl) (by cbv) ⟨by decide, rfl⟩ ?_
 intro ar cm bo sc sa sx ss sl bs sb ln sr ap up rp fr ge le lt nz mm ma sm fl al ci hL F hP hA hT hM hC
 refine Run.seq ?_
 refine Run.region hL hT [] (by cbv) hq0 ?_
 refine Run.seq ?_
 refine Run.seq ?_
 refine Run.region hL hT [] (by cbv) hq0 ?_
 refine Run.block ?_
 refine Run.loop1 (fun (z3 : Int) => ⟨23, 100000, [(0, .t (.s (.string a0))), (3, .t (.s (.int .i64 z3)))], []⟩) (x0 := 0) h (Weak.of _ [] hA (by cbv) ?_) (fun _ => rfl) ?_
 · repeat (first | exact hq0 | refine hq (by first | exact Tt | rfl) ?_)
 intro k z3 h
 rw [qtC.l0] at h
 refine Run.seq ?_
 refine Run.seq ?_
 refine Run.region hL hT [] (by cbv) ?_ ?_
 · exact (hq Tt hq0)
 refine Run.cond (by cbv) (hq0) (fun c4 => ?_) (fun c4 => ?_)
 ·
  have h := if_t c4 h
  refine Run.skip ?_
  refine Run.seq ?_
  refine Run.block ?_
  refine Run.seq ?_
  obtain ⟨u5, h_u5, h⟩ := bnd h
  obtain ⟨u6, h_u6, h⟩ := bnd h
  refine Run.region hL hT [] (by cbv) ?_ ?_
  · exact (hq (inS_0 h_u5) (hq (inS_1 h_u5) (hq Tt (hq (fun _ => hq0) (hq (fun _ => hq0) (hq (fun g9 => (hq g9 (hq g9 (hq (inS_0 (gd_t h_u6 g9)) (hq (inS_1 (gd_t h_u6 g9)) hq0))))) (hq (fun g10 => (hq g10 (hq Tt hq0))) (hq (fun _ => hq0) (hq (fun q12 => (hq (bo_m q12) hq0)) hq0)))))))))
  refine Run.cond (by cbv) (hq0) (fun c13 => ?_) (fun c13 => ?_)
  ·
   have h := if_t c13 h
   refine Run.seq ?_
   refine Run.region hL hT [] (by cbv) hq0 ?_
   refine Run.ret ?_
   cases h
   refine ⟨_, _, by cbv, ?_, ?_⟩
   · exact LLe.r
   exact (ALe.v LLe.r ALe.nil)
  have h := if_f c13 h
  refine Run.skip ?_
  refine Run.region hL hT [] (by cbv) ?_ ?_
  · exact (hq Tt hq0)
  refine ⟨(ar .add .i64 z3 1), h, Weak.of _ [] hA (by cbv) ?_⟩
  repeat (first | exact hq0 | refine hq (by first | exact Tt | rfl) ?_)
 have h := if_f c4 h
 refine Run.exit ?_
 refine Run.seq ?_
 refine Run.region hL hT [] (by cbv) ?_ ?_
 · exact (hq Tt hq0)
 refine Run.ret ?_
 cases h
 refine ⟨_, _, by cbv, ?_, ?_⟩
 · exact LLe.r
 exact (ALe.v LLe.r ALe.nil)
theorem qBN {qO : Int} {a0v_N : Int} {a0v_S : ByteArray} {qD : List Json} {qF : List ByteArray} {r : Bool} (h : qfC.f (Json.mk qO a0v_N a0v_S qD qF) = some r) : AC Tryz.prog 176 [.ag [.s (.int .i64 qO), .s (.int .i64 a0v_N), .s (.string a0v_S), .im false (rowsOf ql qD), .im false (rowsOf Str_c qF)]] [.ag [.jk, .jk, .jk, .jk, .jk]] [.v (.s (.bool r))] := by
 unfold qfC.f at h
 let qj := rowsOf ql
 let qR := rowsOf Str_c
 let qV := @lenI Json
 let qvB := @lenI ByteArray
 show AC Tryz.prog 176 [.ag [.s (.int .i64 qO), .s (.int .i64 a0v_N), .s (.string a0v_S), .im false (qj qD), .im false (qR qF)]] _ _
 refine run3 Tryz.func176 (by rfl) (by rfl) (by cbv) ⟨by decide, rfl⟩ ?_
 intro ar cm bo sc sa sx ss sl bs sb ln sr ap up rp fr ge le lt nz mm ma sm fl al ci hL F hP hA hT hM hC
 refine Run.seq ?_
 refine Run.region hL hT [] (by cbv) hq0 ?_
 refine Run.seq ?_
 refine Run.seq ?_
 refine Run.region hL hT [] (by cbv) ?_ ?_
 · exact (hq Tt (hq Tt hq0))
 refine Run.cond (by cbv) (hq0) (fun c1 => ?_) (fun c1 => ?_)
 ·
  have h := if_t c1 h
  refine Run.seq ?_
  refine Run.region hL hT [] (by cbv) ?_ ?_
  · exact (hq Tt (hq Tt hq0))
  rw [show ln (qR qF) = qvB qF from ln_eq Str_c _]
  refine Run.ret ?_
  cases h
  refine ⟨_, _, by cbv, ?_, ?_⟩
  · exact LLe.r
  exact (ALe.v LLe.r ALe.nil)
 have h := if_f c1 h
 refine Run.skip ?_
 refine Run.seq ?_
 refine Run.seq ?_
 refine Run.region hL hT [] (by cbv) hq0 ?_
 refine Run.block ?_
 refine Run.loop1 (fun (z8 : Int) => ⟨50, 100000, [(1, .pt 1 0 0), (3, .t (.s (.int .i64 z8)))], [(1, .box 46 [.t (.s (.int .i64 qO)), .t (.s (.int .i64 a0v_N)), .t (.s (.string a0v_S)), .t (.im false (qj qD)), .t (.im false (qR qF))])]⟩) (x0 := 0) h (Weak.of _ [(1, 0)] hA (by cbv) ?_) (fun _ => rfl) ?_
 · repeat (first | exact hq0 | refine hq (by first | exact Tt | rfl) ?_)
 intro k z8 h
 rw [qfC.l0] at h
 refine Run.seq ?_
 refine Run.seq ?_
 refine Run.region hL hT [] (by cbv) ?_ ?_
 · exact (hq Tt (hq Tt hq0))
 rw [show ln (qR qF) = qvB qF from ln_eq Str_c _]
 refine Run.cond (by cbv) (hq0) (fun c9 => ?_) (fun c9 => ?_)
 ·
  have h := if_t c9 h
  refine Run.skip ?_
  refine Run.seq ?_
  refine Run.block ?_
  refine Run.seq ?_
  obtain ⟨x10, h_x10, h⟩ := bnd h
  obtain ⟨r11, h_r11, h⟩ := bnd h
  obtain ⟨x12, h_x12, h⟩ := bnd h
  refine Run.draw hL hT hM [(3, .el [.s (.string x10)]), (5, .call [false] [.v (.jk)] [.v (.s (.bool r11))]), (15, .el [.s (.string x12)]), (20, .el [.s (.string x10)])] (by cbv) (by cbv) (by cbv) (by cbv) (by cbv) ?_ ?_
  · exact (hq Tt (hq (qP h_x10) (hq (qe (f := Str_c) h_x10) (hq (qw (f := Str_c) h_x10) (hq (hC (qpI h_r11)) (hq (fun _ => hq0) (hq (fun g14 => (hq g14 (hq Tt hq0))) (hq (fun g15 => (hq g15 hq0)) (hq (fun _ => hq0) (hq (fun g17 => (hq g17 (hq Tt hq0))) (hq (fun _ => hq0) (hq (fun g19 => (hq g19 (hq Tt hq0))) (hq (fun g20 => (hq g20 (hq g20 (hq (qP (gd_t h_x12 g20)) (hq (qe (f := Str_c) (gd_t h_x12 g20)) (hq (qw (f := Str_c) (gd_t h_x12 g20)) hq0)))))) (hq (fun g21 => (hq g21 hq0)) (hq (fun _ => hq0) (hq (fun g23 => (hq g23 (hq Tt hq0))) (hq (fun _ => hq0) (hq (fun g25 => (hq g25 (hq g25 (hq (qP h_x10) (hq (qe (f := Str_c) h_x10) (hq (qw (f := Str_c) h_x10) hq0)))))) (hq (fun g26 => (hq g26 hq0)) (hq (fun g27 => (hq g27 (hq g27 hq0))) (hq (fun g28 => (hq g28 (hq (fun q29 => (hq (bo_a g28 q29) hq0)) (hq (fun _ => hq0) hq0)))) (hq (fun _ => hq0) (hq (fun q32 => (hq (bo_m q32) hq0)) hq0)))))))))))))))))))))))
  refine Run.cond (by cbv) (hq0) (fun c33 => ?_) (fun c33 => ?_)
  ·
   have h := if_t c33 h
   refine Run.seq ?_
   refine Run.region hL hT [] (by cbv) hq0 ?_
   refine Run.ret ?_
   cases h
   refine ⟨_, _, by cbv, ?_, ?_⟩
   · exact LLe.r
   exact (ALe.v LLe.r ALe.nil)
  have h := if_f c33 h
  refine Run.skip ?_
  refine Run.region hL hT [] (by cbv) ?_ ?_
  · exact (hq Tt hq0)
  refine ⟨(ar .add .i64 z8 1), h, Weak.of _ [(1, 1)] hA (by cbv) ?_⟩
  repeat (first | exact hq0 | refine hq (by first | exact Tt | rfl) ?_)
 have h := if_f c9 h
 refine Run.exit ?_
 refine Run.seq ?_
 refine Run.region hL hT [] (by cbv) ?_ ?_
 · exact (hq Tt (hq Tt (hq Tt hq0)))
 rw [show ln (qj qD) = qV qD from ln_eq ql _]
 rw [show ln (qR qF) = qvB qF from ln_eq Str_c _]
 refine Run.ret ?_
 cases h
 refine ⟨_, _, by cbv, ?_, ?_⟩
 · exact LLe.r
 exact (ALe.v LLe.r ALe.nil)
end Go.Proofs.YtbhleignjmcdiaaGreatDoor.L