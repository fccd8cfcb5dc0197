/- The contracts of the program's functions. -/
import Derived.Test.YtcpekllcbimpmaaGreatDoorProg
import Derived.Test.YtcpekllcbimpmaaGreatDoorFnTextC0
import Derived.KernelRfl
namespace Go.Proofs.YtcpekllcbimpmaaGreatDoor.L
open Go Go.Proofs
set_option linter.unusedVariables false
set_option linter.unusedSimpArgs false
set_option maxRecDepth 8000
theorem qhH {qE : Int} {a0v_N : Int} {a0v_S : ByteArray} {qB : List Json} {qC : List ByteArray} {a1 : ByteArray} {qsB : Int} {a2v_N : Int} {a2v_S : ByteArray} {qaB : List Json} {qbB : List ByteArray} {r : Json} (h : qKB.f (Json.mk qE a0v_N a0v_S qB qC) a1 (Json.mk qsB a2v_N a2v_S qaB qbB) = some r) : AC Tryz.prog 48 [.ag [.s (.int .i64 qE), .s (.int .i64 a0v_N), .s (.string a0v_S), .im true (rowsOf qr qB), .im true (rowsOf Str_c qC)], .v (.s (.string a1)), .ag [.s (.int .i64 qsB), .s (.int .i64 a2v_N), .s (.string a2v_S), .im true (rowsOf qr qaB), .im true (rowsOf Str_c qbB)]] [.ag [.jk, .jk, .jk, .jk, .jk], .v (.jk), .ag [.jk, .jk, .jk, .jk, .jk]] [.ag [.s (.int .i64 r.Kind), .s (.int .i64 r.N), .s (.string r.S), .ow 27 (rowsOf qr r.List_), .ow 9 (rowsOf Str_c r.Names)]] := by
 unfold qKB.f at h
 let qJ := rowsOf qr
 let qh := rowsOf qx
 let qD := rowsOf Str_c
 let qDB := @lenI ByteArray
 show AC Tryz.prog 48 [.ag [.s (.int .i64 qE), .s (.int .i64 a0v_N), .s (.string a0v_S), .im true (qJ qB), .im true (qD qC)], .v (.s (.string a1)), .ag [.s (.int .i64 qsB), .s (.int .i64 a2v_N), .s (.string a2v_S), .im true (qJ qaB), .im true (qD qbB)]] _ _
 refine run3 Tryz.func48 (by rfl) (by rfl) (by cbv) ⟨by decide, rfl⟩ ?_
 intro ar cm bo sc sa sx ss sl bs sb ln sr ap up rp fr ge le lt nz mm ma sm fl al ci hL F hP hA hT hM hC
 refine Run.seq ?_
 refine Run.region hL hT [] (by cbv) hq0 ?_
 refine Run.seq ?_
 refine Run.region hL hT [] (by cbv) ?_ ?_
 · exact (hq Tt hq0)
 refine Run.seq ?_
 refine Run.region hL hT [] (by cbv) hq0 ?_
 obtain ⟨K4, h_K4, h⟩ := joinE h
 refine Run.join3 K4 (r := r) (fun (y1 : List Json) (y2 : List ByteArray) (y3 : Bool) => ⟨83, 100000, [(1, .t (.s (.string a1))), (5, .pt 1 0 0), (6, .pt 2 0 0), (7, .pt 3 0 0), (8, .t (.s (.bool y3)))], [(1, .box 27 [.t (.s (.int .i64 qsB)), .t (.s (.int .i64 a2v_N)), .t (.s (.string a2v_S)), .t (.im true (qJ qaB)), .t (.im true (qD qbB))]), (2, .box 27 [.t (.s (.int .i64 0)), .t (.s (.int .i64 0)), .t (.s (.string ByteArray.empty)), .t (.s (.slice none 0 0)), .t (.s (.slice none 0 0))]), (3, .box 27 [.t (.s (.int .i64 5)), .t (.s (.int .i64 0)), .t (.s (.string ByteArray.empty)), .rf 4, .rf 5]), (4, .row 0 27 5 (qJ y1)), (5, .row 0 9 1 (qD y2))]⟩) ?_ ?_
 ·
  skip
  refine Run.seq ?_
  refine Run.region hL hT [] (by cbv) hq0 ?_
  refine Run.block ?_
  refine Run.loop4 (fun (z45 : List Json) (z46 : List ByteArray) (z47 : Bool) (z48 : Int) => ⟨83, 100000, [(1, .t (.s (.string a1))), (3, .pt 1 0 0), (5, .pt 2 0 0), (6, .pt 3 0 0), (7, .pt 4 0 0), (8, .t (.s (.bool z47))), (9, .t (.s (.int .i64 z48)))], [(1, .box 27 [.t (.s (.int .i64 qE)), .t (.s (.int .i64 a0v_N)), .t (.s (.string a0v_S)), .t (.im true (qJ qB)), .t (.im true (qD qC))]), (2, .box 27 [.t (.s (.int .i64 qsB)), .t (.s (.int .i64 a2v_N)), .t (.s (.string a2v_S)), .t (.im true (qJ qaB)), .t (.im true (qD qbB))]), (3, .box 27 [.t (.s (.int .i64 0)), .t (.s (.int .i64 0)), .t (.s (.string ByteArray.empty)), .t (.s (.slice none 0 0)), .t (.s (.slice none 0 0))]), (4, .box 27 [.t (.s (.int .i64 5)), .t (.s (.int .i64 0)), .t (.s (.string ByteArray.empty)), .rf 5, .rf 6]), (5, .row 0 27 5 (qJ z45)), (6, .row 0 9 1 (qD z46))]⟩) (x0 := []) (x1 := []) (x2 := false) (x3 := 0) h ((Weak.nilB (l := [.t (.s (.int .i64 5)), .t (.s (.int .i64 0)), .t (.s (.string ByteArray.empty))]) hT 4097 3 17384 27 rfl (by cbv) (by cbv) (by cbv)).trans ((Weak.nilB (l := [.t (.s (.int .i64 5)), .t (.s (.int .i64 0)), .t (.s (.string ByteArray.empty)), .rf 17384]) hT 4097 4 17385 9 rfl (by cbv) (by cbv) (by cbv)).trans (Weak.of _ [(1, 0), (2, 1), (3, 2), (4, 4097), (5, 17384), (6, 17385)] hA (by cbv) ?_))) (fun _ _ _ _ => rfl) ?_
  · repeat (first | exact hq0 | refine hq (by first | exact Tt | rfl) ?_)
  intro k z45 z46 z47 z48 h
  rw [qKB.l0] at h
  refine Run.seq ?_
  refine Run.seq ?_
  refine Run.region hL hT [] (by cbv) ?_ ?_
  · exact (hq Tt (hq Tt hq0))
  rw [show ln (qD qC) = qDB qC from ln_eq Str_c _]
  refine Run.cond (by cbv) (hq0) (fun c49 => ?_) (fun c49 => ?_)
  ·
   have h := if_t c49 h
   refine Run.skip ?_
   refine Run.seq ?_
   refine Run.block ?_
   obtain ⟨K53, h_K53, h⟩ := joinE h
   refine Run.join3 K53 (r := r) (fun (y50 : List Json) (y51 : List ByteArray) (y52 : Bool) => ⟨83, 100000, [(1, .t (.s (.string a1))), (3, .pt 1 0 0), (5, .pt 2 0 0), (6, .pt 3 0 0), (7, .pt 4 0 0), (8, .t (.s (.bool y52))), (9, .t (.s (.int .i64 z48)))], [(1, .box 27 [.t (.s (.int .i64 qE)), .t (.s (.int .i64 a0v_N)), .t (.s (.string a0v_S)), .t (.im true (qJ qB)), .t (.im true (qD qC))]), (2, .box 27 [.t (.s (.int .i64 qsB)), .t (.s (.int .i64 a2v_N)), .t (.s (.string a2v_S)), .t (.im true (qJ qaB)), .t (.im true (qD qbB))]), (3, .box 27 [.t (.s (.int .i64 0)), .t (.s (.int .i64 0)), .t (.s (.string ByteArray.empty)), .t (.s (.slice none 0 0)), .t (.s (.slice none 0 0))]), (4, .box 27 [.t (.s (.int .i64 5)), .t (.s (.int .i64 0)), .t (.s (.string ByteArray.empty)), .rf 5, .rf 6]), (5, .row 0 27 5 (qJ y50)), (6, .row 0 9 1 (qD y51))]⟩) ?_ ?_
   ·
    skip
    refine Run.seq ?_
    obtain ⟨x54, h_x54, h⟩ := bnd h
    refine Run.region hL hT [(6, .el [.s (.string x54)])] (by cbv) ?_ ?_
    · exact (hq (fun _ => hq0) (hq (fun g56 => (hq g56 (hq Tt hq0))) (hq (fun _ => hq0) (hq (fun g58 => (hq g58 (hq g58 (hq (qoB (gd_t h_x54 g58)) (hq (qqB (f := Str_c) (gd_t h_x54 g58)) (hq (qdC (f := Str_c) (gd_t h_x54 g58)) hq0)))))) (hq (fun g59 => (hq g59 hq0)) (hq (fun _ => hq0) (hq (fun g61 => (hq g61 (hq g61 hq0))) (hq (fun q62 => (hq q62 hq0)) (hq (fun _ => hq0) hq0)))))))))
    refine Run.cond (by cbv) (hq0) (fun c64 => ?_) (fun c64 => ?_)
    ·
     have h := if_t c64 h
     refine Run.seq ?_
     obtain ⟨l65, h_l65, h⟩ := bnd h
     obtain ⟨l66, h_l66, h⟩ := bnd h
     refine Run.region hL hT [] (by cbv) ?_ ?_
     · exact (hq Tt (hq (qiB (P := Tryz.prog) (f := Str_c) RLe.r (qU (f := Str_c) h_l65 (RLe.cons rfl LLe.r RLe.nil)) h_l66) (hq Tt hq0)))
     refine Run.row (rows := (ap (qD z46) ([[.s (.string a1)]]))) 108196 (qD l66) (by cbv) (qdB (f := Str_c) RLe.r (qU (f := Str_c) h_l65 (RLe.cons rfl LLe.r RLe.nil)) h_l66) ?_
     refine Run.seq ?_
     obtain ⟨l67, h_l67, h⟩ := bnd h
     obtain ⟨l68, h_l68, h⟩ := bnd h
     refine Run.region hL hT [] (by cbv) ?_ ?_
     · exact (hq Tt (hq Tt (hq (qiB (P := Tryz.prog) (f := qr) RLe.r (qOB qLB h_l67 (RLe.cons rfl LLe.r RLe.nil)) h_l68) (hq Tt hq0))))
     refine Run.row (rows := (ap (qJ z45) ([[.s (.int .i64 qsB), .s (.int .i64 a2v_N), .s (.string a2v_S), .im true (qJ qaB), .im true (qD qbB)]]))) 112292 (qJ l68) (by cbv) (qdB (f := qr) RLe.r (qOB qLB h_l67 (RLe.cons rfl LLe.r RLe.nil)) h_l68) ?_
     refine Run.region hL hT [] (by cbv) hq0 ?_
     refine ⟨l68, l66, true, h, Weak.of _ [(1, 1), (2, 2), (3, 3), (4, 4), (5, 112292), (6, 108196)] hA (by cbv) ?_⟩
     repeat (first | exact hq0 | refine hq (by first | exact Tt | rfl) ?_)
    have h := if_f c64 h
    refine Run.skip ?_
    refine ⟨z45, z46, z47, h, Weak.of _ [(1, 1), (2, 2), (3, 3), (4, 4), (5, 5), (6, 6)] hA (by cbv) ?_⟩
    repeat (first | exact hq0 | refine hq (by first | exact Tt | rfl) ?_)
   intro y50 y51 y52 h
   rw [h_K53] at h
   refine Run.seq ?_
   obtain ⟨x69, h_x69, h⟩ := bnd h
   refine Run.region hL hT [(3, .el [.s (.string x69)])] (by cbv) ?_ ?_
   · exact (hq Tt (hq (qoB h_x69) (hq (qqB (f := Str_c) h_x69) (hq (qdC (f := Str_c) h_x69) hq0))))
   refine Run.cond (by cbv) (hq0) (fun c70 => ?_) (fun c70 => ?_)
   ·
    have h := if_t c70 h
    refine Run.seq ?_
    obtain ⟨l71, h_l71, h⟩ := bnd h
    obtain ⟨l72, h_l72, h⟩ := bnd h
    refine Run.draw hL hT hM [(5, .el [.s (.string x69)])] (by cbv) (qA (by cbv) (by cbv) (qA (by cbv) (by cbv) (qA (by cbv) (by cbv) (qA (by cbv) (by cbv) (qA (by cbv) (by cbv) (qA (by cbv) (by cbv) (qA (by cbv) (by cbv) (qA (by cbv) (by cbv) (qA (by cbv) (by cbv) (qA (by cbv) (by cbv) (qA (by cbv) (by cbv) ql))))))))))) (by cbv) (by cbv) (by cbv) ?_ ?_
    · exact (hq Tt (hq Tt (hq (qoB h_x69) (hq (qqB (f := Str_c) h_x69) (hq (qdC (f := Str_c) h_x69) (hq (qiB (P := Tryz.prog) (f := Str_c) RLe.r (qU (f := Str_c) h_l71 (RLe.cons rfl LLe.r RLe.nil)) h_l72) (hq Tt hq0)))))))
    refine Run.row (rows := (ap (qD y51) ([[.s (.string x69)]]))) 104104 (qD l72) (by cbv) (qdB (f := Str_c) RLe.r (qU (f := Str_c) h_l71 (RLe.cons rfl LLe.r RLe.nil)) h_l72) ?_
    obtain ⟨⟨qCF, qQM, qRM, qLE, qME⟩, h_x73, h⟩ := bnd h
    obtain ⟨l74, h_l74, h⟩ := bnd h
    obtain ⟨l75, h_l75, h⟩ := bnd h
    refine Run.draw hL hT hM [(5, .el [.s (.int .i64 qCF), .s (.int .i64 qQM), .s (.string qRM), .im true (qJ qLE), .im true (qD qME)])] (by cbv) (qA (by cbv) (by cbv) (qA (by cbv) (by cbv) (qA (by cbv) (by cbv) (qA (by cbv) (by cbv) (qA (by cbv) (by cbv) (qA (by cbv) (by cbv) (qA (by cbv) (by cbv) (qA (by cbv) (by cbv) (qA (by cbv) (by cbv) (qA (by cbv) (by cbv) (qA (by cbv) (by cbv) ql))))))))))) (by cbv) (by cbv) (by cbv) ?_ ?_
    · exact (hq Tt (hq Tt (hq (qoB h_x73) (hq (qqB (f := qr) h_x73) (hq (qxE qLB h_x73) (hq (qiB (P := Tryz.prog) (f := qr) RLe.r (qOB qLB h_l74 (RLe.cons rfl LLe.r RLe.nil)) h_l75) (hq Tt hq0)))))))
    refine Run.row (rows := (ap (qJ y50) ([[.s (.int .i64 qCF), .s (.int .i64 qQM), .s (.string qRM), .im true (qJ qLE), .im true (qD qME)]]))) 108200 (qJ l75) (by cbv) (qdB (f := qr) RLe.r (qOB qLB h_l74 (RLe.cons rfl LLe.r RLe.nil)) h_l75) ?_
    refine Run.region hL hT [] (by cbv) ?_ ?_
    · exact (hq Tt hq0)
    refine ⟨l75, l72, y52, (ar .add .i64 z48 1), h, Weak.of _ [(1, 1), (2, 2), (3, 3), (4, 4), (5, 108200), (6, 104104)] hA (by cbv) ?_⟩
    repeat (first | exact hq0 | refine hq (by first | exact Tt | rfl) ?_)
   have h := if_f c70 h
   refine Run.skip ?_
   refine Run.region hL hT [] (by cbv) ?_ ?_
   · exact (hq Tt hq0)
   refine ⟨y50, y51, y52, (ar .add .i64 z48 1), h, Weak.of _ [(1, 1), (2, 2), (3, 3), (4, 4), (5, 5), (6, 6)] hA (by cbv) ?_⟩
   repeat (first | exact hq0 | refine hq (by first | exact Tt | rfl) ?_)
  have h := if_f c49 h
  refine Run.exit ?_
  refine ⟨z45, z46, z47, h, Weak.of _ [(1, 2), (2, 3), (3, 4), (4, 5), (5, 6)] hA (by cbv) ?_⟩
  repeat (first | exact hq0 | refine hq (by first | exact Tt | rfl) ?_)
 intro y1 y2 y3 h
 rw [h_K4] at h
 refine Run.seq ?_
 refine Run.seq ?_
 refine Run.region hL hT [] (by cbv) hq0 ?_
 refine Run.cond (by cbv) (hq0) (fun c76 => ?_) (fun c76 => ?_)
 ·
  have h := if_t c76 h
  refine Run.seq ?_
  obtain ⟨l77, h_l77, h⟩ := bnd h
  obtain ⟨l78, h_l78, h⟩ := bnd h
  refine Run.region hL hT [] (by cbv) ?_ ?_
  · exact (hq Tt (hq (qiB (P := Tryz.prog) (f := Str_c) RLe.r (qU (f := Str_c) h_l77 (RLe.cons rfl LLe.r RLe.nil)) h_l78) (hq Tt hq0)))
  refine Run.row (rows := (ap (qD y2) ([[.s (.string a1)]]))) 104100 (qD l78) (by cbv) (qdB (f := Str_c) RLe.r (qU (f := Str_c) h_l77 (RLe.cons rfl LLe.r RLe.nil)) h_l78) ?_
  obtain ⟨l79, h_l79, h⟩ := bnd h
  obtain ⟨l80, h_l80, h⟩ := bnd h
  refine Run.region hL hT [] (by cbv) ?_ ?_
  · exact (hq Tt (hq Tt (hq (qiB (P := Tryz.prog) (f := qr) RLe.r (qOB qLB h_l79 (RLe.cons rfl LLe.r RLe.nil)) h_l80) (hq Tt hq0))))
  refine Run.row (rows := (ap (qJ y1) ([[.s (.int .i64 qsB), .s (.int .i64 a2v_N), .s (.string a2v_S), .im true (qJ qaB), .im true (qD qbB)]]))) 108196 (qJ l80) (by cbv) (qdB (f := qr) RLe.r (qOB qLB h_l79 (RLe.cons rfl LLe.r RLe.nil)) h_l80) ?_
  refine Run.seq ?_
  refine Run.region hL hT [] (by cbv) ?_ ?_
  · exact (hq Tt (hq Tt hq0))
  refine Run.ret ?_
  cases h
  refine ⟨_, _, by cbv, ?_, ?_⟩
  · exact LLe.r
  exact (ALe.ag rfl LLe.r ALe.nil)
 have h := if_f c76 h
 refine Run.skip ?_
 refine Run.seq ?_
 refine Run.region hL hT [] (by cbv) ?_ ?_
 · exact (hq Tt (hq Tt hq0))
 refine Run.ret ?_
 cases h
 refine ⟨_, _, by cbv, ?_, ?_⟩
 · exact LLe.r
 exact (ALe.ag rfl LLe.r ALe.nil)
theorem qlE {a0v_b : List Int} {a0v_i : Int} {a0v_h : Int} {a1 : Int} {r : l1Cur × Json} (h : qO.f (l1Cur.mk a0v_b a0v_i a0v_h) a1 = some r) : AC Tryz.prog 25 [.v (.bx 53 [.im true (rowsOf u8_c a0v_b), .s (.int .i64 a0v_i), .s (.int .i64 a0v_h)]), .v (.s (.int .i64 a1))] [.v (.bx 53 [.im true (rowsOf u8_c a0v_b), .s (.int .i64 r.1.i), .s (.int .i64 r.1.h)]), .v (.jk)] [.ag [.s (.int .i64 r.2.Kind), .s (.int .i64 r.2.N), .s (.string r.2.S), .ow 27 (rowsOf qr r.2.List_), .ow 9 (rowsOf Str_c r.2.Names)]] := by
 unfold qO.f at h
 let qhG := rowsOf Int_c
 let qM := rowsOf qN
 let qJ := rowsOf qr
 let qh := rowsOf qx
 let qD := rowsOf Str_c
 let eu8_c := rowsOf u8_c
 show AC Tryz.prog 25 [.v (.bx 53 [.im true (eu8_c a0v_b), .s (.int .i64 a0v_i), .s (.int .i64 a0v_h)]), .v (.s (.int .i64 a1))] _ _
 refine run3 Tryz.func25 (by rfl) (by rfl) (by cbv) ⟨by decide, rfl⟩ ?_
 intro ar cm bo sc sa sx ss sl bs sb ln sr ap up rp fr ge le lt nz mm ma sm fl al ci hL F hP hA hT hM hC
 refine Run.seq ?_
 refine Run.region hL hT [] (by cbv) hq0 ?_
 refine Run.seq ?_
 obtain ⟨⟨⟨qgG, qbC, qcC⟩, r1v_2⟩, h_r1, h⟩ := bnd h
 refine Run.region hL hT [(1, .call [true, false] [.v (.bx 53 [.im true (eu8_c a0v_b), .s (.int .i64 qbC), .s (.int .i64 qcC)]), .v (.jk)] [.v (.s (.int .i64 r1v_2))])] (by cbv) ?_ ?_
 · exact (hq (hC (qa h_r1)) hq0)
 obtain ⟨K5, h_K5, h⟩ := joinE h
 refine Run.join3 K5 (r := r) (fun (y2 : Int) (y3 : Int) (y4 : Int) => ⟨80, 100000, [(0, .pt 0 0 0), (1, .t (.s (.int .i64 a1))), (4, .pt 1 0 0), (5, .t (.s (.int .i64 y4)))], [(0, .box 53 [.t (.im true (eu8_c a0v_b)), .t (.s (.int .i64 y2)), .t (.s (.int .i64 y3))]), (1, .box 27 [.t (.s (.int .i64 0)), .t (.s (.int .i64 0)), .t (.s (.string ByteArray.empty)), .t (.s (.slice none 0 0)), .t (.s (.slice none 0 0))])]⟩) ?_ ?_
 ·
  skip
  refine Run.seq ?_
  refine Run.region hL hT [] (by cbv) ?_ ?_
  · exact (hq Tt hq0)
  refine Run.cond (by cbv) (hq0) (fun c6 => ?_) (fun c6 => ?_)
  ·
   have h := if_t c6 h
   obtain ⟨⟨⟨qsK, qbD, qcD⟩, r7v_2⟩, h_r7, h⟩ := bnd h
   refine Run.region hL hT [(1, .call [true, false] [.v (.bx 53 [.im true (eu8_c a0v_b), .s (.int .i64 qbD), .s (.int .i64 qcD)]), .v (.jk)] [.v (.s (.int .i64 r7v_2))])] (by cbv) ?_ ?_
   · exact (hq (hC (qa h_r7)) hq0)
   refine ⟨qbD, qcD, r7v_2, h, Weak.of _ [(0, 0), (1, 1)] hA (by cbv) ?_⟩
   repeat (first | exact hq0 | refine hq (by first | exact Tt | rfl) ?_)
  have h := if_f c6 h
  refine Run.skip ?_
  refine ⟨qbC, qcC, r1v_2, h, Weak.of _ [(0, 0), (1, 1)] hA (by cbv) ?_⟩
  repeat (first | exact hq0 | refine hq (by first | exact Tt | rfl) ?_)
 intro y2 y3 y4 h
 rw [h_K5] at h
 obtain ⟨K9, h_K9, h⟩ := joinE h
 refine Run.join1 K9 (r := r) (fun (y8 : Unit) => ⟨80, 100000, [(0, .pt 0 0 0), (1, .t (.s (.int .i64 a1))), (4, .pt 1 0 0)], [(0, .box 53 [.t (.im true (eu8_c a0v_b)), .t (.s (.int .i64 y2)), .t (.s (.int .i64 y3))]), (1, .box 27 [.t (.s (.int .i64 0)), .t (.s (.int .i64 0)), .t (.s (.string ByteArray.empty)), .t (.s (.slice none 0 0)), .t (.s (.slice none 0 0))])]⟩) ?_ ?_
 ·
  skip
  refine Run.seq ?_
  refine Run.region hL hT [] (by cbv) hq0 ?_
  refine Run.block ?_
  refine Run.seq ?_
  refine Run.region hL hT [] (by cbv) ?_ ?_
  · exact (hq Tt hq0)
  refine Run.cond (by cbv) (hq0) (fun c10 => ?_) (fun c10 => ?_)
  ·
   have h := if_t c10 h
   refine Run.seq ?_
   refine Run.region hL hT [] (by cbv) ?_ ?_
   · exact (hq Tt hq0)
   refine Run.ret ?_
   cases h
   refine ⟨_, _, by cbv, ?_, ?_⟩
   · exact LLe.r
   exact (ALe.ag rfl (LLe.c (LLe.c (LLe.c (LLe.cons LLe.nilO (LLe.cons LLe.nilO LLe.nil))))) ALe.nil)
  have h := if_f c10 h
  refine Run.seq ?_
  refine Run.region hL hT [] (by cbv) ?_ ?_
  · exact (hq Tt hq0)
  refine Run.cond (by cbv) (hq0) (fun c11 => ?_) (fun c11 => ?_)
  ·
   have h := if_t c11 h
   refine Run.seq ?_
   obtain ⟨⟨⟨qqQ, qfI, qgI⟩, qhI⟩, h_r12, h⟩ := bnd h
   refine Run.region hL hT [(1, .call [true, false] [.v (.bx 53 [.im true (eu8_c a0v_b), .s (.int .i64 qfI), .s (.int .i64 qgI)]), .v (.jk)] [.v (.s (.int .i64 qhI))])] (by cbv) ?_ ?_
   · exact (hq (hC (qa h_r12)) (hq Tt hq0))
   refine Run.ret ?_
   cases h
   refine ⟨_, _, by cbv, ?_, ?_⟩
   · exact LLe.r
   exact (ALe.ag rfl (LLe.c (LLe.c (LLe.c (LLe.cons LLe.nilO (LLe.cons LLe.nilO LLe.nil))))) ALe.nil)
  have h := if_f c11 h
  refine Run.seq ?_
  refine Run.region hL hT [] (by cbv) ?_ ?_
  · exact (hq Tt hq0)
  refine Run.cond (by cbv) (hq0) (fun c13 => ?_) (fun c13 => ?_)
  ·
   have h := if_t c13 h
   refine Run.seq ?_
   obtain ⟨l14, h_l14, h⟩ := bnd h
   obtain ⟨⟨⟨qrQ, qiI, qjI⟩, qsQ⟩, h_r15, h⟩ := bnd h
   refine Run.region hL hT [(2, .call [true, false] [.v (.bx 53 [.im true (eu8_c a0v_b), .s (.int .i64 qiI), .s (.int .i64 qjI)]), .v (.jk)] [.v (.s (.string qsQ))])] (by cbv) ?_ ?_
   · exact (hq (hC (AC.args (qLC h_r15) (ALe.v LLe.r (ALe.v (qXG rfl (qU (f := Str_c) h_l14 (RLe.cons rfl LLe.r (RLe.cons rfl LLe.r (RLe.cons rfl LLe.r (RLe.cons rfl LLe.r (RLe.cons rfl LLe.r (RLe.cons rfl LLe.r RLe.nil)))))))) ALe.nil)))) (hq Tt hq0))
   refine Run.row (rows := [[.s (.string (ByteArray.mk #[]))], [.s (.string (ByteArray.mk #[120]))], [.s (.string (ByteArray.mk #[97, 34, 98]))], [.s (.string (ByteArray.mk #[97, 92, 92, 98]))], [.s (.string (ByteArray.mk #[104, 101, 108, 108, 111, 32, 116, 104, 101, 114, 101]))], [.s (.string (ByteArray.mk #[126, 49]))]]) 116385 (qD l14) (by cbv) (qU (f := Str_c) h_l14 (RLe.cons rfl LLe.r (RLe.cons rfl LLe.r (RLe.cons rfl LLe.r (RLe.cons rfl LLe.r (RLe.cons rfl LLe.r (RLe.cons rfl LLe.r RLe.nil))))))) ?_
   refine Run.ret ?_
   cases h
   refine ⟨_, _, by cbv, ?_, ?_⟩
   · exact LLe.r
   exact (ALe.ag rfl (LLe.c (LLe.c (LLe.c (LLe.cons LLe.nilO (LLe.cons LLe.nilO LLe.nil))))) ALe.nil)
  have h := if_f c13 h
  obtain ⟨K17, h_K17, h⟩ := joinE h
  refine Run.join1 K17 (r := r) (fun (y16 : Bool) => ⟨80, 100000, [(0, .pt 0 0 0), (1, .t (.s (.int .i64 a1))), (4, .pt 1 0 0), (17, .t (.s (.int .i64 y4))), (32, .t (.s (.bool y16)))], [(0, .box 53 [.t (.im true (eu8_c a0v_b)), .t (.s (.int .i64 y2)), .t (.s (.int .i64 y3))]), (1, .box 27 [.t (.s (.int .i64 0)), .t (.s (.int .i64 0)), .t (.s (.string ByteArray.empty)), .t (.s (.slice none 0 0)), .t (.s (.slice none 0 0))])]⟩) ?_ ?_
  ·
   skip
   refine Run.seq ?_
   refine Run.region hL hT [] (by cbv) ?_ ?_
   · exact (hq Tt hq0)
   refine Run.cond (by cbv) (hq0) (fun c18 => ?_) (fun c18 => ?_)
   ·
    have h := if_t c18 h
    refine Run.skip ?_
    refine ⟨(cm .eql y4 3), h, Weak.of _ [(0, 0), (1, 1)] hA (by cbv) ?_⟩
    repeat (first | exact hq0 | refine hq (by first | exact Tt | rfl) ?_)
   have h := if_f c18 h
   refine Run.region hL hT [] (by cbv) ?_ ?_
   · exact (hq Tt hq0)
   refine ⟨(cm .eql y4 4), h, Weak.of _ [(0, 0), (1, 1)] hA (by cbv) ?_⟩
   repeat (first | exact hq0 | refine hq (by first | exact Tt | rfl) ?_)
  intro y16 h
  rw [h_K17] at h
  refine Run.cond (by cbv) (hq0) (fun c19 => ?_) (fun c19 => ?_)
  ·
   have h := if_t c19 h
   refine Run.seq ?_
   obtain ⟨l20, h_l20, h⟩ := bnd h
   obtain ⟨⟨⟨qtQ, qkI, qlI⟩, qmI⟩, h_r21, h⟩ := bnd h
   refine Run.region hL hT [(2, .call [true, false] [.v (.bx 53 [.im true (eu8_c a0v_b), .s (.int .i64 qkI), .s (.int .i64 qlI)]), .v (.jk)] [.v (.s (.int .i64 qmI))])] (by cbv) ?_ ?_
   · exact (hq (hC (AC.args (qDD h_r21) (ALe.v LLe.r (ALe.v (qXG rfl (qU (f := Int_c) h_l20 (RLe.cons rfl LLe.r (RLe.cons rfl LLe.r (RLe.cons rfl LLe.r (RLe.cons rfl LLe.r (RLe.cons rfl LLe.r (RLe.cons rfl LLe.r RLe.nil)))))))) ALe.nil)))) (hq Tt hq0))
   refine Run.row (rows := [[.s (.int .i64 0)], [.s (.int .i64 1)], [.s (.int .i64 (-5))], [.s (.int .i64 77)], [.s (.int .i64 1000000000)], [.s (.int .i64 (-1000000000))]]) 100001 (qhG l20) (by cbv) (qU (f := Int_c) h_l20 (RLe.cons rfl LLe.r (RLe.cons rfl LLe.r (RLe.cons rfl LLe.r (RLe.cons rfl LLe.r (RLe.cons rfl LLe.r (RLe.cons rfl LLe.r RLe.nil))))))) ?_
   refine Run.ret ?_
   cases h
   refine ⟨_, _, by cbv, ?_, ?_⟩
   · exact LLe.r
   exact (ALe.ag rfl (LLe.c (LLe.c (LLe.c (LLe.cons LLe.nilO (LLe.cons LLe.nilO LLe.nil))))) ALe.nil)
  have h := if_f c19 h
  obtain ⟨K23, h_K23, h⟩ := joinE h
  refine Run.join1 K23 (r := r) (fun (y22 : Bool) => ⟨80, 100000, [(0, .pt 0 0 0), (1, .t (.s (.int .i64 a1))), (4, .pt 1 0 0), (39, .t (.s (.bool y22)))], [(0, .box 53 [.t (.im true (eu8_c a0v_b)), .t (.s (.int .i64 y2)), .t (.s (.int .i64 y3))]), (1, .box 27 [.t (.s (.int .i64 0)), .t (.s (.int .i64 0)), .t (.s (.string ByteArray.empty)), .t (.s (.slice none 0 0)), .t (.s (.slice none 0 0))])]⟩) ?_ ?_
  ·
   skip
   refine Run.seq ?_
   refine Run.region hL hT [] (by cbv) ?_ ?_
   · exact (hq Tt hq0)
   refine Run.cond (by cbv) (hq0) (fun c24 => ?_) (fun c24 => ?_)
   ·
    have h := if_t c24 h
    refine Run.skip ?_
    refine ⟨(cm .eql y4 5), h, Weak.of _ [(0, 0), (1, 1)] hA (by cbv) ?_⟩
    repeat (first | exact hq0 | refine hq (by first | exact Tt | rfl) ?_)
   have h := if_f c24 h
   refine Run.region hL hT [] (by cbv) ?_ ?_
   · exact (hq Tt hq0)
   refine ⟨(cm .eql y4 6), h, Weak.of _ [(0, 0), (1, 1)] hA (by cbv) ?_⟩
   repeat (first | exact hq0 | refine hq (by first | exact Tt | rfl) ?_)
  intro y22 h
  rw [h_K23] at h
  refine Run.cond (by cbv) (hq0) (fun c25 => ?_) (fun c25 => ?_)
  ·
   have h := if_t c25 h
   refine Run.seq ?_
   refine Run.region hL hT [] (by cbv) ?_ ?_
   · exact (hq Tt hq0)
   refine Run.seq ?_
   refine Run.seq ?_
   refine Run.region hL hT [] (by cbv) hq0 ?_
   refine Run.block ?_
   refine Run.loop4 (fun (z49 : Int) (z50 : Int) (z51 : List Json) (z52 : Int) => ⟨80, 100000, [(0, .pt 0 0 0), (1, .t (.s (.int .i64 a1))), (4, .pt 1 0 0), (6, .pt 2 0 0), (7, .t (.s (.int .i64 z52)))], [(0, .box 53 [.t (.im true (eu8_c a0v_b)), .t (.s (.int .i64 z49)), .t (.s (.int .i64 z50))]), (1, .box 27 [.t (.s (.int .i64 0)), .t (.s (.int .i64 0)), .t (.s (.string ByteArray.empty)), .t (.s (.slice none 0 0)), .t (.s (.slice none 0 0))]), (2, .box 27 [.t (.s (.int .i64 4)), .t (.s (.int .i64 0)), .t (.s (.string ByteArray.empty)), .rf 3, .t (.s (.slice none 0 0))]), (3, .row 0 27 5 (qJ z51))]⟩) (x0 := y2) (x1 := y3) (x2 := []) (x3 := 0) h ((Weak.nilB (l := [.t (.s (.int .i64 4)), .t (.s (.int .i64 0)), .t (.s (.string ByteArray.empty))]) hT 100001 3 109192 27 rfl (by cbv) (by cbv) (by cbv)).trans (Weak.of _ [(0, 0), (1, 1), (2, 100001), (3, 109192)] hA (by cbv) ?_)) (fun _ _ _ _ => rfl) ?_
   · repeat (first | exact hq0 | refine hq (by first | exact Tt | rfl) ?_)
   intro k z49 z50 z51 z52 h
   rw [qO.l0] at h
   refine Run.seq ?_
   refine Run.seq ?_
   obtain ⟨⟨⟨quQ, qnI, qoI⟩, qvQ⟩, h_r53, h⟩ := bnd h
   refine Run.region hL hT [(2, .call [true, false] [.v (.bx 53 [.im true (eu8_c a0v_b), .s (.int .i64 qnI), .s (.int .i64 qoI)]), .v (.jk)] [.v (.s (.int .i64 qvQ))])] (by cbv) ?_ ?_
   · exact (hq (hC (qa h_r53)) (hq Tt hq0))
   refine Run.cond (by cbv) (hq0) (fun c54 => ?_) (fun c54 => ?_)
   ·
    have h := if_t c54 h
    refine Run.skip ?_
    refine Run.seq ?_
    refine Run.block ?_
    obtain ⟨⟨⟨qwQ, qDF, qEF⟩, ⟨qPD, qFF, qGF, qvC, qwC⟩⟩, h_r55, h⟩ := bnd h
    obtain ⟨l56, h_l56, h⟩ := bnd h
    obtain ⟨l57, h_l57, h⟩ := bnd h
    refine Run.draw hL hT hM [(5, .call [true, false] [.v (.bx 53 [.im true (eu8_c a0v_b), .s (.int .i64 qDF), .s (.int .i64 qEF)]), .v (.jk)] [.ag [.s (.int .i64 qPD), .s (.int .i64 qFF), .s (.string qGF), .im true (qJ qvC), .im true (qD qwC)]])] (by cbv) (qA (by cbv) (by cbv) (qA (by cbv) (by cbv) (qA (by cbv) (by cbv) (qA (by cbv) (by cbv) (qA (by cbv) (by cbv) (qA (by cbv) (by cbv) (qA (by cbv) (by cbv) (qA (by cbv) (by cbv) (qA (by cbv) (by cbv) (qA (by cbv) (by cbv) ql)))))))))) (by cbv) (by cbv) (by cbv) ?_ ?_
    · exact (hq Tt (hq Tt (hq (hC (qmC h_r55)) (hq (qiB (P := Tryz.prog) (f := qr) RLe.r (qOB qLB h_l56 (RLe.cons rfl LLe.r RLe.nil)) h_l57) (hq Tt hq0)))))
    refine Run.row (rows := (ap (qJ z51) ([[.s (.int .i64 qPD), .s (.int .i64 qFF), .s (.string qGF), .im true (qJ qvC), .im true (qD qwC)]]))) 104103 (qJ l57) (by cbv) (qdB (f := qr) RLe.r (qOB qLB h_l56 (RLe.cons rfl LLe.r RLe.nil)) h_l57) ?_
    refine Run.region hL hT [] (by cbv) ?_ ?_
    · exact (hq Tt hq0)
    refine ⟨qDF, qEF, l57, (ar .add .i64 z52 1), h, Weak.of _ [(0, 0), (1, 1), (2, 2), (3, 104103)] hA (by cbv) ?_⟩
    repeat (first | exact hq0 | refine hq (by first | exact Tt | rfl) ?_)
   have h := if_f c54 h
   refine Run.exit ?_
   refine Run.seq ?_
   refine Run.region hL hT [] (by cbv) ?_ ?_
   · exact (hq Tt (hq Tt hq0))
   refine Run.ret ?_
   cases h
   refine ⟨_, _, by cbv, ?_, ?_⟩
   · exact LLe.r
   exact (ALe.ag rfl (LLe.c (LLe.c (LLe.c (LLe.c (LLe.cons LLe.nilO LLe.nil))))) ALe.nil)
  have h := if_f c25 h
  refine Run.skip ?_
  refine ⟨(), h, Weak.of _ [(0, 0), (1, 1)] hA (by cbv) ?_⟩
  repeat (first | exact hq0 | refine hq (by first | exact Tt | rfl) ?_)
 intro y8 h
 rw [h_K9] at h
 refine Run.seq ?_
 refine Run.region hL hT [] (by cbv) ?_ ?_
 · exact (hq Tt hq0)
 refine Run.seq ?_
 refine Run.seq ?_
 refine Run.region hL hT [] (by cbv) hq0 ?_
 refine Run.block ?_
 refine Run.loop8 (fun (z82 : Int) (z83 : Int) (z84 : Int) (z85 : Int) (z86 : ByteArray) (z87 : List Json) (z88 : List ByteArray) (z89 : Int) => ⟨80, 100000, [(0, .pt 0 0 0), (1, .t (.s (.int .i64 a1))), (4, .pt 1 0 0), (8, .pt 2 0 0), (9, .t (.s (.int .i64 z89)))], [(0, .box 53 [.t (.im true (eu8_c a0v_b)), .t (.s (.int .i64 z82)), .t (.s (.int .i64 z83))]), (1, .box 27 [.t (.s (.int .i64 0)), .t (.s (.int .i64 0)), .t (.s (.string ByteArray.empty)), .t (.s (.slice none 0 0)), .t (.s (.slice none 0 0))]), (2, .box 27 [.t (.s (.int .i64 z84)), .t (.s (.int .i64 z85)), .t (.s (.string z86)), .rf 3, .rf 4]), (3, .row 0 27 5 (qJ z87)), (4, .row 0 9 1 (qD z88))]⟩) (x0 := y2) (x1 := y3) (x2 := 5) (x3 := 0) (x4 := ByteArray.empty) (x5 := []) (x6 := []) (x7 := 0) h ((Weak.nilB (l := [.t (.s (.int .i64 5)), .t (.s (.int .i64 0)), .t (.s (.string ByteArray.empty))]) hT 100001 3 109192 27 rfl (by cbv) (by cbv) (by cbv)).trans ((Weak.nilB (l := [.t (.s (.int .i64 5)), .t (.s (.int .i64 0)), .t (.s (.string ByteArray.empty)), .rf 109192]) hT 100001 4 109193 9 rfl (by cbv) (by cbv) (by cbv)).trans (Weak.of _ [(0, 0), (1, 1), (2, 100001), (3, 109192), (4, 109193)] hA (by cbv) ?_))) (fun _ _ _ _ _ _ _ _ => rfl) ?_
 · repeat (first | exact hq0 | refine hq (by first | exact Tt | rfl) ?_)
 intro k z82 z83 z84 z85 z86 z87 z88 z89 h
 rw [qO.l1] at h
 refine Run.seq ?_
 refine Run.seq ?_
 obtain ⟨⟨⟨qxQ, qpI, qqI⟩, qyQ⟩, h_r90, h⟩ := bnd h
 refine Run.region hL hT [(2, .call [true, false] [.v (.bx 53 [.im true (eu8_c a0v_b), .s (.int .i64 qpI), .s (.int .i64 qqI)]), .v (.jk)] [.v (.s (.int .i64 qyQ))])] (by cbv) ?_ ?_
 · exact (hq (hC (qa h_r90)) (hq Tt hq0))
 refine Run.cond (by cbv) (hq0) (fun c91 => ?_) (fun c91 => ?_)
 ·
  have h := if_t c91 h
  refine Run.skip ?_
  refine Run.seq ?_
  refine Run.block ?_
  refine Run.seq ?_
  obtain ⟨⟨⟨qzQ, qHF, qIF⟩, qAR⟩, h_r92, h⟩ := bnd h
  refine Run.region hL hT [(1, .call [true] [.v (.bx 53 [.im true (eu8_c a0v_b), .s (.int .i64 qHF), .s (.int .i64 qIF)])] [.v (.s (.string qAR))])] (by cbv) ?_ ?_
  · exact (hq (hC (qyD h_r92)) hq0)
  refine Run.seq ?_
  obtain ⟨r93, h_r93, h⟩ := bnd h
  refine Run.region hL hT [(2, .call [false, false] [.ag [.jk, .jk, .jk, .jk, .jk], .v (.jk)] [.v (.s (.int .i64 r93))])] (by cbv) ?_ ?_
  · exact (hq Tt (hq (hC (AC.args (qSH h_r93) (ALe.ag rfl (LLe.c (LLe.c (LLe.c (LLe.cons (LLe.im (qMM _)) (LLe.cons (LLe.im (RLe.eq (qxB qwB _))) LLe.nil))))) (ALe.v LLe.r ALe.nil)))) (hq Tt hq0)))
  refine Run.cond (by cbv) (hq0) (fun c94 => ?_) (fun c94 => ?_)
  ·
   have h := if_t c94 h
   refine Run.weak ?_ (Weak.keepL (rows := qJ z87) 3 (by cbv) (qJ z87) (qYC _))
   refine Run.weak ?_ (Weak.keep (rows := qD z88) 4 (by cbv) (qD z88) (qxB qwB _))
   obtain ⟨⟨⟨qBR, qJF, qKF⟩, ⟨qLF, qrI, qsI, qbE, qcE⟩⟩, h_r95, h⟩ := bnd h
   obtain ⟨⟨qMF, qSM, qTM, qNE, qOE⟩, h_r96, h⟩ := bnd h
   refine Run.draw hL hT hM [(5, .call [true, false] [.v (.bx 53 [.im true (eu8_c a0v_b), .s (.int .i64 qJF), .s (.int .i64 qKF)]), .v (.jk)] [.ag [.s (.int .i64 qLF), .s (.int .i64 qrI), .s (.string qsI), .im true (qJ qbE), .im true (qD qcE)]]), (6, .call [true, false, true] [.ag [.jk, .jk, .jk, .jk, .jk], .v (.jk), .ag [.jk, .jk, .jk, .jk, .jk]] [.ag [.s (.int .i64 qMF), .s (.int .i64 qSM), .s (.string qTM), .ow 27 (qJ qNE), .ow 9 (qD qOE)]])] (by cbv) (qA (by cbv) (by cbv) (qA (by cbv) (by cbv) (qA (by cbv) (by cbv) (qA (by cbv) (by cbv) (qA (by cbv) (by cbv) (qA (by cbv) (by cbv) (qA (by cbv) (by cbv) (qA (by cbv) (by cbv) ql)))))))) (by cbv) (by cbv) (by cbv) ?_ ?_
   · exact (hq Tt (hq Tt (hq (hC (qmC h_r95)) (hq (hC (qhH h_r96)) (hq Tt hq0)))))
   refine Run.region hL hT [] (by cbv) ?_ ?_
   · exact (hq Tt hq0)
   refine ⟨qJF, qKF, qMF, qSM, qTM, qNE, qOE, (ar .add .i64 z89 1), h, Weak.of _ [(0, 0), (1, 1), (2, 2), (3, 112294), (4, 112550)] hA (by cbv) ?_⟩
   repeat (first | exact hq0 | refine hq (by first | exact Tt | rfl) ?_)
  have h := if_f c94 h
  refine Run.skip ?_
  refine Run.region hL hT [] (by cbv) ?_ ?_
  · exact (hq Tt hq0)
  refine ⟨qHF, qIF, z84, z85, z86, z87, z88, (ar .add .i64 z89 1), h, Weak.of _ [(0, 0), (1, 1), (2, 2), (3, 3), (4, 4)] hA (by cbv) ?_⟩
  repeat (first | exact hq0 | refine hq (by first | exact Tt | rfl) ?_)
 have h := if_f c91 h
 refine Run.exit ?_
 refine Run.seq ?_
 refine Run.region hL hT [] (by cbv) ?_ ?_
 · exact (hq Tt (hq Tt hq0))
 refine Run.ret ?_
 cases h
 refine ⟨_, _, by cbv, ?_, ?_⟩
 · exact LLe.r
 exact (ALe.ag rfl LLe.r ALe.nil)
theorem qVJ {a0v_b : List Int} {a0v_i : Int} {a0v_h : Int} {r : l1Cur × Json} (h : qnB.f (l1Cur.mk a0v_b a0v_i a0v_h) = some r) : AC Tryz.prog 18 [.v (.bx 53 [.im true (rowsOf u8_c a0v_b), .s (.int .i64 a0v_i), .s (.int .i64 a0v_h)])] [.v (.bx 53 [.im true (rowsOf u8_c a0v_b), .s (.int .i64 r.1.i), .s (.int .i64 r.1.h)])] [.ag [.s (.int .i64 r.2.Kind), .s (.int .i64 r.2.N), .s (.string r.2.S), .im true (rowsOf qr r.2.List_), .im true (rowsOf Str_c r.2.Names)]] := by
 unfold qnB.f at h
 let qhG := rowsOf Int_c
 let qJ := rowsOf qr
 let qh := rowsOf qx
 let qD := rowsOf Str_c
 let eu8_c := rowsOf u8_c
 show AC Tryz.prog 18 [.v (.bx 53 [.im true (eu8_c a0v_b), .s (.int .i64 a0v_i), .s (.int .i64 a0v_h)])] _ _
 refine run3 Tryz.func18 (by rfl) (by rfl) (by cbv) ⟨by decide, rfl⟩ ?_
 intro ar cm bo sc sa sx ss sl bs sb ln sr ap up rp fr ge le lt nz mm ma sm fl al ci hL F hP hA hT hM hC
 refine Run.seq ?_
 refine Run.region hL hT [] (by cbv) hq0 ?_
 refine Run.seq ?_
 obtain ⟨⟨⟨qgG, qbC, qcC⟩, ⟨qBJ, qpO, qqO, qUB, qcB⟩⟩, h_r1, h⟩ := bnd h
 refine Run.region hL hT [(1, .call [true, false] [.v (.bx 53 [.im true (eu8_c a0v_b), .s (.int .i64 qbC), .s (.int .i64 qcC)]), .v (.jk)] [.ag [.s (.int .i64 qBJ), .s (.int .i64 qpO), .s (.string qqO), .ow 27 (qJ qUB), .ow 9 (qD qcB)]])] (by cbv) ?_ ?_
 · exact (hq (hC (qlE h_r1)) (hq Tt hq0))
 refine Run.seq ?_
 refine Run.seq ?_
 obtain ⟨⟨⟨qlO, qfF, qgF⟩, r2v_2⟩, h_r2, h⟩ := bnd h
 refine Run.region hL hT [(1, .call [true, false] [.v (.bx 53 [.im true (eu8_c a0v_b), .s (.int .i64 qfF), .s (.int .i64 qgF)]), .v (.jk)] [.v (.s (.int .i64 r2v_2))])] (by cbv) ?_ ?_
 · exact (hq (hC (qa h_r2)) hq0)
 refine Run.block ?_
 refine Run.seq ?_
 refine Run.region hL hT [] (by cbv) ?_ ?_
 · exact (hq Tt hq0)
 refine Run.cond (by cbv) (hq0) (fun c3 => ?_) (fun c3 => ?_)
 ·
  have h := if_t c3 h
  obtain ⟨⟨⟨qlS, qwK, qxK⟩, r4v_2⟩, h_r4, h⟩ := bnd h
  refine Run.region hL hT [(1, .call [true, false] [.v (.bx 53 [.im true (eu8_c a0v_b), .s (.int .i64 qwK), .s (.int .i64 qxK)]), .v (.jk)] [.v (.s (.int .i64 r4v_2))])] (by cbv) ?_ ?_
  · exact (hq (hC (qa h_r4)) (hq Tt (hq Tt hq0)))
  refine Run.seq ?_
  refine Run.region hL hT [] (by cbv) ?_ ?_
  · exact (hq Tt (hq Tt hq0))
  refine Run.weak ?_ (Weak.keepL (rows := qJ qUB) 4098 (by cbv) (qJ qUB) (qYC _))
  refine Run.weak ?_ (Weak.keep (rows := qD qcB) 4354 (by cbv) (qD qcB) (qxB qwB _))
  refine Run.ret ?_
  cases h
  refine ⟨_, _, by cbv, ?_, ?_⟩
  · exact LLe.r
  exact (ALe.ag rfl LLe.r ALe.nil)
 have h := if_f c3 h
 refine Run.seq ?_
 refine Run.region hL hT [] (by cbv) ?_ ?_
 · exact (hq Tt hq0)
 refine Run.cond (by cbv) (hq0) (fun c5 => ?_) (fun c5 => ?_)
 ·
  have h := if_t c5 h
  obtain ⟨l6, h_l6, h⟩ := bnd h
  obtain ⟨⟨⟨qsK, qbD, qcD⟩, r7v_2⟩, h_r7, h⟩ := bnd h
  refine Run.region hL hT [(2, .call [true, false] [.v (.bx 53 [.im true (eu8_c a0v_b), .s (.int .i64 qbD), .s (.int .i64 qcD)]), .v (.jk)] [.v (.s (.int .i64 r7v_2))])] (by cbv) ?_ ?_
  · exact (hq (hC (AC.args (qDD h_r7) (ALe.v LLe.r (ALe.v (qXG rfl (qU (f := Int_c) h_l6 (RLe.cons rfl LLe.r (RLe.cons rfl LLe.r (RLe.cons rfl LLe.r (RLe.cons rfl LLe.r RLe.nil)))))) ALe.nil)))) (hq Tt hq0))
  refine Run.row (rows := [[.s (.int .i64 1)], [.s (.int .i64 2)], [.s (.int .i64 (-1))], [.s (.int .i64 1000000001)]]) 20482 (qhG l6) (by cbv) (qU (f := Int_c) h_l6 (RLe.cons rfl LLe.r (RLe.cons rfl LLe.r (RLe.cons rfl LLe.r (RLe.cons rfl LLe.r RLe.nil))))) ?_
  refine Run.seq ?_
  refine Run.region hL hT [] (by cbv) ?_ ?_
  · exact (hq Tt (hq Tt hq0))
  refine Run.weak ?_ (Weak.keepL (rows := qJ qUB) 4098 (by cbv) (qJ qUB) (qYC _))
  refine Run.weak ?_ (Weak.keep (rows := qD qcB) 4354 (by cbv) (qD qcB) (qxB qwB _))
  refine Run.ret ?_
  cases h
  refine ⟨_, _, by cbv, ?_, ?_⟩
  · exact LLe.r
  exact (ALe.ag rfl LLe.r ALe.nil)
 have h := if_f c5 h
 refine Run.seq ?_
 refine Run.region hL hT [] (by cbv) ?_ ?_
 · exact (hq Tt hq0)
 refine Run.cond (by cbv) (hq0) (fun c8 => ?_) (fun c8 => ?_)
 ·
  have h := if_t c8 h
  obtain ⟨l9, h_l9, h⟩ := bnd h
  obtain ⟨⟨⟨qmU, qXR, qYR⟩, qhM⟩, h_r10, h⟩ := bnd h
  refine Run.region hL hT [(2, .call [true, false] [.v (.bx 53 [.im true (eu8_c a0v_b), .s (.int .i64 qXR), .s (.int .i64 qYR)]), .v (.jk)] [.v (.s (.string qhM))])] (by cbv) ?_ ?_
  · exact (hq (hC (AC.args (qLC h_r10) (ALe.v LLe.r (ALe.v (qXG rfl (qU (f := Str_c) h_l9 (RLe.cons rfl LLe.r (RLe.cons rfl LLe.r (RLe.cons rfl LLe.r RLe.nil))))) ALe.nil)))) (hq Tt hq0))
  refine Run.row (rows := [[.s (.string (ByteArray.mk #[120]))], [.s (.string (ByteArray.mk #[1]))], [.s (.string (ByteArray.mk #[127]))]]) 24578 (qD l9) (by cbv) (qU (f := Str_c) h_l9 (RLe.cons rfl LLe.r (RLe.cons rfl LLe.r (RLe.cons rfl LLe.r RLe.nil)))) ?_
  refine Run.seq ?_
  refine Run.region hL hT [] (by cbv) ?_ ?_
  · exact (hq Tt (hq Tt hq0))
  refine Run.weak ?_ (Weak.keepL (rows := qJ qUB) 4098 (by cbv) (qJ qUB) (qYC _))
  refine Run.weak ?_ (Weak.keep (rows := qD qcB) 4354 (by cbv) (qD qcB) (qxB qwB _))
  refine Run.ret ?_
  cases h
  refine ⟨_, _, by cbv, ?_, ?_⟩
  · exact LLe.r
  exact (ALe.ag rfl LLe.r ALe.nil)
 have h := if_f c8 h
 refine Run.seq ?_
 refine Run.region hL hT [] (by cbv) ?_ ?_
 · exact (hq Tt hq0)
 refine Run.cond (by cbv) (hq0) (fun c11 => ?_) (fun c11 => ?_)
 ·
  have h := if_t c11 h
  obtain ⟨l12, h_l12, h⟩ := bnd h
  obtain ⟨l13, h_l13, h⟩ := bnd h
  refine Run.region hL hT [] (by cbv) ?_ ?_
  · exact (hq Tt (hq (qiB (P := Tryz.prog) (f := Str_c) RLe.r (qU (f := Str_c) h_l12 (RLe.cons rfl LLe.r RLe.nil)) h_l13) (hq Tt hq0)))
  refine Run.row (rows := (ap (qD qcB) ([[.s (.string (ByteArray.mk #[97]))]]))) 28676 (qD l13) (by cbv) (qdB (f := Str_c) RLe.r (qU (f := Str_c) h_l12 (RLe.cons rfl LLe.r RLe.nil)) h_l13) ?_
  refine Run.seq ?_
  refine Run.region hL hT [] (by cbv) ?_ ?_
  · exact (hq Tt (hq Tt hq0))
  refine Run.weak ?_ (Weak.keepL (rows := qJ qUB) 4098 (by cbv) (qJ qUB) (qYC _))
  refine Run.weak ?_ (Weak.keep (rows := qD l13) 28676 (by cbv) (qD l13) (qxB qwB _))
  refine Run.ret ?_
  cases h
  refine ⟨_, _, by cbv, ?_, ?_⟩
  · exact LLe.r
  exact (ALe.ag rfl LLe.r ALe.nil)
 have h := if_f c11 h
 refine Run.seq ?_
 refine Run.region hL hT [] (by cbv) ?_ ?_
 · exact (hq Tt hq0)
 refine Run.cond (by cbv) (hq0) (fun c14 => ?_) (fun c14 => ?_)
 ·
  have h := if_t c14 h
  refine Run.seq ?_
  refine Run.region hL hT [] (by cbv) hq0 ?_
  refine Run.block ?_
  refine Run.loop6 (fun (z27 : Int) (z28 : Int) (z29 : ByteArray) (z30 : List Json) (z31 : List ByteArray) (z32 : Int) => ⟨51, 100000, [(2, .pt 1 0 0), (3, .pt 2 0 0), (4, .t (.s (.int .i64 z32)))], [(0, .box 53 [.t (.im true (eu8_c a0v_b)), .t (.s (.int .i64 qfF)), .t (.s (.int .i64 qgF))]), (1, .box 27 [.t (.s (.int .i64 0)), .t (.s (.int .i64 0)), .t (.s (.string ByteArray.empty)), .t (.s (.slice none 0 0)), .t (.s (.slice none 0 0))]), (2, .box 27 [.t (.s (.int .i64 z27)), .t (.s (.int .i64 z28)), .t (.s (.string z29)), .rf 3, .rf 4]), (3, .row 0 27 5 (qJ z30)), (4, .row 0 9 1 (qD z31))]⟩) (x0 := qBJ) (x1 := qpO) (x2 := qqO) (x3 := qUB) (x4 := qcB) (x5 := 0) h (Weak.of _ [(0, 0), (1, 1), (2, 4099), (3, 4098), (4, 4354)] hA (by cbv) ?_) (fun _ _ _ _ _ _ => rfl) ?_
  · repeat (first | exact hq0 | refine hq (by first | exact Tt | rfl) ?_)
  intro k z27 z28 z29 z30 z31 z32 h
  rw [qnB.l0] at h
  refine Run.seq ?_
  refine Run.seq ?_
  refine Run.region hL hT [] (by cbv) ?_ ?_
  · exact (hq Tt hq0)
  refine Run.cond (by cbv) (hq0) (fun c33 => ?_) (fun c33 => ?_)
  ·
   have h := if_t c33 h
   refine Run.skip ?_
   refine Run.seq ?_
   refine Run.block ?_
   refine Run.weak ?_ (Weak.keepL (rows := qJ z30) 3 (by cbv) (qJ z30) (qYC _))
   refine Run.weak ?_ (Weak.keep (rows := qD z31) 4 (by cbv) (qD z31) (qxB qwB _))
   obtain ⟨l34, h_l34, h⟩ := bnd h
   refine Run.region hL hT [] (by cbv) ?_ ?_
   · exact (hq Tt (hq Tt hq0))
   refine Run.row (rows := [[.s (.int .i64 z27), .s (.int .i64 z28), .s (.string z29), .im true (qJ z30), .im true (qD z31)]]) 104097 (qJ l34) (by cbv) (qOB qLB h_l34 (RLe.cons rfl LLe.r RLe.nil)) ?_
   refine Run.region hL hT [] (by cbv) ?_ ?_
   · exact (hq Tt hq0)
   refine ⟨4, 0, ByteArray.empty, l34, [], (ar .add .i64 z32 1), h, (Weak.nilB (l := [.t (.s (.int .i64 4)), .t (.s (.int .i64 0)), .t (.s (.string ByteArray.empty)), .rf 104097]) hT 2 4 113288 9 rfl (by cbv) (by cbv) (by cbv)).trans (Weak.of _ [(0, 0), (1, 1), (2, 2), (3, 104097), (4, 113288)] hA (by cbv) ?_)⟩
   repeat (first | exact hq0 | refine hq (by first | exact Tt | rfl) ?_)
  have h := if_f c33 h
  refine Run.exit ?_
  refine Run.seq ?_
  refine Run.region hL hT [] (by cbv) ?_ ?_
  · exact (hq Tt (hq Tt hq0))
  refine Run.weak ?_ (Weak.keepL (rows := qJ z30) 3 (by cbv) (qJ z30) (qYC _))
  refine Run.weak ?_ (Weak.keep (rows := qD z31) 4 (by cbv) (qD z31) (qxB qwB _))
  refine Run.ret ?_
  cases h
  refine ⟨_, _, by cbv, ?_, ?_⟩
  · exact LLe.r
  exact (ALe.ag rfl LLe.r ALe.nil)
 have h := if_f c14 h
 refine Run.seq ?_
 refine Run.region hL hT [] (by cbv) ?_ ?_
 · exact (hq Tt hq0)
 refine Run.cond (by cbv) (hq0) (fun c35 => ?_) (fun c35 => ?_)
 ·
  have h := if_t c35 h
  obtain ⟨⟨⟨qnU, qZR, qaR⟩, qQT⟩, h_r36, h⟩ := bnd h
  obtain ⟨l37, h_l37, h⟩ := bnd h
  refine Run.region hL hT [(1, .call [true, false] [.v (.bx 53 [.im true (eu8_c a0v_b), .s (.int .i64 qZR), .s (.int .i64 qaR)]), .v (.jk)] [.v (.s (.int .i64 qQT))])] (by cbv) ?_ ?_
  · exact (hq (hC (qa h_r36)) (hq Tt (hq Tt (hq (mk_0 h_l37) (hq (mk_mm h_l37) (hq Tt hq0))))))
  refine Run.row (rows := (rp (ar .add .i64 399 qQT) [.s (.int .i64 0), .s (.int .i64 0), .s (.string ByteArray.empty), .s (.slice none 0 0), .s (.slice none 0 0)])) 36868 (qh l37) (by cbv) (mk_le (f := qx) rfl (LLe.c (LLe.c (LLe.c (LLe.cons LLe.nilO (LLe.cons LLe.nilO LLe.nil))))) h_l37) ?_
  refine Run.seq ?_
  refine Run.region hL hT [] (by cbv) ?_ ?_
  · exact (hq Tt (hq Tt hq0))
  refine Run.weak ?_ (Weak.keepL (rows := qh l37) 36868 (by cbv) (qJ l37) (qPM _))
  refine Run.ret ?_
  cases h
  refine ⟨_, _, by cbv, ?_, ?_⟩
  · exact LLe.r
  exact (ALe.ag rfl (LLe.c (LLe.c (LLe.c (LLe.c (LLe.cons LLe.nilI LLe.nil))))) ALe.nil)
 have h := if_f c35 h
 refine Run.skip ?_
 refine Run.seq ?_
 refine Run.region hL hT [] (by cbv) ?_ ?_
 · exact (hq Tt (hq Tt hq0))
 refine Run.weak ?_ (Weak.keepL (rows := qJ qUB) 4098 (by cbv) (qJ qUB) (qYC _))
 refine Run.weak ?_ (Weak.keep (rows := qD qcB) 4354 (by cbv) (qD qcB) (qxB qwB _))
 refine Run.ret ?_
 cases h
 refine ⟨_, _, by cbv, ?_, ?_⟩
 · exact LLe.r
 exact (ALe.ag rfl LLe.r ALe.nil)
theorem qnG {a0 : List Int} {r : Json} (h : qEB.f a0 = some r) : AC Tryz.prog 5 [.v (.im true (rowsOf u8_c a0))] [.v (.jk)] [.ag [.s (.int .i64 r.Kind), .s (.int .i64 r.N), .s (.string r.S), .im true (rowsOf qr r.List_), .im true (rowsOf Str_c r.Names)]] := by
 unfold qEB.f at h
 let qJ := rowsOf qr
 let qh := rowsOf qx
 let qD := rowsOf Str_c
 let eu8_c := rowsOf u8_c
 show AC Tryz.prog 5 [.v (.im true (eu8_c a0))] _ _
 refine run3 Tryz.func5 (by rfl) (by rfl) (by cbv) ⟨by decide, rfl⟩ ?_
 intro ar cm bo sc sa sx ss sl bs sb ln sr ap up rp fr ge le lt nz mm ma sm fl al ci hL F hP hA hT hM hC
 refine Run.seq ?_
 refine Run.region hL hT [] (by cbv) hq0 ?_
 refine Run.seq ?_
 obtain ⟨⟨r1v_b, r1v_i, r1v_h⟩, h_r1, h⟩ := bnd h
 refine Run.region hL hT [(1, .call [true] [.v (.jk)] [.v (.bx 53 [.im true (eu8_c r1v_b), .s (.int .i64 r1v_i), .s (.int .i64 r1v_h)])])] (by cbv) ?_ ?_
 · exact (hq (hC (qZE h_r1)) hq0)
 obtain ⟨K4, h_K4, h⟩ := joinE h
 refine Run.join2 K4 (r := r) (fun (y2 : Int) (y3 : Int) => ⟨24, 100000, [(2, .pt 1 0 0), (3, .pt 2 0 0)], [(1, .box 27 [.t (.s (.int .i64 0)), .t (.s (.int .i64 0)), .t (.s (.string ByteArray.empty)), .t (.s (.slice none 0 0)), .t (.s (.slice none 0 0))]), (2, .box 53 [.t (.im true (eu8_c r1v_b)), .t (.s (.int .i64 y2)), .t (.s (.int .i64 y3))])]⟩) ?_ ?_
 ·
  skip
  refine Run.seq ?_
  obtain ⟨⟨⟨qjO, qdF, qeF⟩, r5v_2⟩, h_r5, h⟩ := bnd h
  refine Run.region hL hT [(1, .call [true, false] [.v (.bx 53 [.im true (eu8_c r1v_b), .s (.int .i64 qdF), .s (.int .i64 qeF)]), .v (.jk)] [.v (.s (.bool r5v_2))])] (by cbv) ?_ ?_
  · exact (hq (hC (qUJ h_r5)) hq0)
  refine Run.cond (by cbv) (hq0) (fun c6 => ?_) (fun c6 => ?_)
  ·
   have h := if_t c6 h
   refine Run.seq ?_
   refine Run.region hL hT [] (by cbv) ?_ ?_
   · exact (hq Tt hq0)
   refine Run.seq ?_
   refine Run.seq ?_
   refine Run.region hL hT [] (by cbv) hq0 ?_
   refine Run.block ?_
   refine Run.loop2 (fun (z22 : List Json) (z23 : Int) => ⟨24, 100000, [(2, .pt 1 0 0), (4, .pt 2 0 0), (5, .t (.s (.int .i64 z23)))], [(1, .box 27 [.t (.s (.int .i64 0)), .t (.s (.int .i64 0)), .t (.s (.string ByteArray.empty)), .t (.s (.slice none 0 0)), .t (.s (.slice none 0 0))]), (2, .box 27 [.t (.s (.int .i64 4)), .t (.s (.int .i64 0)), .t (.s (.string ByteArray.empty)), .rf 3, .t (.s (.slice none 0 0))]), (3, .row 0 27 5 (qh z22))]⟩) (x0 := []) (x1 := 0) h ((Weak.nilB (l := [.t (.s (.int .i64 4)), .t (.s (.int .i64 0)), .t (.s (.string ByteArray.empty))]) hT 12289 3 21480 27 rfl (by cbv) (by cbv) (by cbv)).trans (Weak.of _ [(1, 0), (2, 12289), (3, 21480)] hA (by cbv) ?_)) (fun _ _ => rfl) ?_
   · repeat (first | exact hq0 | refine hq (by first | exact Tt | rfl) ?_)
   intro k z22 z23 h
   rw [qEB.l0] at h
   refine Run.seq ?_
   refine Run.seq ?_
   refine Run.region hL hT [] (by cbv) ?_ ?_
   · exact (hq Tt hq0)
   refine Run.cond (by cbv) (hq0) (fun c24 => ?_) (fun c24 => ?_)
   ·
    have h := if_t c24 h
    refine Run.skip ?_
    refine Run.seq ?_
    refine Run.block ?_
    obtain ⟨⟨qiM, qRT, qST, qBK, qCK⟩, h_r25, h⟩ := bnd h
    obtain ⟨l26, h_l26, h⟩ := bnd h
    obtain ⟨l27, h_l27, h⟩ := bnd h
    refine Run.draw hL hT hM [(2, .call [false] [.v (.jk)] [.ag [.s (.int .i64 qiM), .s (.int .i64 qRT), .s (.string qST), .ow 27 (qh qBK), .ow 9 (qD qCK)]])] (by cbv) (qA (by cbv) (by cbv) (qA (by cbv) (by cbv) (qA (by cbv) (by cbv) (qA (by cbv) (by cbv) (qA (by cbv) (by cbv) (qA (by cbv) (by cbv) (qA (by cbv) (by cbv) ql))))))) (by cbv) (by cbv) (by cbv) ?_ ?_
    · exact (hq Tt (hq (hC (qDG h_r25)) (hq (qiB (P := Tryz.prog) (f := qx) RLe.r (qOB qYE h_l26 (RLe.cons rfl LLe.r RLe.nil)) h_l27) (hq Tt hq0))))
    refine Run.row (rows := (ap (qh z22) ([[.s (.int .i64 qiM), .s (.int .i64 qRT), .s (.string qST), .ow 27 (qh qBK), .ow 9 (qD qCK)]]))) 104100 (qh l27) (by cbv) (qdB (f := qx) RLe.r (qOB qYE h_l26 (RLe.cons rfl LLe.r RLe.nil)) h_l27) ?_
    refine Run.region hL hT [] (by cbv) ?_ ?_
    · exact (hq Tt hq0)
    refine ⟨l27, (ar .add .i64 z23 1), h, Weak.of _ [(1, 1), (2, 2), (3, 104100)] hA (by cbv) ?_⟩
    repeat (first | exact hq0 | refine hq (by first | exact Tt | rfl) ?_)
   have h := if_f c24 h
   refine Run.exit ?_
   refine Run.seq ?_
   refine Run.region hL hT [] (by cbv) ?_ ?_
   · exact (hq Tt (hq Tt hq0))
   refine Run.weak ?_ (Weak.keepL (rows := qh z22) 3 (by cbv) (qJ z22) (qPM _))
   refine Run.ret ?_
   cases h
   refine ⟨_, _, by cbv, ?_, ?_⟩
   · exact LLe.r
   exact (ALe.ag rfl (LLe.c (LLe.c (LLe.c (LLe.c (LLe.cons LLe.nilI LLe.nil))))) ALe.nil)
  have h := if_f c6 h
  refine Run.skip ?_
  refine ⟨qdF, qeF, h, Weak.of _ [(1, 0), (2, 4097)] hA (by cbv) ?_⟩
  repeat (first | exact hq0 | refine hq (by first | exact Tt | rfl) ?_)
 intro y2 y3 h
 rw [h_K4] at h
 refine Run.seq ?_
 obtain ⟨⟨⟨qoU, qbR, qcR⟩, ⟨qjM, qdR, qeR, qEL, qFL⟩⟩, h_r28, h⟩ := bnd h
 refine Run.region hL hT [(1, .call [true] [.v (.bx 53 [.im true (eu8_c r1v_b), .s (.int .i64 qbR), .s (.int .i64 qcR)])] [.ag [.s (.int .i64 qjM), .s (.int .i64 qdR), .s (.string qeR), .im true (qJ qEL), .im true (qD qFL)]])] (by cbv) ?_ ?_
 · exact (hq (hC (qVJ h_r28)) (hq Tt hq0))
 refine Run.ret ?_
 cases h
 refine ⟨_, _, by cbv, ?_, ?_⟩
 · exact LLe.r
 exact (ALe.ag rfl LLe.r ALe.nil)
theorem qtB {a0 : ByteArray} {a1 : ByteArray} {r : Bool} (h : qo.f a0 a1 = some r) : AC Tryz.prog 65 [.v (.s (.string a0)), .v (.s (.string a1))] [.v (.jk), .v (.jk)] [.v (.s (.bool r))] := by
 unfold qo.f at h
 show AC Tryz.prog 65 [.v (.s (.string a0)), .v (.s (.string a1))] _ _
 refine run3 Tryz.func65 (by rfl) (by rfl) (by cbv) ⟨by decide, rfl⟩ ?_
 intro ar cm bo sc sa sx ss sl bs sb ln sr ap up rp fr ge le lt nz mm ma sm fl al ci hL F hP hA hT hM hC
 refine Run.seq ?_
 refine Run.region hL hT [] (by cbv) hq0 ?_
 refine Run.seq ?_
 obtain ⟨u1, h_u1, h⟩ := bnd h
 refine Run.region hL hT [] (by cbv) ?_ ?_
 · exact (hq Tt (hq (fun _ => hq0) (hq (fun _ => hq0) (hq (fun g4 => (hq g4 hq0)) (hq (fun g5 => (hq g5 (hq g5 (hq (quE (gd_t h_u1 g5)) (hq (qvE (gd_t h_u1 g5)) (hq (qwE (gd_t h_u1 g5)) hq0)))))) (hq (fun _ => hq0) (hq (fun g7 => (hq g7 (hq g7 hq0))) (hq (fun q8 => (hq q8 hq0)) (hq (fun _ => hq0) hq0)))))))))
 refine Run.ret ?_
 cases h
 refine ⟨_, _, by cbv, ?_, ?_⟩
 · exact LLe.r
 exact (ALe.v LLe.r ALe.nil)
theorem qxC {a0 : ByteArray} {a1 : ByteArray} {r : ByteArray × Bool} (h : qy.f a0 a1 = some r) : AC Tryz.prog 75 [.v (.s (.string a0)), .v (.s (.string a1))] [.v (.jk), .v (.jk)] [.v (.s (.string r.1)), .v (.s (.bool r.2))] := by
 unfold qy.f at h
 show AC Tryz.prog 75 [.v (.s (.string a0)), .v (.s (.string a1))] _ _
 refine run3 Tryz.func75 (by rfl) (by rfl) (by cbv) ⟨by decide, rfl⟩ ?_
 intro ar cm bo sc sa sx ss sl bs sb ln sr ap up rp fr ge le lt nz mm ma sm fl al ci hL F hP hA hT hM hC
 refine Run.seq ?_
 refine Run.region hL hT [] (by cbv) hq0 ?_
 refine Run.seq ?_
 refine Run.seq ?_
 obtain ⟨r1, h_r1, h⟩ := bnd h
 refine Run.region hL hT [(2, .call [false, false] [.v (.jk), .v (.jk)] [.v (.s (.bool r1))])] (by cbv) ?_ ?_
 · exact (hq (hC (qtB h_r1)) hq0)
 refine Run.cond (by cbv) (hq0) (fun c2 => ?_) (fun c2 => ?_)
 ·
  have h := if_t c2 h
  refine Run.seq ?_
  refine Run.region hL hT [] (by cbv) hq0 ?_
  refine Run.ret ?_
  cases h
  refine ⟨_, _, by cbv, ?_, ?_⟩
  · exact LLe.r
  exact (ALe.v LLe.r (ALe.v LLe.r ALe.nil))
 have h := if_f c2 h
 refine Run.skip ?_
 refine Run.seq ?_
 obtain ⟨u3, h_u3, h⟩ := bnd h
 refine Run.region hL hT [] (by cbv) ?_ ?_
 · exact (hq (quE h_u3) (hq (qvE h_u3) (hq (qwE h_u3) hq0)))
 refine Run.ret ?_
 cases h
 refine ⟨_, _, by cbv, ?_, ?_⟩
 · exact LLe.r
 exact (ALe.v LLe.r (ALe.v LLe.r ALe.nil))
theorem qkF {a0 : ByteArray} {a1 : ByteArray} {r : ByteArray × Bool} (h : qCC.f a0 a1 = some r) : AC Tryz.prog 64 [.v (.s (.string a0)), .v (.s (.string a1))] [.v (.jk), .v (.jk)] [.v (.s (.string r.1)), .v (.s (.bool r.2))] := by
 unfold qCC.f at h
 show AC Tryz.prog 64 [.v (.s (.string a0)), .v (.s (.string a1))] _ _
 refine run3 Tryz.func64 (by rfl) (by rfl) (by cbv) ⟨by decide, rfl⟩ ?_
 intro ar cm bo sc sa sx ss sl bs sb ln sr ap up rp fr ge le lt nz mm ma sm fl al ci hL F hP hA hT hM hC
 refine Run.seq ?_
 refine Run.region hL hT [] (by cbv) hq0 ?_
 refine Run.seq ?_
 obtain ⟨⟨r1v_1, r1v_2⟩, h_r1, h⟩ := bnd h
 refine Run.region hL hT [(2, .call [false, false] [.v (.jk), .v (.jk)] [.v (.s (.string r1v_1)), .v (.s (.bool r1v_2))])] (by cbv) ?_ ?_
 · exact (hq (hC (qxC h_r1)) hq0)
 refine Run.ret ?_
 cases h
 refine ⟨_, _, by cbv, ?_, ?_⟩
 · exact LLe.r
 exact (ALe.v LLe.r (ALe.v LLe.r ALe.nil))
theorem qu {qn : ByteArray} {qCB : Bool} {a1 : ByteArray} {r : reader × Bool} (h : qS.f (reader.mk qn qCB) a1 = some r) : AC Tryz.prog 39 [.v (.bx 43 [.s (.string qn), .s (.bool qCB)]), .v (.s (.string a1))] [.v (.bx 43 [.s (.string r.1.text), .s (.bool r.1.bad)]), .v (.jk)] [.v (.s (.bool r.2))] := by
 unfold qS.f at h
 show AC Tryz.prog 39 [.v (.bx 43 [.s (.string qn), .s (.bool qCB)]), .v (.s (.string a1))] _ _
 refine run3 Tryz.func39 (by rfl) (by rfl) (by cbv) ⟨by decide, rfl⟩ ?_
 intro ar cm bo sc sa sx ss sl bs sb ln sr ap up rp fr ge le lt nz mm ma sm fl al ci hL F hP hA hT hM hC
 refine Run.seq ?_
 refine Run.region hL hT [] (by cbv) hq0 ?_
 refine Run.seq ?_
 obtain ⟨⟨r1v_1, r1v_2⟩, h_r1, h⟩ := bnd h
 refine Run.region hL hT [(5, .call [false, false] [.v (.jk), .v (.jk)] [.v (.s (.string r1v_1)), .v (.s (.bool r1v_2))])] (by cbv) ?_ ?_
 · exact (hq Tt (hq (hC (qkF h_r1)) hq0))
 refine Run.seq ?_
 refine Run.region hL hT [] (by cbv) ?_ ?_
 · exact (hq Tt hq0)
 refine Run.seq ?_
 refine Run.region hL hT [] (by cbv) ?_ ?_
 · exact (hq (fun _ => hq0) (hq (fun g3 => (hq g3 hq0)) (hq (fun g4 => (hq g4 hq0)) (hq (fun g5 => (hq g5 (hq Tt hq0))) (hq (fun g6 => (hq g6 hq0)) (hq (fun q7 => (hq q7 hq0)) (hq (fun _ => hq0) hq0)))))))
 refine Run.ret ?_
 cases h
 refine ⟨_, _, by cbv, ?_, ?_⟩
 · exact LLe.r
 exact (ALe.v LLe.r ALe.nil)
theorem qlF {a0 : ByteArray} {a1 : ByteArray} {r : Bool} (h : qDC.f a0 a1 = some r) : AC Tryz.prog 40 [.v (.s (.string a0)), .v (.s (.string a1))] [.v (.jk), .v (.jk)] [.v (.s (.bool r))] := by
 unfold qDC.f at h
 show AC Tryz.prog 40 [.v (.s (.string a0)), .v (.s (.string a1))] _ _
 refine run3 Tryz.func40 (by rfl) (by rfl) (by cbv) ⟨by decide, rfl⟩ ?_
 intro ar cm bo sc sa sx ss sl bs sb ln sr ap up rp fr ge le lt nz mm ma sm fl al ci hL F hP hA hT hM hC
 refine Run.seq ?_
 refine Run.region hL hT [] (by cbv) hq0 ?_
 refine Run.seq ?_
 obtain ⟨r1, h_r1, h⟩ := bnd h
 refine Run.region hL hT [(2, .call [false, false] [.v (.jk), .v (.jk)] [.v (.s (.bool r1))])] (by cbv) ?_ ?_
 · exact (hq (hC (qtB h_r1)) hq0)
 refine Run.ret ?_
 cases h
 refine ⟨_, _, by cbv, ?_, ?_⟩
 · exact LLe.r
 exact (ALe.v LLe.r ALe.nil)
theorem qnC {qn : ByteArray} {qCB : Bool} {a1 : ByteArray} {r : reader} (h : qFB.f (reader.mk qn qCB) a1 = some r) : AC Tryz.prog 66 [.v (.bx 43 [.s (.string qn), .s (.bool qCB)]), .v (.s (.string a1))] [.v (.bx 43 [.s (.string r.text), .s (.bool r.bad)]), .v (.jk)] [] := by
 unfold qFB.f at h
 show AC Tryz.prog 66 [.v (.bx 43 [.s (.string qn), .s (.bool qCB)]), .v (.s (.string a1))] _ _
 refine run3 Tryz.func66 (by rfl) (by rfl) (by cbv) ⟨by decide, rfl⟩ ?_
 intro ar cm bo sc sa sx ss sl bs sb ln sr ap up rp fr ge le lt nz mm ma sm fl al ci hL F hP hA hT hM hC
 refine Run.seq ?_
 obtain ⟨⟨⟨qdE, qhF⟩, r1v_2⟩, h_r1, h⟩ := bnd h
 refine Run.region hL hT [(2, .call [true, false] [.v (.bx 43 [.s (.string qdE), .s (.bool qhF)]), .v (.jk)] [.v (.s (.bool r1v_2))])] (by cbv) ?_ ?_
 · exact (hq (hC (qu h_r1)) hq0)
 refine Run.cond (by cbv) (hq0) (fun c2 => ?_) (fun c2 => ?_)
 ·
  have h := if_t c2 h
  refine Run.region hL hT [] (by cbv) ?_ ?_
  · exact (hq Tt hq0)
  cases h
  refine ⟨_, _, by cbv, ?_, ?_⟩
  · exact LLe.r
  exact ALe.nil
 have h := if_f c2 h
 refine Run.skip ?_
 cases h
 refine ⟨_, _, by cbv, ?_, ?_⟩
 · exact LLe.r
 exact ALe.nil
theorem qQD {qn : ByteArray} {qCB : Bool} {r : reader × ByteArray} (h : qT.f (reader.mk qn qCB) = some r) : AC Tryz.prog 41 [.v (.bx 43 [.s (.string qn), .s (.bool qCB)])] [.v (.bx 43 [.s (.string r.1.text), .s (.bool r.1.bad)])] [.v (.s (.string r.2))] := by
 unfold qT.f at h
 let eu8_c := rowsOf u8_c
 show AC Tryz.prog 41 [.v (.bx 43 [.s (.string qn), .s (.bool qCB)])] _ _
 refine run3 Tryz.func41 (by rfl) (by rfl) (by cbv) ⟨by decide, rfl⟩ ?_
 intro ar cm bo sc sa sx ss sl bs sb ln sr ap up rp fr ge le lt nz mm ma sm fl al ci hL F hP hA hT hM hC
 refine Run.seq ?_
 refine Run.region hL hT [] (by cbv) hq0 ?_
 refine Run.seq ?_
 obtain ⟨⟨qrO, qfR⟩, h_r1, h⟩ := bnd h
 refine Run.region hL hT [(1, .call [true, false] [.v (.bx 43 [.s (.string qrO), .s (.bool qfR)]), .v (.jk)] [])] (by cbv) ?_ ?_
 · exact (hq (hC (qnC h_r1)) hq0)
 refine Run.seq ?_
 refine Run.region hL hT [] (by cbv) hq0 ?_
 refine Run.seq ?_
 refine Run.block ?_
 refine Run.loop3 (fun (z5 : ByteArray) (z6 : Bool) (z7 : List Int) => ⟨42, 100000, [(0, .pt 0 0 0), (3, .rf 1)], [(0, .box 43 [.t (.s (.string z5)), .t (.s (.bool z6))]), (1, .row 0 5 1 (eu8_c z7))]⟩) (x0 := qrO) (x1 := qfR) (x2 := []) h (Weak.of _ [(0, 0), (1, 8193)] hA (by cbv) ?_) (fun _ _ _ => rfl) ?_
 · repeat (first | exact hq0 | refine hq (by first | exact Tt | rfl) ?_)
 intro k z5 z6 z7 h
 rw [qT.l0] at h
 refine Run.seq ?_
 refine Run.seq ?_
 refine Run.region hL hT [] (by cbv) ?_ ?_
 · exact (hq Tt hq0)
 refine Run.cond (by cbv) (hq0) (fun c8 => ?_) (fun c8 => ?_)
 ·
  have h := if_t c8 h
  refine Run.skip ?_
  refine Run.block ?_
  refine Run.seq ?_
  refine Run.seq ?_
  obtain ⟨⟨⟨qxN, qfP⟩, r9v_2⟩, h_r9, h⟩ := bnd h
  refine Run.region hL hT [(1, .call [true, false] [.v (.bx 43 [.s (.string qxN), .s (.bool qfP)]), .v (.jk)] [.v (.s (.bool r9v_2))])] (by cbv) ?_ ?_
  · exact (hq (hC (qu h_r9)) hq0)
  refine Run.cond (by cbv) (hq0) (fun c10 => ?_) (fun c10 => ?_)
  ·
   have h := if_t c10 h
   refine Run.seq ?_
   obtain ⟨s11, h_s11, h⟩ := bnd h
   refine Run.region hL hT [(1, .hd [1] (.t (.s (.string s11))) [])] (by cbv) ?_ ?_
   · exact (hq (qYG (ns := z7) hT (by rfl) (by rfl) (by rfl) (by rfl) (by rfl) (by rfl) (by rfl) (qbO h_s11)) hq0)
   refine Run.ret ?_
   cases h
   refine ⟨_, _, by cbv, ?_, ?_⟩
   · exact LLe.r
   exact (ALe.v LLe.r ALe.nil)
  have h := if_f c10 h
  refine Run.skip ?_
  refine Run.seq ?_
  obtain ⟨⟨⟨qrC, qeE⟩, qhI⟩, h_r12, h⟩ := bnd h
  refine Run.region hL hT [(1, .call [true, false] [.v (.bx 43 [.s (.string qrC), .s (.bool qeE)]), .v (.jk)] [.v (.s (.bool qhI))])] (by cbv) ?_ ?_
  · exact (hq (hC (qu h_r12)) hq0)
  refine Run.seq ?_
  refine Run.seq ?_
  refine Run.region hL hT [] (by cbv) ?_ ?_
  · exact (hq Tt hq0)
  refine Run.cond (by cbv) (hq0) (fun c13 => ?_) (fun c13 => ?_)
  ·
   have h := if_t c13 h
   refine Run.seq ?_
   refine Run.region hL hT [] (by cbv) ?_ ?_
   · exact (hq Tt hq0)
   refine Run.exit ?_
   refine Run.seq ?_
   refine Run.region hL hT [] (by cbv) hq0 ?_
   refine Run.ret ?_
   cases h
   refine ⟨_, _, by cbv, ?_, ?_⟩
   · exact LLe.r
   exact (ALe.v LLe.r ALe.nil)
  have h := if_f c13 h
  refine Run.skip ?_
  refine Run.seq ?_
  obtain ⟨u14, h_u14, h⟩ := bnd h
  obtain ⟨l15, h_l15, h⟩ := bnd h
  obtain ⟨l16, h_l16, h⟩ := bnd h
  refine Run.region hL hT [] (by cbv) ?_ ?_
  · exact (hq Tt (hq (inS_0 h_u14) (hq (inS_1 h_u14) (hq (qiB (P := Tryz.prog) (f := u8_c) RLe.r (qU (f := u8_c) h_l15 (RLe.cons rfl LLe.r RLe.nil)) h_l16) hq0))))
  refine Run.row (rows := (ap (eu8_c z7) ([[.s (.int .u8 (sx qrC 0))]]))) 116391 (eu8_c l16) (by cbv) (qdB (f := u8_c) RLe.r (qU (f := u8_c) h_l15 (RLe.cons rfl LLe.r RLe.nil)) h_l16) ?_
  obtain ⟨u17, h_u17, h⟩ := bnd h
  refine Run.region hL hT [] (by cbv) ?_ ?_
  · exact (hq Tt (hq (quE h_u17) (hq (qvE h_u17) (hq (qwE h_u17) (hq Tt hq0)))))
  refine ⟨(ss qrC 1 (sl qrC)), qeE, l16, h, Weak.of _ [(0, 0), (1, 116391)] hA (by cbv) ?_⟩
  repeat (first | exact hq0 | refine hq (by first | exact Tt | rfl) ?_)
 have h := if_f c8 h
 refine Run.exit ?_
 refine Run.seq ?_
 refine Run.region hL hT [] (by cbv) hq0 ?_
 refine Run.ret ?_
 cases h
 refine ⟨_, _, by cbv, ?_, ?_⟩
 · exact LLe.r
 exact (ALe.v LLe.r ALe.nil)
theorem qVD (self : reader → Int → Option (reader × Json)) (hself : ∀ {qn : ByteArray} {qCB : Bool} {a1 : Int} {r : reader × Json} (h : self (reader.mk qn qCB) a1 = some r), AC Tryz.prog 23 [.v (.bx 43 [.s (.string qn), .s (.bool qCB)]), .v (.s (.int .i64 a1))] [.v (.bx 43 [.s (.string r.1.text), .s (.bool r.1.bad)]), .v (.jk)] [.ag [.s (.int .i64 r.2.Kind), .s (.int .i64 r.2.N), .s (.string r.2.S), .ow 27 (rowsOf qx r.2.List_), .ow 9 (rowsOf Str_c r.2.Names)]]) {qn : ByteArray} {qCB : Bool} {a1 : Int} {a2 : ByteArray} {a3 : Int} {r : reader × Json} (h : qK.f self (reader.mk qn qCB) a1 a2 a3 = some r) : AC Tryz.prog 42 [.v (.bx 43 [.s (.string qn), .s (.bool qCB)]), .v (.s (.int .i64 a1)), .v (.s (.string a2)), .v (.s (.int .i64 a3))] [.v (.bx 43 [.s (.string r.1.text), .s (.bool r.1.bad)]), .v (.jk), .v (.jk), .v (.jk)] [.ag [.s (.int .i64 r.2.Kind), .s (.int .i64 r.2.N), .s (.string r.2.S), .ow 27 (rowsOf qx r.2.List_), .ow 9 (rowsOf Str_c r.2.Names)]] := by
 unfold qK.f at h
 let qh := rowsOf qx
 let qD := rowsOf Str_c
 show AC Tryz.prog 42 [.v (.bx 43 [.s (.string qn), .s (.bool qCB)]), .v (.s (.int .i64 a1)), .v (.s (.string a2)), .v (.s (.int .i64 a3))] _ _
 refine run3 Tryz.func42 (by rfl) (by rfl) (by cbv) ⟨by decide, rfl⟩ ?_
 intro ar cm bo sc sa sx ss sl bs sb ln sr ap up rp fr ge le lt nz mm ma sm fl al ci hL F hP hA hT hM hC
 refine Run.seq ?_
 refine Run.region hL hT [] (by cbv) hq0 ?_
 refine Run.seq ?_
 refine Run.region hL hT [] (by cbv) ?_ ?_
 · exact (hq Tt hq0)
 refine Run.seq ?_
 refine Run.seq ?_
 obtain ⟨⟨⟨qdE, qhF⟩, r1v_2⟩, h_r1, h⟩ := bnd h
 refine Run.region hL hT [(2, .call [true, false] [.v (.bx 43 [.s (.string qdE), .s (.bool qhF)]), .v (.jk)] [.v (.s (.bool r1v_2))])] (by cbv) ?_ ?_
 · exact (hq (hC (qu h_r1)) hq0)
 refine Run.cond (by cbv) (hq0) (fun c2 => ?_) (fun c2 => ?_)
 ·
  have h := if_t c2 h
  refine Run.seq ?_
  refine Run.region hL hT [] (by cbv) ?_ ?_
  · exact (hq Tt (hq Tt hq0))
  refine Run.ret ?_
  cases h
  refine ⟨_, _, by cbv, ?_, ?_⟩
  · exact LLe.r
  exact (ALe.ag rfl (LLe.c (LLe.c (LLe.c (LLe.cons LLe.nilO (LLe.cons LLe.nilO LLe.nil))))) ALe.nil)
 have h := if_f c2 h
 refine Run.skip ?_
 obtain ⟨K7, h_K7, h⟩ := joinE h
 refine Run.join4 K7 (r := r) (fun (y3 : ByteArray) (y4 : Bool) (y5 : List Json) (y6 : List ByteArray) => ⟨55, 100000, [(0, .pt 0 0 0), (2, .t (.s (.string a2))), (8, .pt 1 0 0), (9, .pt 2 0 0)], [(0, .box 43 [.t (.s (.string y3)), .t (.s (.bool y4))]), (1, .box 27 [.t (.s (.int .i64 0)), .t (.s (.int .i64 0)), .t (.s (.string ByteArray.empty)), .t (.s (.slice none 0 0)), .t (.s (.slice none 0 0))]), (2, .box 27 [.t (.s (.int .i64 a1)), .t (.s (.int .i64 0)), .t (.s (.string ByteArray.empty)), .rf 3, .rf 4]), (3, .row 0 27 5 (qh y5)), (4, .row 0 9 1 (qD y6))]⟩) ?_ ?_
 ·
  skip
  refine Run.seq ?_
  refine Run.region hL hT [] (by cbv) hq0 ?_
  refine Run.block ?_
  refine Run.loop5 (fun (z34 : ByteArray) (z35 : Bool) (z36 : List Json) (z37 : List ByteArray) (z38 : Bool) => ⟨55, 100000, [(0, .pt 0 0 0), (1, .t (.s (.int .i64 a1))), (2, .t (.s (.string a2))), (3, .t (.s (.int .i64 a3))), (8, .pt 1 0 0), (9, .pt 2 0 0), (10, .t (.s (.bool z38)))], [(0, .box 43 [.t (.s (.string z34)), .t (.s (.bool z35))]), (1, .box 27 [.t (.s (.int .i64 0)), .t (.s (.int .i64 0)), .t (.s (.string ByteArray.empty)), .t (.s (.slice none 0 0)), .t (.s (.slice none 0 0))]), (2, .box 27 [.t (.s (.int .i64 a1)), .t (.s (.int .i64 0)), .t (.s (.string ByteArray.empty)), .rf 3, .rf 4]), (3, .row 0 27 5 (qh z36)), (4, .row 0 9 1 (qD z37))]⟩) (x0 := qdE) (x1 := qhF) (x2 := []) (x3 := []) (x4 := true) h ((Weak.nilB (l := [.t (.s (.int .i64 a1)), .t (.s (.int .i64 0)), .t (.s (.string ByteArray.empty))]) hT 4099 3 17385 27 rfl (by cbv) (by cbv) (by cbv)).trans ((Weak.nilB (l := [.t (.s (.int .i64 a1)), .t (.s (.int .i64 0)), .t (.s (.string ByteArray.empty)), .rf 17385]) hT 4099 4 17386 9 rfl (by cbv) (by cbv) (by cbv)).trans (Weak.of _ [(0, 0), (1, 1), (2, 4099), (3, 17385), (4, 17386)] hA (by cbv) ?_))) (fun _ _ _ _ _ => rfl) ?_
  · repeat (first | exact hq0 | refine hq (by first | exact Tt | rfl) ?_)
  intro k z34 z35 z36 z37 z38 h
  rw [qK.l0] at h
  refine Run.seq ?_
  refine Run.seq ?_
  refine Run.region hL hT [] (by cbv) ?_ ?_
  · exact (hq (fun _ => hq0) (hq (fun g40 => (hq g40 hq0)) (hq (fun g41 => (hq g41 hq0)) (hq (fun g42 => (hq g42 (hq Tt hq0))) (hq (fun g43 => (hq g43 hq0)) (hq (fun q44 => (hq q44 hq0)) (hq (fun _ => hq0) hq0)))))))
  refine Run.cond (by cbv) (hq0) (fun c46 => ?_) (fun c46 => ?_)
  ·
   have h := if_t c46 h
   refine Run.skip ?_
   refine Run.seq ?_
   refine Run.block ?_
   obtain ⟨K50, h_K50, h⟩ := joinE h
   refine Run.join3 K50 (r := r) (fun (y47 : ByteArray) (y48 : Bool) (y49 : List ByteArray) => ⟨55, 100000, [(0, .pt 0 0 0), (1, .t (.s (.int .i64 a1))), (2, .t (.s (.string a2))), (3, .t (.s (.int .i64 a3))), (8, .pt 1 0 0), (9, .pt 2 0 0)], [(0, .box 43 [.t (.s (.string y47)), .t (.s (.bool y48))]), (1, .box 27 [.t (.s (.int .i64 0)), .t (.s (.int .i64 0)), .t (.s (.string ByteArray.empty)), .t (.s (.slice none 0 0)), .t (.s (.slice none 0 0))]), (2, .box 27 [.t (.s (.int .i64 a1)), .t (.s (.int .i64 0)), .t (.s (.string ByteArray.empty)), .rf 3, .rf 4]), (3, .row 0 27 5 (qh z36)), (4, .row 0 9 1 (qD y49))]⟩) ?_ ?_
   ·
    skip
    refine Run.seq ?_
    refine Run.region hL hT [] (by cbv) ?_ ?_
    · exact (hq Tt hq0)
    refine Run.cond (by cbv) (hq0) (fun c51 => ?_) (fun c51 => ?_)
    ·
     have h := if_t c51 h
     refine Run.seq ?_
     obtain ⟨⟨⟨qkM, qyN⟩, qTT⟩, h_r52, h⟩ := bnd h
     refine Run.region hL hT [(1, .call [true] [.v (.bx 43 [.s (.string qkM), .s (.bool qyN)])] [.v (.s (.string qTT))])] (by cbv) ?_ ?_
     · exact (hq (hC (qQD h_r52)) hq0)
     refine Run.seq ?_
     obtain ⟨⟨qlM, qsO⟩, h_r53, h⟩ := bnd h
     refine Run.region hL hT [(1, .call [true, false] [.v (.bx 43 [.s (.string qlM), .s (.bool qsO)]), .v (.jk)] [])] (by cbv) ?_ ?_
     · exact (hq (hC (qnC h_r53)) hq0)
     obtain ⟨l54, h_l54, h⟩ := bnd h
     obtain ⟨l55, h_l55, h⟩ := bnd h
     refine Run.region hL hT [] (by cbv) ?_ ?_
     · exact (hq Tt (hq (qiB (P := Tryz.prog) (f := Str_c) RLe.r (qU (f := Str_c) h_l54 (RLe.cons rfl LLe.r RLe.nil)) h_l55) (hq Tt hq0)))
     refine ⟨qlM, qsO, l55, h, (Weak.row (rows := (ap (qD z37) ([[.s (.string qTT)]]))) 116388 (qD l55) (by cbv) (qdB (f := Str_c) RLe.r (qU (f := Str_c) h_l54 (RLe.cons rfl LLe.r RLe.nil)) h_l55)).trans (Weak.of _ [(0, 0), (1, 1), (2, 2), (3, 3), (4, 116388)] hA (by cbv) ?_)⟩
     repeat (first | exact hq0 | refine hq (by first | exact Tt | rfl) ?_)
    have h := if_f c51 h
    refine Run.skip ?_
    refine ⟨z34, z35, z37, h, Weak.of _ [(0, 0), (1, 1), (2, 2), (3, 3), (4, 4)] hA (by cbv) ?_⟩
    repeat (first | exact hq0 | refine hq (by first | exact Tt | rfl) ?_)
   intro y47 y48 y49 h
   rw [h_K50] at h
   refine Run.seq ?_
   obtain ⟨⟨⟨qmM, qzN⟩, ⟨qXH, qnM, qoM, qoG, qpG⟩⟩, h_r56, h⟩ := bnd h
   refine Run.region hL hT [(3, .call [true, false] [.v (.bx 43 [.s (.string qmM), .s (.bool qzN)]), .v (.jk)] [.ag [.s (.int .i64 qXH), .s (.int .i64 qnM), .s (.string qoM), .ow 27 (qh qoG), .ow 9 (qD qpG)]])] (by cbv) ?_ ?_
   · exact (hq Tt (hq (hC (hself h_r56)) (hq Tt hq0)))
   obtain ⟨l57, h_l57, h⟩ := bnd h
   obtain ⟨l58, h_l58, h⟩ := bnd h
   refine Run.region hL hT [] (by cbv) ?_ ?_
   · exact (hq Tt (hq Tt (hq (qiB (P := Tryz.prog) (f := qx) RLe.r (qOB qYE h_l57 (RLe.cons rfl LLe.r RLe.nil)) h_l58) (hq Tt hq0))))
   refine Run.row (rows := (ap (qh z36) ([[.s (.int .i64 qXH), .s (.int .i64 qnM), .s (.string qoM), .ow 27 (qh qoG), .ow 9 (qD qpG)]]))) 104100 (qh l58) (by cbv) (qdB (f := qx) RLe.r (qOB qYE h_l57 (RLe.cons rfl LLe.r RLe.nil)) h_l58) ?_
   obtain ⟨⟨⟨qYH, qCJ⟩, qUT⟩, h_r59, h⟩ := bnd h
   refine Run.region hL hT [(1, .call [true, false] [.v (.bx 43 [.s (.string qYH), .s (.bool qCJ)]), .v (.jk)] [.v (.s (.bool qUT))])] (by cbv) ?_ ?_
   · exact (hq (hC (qu h_r59)) hq0)
   refine ⟨qYH, qCJ, l58, y49, qUT, h, Weak.of _ [(0, 0), (1, 1), (2, 2), (3, 104100), (4, 4)] hA (by cbv) ?_⟩
   repeat (first | exact hq0 | refine hq (by first | exact Tt | rfl) ?_)
  have h := if_f c46 h
  refine Run.exit ?_
  refine ⟨z34, z35, z36, z37, h, Weak.of _ [(0, 0), (1, 1), (2, 2), (3, 3), (4, 4)] hA (by cbv) ?_⟩
  repeat (first | exact hq0 | refine hq (by first | exact Tt | rfl) ?_)
 intro y3 y4 y5 y6 h
 rw [h_K7] at h
 refine Run.seq ?_
 obtain ⟨⟨qgR, quS⟩, h_r60, h⟩ := bnd h
 refine Run.region hL hT [(2, .call [true, false] [.v (.bx 43 [.s (.string qgR), .s (.bool quS)]), .v (.jk)] [])] (by cbv) ?_ ?_
 · exact (hq (hC (qnC h_r60)) hq0)
 refine Run.seq ?_
 refine Run.region hL hT [] (by cbv) ?_ ?_
 · exact (hq Tt (hq Tt hq0))
 refine Run.ret ?_
 cases h
 refine ⟨_, _, by cbv, ?_, ?_⟩
 · exact LLe.r
 exact (ALe.ag rfl LLe.r ALe.nil)
def qUF : Go.Shelf.Ren := ⟨fun | 172 => 68 | 244 => 76 | 245 => 77 | 247 => 84 | 279 => 85 | 280 => 86 | 281 => 87 | 282 => 88 | 287 => 94 | 316 => 95 | 171 => 34 | 205 => 96 | 321 => 99 | 322 => 100 | 243 => 57 | 246 => 72 | 283 => 78 | 284 => 79 | 285 => 80 | 286 => 81 | 129 => 90 | 317 => 89 | 318 => 91 | 319 => 92 | 320 => 93 | 337 => 97 | 338 => 98 | n => n, fun | 9 => 9 | 3 => 3 | 75 => 80 | 76 => 81 | 4 => 4 | 5 => 5 | 167 => 102 | 37 => 22 | 0 => 0 | 85 => 103 | 2 => 2 | 168 => 105 | 53 => 94 | 175 => 114 | 46 => 87 | 210 => 117 | 127 => 91 | 145 => 123 | 143 => 121 | 21 => 21 | 171 => 93 | 173 => 97 | 212 => 110 | 51 => 111 | 20 => 20 | 213 => 112 | 232 => 124 | 233 => 125 | 80 => 61 | n => n, fun | 15 => 2 | 16 => 3 | 17 => 0 | 18 => 4 | 19 => 5 | n => n⟩
theorem laysAtoi : Go.Proofs.LaysC.n172 Tryz.prog qUF := {
 mixed := by kernel_rfl
 f129 := Tryz.func90.trans (congrArg some (by kernel_rfl))
 f171 := Tryz.func34.trans (congrArg some (by kernel_rfl))
 f172 := Tryz.func68.trans (congrArg some (by kernel_rfl))
 f205 := Tryz.func96.trans (congrArg some (by kernel_rfl))
 f243 := Tryz.func57.trans (congrArg some (by kernel_rfl))
 f244 := Tryz.func76.trans (congrArg some (by kernel_rfl))
 f245 := Tryz.func77.trans (congrArg some (by kernel_rfl))
 f246 := Tryz.func72.trans (congrArg some (by kernel_rfl))
 f247 := Tryz.func84.trans (congrArg some (by kernel_rfl))
 f279 := Tryz.func85.trans (congrArg some (by kernel_rfl))
 f280 := Tryz.func86.trans (congrArg some (by kernel_rfl))
 f281 := Tryz.func87.trans (congrArg some (by kernel_rfl))
 f282 := Tryz.func88.trans (congrArg some (by kernel_rfl))
 f283 := Tryz.func78.trans (congrArg some (by kernel_rfl))
 f284 := Tryz.func79.trans (congrArg some (by kernel_rfl))
 f285 := Tryz.func80.trans (congrArg some (by kernel_rfl))
 f286 := Tryz.func81.trans (congrArg some (by kernel_rfl))
 f287 := Tryz.func94.trans (congrArg some (by kernel_rfl))
 f316 := Tryz.func95.trans (congrArg some (by kernel_rfl))
 f317 := Tryz.func89.trans (congrArg some (by kernel_rfl))
 f318 := Tryz.func91.trans (congrArg some (by kernel_rfl))
 f319 := Tryz.func92.trans (congrArg some (by kernel_rfl))
 f320 := Tryz.func93.trans (congrArg some (by kernel_rfl))
 f321 := Tryz.func99.trans (congrArg some (by kernel_rfl))
 f322 := Tryz.func100.trans (congrArg some (by kernel_rfl))
 f337 := Tryz.func97.trans (congrArg some (by kernel_rfl))
 f338 := Tryz.func98.trans (congrArg some (by kernel_rfl))
 t0 := Tryz.underlying0
 a0 := Tryz.isAgg0
 z0 := Tryz.sizeOf0
 v0 := Tryz.zeroValue0
 t2 := Tryz.underlying2
 a2 := Tryz.isAgg2
 z2 := Tryz.sizeOf2
 v2 := Tryz.zeroValue2
 t3 := Tryz.underlying3
 a3 := Tryz.isAgg3
 z3 := Tryz.sizeOf3
 v3 := Tryz.zeroValue3
 t4 := Tryz.underlying4
 a4 := Tryz.isAgg4
 z4 := Tryz.sizeOf4
 v4 := Tryz.zeroValue4
 t5 := Tryz.underlying5
 a5 := Tryz.isAgg5
 z5 := Tryz.sizeOf5
 v5 := Tryz.zeroValue5
 t9 := Tryz.underlying9
 a9 := Tryz.isAgg9
 z9 := Tryz.sizeOf9
 v9 := Tryz.zeroValue9
 t20 := Tryz.underlying20
 a20 := Tryz.isAgg20
 z20 := Tryz.sizeOf20
 v20 := Tryz.zeroValue20
 t21 := Tryz.underlying21
 a21 := Tryz.isAgg21
 z21 := Tryz.sizeOf21
 v21 := Tryz.zeroValue21
 t37 := Tryz.underlying22
 a37 := Tryz.isAgg22
 z37 := Tryz.sizeOf22
 v37 := Tryz.zeroValue22
 t46 := Tryz.underlying87
 a46 := Tryz.isAgg87
 z46 := Tryz.sizeOf87
 v46 := Tryz.zeroValue87
 t51 := Tryz.underlying111
 a51 := Tryz.isAgg111
 z51 := Tryz.sizeOf111
 v51 := Tryz.zeroValue111
 t53 := Tryz.underlying94
 a53 := Tryz.isAgg94
 z53 := Tryz.sizeOf94
 v53 := Tryz.zeroValue94
 t75 := Tryz.underlying80
 a75 := Tryz.isAgg80
 z75 := Tryz.sizeOf80
 v75 := Tryz.zeroValue80
 t76 := Tryz.underlying81
 a76 := Tryz.isAgg81
 z76 := Tryz.sizeOf81
 v76 := Tryz.zeroValue81
 t85 := Tryz.underlying103
 a85 := Tryz.isAgg103
 z85 := Tryz.sizeOf103
 v85 := Tryz.zeroValue103
 t127 := Tryz.underlying91
 a127 := Tryz.isAgg91
 z127 := Tryz.sizeOf91
 v127 := Tryz.zeroValue91
 t143 := Tryz.underlying121
 a143 := Tryz.isAgg121
 z143 := Tryz.sizeOf121
 v143 := Tryz.zeroValue121
 t145 := Tryz.underlying123
 a145 := Tryz.isAgg123
 z145 := Tryz.sizeOf123
 v145 := Tryz.zeroValue123
 t167 := Tryz.underlying102
 a167 := Tryz.isAgg102
 z167 := Tryz.sizeOf102
 v167 := Tryz.zeroValue102
 t168 := Tryz.underlying105
 a168 := Tryz.isAgg105
 z168 := Tryz.sizeOf105
 v168 := Tryz.zeroValue105
 t171 := Tryz.underlying93
 a171 := Tryz.isAgg93
 z171 := Tryz.sizeOf93
 v171 := Tryz.zeroValue93
 t173 := Tryz.underlying97
 a173 := Tryz.isAgg97
 z173 := Tryz.sizeOf97
 v173 := Tryz.zeroValue97
 t175 := Tryz.underlying114
 a175 := Tryz.isAgg114
 z175 := Tryz.sizeOf114
 v175 := Tryz.zeroValue114
 t210 := Tryz.underlying117
 a210 := Tryz.isAgg117
 z210 := Tryz.sizeOf117
 v210 := Tryz.zeroValue117
 t212 := Tryz.underlying110
 a212 := Tryz.isAgg110
 z212 := Tryz.sizeOf110
 v212 := Tryz.zeroValue110
 t213 := Tryz.underlying112
 a213 := Tryz.isAgg112
 z213 := Tryz.sizeOf112
 t232 := Tryz.underlying124
 a232 := Tryz.isAgg124
 z232 := Tryz.sizeOf124
 v232 := Tryz.zeroValue124
 t233 := Tryz.underlying125
 a233 := Tryz.isAgg125
 z233 := Tryz.sizeOf125
 v233 := Tryz.zeroValue125
 g15 := by kernel_rfl
 g16 := by kernel_rfl
 g17 := by kernel_rfl
 g18 := by kernel_rfl
 g19 := by kernel_rfl
 t80 := Tryz.underlying61
 a80 := Tryz.isAgg61
 z80 := Tryz.sizeOf61
 v80 := Tryz.zeroValue61
 i0 := by kernel_rfl
 i2 := by kernel_rfl
 i3 := by kernel_rfl
 i4 := by kernel_rfl
 i5 := by kernel_rfl
 i9 := by kernel_rfl
 i20 := by kernel_rfl
 i21 := by kernel_rfl
 i37 := by kernel_rfl
 i46 := by kernel_rfl
 i51 := by kernel_rfl
 i53 := by kernel_rfl
 i75 := by kernel_rfl
 i76 := by kernel_rfl
 i80 := by kernel_rfl
 i85 := by kernel_rfl
 i127 := by kernel_rfl
 i143 := by kernel_rfl
 i145 := by kernel_rfl
 i167 := by kernel_rfl
 i168 := by kernel_rfl
 i171 := by kernel_rfl
 i173 := by kernel_rfl
 i175 := by kernel_rfl
 i210 := by kernel_rfl
 i212 := by kernel_rfl
 i232 := by kernel_rfl
 i233 := by kernel_rfl
 m15 := by kernel_rfl
 m16 := by kernel_rfl
 m17 := by kernel_rfl
 m18 := by kernel_rfl
 m19 := by kernel_rfl
 c0 := by kernel_rfl
 c2 := by kernel_rfl
 c3 := by kernel_rfl
 c4 := by kernel_rfl
 c5 := by kernel_rfl
 c9 := by kernel_rfl
 c20 := by kernel_rfl
 c21 := by kernel_rfl
 c37 := by kernel_rfl
 c46 := by kernel_rfl
 c51 := by kernel_rfl
 c53 := by kernel_rfl
 c75 := by kernel_rfl
 c76 := by kernel_rfl
 c80 := by kernel_rfl
 c85 := by kernel_rfl
 c127 := by kernel_rfl
 c143 := by kernel_rfl
 c145 := by kernel_rfl
 c167 := by kernel_rfl
 c168 := by kernel_rfl
 c171 := by kernel_rfl
 c173 := by kernel_rfl
 c175 := by kernel_rfl
 c210 := by kernel_rfl
 c212 := by kernel_rfl
 c213 := by kernel_rfl
 c232 := by kernel_rfl
 c233 := by kernel_rfl }
theorem qiH {a0 : ByteArray} {v : Int} {b : Bool} (h : qFC.f a0 = some (v, b)) (hk : b = true) : AC Tryz.prog 68 [.v (.s (.string a0))] [.v .jk] [.v (.s (.int .i64 v)), .v (.s .nilIface)] :=
 AC.of_atoi1 (ty := qUF.t 5) ⟨_, Tryz.func68, by rfl, by rfl⟩ (fun s h1 v h2 w => Go.Proofs.Any.strconv_Atoi_ok laysAtoi s h1 v h2 w) h hk
theorem qjH {a0 : ByteArray} {v : Int} {b : Bool} (h : qFC.f a0 = some (v, b)) (hk : b = false) : AC Tryz.prog 68 [.v (.s (.string a0))] [.v .jk] [.v (.s (.int .i64 v)), .v .er] :=
 AC.of_atoi0 (ty := qUF.t 168) (g15 := 2) (g16 := 3) ⟨_, Tryz.func68, by rfl, by rfl⟩ (by kernel_rfl) (by kernel_rfl)
  (fun s h1 h2 ev w h3 h4 => (Go.Proofs.Any.strconv_Atoi_syntax laysAtoi s h1 (by revert h2; generalize Lib.atoiAll s.data.toList = r; intro q; cases r <;> first | rfl | exact absurd rfl q.1 | exact absurd rfl (q.2 _)) ev w h3 h4).mono fun e w' ⟨N, a, _, _, d⟩ => ⟨N, a, d⟩)
  (fun s h1 h2 ev w h3 h4 => (Go.Proofs.Any.strconv_Atoi_range laysAtoi s h1 h2 ev w h3 h4).mono fun e w' ⟨N, a, _, _, d⟩ => ⟨N, a, d⟩) h hk
theorem qVF {qn : ByteArray} {qCB : Bool} {r : reader × Json} (h : qR.f (reader.mk qn qCB) = some r) : AC Tryz.prog 43 [.v (.bx 43 [.s (.string qn), .s (.bool qCB)])] [.v (.bx 43 [.s (.string r.1.text), .s (.bool r.1.bad)])] [.ag [.s (.int .i64 r.2.Kind), .s (.int .i64 r.2.N), .s (.string r.2.S), .ow 27 (rowsOf qx r.2.List_), .ow 9 (rowsOf Str_c r.2.Names)]] := by
 unfold qR.f at h
 show AC Tryz.prog 43 [.v (.bx 43 [.s (.string qn), .s (.bool qCB)])] _ _
 refine run3 Tryz.func43 (by rfl) (by rfl) (by cbv) ⟨by decide, rfl⟩ ?_
 intro ar cm bo sc sa sx ss sl bs sb ln sr ap up rp fr ge le lt nz mm ma sm fl al ci hL F hP hA hT hM hC
 refine Run.seq ?_
 refine Run.region hL hT [] (by cbv) hq0 ?_
 refine Run.seq ?_
 refine Run.region hL hT [] (by cbv) hq0 ?_
 obtain ⟨K2, h_K2, h⟩ := joinE h
 refine Run.join1 K2 (r := r) (fun (y1 : Int) => ⟨63, 100000, [(0, .pt 0 0 0), (2, .pt 1 0 0), (3, .t (.s (.int .i64 y1)))], [(0, .box 43 [.t (.s (.string qn)), .t (.s (.bool qCB))]), (1, .box 27 [.t (.s (.int .i64 0)), .t (.s (.int .i64 0)), .t (.s (.string ByteArray.empty)), .t (.s (.slice none 0 0)), .t (.s (.slice none 0 0))])]⟩) ?_ ?_
 ·
  skip
  refine Run.block ?_
  refine Run.loop1 (fun (z9 : Int) => ⟨63, 100000, [(0, .pt 0 0 0), (2, .pt 1 0 0), (3, .t (.s (.int .i64 z9)))], [(0, .box 43 [.t (.s (.string qn)), .t (.s (.bool qCB))]), (1, .box 27 [.t (.s (.int .i64 0)), .t (.s (.int .i64 0)), .t (.s (.string ByteArray.empty)), .t (.s (.slice none 0 0)), .t (.s (.slice none 0 0))])]⟩) (x0 := 0) h (Weak.of _ [(0, 0), (1, 1)] hA (by cbv) ?_) (fun _ => rfl) ?_
  · repeat (first | exact hq0 | refine hq (by first | exact Tt | rfl) ?_)
  intro k z9 h
  rw [qR.l0] at h
  refine Run.seq ?_
  refine Run.seq ?_
  obtain ⟨u10, h_u10, h⟩ := bnd h
  obtain ⟨r11, h_r11, h⟩ := bnd h
  obtain ⟨u12, h_u12, h⟩ := bnd h
  refine Run.region hL hT [(15, .call [false, false, false] [.v (.jk), .v (.jk), .v (.jk)] [.v (.s (.bool r11))])] (by cbv) ?_ ?_
  · exact (hq Tt (hq Tt (hq (fun _ => hq0) (hq (fun g14 => (hq g14 hq0)) (hq (fun g15 => (hq g15 hq0)) (hq (fun g16 => (hq g16 (hq Tt hq0))) (hq (fun _ => hq0) (hq (fun g18 => (hq g18 (hq g18 (hq (inS_0 (gd_t h_u10 g18)) (hq (inS_1 (gd_t h_u10 g18)) hq0))))) (hq (fun g19 => (hq g19 hq0)) (hq (fun g20 => (hq g20 (hq (hC (qID (gd_t h_r11 g20))) hq0))) (hq (fun g21 => (hq g21 hq0)) (hq (fun _ => hq0) (hq (fun g23 => (hq g23 (hq Tt hq0))) (hq (fun g24 => (hq g24 hq0)) (hq (fun _ => hq0) (hq (fun g26 => (hq g26 hq0)) (hq (fun g27 => (hq g27 hq0)) (hq (fun g28 => (hq g28 (hq Tt hq0))) (hq (fun g29 => (hq g29 (hq (inS_0 (gd_t h_u12 g29)) (hq (inS_1 (gd_t h_u12 g29)) hq0)))) (hq (fun g30 => (hq g30 (hq Tt hq0))) (hq (fun g31 => (hq g31 (hq (fun q32 => (hq (bo_a g31 q32) hq0)) (hq (fun _ => hq0) hq0)))) (hq (fun g34 => (hq g34 (hq (fun _ => hq0) (hq (fun q36 => (hq (bo_a g34 (bo_m q36)) hq0)) hq0)))) (hq (fun q37 => (hq q37 hq0)) (hq (fun _ => hq0) hq0))))))))))))))))))))))))
  refine Run.cond (by cbv) (hq0) (fun c39 => ?_) (fun c39 => ?_)
  ·
   have h := if_t c39 h
   refine Run.skip ?_
   refine Run.block ?_
   refine Run.region hL hT [] (by cbv) ?_ ?_
   · exact (hq Tt hq0)
   refine ⟨(ar .add .i64 z9 1), h, Weak.of _ [(0, 0), (1, 1)] hA (by cbv) ?_⟩
   repeat (first | exact hq0 | refine hq (by first | exact Tt | rfl) ?_)
  have h := if_f c39 h
  refine Run.exit ?_
  refine ⟨z9, h, Weak.of _ [(0, 0), (1, 1)] hA (by cbv) ?_⟩
  repeat (first | exact hq0 | refine hq (by first | exact Tt | rfl) ?_)
 intro y1 h
 rw [h_K2] at h
 refine Run.seq ?_
 obtain ⟨u40, h_u40, h⟩ := bnd h
 obtain ⟨⟨qVT, qpU⟩, h_r41, h⟩ := bnd h
 by_cases hk42 : qpU = true
 ·
  have h := if_t hk42 h
  refine Run.region hL hT [(6, .call [false] [.v (.jk)] [.v (.s (.int .i64 qVT)), .v (.s .nilIface)])] (by cbv) ?_ ?_
  · exact (hq Tt (hq (quE h_u40) (hq (qvE h_u40) (hq (qwE h_u40) (hq (hC (qiH h_r41 hk42)) hq0)))))
  refine Run.seq ?_
  refine Run.seq ?_
  refine Run.region hL hT [] (by cbv) hq0 ?_
  refine Run.cond (by cbv) (hq0) (fun c43 => ?_) (fun c43 => ?_)
  · cases c43
  have h := if_f c43 h
  refine Run.skip ?_
  refine Run.seq ?_
  obtain ⟨u44, h_u44, h⟩ := bnd h
  refine Run.region hL hT [] (by cbv) ?_ ?_
  · exact (hq Tt (hq (quE h_u44) (hq (qvE h_u44) (hq (qwE h_u44) (hq Tt hq0)))))
  refine Run.seq ?_
  refine Run.region hL hT [] (by cbv) ?_ ?_
  · exact (hq Tt hq0)
  refine Run.ret ?_
  cases h
  refine ⟨_, _, by cbv, ?_, ?_⟩
  · exact LLe.r
  exact (ALe.ag rfl (LLe.c (LLe.c (LLe.c (LLe.cons LLe.nilO (LLe.cons LLe.nilO LLe.nil))))) ALe.nil)
 rw [Bool.not_eq_true] at hk42
 have h := if_f hk42 h
 refine Run.region hL hT [(6, .call [false] [.v (.jk)] [.v (.s (.int .i64 qVT)), .v (.er)])] (by cbv) ?_ ?_
 · exact (hq Tt (hq (quE h_u40) (hq (qvE h_u40) (hq (qwE h_u40) (hq (hC (qjH h_r41 hk42)) hq0)))))
 refine Run.seq ?_
 refine Run.seq ?_
 refine Run.region hL hT [] (by cbv) hq0 ?_
 refine Run.cond (by cbv) (hq0) (fun c45 => ?_) (fun c45 => ?_)
 ·
  have h := if_t c45 h
  refine Run.region hL hT [] (by cbv) ?_ ?_
  · exact (hq Tt hq0)
  refine Run.seq ?_
  obtain ⟨u46, h_u46, h⟩ := bnd h
  refine Run.region hL hT [] (by cbv) ?_ ?_
  · exact (hq Tt (hq (quE h_u46) (hq (qvE h_u46) (hq (qwE h_u46) (hq Tt hq0)))))
  refine Run.seq ?_
  refine Run.region hL hT [] (by cbv) ?_ ?_
  · exact (hq Tt hq0)
  refine Run.ret ?_
  cases h
  refine ⟨_, _, by cbv, ?_, ?_⟩
  · exact LLe.r
  exact (ALe.ag rfl (LLe.c (LLe.c (LLe.c (LLe.cons LLe.nilO (LLe.cons LLe.nilO LLe.nil))))) ALe.nil)
 cases c45
theorem qWF (self : reader → Int → Option (reader × Json)) (hself : ∀ {qn : ByteArray} {qCB : Bool} {a1 : Int} {r : reader × Json} (h : self (reader.mk qn qCB) a1 = some r), AC Tryz.prog 23 [.v (.bx 43 [.s (.string qn), .s (.bool qCB)]), .v (.s (.int .i64 a1))] [.v (.bx 43 [.s (.string r.1.text), .s (.bool r.1.bad)]), .v (.jk)] [.ag [.s (.int .i64 r.2.Kind), .s (.int .i64 r.2.N), .s (.string r.2.S), .ow 27 (rowsOf qx r.2.List_), .ow 9 (rowsOf Str_c r.2.Names)]]) {qn : ByteArray} {qCB : Bool} {a1 : Int} {r : reader × Json} (h : qG.b self (reader.mk qn qCB) a1 = some r) : AC Tryz.prog 23 [.v (.bx 43 [.s (.string qn), .s (.bool qCB)]), .v (.s (.int .i64 a1))] [.v (.bx 43 [.s (.string r.1.text), .s (.bool r.1.bad)]), .v (.jk)] [.ag [.s (.int .i64 r.2.Kind), .s (.int .i64 r.2.N), .s (.string r.2.S), .ow 27 (rowsOf qx r.2.List_), .ow 9 (rowsOf Str_c r.2.Names)]] := by
 unfold qG.b at h
 let qh := rowsOf qx
 let qD := rowsOf Str_c
 show AC Tryz.prog 23 [.v (.bx 43 [.s (.string qn), .s (.bool qCB)]), .v (.s (.int .i64 a1))] _ _
 refine run3 Tryz.func23 (by rfl) (by rfl) (by cbv) ⟨by decide, rfl⟩ ?_
 intro ar cm bo sc sa sx ss sl bs sb ln sr ap up rp fr ge le lt nz mm ma sm fl al ci hL F hP hA hT hM hC
 refine Run.seq ?_
 refine Run.region hL hT [] (by cbv) hq0 ?_
 refine Run.seq ?_
 refine Run.seq ?_
 refine Run.region hL hT [] (by cbv) ?_ ?_
 · exact (hq Tt (hq (fun _ => hq0) (hq (fun g2 => (hq g2 hq0)) (hq (fun g3 => (hq g3 hq0)) (hq (fun g4 => (hq g4 (hq Tt hq0))) (hq (fun _ => hq0) (hq (fun q6 => (hq (bo_m q6) hq0)) hq0)))))))
 refine Run.cond (by cbv) (hq0) (fun c7 => ?_) (fun c7 => ?_)
 ·
  have h := if_t c7 h
  refine Run.seq ?_
  refine Run.region hL hT [] (by cbv) ?_ ?_
  · exact (hq Tt hq0)
  refine Run.seq ?_
  refine Run.region hL hT [] (by cbv) ?_ ?_
  · exact (hq Tt hq0)
  refine Run.ret ?_
  cases h
  refine ⟨_, _, by cbv, ?_, ?_⟩
  · exact LLe.r
  exact (ALe.ag rfl (LLe.c (LLe.c (LLe.c (LLe.cons LLe.nilO (LLe.cons LLe.nilO LLe.nil))))) ALe.nil)
 have h := if_f c7 h
 refine Run.skip ?_
 refine Run.seq ?_
 refine Run.block ?_
 refine Run.seq ?_
 obtain ⟨⟨⟨qAO, qgP⟩, r8v_2⟩, h_r8, h⟩ := bnd h
 refine Run.region hL hT [(1, .call [true, false] [.v (.bx 43 [.s (.string qAO), .s (.bool qgP)]), .v (.jk)] [.v (.s (.bool r8v_2))])] (by cbv) ?_ ?_
 · exact (hq (hC (qu h_r8)) hq0)
 refine Run.cond (by cbv) (hq0) (fun c9 => ?_) (fun c9 => ?_)
 ·
  have h := if_t c9 h
  refine Run.seq ?_
  refine Run.region hL hT [] (by cbv) ?_ ?_
  · exact (hq Tt hq0)
  refine Run.ret ?_
  cases h
  refine ⟨_, _, by cbv, ?_, ?_⟩
  · exact LLe.r
  exact (ALe.ag rfl (LLe.c (LLe.c (LLe.c (LLe.cons LLe.nilO (LLe.cons LLe.nilO LLe.nil))))) ALe.nil)
 have h := if_f c9 h
 refine Run.seq ?_
 obtain ⟨⟨⟨qpM, qBO⟩, qhM⟩, h_r10, h⟩ := bnd h
 refine Run.region hL hT [(1, .call [true, false] [.v (.bx 43 [.s (.string qpM), .s (.bool qBO)]), .v (.jk)] [.v (.s (.bool qhM))])] (by cbv) ?_ ?_
 · exact (hq (hC (qu h_r10)) hq0)
 refine Run.cond (by cbv) (hq0) (fun c11 => ?_) (fun c11 => ?_)
 ·
  have h := if_t c11 h
  refine Run.seq ?_
  refine Run.region hL hT [] (by cbv) ?_ ?_
  · exact (hq Tt hq0)
  refine Run.ret ?_
  cases h
  refine ⟨_, _, by cbv, ?_, ?_⟩
  · exact LLe.r
  exact (ALe.ag rfl (LLe.c (LLe.c (LLe.c (LLe.cons LLe.nilO (LLe.cons LLe.nilO LLe.nil))))) ALe.nil)
 have h := if_f c11 h
 refine Run.seq ?_
 obtain ⟨⟨⟨qrC, qeE⟩, qhI⟩, h_r12, h⟩ := bnd h
 refine Run.region hL hT [(1, .call [true, false] [.v (.bx 43 [.s (.string qrC), .s (.bool qeE)]), .v (.jk)] [.v (.s (.bool qhI))])] (by cbv) ?_ ?_
 · exact (hq (hC (qu h_r12)) hq0)
 refine Run.cond (by cbv) (hq0) (fun c13 => ?_) (fun c13 => ?_)
 ·
  have h := if_t c13 h
  refine Run.seq ?_
  refine Run.region hL hT [] (by cbv) ?_ ?_
  · exact (hq Tt hq0)
  refine Run.ret ?_
  cases h
  refine ⟨_, _, by cbv, ?_, ?_⟩
  · exact LLe.r
  exact (ALe.ag rfl (LLe.c (LLe.c (LLe.c (LLe.cons LLe.nilO (LLe.cons LLe.nilO LLe.nil))))) ALe.nil)
 have h := if_f c13 h
 refine Run.seq ?_
 obtain ⟨r14, h_r14, h⟩ := bnd h
 refine Run.region hL hT [(4, .call [false, false] [.v (.jk), .v (.jk)] [.v (.s (.bool r14))])] (by cbv) ?_ ?_
 · exact (hq Tt (hq (hC (qlF h_r14)) hq0))
 refine Run.cond (by cbv) (hq0) (fun c15 => ?_) (fun c15 => ?_)
 ·
  have h := if_t c15 h
  refine Run.seq ?_
  obtain ⟨⟨⟨qqM, qCO⟩, qqU⟩, h_r16, h⟩ := bnd h
  refine Run.region hL hT [(1, .call [true] [.v (.bx 43 [.s (.string qqM), .s (.bool qCO)])] [.v (.s (.string qqU))])] (by cbv) ?_ ?_
  · exact (hq (hC (qQD h_r16)) hq0)
  refine Run.seq ?_
  refine Run.region hL hT [] (by cbv) ?_ ?_
  · exact (hq Tt hq0)
  refine Run.ret ?_
  cases h
  refine ⟨_, _, by cbv, ?_, ?_⟩
  · exact LLe.r
  exact (ALe.ag rfl (LLe.c (LLe.c (LLe.c (LLe.cons LLe.nilO (LLe.cons LLe.nilO LLe.nil))))) ALe.nil)
 have h := if_f c15 h
 refine Run.seq ?_
 obtain ⟨⟨⟨qrM, qDO⟩, qrU⟩, h_r17, h⟩ := bnd h
 refine Run.region hL hT [(1, .call [true, false] [.v (.bx 43 [.s (.string qrM), .s (.bool qDO)]), .v (.jk)] [.v (.s (.bool qrU))])] (by cbv) ?_ ?_
 · exact (hq (hC (qu h_r17)) hq0)
 refine Run.cond (by cbv) (hq0) (fun c18 => ?_) (fun c18 => ?_)
 ·
  have h := if_t c18 h
  refine Run.seq ?_
  obtain ⟨⟨⟨qsM, qEO⟩, ⟨qtM, qhR, qiR, qGL, qHL⟩⟩, h_r19, h⟩ := bnd h
  refine Run.region hL hT [(2, .call [true, false, false, false] [.v (.bx 43 [.s (.string qsM), .s (.bool qEO)]), .v (.jk), .v (.jk), .v (.jk)] [.ag [.s (.int .i64 qtM), .s (.int .i64 qhR), .s (.string qiR), .ow 27 (qh qGL), .ow 9 (qD qHL)]])] (by cbv) ?_ ?_
  · exact (hq (hC (qVD self hself h_r19)) (hq Tt hq0))
  refine Run.ret ?_
  cases h
  refine ⟨_, _, by cbv, ?_, ?_⟩
  · exact LLe.r
  exact (ALe.ag rfl LLe.r ALe.nil)
 have h := if_f c18 h
 refine Run.seq ?_
 obtain ⟨⟨⟨quM, qFO⟩, qjR⟩, h_r20, h⟩ := bnd h
 refine Run.region hL hT [(1, .call [true, false] [.v (.bx 43 [.s (.string quM), .s (.bool qFO)]), .v (.jk)] [.v (.s (.bool qjR))])] (by cbv) ?_ ?_
 · exact (hq (hC (qu h_r20)) hq0)
 refine Run.cond (by cbv) (hq0) (fun c21 => ?_) (fun c21 => ?_)
 ·
  have h := if_t c21 h
  refine Run.seq ?_
  obtain ⟨⟨⟨qvM, qGO⟩, ⟨qwM, qkR, qlR, qIL, qJL⟩⟩, h_r22, h⟩ := bnd h
  refine Run.region hL hT [(2, .call [true, false, false, false] [.v (.bx 43 [.s (.string qvM), .s (.bool qGO)]), .v (.jk), .v (.jk), .v (.jk)] [.ag [.s (.int .i64 qwM), .s (.int .i64 qkR), .s (.string qlR), .ow 27 (qh qIL), .ow 9 (qD qJL)]])] (by cbv) ?_ ?_
  · exact (hq (hC (qVD self hself h_r22)) (hq Tt hq0))
  refine Run.ret ?_
  cases h
  refine ⟨_, _, by cbv, ?_, ?_⟩
  · exact LLe.r
  exact (ALe.ag rfl LLe.r ALe.nil)
 have h := if_f c21 h
 refine Run.skip ?_
 refine Run.seq ?_
 obtain ⟨⟨⟨qxM, qHO⟩, ⟨qyM, qmR, qnR, qKL, qLL⟩⟩, h_r23, h⟩ := bnd h
 refine Run.region hL hT [(1, .call [true] [.v (.bx 43 [.s (.string qxM), .s (.bool qHO)])] [.ag [.s (.int .i64 qyM), .s (.int .i64 qmR), .s (.string qnR), .ow 27 (qh qKL), .ow 9 (qD qLL)]])] (by cbv) ?_ ?_
 · exact (hq (hC (qVF h_r23)) (hq Tt hq0))
 refine Run.ret ?_
 cases h
 refine ⟨_, _, by cbv, ?_, ?_⟩
 · exact LLe.r
 exact (ALe.ag rfl LLe.r ALe.nil)
theorem qRD : ∀ (k : Nat) {qn : ByteArray} {qCB : Bool} {a1 : Int} {r : reader × Json} (h : qG.g k (reader.mk qn qCB) a1 = some r), AC Tryz.prog 23 [.v (.bx 43 [.s (.string qn), .s (.bool qCB)]), .v (.s (.int .i64 a1))] [.v (.bx 43 [.s (.string r.1.text), .s (.bool r.1.bad)]), .v (.jk)] [.ag [.s (.int .i64 r.2.Kind), .s (.int .i64 r.2.N), .s (.string r.2.S), .ow 27 (rowsOf qx r.2.List_), .ow 9 (rowsOf Str_c r.2.Names)]]
 | 0 => fun h => by cases h
 | k + 1 => fun h => qWF (qG.g k) (qRD k) h
theorem qmF {qn : ByteArray} {qCB : Bool} {a1 : Int} {r : reader × Json} (h : qG.f (reader.mk qn qCB) a1 = some r) : AC Tryz.prog 23 [.v (.bx 43 [.s (.string qn), .s (.bool qCB)]), .v (.s (.int .i64 a1))] [.v (.bx 43 [.s (.string r.1.text), .s (.bool r.1.bad)]), .v (.jk)] [.ag [.s (.int .i64 r.2.Kind), .s (.int .i64 r.2.N), .s (.string r.2.S), .ow 27 (rowsOf qx r.2.List_), .ow 9 (rowsOf Str_c r.2.Names)]] := qRD 20 h
theorem qEG {a0 : ByteArray} {r : Json × Bool} (h : qkC.f a0 = some r) : AC Tryz.prog 8 [.v (.s (.string a0))] [.v (.jk)] [.ag [.s (.int .i64 r.1.Kind), .s (.int .i64 r.1.N), .s (.string r.1.S), .ow 27 (rowsOf qx r.1.List_), .ow 9 (rowsOf Str_c r.1.Names)], .v (.s (.bool r.2))] := by
 unfold qkC.f at h
 let qh := rowsOf qx
 let qD := rowsOf Str_c
 show AC Tryz.prog 8 [.v (.s (.string a0))] _ _
 refine run3 Tryz.func8 (by rfl) (by rfl) (by cbv) ⟨by decide, rfl⟩ ?_
 intro ar cm bo sc sa sx ss sl bs sb ln sr ap up rp fr ge le lt nz mm ma sm fl al ci hL F hP hA hT hM hC
 refine Run.seq ?_
 refine Run.region hL hT [] (by cbv) hq0 ?_
 refine Run.seq ?_
 refine Run.seq ?_
 refine Run.region hL hT [] (by cbv) ?_ ?_
 · exact (hq Tt hq0)
 refine Run.cond (by cbv) (hq0) (fun c1 => ?_) (fun c1 => ?_)
 ·
  have h := if_t c1 h
  refine Run.seq ?_
  refine Run.region hL hT [] (by cbv) ?_ ?_
  · exact (hq Tt hq0)
  refine Run.ret ?_
  cases h
  refine ⟨_, _, by cbv, ?_, ?_⟩
  · exact LLe.r
  exact (ALe.ag rfl (LLe.c (LLe.c (LLe.c (LLe.cons LLe.nilO (LLe.cons LLe.nilO LLe.nil))))) (ALe.v LLe.r ALe.nil))
 have h := if_f c1 h
 refine Run.skip ?_
 refine Run.seq ?_
 refine Run.region hL hT [] (by cbv) hq0 ?_
 refine Run.seq ?_
 obtain ⟨⟨⟨qIO, qhP⟩, ⟨qOG, quK, qvK, qOF, qPF⟩⟩, h_r2, h⟩ := bnd h
 refine Run.region hL hT [(1, .call [true, false] [.v (.bx 43 [.s (.string qIO), .s (.bool qhP)]), .v (.jk)] [.ag [.s (.int .i64 qOG), .s (.int .i64 quK), .s (.string qvK), .ow 27 (qh qOF), .ow 9 (qD qPF)]])] (by cbv) ?_ ?_
 · exact (hq (hC (qmF h_r2)) (hq Tt hq0))
 refine Run.seq ?_
 refine Run.seq ?_
 obtain ⟨r3, h_r3, h⟩ := bnd h
 refine Run.region hL hT [(6, .call [false] [.ag [.jk, .jk, .jk, .jk, .jk]] [.v (.s (.string r3))])] (by cbv) ?_ ?_
 · exact (hq Tt (hq (fun g4 => (hq Tt hq0)) (hq (fun g5 => (hq g5 (hq (hC (AC.args (qKD (gd_t h_r3 g5)) (ALe.ag rfl (LLe.c (LLe.c (LLe.c (LLe.cons (LLe.im (RLe.eq (qxB qxD _))) (LLe.cons (LLe.im (RLe.eq (qxB qwB _))) LLe.nil))))) ALe.nil))) hq0))) (hq (fun _ => hq0) (hq (fun g7 => (hq g7 (hq g7 hq0))) (hq (fun _ => hq0) (hq (fun q9 => (hq (bo_m q9) hq0)) hq0)))))))
 refine Run.cond (by cbv) (hq0) (fun c10 => ?_) (fun c10 => ?_)
 ·
  have h := if_t c10 h
  refine Run.seq ?_
  refine Run.region hL hT [] (by cbv) ?_ ?_
  · exact (hq Tt hq0)
  refine Run.ret ?_
  cases h
  refine ⟨_, _, by cbv, ?_, ?_⟩
  · exact LLe.r
  exact (ALe.ag rfl (LLe.c (LLe.c (LLe.c (LLe.cons LLe.nilO (LLe.cons LLe.nilO LLe.nil))))) (ALe.v LLe.r ALe.nil))
 have h := if_f c10 h
 refine Run.skip ?_
 refine Run.seq ?_
 refine Run.region hL hT [] (by cbv) ?_ ?_
 · exact (hq Tt (hq Tt hq0))
 refine Run.ret ?_
 cases h
 refine ⟨_, _, by cbv, ?_, ?_⟩
 · exact LLe.r
 exact (ALe.ag rfl LLe.r (ALe.v LLe.r ALe.nil))
theorem qmE {a0 : List ByteArray} {a1 : List ByteArray} {r : Bool} (h : qi.f a0 a1 = some r) : AC Tryz.prog 44 [.v (.im false (rowsOf Str_c a0)), .v (.im false (rowsOf Str_c a1))] [.v (.jk), .v (.jk)] [.v (.s (.bool r))] := by
 unfold qi.f at h
 let qD := rowsOf Str_c
 let qDB := @lenI ByteArray
 show AC Tryz.prog 44 [.v (.im false (qD a0)), .v (.im false (qD a1))] _ _
 refine run3 Tryz.func44 (by rfl) (by rfl) (by cbv) ⟨by decide, rfl⟩ ?_
 intro ar cm bo sc sa sx ss sl bs sb ln sr ap up rp fr ge le lt nz mm ma sm fl al ci hL F hP hA hT hM hC
 refine Run.seq ?_
 refine Run.region hL hT [] (by cbv) hq0 ?_
 refine Run.seq ?_
 refine Run.seq ?_
 refine Run.region hL hT [] (by cbv) ?_ ?_
 · exact (hq Tt hq0)
 rw [show ln (qD a0) = qDB a0 from ln_eq Str_c _]
 rw [show ln (qD a1) = qDB a1 from ln_eq Str_c _]
 refine Run.cond (by cbv) (hq0) (fun c1 => ?_) (fun c1 => ?_)
 ·
  have h := if_t c1 h
  refine Run.seq ?_
  refine Run.region hL hT [] (by cbv) hq0 ?_
  refine Run.ret ?_
  cases h
  refine ⟨_, _, by cbv, ?_, ?_⟩
  · exact LLe.r
  exact (ALe.v LLe.r ALe.nil)
 have h := if_f c1 h
 refine Run.skip ?_
 refine Run.seq ?_
 refine Run.seq ?_
 refine Run.region hL hT [] (by cbv) hq0 ?_
 rw [show ln (qD a0) = qDB a0 from ln_eq Str_c _]
 refine Run.block ?_
 refine Run.loop1 (fun (z6 : Int) => ⟨26, 100000, [(0, .t (.im false (qD a0))), (1, .t (.im false (qD a1))), (12, .t (.s (.int .i64 (qDB a0)))), (13, .t (.s (.int .i64 z6)))], []⟩) (x0 := 0) h (Weak.of _ [] hA (by cbv) ?_) (fun _ => rfl) ?_
 · repeat (first | exact hq0 | refine hq (by first | exact Tt | rfl) ?_)
 intro k z6 h
 rw [qi.l0] at h
 refine Run.seq ?_
 refine Run.region hL hT [] (by cbv) ?_ ?_
 · exact (hq Tt hq0)
 refine Run.seq ?_
 refine Run.cond (by cbv) (hq0) (fun c7 => ?_) (fun c7 => ?_)
 ·
  have h := if_t c7 h
  refine Run.skip ?_
  refine Run.seq ?_
  refine Run.block ?_
  refine Run.seq ?_
  refine Run.region hL hT [] (by cbv) hq0 ?_
  refine Run.seq ?_
  obtain ⟨x8, h_x8, h⟩ := bnd h
  obtain ⟨x9, h_x9, h⟩ := bnd h
  refine Run.draw hL hT hM [(2, .el [.s (.string x8)]), (6, .el [.s (.string x9)])] (by cbv) (qA (by cbv) (by cbv) (qA (by cbv) (by cbv) (qA (by cbv) (by cbv) (qA (by cbv) (by cbv) (qA (by cbv) (by cbv) (qA (by cbv) (by cbv) (qA (by cbv) (by cbv) (qA (by cbv) (by cbv) (qA (by cbv) (by cbv) ql))))))))) (by cbv) (by cbv) (by cbv) ?_ ?_
  · exact (hq (qoB h_x8) (hq (qqB (f := Str_c) h_x8) (hq (qdC (f := Str_c) h_x8) (hq (qoB h_x9) (hq (qqB (f := Str_c) h_x9) (hq (qdC (f := Str_c) h_x9) hq0))))))
  refine Run.cond (by cbv) (hq0) (fun c10 => ?_) (fun c10 => ?_)
  ·
   have h := if_t c10 h
   refine Run.seq ?_
   refine Run.region hL hT [] (by cbv) hq0 ?_
   refine Run.ret ?_
   cases h
   refine ⟨_, _, by cbv, ?_, ?_⟩
   · exact LLe.r
   exact (ALe.v LLe.r ALe.nil)
  have h := if_f c10 h
  refine Run.skip ?_
  refine Run.region hL hT [] (by cbv) ?_ ?_
  · exact (hq Tt hq0)
  refine ⟨(ar .add .i64 z6 1), h, Weak.of _ [] hA (by cbv) ?_⟩
  repeat (first | exact hq0 | refine hq (by first | exact Tt | rfl) ?_)
 have h := if_f c7 h
 refine Run.exit ?_
 refine Run.seq ?_
 refine Run.region hL hT [] (by cbv) hq0 ?_
 refine Run.ret ?_
 cases h
 refine ⟨_, _, by cbv, ?_, ?_⟩
 · exact LLe.r
 exact (ALe.v LLe.r ALe.nil)
theorem qMC (self : Json → Json → Option Bool) (hself : ∀ {qE : Int} {a0v_N : Int} {a0v_S : ByteArray} {qB : List Json} {qC : List ByteArray} {qhB : Int} {a1v_N : Int} {a1v_S : ByteArray} {qQB : List Json} {qRB : List ByteArray} {r : Bool} (h : self (Json.mk qE a0v_N a0v_S qB qC) (Json.mk qhB a1v_N a1v_S qQB qRB) = some r), AC Tryz.prog 24 [.ag [.s (.int .i64 qE), .s (.int .i64 a0v_N), .s (.string a0v_S), .im false (rowsOf qN qB), .im false (rowsOf Str_c qC)], .ag [.s (.int .i64 qhB), .s (.int .i64 a1v_N), .s (.string a1v_S), .im false (rowsOf qN qQB), .im false (rowsOf Str_c qRB)]] [.ag [.jk, .jk, .jk, .jk, .jk], .ag [.jk, .jk, .jk, .jk, .jk]] [.v (.s (.bool r))]) {a0 : List Json} {a1 : List Json} {r : Bool} (h : qH.f self a0 a1 = some r) : AC Tryz.prog 45 [.v (.im false (rowsOf qN a0)), .v (.im false (rowsOf qN a1)), .v (.fn 24 [])] [.v (.jk), .v (.jk), .v (.jk)] [.v (.s (.bool r))] := by
 unfold qH.f at h
 let qM := rowsOf qN
 let qD := rowsOf Str_c
 let qV := @lenI Json
 show AC Tryz.prog 45 [.v (.im false (qM a0)), .v (.im false (qM a1)), .v (.fn 24 [])] _ _
 refine run3 Tryz.func45 (by rfl) (by rfl) (by cbv) ⟨by decide, rfl⟩ ?_
 intro ar cm bo sc sa sx ss sl bs sb ln sr ap up rp fr ge le lt nz mm ma sm fl al ci hL F hP hA hT hM hC
 refine Run.weak ?_ (Weak.fnT 2 (by cbv))
 refine Run.seq ?_
 refine Run.region hL hT [] (by cbv) hq0 ?_
 refine Run.seq ?_
 refine Run.seq ?_
 refine Run.region hL hT [] (by cbv) ?_ ?_
 · exact (hq Tt hq0)
 rw [show ln (qM a0) = qV a0 from ln_eq qN _]
 rw [show ln (qM a1) = qV a1 from ln_eq qN _]
 refine Run.cond (by cbv) (hq0) (fun c1 => ?_) (fun c1 => ?_)
 ·
  have h := if_t c1 h
  refine Run.seq ?_
  refine Run.region hL hT [] (by cbv) hq0 ?_
  refine Run.ret ?_
  cases h
  refine ⟨_, _, by cbv, ?_, ?_⟩
  · exact LLe.r
  exact (ALe.v LLe.r ALe.nil)
 have h := if_f c1 h
 refine Run.skip ?_
 refine Run.seq ?_
 refine Run.seq ?_
 refine Run.region hL hT [] (by cbv) hq0 ?_
 rw [show ln (qM a0) = qV a0 from ln_eq qN _]
 refine Run.block ?_
 refine Run.loop1 (fun (z6 : Int) => ⟨32, 100000, [(1, .t (.im false (qM a1))), (2, .fn 24 []), (15, .t (.im false (qM a0))), (16, .t (.s (.int .i64 (qV a0)))), (17, .t (.s (.int .i64 z6)))], []⟩) (x0 := 0) h (Weak.of _ [] hA (by cbv) ?_) (fun _ => rfl) ?_
 · repeat (first | exact hq0 | refine hq (by first | exact Tt | rfl) ?_)
 intro k z6 h
 rw [qH.l0] at h
 refine Run.seq ?_
 refine Run.region hL hT [] (by cbv) ?_ ?_
 · exact (hq Tt hq0)
 refine Run.seq ?_
 refine Run.cond (by cbv) (hq0) (fun c7 => ?_) (fun c7 => ?_)
 ·
  have h := if_t c7 h
  refine Run.skip ?_
  refine Run.seq ?_
  refine Run.block ?_
  refine Run.seq ?_
  obtain ⟨⟨qvS, x8v_N, x8v_S, qoR, qpR⟩, h_x8, h⟩ := bnd h
  refine Run.region hL hT [(1, .el [.s (.int .i64 qvS), .s (.int .i64 x8v_N), .s (.string x8v_S), .im false (qM qoR), .im false (qD qpR)])] (by cbv) ?_ ?_
  · exact (hq (qoB h_x8) (hq (qqB (f := qN) h_x8) (hq (qxE quC h_x8) (hq Tt hq0))))
  refine Run.seq ?_
  obtain ⟨⟨qwS, x9v_N, x9v_S, qqR, qrR⟩, h_x9, h⟩ := bnd h
  refine Run.region hL hT [(2, .el [.s (.int .i64 qwS), .s (.int .i64 x9v_N), .s (.string x9v_S), .im false (qM qqR), .im false (qD qrR)])] (by cbv) ?_ ?_
  · exact (hq (qoB h_x9) (hq (qqB (f := qN) h_x9) (hq (qxE quC h_x9) (hq Tt hq0))))
  refine Run.seq ?_
  obtain ⟨r10, h_r10, h⟩ := bnd h
  refine Run.region hL hT [(3, .call [false, false] [.ag [.jk, .jk, .jk, .jk, .jk], .ag [.jk, .jk, .jk, .jk, .jk]] [.v (.s (.bool r10))])] (by cbv) ?_ ?_
  · exact (hq Tt (hq Tt (hq (hC (hself h_r10)) hq0)))
  refine Run.cond (by cbv) (hq0) (fun c11 => ?_) (fun c11 => ?_)
  ·
   have h := if_t c11 h
   refine Run.seq ?_
   refine Run.region hL hT [] (by cbv) hq0 ?_
   refine Run.ret ?_
   cases h
   refine ⟨_, _, by cbv, ?_, ?_⟩
   · exact LLe.r
   exact (ALe.v LLe.r ALe.nil)
  have h := if_f c11 h
  refine Run.skip ?_
  refine Run.region hL hT [] (by cbv) ?_ ?_
  · exact (hq Tt hq0)
  refine ⟨(ar .add .i64 z6 1), h, Weak.of _ [] hA (by cbv) ?_⟩
  repeat (first | exact hq0 | refine hq (by first | exact Tt | rfl) ?_)
 have h := if_f c7 h
 refine Run.exit ?_
 refine Run.seq ?_
 refine Run.region hL hT [] (by cbv) hq0 ?_
 refine Run.ret ?_
 cases h
 refine ⟨_, _, by cbv, ?_, ?_⟩
 · exact LLe.r
 exact (ALe.v LLe.r ALe.nil)
theorem qWJ (self : Json → Json → Option Bool) (hself : ∀ {qE : Int} {a0v_N : Int} {a0v_S : ByteArray} {qB : List Json} {qC : List ByteArray} {qhB : Int} {a1v_N : Int} {a1v_S : ByteArray} {qQB : List Json} {qRB : List ByteArray} {r : Bool} (h : self (Json.mk qE a0v_N a0v_S qB qC) (Json.mk qhB a1v_N a1v_S qQB qRB) = some r), AC Tryz.prog 24 [.ag [.s (.int .i64 qE), .s (.int .i64 a0v_N), .s (.string a0v_S), .im false (rowsOf qN qB), .im false (rowsOf Str_c qC)], .ag [.s (.int .i64 qhB), .s (.int .i64 a1v_N), .s (.string a1v_S), .im false (rowsOf qN qQB), .im false (rowsOf Str_c qRB)]] [.ag [.jk, .jk, .jk, .jk, .jk], .ag [.jk, .jk, .jk, .jk, .jk]] [.v (.s (.bool r))]) {qE : Int} {a0v_N : Int} {a0v_S : ByteArray} {qB : List Json} {qC : List ByteArray} {qhB : Int} {a1v_N : Int} {a1v_S : ByteArray} {qQB : List Json} {qRB : List ByteArray} {r : Bool} (h : qWB.b self (Json.mk qE a0v_N a0v_S qB qC) (Json.mk qhB a1v_N a1v_S qQB qRB) = some r) : AC Tryz.prog 24 [.ag [.s (.int .i64 qE), .s (.int .i64 a0v_N), .s (.string a0v_S), .im false (rowsOf qN qB), .im false (rowsOf Str_c qC)], .ag [.s (.int .i64 qhB), .s (.int .i64 a1v_N), .s (.string a1v_S), .im false (rowsOf qN qQB), .im false (rowsOf Str_c qRB)]] [.ag [.jk, .jk, .jk, .jk, .jk], .ag [.jk, .jk, .jk, .jk, .jk]] [.v (.s (.bool r))] := by
 unfold qWB.b at h
 let qM := rowsOf qN
 let qD := rowsOf Str_c
 show AC Tryz.prog 24 [.ag [.s (.int .i64 qE), .s (.int .i64 a0v_N), .s (.string a0v_S), .im false (qM qB), .im false (qD qC)], .ag [.s (.int .i64 qhB), .s (.int .i64 a1v_N), .s (.string a1v_S), .im false (qM qQB), .im false (qD qRB)]] _ _
 refine run3 Tryz.func24 (by rfl) (by rfl) (by cbv) ⟨by decide, rfl⟩ ?_
 intro ar cm bo sc sa sx ss sl bs sb ln sr ap up rp fr ge le lt nz mm ma sm fl al ci hL F hP hA hT hM hC
 refine Run.seq ?_
 refine Run.region hL hT [] (by cbv) hq0 ?_
 refine Run.seq ?_
 obtain ⟨r1, h_r1, h⟩ := bnd h
 obtain ⟨r2, h_r2, h⟩ := bnd h
 refine Run.region hL hT [(24, .call [false, false] [.v (.jk), .v (.jk)] [.v (.s (.bool r1))]), (31, .call [false, false, false] [.v (.jk), .v (.jk), .v (.jk)] [.v (.s (.bool r2))])] (by cbv) ?_ ?_
 · exact (hq Tt (hq Tt (hq Tt (hq (fun _ => hq0) (hq (fun g4 => (hq g4 (hq Tt hq0))) (hq (fun _ => hq0) (hq (fun g6 => (hq g6 (hq Tt hq0))) (hq (fun g7 => (hq g7 (hq g7 (hq Tt hq0)))) (hq (fun q8 => (hq q8 hq0)) (hq (fun _ => hq0) (hq (fun _ => hq0) (hq (fun g11 => (hq g11 (hq Tt hq0))) (hq (fun _ => hq0) (hq (fun g13 => (hq g13 (hq Tt hq0))) (hq (fun g14 => (hq g14 (hq g14 hq0))) (hq (fun q15 => (hq q15 hq0)) (hq (fun _ => hq0) (hq (fun _ => hq0) (hq (fun g18 => (hq g18 (hq Tt hq0))) (hq (fun _ => hq0) (hq (fun g20 => (hq g20 (hq Tt hq0))) (hq (fun g21 => (hq g21 (hq g21 (hq (hC (qmE (gd_t h_r1 g21))) hq0)))) (hq (fun q22 => (hq q22 hq0)) (hq (fun _ => hq0) (hq (fun _ => hq0) (hq (fun g25 => (hq g25 (hq Tt hq0))) (hq (fun _ => hq0) (hq (fun g27 => (hq g27 (hq Tt hq0))) (hq (fun g28 => (hq g28 (hq g28 (hq (hC (qMC self hself (gd_t h_r2 g28))) hq0)))) (hq (fun q29 => (hq q29 hq0)) (hq (fun _ => hq0) hq0)))))))))))))))))))))))))))))))
 refine Run.ret ?_
 cases h
 refine ⟨_, _, by cbv, ?_, ?_⟩
 · exact LLe.r
 exact (ALe.v LLe.r ALe.nil)
theorem qFG : ∀ (k : Nat) {qE : Int} {a0v_N : Int} {a0v_S : ByteArray} {qB : List Json} {qC : List ByteArray} {qhB : Int} {a1v_N : Int} {a1v_S : ByteArray} {qQB : List Json} {qRB : List ByteArray} {r : Bool} (h : qWB.g k (Json.mk qE a0v_N a0v_S qB qC) (Json.mk qhB a1v_N a1v_S qQB qRB) = some r), AC Tryz.prog 24 [.ag [.s (.int .i64 qE), .s (.int .i64 a0v_N), .s (.string a0v_S), .im false (rowsOf qN qB), .im false (rowsOf Str_c qC)], .ag [.s (.int .i64 qhB), .s (.int .i64 a1v_N), .s (.string a1v_S), .im false (rowsOf qN qQB), .im false (rowsOf Str_c qRB)]] [.ag [.jk, .jk, .jk, .jk, .jk], .ag [.jk, .jk, .jk, .jk, .jk]] [.v (.s (.bool r))]
 | 0 => fun h => by cases h
 | k + 1 => fun h => qWJ (qWB.g k) (qFG k) h
theorem qML {qE : Int} {a0v_N : Int} {a0v_S : ByteArray} {qB : List Json} {qC : List ByteArray} {qhB : Int} {a1v_N : Int} {a1v_S : ByteArray} {qQB : List Json} {qRB : List ByteArray} {r : Bool} (h : qWB.f (Json.mk qE a0v_N a0v_S qB qC) (Json.mk qhB a1v_N a1v_S qQB qRB) = some r) : AC Tryz.prog 24 [.ag [.s (.int .i64 qE), .s (.int .i64 a0v_N), .s (.string a0v_S), .im false (rowsOf qN qB), .im false (rowsOf Str_c qC)], .ag [.s (.int .i64 qhB), .s (.int .i64 a1v_N), .s (.string a1v_S), .im false (rowsOf qN qQB), .im false (rowsOf Str_c qRB)]] [.ag [.jk, .jk, .jk, .jk, .jk], .ag [.jk, .jk, .jk, .jk, .jk]] [.v (.s (.bool r))] := qFG 20 h
theorem qkH {qE : Int} {a0v_N : Int} {a0v_S : ByteArray} {qB : List Json} {qC : List ByteArray} {qhB : Int} {a1v_N : Int} {a1v_S : ByteArray} {qQB : List Json} {qRB : List ByteArray} {r : Bool} (h : qtC.f (Json.mk qE a0v_N a0v_S qB qC) (Json.mk qhB a1v_N a1v_S qQB qRB) = some r) : AC Tryz.prog 9 [.ag [.s (.int .i64 qE), .s (.int .i64 a0v_N), .s (.string a0v_S), .im false (rowsOf qN qB), .im false (rowsOf Str_c qC)], .ag [.s (.int .i64 qhB), .s (.int .i64 a1v_N), .s (.string a1v_S), .im false (rowsOf qN qQB), .im false (rowsOf Str_c qRB)]] [.ag [.jk, .jk, .jk, .jk, .jk], .ag [.jk, .jk, .jk, .jk, .jk]] [.v (.s (.bool r))] := by
 unfold qtC.f at h
 let qM := rowsOf qN
 let qD := rowsOf Str_c
 show AC Tryz.prog 9 [.ag [.s (.int .i64 qE), .s (.int .i64 a0v_N), .s (.string a0v_S), .im false (qM qB), .im false (qD qC)], .ag [.s (.int .i64 qhB), .s (.int .i64 a1v_N), .s (.string a1v_S), .im false (qM qQB), .im false (qD qRB)]] _ _
 refine run3 Tryz.func9 (by rfl) (by rfl) (by cbv) ⟨by decide, rfl⟩ ?_
 intro ar cm bo sc sa sx ss sl bs sb ln sr ap up rp fr ge le lt nz mm ma sm fl al ci hL F hP hA hT hM hC
 refine Run.seq ?_
 refine Run.region hL hT [] (by cbv) hq0 ?_
 refine Run.seq ?_
 obtain ⟨r1, h_r1, h⟩ := bnd h
 obtain ⟨r2, h_r2, h⟩ := bnd h
 obtain ⟨r3, h_r3, h⟩ := bnd h
 refine Run.region hL hT [(1, .call [false] [.ag [.jk, .jk, .jk, .jk, .jk]] [.v (.s (.bool r1))]), (4, .call [false] [.ag [.jk, .jk, .jk, .jk, .jk]] [.v (.s (.bool r2))]), (9, .call [false, false] [.ag [.jk, .jk, .jk, .jk, .jk], .ag [.jk, .jk, .jk, .jk, .jk]] [.v (.s (.bool r3))])] (by cbv) ?_ ?_
 · exact (hq Tt (hq (hC (qJD h_r1)) (hq (fun g4 => (hq Tt hq0)) (hq (fun g5 => (hq g5 (hq (hC (qJD (gd_t h_r2 g5))) hq0))) (hq (fun q6 => (hq q6 hq0)) (hq (fun _ => hq0) (hq (fun g8 => (hq Tt hq0)) (hq (fun g9 => (hq Tt hq0)) (hq (fun g10 => (hq g10 (hq g10 (hq (hC (qML (gd_t h_r3 g10))) hq0)))) (hq (fun q11 => (hq q11 hq0)) (hq (fun _ => hq0) hq0)))))))))))
 refine Run.ret ?_
 cases h
 refine ⟨_, _, by cbv, ?_, ?_⟩
 · exact LLe.r
 exact (ALe.v LLe.r ALe.nil)
theorem laws_FnText_ac {a0 : List Int} {r : Bool} (h : qWE.f a0 = some r) : AC Tryz.prog 3 [.v (.im true (rowsOf u8_c a0))] [.v (.jk)] [.v (.s (.bool r))] := by
 unfold qWE.f at h
 let qM := rowsOf qN
 let qJ := rowsOf qr
 let qh := rowsOf qx
 let qD := rowsOf Str_c
 let eu8_c := rowsOf u8_c
 show AC Tryz.prog 3 [.v (.im true (eu8_c a0))] _ _
 refine run3 Tryz.func3 (by rfl) (by rfl) (by cbv) ⟨by decide, rfl⟩ ?_
 intro ar cm bo sc sa sx ss sl bs sb ln sr ap up rp fr ge le lt nz mm ma sm fl al ci hL F hP hA hT hM hC
 refine Run.seq ?_
 refine Run.region hL hT [] (by cbv) hq0 ?_
 refine Run.seq ?_
 refine Run.seq ?_
 obtain ⟨r1, h_r1, h⟩ := bnd h
 refine Run.region hL hT [(1, .call [false] [.v (.jk)] [.v (.s (.bool r1))])] (by cbv) ?_ ?_
 · exact (hq (hC (qwN h_r1)) hq0)
 refine Run.cond (by cbv) (hq0) (fun c2 => ?_) (fun c2 => ?_)
 ·
  have h := if_t c2 h
  refine Run.seq ?_
  refine Run.region hL hT [] (by cbv) hq0 ?_
  refine Run.ret ?_
  cases h
  refine ⟨_, _, by cbv, ?_, ?_⟩
  · exact LLe.r
  exact (ALe.v LLe.r ALe.nil)
 have h := if_f c2 h
 refine Run.skip ?_
 refine Run.seq ?_
 obtain ⟨⟨qxS, r3v_N, r3v_S, qsR, qtR⟩, h_r3, h⟩ := bnd h
 refine Run.region hL hT [(1, .call [true] [.v (.jk)] [.ag [.s (.int .i64 qxS), .s (.int .i64 r3v_N), .s (.string r3v_S), .im true (qJ qsR), .im true (qD qtR)]])] (by cbv) ?_ ?_
 · exact (hq (hC (qnG h_r3)) (hq Tt hq0))
 refine Run.seq ?_
 obtain ⟨r4, h_r4, h⟩ := bnd h
 refine Run.region hL hT [(1, .call [false] [.ag [.jk, .jk, .jk, .jk, .jk]] [.v (.s (.string r4))])] (by cbv) ?_ ?_
 · exact (hq Tt (hq (hC (AC.args (qKD h_r4) (ALe.ag rfl (LLe.c (LLe.c (LLe.c (LLe.cons (LLe.im (qOD _)) (LLe.c LLe.nil))))) ALe.nil))) hq0))
 refine Run.seq ?_
 refine Run.seq ?_
 obtain ⟨r5, h_r5, h⟩ := bnd h
 refine Run.region hL hT [(2, .call [false] [.ag [.jk, .jk, .jk, .jk, .jk]] [.v (.s (.string r5))])] (by cbv) ?_ ?_
 · exact (hq Tt (hq (hC (AC.args (qHD h_r5) (ALe.ag rfl (LLe.c (LLe.c (LLe.c (LLe.cons (LLe.im (qOD _)) (LLe.c LLe.nil))))) ALe.nil))) hq0))
 refine Run.cond (by cbv) (hq0) (fun c6 => ?_) (fun c6 => ?_)
 ·
  have h := if_t c6 h
  refine Run.seq ?_
  refine Run.region hL hT [] (by cbv) hq0 ?_
  refine Run.ret ?_
  cases h
  refine ⟨_, _, by cbv, ?_, ?_⟩
  · exact LLe.r
  exact (ALe.v LLe.r ALe.nil)
 have h := if_f c6 h
 refine Run.skip ?_
 obtain ⟨K8, h_K8, h⟩ := joinE h
 refine Run.join1 K8 (r := r) (fun (y7 : Unit) => ⟨80, 100000, [(0, .t (.im true (eu8_c a0)))], []⟩) ?_ ?_
 ·
  skip
  refine Run.seq ?_
  refine Run.region hL hT [] (by cbv) hq0 ?_
  refine Run.cond (by cbv) (hq0) (fun c9 => ?_) (fun c9 => ?_)
  ·
   have h := if_t c9 h
   refine Run.seq ?_
   obtain ⟨⟨⟨qzM, quR, qvR, qNL, qOL⟩, qhM⟩, h_r10, h⟩ := bnd h
   refine Run.region hL hT [(1, .call [false] [.v (.jk)] [.ag [.s (.int .i64 qzM), .s (.int .i64 quR), .s (.string qvR), .ow 27 (qh qNL), .ow 9 (qD qOL)], .v (.s (.bool qhM))])] (by cbv) ?_ ?_
   · exact (hq (hC (qEG h_r10)) (hq Tt hq0))
   refine Run.seq ?_
   obtain ⟨r11, h_r11, h⟩ := bnd h
   refine Run.region hL hT [(5, .call [false, false] [.ag [.jk, .jk, .jk, .jk, .jk], .ag [.jk, .jk, .jk, .jk, .jk]] [.v (.s (.bool r11))])] (by cbv) ?_ ?_
   · exact (hq (fun g12 => (hq Tt hq0)) (hq (fun g13 => (hq Tt hq0)) (hq (fun g14 => (hq g14 (hq g14 (hq (hC (AC.args (qkH (gd_t h_r11 g14)) (ALe.ag rfl (LLe.c (LLe.c (LLe.c (LLe.cons (LLe.im (RLe.eq (qxB qxD _))) (LLe.cons (LLe.im (RLe.eq (qxB qwB _))) LLe.nil))))) (ALe.ag rfl (LLe.c (LLe.c (LLe.c (LLe.cons (LLe.im (qOD _)) (LLe.c LLe.nil))))) ALe.nil)))) hq0)))) (hq (fun g15 => (hq g15 hq0)) (hq (fun _ => hq0) (hq (fun q17 => (hq (bo_m q17) hq0)) hq0))))))
   refine Run.cond (by cbv) (hq0) (fun c18 => ?_) (fun c18 => ?_)
   ·
    have h := if_t c18 h
    refine Run.seq ?_
    refine Run.region hL hT [] (by cbv) hq0 ?_
    refine Run.ret ?_
    cases h
    refine ⟨_, _, by cbv, ?_, ?_⟩
    · exact LLe.r
    exact (ALe.v LLe.r ALe.nil)
   have h := if_f c18 h
   refine Run.skip ?_
   refine ⟨(), h, Weak.of _ [] hA (by cbv) ?_⟩
   repeat (first | exact hq0 | refine hq (by first | exact Tt | rfl) ?_)
  have h := if_f c9 h
  refine Run.skip ?_
  refine ⟨(), h, Weak.of _ [] hA (by cbv) ?_⟩
  repeat (first | exact hq0 | refine hq (by first | exact Tt | rfl) ?_)
 intro y7 h
 rw [h_K8] at h
 refine Run.seq ?_
 obtain ⟨r19, h_r19, h⟩ := bnd h
 refine Run.region hL hT [(1, .call [true] [.v (.jk)] [.v (.s (.string r19))])] (by cbv) ?_ ?_
 · exact (hq (hC (qiG h_r19)) hq0)
 refine Run.seq ?_
 obtain ⟨⟨⟨qAN, qwR, qxR, qPL, qQL⟩, qjR⟩, h_r20, h⟩ := bnd h
 refine Run.region hL hT [(1, .call [false] [.v (.jk)] [.ag [.s (.int .i64 qAN), .s (.int .i64 qwR), .s (.string qxR), .ow 27 (qh qPL), .ow 9 (qD qQL)], .v (.s (.bool qjR))])] (by cbv) ?_ ?_
 · exact (hq (hC (qEG h_r20)) (hq Tt hq0))
 refine Run.seq ?_
 obtain ⟨⟨⟨qBN, qyR, qzR, qRL, qSL⟩, qmI⟩, h_r21, h⟩ := bnd h
 refine Run.region hL hT [(1, .call [false] [.v (.jk)] [.ag [.s (.int .i64 qBN), .s (.int .i64 qyR), .s (.string qzR), .ow 27 (qh qRL), .ow 9 (qD qSL)], .v (.s (.bool qmI))])] (by cbv) ?_ ?_
 · exact (hq (hC (qQJ h_r21)) (hq Tt hq0))
 refine Run.seq ?_
 obtain ⟨r22, h_r22, h⟩ := bnd h
 refine Run.region hL hT [(1, .call [true] [.v (.jk)] [.v (.s (.string r22))])] (by cbv) ?_ ?_
 · exact (hq (hC (qEH h_r22)) hq0)
 refine Run.seq ?_
 obtain ⟨r23, h_r23, h⟩ := bnd h
 obtain ⟨r24, h_r24, h⟩ := bnd h
 obtain ⟨r25, h_r25, h⟩ := bnd h
 refine Run.region hL hT [(5, .call [false] [.v (.jk)] [.v (.s (.string r23))]), (7, .call [false] [.v (.jk)] [.v (.s (.string r24))]), (22, .call [false] [.ag [.jk, .jk, .jk, .jk, .jk]] [.v (.s (.string r25))])] (by cbv) ?_ ?_
 · exact (hq (fun _ => hq0) (hq (fun g27 => (hq g27 (hq (hC (qCL (gd_t h_r23 g27))) hq0))) (hq (fun _ => hq0) (hq (fun g29 => (hq g29 (hq (hC (qDL (gd_t h_r24 g29))) hq0))) (hq (fun g30 => (hq g30 (hq g30 hq0))) (hq (fun q31 => (hq q31 hq0)) (hq (fun _ => hq0) (hq (fun _ => hq0) (hq (fun g34 => (hq g34 hq0)) (hq (fun g35 => (hq g35 hq0)) (hq (fun _ => hq0) (hq (fun g37 => (hq g37 (hq Tt hq0))) (hq (fun g38 => (hq g38 (hq Tt hq0))) (hq (fun g39 => (hq g39 (hq (fun q40 => (hq (bo_a g39 q40) hq0)) (hq (fun _ => hq0) hq0)))) (hq (fun g42 => (hq g42 hq0)) (hq (fun _ => hq0) (hq (fun g44 => (hq g44 hq0)) (hq (fun g45 => (hq Tt hq0)) (hq (fun g46 => (hq g46 (hq (hC (AC.args (qKD (gd_t h_r25 g46)) (ALe.ag rfl (LLe.c (LLe.c (LLe.c (LLe.cons (LLe.im (RLe.eq (qxB qxD _))) (LLe.cons (LLe.im (RLe.eq (qxB qwB _))) LLe.nil))))) ALe.nil))) hq0))) (hq (fun _ => hq0) (hq (fun g48 => (hq g48 (hq g48 hq0))) (hq (fun g49 => (hq g49 (hq (fun q50 => (hq (bo_a g49 q50) hq0)) (hq (fun _ => hq0) hq0)))) (hq (fun g52 => (hq g52 (hq (fun _ => hq0) (hq (fun q54 => (hq (bo_a g52 (bo_m q54)) hq0)) hq0)))) (hq (fun q55 => (hq q55 hq0)) (hq (fun _ => hq0) hq0)))))))))))))))))))))))))
 refine Run.ret ?_
 cases h
 refine ⟨_, _, by cbv, ?_, ?_⟩
 · exact LLe.r
 exact (ALe.v LLe.r ALe.nil)
end Go.Proofs.YtcpekllcbimpmaaGreatDoor.L