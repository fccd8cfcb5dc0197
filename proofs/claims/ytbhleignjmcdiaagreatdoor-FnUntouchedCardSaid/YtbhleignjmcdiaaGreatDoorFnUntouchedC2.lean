/- The contracts of the program's functions. -/
import Derived.Test.YtbhleignjmcdiaaGreatDoorProg
import Derived.Test.YtbhleignjmcdiaaGreatDoorFnUntouchedC1
import Derived.KernelRfl
namespace Go.Proofs.YtbhleignjmcdiaaGreatDoor.L
open Go Go.Proofs
set_option linter.unusedVariables false
set_option linter.unusedSimpArgs false
set_option maxRecDepth 8000
theorem qxR {qE : List Int} {qL : Int} {qI : List (List Row)} {qYB : Int} {qN : Int} {qsB : Int} {qy : List Int} {r : Store × Change × Bool} (h : qoH.f (Store.mk (Schema.mk qE) qL qI) (Mut.mk qYB qN (Row.mk qsB qy)) = some r) : AC Tryz.prog 46 [.ag [.im false (rowsOf Int_c qE), .s (.int .i64 qL), .im false (rowsOf qZB qI)], .ag [.s (.int .i64 qYB), .s (.int .i64 qN), .s (.int .i64 qsB), .im false (rowsOf Int_c qy)]] [.ag [.jk, .jk, .jk], .ag [.jk, .jk, .jk, .jk]] [.ag [.ow 3 (rowsOf Int_c r.1.Schema.Cols), .s (.int .i64 r.1.Version), .ow 50 (rowsOf qcB r.1.Tables)], .ag [.s (.int .i64 r.2.1.Table), .s (.bool r.2.1.Had), .s (.bool r.2.1.Has), .s (.int .i64 r.2.1.Old.Id), .ow 3 (rowsOf Int_c r.2.1.Old.Cells), .s (.int .i64 r.2.1.New.Id), .ow 3 (rowsOf Int_c r.2.1.New.Cells)], .v (.s (.bool r.2.2))] := by
 unfold qoH.f at h
 let qB := rowsOf Int_c
 let qMB := rowsOf qZB
 let qz := rowsOf qcB
 let qAB := rowsOf Row_i
 let qT := rowsOf Row_o
 let qm := @lenI Row
 show AC Tryz.prog 46 [.ag [.im false (qB qE), .s (.int .i64 qL), .im false (qMB qI)], .ag [.s (.int .i64 qYB), .s (.int .i64 qN), .s (.int .i64 qsB), .im false (qB qy)]] _ _
 refine run3 Tryz.func46 (by rfl) (by rfl) (by cbv) ⟨by decide, rfl⟩ ?_
 intro ar cm bo sc sa sx ss sl bs sb ln sr ap up rp fr ge le lt nz mm ma sm fl al ci hL F hP hA hT hM hC
 refine Run.seq ?_
 refine Run.region hL hT [] (by cbv) hq0 ?_
 refine Run.seq ?_
 refine Run.seq ?_
 obtain ⟨r1, h_r1, h⟩ := bnd h
 obtain ⟨r2, h_r2, h⟩ := bnd h
 refine Run.region hL hT [(1, .call [false] [.ag [.jk, .jk, .jk]] [.v (.s (.bool r1))]), (7, .call [false, false] [.ag [.jk], .ag [.jk, .jk, .jk, .jk]] [.v (.s (.bool r2))])] (by cbv) ?_ ?_
 · exact (hq Tt (hq (hC (qrD h_r1)) (hq (fun _ => hq0) (hq (fun g4 => (hq g4 (hq Tt hq0))) (hq (fun g5 => (hq Tt hq0)) (hq (fun g6 => (hq g6 (hq g6 (hq (hC (qwR (gd_t h_r2 g6))) hq0)))) (hq (fun g7 => (hq g7 hq0)) (hq (fun _ => hq0) (hq (fun q9 => (hq (bo_m q9) hq0)) hq0)))))))))
 refine Run.cond (by cbv) (hq0) (fun c10 => ?_) (fun c10 => ?_)
 ·
  have h := if_t c10 h
  refine Run.seq ?_
  obtain ⟨⟨⟨qpE⟩, qNH, qXI⟩, h_r11, h⟩ := bnd h
  refine Run.region hL hT [(1, .call [false] [.ag [.jk, .jk, .jk]] [.ag [.ow 3 (qB qpE), .s (.int .i64 qNH), .ow 50 (qz qXI)]])] (by cbv) ?_ ?_
  · exact (hq Tt (hq (hC (qSL h_r11)) (hq Tt (hq Tt hq0))))
  refine Run.ret ?_
  cases h
  refine ⟨_, _, by cbv, ?_, ?_⟩
  · exact LLe.r
  exact (ALe.ag rfl LLe.r (ALe.ag rfl (LLe.c (LLe.c (LLe.c (LLe.c (LLe.cons LLe.nilO (LLe.c (LLe.cons LLe.nilO LLe.nil))))))) (ALe.v LLe.r ALe.nil)))
 have h := if_f c10 h
 refine Run.skip ?_
 refine Run.seq ?_
 obtain ⟨x12, h_x12, h⟩ := bnd h
 refine Run.region hL hT [(4, .el [.im false (qAB x12)])] (by cbv) ?_ ?_
 · exact (hq Tt (hq Tt (hq (qS h_x12) (hq (ql (f := qZB) h_x12) (hq (qt (f := qZB) h_x12) hq0)))))
 refine Run.seq ?_
 obtain ⟨r13, h_r13, h⟩ := bnd h
 refine Run.region hL hT [(4, .call [false, false] [.v (.jk), .v (.jk)] [.v (.s (.int .i64 r13))])] (by cbv) ?_ ?_
 · exact (hq Tt (hq (hC (qVI h_r13)) hq0))
 refine Run.seq ?_
 refine Run.seq ?_
 refine Run.region hL hT [] (by cbv) ?_ ?_
 · exact (hq Tt (hq Tt (hq Tt (hq (fun _ => hq0) (hq (fun g15 => (hq g15 (hq Tt hq0))) (hq (fun g16 => (hq g16 (hq Tt hq0))) (hq (fun g17 => (hq g17 hq0)) (hq (fun _ => hq0) (hq (fun g19 => (hq g19 hq0)) (hq (fun g20 => (hq g20 (hq Tt hq0))) (hq (fun g21 => (hq g21 (hq (fun q22 => (hq (bo_a g21 q22) hq0)) (hq (fun _ => hq0) hq0)))) (hq (fun _ => hq0) (hq (fun q25 => (hq (bo_m q25) hq0)) hq0)))))))))))))
 rw [show ln (qAB x12) = qm x12 from ln_eq Row_i _]
 refine Run.cond (by cbv) (hq0) (fun c26 => ?_) (fun c26 => ?_)
 ·
  have h := if_t c26 h
  refine Run.seq ?_
  obtain ⟨⟨⟨qDM⟩, qnT, quU⟩, h_r27, h⟩ := bnd h
  refine Run.region hL hT [(1, .call [false] [.ag [.jk, .jk, .jk]] [.ag [.ow 3 (qB qDM), .s (.int .i64 qnT), .ow 50 (qz quU)]])] (by cbv) ?_ ?_
  · exact (hq Tt (hq (hC (quD h_r27)) (hq Tt (hq Tt hq0))))
  refine Run.ret ?_
  cases h
  refine ⟨_, _, by cbv, ?_, ?_⟩
  · exact LLe.r
  exact (ALe.ag rfl LLe.r (ALe.ag rfl (LLe.c (LLe.c (LLe.c (LLe.c (LLe.cons LLe.nilO (LLe.c (LLe.cons LLe.nilO LLe.nil))))))) (ALe.v LLe.r ALe.nil)))
 have h := if_f c26 h
 refine Run.skip ?_
 refine Run.seq ?_
 obtain ⟨⟨⟨quH⟩, qgM, qYI⟩, h_r28, h⟩ := bnd h
 refine Run.region hL hT [(1, .call [false] [.ag [.jk, .jk, .jk]] [.ag [.ow 3 (qB quH), .s (.int .i64 qgM), .ow 50 (qz qYI)]])] (by cbv) ?_ ?_
 · exact (hq Tt (hq (hC (quD h_r28)) (hq Tt hq0)))
 refine Run.seq ?_
 refine Run.region hL hT [] (by cbv) ?_ ?_
 · exact (hq Tt (hq Tt hq0))
 obtain ⟨K32, h_K32, h⟩ := joinE h
 refine Run.join3 K32 (r := r) (fun (y29 : Bool) (y30 : Int) (y31 : List Int) => ⟨97, 100000, [(3, .pt 1 0 0), (4, .pt 2 0 0), (5, .pt 3 0 0), (7, .t (.im false (qAB x12))), (9, .pt 4 0 0), (10, .pt 7 0 0)], [(1, .box 79 [.t (.s (.int .i64 qYB)), .t (.s (.int .i64 qN)), .t (.s (.int .i64 qsB)), .t (.im false (qB qy))]), (2, .box 29 [.t (.s (.slice none 0 0)), .t (.s (.int .i64 0)), .t (.s (.slice none 0 0))]), (3, .box 82 [.t (.s (.int .i64 0)), .t (.s (.bool false)), .t (.s (.bool false)), .t (.s (.int .i64 0)), .t (.s (.slice none 0 0)), .t (.s (.int .i64 0)), .t (.s (.slice none 0 0))]), (4, .box 29 [.rf 5, .t (.s (.int .i64 qgM)), .rf 6]), (5, .row 0 3 1 (qB quH)), (6, .row 0 50 1 (qz qYI)), (7, .box 82 [.t (.s (.int .i64 qN)), .t (.s (.bool y29)), .t (.s (.bool false)), .t (.s (.int .i64 y30)), .rf 8, .t (.s (.int .i64 0)), .t (.s (.slice none 0 0))]), (8, .row 0 3 1 (qB y31))]⟩) ?_ ?_
 ·
  skip
  refine Run.seq ?_
  refine Run.region hL hT [] (by cbv) ?_ ?_
  · exact (hq Tt hq0)
  refine Run.cond (by cbv) (hq0) (fun c33 => ?_) (fun c33 => ?_)
  ·
   have h := if_t c33 h
   obtain ⟨⟨qnU, qvL⟩, h_x34, h⟩ := bnd h
   obtain ⟨⟨qwZ, qYQ⟩, h_r35, h⟩ := bnd h
   refine Run.region hL hT [(2, .el [.s (.int .i64 qnU), .im false (qB qvL)]), (4, .call [false] [.ag [.jk, .jk]] [.ag [.s (.int .i64 qwZ), .ow 3 (qB qYQ)]])] (by cbv) ?_ ?_
   · exact (hq (qS h_x34) (hq (ql (f := Row_i) h_x34) (hq (qt (f := Row_i) h_x34) (hq (hC (qsD h_r35)) (hq Tt (hq Tt hq0))))))
   refine ⟨true, qwZ, qYQ, h, Weak.of _ [(1, 1), (2, 2), (3, 3), (4, 20482), (5, 20481), (6, 20737), (7, 24579), (8, 32772)] hA (by cbv) ?_⟩
   repeat (first | exact hq0 | refine hq (by first | exact Tt | rfl) ?_)
  have h := if_f c33 h
  refine Run.skip ?_
  refine ⟨false, 0, [], h, (Weak.nilB (l := [.t (.s (.int .i64 qN)), .t (.s (.bool false)), .t (.s (.bool false)), .t (.s (.int .i64 0))]) hT 24579 4 33768 3 rfl (by cbv) (by cbv) (by cbv)).trans (Weak.of _ [(1, 1), (2, 2), (3, 3), (4, 20482), (5, 20481), (6, 20737), (7, 24579), (8, 33768)] hA (by cbv) ?_)⟩
  repeat (first | exact hq0 | refine hq (by first | exact Tt | rfl) ?_)
 intro y29 y30 y31 h
 rw [h_K32] at h
 refine Run.seq ?_
 refine Run.seq ?_
 refine Run.region hL hT [] (by cbv) ?_ ?_
 · exact (hq Tt (hq Tt hq0))
 refine Run.cond (by cbv) (hq0) (fun c36 => ?_) (fun c36 => ?_)
 ·
  have h := if_t c36 h
  obtain ⟨r37, h_r37, h⟩ := bnd h
  obtain ⟨x38, h_x38, h⟩ := bnd h
  obtain ⟨l39, h_l39, h⟩ := bnd h
  refine Run.draw hL hT hM [(8, .call [false, false] [.v (.jk), .v (.jk)] [.v (.ow 56 (qT r37))])] (by cbv) (by cbv) (by cbv) (by cbv) (by cbv) ?_ ?_
  · exact (hq Tt (hq Tt (hq Tt (hq (hC (qpO h_r37)) (hq (qS h_x38) (hq (ql (f := qcB) h_x38) (hq (qS h_x38) (hq (ql (f := qcB) h_x38) hq0))))))))
  refine Run.row (rows := (up (qz qYI) qN 0 [.ow 56 (qT r37)])) 6 (qz l39) (by cbv) (qdS (f := qcB) h_x38 h_l39 rfl LLe.r) ?_
  refine Run.seq ?_
  refine Run.draw hL hT hM [] (by cbv) (by cbv) (by cbv) (by cbv) (by cbv) ?_ ?_
  · exact (hq Tt (hq Tt (hq Tt (hq Tt hq0))))
  refine Run.ret ?_
  cases h
  refine ⟨_, _, by cbv, ?_, ?_⟩
  · exact LLe.r
  exact (ALe.ag rfl LLe.r (ALe.ag rfl (LLe.c (LLe.c (LLe.c (LLe.c (LLe.c (LLe.c (LLe.cons LLe.nilO LLe.nil))))))) (ALe.v LLe.r ALe.nil)))
 have h := if_f c36 h
 refine Run.seq ?_
 obtain ⟨⟨qFd, qOX⟩, h_r40, h⟩ := bnd h
 refine Run.region hL hT [(2, .call [false] [.ag [.jk, .jk]] [.ag [.s (.int .i64 qFd), .ow 3 (qB qOX)]])] (by cbv) ?_ ?_
 · exact (hq Tt (hq (hC (qsD h_r40)) (hq Tt (hq Tt hq0))))
 obtain ⟨r41, h_r41, h⟩ := bnd h
 obtain ⟨x42, h_x42, h⟩ := bnd h
 obtain ⟨l43, h_l43, h⟩ := bnd h
 refine Run.draw hL hT hM [(7, .call [false, false] [.v (.jk), .ag [.jk, .jk]] [.v (.ow 56 (qT r41))])] (by cbv) (by cbv) (by cbv) (by cbv) (by cbv) ?_ ?_
 · exact (hq Tt (hq Tt (hq Tt (hq (hC (qbP h_r41)) (hq (qS h_x42) (hq (ql (f := qcB) h_x42) (hq (qS h_x42) (hq (ql (f := qcB) h_x42) hq0))))))))
 refine Run.row (rows := (up (qz qYI) qN 0 [.ow 56 (qT r41)])) 6 (qz l43) (by cbv) (qdS (f := qcB) h_x42 h_l43 rfl LLe.r) ?_
 refine Run.seq ?_
 refine Run.draw hL hT hM [] (by cbv) (by cbv) (by cbv) (by cbv) (by cbv) ?_ ?_
 · exact (hq Tt (hq Tt (hq Tt (hq Tt hq0))))
 refine Run.ret ?_
 cases h
 refine ⟨_, _, by cbv, ?_, ?_⟩
 · exact LLe.r
 exact (ALe.ag rfl LLe.r (ALe.ag rfl LLe.r (ALe.v LLe.r ALe.nil)))
theorem qqO {qE : List Int} {qL : Int} {qI : List (List Row)} {a1 : List Mut} {r : Store × (List Change) × Bool} (h : qlC.f (Store.mk (Schema.mk qE) qL qI) a1 = some r) : AC Tryz.prog 8 [.ag [.im false (rowsOf Int_c qE), .s (.int .i64 qL), .im false (rowsOf qZB qI)], .v (.im false (rowsOf Mut_i a1))] [.ag [.jk, .jk, .jk], .v (.jk)] [.ag [.ow 3 (rowsOf Int_c r.1.Schema.Cols), .s (.int .i64 r.1.Version), .ow 50 (rowsOf qcB r.1.Tables)], .v (.ow 82 (rowsOf qjD r.2.1)), .v (.s (.bool r.2.2))] := by
 unfold qlC.f at h
 let qQE := rowsOf qjD
 let qB := rowsOf Int_c
 let qtG := rowsOf Mut_i
 let qMB := rowsOf qZB
 let qz := rowsOf qcB
 let qkF := @lenI Mut
 show AC Tryz.prog 8 [.ag [.im false (qB qE), .s (.int .i64 qL), .im false (qMB qI)], .v (.im false (qtG a1))] _ _
 refine run3 Tryz.func8 (by rfl) (by rfl) (by cbv) ⟨by decide, rfl⟩ ?_
 intro ar cm bo sc sa sx ss sl bs sb ln sr ap up rp fr ge le lt nz mm ma sm fl al ci hL F hP hA hT hM hC
 refine Run.seq ?_
 refine Run.region hL hT [] (by cbv) hq0 ?_
 refine Run.seq ?_
 refine Run.seq ?_
 obtain ⟨r1, h_r1, h⟩ := bnd h
 obtain ⟨r2, h_r2, h⟩ := bnd h
 refine Run.region hL hT [(1, .call [false] [.ag [.jk, .jk, .jk]] [.v (.s (.bool r1))]), (6, .call [false, false, false] [.v (.jk), .v (.jk), .v (.jk)] [.v (.s (.bool r2))])] (by cbv) ?_ ?_
 · exact (hq Tt (hq (hC (qrD h_r1)) (hq (fun _ => hq0) (hq (fun g4 => (hq g4 hq0)) (hq (fun g5 => (hq g5 (hq (by rw [show ln (qtG a1) = qkF a1 from ln_eq Mut_i _]; exact (hC (qSB (gd_t h_r2 g5)))) hq0))) (hq (fun g6 => (hq g6 hq0)) (hq (fun _ => hq0) (hq (fun q8 => (hq (bo_m q8) hq0)) (hq (fun _ => hq0) (hq (fun g10 => (hq g10 (hq Tt hq0))) (hq (fun g11 => (hq g11 (hq Tt hq0))) (hq (fun _ => hq0) (hq (fun q13 => (hq (bo_m q13) hq0)) hq0)))))))))))))
 rw [show ln (qtG a1) = qkF a1 from ln_eq Mut_i _]
 refine Run.cond (by cbv) (hq0) (fun c14 => ?_) (fun c14 => ?_)
 ·
  have h := if_t c14 h
  refine Run.seq ?_
  obtain ⟨⟨⟨qEM⟩, qoT, qvU⟩, h_r15, h⟩ := bnd h
  refine Run.region hL hT [(1, .call [false] [.ag [.jk, .jk, .jk]] [.ag [.ow 3 (qB qEM), .s (.int .i64 qoT), .ow 50 (qz qvU)]])] (by cbv) ?_ ?_
  · exact (hq Tt (hq (hC (qSL h_r15)) (hq Tt hq0)))
  refine Run.ret ?_
  cases h
  refine ⟨_, _, by cbv, ?_, ?_⟩
  · exact LLe.r
  exact (ALe.ag rfl LLe.r (ALe.v LLe.nilO (ALe.v LLe.r ALe.nil)))
 have h := if_f c14 h
 refine Run.skip ?_
 refine Run.seq ?_
 obtain ⟨⟨⟨qvH⟩, qhM, qrO⟩, h_r16, h⟩ := bnd h
 refine Run.region hL hT [(1, .call [false] [.ag [.jk, .jk, .jk]] [.ag [.ow 3 (qB qvH), .s (.int .i64 qhM), .ow 50 (qz qrO)]])] (by cbv) ?_ ?_
 · exact (hq Tt (hq (hC (quD h_r16)) (hq Tt hq0)))
 refine Run.seq ?_
 refine Run.region hL hT [] (by cbv) hq0 ?_
 refine Run.seq ?_
 refine Run.seq ?_
 refine Run.region hL hT [] (by cbv) hq0 ?_
 rw [show ln (qtG a1) = qkF a1 from ln_eq Mut_i _]
 refine Run.block ?_
 refine Run.loop5 (fun (z28 : List Int) (z29 : Int) (z30 : List (List Row)) (z31 : List Change) (z32 : Int) => ⟨62, 100000, [(2, .pt 1 0 0), (4, .pt 2 0 0), (7, .pt 3 0 0), (8, .rf 6), (33, .t (.im false (qtG a1))), (34, .t (.s (.int .i64 (qkF a1)))), (35, .t (.s (.int .i64 z32)))], [(1, .box 29 [.t (.im false (qB qE)), .t (.s (.int .i64 qL)), .t (.im false (qMB qI))]), (2, .box 29 [.t (.s (.slice none 0 0)), .t (.s (.int .i64 0)), .t (.s (.slice none 0 0))]), (3, .box 29 [.rf 4, .t (.s (.int .i64 z29)), .rf 5]), (4, .row 0 3 1 (qB z28)), (5, .row 0 50 1 (qz z30)), (6, .row 0 82 7 (qQE z31))]⟩) (x0 := qvH) (x1 := qhM) (x2 := qrO) (x3 := []) (x4 := 0) h (Weak.of _ [(1, 0), (2, 1), (3, 8194), (4, 8193), (5, 8449), (6, 12288)] hA (by cbv) ?_) (fun _ _ _ _ _ => rfl) ?_
 · repeat (first | exact hq0 | refine hq (by first | exact Tt | rfl) ?_)
 intro k z28 z29 z30 z31 z32 h
 rw [qlC.l0] at h
 refine Run.seq ?_
 refine Run.region hL hT [] (by cbv) ?_ ?_
 · exact (hq Tt hq0)
 refine Run.seq ?_
 refine Run.cond (by cbv) (hq0) (fun c33 => ?_) (fun c33 => ?_)
 ·
  have h := if_t c33 h
  refine Run.skip ?_
  refine Run.seq ?_
  refine Run.block ?_
  refine Run.seq ?_
  obtain ⟨⟨qxZ, qPX, ⟨qpT, qsO⟩⟩, h_x34, h⟩ := bnd h
  refine Run.region hL hT [(0, .el [.s (.int .i64 qxZ), .s (.int .i64 qPX), .s (.int .i64 qpT), .im false (qB qsO)])] (by cbv) ?_ ?_
  · exact (hq (qS h_x34) (hq (ql (f := Mut_i) h_x34) (hq (qt (f := Mut_i) h_x34) (hq Tt hq0))))
  refine Run.seq ?_
  obtain ⟨⟨⟨⟨qFG⟩, qNJ, qxJ⟩, ⟨qeI, qyJ, qzJ, ⟨qOH, qxF⟩, ⟨qPH, qyF⟩⟩, qyZ⟩, h_r35, h⟩ := bnd h
  refine Run.region hL hT [(2, .call [false, false] [.ag [.jk, .jk, .jk], .ag [.jk, .jk, .jk, .jk]] [.ag [.ow 3 (qB qFG), .s (.int .i64 qNJ), .ow 50 (qz qxJ)], .ag [.s (.int .i64 qeI), .s (.bool qyJ), .s (.bool qzJ), .s (.int .i64 qOH), .ow 3 (qB qxF), .s (.int .i64 qPH), .ow 3 (qB qyF)], .v (.s (.bool qyZ))])] (by cbv) ?_ ?_
  · exact (hq Tt (hq Tt (hq (hC (AC.args (qxR h_r35) (ALe.ag rfl (LLe.cons (LLe.im (RLe.eq (qQC qKD _))) (LLe.c (LLe.cons (LLe.im (RLe.eq (qQC qBL _))) LLe.nil))) (ALe.ag rfl LLe.r ALe.nil)))) (hq Tt (hq Tt hq0)))))
  refine Run.seq ?_
  refine Run.seq ?_
  refine Run.region hL hT [] (by cbv) hq0 ?_
  refine Run.cond (by cbv) (hq0) (fun c36 => ?_) (fun c36 => ?_)
  ·
   have h := if_t c36 h
   refine Run.seq ?_
   obtain ⟨⟨⟨qFM⟩, qqT, qwU⟩, h_r37, h⟩ := bnd h
   refine Run.region hL hT [(1, .call [false] [.ag [.jk, .jk, .jk]] [.ag [.ow 3 (qB qFM), .s (.int .i64 qqT), .ow 50 (qz qwU)]])] (by cbv) ?_ ?_
   · exact (hq Tt (hq (hC (quD h_r37)) (hq Tt hq0)))
   refine Run.ret ?_
   cases h
   refine ⟨_, _, by cbv, ?_, ?_⟩
   · exact LLe.r
   exact (ALe.ag rfl LLe.r (ALe.v LLe.nilO (ALe.v LLe.r ALe.nil)))
  have h := if_f c36 h
  refine Run.skip ?_
  refine Run.seq ?_
  refine Run.region hL hT [] (by cbv) ?_ ?_
  · exact (hq Tt (hq Tt hq0))
  obtain ⟨l38, h_l38, h⟩ := bnd h
  obtain ⟨l39, h_l39, h⟩ := bnd h
  refine Run.region hL hT [] (by cbv) ?_ ?_
  · exact (hq Tt (hq (qwD (P := Tryz.prog) (f := qjD) RLe.r (qUB (f := qjD) h_l38 (RLe.cons rfl LLe.r RLe.nil)) h_l39) hq0))
  refine Run.row (rows := (ap (qQE z31) ([[.s (.int .i64 qeI), .s (.bool qyJ), .s (.bool qzJ), .s (.int .i64 qOH), .ow 3 (qB qxF), .s (.int .i64 qPH), .ow 3 (qB qyF)]]))) 120483 (qQE l39) (by cbv) (qvD (f := qjD) RLe.r (qUB (f := qjD) h_l38 (RLe.cons rfl LLe.r RLe.nil)) h_l39) ?_
  refine Run.region hL hT [] (by cbv) ?_ ?_
  · exact (hq Tt hq0)
  refine ⟨qFG, qNJ, qxJ, l39, (ar .add .i64 z32 1), h, Weak.of _ [(1, 1), (2, 2), (3, 3), (4, 108194), (5, 108450), (6, 120483)] hA (by cbv) ?_⟩
  repeat (first | exact hq0 | refine hq (by first | exact Tt | rfl) ?_)
 have h := if_f c33 h
 refine Run.exit ?_
 refine Run.seq ?_
 refine Run.region hL hT [] (by cbv) ?_ ?_
 · exact (hq Tt (hq Tt (hq Tt hq0)))
 refine Run.seq ?_
 refine Run.region hL hT [] (by cbv) ?_ ?_
 · exact (hq Tt (hq Tt hq0))
 refine Run.ret ?_
 cases h
 refine ⟨_, _, by cbv, ?_, ?_⟩
 · exact LLe.r
 exact (ALe.ag rfl LLe.r (ALe.v LLe.r (ALe.v LLe.r ALe.nil)))
theorem qtO {qE : List Int} {qL : Int} {qI : List (List Row)} {a1 : List Mut} {r : Store × (List Change) × Bool} (h : qmC.f (Store.mk (Schema.mk qE) qL qI) a1 = some r) : AC Tryz.prog 9 [.ag [.im false (rowsOf Int_c qE), .s (.int .i64 qL), .im false (rowsOf qZB qI)], .v (.im false (rowsOf Mut_i a1))] [.ag [.jk, .jk, .jk], .v (.jk)] [.ag [.ow 3 (rowsOf Int_c r.1.Schema.Cols), .s (.int .i64 r.1.Version), .ow 50 (rowsOf qcB r.1.Tables)], .v (.ow 82 (rowsOf qjD r.2.1)), .v (.s (.bool r.2.2))] := by
 unfold qmC.f at h
 let qQE := rowsOf qjD
 let qB := rowsOf Int_c
 let qtG := rowsOf Mut_i
 let qMB := rowsOf qZB
 let qz := rowsOf qcB
 let qkF := @lenI Mut
 show AC Tryz.prog 9 [.ag [.im false (qB qE), .s (.int .i64 qL), .im false (qMB qI)], .v (.im false (qtG a1))] _ _
 refine run3 Tryz.func9 (by rfl) (by rfl) (by cbv) ⟨by decide, rfl⟩ ?_
 intro ar cm bo sc sa sx ss sl bs sb ln sr ap up rp fr ge le lt nz mm ma sm fl al ci hL F hP hA hT hM hC
 refine Run.seq ?_
 refine Run.region hL hT [] (by cbv) hq0 ?_
 refine Run.seq ?_
 refine Run.region hL hT [] (by cbv) hq0 ?_
 refine Run.seq ?_
 refine Run.seq ?_
 obtain ⟨r1, h_r1, h⟩ := bnd h
 refine Run.region hL hT [(1, .call [false] [.ag [.jk, .jk, .jk]] [.v (.s (.bool r1))])] (by cbv) ?_ ?_
 · exact (hq Tt (hq (hC (qHJ h_r1)) hq0))
 refine Run.cond (by cbv) (hq0) (fun c2 => ?_) (fun c2 => ?_)
 ·
  have h := if_t c2 h
  refine Run.seq ?_
  refine Run.region hL hT [] (by cbv) ?_ ?_
  · exact (hq Tt hq0)
  refine Run.ret ?_
  cases h
  refine ⟨_, _, by cbv, ?_, ?_⟩
  · exact LLe.r
  exact (ALe.ag rfl (LLe.cons LLe.nilO (LLe.c (LLe.cons LLe.nilO LLe.nil))) (ALe.v LLe.r (ALe.v LLe.r ALe.nil)))
 have h := if_f c2 h
 refine Run.skip ?_
 refine Run.seq ?_
 refine Run.seq ?_
 obtain ⟨r3, h_r3, h⟩ := bnd h
 refine Run.region hL hT [(2, .call [false, false, false] [.v (.jk), .v (.jk), .v (.jk)] [.v (.s (.bool r3))])] (by cbv) ?_ ?_
 · exact (hq (by rw [show ln (qtG a1) = qkF a1 from ln_eq Mut_i _]; exact (hC (qcC h_r3))) (hq (fun _ => hq0) (hq (fun g5 => (hq g5 (hq Tt hq0))) (hq (fun g6 => (hq g6 (hq Tt hq0))) (hq (fun _ => hq0) (hq (fun q8 => (hq (bo_m q8) hq0)) hq0))))))
 rw [show ln (qtG a1) = qkF a1 from ln_eq Mut_i _]
 refine Run.cond (by cbv) (hq0) (fun c9 => ?_) (fun c9 => ?_)
 ·
  have h := if_t c9 h
  refine Run.seq ?_
  obtain ⟨⟨⟨qGM⟩, qrT, qxU⟩, h_r10, h⟩ := bnd h
  refine Run.region hL hT [(1, .call [false] [.ag [.jk, .jk, .jk]] [.ag [.ow 3 (qB qGM), .s (.int .i64 qrT), .ow 50 (qz qxU)]])] (by cbv) ?_ ?_
  · exact (hq Tt (hq (hC (qWE h_r10)) (hq Tt hq0)))
  refine Run.ret ?_
  cases h
  refine ⟨_, _, by cbv, ?_, ?_⟩
  · exact LLe.r
  exact (ALe.ag rfl LLe.r (ALe.v LLe.r (ALe.v LLe.r ALe.nil)))
 have h := if_f c9 h
 refine Run.skip ?_
 refine Run.seq ?_
 obtain ⟨⟨⟨qpE⟩, qNH, qXI⟩, h_r11, h⟩ := bnd h
 refine Run.region hL hT [(1, .call [false] [.ag [.jk, .jk, .jk]] [.ag [.ow 3 (qB qpE), .s (.int .i64 qNH), .ow 50 (qz qXI)]])] (by cbv) ?_ ?_
 · exact (hq Tt (hq (hC (qWE h_r11)) (hq Tt hq0)))
 refine Run.seq ?_
 refine Run.region hL hT [] (by cbv) hq0 ?_
 refine Run.seq ?_
 refine Run.seq ?_
 refine Run.region hL hT [] (by cbv) hq0 ?_
 refine Run.block ?_
 refine Run.loop5 (fun (z23 : List Int) (z24 : Int) (z25 : List (List Row)) (z26 : List Change) (z27 : Int) => ⟨67, 100000, [(1, .t (.im false (qtG a1))), (2, .pt 1 0 0), (4, .pt 2 0 0), (7, .rf 3), (8, .pt 4 0 0), (9, .rf 7), (10, .t (.s (.int .i64 z27)))], [(1, .box 29 [.t (.im false (qB qE)), .t (.s (.int .i64 qL)), .t (.im false (qMB qI))]), (2, .box 29 [.t (.s (.slice none 0 0)), .t (.s (.int .i64 0)), .t (.s (.slice none 0 0))]), (3, .row 0 82 7 (qQE [])), (4, .box 29 [.rf 5, .t (.s (.int .i64 z24)), .rf 6]), (5, .row 0 3 1 (qB z23)), (6, .row 0 50 1 (qz z25)), (7, .row 0 82 7 (qQE z26))]⟩) (x0 := qpE) (x1 := qNH) (x2 := qXI) (x3 := []) (x4 := 0) h (Weak.of _ [(1, 0), (2, 1), (3, 4096), (4, 16386), (5, 16385), (6, 16641), (7, 20480)] hA (by cbv) ?_) (fun _ _ _ _ _ => rfl) ?_
 · repeat (first | exact hq0 | refine hq (by first | exact Tt | rfl) ?_)
 intro k z23 z24 z25 z26 z27 h
 rw [qmC.l0] at h
 refine Run.seq ?_
 refine Run.seq ?_
 refine Run.region hL hT [] (by cbv) ?_ ?_
 · exact (hq Tt hq0)
 rw [show ln (qtG a1) = qkF a1 from ln_eq Mut_i _]
 refine Run.cond (by cbv) (hq0) (fun c28 => ?_) (fun c28 => ?_)
 ·
  have h := if_t c28 h
  refine Run.skip ?_
  refine Run.seq ?_
  refine Run.block ?_
  refine Run.seq ?_
  obtain ⟨⟨qzZ, qQX, ⟨qsT, quO⟩⟩, h_x29, h⟩ := bnd h
  obtain ⟨⟨⟨⟨qGG⟩, qOJ, qAK⟩, ⟨qfI, qBK, qCK, ⟨qQH, qzF⟩, ⟨qRH, qAG⟩⟩, qAa⟩, h_r30, h⟩ := bnd h
  refine Run.draw hL hT hM [(3, .el [.s (.int .i64 qzZ), .s (.int .i64 qQX), .s (.int .i64 qsT), .im false (qB quO)]), (5, .call [false, false] [.ag [.jk, .jk, .jk], .ag [.jk, .jk, .jk, .jk]] [.ag [.ow 3 (qB qGG), .s (.int .i64 qOJ), .ow 50 (qz qAK)], .ag [.s (.int .i64 qfI), .s (.bool qBK), .s (.bool qCK), .s (.int .i64 qQH), .ow 3 (qB qzF), .s (.int .i64 qRH), .ow 3 (qB qAG)], .v (.s (.bool qAa))])] (by cbv) (by cbv) (by cbv) (by cbv) (by cbv) ?_ ?_
  · exact (hq Tt (hq (qS h_x29) (hq (ql (f := Mut_i) h_x29) (hq (qt (f := Mut_i) h_x29) (hq (hC (AC.args (qML h_r30) (ALe.ag rfl (LLe.cons (LLe.im (RLe.eq (qQC qKD _))) (LLe.c (LLe.cons (LLe.im (RLe.eq (qQC qBL _))) LLe.nil))) (ALe.ag rfl LLe.r ALe.nil)))) (hq Tt (hq Tt hq0)))))))
  refine Run.seq ?_
  refine Run.seq ?_
  refine Run.region hL hT [] (by cbv) hq0 ?_
  refine Run.cond (by cbv) (hq0) (fun c31 => ?_) (fun c31 => ?_)
  ·
   have h := if_t c31 h
   refine Run.seq ?_
   obtain ⟨⟨⟨qHM⟩, qtT, qyU⟩, h_r32, h⟩ := bnd h
   refine Run.region hL hT [(1, .call [false] [.ag [.jk, .jk, .jk]] [.ag [.ow 3 (qB qHM), .s (.int .i64 qtT), .ow 50 (qz qyU)]])] (by cbv) ?_ ?_
   · exact (hq Tt (hq (hC (qWE h_r32)) (hq Tt hq0)))
   refine Run.ret ?_
   cases h
   refine ⟨_, _, by cbv, ?_, ?_⟩
   · exact LLe.r
   exact (ALe.ag rfl LLe.r (ALe.v LLe.r (ALe.v LLe.r ALe.nil)))
  have h := if_f c31 h
  refine Run.skip ?_
  refine Run.seq ?_
  refine Run.region hL hT [] (by cbv) ?_ ?_
  · exact (hq Tt (hq Tt hq0))
  obtain ⟨l33, h_l33, h⟩ := bnd h
  obtain ⟨l34, h_l34, h⟩ := bnd h
  refine Run.region hL hT [] (by cbv) ?_ ?_
  · exact (hq Tt (hq (qwD (P := Tryz.prog) (f := qjD) RLe.r (qUB (f := qjD) h_l33 (RLe.cons rfl LLe.r RLe.nil)) h_l34) hq0))
  refine Run.row (rows := (ap (qQE z26) ([[.s (.int .i64 qfI), .s (.bool qBK), .s (.bool qCK), .s (.int .i64 qQH), .ow 3 (qB qzF), .s (.int .i64 qRH), .ow 3 (qB qAG)]]))) 116387 (qQE l34) (by cbv) (qvD (f := qjD) RLe.r (qUB (f := qjD) h_l33 (RLe.cons rfl LLe.r RLe.nil)) h_l34) ?_
  refine Run.region hL hT [] (by cbv) ?_ ?_
  · exact (hq Tt hq0)
  refine ⟨qGG, qOJ, qAK, l34, (ar .add .i64 z27 1), h, Weak.of _ [(1, 1), (2, 2), (3, 3), (4, 4), (5, 104101), (6, 104357), (7, 116387)] hA (by cbv) ?_⟩
  repeat (first | exact hq0 | refine hq (by first | exact Tt | rfl) ?_)
 have h := if_f c28 h
 refine Run.exit ?_
 refine Run.seq ?_
 refine Run.region hL hT [] (by cbv) ?_ ?_
 · exact (hq Tt (hq Tt (hq Tt hq0)))
 refine Run.seq ?_
 refine Run.region hL hT [] (by cbv) ?_ ?_
 · exact (hq Tt (hq Tt hq0))
 refine Run.ret ?_
 cases h
 refine ⟨_, _, by cbv, ?_, ?_⟩
 · exact LLe.r
 exact (ALe.ag rfl LLe.r (ALe.v LLe.r (ALe.v LLe.r ALe.nil)))
theorem laws_FnUntouched_ac {a0 : List Int} {r : Bool} (h : qzE.f a0 = some r) : AC Tryz.prog 3 [.v (.im true (rowsOf u8_c a0))] [.v (.jk)] [.v (.s (.bool r))] := by
 unfold qzE.f at h
 let qQE := rowsOf qjD
 let qO := rowsOf qGB
 let qB := rowsOf Int_c
 let qTB := rowsOf qLB
 let qnR := rowsOf qIH
 let qtG := rowsOf Mut_i
 let qBN := rowsOf qQK
 let qSb := rowsOf qVR
 let qMB := rowsOf qZB
 let qz := rowsOf qcB
 let qKB := rowsOf Str_c
 let eu8_c := rowsOf u8_c
 let qbF := @lenI Change
 let qQ := @lenI Int
 show AC Tryz.prog 3 [.v (.im true (eu8_c a0))] _ _
 refine run3 Tryz.func3 (by rfl) (by rfl) (by cbv) ⟨by decide, rfl⟩ ?_
 intro ar cm bo sc sa sx ss sl bs sb ln sr ap up rp fr ge le lt nz mm ma sm fl al ci hL F hP hA hT hM hC
 refine Run.seq ?_
 refine Run.region hL hT [] (by cbv) hq0 ?_
 refine Run.seq ?_
 refine Run.seq ?_
 obtain ⟨r1, h_r1, h⟩ := bnd h
 refine Run.region hL hT [(1, .call [false] [.v (.jk)] [.v (.s (.bool r1))])] (by cbv) ?_ ?_
 · exact (hq (hC (qoU h_r1)) hq0)
 refine Run.cond (by cbv) (hq0) (fun c2 => ?_) (fun c2 => ?_)
 ·
  have h := if_t c2 h
  refine Run.seq ?_
  refine Run.region hL hT [] (by cbv) hq0 ?_
  refine Run.ret ?_
  cases h
  refine ⟨_, _, by cbv, ?_, ?_⟩
  · exact LLe.r
  exact (ALe.v LLe.r ALe.nil)
 have h := if_f c2 h
 refine Run.skip ?_
 refine Run.seq ?_
 obtain ⟨⟨⟨⟨qbK⟩, qcP, qyR⟩, ⟨qPJ, qQJ, qRJ, qDK, qSJ, qEK, qFK, qSH, qgI⟩, qTb⟩, h_r3, h⟩ := bnd h
 refine Run.region hL hT [(1, .call [true] [.v (.jk)] [.ag [.im true (qB qbK), .s (.int .i64 qcP), .im true (qMB qyR)], .ag [.s (.int .i64 qPJ), .im true (qO qQJ), .s (.int .i64 qRJ), .s (.bool qDK), .s (.int .i64 qSJ), .im true (qB qEK), .s (.bool qFK), .s (.int .i64 qSH), .s (.int .i64 qgI)], .v (.im true (qtG qTb))])] (by cbv) ?_ ?_
 · exact (hq (hC (qNL h_r3)) (hq Tt (hq Tt hq0)))
 refine Run.seq ?_
 obtain ⟨⟨⟨⟨qcK⟩, qdP, qzR⟩, qAS, qUb⟩, h_r4, h⟩ := bnd h
 refine Run.region hL hT [(2, .call [false, false] [.ag [.jk, .jk, .jk], .v (.jk)] [.ag [.ow 3 (qB qcK), .s (.int .i64 qdP), .ow 50 (qz qzR)], .v (.ow 82 (qQE qAS)), .v (.s (.bool qUb))])] (by cbv) ?_ ?_
 · exact (hq Tt (hq (hC (qqO h_r4)) (hq Tt hq0)))
 refine Run.seq ?_
 obtain ⟨⟨⟨⟨qdK⟩, qeP, qBS⟩, qVb, qWb⟩, h_r5, h⟩ := bnd h
 refine Run.region hL hT [(2, .call [false, false] [.ag [.jk, .jk, .jk], .v (.jk)] [.ag [.ow 3 (qB qdK), .s (.int .i64 qeP), .ow 50 (qz qBS)], .v (.ow 82 (qQE qVb)), .v (.s (.bool qWb))])] (by cbv) ?_ ?_
 · exact (hq Tt (hq (hC (qtO h_r5)) (hq Tt hq0)))
 refine Run.seq ?_
 refine Run.seq ?_
 refine Run.region hL hT [] (by cbv) hq0 ?_
 refine Run.cond (by cbv) (hq0) (fun c6 => ?_) (fun c6 => ?_)
 ·
  have h := if_t c6 h
  refine Run.seq ?_
  refine Run.region hL hT [] (by cbv) hq0 ?_
  refine Run.ret ?_
  cases h
  refine ⟨_, _, by cbv, ?_, ?_⟩
  · exact LLe.r
  exact (ALe.v LLe.r ALe.nil)
 have h := if_f c6 h
 refine Run.skip ?_
 refine Run.seq ?_
 refine Run.seq ?_
 refine Run.region hL hT [] (by cbv) hq0 ?_
 refine Run.cond (by cbv) (hq0) (fun c7 => ?_) (fun c7 => ?_)
 ·
  have h := if_t c7 h
  refine Run.seq ?_
  refine Run.region hL hT [] (by cbv) ?_ ?_
  · exact (hq Tt hq0)
  rw [show ln (qQE qAS) = qbF qAS from ln_eq qjD _]
  refine Run.ret ?_
  cases h
  refine ⟨_, _, by cbv, ?_, ?_⟩
  · exact LLe.r
  exact (ALe.v LLe.r ALe.nil)
 have h := if_f c7 h
 refine Run.skip ?_
 refine Run.seq ?_
 obtain ⟨r8, h_r8, h⟩ := bnd h
 refine Run.region hL hT [(2, .call [false, false] [.ag [.jk, .jk, .jk, .jk, .jk, .jk, .jk, .jk, .jk], .v (.jk)] [.v (.s (.bool r8))])] (by cbv) ?_ ?_
 · exact (hq Tt (hq (hC (AC.args (qJH h_r8) (ALe.ag rfl LLe.r (ALe.v (LLe.im (RLe.eq (qQC qlL _))) ALe.nil)))) hq0))
 refine Run.seq ?_
 refine Run.seq ?_
 obtain ⟨r9, h_r9, h⟩ := bnd h
 refine Run.region hL hT [(3, .call [false, false] [.ag [.jk, .jk, .jk, .jk, .jk, .jk, .jk, .jk, .jk], .v (.jk)] [.v (.s (.bool r9))])] (by cbv) ?_ ?_
 · exact (hq Tt (hq (hC (AC.args (qEL h_r9) (ALe.ag rfl LLe.r (ALe.v (LLe.im (RLe.eq (qQC qlL _))) ALe.nil)))) hq0))
 refine Run.cond (by cbv) (hq0) (fun c10 => ?_) (fun c10 => ?_)
 ·
  have h := if_t c10 h
  refine Run.seq ?_
  refine Run.region hL hT [] (by cbv) hq0 ?_
  refine Run.ret ?_
  cases h
  refine ⟨_, _, by cbv, ?_, ?_⟩
  · exact LLe.r
  exact (ALe.v LLe.r ALe.nil)
 have h := if_f c10 h
 refine Run.skip ?_
 refine Run.seq ?_
 obtain ⟨l11, h_l11, h⟩ := bnd h
 obtain ⟨r12, h_r12, h⟩ := bnd h
 refine Run.region hL hT [(5, .call [false, false, false] [.ag [.jk], .v (.jk), .v (.jk)] [.v (.ow 3 (qB r12))])] (by cbv) ?_ ?_
 · exact (hq Tt (hq Tt (hq (hC (AC.args (qnL h_r12) (ALe.ag rfl LLe.r (ALe.v (qOc (f := qVR) h_l11 rfl (qQC qmY _)) (ALe.v (LLe.im (RLe.eq (qQC qlL _))) ALe.nil))))) hq0)))
 refine Run.row (rows := [[.s (.int .i64 qPJ), .im true (qO qQJ), .s (.int .i64 qRJ), .s (.bool qDK), .s (.int .i64 qSJ), .im true (qB qEK), .s (.bool qFK), .s (.int .i64 qSH), .s (.int .i64 qgI)]]) 36867 (qSb l11) (by cbv) (qUB (f := qVR) h_l11 (RLe.cons rfl LLe.r RLe.nil)) ?_
 refine Run.seq ?_
 obtain ⟨⟨qBa, qee, qfe, qRX, qSX⟩, h_r13, h⟩ := bnd h
 obtain ⟨⟨qCa, qge, qhe, qTX, qUX⟩, h_r14, h⟩ := bnd h
 obtain ⟨r15, h_r15, h⟩ := bnd h
 refine Run.draw hL hT hM [(10, .call [false, false] [.ag [.jk, .jk, .jk], .ag [.jk, .jk, .jk, .jk, .jk, .jk, .jk, .jk, .jk]] [.ag [.s (.int .i64 qBa), .s (.int .i64 qee), .s (.string qfe), .im true (qnR qRX), .im true (qKB qSX)]]), (13, .call [false, false] [.ag [.jk, .jk, .jk], .ag [.jk, .jk, .jk, .jk, .jk, .jk, .jk, .jk, .jk]] [.ag [.s (.int .i64 qCa), .s (.int .i64 qge), .s (.string qhe), .im true (qnR qTX), .im true (qKB qUX)]]), (14, .call [false, false] [.ag [.jk, .jk, .jk, .jk, .jk], .ag [.jk, .jk, .jk, .jk, .jk]] [.v (.s (.bool r15))])] (by cbv) (by cbv) (by cbv) (by cbv) (by cbv) ?_ ?_
 · exact (hq Tt (hq (fun _ => hq0) (hq (fun g17 => (by have g17C := g17; rw [show ln (qB r12) = qQ r12 from ln_eq Int_c _] at g17C; exact (hq g17 hq0))) (hq (fun g18 => (by have g18C := g18; rw [show ln (qB r12) = qQ r12 from ln_eq Int_c _] at g18C; exact (hq Tt hq0))) (hq (fun g19 => (by have g19C := g19; rw [show ln (qB r12) = qQ r12 from ln_eq Int_c _] at g19C; exact (hq Tt hq0))) (hq (fun g20 => (by have g20C := g20; rw [show ln (qB r12) = qQ r12 from ln_eq Int_c _] at g20C; exact (hq g20 (hq g20 (hq (hC (qbM (gd_t h_r13 g20C))) hq0))))) (hq (fun g21 => (by have g21C := g21; rw [show ln (qB r12) = qQ r12 from ln_eq Int_c _] at g21C; exact (hq Tt hq0))) (hq (fun g22 => (by have g22C := g22; rw [show ln (qB r12) = qQ r12 from ln_eq Int_c _] at g22C; exact (hq Tt hq0))) (hq (fun g23 => (by have g23C := g23; rw [show ln (qB r12) = qQ r12 from ln_eq Int_c _] at g23C; exact (hq g23 (hq g23 (hq (hC (AC.args (qbM (gd_t h_r14 g23C)) (ALe.ag rfl (LLe.cons (LLe.im (RLe.eq (qQC qKD _))) (LLe.c (LLe.cons (LLe.im (RLe.eq (qQC qBL _))) LLe.nil))) (ALe.ag rfl LLe.r ALe.nil)))) hq0))))) (hq (fun g24 => (by have g24C := g24; rw [show ln (qB r12) = qQ r12 from ln_eq Int_c _] at g24C; exact (hq g24 (hq g24 (hq (hC (AC.args (qjM (gd_t h_r15 g24C)) (ALe.ag rfl (LLe.c (LLe.c (LLe.c (LLe.cons (LLe.im (qCL _)) (LLe.c LLe.nil))))) (ALe.ag rfl (LLe.c (LLe.c (LLe.c (LLe.cons (LLe.im (qCL _)) (LLe.c LLe.nil))))) ALe.nil)))) hq0))))) (hq (fun g25 => (by have g25C := g25; rw [show ln (qB r12) = qQ r12 from ln_eq Int_c _] at g25C; exact (hq g25 (hq (fun _ => hq0) (hq (fun q27 => (hq (bo_a g25 (bo_m q27)) hq0)) hq0))))) (hq (fun q28 => (by have q28C := q28; rw [show ln (qB r12) = qQ r12 from ln_eq Int_c _] at q28C; exact (hq q28 hq0))) (hq (fun _ => hq0) hq0)))))))))))))
 rw [show ln (qB r12) = qQ r12 from ln_eq Int_c _]
 refine Run.ret ?_
 cases h
 refine ⟨_, _, by cbv, ?_, ?_⟩
 · exact LLe.r
 exact (ALe.v LLe.r ALe.nil)
end Go.Proofs.YtbhleignjmcdiaaGreatDoor.L