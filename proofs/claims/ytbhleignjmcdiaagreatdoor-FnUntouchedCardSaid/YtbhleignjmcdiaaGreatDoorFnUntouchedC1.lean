/- The contracts of the program's functions. -/
import Derived.Test.YtbhleignjmcdiaaGreatDoorProg
import Derived.Test.YtbhleignjmcdiaaGreatDoorFnUntouchedC0
import Derived.KernelRfl
namespace Go.Proofs.YtbhleignjmcdiaaGreatDoor.L
open Go Go.Proofs
set_option linter.unusedVariables false
set_option linter.unusedSimpArgs false
set_option maxRecDepth 8000
theorem qCG {a0 : List ByteArray} {a1 : ByteArray} {r : Int × Bool} (h : qc.f a0 a1 = some r) : AC Tryz.prog 171 [.v (.im false (rowsOf Str_c a0)), .v (.s (.string a1))] [.v (.jk), .v (.jk)] [.v (.s (.int .i64 r.1)), .v (.s (.bool r.2))] := by
 unfold qc.f at h
 let qKB := rowsOf Str_c
 let qdC := @lenI ByteArray
 show AC Tryz.prog 171 [.v (.im false (qKB a0)), .v (.s (.string a1))] _ _
 refine run3 Tryz.func171 (by rfl) (by rfl) (by cbv) ⟨by decide, rfl⟩ ?_
 intro ar cm bo sc sa sx ss sl bs sb ln sr ap up rp fr ge le lt nz mm ma sm fl al ci hL F hP hA hT hM hC
 refine Run.seq ?_
 refine Run.region hL hT [] (by cbv) hq0 ?_
 refine Run.seq ?_
 refine Run.region hL hT [] (by cbv) hq0 ?_
 rw [show ln (qKB a0) = qdC a0 from ln_eq Str_c _]
 refine Run.seq ?_
 refine Run.region hL hT [] (by cbv) hq0 ?_
 obtain ⟨K2, h_K2, h⟩ := joinE h
 refine Run.join1 K2 (r := r) (fun (y1 : Int) => ⟨54, 100000, [(0, .t (.im false (qKB a0))), (1, .t (.s (.string a1))), (6, .t (.s (.int .i64 (qdC a0)))), (7, .t (.s (.int .i64 y1)))], []⟩) ?_ ?_
 ·
  skip
  refine Run.block ?_
  refine Run.loop2 (fun (z8 : Int) (z9 : Int) => ⟨54, 100000, [(0, .t (.im false (qKB a0))), (1, .t (.s (.string a1))), (6, .t (.s (.int .i64 (qdC a0)))), (7, .t (.s (.int .i64 z8))), (8, .t (.s (.int .i64 z9)))], []⟩) (x0 := 0) (x1 := (qdC a0)) h (Weak.of _ [] hA (by cbv) ?_) (fun _ _ => rfl) ?_
  · repeat (first | exact hq0 | refine hq (by first | exact Tt | rfl) ?_)
  intro k z8 z9 h
  rw [qc.l0] at h
  refine Run.seq ?_
  refine Run.seq ?_
  refine Run.region hL hT [] (by cbv) ?_ ?_
  · exact (hq Tt hq0)
  refine Run.cond (by cbv) (hq0) (fun c10 => ?_) (fun c10 => ?_)
  ·
   have h := if_t c10 h
   refine Run.skip ?_
   refine Run.block ?_
   refine Run.seq ?_
   refine Run.region hL hT [] (by cbv) ?_ ?_
   · exact (hq Tt (hq Tt (hq Tt (hq (by decide : (0 : Int) ≤ 1) (hq (by decide : (1 : Int) < 64) hq0)))))
   refine Run.seq ?_
   obtain ⟨x11, h_x11, h⟩ := bnd h
   obtain ⟨r12, h_r12, h⟩ := bnd h
   refine Run.region hL hT [(2, .el [.s (.string x11)]), (5, .call [false, false] [.v (.jk), .v (.jk)] [.v (.s (.bool r12))])] (by cbv) ?_ ?_
   · exact (hq (qS h_x11) (hq (ql (f := Str_c) h_x11) (hq (qt (f := Str_c) h_x11) (hq (hC (qGL h_r12)) hq0))))
   refine Run.cond (by cbv) (hq0) (fun c13 => ?_) (fun c13 => ?_)
   ·
    have h := if_t c13 h
    refine Run.region hL hT [] (by cbv) ?_ ?_
    · exact (hq Tt hq0)
    refine ⟨(ar .add .i64 (ar .or .i64 (ar .shr .u64 (ar .or .u64 (ar .add .i64 z8 z9) 0) 1) 0) 1), z9, h, Weak.of _ [] hA (by cbv) ?_⟩
    repeat (first | exact hq0 | refine hq (by first | exact Tt | rfl) ?_)
   have h := if_f c13 h
   refine Run.region hL hT [] (by cbv) hq0 ?_
   refine ⟨z8, (ar .or .i64 (ar .shr .u64 (ar .or .u64 (ar .add .i64 z8 z9) 0) 1) 0), h, Weak.of _ [] hA (by cbv) ?_⟩
   repeat (first | exact hq0 | refine hq (by first | exact Tt | rfl) ?_)
  have h := if_f c10 h
  refine Run.exit ?_
  refine ⟨z8, h, Weak.of _ [] hA (by cbv) ?_⟩
  repeat (first | exact hq0 | refine hq (by first | exact Tt | rfl) ?_)
 intro y1 h
 rw [h_K2] at h
 refine Run.seq ?_
 obtain ⟨x14, h_x14, h⟩ := bnd h
 obtain ⟨x15, h_x15, h⟩ := bnd h
 obtain ⟨r16, h_r16, h⟩ := bnd h
 obtain ⟨r17, h_r17, h⟩ := bnd h
 refine Run.region hL hT [(7, .el [.s (.string x14)]), (14, .el [.s (.string x15)]), (16, .call [false] [.v (.jk)] [.v (.s (.bool r16))]), (19, .call [false] [.v (.jk)] [.v (.s (.bool r17))])] (by cbv) ?_ ?_
 · exact (hq Tt (hq (fun _ => hq0) (hq (fun _ => hq0) (hq (fun g20 => (hq g20 (hq g20 (hq (qS (gd_t h_x14 g20)) (hq (ql (f := Str_c) (gd_t h_x14 g20)) (hq (qt (f := Str_c) (gd_t h_x14 g20)) hq0)))))) (hq (fun g21 => (hq g21 hq0)) (hq (fun _ => hq0) (hq (fun g23 => (hq g23 (hq g23 hq0))) (hq (fun g24 => (hq g24 hq0)) (hq (fun _ => hq0) (hq (fun _ => hq0) (hq (fun g27 => (hq g27 (hq g27 (hq (qS (gd_t h_x15 g27)) (hq (ql (f := Str_c) (gd_t h_x15 g27)) (hq (qt (f := Str_c) (gd_t h_x15 g27)) hq0)))))) (hq (fun g28 => (hq g28 hq0)) (hq (fun g29 => (hq g29 (hq (hC (qUF (gd_t h_r16 g29))) hq0))) (hq (fun g30 => (hq g30 hq0)) (hq (fun _ => hq0) (hq (fun g32 => (hq g32 (hq (hC (qUF (gd_t h_r17 g32))) hq0))) (hq (fun g33 => (hq g33 (hq (fun q34 => (hq (bo_a g33 q34) hq0)) (hq (fun _ => hq0) hq0)))) (hq (fun g36 => (hq g36 (hq (fun _ => hq0) (hq (fun q38 => (hq (bo_a g36 (bo_m q38)) hq0)) hq0)))) (hq (fun q39 => (hq q39 hq0)) (hq (fun _ => hq0) hq0))))))))))))))))))))
 refine Run.ret ?_
 cases h
 refine ⟨_, _, by cbv, ?_, ?_⟩
 · exact LLe.r
 exact (ALe.v LLe.r (ALe.v LLe.r ALe.nil))
set_option maxHeartbeats 4000000 in
set_option maxRecDepth 100000 in
theorem qXH (w : World) (g2 c2 : Nat)
 (v' : Value) (w' : World) (hrun : (Builtin.append_ #[44, 44] 44 #[.slice none 0 0, .slice (some ⟨g2, 0, none⟩) 1 c2]).run Tryz.prog w = .ok v' w') :
 Calls Tryz.prog 172 #[.slice none 0 0, .int .i64 0, .slice (some ⟨g2, 0, none⟩) 1 c2] w fun ex w2 => ex = .returned v' ∧ w2 = w' := by
 go_enter Tryz.func172, Tryz.ntmps172
 go_wp2_with (at_builtin; refine qpC rfl (qyD rfl rfl rfl hrun) ?_)
 all_goals go_ret
 all_goals exact ⟨rfl, rfl⟩
set_option maxHeartbeats 4000000 in
set_option maxRecDepth 100000 in
theorem qrH (w : World) (g c g2 c2 n : Nat) (hnc : n ≤ c)
 (v' : Value) (w' : World) (hrun : (Builtin.append_ #[44, 44] 44 #[.slice (some ⟨g, 0, none⟩) n c, .slice (some ⟨g2, 0, none⟩) 1 c2]).run Tryz.prog w = .ok v' w') :
 Calls Tryz.prog 172 #[.slice (some ⟨g, 0, none⟩) n c, .int .i64 n, .slice (some ⟨g2, 0, none⟩) 1 c2] w fun ex w2 => ex = .returned v' ∧ w2 = w' := by
 go_enter Tryz.func172, Tryz.ntmps172
 go_wp2_with (at_builtin; refine qpC rfl (qyD rfl rfl rfl hrun) ?_)
 all_goals go_ret
 all_goals exact ⟨rfl, rfl⟩
set_option maxHeartbeats 4000000 in
set_option maxRecDepth 100000 in
theorem qNI (w : World) (g c g2 c2 n i : Nat) (cur cur2 A B : Array Value) (hi : i < n) (hroom : n + 1 ≤ c) (hc63 : c ≤ maxLen) (hne : g2 ≠ g) (hg : w.heap[g]? = some (.cells cur 9 (0, 0))) (hcs : cur.size = c * 1) (hg2 : w.heap[g2]? = some (.cells cur2 9 (0, 0)))
 (hcp1 : ∀ ty dc sc, (Builtin.copy_ #[44, 44] ty #[.slice (some ⟨g, i + 1, none⟩) (n + 1 - (i + 1)) dc, .slice (some ⟨g, i, none⟩) (n + 1 - i) sc]).run Tryz.prog w.drew = .ok (goInt (n - i : Nat)) (w.drew.setRow g A))
 (hcp2 : ∀ ty dc, (Builtin.copy_ #[44, 44] ty #[.slice (some ⟨g, i, none⟩) (n + 1 - i) dc, .slice (some ⟨g2, 0, none⟩) 1 c2]).run Tryz.prog (w.drew.setRow g A) = .ok (goInt (1 : Nat)) ((w.drew.setRow g A).setRow g B)) :
 Calls Tryz.prog 172 #[.slice (some ⟨g, 0, none⟩) n c, .int .i64 i, .slice (some ⟨g2, 0, none⟩) 1 c2] w fun ex w2 => ex = .returned (.slice (some ⟨g, 0, none⟩) (n + 1) c) ∧ w2 = (w.drew.setRow g A).setRow g B := by
 have mixed := mixed
 have TE : TyOk Tryz.prog 9 _ := qqE 9 _ rfl
 have TS : TyOk Tryz.prog 44 _ := qqE 44 _ rfl
 obtain ⟨ti, hti, htz, htb, _⟩ := TE.info
 have u92 := TS.isS rfl
 have hz1 : ¬ ((1 : Int) = 0) := by omega
 have hz2 : ¬ ((i : Int) = (n : Int)) := by omega
 have hw1 : IntKind.i64.wrap ((i : Int) + (1 : Int)) = (i : Int) + (1 : Int) := by unfold maxLen at hc63; rw [IntKind.wrap_i64]; omega
 have hw2 : IntKind.i64.wrap ((n : Int) + (1 : Int)) = (n : Int) + (1 : Int) := by unfold maxLen at hc63; rw [IntKind.wrap_i64]; omega
 have hb1 : (0 : Int) ≤ (i : Int) + (1 : Int) := by omega
 have hin : i ≤ n := by omega
 have htn : ((i : Int) + (1 : Int)).toNat = i + 1 := by omega
 have hb2 : ¬ (c = i + 1) := by omega
 have hb3 : (i : Int) ≤ (n : Int) + (1 : Int) := by omega
 have hb4 : ¬ (c = i) := by omega
 have hov : ∀ lb cb o, (callFunc 182 #[.slice (some ⟨g2, 0, none⟩) 1 c2, .slice (some ⟨g, o, none⟩) lb cb]).run Tryz.prog w = .ok (.value (.bool false)) w := fun lb cb o => by
  rw [run_callFunc_extern Tryz.func182 (by kernel_rfl) (by kernel_rfl) (by kernel_rfl) (e := Extern.SlicesOverlaps.overlaps #[44, 44] #[4]) (by kernel_rfl),
   Lib.run_overlaps_apart w 44 4 9 u92 1 (fun w => by simp [sizeOf, typeInfo, hti, htz]) ⟨g2, 0, none⟩ ⟨g, o, none⟩ 1 c2 lb cb hne 9 9 cur2.size cur.size (by simp [World.shape?, hg2]) (by simp [World.shape?, hg]) (by omega) (by simp [World.frozen?, hg2]) (by simp [World.frozen?, hg2])]
  rfl
 go_enter Tryz.func172, Tryz.ntmps172
 go_wp2_with (simp only [hov])
 go_region_law_o (refine qXJ rfl (qFE rfl (by simp [Act.eval, Act.put]; rfl) (by simp [Act.eval, Act.put]; rfl) (hcp1 _ _ _)) ?_)
 go_wp2_with (at_builtin; refine qpC rfl (qFE rfl rfl rfl (hcp2 _ _)) ?_)
 go_ret
 exact ⟨rfl, rfl⟩
set_option maxHeartbeats 4000000 in
set_option maxRecDepth 100000 in
theorem qYH (w : World) (g c g2 c2 n i G : Nat) (R A B : Array Value) (hi : i < n) (hnc : n ≤ c) (hroom : c < n + 1) (hc63 : n + 1 ≤ maxLen) (hG : n + 1 ≤ G) (hGm : G ≤ maxLen)
 (hrz : ∀ ty, (Builtin.append_ #[44, 3] ty #[.slice (some ⟨g, 0, none⟩) i c, .int .i64 ((n : Int) + 1 - i)]).run Tryz.prog w = .ok (.slice (some ⟨w.heap.size, 0, none⟩) (n + 1) G) (w.drew.alloc (.cells R 9)))
 (hcp2 : ∀ ty dc, (Builtin.copy_ #[44, 44] ty #[.slice (some ⟨w.heap.size, i, none⟩) (n + 1 - i) dc, .slice (some ⟨g2, 0, none⟩) 1 c2]).run Tryz.prog (w.alloc (.cells R 9)).drew = .ok (goInt (1 : Nat)) ((w.alloc (.cells R 9)).drew.setRow w.heap.size A))
 (hcp1 : ∀ ty dc sc, (Builtin.copy_ #[44, 44] ty #[.slice (some ⟨w.heap.size, i + 1, none⟩) (n + 1 - (i + 1)) dc, .slice (some ⟨g, i, none⟩) (n - i) sc]).run Tryz.prog ((w.alloc (.cells R 9)).drew.setRow w.heap.size A).drew = .ok (goInt (n - i : Nat)) (((w.alloc (.cells R 9)).drew.setRow w.heap.size A).drew.setRow w.heap.size B)) :
 Calls Tryz.prog 172 #[.slice (some ⟨g, 0, none⟩) n c, .int .i64 i, .slice (some ⟨g2, 0, none⟩) 1 c2] w fun ex w2 => ex = .returned (.slice (some ⟨w.heap.size, 0, none⟩) (n + 1) G) ∧ w2 = ((w.alloc (.cells R 9)).drew.setRow w.heap.size A).drew.setRow w.heap.size B := by
 have mixed := mixed
 have hz1 : ¬ ((1 : Int) = 0) := by omega
 have hz2 : ¬ ((i : Int) = (n : Int)) := by omega
 have hz3 : (c : Int) < (n : Int) + (1 : Int) := by omega
 have hw1 : IntKind.i64.wrap ((i : Int) + (1 : Int)) = (i : Int) + (1 : Int) := by unfold maxLen at hc63; rw [IntKind.wrap_i64]; omega
 have hw2 : IntKind.i64.wrap ((n : Int) + (1 : Int)) = (n : Int) + (1 : Int) := by unfold maxLen at hc63; rw [IntKind.wrap_i64]; omega
 have hw3 : IntKind.i64.wrap ((n : Int) + (1 : Int) - (i : Int)) = (n : Int) + (1 : Int) - (i : Int) := by unfold maxLen at hc63; rw [IntKind.wrap_i64]; omega
 have hb1 : (0 : Int) ≤ (i : Int) + (1 : Int) := by omega
 have hin : i ≤ n := by omega
 have htn : ((i : Int) + (1 : Int)).toNat = i + 1 := by omega
 have hGi : ¬ (G = i) := by omega
 have hGim : ¬ (G = i + 1) := by omega
 have hci : ¬ (c = i) := by omega
 have hb3 : (i : Int) ≤ (n : Int) := by omega
 go_enter Tryz.func172, Tryz.ntmps172
 go_wp2_with (first
  | (at_builtin; refine qpC rfl (qyD rfl rfl rfl (hrz _)) ?_)
  | (at_builtin; refine qpC rfl (qFE rfl rfl rfl (hcp2 _ _)) ?_))
 go_region_law_o (refine qXJ rfl (qFE rfl (by simp [Act.eval, Act.put]; rfl) (by simp [Act.eval, Act.put]; rfl) (hcp1 _ _ _)) ?_)
 go_wp2
 go_ret
 exact ⟨rfl, rfl⟩
theorem qwG : Roads Tryz.prog 172 44 9 1 3 where
 end0 := fun w g2 c2 v' w' h => qXH w g2 c2 v' w' h
 end1 := fun w g c g2 c2 n v' w' hnc h => qrH w g c g2 c2 n hnc v' w' h
 inn := fun w g c g2 c2 n i cur cur2 A B h1 h2 h3 h4 h5 h6 h7 h8 h9 => qNI w g c g2 c2 n i cur cur2 A B h1 h2 h3 h4 h5 h6 h7 (by simpa using h8) (by simpa using h9)
 grow := fun w g c g2 c2 n i G R A B h1 h2 h3 h4 h5 h6 h7 h8 h9 => qYH w g c g2 c2 n i G R A B h1 h2 h3 h4 h5 h6 h7 (by simpa using h8) (by simpa using h9)
theorem qOI {a0 a2 : List ByteArray} {a1 : Int} {r : List ByteArray} (h : qiD.f a0 a1 a2 = some r) : AC Tryz.prog 172 [.v (.ow 9 (rowsOf Str_c a0)), .v (.s (.int .i64 a1)), .v (.ow 9 (rowsOf Str_c a2))] [.v .jk, .v .jk, .v .jk] [.v (.ow 9 (rowsOf Str_c r))] := by
 unfold qiD.f insO at h
 split at h
 ·
  rename_i hc
  obtain ⟨h1, c0, c1, c2, c3⟩ := hc
  obtain ⟨i, rfl⟩ : ∃ k : Nat, a1 = k := ⟨a1.toNat, by omega⟩
  obtain ⟨x, rfl⟩ := List.length_eq_one_iff.1 h1
  simp only [Option.some.injEq] at h
  subst h
  have hr : rowsOf Str_c (a0.take ((i : Nat) : Int).toNat ++ [x] ++ a0.drop ((i : Nat) : Int).toNat) = (rowsOf Str_c a0).take i ++ [Str_c x] ++ (rowsOf Str_c a0).drop i := by simp [rowsOf, List.map_take, List.map_drop]
  rw [hr]
  have hl := rowsOf_len Str_c a0
  simp only [List.length_singleton] at c2 c3
  exact AC.of_ins ⟨_, Tryz.func172, by rfl, by rfl⟩ (qRE (qqE 9 _ rfl)) (qwG.raw (qqE 44 _ rfl) rfl (qqE 9 _ rfl) (by simp) (qUH (qqE 3 _ rfl) rfl)) (by omega) (by rw [hl]; show (a0.length + 1) * 16 ≤ _; omega) (by omega)
 cases h
set_option maxHeartbeats 4000000 in
set_option maxRecDepth 100000 in
theorem qLG (w : World) (g2 c2 : Nat)
 (v' : Value) (w' : World) (hrun : (Builtin.append_ #[43, 43] 43 #[.slice none 0 0, .slice (some ⟨g2, 0, none⟩) 1 c2]).run Tryz.prog w = .ok v' w') :
 Calls Tryz.prog 173 #[.slice none 0 0, .int .i64 0, .slice (some ⟨g2, 0, none⟩) 1 c2] w fun ex w2 => ex = .returned v' ∧ w2 = w' := by
 go_enter Tryz.func173, Tryz.ntmps173
 go_wp2_with (at_builtin; refine qpC rfl (qyD rfl rfl rfl hrun) ?_)
 all_goals go_ret
 all_goals exact ⟨rfl, rfl⟩
set_option maxHeartbeats 4000000 in
set_option maxRecDepth 100000 in
theorem qrG (w : World) (g c g2 c2 n : Nat) (hnc : n ≤ c)
 (v' : Value) (w' : World) (hrun : (Builtin.append_ #[43, 43] 43 #[.slice (some ⟨g, 0, none⟩) n c, .slice (some ⟨g2, 0, none⟩) 1 c2]).run Tryz.prog w = .ok v' w') :
 Calls Tryz.prog 173 #[.slice (some ⟨g, 0, none⟩) n c, .int .i64 n, .slice (some ⟨g2, 0, none⟩) 1 c2] w fun ex w2 => ex = .returned v' ∧ w2 = w' := by
 go_enter Tryz.func173, Tryz.ntmps173
 go_wp2_with (at_builtin; refine qpC rfl (qyD rfl rfl rfl hrun) ?_)
 all_goals go_ret
 all_goals exact ⟨rfl, rfl⟩
set_option maxHeartbeats 4000000 in
set_option maxRecDepth 100000 in
theorem qxG (w : World) (g c g2 c2 n i : Nat) (cur cur2 A B : Array Value) (hi : i < n) (hroom : n + 1 ≤ c) (hc63 : c ≤ maxLen) (hne : g2 ≠ g) (hg : w.heap[g]? = some (.cells cur 46 (0, 0))) (hcs : cur.size = c * 5) (hg2 : w.heap[g2]? = some (.cells cur2 46 (0, 0)))
 (hcp1 : ∀ ty dc sc, (Builtin.copy_ #[43, 43] ty #[.slice (some ⟨g, (i + 1) * 5, none⟩) (n + 1 - (i + 1)) dc, .slice (some ⟨g, i * 5, none⟩) (n + 1 - i) sc]).run Tryz.prog w.drew = .ok (goInt (n - i : Nat)) (w.drew.setRow g A))
 (hcp2 : ∀ ty dc, (Builtin.copy_ #[43, 43] ty #[.slice (some ⟨g, i * 5, none⟩) (n + 1 - i) dc, .slice (some ⟨g2, 0, none⟩) 1 c2]).run Tryz.prog (w.drew.setRow g A) = .ok (goInt (1 : Nat)) ((w.drew.setRow g A).setRow g B)) :
 Calls Tryz.prog 173 #[.slice (some ⟨g, 0, none⟩) n c, .int .i64 i, .slice (some ⟨g2, 0, none⟩) 1 c2] w fun ex w2 => ex = .returned (.slice (some ⟨g, 0, none⟩) (n + 1) c) ∧ w2 = (w.drew.setRow g A).setRow g B := by
 have mixed := mixed
 have TE : TyOk Tryz.prog 46 _ := qqE 46 _ rfl
 have TS : TyOk Tryz.prog 43 _ := qqE 43 _ rfl
 obtain ⟨ti, hti, htz, htb, _⟩ := TE.info
 have u92 := TS.isS rfl
 have hz1 : ¬ ((1 : Int) = 0) := by omega
 have hz2 : ¬ ((i : Int) = (n : Int)) := by omega
 have hw1 : IntKind.i64.wrap ((i : Int) + (1 : Int)) = (i : Int) + (1 : Int) := by unfold maxLen at hc63; rw [IntKind.wrap_i64]; omega
 have hw2 : IntKind.i64.wrap ((n : Int) + (1 : Int)) = (n : Int) + (1 : Int) := by unfold maxLen at hc63; rw [IntKind.wrap_i64]; omega
 have hb1 : (0 : Int) ≤ (i : Int) + (1 : Int) := by omega
 have hin : i ≤ n := by omega
 have htn : ((i : Int) + (1 : Int)).toNat = i + 1 := by omega
 have hb2 : ¬ (c = i + 1) := by omega
 have hb3 : (i : Int) ≤ (n : Int) + (1 : Int) := by omega
 have hb4 : ¬ (c = i) := by omega
 have hov : ∀ lb cb o, (callFunc 184 #[.slice (some ⟨g2, 0, none⟩) 1 c2, .slice (some ⟨g, o, none⟩) lb cb]).run Tryz.prog w = .ok (.value (.bool false)) w := fun lb cb o => by
  rw [run_callFunc_extern Tryz.func184 (by kernel_rfl) (by kernel_rfl) (by kernel_rfl) (e := Extern.SlicesOverlaps.overlaps #[43, 43] #[4]) (by kernel_rfl),
   Lib.run_overlaps_apart w 43 4 46 u92 5 (fun w => by simp [sizeOf, typeInfo, hti, htz]) ⟨g2, 0, none⟩ ⟨g, o, none⟩ 1 c2 lb cb hne 46 46 cur2.size cur.size (by simp [World.shape?, hg2]) (by simp [World.shape?, hg]) (by omega) (by simp [World.frozen?, hg2]) (by simp [World.frozen?, hg2])]
  rfl
 go_enter Tryz.func173, Tryz.ntmps173
 go_wp2_with (simp only [hov])
 go_region_law_o (refine qXJ rfl (qFE rfl (by simp [Act.eval, Act.put]; rfl) (by simp [Act.eval, Act.put]; rfl) (hcp1 _ _ _)) ?_)
 go_wp2_with (at_builtin; refine qpC rfl (qFE rfl rfl rfl (hcp2 _ _)) ?_)
 go_ret
 exact ⟨rfl, rfl⟩
set_option maxHeartbeats 4000000 in
set_option maxRecDepth 100000 in
theorem qMG (w : World) (g c g2 c2 n i G : Nat) (R A B : Array Value) (hi : i < n) (hnc : n ≤ c) (hroom : c < n + 1) (hc63 : n + 1 ≤ maxLen) (hG : n + 1 ≤ G) (hGm : G ≤ maxLen)
 (hrz : ∀ ty, (Builtin.append_ #[43, 3] ty #[.slice (some ⟨g, 0, none⟩) i c, .int .i64 ((n : Int) + 1 - i)]).run Tryz.prog w = .ok (.slice (some ⟨w.heap.size, 0, none⟩) (n + 1) G) (w.drew.alloc (.cells R 46)))
 (hcp2 : ∀ ty dc, (Builtin.copy_ #[43, 43] ty #[.slice (some ⟨w.heap.size, i * 5, none⟩) (n + 1 - i) dc, .slice (some ⟨g2, 0, none⟩) 1 c2]).run Tryz.prog (w.alloc (.cells R 46)).drew = .ok (goInt (1 : Nat)) ((w.alloc (.cells R 46)).drew.setRow w.heap.size A))
 (hcp1 : ∀ ty dc sc, (Builtin.copy_ #[43, 43] ty #[.slice (some ⟨w.heap.size, (i + 1) * 5, none⟩) (n + 1 - (i + 1)) dc, .slice (some ⟨g, i * 5, none⟩) (n - i) sc]).run Tryz.prog ((w.alloc (.cells R 46)).drew.setRow w.heap.size A).drew = .ok (goInt (n - i : Nat)) (((w.alloc (.cells R 46)).drew.setRow w.heap.size A).drew.setRow w.heap.size B)) :
 Calls Tryz.prog 173 #[.slice (some ⟨g, 0, none⟩) n c, .int .i64 i, .slice (some ⟨g2, 0, none⟩) 1 c2] w fun ex w2 => ex = .returned (.slice (some ⟨w.heap.size, 0, none⟩) (n + 1) G) ∧ w2 = ((w.alloc (.cells R 46)).drew.setRow w.heap.size A).drew.setRow w.heap.size B := by
 have mixed := mixed
 have hz1 : ¬ ((1 : Int) = 0) := by omega
 have hz2 : ¬ ((i : Int) = (n : Int)) := by omega
 have hz3 : (c : Int) < (n : Int) + (1 : Int) := by omega
 have hw1 : IntKind.i64.wrap ((i : Int) + (1 : Int)) = (i : Int) + (1 : Int) := by unfold maxLen at hc63; rw [IntKind.wrap_i64]; omega
 have hw2 : IntKind.i64.wrap ((n : Int) + (1 : Int)) = (n : Int) + (1 : Int) := by unfold maxLen at hc63; rw [IntKind.wrap_i64]; omega
 have hw3 : IntKind.i64.wrap ((n : Int) + (1 : Int) - (i : Int)) = (n : Int) + (1 : Int) - (i : Int) := by unfold maxLen at hc63; rw [IntKind.wrap_i64]; omega
 have hb1 : (0 : Int) ≤ (i : Int) + (1 : Int) := by omega
 have hin : i ≤ n := by omega
 have htn : ((i : Int) + (1 : Int)).toNat = i + 1 := by omega
 have hGi : ¬ (G = i) := by omega
 have hGim : ¬ (G = i + 1) := by omega
 have hci : ¬ (c = i) := by omega
 have hb3 : (i : Int) ≤ (n : Int) := by omega
 go_enter Tryz.func173, Tryz.ntmps173
 go_wp2_with (first
  | (at_builtin; refine qpC rfl (qyD rfl rfl rfl (hrz _)) ?_)
  | (at_builtin; refine qpC rfl (qFE rfl rfl rfl (hcp2 _ _)) ?_))
 go_region_law_o (refine qXJ rfl (qFE rfl (by simp [Act.eval, Act.put]; rfl) (by simp [Act.eval, Act.put]; rfl) (hcp1 _ _ _)) ?_)
 go_wp2
 go_ret
 exact ⟨rfl, rfl⟩
theorem qDG : Roads Tryz.prog 173 43 46 5 3 where
 end0 := fun w g2 c2 v' w' h => qLG w g2 c2 v' w' h
 end1 := fun w g c g2 c2 n v' w' hnc h => qrG w g c g2 c2 n hnc v' w' h
 inn := fun w g c g2 c2 n i cur cur2 A B h1 h2 h3 h4 h5 h6 h7 h8 h9 => qxG w g c g2 c2 n i cur cur2 A B h1 h2 h3 h4 h5 h6 h7 h8 h9
 grow := fun w g c g2 c2 n i G R A B h1 h2 h3 h4 h5 h6 h7 h8 h9 => qMG w g c g2 c2 n i G R A B h1 h2 h3 h4 h5 h6 h7 h8 h9
theorem qyG {a0 a2 : List Json} {a1 : Int} {r : List Json} (h : qID.f a0 a1 a2 = some r) : AC Tryz.prog 173 [.v (.ow 46 (rowsOf qND a0)), .v (.s (.int .i64 a1)), .v (.ow 46 (rowsOf qND a2))] [.v .jk, .v .jk, .v .jk] [.v (.ow 46 (rowsOf qND r))] := by
 unfold qID.f insO at h
 split at h
 ·
  rename_i hc
  obtain ⟨h1, c0, c1, c2, c3⟩ := hc
  obtain ⟨i, rfl⟩ : ∃ k : Nat, a1 = k := ⟨a1.toNat, by omega⟩
  obtain ⟨x, rfl⟩ := List.length_eq_one_iff.1 h1
  simp only [Option.some.injEq] at h
  subst h
  have hr : rowsOf qND (a0.take ((i : Nat) : Int).toNat ++ [x] ++ a0.drop ((i : Nat) : Int).toNat) = (rowsOf qND a0).take i ++ [qND x] ++ (rowsOf qND a0).drop i := by simp [rowsOf, List.map_take, List.map_drop]
  rw [hr]
  have hl := rowsOf_len qND a0
  simp only [List.length_singleton] at c2 c3
  exact AC.of_ins ⟨_, Tryz.func173, by rfl, by rfl⟩ (qRE (qqE 46 _ rfl)) (qDG.raw (qqE 43 _ rfl) rfl (qqE 46 _ rfl) (by simp) (qUH (qqE 3 _ rfl) rfl)) (by omega) (by rw [hl]; show (a0.length + 1) * 80 ≤ _; omega) (by omega)
 cases h
theorem qlR {a0 : List ByteArray} {a1 : List Int} {r : Json} (h : qQD.f a0 a1 = some r) : AC Tryz.prog 164 [.v (.im false (rowsOf Str_c a0)), .v (.im false (rowsOf Int_c a1))] [.v (.jk), .v (.jk)] [.ag [.s (.int .i64 r.Kind), .s (.int .i64 r.N), .s (.string r.S), .ow 46 (rowsOf qND r.List_), .ow 9 (rowsOf Str_c r.Names)]] := by
 unfold qQD.f at h
 let qB := rowsOf Int_c
 let qtD := rowsOf qND
 let qKB := rowsOf Str_c
 let qdC := @lenI ByteArray
 show AC Tryz.prog 164 [.v (.im false (qKB a0)), .v (.im false (qB a1))] _ _
 refine run3 Tryz.func164 (by rfl) (by rfl) (by cbv) ⟨by decide, rfl⟩ ?_
 intro ar cm bo sc sa sx ss sl bs sb ln sr ap up rp fr ge le lt nz mm ma sm fl al ci hL F hP hA hT hM hC
 refine Run.seq ?_
 refine Run.region hL hT [] (by cbv) hq0 ?_
 refine Run.seq ?_
 refine Run.region hL hT [] (by cbv) ?_ ?_
 · exact (hq Tt hq0)
 refine Run.seq ?_
 refine Run.seq ?_
 refine Run.region hL hT [] (by cbv) hq0 ?_
 rw [show ln (qKB a0) = qdC a0 from ln_eq Str_c _]
 refine Run.block ?_
 refine Run.loop3 (fun (z23 : List Json) (z24 : List ByteArray) (z25 : Int) => ⟨45, 100000, [(1, .t (.im false (qB a1))), (4, .pt 1 0 0), (5, .pt 2 0 0), (11, .t (.im false (qKB a0))), (12, .t (.s (.int .i64 (qdC a0)))), (13, .t (.s (.int .i64 z25)))], [(1, .box 46 [.t (.s (.int .i64 0)), .t (.s (.int .i64 0)), .t (.s (.string ByteArray.empty)), .t (.s (.slice none 0 0)), .t (.s (.slice none 0 0))]), (2, .box 46 [.t (.s (.int .i64 5)), .t (.s (.int .i64 0)), .t (.s (.string ByteArray.empty)), .rf 3, .rf 4]), (3, .row 0 46 5 (qtD z23)), (4, .row 0 9 1 (qKB z24))]⟩) (x0 := []) (x1 := []) (x2 := 0) h ((Weak.nilB (l := [.t (.s (.int .i64 5)), .t (.s (.int .i64 0)), .t (.s (.string ByteArray.empty))]) hT 4097 3 13288 46 rfl (by cbv) (by cbv) (by cbv)).trans ((Weak.nilB (l := [.t (.s (.int .i64 5)), .t (.s (.int .i64 0)), .t (.s (.string ByteArray.empty)), .rf 13288]) hT 4097 4 13289 9 rfl (by cbv) (by cbv) (by cbv)).trans (Weak.of _ [(1, 0), (2, 4097), (3, 13288), (4, 13289)] hA (by cbv) ?_))) (fun _ _ _ => rfl) ?_
 · repeat (first | exact hq0 | refine hq (by first | exact Tt | rfl) ?_)
 intro k z23 z24 z25 h
 rw [qQD.l0] at h
 refine Run.seq ?_
 refine Run.region hL hT [] (by cbv) ?_ ?_
 · exact (hq Tt hq0)
 refine Run.seq ?_
 refine Run.cond (by cbv) (hq0) (fun c26 => ?_) (fun c26 => ?_)
 ·
  have h := if_t c26 h
  refine Run.skip ?_
  refine Run.seq ?_
  refine Run.block ?_
  refine Run.seq ?_
  obtain ⟨x27, h_x27, h⟩ := bnd h
  refine Run.region hL hT [(1, .el [.s (.string x27)])] (by cbv) ?_ ?_
  · exact (hq (qS h_x27) (hq (ql (f := Str_c) h_x27) (hq (qt (f := Str_c) h_x27) hq0)))
  refine Run.seq ?_
  obtain ⟨⟨qld, qmd⟩, h_r28, h⟩ := bnd h
  refine Run.region hL hT [(3, .call [false, false] [.v (.jk), .v (.jk)] [.v (.s (.int .i64 qld)), .v (.s (.bool qmd))])] (by cbv) ?_ ?_
  · exact (hq Tt (hq (hC (AC.args (qCG h_r28) (ALe.v (LLe.im (RLe.eq (qQC qLO _))) (ALe.v LLe.r ALe.nil)))) hq0))
  refine Run.seq ?_
  obtain ⟨l29, h_l29, h⟩ := bnd h
  obtain ⟨r30, h_r30, h⟩ := bnd h
  refine Run.region hL hT [(5, .call [true, false, true] [.v (.jk), .v (.jk), .v (.jk)] [.v (.ow 9 (qKB r30))])] (by cbv) ?_ ?_
  · exact (hq Tt (hq (hC (AC.args (qOI h_r30) (ALe.v LLe.r (ALe.v LLe.r (ALe.v (LLe.ow (qUB (f := Str_c) h_l29 (RLe.cons rfl LLe.r RLe.nil))) ALe.nil))))) (hq Tt hq0)))
  obtain ⟨x31, h_x31, h⟩ := bnd h
  obtain ⟨l32, h_l32, h⟩ := bnd h
  obtain ⟨r33, h_r33, h⟩ := bnd h
  refine Run.draw hL hT hM [(5, .el [.s (.int .i64 x31)]), (9, .call [true, false, true] [.v (.jk), .v (.jk), .v (.jk)] [.v (.ow 46 (qtD r33))])] (by cbv) (by cbv) (by cbv) (by cbv) (by cbv) ?_ ?_
  · exact (hq Tt (hq (qS h_x31) (hq (ql (f := Int_c) h_x31) (hq (qt (f := Int_c) h_x31) (hq (hC (AC.args (qyG h_r33) (ALe.v LLe.r (ALe.v LLe.r (ALe.v (LLe.ow (qwM qDL h_l32 (RLe.cons rfl (LLe.c (LLe.c (LLe.c (LLe.cons LLe.nilO (LLe.cons LLe.nilO LLe.nil))))) RLe.nil))) ALe.nil))))) (hq Tt hq0))))))
  refine Run.region hL hT [] (by cbv) ?_ ?_
  · exact (hq Tt hq0)
  refine ⟨r33, r30, (ar .add .i64 z25 1), h, Weak.of _ [(1, 1), (2, 2), (3, 116393), (4, 112293)] hA (by cbv) ?_⟩
  repeat (first | exact hq0 | refine hq (by first | exact Tt | rfl) ?_)
 have h := if_f c26 h
 refine Run.exit ?_
 refine Run.seq ?_
 refine Run.region hL hT [] (by cbv) ?_ ?_
 · exact (hq Tt (hq Tt hq0))
 refine Run.ret ?_
 cases h
 refine ⟨_, _, by cbv, ?_, ?_⟩
 · exact LLe.r
 exact (ALe.ag rfl LLe.r ALe.nil)
theorem qVP {qg : Int} {qd : List Cond} {qh : Int} {qw : Bool} {qi : Int} {qp : List Int} {qx : Bool} {qM : Int} {qZ : Int} {qLC : Int} {qk : List Int} {a2 : Int} {r : Json} (h : qtC.f (Query.mk qg qd qh qw qi qp qx qM qZ) (Row.mk qLC qk) a2 = some r) : AC Tryz.prog 147 [.ag [.s (.int .i64 qg), .im false (rowsOf qGB qd), .s (.int .i64 qh), .s (.bool qw), .s (.int .i64 qi), .im false (rowsOf Int_c qp), .s (.bool qx), .s (.int .i64 qM), .s (.int .i64 qZ)], .ag [.s (.int .i64 qLC), .im false (rowsOf Int_c qk)], .v (.s (.int .i64 a2))] [.ag [.jk, .jk, .jk, .jk, .jk, .jk, .jk, .jk, .jk], .ag [.jk, .jk], .v (.jk)] [.ag [.s (.int .i64 r.Kind), .s (.int .i64 r.N), .s (.string r.S), .ow 46 (rowsOf qND r.List_), .ow 9 (rowsOf Str_c r.Names)]] := by
 unfold qtC.f at h
 let qO := rowsOf qGB
 let qB := rowsOf Int_c
 let qtD := rowsOf qND
 let qKB := rowsOf Str_c
 let qQ := @lenI Int
 show AC Tryz.prog 147 [.ag [.s (.int .i64 qg), .im false (qO qd), .s (.int .i64 qh), .s (.bool qw), .s (.int .i64 qi), .im false (qB qp), .s (.bool qx), .s (.int .i64 qM), .s (.int .i64 qZ)], .ag [.s (.int .i64 qLC), .im false (qB qk)], .v (.s (.int .i64 a2))] _ _
 refine run3 Tryz.func147 (by rfl) (by rfl) (by cbv) ⟨by decide, rfl⟩ ?_
 intro ar cm bo sc sa sx ss sl bs sb ln sr ap up rp fr ge le lt nz mm ma sm fl al ci hL F hP hA hT hM hC
 refine Run.seq ?_
 refine Run.region hL hT [] (by cbv) hq0 ?_
 refine Run.seq ?_
 obtain ⟨l1, h_l1, h⟩ := bnd h
 obtain ⟨l2, h_l2, h⟩ := bnd h
 refine Run.draw hL hT hM [] (by cbv) (by cbv) (by cbv) (by cbv) (by cbv) ?_ ?_
 · exact (hq Tt hq0)
 refine Run.row (rows := [[.s (.string (ByteArray.mk #[105, 100]))]]) 4096 (qKB l1) (by cbv) (qUB (f := Str_c) h_l1 (RLe.cons rfl LLe.r RLe.nil)) ?_
 refine Run.row (rows := [[.s (.int .i64 qLC)]]) 4099 (qB l2) (by cbv) (qUB (f := Int_c) h_l2 (RLe.cons rfl LLe.r RLe.nil)) ?_
 obtain ⟨K5, h_K5, h⟩ := joinE h
 refine Run.join2 K5 (r := r) (fun (y3 : List ByteArray) (y4 : List Int) => ⟨55, 100000, [(2, .t (.s (.int .i64 a2))), (3, .pt 1 0 0), (6, .pt 2 0 0), (7, .rf 3), (8, .rf 4)], [(1, .box 32 [.t (.s (.int .i64 qg)), .t (.im false (qO qd)), .t (.s (.int .i64 qh)), .t (.s (.bool qw)), .t (.s (.int .i64 qi)), .t (.im false (qB qp)), .t (.s (.bool qx)), .t (.s (.int .i64 qM)), .t (.s (.int .i64 qZ))]), (2, .box 46 [.t (.s (.int .i64 0)), .t (.s (.int .i64 0)), .t (.s (.string ByteArray.empty)), .t (.s (.slice none 0 0)), .t (.s (.slice none 0 0))]), (3, .row 0 9 1 (qKB y3)), (4, .row 0 3 1 (qB y4))]⟩) ?_ ?_
 ·
  skip
  refine Run.seq ?_
  refine Run.region hL hT [] (by cbv) ?_ ?_
  · exact (hq Tt hq0)
  rw [show ln (qB qp) = qQ qp from ln_eq Int_c _]
  refine Run.block ?_
  refine Run.loop3 (fun (z26 : List ByteArray) (z27 : List Int) (z28 : Int) => ⟨55, 100000, [(2, .t (.s (.int .i64 a2))), (3, .pt 1 0 0), (4, .pt 2 0 0), (6, .pt 3 0 0), (7, .rf 4), (8, .rf 5), (16, .t (.im false (qB qp))), (17, .t (.s (.int .i64 (qQ qp)))), (18, .t (.s (.int .i64 z28)))], [(1, .box 32 [.t (.s (.int .i64 qg)), .t (.im false (qO qd)), .t (.s (.int .i64 qh)), .t (.s (.bool qw)), .t (.s (.int .i64 qi)), .t (.im false (qB qp)), .t (.s (.bool qx)), .t (.s (.int .i64 qM)), .t (.s (.int .i64 qZ))]), (2, .box 56 [.t (.s (.int .i64 qLC)), .t (.im false (qB qk))]), (3, .box 46 [.t (.s (.int .i64 0)), .t (.s (.int .i64 0)), .t (.s (.string ByteArray.empty)), .t (.s (.slice none 0 0)), .t (.s (.slice none 0 0))]), (4, .row 0 9 1 (qKB z26)), (5, .row 0 3 1 (qB z27))]⟩) (x0 := l1) (x1 := l2) (x2 := 0) h (Weak.of _ [(1, 0), (2, 1), (3, 2), (4, 4096), (5, 4099)] hA (by cbv) ?_) (fun _ _ _ => rfl) ?_
  · repeat (first | exact hq0 | refine hq (by first | exact Tt | rfl) ?_)
  intro k z26 z27 z28 h
  rw [qtC.l0] at h
  refine Run.seq ?_
  refine Run.region hL hT [] (by cbv) ?_ ?_
  · exact (hq Tt hq0)
  refine Run.seq ?_
  refine Run.cond (by cbv) (hq0) (fun c29 => ?_) (fun c29 => ?_)
  ·
   have h := if_t c29 h
   refine Run.skip ?_
   refine Run.seq ?_
   refine Run.block ?_
   refine Run.seq ?_
   obtain ⟨x30, h_x30, h⟩ := bnd h
   refine Run.region hL hT [(1, .el [.s (.int .i64 x30)])] (by cbv) ?_ ?_
   · exact (hq (qS h_x30) (hq (ql (f := Int_c) h_x30) (hq (qt (f := Int_c) h_x30) hq0)))
   refine Run.seq ?_
   refine Run.seq ?_
   obtain ⟨l31, h_l31, h⟩ := bnd h
   obtain ⟨r32, h_r32, h⟩ := bnd h
   refine Run.region hL hT [(5, .call [false, false] [.v (.jk), .v (.jk)] [.v (.s (.bool r32))])] (by cbv) ?_ ?_
   · exact (hq Tt (hq (cut_0 h_l31) (hq (cut_1 h_l31) (hq (cut_2 (f := Int_c) h_l31) (hq (qXb qic _) (hq (hC (AC.args (qkI h_r32) (ALe.v (LLe.im (RLe.eq (qcS Int_c h_l31))) (ALe.v LLe.r ALe.nil)))) hq0))))))
   rw [show sr (qB qp) 0 z28 = qB l31 from qcS Int_c h_l31]
   refine Run.cond (by cbv) (hq0) (fun c33 => ?_) (fun c33 => ?_)
   ·
    have h := if_t c33 h
    refine Run.exit ?_
    refine Run.region hL hT [] (by cbv) ?_ ?_
    · exact (hq Tt hq0)
    refine ⟨z26, z27, (ar .add .i64 z28 1), h, Weak.of _ [(1, 1), (2, 2), (3, 3), (4, 4), (5, 5)] hA (by cbv) ?_⟩
    repeat (first | exact hq0 | refine hq (by first | exact Tt | rfl) ?_)
   have h := if_f c33 h
   refine Run.skip ?_
   refine Run.seq ?_
   obtain ⟨r34, h_r34, h⟩ := bnd h
   obtain ⟨u35, h_u35, h⟩ := bnd h
   obtain ⟨l36, h_l36, h⟩ := bnd h
   obtain ⟨l37, h_l37, h⟩ := bnd h
   refine Run.region hL hT [(2, .call [false] [.v (.jk)] [.v (.s (.string r34))])] (by cbv) ?_ ?_
   · exact (hq (hC (qUP h_r34)) (hq (sm_t h_u35) (hq (qwD (P := Tryz.prog) (f := Str_c) RLe.r (qUB (f := Str_c) h_l36 (RLe.cons rfl LLe.r RLe.nil)) h_l37) hq0)))
   refine Run.row (rows := (ap (qKB z26) ([[.s (.string (sa (ByteArray.mk #[99]) r34))]]))) 112293 (qKB l37) (by cbv) (qvD (f := Str_c) RLe.r (qUB (f := Str_c) h_l36 (RLe.cons rfl LLe.r RLe.nil)) h_l37) ?_
   obtain ⟨r38, h_r38, h⟩ := bnd h
   obtain ⟨l39, h_l39, h⟩ := bnd h
   obtain ⟨l40, h_l40, h⟩ := bnd h
   refine Run.region hL hT [(3, .call [false, false] [.ag [.jk, .jk], .v (.jk)] [.v (.s (.int .i64 r38))])] (by cbv) ?_ ?_
   · exact (hq Tt (hq (hC (qvE h_r38)) (hq (qwD (P := Tryz.prog) (f := Int_c) RLe.r (qUB (f := Int_c) h_l39 (RLe.cons rfl LLe.r RLe.nil)) h_l40) hq0)))
   refine Run.row (rows := (ap (qB z27) ([[.s (.int .i64 r38)]]))) 116389 (qB l40) (by cbv) (qvD (f := Int_c) RLe.r (qUB (f := Int_c) h_l39 (RLe.cons rfl LLe.r RLe.nil)) h_l40) ?_
   refine Run.region hL hT [] (by cbv) ?_ ?_
   · exact (hq Tt hq0)
   refine ⟨l37, l40, (ar .add .i64 z28 1), h, Weak.of _ [(1, 1), (2, 2), (3, 3), (4, 112293), (5, 116389)] hA (by cbv) ?_⟩
   repeat (first | exact hq0 | refine hq (by first | exact Tt | rfl) ?_)
  have h := if_f c29 h
  refine Run.exit ?_
  refine ⟨z26, z27, h, Weak.of _ [(1, 1), (2, 3), (3, 4), (4, 5)] hA (by cbv) ?_⟩
  repeat (first | exact hq0 | refine hq (by first | exact Tt | rfl) ?_)
 intro y3 y4 h
 rw [h_K5] at h
 obtain ⟨K43, h_K43, h⟩ := joinE h
 refine Run.join2 K43 (r := r) (fun (y41 : List ByteArray) (y42 : List Int) => ⟨55, 100000, [(6, .pt 1 0 0), (7, .rf 2), (8, .rf 3)], [(1, .box 46 [.t (.s (.int .i64 0)), .t (.s (.int .i64 0)), .t (.s (.string ByteArray.empty)), .t (.s (.slice none 0 0)), .t (.s (.slice none 0 0))]), (2, .row 0 9 1 (qKB y41)), (3, .row 0 3 1 (qB y42))]⟩) ?_ ?_
 ·
  skip
  refine Run.seq ?_
  refine Run.region hL hT [] (by cbv) ?_ ?_
  · exact (hq Tt hq0)
  refine Run.cond (by cbv) (hq0) (fun c44 => ?_) (fun c44 => ?_)
  ·
   have h := if_t c44 h
   refine Run.seq ?_
   obtain ⟨l45, h_l45, h⟩ := bnd h
   obtain ⟨l46, h_l46, h⟩ := bnd h
   refine Run.region hL hT [] (by cbv) ?_ ?_
   · exact (hq (qwD (P := Tryz.prog) (f := Str_c) RLe.r (qUB (f := Str_c) h_l45 (RLe.cons rfl LLe.r RLe.nil)) h_l46) hq0)
   refine Run.row (rows := (ap (qKB y3) ([[.s (.string (ByteArray.mk #[107, 105, 100, 115]))]]))) 104098 (qKB l46) (by cbv) (qvD (f := Str_c) RLe.r (qUB (f := Str_c) h_l45 (RLe.cons rfl LLe.r RLe.nil)) h_l46) ?_
   obtain ⟨l47, h_l47, h⟩ := bnd h
   obtain ⟨l48, h_l48, h⟩ := bnd h
   refine Run.region hL hT [] (by cbv) ?_ ?_
   · exact (hq (qwD (P := Tryz.prog) (f := Int_c) RLe.r (qUB (f := Int_c) h_l47 (RLe.cons rfl LLe.r RLe.nil)) h_l48) hq0)
   refine ⟨l46, l48, h, (Weak.row (rows := (ap (qB y4) ([[.s (.int .i64 a2)]]))) 108195 (qB l48) (by cbv) (qvD (f := Int_c) RLe.r (qUB (f := Int_c) h_l47 (RLe.cons rfl LLe.r RLe.nil)) h_l48)).trans (Weak.of _ [(1, 2), (2, 104098), (3, 108195)] hA (by cbv) ?_)⟩
   repeat (first | exact hq0 | refine hq (by first | exact Tt | rfl) ?_)
  have h := if_f c44 h
  refine Run.skip ?_
  refine ⟨y3, y4, h, Weak.of _ [(1, 2), (2, 3), (3, 4)] hA (by cbv) ?_⟩
  repeat (first | exact hq0 | refine hq (by first | exact Tt | rfl) ?_)
 intro y41 y42 h
 rw [h_K43] at h
 refine Run.seq ?_
 obtain ⟨⟨qGZ, qnd, qod, qtW, quW⟩, h_r49, h⟩ := bnd h
 obtain ⟨⟨qHZ, qpd, qqd, qvW, qwW⟩, h_r50, h⟩ := bnd h
 refine Run.region hL hT [(2, .call [false, false] [.v (.jk), .v (.jk)] [.ag [.s (.int .i64 qGZ), .s (.int .i64 qnd), .s (.string qod), .ow 46 (qtD qtW), .ow 9 (qKB quW)]]), (3, .call [true] [.ag [.jk, .jk, .jk, .jk, .jk]] [.ag [.s (.int .i64 qHZ), .s (.int .i64 qpd), .s (.string qqd), .ow 46 (qtD qvW), .ow 9 (qKB qwW)]])] (by cbv) ?_ ?_
 · exact (hq (hC (AC.args (qlR h_r49) (ALe.v (LLe.im (RLe.eq (qQC qLO _))) (ALe.v (LLe.im (RLe.eq (qQC qKD _))) ALe.nil)))) (hq (hC (qwJ h_r50)) (hq Tt hq0)))
 refine Run.ret ?_
 cases h
 refine ⟨_, _, by cbv, ?_, ?_⟩
 · exact LLe.r
 exact (ALe.ag rfl LLe.r ALe.nil)
theorem qfO {qg : Int} {qd : List Cond} {qh : Int} {qw : Bool} {qi : Int} {qp : List Int} {qx : Bool} {qM : Int} {qZ : Int} {a1 : List Row} {a2 : List Int} {r : (List Json)} (h : qyC.f (Query.mk qg qd qh qw qi qp qx qM qZ) a1 a2 = some r) : AC Tryz.prog 116 [.ag [.s (.int .i64 qg), .im false (rowsOf qGB qd), .s (.int .i64 qh), .s (.bool qw), .s (.int .i64 qi), .im false (rowsOf Int_c qp), .s (.bool qx), .s (.int .i64 qM), .s (.int .i64 qZ)], .v (.im false (rowsOf Row_i a1)), .v (.im false (rowsOf Int_c a2))] [.ag [.jk, .jk, .jk, .jk, .jk, .jk, .jk, .jk, .jk], .v (.jk), .v (.jk)] [.v (.ow 46 (rowsOf qND r))] := by
 unfold qyC.f at h
 let qO := rowsOf qGB
 let qB := rowsOf Int_c
 let qtD := rowsOf qND
 let qAB := rowsOf Row_i
 let qKB := rowsOf Str_c
 let qQ := @lenI Int
 let qm := @lenI Row
 show AC Tryz.prog 116 [.ag [.s (.int .i64 qg), .im false (qO qd), .s (.int .i64 qh), .s (.bool qw), .s (.int .i64 qi), .im false (qB qp), .s (.bool qx), .s (.int .i64 qM), .s (.int .i64 qZ)], .v (.im false (qAB a1)), .v (.im false (qB a2))] _ _
 refine run3 Tryz.func116 (by rfl) (by rfl) (by cbv) ⟨by decide, rfl⟩ ?_
 intro ar cm bo sc sa sx ss sl bs sb ln sr ap up rp fr ge le lt nz mm ma sm fl al ci hL F hP hA hT hM hC
 refine Run.seq ?_
 refine Run.region hL hT [] (by cbv) hq0 ?_
 refine Run.seq ?_
 refine Run.region hL hT [] (by cbv) hq0 ?_
 refine Run.seq ?_
 refine Run.seq ?_
 obtain ⟨r1, h_r1, h⟩ := bnd h
 obtain ⟨l2, h_l2, h⟩ := bnd h
 refine Run.region hL hT [(4, .call [false, false] [.ag [.jk, .jk, .jk, .jk, .jk, .jk, .jk, .jk, .jk], .v (.jk)] [.v (.s (.int .i64 r1))])] (by cbv) ?_ ?_
 · exact (hq Tt (hq (by rw [show ln (qAB a1) = qm a1 from ln_eq Row_i _]; exact (hC (qdO h_r1))) (hq (cut_0 h_l2) (hq (cut_1 h_l2) (hq (cut_2 (f := Row_i) h_l2) (hq (qXb qjc _) hq0))))))
 rw [show sr (qAB a1) 0 r1 = qAB l2 from qcS Row_i h_l2]
 rw [show ln (qAB a1) = qm a1 from ln_eq Row_i _]
 rw [show ln (qAB l2) = qm l2 from ln_eq Row_i _]
 refine Run.block ?_
 refine Run.loop2 (fun (z17 : List Json) (z18 : Int) => ⟨41, 100000, [(2, .t (.im false (qB a2))), (3, .pt 1 0 0), (7, .rf 2), (17, .t (.im false (qAB l2))), (18, .t (.s (.int .i64 (qm l2)))), (19, .t (.s (.int .i64 z18)))], [(1, .box 32 [.t (.s (.int .i64 qg)), .t (.im false (qO qd)), .t (.s (.int .i64 qh)), .t (.s (.bool qw)), .t (.s (.int .i64 qi)), .t (.im false (qB qp)), .t (.s (.bool qx)), .t (.s (.int .i64 qM)), .t (.s (.int .i64 qZ))]), (2, .row 0 46 5 (qtD z17))]⟩) (x0 := []) (x1 := 0) h (Weak.of _ [(1, 0), (2, 4096)] hA (by cbv) ?_) (fun _ _ => rfl) ?_
 · repeat (first | exact hq0 | refine hq (by first | exact Tt | rfl) ?_)
 intro k z17 z18 h
 rw [qyC.l0] at h
 refine Run.seq ?_
 refine Run.region hL hT [] (by cbv) ?_ ?_
 · exact (hq Tt hq0)
 refine Run.seq ?_
 refine Run.cond (by cbv) (hq0) (fun c19 => ?_) (fun c19 => ?_)
 ·
  have h := if_t c19 h
  refine Run.skip ?_
  refine Run.seq ?_
  refine Run.block ?_
  refine Run.seq ?_
  obtain ⟨⟨qIZ, qSQ⟩, h_x20, h⟩ := bnd h
  refine Run.region hL hT [(1, .el [.s (.int .i64 qIZ), .im false (qB qSQ)])] (by cbv) ?_ ?_
  · exact (hq (qS h_x20) (hq (ql (f := Row_i) h_x20) (hq (qt (f := Row_i) h_x20) (hq Tt hq0))))
  refine Run.seq ?_
  refine Run.region hL hT [] (by cbv) hq0 ?_
  obtain ⟨K22, h_K22, h⟩ := joinE h
  refine Run.join1 K22 (r := r) (fun (y21 : Int) => ⟨41, 100000, [(2, .t (.im false (qB a2))), (3, .pt 1 0 0), (7, .rf 2), (9, .pt 3 0 0), (10, .t (.s (.int .i64 y21))), (17, .t (.im false (qAB l2))), (18, .t (.s (.int .i64 (qm l2)))), (19, .t (.s (.int .i64 z18)))], [(1, .box 32 [.t (.s (.int .i64 qg)), .t (.im false (qO qd)), .t (.s (.int .i64 qh)), .t (.s (.bool qw)), .t (.s (.int .i64 qi)), .t (.im false (qB qp)), .t (.s (.bool qx)), .t (.s (.int .i64 qM)), .t (.s (.int .i64 qZ))]), (2, .row 0 46 5 (qtD z17)), (3, .box 56 [.t (.s (.int .i64 qIZ)), .t (.im false (qB qSQ))])]⟩) ?_ ?_
  ·
   skip
   refine Run.seq ?_
   refine Run.region hL hT [] (by cbv) ?_ ?_
   · exact (hq Tt hq0)
   rw [show ln (qB a2) = qQ a2 from ln_eq Int_c _]
   refine Run.cond (by cbv) (hq0) (fun c23 => ?_) (fun c23 => ?_)
   ·
    have h := if_t c23 h
    obtain ⟨x24, h_x24, h⟩ := bnd h
    refine Run.region hL hT [(2, .el [.s (.int .i64 x24)])] (by cbv) ?_ ?_
    · exact (hq (qS h_x24) (hq (ql (f := Int_c) h_x24) (hq (qt (f := Int_c) h_x24) hq0)))
    refine ⟨x24, h, Weak.of _ [(1, 1), (2, 2), (3, 104099)] hA (by cbv) ?_⟩
    repeat (first | exact hq0 | refine hq (by first | exact Tt | rfl) ?_)
   have h := if_f c23 h
   refine Run.skip ?_
   refine ⟨0, h, Weak.of _ [(1, 1), (2, 2), (3, 104099)] hA (by cbv) ?_⟩
   repeat (first | exact hq0 | refine hq (by first | exact Tt | rfl) ?_)
  intro y21 h
  rw [h_K22] at h
  obtain ⟨⟨qST, qib, qjb, qTQ, qUQ⟩, h_r25, h⟩ := bnd h
  obtain ⟨l26, h_l26, h⟩ := bnd h
  obtain ⟨l27, h_l27, h⟩ := bnd h
  refine Run.region hL hT [(4, .call [false, false, false] [.ag [.jk, .jk, .jk, .jk, .jk, .jk, .jk, .jk, .jk], .ag [.jk, .jk], .v (.jk)] [.ag [.s (.int .i64 qST), .s (.int .i64 qib), .s (.string qjb), .ow 46 (qtD qTQ), .ow 9 (qKB qUQ)]])] (by cbv) ?_ ?_
  · exact (hq Tt (hq Tt (hq (hC (qVP h_r25)) (hq (qwD (P := Tryz.prog) (f := qND) RLe.r (qwM qDL h_l26 (RLe.cons rfl LLe.r RLe.nil)) h_l27) hq0))))
  refine Run.row (rows := (ap (qtD z17) ([[.s (.int .i64 qST), .s (.int .i64 qib), .s (.string qjb), .ow 46 (qtD qTQ), .ow 9 (qKB qUQ)]]))) 100006 (qtD l27) (by cbv) (qvD (f := qND) RLe.r (qwM qDL h_l26 (RLe.cons rfl LLe.r RLe.nil)) h_l27) ?_
  refine Run.region hL hT [] (by cbv) ?_ ?_
  · exact (hq Tt hq0)
  refine ⟨l27, (ar .add .i64 z18 1), h, Weak.of _ [(1, 1), (2, 100006)] hA (by cbv) ?_⟩
  repeat (first | exact hq0 | refine hq (by first | exact Tt | rfl) ?_)
 have h := if_f c19 h
 refine Run.exit ?_
 refine Run.seq ?_
 refine Run.region hL hT [] (by cbv) hq0 ?_
 refine Run.ret ?_
 cases h
 refine ⟨_, _, by cbv, ?_, ?_⟩
 · exact LLe.r
 exact (ALe.v LLe.r ALe.nil)
theorem qgO {qHB : Int} {a0v_N : Int} {a0v_S : ByteArray} {qJ : List Json} {qY : List ByteArray} {r : Bool} (h : qDH.f (Json.mk qHB a0v_N a0v_S qJ qY) = some r) : AC Tryz.prog 118 [.ag [.s (.int .i64 qHB), .s (.int .i64 a0v_N), .s (.string a0v_S), .im false (rowsOf qLB qJ), .im false (rowsOf Str_c qY)]] [.ag [.jk, .jk, .jk, .jk, .jk]] [.v (.s (.bool r))] := by
 unfold qDH.f at h
 let qTB := rowsOf qLB
 let qKB := rowsOf Str_c
 show AC Tryz.prog 118 [.ag [.s (.int .i64 qHB), .s (.int .i64 a0v_N), .s (.string a0v_S), .im false (qTB qJ), .im false (qKB qY)]] _ _
 refine run3 Tryz.func118 (by rfl) (by rfl) (by cbv) ⟨by decide, rfl⟩ ?_
 intro ar cm bo sc sa sx ss sl bs sb ln sr ap up rp fr ge le lt nz mm ma sm fl al ci hL F hP hA hT hM hC
 refine Run.seq ?_
 refine Run.region hL hT [] (by cbv) hq0 ?_
 refine Run.seq ?_
 refine Run.region hL hT [] (by cbv) ?_ ?_
 · exact (hq Tt (hq Tt hq0))
 refine Run.ret ?_
 cases h
 refine ⟨_, _, by cbv, ?_, ?_⟩
 · exact LLe.r
 exact (ALe.v LLe.r ALe.nil)
theorem qDE {a0 : List Json} {r : Int} (h : qX.f a0 = some r) : AC Tryz.prog 148 [.v (.im false (rowsOf qLB a0)), .v (.fn 118 [])] [.v (.jk), .v (.jk)] [.v (.s (.int .i64 r))] := by
 unfold qX.f at h
 let qTB := rowsOf qLB
 let qKB := rowsOf Str_c
 let qgB := @lenI Json
 show AC Tryz.prog 148 [.v (.im false (qTB a0)), .v (.fn 118 [])] _ _
 refine run3 Tryz.func148 (by rfl) (by rfl) (by cbv) ⟨by decide, rfl⟩ ?_
 intro ar cm bo sc sa sx ss sl bs sb ln sr ap up rp fr ge le lt nz mm ma sm fl al ci hL F hP hA hT hM hC
 refine Run.weak ?_ (Weak.fnT 1 (by cbv))
 refine Run.seq ?_
 refine Run.region hL hT [] (by cbv) hq0 ?_
 refine Run.seq ?_
 refine Run.seq ?_
 refine Run.region hL hT [] (by cbv) hq0 ?_
 rw [show ln (qTB a0) = qgB a0 from ln_eq qLB _]
 refine Run.block ?_
 refine Run.loop1 (fun (z4 : Int) => ⟨19, 100000, [(0, .t (.im false (qTB a0))), (1, .fn 118 []), (7, .t (.s (.int .i64 (qgB a0)))), (8, .t (.s (.int .i64 z4)))], []⟩) (x0 := 0) h (Weak.of _ [] hA (by cbv) ?_) (fun _ => rfl) ?_
 · repeat (first | exact hq0 | refine hq (by first | exact Tt | rfl) ?_)
 intro k z4 h
 rw [qX.l0] at h
 refine Run.seq ?_
 refine Run.region hL hT [] (by cbv) ?_ ?_
 · exact (hq Tt hq0)
 refine Run.seq ?_
 refine Run.cond (by cbv) (hq0) (fun c5 => ?_) (fun c5 => ?_)
 ·
  have h := if_t c5 h
  refine Run.skip ?_
  refine Run.seq ?_
  refine Run.block ?_
  refine Run.seq ?_
  refine Run.region hL hT [] (by cbv) hq0 ?_
  refine Run.seq ?_
  obtain ⟨⟨qFb, x6v_N, x6v_S, qJZ, qKZ⟩, h_x6, h⟩ := bnd h
  obtain ⟨r7, h_r7, h⟩ := bnd h
  refine Run.region hL hT [(3, .el [.s (.int .i64 qFb), .s (.int .i64 x6v_N), .s (.string x6v_S), .im false (qTB qJZ), .im false (qKB qKZ)]), (5, .call [false] [.ag [.jk, .jk, .jk, .jk, .jk]] [.v (.s (.bool r7))])] (by cbv) ?_ ?_
  · exact (hq (qS h_x6) (hq (ql (f := qLB) h_x6) (hq (qsQ qHH h_x6) (hq (hC (qgO h_r7)) hq0))))
  refine Run.cond (by cbv) (hq0) (fun c8 => ?_) (fun c8 => ?_)
  ·
   have h := if_t c8 h
   refine Run.seq ?_
   refine Run.region hL hT [] (by cbv) hq0 ?_
   refine Run.ret ?_
   cases h
   refine ⟨_, _, by cbv, ?_, ?_⟩
   · exact LLe.r
   exact (ALe.v LLe.r ALe.nil)
  have h := if_f c8 h
  refine Run.skip ?_
  refine Run.region hL hT [] (by cbv) ?_ ?_
  · exact (hq Tt hq0)
  refine ⟨(ar .add .i64 z4 1), h, Weak.of _ [] hA (by cbv) ?_⟩
  repeat (first | exact hq0 | refine hq (by first | exact Tt | rfl) ?_)
 have h := if_f c5 h
 refine Run.exit ?_
 refine Run.seq ?_
 refine Run.region hL hT [] (by cbv) hq0 ?_
 refine Run.ret ?_
 cases h
 refine ⟨_, _, by cbv, ?_, ?_⟩
 · exact LLe.r
 exact (ALe.v LLe.r ALe.nil)
theorem qhD {a0 : List Json} {r : Bool} (h : qIB.f a0 = some r) : AC Tryz.prog 117 [.v (.im false (rowsOf qLB a0)), .v (.fn 118 [])] [.v (.jk), .v (.jk)] [.v (.s (.bool r))] := by
 unfold qIB.f at h
 let qTB := rowsOf qLB
 show AC Tryz.prog 117 [.v (.im false (qTB a0)), .v (.fn 118 [])] _ _
 refine run3 Tryz.func117 (by rfl) (by rfl) (by cbv) ⟨by decide, rfl⟩ ?_
 intro ar cm bo sc sa sx ss sl bs sb ln sr ap up rp fr ge le lt nz mm ma sm fl al ci hL F hP hA hT hM hC
 refine Run.weak ?_ (Weak.fnT 1 (by cbv))
 refine Run.seq ?_
 refine Run.region hL hT [] (by cbv) hq0 ?_
 refine Run.seq ?_
 obtain ⟨r1, h_r1, h⟩ := bnd h
 refine Run.region hL hT [(2, .call [false, false] [.v (.jk), .v (.jk)] [.v (.s (.int .i64 r1))])] (by cbv) ?_ ?_
 · exact (hq (hC (qDE h_r1)) (hq Tt hq0))
 refine Run.ret ?_
 cases h
 refine ⟨_, _, by cbv, ?_, ?_⟩
 · exact LLe.r
 exact (ALe.v LLe.r ALe.nil)
theorem qmR {qg : Int} {qd : List Cond} {qh : Int} {qw : Bool} {qi : Int} {qp : List Int} {qx : Bool} {qM : Int} {qZ : Int} {a1 : List Row} {a2 : List Int} {r : Json} (h : qZF.f (Query.mk qg qd qh qw qi qp qx qM qZ) a1 a2 = some r) : AC Tryz.prog 54 [.ag [.s (.int .i64 qg), .im false (rowsOf qGB qd), .s (.int .i64 qh), .s (.bool qw), .s (.int .i64 qi), .im false (rowsOf Int_c qp), .s (.bool qx), .s (.int .i64 qM), .s (.int .i64 qZ)], .v (.im false (rowsOf Row_i a1)), .v (.im false (rowsOf Int_c a2))] [.ag [.jk, .jk, .jk, .jk, .jk, .jk, .jk, .jk, .jk], .v (.jk), .v (.jk)] [.ag [.s (.int .i64 r.Kind), .s (.int .i64 r.N), .s (.string r.S), .ow 46 (rowsOf qND r.List_), .ow 9 (rowsOf Str_c r.Names)]] := by
 unfold qZF.f at h
 let qO := rowsOf qGB
 let qB := rowsOf Int_c
 let qtD := rowsOf qND
 let qAB := rowsOf Row_i
 let qKB := rowsOf Str_c
 let qm := @lenI Row
 show AC Tryz.prog 54 [.ag [.s (.int .i64 qg), .im false (qO qd), .s (.int .i64 qh), .s (.bool qw), .s (.int .i64 qi), .im false (qB qp), .s (.bool qx), .s (.int .i64 qM), .s (.int .i64 qZ)], .v (.im false (qAB a1)), .v (.im false (qB a2))] _ _
 refine run3 Tryz.func54 (by rfl) (by rfl) (by cbv) ⟨by decide, rfl⟩ ?_
 intro ar cm bo sc sa sx ss sl bs sb ln sr ap up rp fr ge le lt nz mm ma sm fl al ci hL F hP hA hT hM hC
 refine Run.seq ?_
 refine Run.region hL hT [] (by cbv) hq0 ?_
 refine Run.seq ?_
 obtain ⟨r1, h_r1, h⟩ := bnd h
 refine Run.region hL hT [(3, .call [false, false, false] [.ag [.jk, .jk, .jk, .jk, .jk, .jk, .jk, .jk, .jk], .v (.jk), .v (.jk)] [.v (.ow 46 (qtD r1))])] (by cbv) ?_ ?_
 · exact (hq Tt (hq (hC (qfO h_r1)) hq0))
 refine Run.seq ?_
 refine Run.seq ?_
 obtain ⟨r2, h_r2, h⟩ := bnd h
 refine Run.region hL hT [(1, .call [false, false] [.v (.jk), .v (.jk)] [.v (.s (.bool r2))])] (by cbv) ?_ ?_
 · exact (hq (hC (AC.args (qhD h_r2) (ALe.v (LLe.im (RLe.eq (qQC qaR _))) (ALe.v LLe.r ALe.nil)))) hq0)
 refine Run.cond (by cbv) (hq0) (fun c3 => ?_) (fun c3 => ?_)
 ·
  have h := if_t c3 h
  refine Run.seq ?_
  refine Run.region hL hT [] (by cbv) ?_ ?_
  · exact (hq Tt hq0)
  refine Run.ret ?_
  cases h
  refine ⟨_, _, by cbv, ?_, ?_⟩
  · exact LLe.r
  exact (ALe.ag rfl (LLe.c (LLe.c (LLe.c (LLe.cons LLe.nilO (LLe.cons LLe.nilO LLe.nil))))) ALe.nil)
 have h := if_f c3 h
 refine Run.skip ?_
 refine Run.seq ?_
 refine Run.region hL hT [] (by cbv) ?_ ?_
 · exact (hq Tt hq0)
 refine Run.seq ?_
 obtain ⟨l4, h_l4, h⟩ := bnd h
 obtain ⟨l5, h_l5, h⟩ := bnd h
 obtain ⟨⟨qGb, r6v_N, r6v_S, qLZ, qMZ⟩, h_r6, h⟩ := bnd h
 refine Run.region hL hT [(7, .call [true] [.ag [.jk, .jk, .jk, .jk, .jk]] [.ag [.s (.int .i64 qGb), .s (.int .i64 r6v_N), .s (.string r6v_S), .ow 46 (qtD qLZ), .ow 9 (qKB qMZ)]])] (by cbv) ?_ ?_
 · exact (hq Tt (hq (hC (AC.args (qwJ h_r6) (ALe.ag rfl (LLe.c (LLe.c (LLe.c (LLe.cons (LLe.ow (qwM qDL h_l5 (RLe.cons rfl (LLe.c (LLe.cons (LLe.eq (congrArg (fun z => [T.s (Value.int .i64 z)]) (ln_eq Row_i _))) (LLe.c (LLe.cons LLe.nilO (LLe.cons LLe.nilO LLe.nil))))) (RLe.cons rfl (LLe.c (LLe.c (LLe.c (LLe.c (LLe.cons LLe.nilO LLe.nil))))) RLe.nil)))) (LLe.cons (LLe.ow (qUB (f := Str_c) h_l4 (RLe.cons rfl LLe.r (RLe.cons rfl LLe.r RLe.nil)))) LLe.nil))))) ALe.nil))) (hq Tt hq0)))
 rw [show ln (qAB a1) = qm a1 from ln_eq Row_i _]
 refine Run.ret ?_
 cases h
 refine ⟨_, _, by cbv, ?_, ?_⟩
 · exact LLe.r
 exact (ALe.ag rfl LLe.r ALe.nil)
theorem qbM {qE : List Int} {qL : Int} {qI : List (List Row)} {qN : Int} {qn : List Cond} {qkB : Int} {qCC : Bool} {qlB : Int} {qtB : List Int} {qDC : Bool} {qBB : Int} {qaB : Int} {r : Json} (h : qlD.f (Store.mk (Schema.mk qE) qL qI) (Query.mk qN qn qkB qCC qlB qtB qDC qBB qaB) = some r) : AC Tryz.prog 14 [.ag [.im false (rowsOf Int_c qE), .s (.int .i64 qL), .im false (rowsOf qZB qI)], .ag [.s (.int .i64 qN), .im false (rowsOf qGB qn), .s (.int .i64 qkB), .s (.bool qCC), .s (.int .i64 qlB), .im false (rowsOf Int_c qtB), .s (.bool qDC), .s (.int .i64 qBB), .s (.int .i64 qaB)]] [.ag [.jk, .jk, .jk], .ag [.jk, .jk, .jk, .jk, .jk, .jk, .jk, .jk, .jk]] [.ag [.s (.int .i64 r.Kind), .s (.int .i64 r.N), .s (.string r.S), .im true (rowsOf qIH r.List_), .im true (rowsOf Str_c r.Names)]] := by
 unfold qlD.f at h
 let qO := rowsOf qGB
 let qB := rowsOf Int_c
 let qnR := rowsOf qIH
 let qtD := rowsOf qND
 let qMB := rowsOf qZB
 let qT := rowsOf Row_o
 let qKB := rowsOf Str_c
 let qm := @lenI Row
 show AC Tryz.prog 14 [.ag [.im false (qB qE), .s (.int .i64 qL), .im false (qMB qI)], .ag [.s (.int .i64 qN), .im false (qO qn), .s (.int .i64 qkB), .s (.bool qCC), .s (.int .i64 qlB), .im false (qB qtB), .s (.bool qDC), .s (.int .i64 qBB), .s (.int .i64 qaB)]] _ _
 refine run3 Tryz.func14 (by rfl) (by rfl) (by cbv) ⟨by decide, rfl⟩ ?_
 intro ar cm bo sc sa sx ss sl bs sb ln sr ap up rp fr ge le lt nz mm ma sm fl al ci hL F hP hA hT hM hC
 refine Run.seq ?_
 refine Run.region hL hT [] (by cbv) hq0 ?_
 refine Run.seq ?_
 refine Run.seq ?_
 obtain ⟨r1, h_r1, h⟩ := bnd h
 obtain ⟨r2, h_r2, h⟩ := bnd h
 refine Run.region hL hT [(1, .call [false] [.ag [.jk, .jk, .jk]] [.v (.s (.bool r1))]), (7, .call [false, false] [.ag [.jk], .ag [.jk, .jk, .jk, .jk, .jk, .jk, .jk, .jk, .jk]] [.v (.s (.bool r2))])] (by cbv) ?_ ?_
 · exact (hq Tt (hq (hC (qrD h_r1)) (hq (fun _ => hq0) (hq (fun g4 => (hq g4 (hq Tt hq0))) (hq (fun g5 => (hq Tt hq0)) (hq (fun g6 => (hq g6 (hq g6 (hq (hC (qSF (gd_t h_r2 g6))) hq0)))) (hq (fun g7 => (hq g7 hq0)) (hq (fun _ => hq0) (hq (fun q9 => (hq (bo_m q9) hq0)) hq0)))))))))
 refine Run.cond (by cbv) (hq0) (fun c10 => ?_) (fun c10 => ?_)
 ·
  have h := if_t c10 h
  refine Run.seq ?_
  refine Run.region hL hT [] (by cbv) ?_ ?_
  · exact (hq Tt hq0)
  refine Run.ret ?_
  cases h
  refine ⟨_, _, by cbv, ?_, ?_⟩
  · exact LLe.r
  exact (ALe.ag rfl (LLe.c (LLe.c (LLe.c (LLe.cons LLe.nilI (LLe.cons LLe.nilI LLe.nil))))) ALe.nil)
 have h := if_f c10 h
 refine Run.skip ?_
 refine Run.seq ?_
 obtain ⟨r11, h_r11, h⟩ := bnd h
 refine Run.region hL hT [(2, .call [false, false] [.ag [.jk, .jk, .jk], .ag [.jk, .jk, .jk, .jk, .jk, .jk, .jk, .jk, .jk]] [.v (.ow 56 (qT r11))])] (by cbv) ?_ ?_
 · exact (hq Tt (hq Tt (hq (hC (qcO h_r11)) hq0)))
 refine Run.seq ?_
 refine Run.region hL hT [] (by cbv) hq0 ?_
 obtain ⟨K13, h_K13, h⟩ := joinE h
 refine Run.join1 K13 (r := r) (fun (y12 : List Int) => ⟨43, 100000, [(3, .pt 1 0 0), (4, .pt 2 0 0), (5, .rf 3), (6, .rf 4)], [(1, .box 32 [.t (.s (.int .i64 qN)), .t (.im false (qO qn)), .t (.s (.int .i64 qkB)), .t (.s (.bool qCC)), .t (.s (.int .i64 qlB)), .t (.im false (qB qtB)), .t (.s (.bool qDC)), .t (.s (.int .i64 qBB)), .t (.s (.int .i64 qaB))]), (2, .box 46 [.t (.s (.int .i64 0)), .t (.s (.int .i64 0)), .t (.s (.string ByteArray.empty)), .t (.s (.slice none 0 0)), .t (.s (.slice none 0 0))]), (3, .row 0 56 2 (qT r11)), (4, .row 0 3 1 (qB y12))]⟩) ?_ ?_
 ·
  skip
  refine Run.seq ?_
  refine Run.region hL hT [] (by cbv) hq0 ?_
  rw [show ln (qT r11) = qm r11 from ln_eq Row_o _]
  refine Run.block ?_
  refine Run.loop2 (fun (z33 : List Int) (z34 : Int) => ⟨43, 100000, [(2, .pt 1 0 0), (3, .pt 2 0 0), (4, .pt 3 0 0), (5, .rf 4), (6, .rf 5), (24, .rf 4), (25, .t (.s (.int .i64 (qm r11)))), (26, .t (.s (.int .i64 z34)))], [(1, .box 29 [.t (.im false (qB qE)), .t (.s (.int .i64 qL)), .t (.im false (qMB qI))]), (2, .box 32 [.t (.s (.int .i64 qN)), .t (.im false (qO qn)), .t (.s (.int .i64 qkB)), .t (.s (.bool qCC)), .t (.s (.int .i64 qlB)), .t (.im false (qB qtB)), .t (.s (.bool qDC)), .t (.s (.int .i64 qBB)), .t (.s (.int .i64 qaB))]), (3, .box 46 [.t (.s (.int .i64 0)), .t (.s (.int .i64 0)), .t (.s (.string ByteArray.empty)), .t (.s (.slice none 0 0)), .t (.s (.slice none 0 0))]), (4, .row 0 56 2 (qT r11)), (5, .row 0 3 1 (qB z33))]⟩) (x0 := []) (x1 := 0) h (Weak.of _ [(1, 0), (2, 1), (3, 2), (4, 8194), (5, 12288)] hA (by cbv) ?_) (fun _ _ => rfl) ?_
  · repeat (first | exact hq0 | refine hq (by first | exact Tt | rfl) ?_)
  intro k z33 z34 h
  rw [qlD.l0] at h
  refine Run.seq ?_
  refine Run.region hL hT [] (by cbv) ?_ ?_
  · exact (hq Tt hq0)
  refine Run.seq ?_
  refine Run.cond (by cbv) (hq0) (fun c35 => ?_) (fun c35 => ?_)
  ·
   have h := if_t c35 h
   refine Run.skip ?_
   refine Run.seq ?_
   refine Run.block ?_
   refine Run.seq ?_
   obtain ⟨⟨qkU, qrL⟩, h_x36, h⟩ := bnd h
   refine Run.region hL hT [(1, .el [.s (.int .i64 qkU), .ow 3 (qB qrL)])] (by cbv) ?_ ?_
   · exact (hq (qS h_x36) (hq (ql (f := Row_o) h_x36) (hq (qS h_x36) (hq (ql (f := Row_o) h_x36) (hq (qt (f := Row_o) h_x36) (hq Tt hq0))))))
   obtain ⟨r37, h_r37, h⟩ := bnd h
   obtain ⟨l38, h_l38, h⟩ := bnd h
   obtain ⟨l39, h_l39, h⟩ := bnd h
   refine Run.region hL hT [(5, .call [false, false, false] [.ag [.jk, .jk, .jk], .ag [.jk, .jk, .jk, .jk, .jk, .jk, .jk, .jk, .jk], .v (.jk)] [.v (.s (.int .i64 r37))])] (by cbv) ?_ ?_
   · exact (hq Tt (hq Tt (hq Tt (hq (hC (qTP h_r37)) (hq (qwD (P := Tryz.prog) (f := Int_c) RLe.r (qUB (f := Int_c) h_l38 (RLe.cons rfl LLe.r RLe.nil)) h_l39) hq0)))))
   refine Run.row (rows := (ap (qB z33) ([[.s (.int .i64 r37)]]))) 108199 (qB l39) (by cbv) (qvD (f := Int_c) RLe.r (qUB (f := Int_c) h_l38 (RLe.cons rfl LLe.r RLe.nil)) h_l39) ?_
   refine Run.region hL hT [] (by cbv) ?_ ?_
   · exact (hq Tt hq0)
   refine ⟨l39, (ar .add .i64 z34 1), h, Weak.of _ [(1, 1), (2, 2), (3, 3), (4, 4), (5, 108199)] hA (by cbv) ?_⟩
   repeat (first | exact hq0 | refine hq (by first | exact Tt | rfl) ?_)
  have h := if_f c35 h
  refine Run.exit ?_
  refine ⟨z33, h, Weak.of _ [(1, 2), (2, 3), (3, 4), (4, 5)] hA (by cbv) ?_⟩
  repeat (first | exact hq0 | refine hq (by first | exact Tt | rfl) ?_)
 intro y12 h
 rw [h_K13] at h
 refine Run.seq ?_
 obtain ⟨⟨qNZ, qrd, qsd, qwL, qxL⟩, h_r40, h⟩ := bnd h
 refine Run.region hL hT [(3, .call [false, false, false] [.ag [.jk, .jk, .jk, .jk, .jk, .jk, .jk, .jk, .jk], .v (.jk), .v (.jk)] [.ag [.s (.int .i64 qNZ), .s (.int .i64 qrd), .s (.string qsd), .ow 46 (qtD qwL), .ow 9 (qKB qxL)]])] (by cbv) ?_ ?_
 · exact (hq Tt (hq (hC (AC.args (qmR h_r40) (ALe.ag rfl LLe.r (ALe.v (LLe.im (RLe.eq (qQC qzI _))) (ALe.v (LLe.im (RLe.eq (qQC qKD _))) ALe.nil))))) (hq Tt hq0)))
 refine Run.weak ?_ (Weak.keepL (rows := qtD qwL) 100003 (by cbv) (qnR qwL) (qpY _))
 refine Run.weak ?_ (Weak.keep (rows := qKB qxL) 100259 (by cbv) (qKB qxL) (qQC qLO _))
 refine Run.ret ?_
 cases h
 refine ⟨_, _, by cbv, ?_, ?_⟩
 · exact LLe.r
 exact (ALe.ag rfl LLe.r ALe.nil)
theorem qoU {a0 : List Int} {r : Bool} (h : qmK.f a0 = some r) : AC Tryz.prog 6 [.v (.im false (rowsOf u8_c a0))] [.v (.jk)] [.v (.s (.bool r))] := by
 unfold qmK.f at h
 let eu8_c := rowsOf u8_c
 let qPI := @lenI Int
 show AC Tryz.prog 6 [.v (.im false (eu8_c a0))] _ _
 refine run3 Tryz.func6 (by rfl) (by rfl) (by cbv) ⟨by decide, rfl⟩ ?_
 intro ar cm bo sc sa sx ss sl bs sb ln sr ap up rp fr ge le lt nz mm ma sm fl al ci hL F hP hA hT hM hC
 refine Run.seq ?_
 refine Run.region hL hT [] (by cbv) hq0 ?_
 refine Run.seq ?_
 refine Run.region hL hT [] (by cbv) ?_ ?_
 · exact (hq Tt hq0)
 rw [show ln (eu8_c a0) = qPI a0 from ln_eq u8_c _]
 refine Run.ret ?_
 cases h
 refine ⟨_, _, by cbv, ?_, ?_⟩
 · exact LLe.r
 exact (ALe.v LLe.r ALe.nil)
theorem qoR {a0 : List Int} {r : l1Cur} (h : qmD.f a0 = some r) : AC Tryz.prog 36 [.v (.im true (rowsOf u8_c a0))] [.v (.jk)] [.v (.bx 119 [.im true (rowsOf u8_c r.b), .s (.int .i64 r.i), .s (.int .i64 r.h)])] := by
 unfold qmD.f at h
 let eu8_c := rowsOf u8_c
 let qPI := @lenI Int
 show AC Tryz.prog 36 [.v (.im true (eu8_c a0))] _ _
 refine run3 Tryz.func36 (by rfl) (by rfl) (by cbv) ⟨by decide, rfl⟩ ?_
 intro ar cm bo sc sa sx ss sl bs sb ln sr ap up rp fr ge le lt nz mm ma sm fl al ci hL F hP hA hT hM hC
 refine Run.seq ?_
 refine Run.region hL hT [] (by cbv) hq0 ?_
 refine Run.seq ?_
 refine Run.region hL hT [] (by cbv) ?_ ?_
 · exact (hq Tt hq0)
 rw [show ln (eu8_c a0) = qPI a0 from ln_eq u8_c _]
 refine Run.seq ?_
 refine Run.seq ?_
 refine Run.region hL hT [] (by cbv) hq0 ?_
 refine Run.block ?_
 refine Run.loop2 (fun (z4 : Int) (z5 : Int) => ⟨32, 100000, [(0, .t (.im true (eu8_c a0))), (3, .t (.s (.int .i64 z4))), (4, .t (.s (.int .i64 z5)))], []⟩) (x0 := (ar .add .i64 17333 (qPI a0))) (x1 := 0) h (Weak.of _ [] hA (by cbv) ?_) (fun _ _ => rfl) ?_
 · repeat (first | exact hq0 | refine hq (by first | exact Tt | rfl) ?_)
 intro k z4 z5 h
 rw [qmD.l0] at h
 refine Run.seq ?_
 refine Run.seq ?_
 refine Run.region hL hT [] (by cbv) ?_ ?_
 · exact (hq Tt (hq (fun _ => hq0) (hq (fun g7 => (by have g7C := g7; rw [show ln (eu8_c a0) = qPI a0 from ln_eq u8_c _] at g7C; exact (hq g7 (hq Tt hq0)))) (hq (fun q8 => (by have q8C := q8; rw [show ln (eu8_c a0) = qPI a0 from ln_eq u8_c _] at q8C; exact (hq q8 hq0))) (hq (fun _ => hq0) hq0)))))
 rw [show ln (eu8_c a0) = qPI a0 from ln_eq u8_c _]
 refine Run.cond (by cbv) (hq0) (fun c10 => ?_) (fun c10 => ?_)
 ·
  have h := if_t c10 h
  refine Run.skip ?_
  refine Run.seq ?_
  refine Run.block ?_
  obtain ⟨x11, h_x11, h⟩ := bnd h
  refine Run.region hL hT [(4, .el [.s (.int .u8 x11)])] (by cbv) ?_ ?_
  · exact (hq Tt (hq (qS h_x11) (hq (ql (f := u8_c) h_x11) (hq (qt (f := u8_c) h_x11) (hq Tt (hq Tt (hq Tt hq0)))))))
  refine Run.region hL hT [] (by cbv) ?_ ?_
  · exact (hq Tt hq0)
  refine ⟨(ar .and .i64 (ar .add .i64 (ar .add .i64 (ar .mul .i64 z4 131) (ar .or .i64 x11 0)) 7) 1073741823), (ar .add .i64 z5 1), h, Weak.of _ [] hA (by cbv) ?_⟩
  repeat (first | exact hq0 | refine hq (by first | exact Tt | rfl) ?_)
 have h := if_f c10 h
 refine Run.exit ?_
 refine Run.seq ?_
 refine Run.region hL hT [] (by cbv) hq0 ?_
 refine Run.ret ?_
 cases h
 refine ⟨_, _, by cbv, ?_, ?_⟩
 · exact LLe.r
 exact (ALe.v LLe.r ALe.nil)
theorem qxE {a0v_b : List Int} {a0v_i : Int} {a0v_h : Int} {r : l1Cur × Int} (h : qBE.f (l1Cur.mk a0v_b a0v_i a0v_h) = some r) : AC Tryz.prog 95 [.v (.bx 119 [.im true (rowsOf u8_c a0v_b), .s (.int .i64 a0v_i), .s (.int .i64 a0v_h)])] [.v (.bx 119 [.im true (rowsOf u8_c a0v_b), .s (.int .i64 r.1.i), .s (.int .i64 r.1.h)])] [.v (.s (.int .i64 r.2))] := by
 unfold qBE.f at h
 let eu8_c := rowsOf u8_c
 let qPI := @lenI Int
 show AC Tryz.prog 95 [.v (.bx 119 [.im true (eu8_c a0v_b), .s (.int .i64 a0v_i), .s (.int .i64 a0v_h)])] _ _
 refine run3 Tryz.func95 (by rfl) (by rfl) (by cbv) ⟨by decide, rfl⟩ ?_
 intro ar cm bo sc sa sx ss sl bs sb ln sr ap up rp fr ge le lt nz mm ma sm fl al ci hL F hP hA hT hM hC
 refine Run.seq ?_
 refine Run.region hL hT [] (by cbv) hq0 ?_
 refine Run.seq ?_
 refine Run.region hL hT [] (by cbv) ?_ ?_
 · exact (hq Tt (hq Tt (hq Tt (hq Tt hq0))))
 refine Run.seq ?_
 refine Run.draw hL hT hM [] (by cbv) (by cbv) (by cbv) (by cbv) (by cbv) ?_ ?_
 · exact (hq Tt (hq Tt (hq Tt (hq (by decide : (0 : Int) ≤ 33) (hq (by decide : (33 : Int) < 64) (hq Tt (hq Tt (hq Tt (hq (by decide : (0 : Int) ≤ 45) (hq (by decide : (45 : Int) < 64) (hq Tt (hq Tt hq0))))))))))))
 refine Run.seq ?_
 refine Run.seq ?_
 refine Run.draw hL hT hM [] (by cbv) (by cbv) (by cbv) (by cbv) (by cbv) ?_ ?_
 · exact (hq Tt (hq Tt (hq Tt hq0)))
 rw [show ln (eu8_c a0v_b) = qPI a0v_b from ln_eq u8_c _]
 refine Run.cond (by cbv) (hq0) (fun c1 => ?_) (fun c1 => ?_)
 ·
  have h := if_t c1 h
  refine Run.seq ?_
  obtain ⟨x2, h_x2, h⟩ := bnd h
  refine Run.draw hL hT hM [(9, .el [.s (.int .u8 x2)])] (by cbv) (by cbv) (by cbv) (by cbv) (by cbv) ?_ ?_
  · exact (hq Tt (hq Tt (hq (qS h_x2) (hq (ql (f := u8_c) h_x2) (hq (qt (f := u8_c) h_x2) (hq Tt (hq Tt hq0)))))))
  refine Run.region hL hT [] (by cbv) ?_ ?_
  · exact (hq Tt (hq Tt (hq Tt hq0)))
  refine Run.seq ?_
  refine Run.region hL hT [] (by cbv) hq0 ?_
  refine Run.ret ?_
  cases h
  refine ⟨_, _, by cbv, ?_, ?_⟩
  · exact LLe.r
  exact (ALe.v LLe.r ALe.nil)
 have h := if_f c1 h
 refine Run.skip ?_
 refine Run.seq ?_
 refine Run.region hL hT [] (by cbv) hq0 ?_
 refine Run.ret ?_
 cases h
 refine ⟨_, _, by cbv, ?_, ?_⟩
 · exact LLe.r
 exact (ALe.v LLe.r ALe.nil)
theorem qr {a0v_b : List Int} {a0v_i : Int} {a0v_h : Int} {a1 : Int} {r : l1Cur × Int} (h : qa.f (l1Cur.mk a0v_b a0v_i a0v_h) a1 = some r) : AC Tryz.prog 39 [.v (.bx 119 [.im true (rowsOf u8_c a0v_b), .s (.int .i64 a0v_i), .s (.int .i64 a0v_h)]), .v (.s (.int .i64 a1))] [.v (.bx 119 [.im true (rowsOf u8_c a0v_b), .s (.int .i64 r.1.i), .s (.int .i64 r.1.h)]), .v (.jk)] [.v (.s (.int .i64 r.2))] := by
 unfold qa.f at h
 let eu8_c := rowsOf u8_c
 show AC Tryz.prog 39 [.v (.bx 119 [.im true (eu8_c a0v_b), .s (.int .i64 a0v_i), .s (.int .i64 a0v_h)]), .v (.s (.int .i64 a1))] _ _
 refine run3 Tryz.func39 (by rfl) (by rfl) (by cbv) ⟨by decide, rfl⟩ ?_
 intro ar cm bo sc sa sx ss sl bs sb ln sr ap up rp fr ge le lt nz mm ma sm fl al ci hL F hP hA hT hM hC
 refine Run.seq ?_
 refine Run.region hL hT [] (by cbv) hq0 ?_
 refine Run.seq ?_
 refine Run.seq ?_
 refine Run.region hL hT [] (by cbv) ?_ ?_
 · exact (hq Tt hq0)
 refine Run.cond (by cbv) (hq0) (fun c1 => ?_) (fun c1 => ?_)
 ·
  have h := if_t c1 h
  refine Run.seq ?_
  refine Run.region hL hT [] (by cbv) hq0 ?_
  refine Run.ret ?_
  cases h
  refine ⟨_, _, by cbv, ?_, ?_⟩
  · exact LLe.r
  exact (ALe.v LLe.r ALe.nil)
 have h := if_f c1 h
 refine Run.skip ?_
 refine Run.seq ?_
 refine Run.seq ?_
 refine Run.region hL hT [] (by cbv) ?_ ?_
 · exact (hq Tt hq0)
 refine Run.cond (by cbv) (hq0) (fun c2 => ?_) (fun c2 => ?_)
 ·
  have h := if_t c2 h
  refine Run.seq ?_
  obtain ⟨⟨⟨qHb, qCN, qDN⟩, r3v_2⟩, h_r3, h⟩ := bnd h
  obtain ⟨u4, h_u4, h⟩ := bnd h
  refine Run.region hL hT [(1, .call [true] [.v (.bx 119 [.im true (eu8_c a0v_b), .s (.int .i64 qCN), .s (.int .i64 qDN)])] [.v (.s (.int .i64 r3v_2))])] (by cbv) ?_ ?_
  · exact (hq (hC (qxE h_r3)) (hq Tt (hq (nz_t h_u4) hq0)))
  refine Run.ret ?_
  cases h
  refine ⟨_, _, by cbv, ?_, ?_⟩
  · exact LLe.r
  exact (ALe.v LLe.r ALe.nil)
 have h := if_f c2 h
 refine Run.skip ?_
 refine Run.seq ?_
 obtain ⟨⟨⟨qje, qIb, qJb⟩, r5v_2⟩, h_r5, h⟩ := bnd h
 refine Run.region hL hT [(1, .call [true] [.v (.bx 119 [.im true (eu8_c a0v_b), .s (.int .i64 qIb), .s (.int .i64 qJb)])] [.v (.s (.int .i64 r5v_2))])] (by cbv) ?_ ?_
 · exact (hq (hC (qxE h_r5)) hq0)
 refine Run.seq ?_
 obtain ⟨⟨⟨qke, qKb, qLb⟩, r6v_2⟩, h_r6, h⟩ := bnd h
 refine Run.region hL hT [(1, .call [true] [.v (.bx 119 [.im true (eu8_c a0v_b), .s (.int .i64 qKb), .s (.int .i64 qLb)])] [.v (.s (.int .i64 r6v_2))])] (by cbv) ?_ ?_
 · exact (hq (hC (qxE h_r6)) hq0)
 refine Run.seq ?_
 obtain ⟨⟨⟨qle, qMb, qNb⟩, r7v_2⟩, h_r7, h⟩ := bnd h
 refine Run.region hL hT [(1, .call [true] [.v (.bx 119 [.im true (eu8_c a0v_b), .s (.int .i64 qMb), .s (.int .i64 qNb)])] [.v (.s (.int .i64 r7v_2))])] (by cbv) ?_ ?_
 · exact (hq (hC (qxE h_r7)) hq0)
 refine Run.seq ?_
 obtain ⟨⟨⟨qme, qOb, qPb⟩, r8v_2⟩, h_r8, h⟩ := bnd h
 refine Run.region hL hT [(1, .call [true] [.v (.bx 119 [.im true (eu8_c a0v_b), .s (.int .i64 qOb), .s (.int .i64 qPb)])] [.v (.s (.int .i64 r8v_2))])] (by cbv) ?_ ?_
 · exact (hq (hC (qxE h_r8)) hq0)
 refine Run.seq ?_
 obtain ⟨u9, h_u9, h⟩ := bnd h
 refine Run.region hL hT [] (by cbv) ?_ ?_
 · exact (hq Tt (hq Tt (hq Tt (hq Tt (hq Tt (hq Tt (hq Tt (hq (nz_t h_u9) hq0))))))))
 refine Run.ret ?_
 cases h
 refine ⟨_, _, by cbv, ?_, ?_⟩
 · exact LLe.r
 exact (ALe.v LLe.r ALe.nil)
theorem qdI {qK : List Int} {r : Schema} (h : qlE.f (Schema.mk qK) = some r) : AC Tryz.prog 107 [.ag [.im false (rowsOf Int_c qK)]] [.ag [.jk]] [.ag [.ow 3 (rowsOf Int_c r.Cols)]] := by
 unfold qlE.f at h
 let qB := rowsOf Int_c
 show AC Tryz.prog 107 [.ag [.im false (qB qK)]] _ _
 refine run3 Tryz.func107 (by rfl) (by rfl) (by cbv) ⟨by decide, rfl⟩ ?_
 intro ar cm bo sc sa sx ss sl bs sb ln sr ap up rp fr ge le lt nz mm ma sm fl al ci hL F hP hA hT hM hC
 refine Run.seq ?_
 refine Run.region hL hT [] (by cbv) hq0 ?_
 refine Run.seq ?_
 obtain ⟨l1, h_l1, h⟩ := bnd h
 refine Run.region hL hT [] (by cbv) ?_ ?_
 · exact (hq Tt (hq (qxX qhU _) (hq (qwD (P := Tryz.prog) (f := Int_c) RLe.r RLe.r h_l1) (hq Tt hq0))))
 refine Run.row (rows := (ap ([]) ((qB qK)))) 4099 (qB l1) (by cbv) (qvD (f := Int_c) RLe.r RLe.r h_l1) ?_
 refine Run.ret ?_
 cases h
 refine ⟨_, _, by cbv, ?_, ?_⟩
 · exact LLe.r
 exact (ALe.ag rfl LLe.r ALe.nil)
theorem qNE {qK : List Int} {r : Bool} (h : qnB.f (Schema.mk qK) = some r) : AC Tryz.prog 64 [.ag [.im false (rowsOf Int_c qK)]] [.ag [.jk]] [.v (.s (.bool r))] := by
 unfold qnB.f at h
 let qB := rowsOf Int_c
 let qQ := @lenI Int
 show AC Tryz.prog 64 [.ag [.im false (qB qK)]] _ _
 refine run3 Tryz.func64 (by rfl) (by rfl) (by cbv) ⟨by decide, rfl⟩ ?_
 intro ar cm bo sc sa sx ss sl bs sb ln sr ap up rp fr ge le lt nz mm ma sm fl al ci hL F hP hA hT hM hC
 refine Run.seq ?_
 refine Run.region hL hT [] (by cbv) hq0 ?_
 obtain ⟨K2, h_K2, h⟩ := joinE h
 refine Run.join1 K2 (r := r) (fun (y1 : Unit) => ⟨22, 100000, [(1, .pt 1 0 0)], [(1, .box 26 [.t (.im false (qB qK))])]⟩) ?_ ?_
 ·
  skip
  refine Run.seq ?_
  refine Run.region hL hT [] (by cbv) hq0 ?_
  refine Run.block ?_
  refine Run.loop1 (fun (z5 : Int) => ⟨22, 100000, [(1, .pt 1 0 0), (3, .t (.s (.int .i64 z5)))], [(1, .box 26 [.t (.im false (qB qK))])]⟩) (x0 := 0) h (Weak.of _ [(1, 0)] hA (by cbv) ?_) (fun _ => rfl) ?_
  · repeat (first | exact hq0 | refine hq (by first | exact Tt | rfl) ?_)
  intro k z5 h
  rw [qnB.l0] at h
  refine Run.seq ?_
  refine Run.seq ?_
  refine Run.region hL hT [] (by cbv) ?_ ?_
  · exact (hq Tt (hq Tt hq0))
  rw [show ln (qB qK) = qQ qK from ln_eq Int_c _]
  refine Run.cond (by cbv) (hq0) (fun c6 => ?_) (fun c6 => ?_)
  ·
   have h := if_t c6 h
   refine Run.skip ?_
   refine Run.seq ?_
   refine Run.block ?_
   refine Run.seq ?_
   obtain ⟨x7, h_x7, h⟩ := bnd h
   obtain ⟨r8, h_r8, h⟩ := bnd h
   refine Run.region hL hT [(3, .el [.s (.int .i64 x7)]), (5, .call [false, false, false] [.v (.jk), .v (.jk), .v (.jk)] [.v (.s (.bool r8))])] (by cbv) ?_ ?_
   · exact (hq Tt (hq (qS h_x7) (hq (ql (f := Int_c) h_x7) (hq (qt (f := Int_c) h_x7) (hq (hC (qcC h_r8)) hq0)))))
   refine Run.cond (by cbv) (hq0) (fun c9 => ?_) (fun c9 => ?_)
   ·
    have h := if_t c9 h
    refine Run.seq ?_
    refine Run.region hL hT [] (by cbv) hq0 ?_
    refine Run.ret ?_
    cases h
    refine ⟨_, _, by cbv, ?_, ?_⟩
    · exact LLe.r
    exact (ALe.v LLe.r ALe.nil)
   have h := if_f c9 h
   refine Run.skip ?_
   refine Run.region hL hT [] (by cbv) ?_ ?_
   · exact (hq Tt hq0)
   refine ⟨(ar .add .i64 z5 1), h, Weak.of _ [(1, 1)] hA (by cbv) ?_⟩
   repeat (first | exact hq0 | refine hq (by first | exact Tt | rfl) ?_)
  have h := if_f c6 h
  refine Run.exit ?_
  refine ⟨(), h, Weak.of _ [(1, 1)] hA (by cbv) ?_⟩
  repeat (first | exact hq0 | refine hq (by first | exact Tt | rfl) ?_)
 intro y1 h
 rw [h_K2] at h
 refine Run.seq ?_
 obtain ⟨r10, h_r10, h⟩ := bnd h
 refine Run.region hL hT [(3, .call [false, false, false] [.v (.jk), .v (.jk), .v (.jk)] [.v (.s (.bool r10))])] (by cbv) ?_ ?_
 · exact (hq Tt (hq (by rw [show ln (qB qK) = qQ qK from ln_eq Int_c _]; exact (hC (qcC h_r10))) hq0))
 rw [show ln (qB qK) = qQ qK from ln_eq Int_c _]
 refine Run.ret ?_
 cases h
 refine ⟨_, _, by cbv, ?_, ?_⟩
 · exact LLe.r
 exact (ALe.v LLe.r ALe.nil)
theorem qkM {qK : List Int} {r : Store × Bool} (h : qNF.f (Schema.mk qK) = some r) : AC Tryz.prog 90 [.ag [.im false (rowsOf Int_c qK)]] [.ag [.jk]] [.ag [.ow 3 (rowsOf Int_c r.1.Schema.Cols), .s (.int .i64 r.1.Version), .ow 50 (rowsOf qcB r.1.Tables)], .v (.s (.bool r.2))] := by
 unfold qNF.f at h
 let qB := rowsOf Int_c
 let qz := rowsOf qcB
 let qQ := @lenI Int
 show AC Tryz.prog 90 [.ag [.im false (qB qK)]] _ _
 refine run3 Tryz.func90 (by rfl) (by rfl) (by cbv) ⟨by decide, rfl⟩ ?_
 intro ar cm bo sc sa sx ss sl bs sb ln sr ap up rp fr ge le lt nz mm ma sm fl al ci hL F hP hA hT hM hC
 refine Run.seq ?_
 refine Run.region hL hT [] (by cbv) hq0 ?_
 refine Run.seq ?_
 refine Run.seq ?_
 obtain ⟨r1, h_r1, h⟩ := bnd h
 refine Run.region hL hT [(1, .call [false] [.ag [.jk]] [.v (.s (.bool r1))])] (by cbv) ?_ ?_
 · exact (hq Tt (hq (hC (qNE h_r1)) hq0))
 refine Run.cond (by cbv) (hq0) (fun c2 => ?_) (fun c2 => ?_)
 ·
  have h := if_t c2 h
  refine Run.seq ?_
  refine Run.region hL hT [] (by cbv) ?_ ?_
  · exact (hq Tt hq0)
  refine Run.ret ?_
  cases h
  refine ⟨_, _, by cbv, ?_, ?_⟩
  · exact LLe.r
  exact (ALe.ag rfl (LLe.cons LLe.nilO (LLe.c (LLe.cons LLe.nilO LLe.nil))) (ALe.v LLe.r ALe.nil))
 have h := if_f c2 h
 refine Run.skip ?_
 refine Run.seq ?_
 obtain ⟨⟨qQb⟩, h_r3, h⟩ := bnd h
 obtain ⟨l4, h_l4, h⟩ := bnd h
 refine Run.draw hL hT hM [(1, .call [false] [.ag [.jk]] [.ag [.ow 3 (qB qQb)]])] (by cbv) (by cbv) (by cbv) (by cbv) (by cbv) ?_ ?_
 · exact (hq Tt (hq (hC (qdI h_r3)) (hq Tt (hq Tt (hq (by rw [show ln (qB qK) = qQ qK from ln_eq Int_c _]; exact (mk_0 h_l4)) (hq (by rw [show ln (qB qK) = qQ qK from ln_eq Int_c _]; exact (mk_mm h_l4)) (hq Tt hq0)))))))
 rw [show ln (qB qK) = qQ qK from ln_eq Int_c _]
 refine Run.row (rows := (rp (qQ qK) [.s (.slice none 0 0)])) 8197 (qz l4) (by cbv) (mk_le (f := qcB) rfl (LLe.cons LLe.nilO LLe.nil) h_l4) ?_
 refine Run.ret ?_
 cases h
 refine ⟨_, _, by cbv, ?_, ?_⟩
 · exact LLe.r
 exact (ALe.ag rfl LLe.r (ALe.v LLe.r ALe.nil))
theorem qgJ {a0v_b : List Int} {a0v_i : Int} {a0v_h : Int} {r : l1Cur × Schema} (h : qqB.f (l1Cur.mk a0v_b a0v_i a0v_h) = some r) : AC Tryz.prog 91 [.v (.bx 119 [.im true (rowsOf u8_c a0v_b), .s (.int .i64 a0v_i), .s (.int .i64 a0v_h)])] [.v (.bx 119 [.im true (rowsOf u8_c a0v_b), .s (.int .i64 r.1.i), .s (.int .i64 r.1.h)])] [.ag [.ow 3 (rowsOf Int_c r.2.Cols)]] := by
 unfold qqB.f at h
 let qB := rowsOf Int_c
 let eu8_c := rowsOf u8_c
 show AC Tryz.prog 91 [.v (.bx 119 [.im true (eu8_c a0v_b), .s (.int .i64 a0v_i), .s (.int .i64 a0v_h)])] _ _
 refine run3 Tryz.func91 (by rfl) (by rfl) (by cbv) ⟨by decide, rfl⟩ ?_
 intro ar cm bo sc sa sx ss sl bs sb ln sr ap up rp fr ge le lt nz mm ma sm fl al ci hL F hP hA hT hM hC
 refine Run.seq ?_
 refine Run.region hL hT [] (by cbv) hq0 ?_
 refine Run.seq ?_
 refine Run.region hL hT [] (by cbv) ?_ ?_
 · exact (hq Tt hq0)
 refine Run.seq ?_
 refine Run.seq ?_
 refine Run.region hL hT [] (by cbv) hq0 ?_
 refine Run.block ?_
 refine Run.loop4 (fun (z10 : Int) (z11 : Int) (z12 : List Int) (z13 : Int) => ⟨22, 100000, [(0, .pt 0 0 0), (2, .pt 1 0 0), (3, .pt 2 0 0), (4, .t (.s (.int .i64 z13)))], [(0, .box 119 [.t (.im true (eu8_c a0v_b)), .t (.s (.int .i64 z10)), .t (.s (.int .i64 z11))]), (1, .box 26 [.t (.s (.slice none 0 0))]), (2, .box 26 [.rf 3]), (3, .row 0 3 1 (qB z12))]⟩) (x0 := a0v_i) (x1 := a0v_h) (x2 := []) (x3 := 0) h ((Weak.nilB (l := []) hT 4098 0 13289 3 rfl (by cbv) (by cbv) (by cbv)).trans (Weak.of _ [(0, 0), (1, 1), (2, 4098), (3, 13289)] hA (by cbv) ?_)) (fun _ _ _ _ => rfl) ?_
 · repeat (first | exact hq0 | refine hq (by first | exact Tt | rfl) ?_)
 intro k z10 z11 z12 z13 h
 rw [qqB.l0] at h
 refine Run.seq ?_
 refine Run.seq ?_
 obtain ⟨⟨⟨qOZ, qHL, qIL⟩, qtd⟩, h_r14, h⟩ := bnd h
 refine Run.region hL hT [(2, .call [true, false] [.v (.bx 119 [.im true (eu8_c a0v_b), .s (.int .i64 qHL), .s (.int .i64 qIL)]), .v (.jk)] [.v (.s (.int .i64 qtd))])] (by cbv) ?_ ?_
 · exact (hq (hC (qr h_r14)) (hq Tt (hq Tt hq0)))
 refine Run.cond (by cbv) (hq0) (fun c15 => ?_) (fun c15 => ?_)
 ·
  have h := if_t c15 h
  refine Run.skip ?_
  refine Run.seq ?_
  refine Run.block ?_
  obtain ⟨⟨⟨qud, qTT, qUT⟩, qkb⟩, h_r16, h⟩ := bnd h
  obtain ⟨l17, h_l17, h⟩ := bnd h
  obtain ⟨l18, h_l18, h⟩ := bnd h
  refine Run.draw hL hT hM [(3, .call [true, false] [.v (.bx 119 [.im true (eu8_c a0v_b), .s (.int .i64 qTT), .s (.int .i64 qUT)]), .v (.jk)] [.v (.s (.int .i64 qkb))])] (by cbv) (by cbv) (by cbv) (by cbv) (by cbv) ?_ ?_
  · exact (hq Tt (hq (hC (qr h_r16)) (hq Tt (hq (qwD (P := Tryz.prog) (f := Int_c) RLe.r (qUB (f := Int_c) h_l17 (RLe.cons rfl LLe.r RLe.nil)) h_l18) (hq Tt hq0)))))
  refine Run.row (rows := (ap (qB z12) ([[.s (.int .i64 (ar .add .i64 1 qkb))]]))) 104102 (qB l18) (by cbv) (qvD (f := Int_c) RLe.r (qUB (f := Int_c) h_l17 (RLe.cons rfl LLe.r RLe.nil)) h_l18) ?_
  refine Run.region hL hT [] (by cbv) ?_ ?_
  · exact (hq Tt hq0)
  refine ⟨qTT, qUT, l18, (ar .add .i64 z13 1), h, Weak.of _ [(0, 0), (1, 1), (2, 2), (3, 104102)] hA (by cbv) ?_⟩
  repeat (first | exact hq0 | refine hq (by first | exact Tt | rfl) ?_)
 have h := if_f c15 h
 refine Run.exit ?_
 refine Run.seq ?_
 refine Run.region hL hT [] (by cbv) ?_ ?_
 · exact (hq Tt (hq Tt hq0))
 refine Run.ret ?_
 cases h
 refine ⟨_, _, by cbv, ?_, ?_⟩
 · exact LLe.r
 exact (ALe.ag rfl LLe.r ALe.nil)
theorem qVE {qqD : Int} {qQB : List Int} {r : Row} (h : qTD.f (Row.mk qqD qQB) = some r) : AC Tryz.prog 124 [.ag [.s (.int .i64 qqD), .im false (rowsOf Int_c qQB)]] [.ag [.jk, .jk]] [.ag [.s (.int .i64 r.Id), .ow 3 (rowsOf Int_c r.Cells)]] := by
 unfold qTD.f at h
 let qB := rowsOf Int_c
 show AC Tryz.prog 124 [.ag [.s (.int .i64 qqD), .im false (qB qQB)]] _ _
 refine run3 Tryz.func124 (by rfl) (by rfl) (by cbv) ⟨by decide, rfl⟩ ?_
 intro ar cm bo sc sa sx ss sl bs sb ln sr ap up rp fr ge le lt nz mm ma sm fl al ci hL F hP hA hT hM hC
 refine Run.seq ?_
 refine Run.region hL hT [] (by cbv) hq0 ?_
 refine Run.seq ?_
 obtain ⟨l1, h_l1, h⟩ := bnd h
 refine Run.draw hL hT hM [] (by cbv) (by cbv) (by cbv) (by cbv) (by cbv) ?_ ?_
 · exact (hq Tt (hq Tt (hq (qxX qhU _) (hq (qwD (P := Tryz.prog) (f := Int_c) RLe.r RLe.r h_l1) (hq Tt hq0)))))
 refine Run.row (rows := (ap ([]) ((qB qQB)))) 4101 (qB l1) (by cbv) (qvD (f := Int_c) RLe.r RLe.r h_l1) ?_
 refine Run.ret ?_
 cases h
 refine ⟨_, _, by cbv, ?_, ?_⟩
 · exact LLe.r
 exact (ALe.ag rfl LLe.r ALe.nil)
theorem qNG {a0 : List Row} {a1 : Int} {r : Int} (h : qzC.f a0 a1 = some r) : AC Tryz.prog 86 [.v (.im false (rowsOf Row_i a0)), .v (.s (.int .i64 a1))] [.v (.jk), .v (.jk)] [.v (.s (.int .i64 r))] := by
 unfold qzC.f at h
 let qB := rowsOf Int_c
 let qAB := rowsOf Row_i
 let qm := @lenI Row
 show AC Tryz.prog 86 [.v (.im false (qAB a0)), .v (.s (.int .i64 a1))] _ _
 refine run3 Tryz.func86 (by rfl) (by rfl) (by cbv) ⟨by decide, rfl⟩ ?_
 intro ar cm bo sc sa sx ss sl bs sb ln sr ap up rp fr ge le lt nz mm ma sm fl al ci hL F hP hA hT hM hC
 refine Run.seq ?_
 refine Run.region hL hT [] (by cbv) hq0 ?_
 refine Run.seq ?_
 refine Run.seq ?_
 refine Run.region hL hT [] (by cbv) hq0 ?_
 refine Run.block ?_
 refine Run.loop1 (fun (z4 : Int) => ⟨20, 100000, [(0, .t (.im false (qAB a0))), (1, .t (.s (.int .i64 a1))), (5, .t (.s (.int .i64 z4)))], []⟩) (x0 := 0) h (Weak.of _ [] hA (by cbv) ?_) (fun _ => rfl) ?_
 · repeat (first | exact hq0 | refine hq (by first | exact Tt | rfl) ?_)
 intro k z4 h
 rw [qzC.l0] at h
 refine Run.seq ?_
 refine Run.seq ?_
 refine Run.region hL hT [] (by cbv) ?_ ?_
 · exact (hq Tt hq0)
 rw [show ln (qAB a0) = qm a0 from ln_eq Row_i _]
 refine Run.cond (by cbv) (hq0) (fun c5 => ?_) (fun c5 => ?_)
 ·
  have h := if_t c5 h
  refine Run.skip ?_
  refine Run.seq ?_
  refine Run.block ?_
  refine Run.seq ?_
  obtain ⟨⟨qvd, qPZ⟩, h_x6, h⟩ := bnd h
  refine Run.region hL hT [(2, .el [.s (.int .i64 qvd), .im false (qB qPZ)])] (by cbv) ?_ ?_
  · exact (hq (qS h_x6) (hq (ql (f := Row_i) h_x6) (hq (qt (f := Row_i) h_x6) (hq Tt hq0))))
  refine Run.cond (by cbv) (hq0) (fun c7 => ?_) (fun c7 => ?_)
  ·
   have h := if_t c7 h
   refine Run.seq ?_
   refine Run.region hL hT [] (by cbv) hq0 ?_
   refine Run.ret ?_
   cases h
   refine ⟨_, _, by cbv, ?_, ?_⟩
   · exact LLe.r
   exact (ALe.v LLe.r ALe.nil)
  have h := if_f c7 h
  refine Run.skip ?_
  refine Run.region hL hT [] (by cbv) ?_ ?_
  · exact (hq Tt hq0)
  refine ⟨(ar .add .i64 z4 1), h, Weak.of _ [] hA (by cbv) ?_⟩
  repeat (first | exact hq0 | refine hq (by first | exact Tt | rfl) ?_)
 have h := if_f c5 h
 refine Run.exit ?_
 refine Run.seq ?_
 refine Run.region hL hT [] (by cbv) hq0 ?_
 refine Run.ret ?_
 cases h
 refine ⟨_, _, by cbv, ?_, ?_⟩
 · exact LLe.r
 exact (ALe.v LLe.r ALe.nil)
theorem qsG {a0 : List Row} {a1 : Int} {r : (List Row)} (h : qFC.f a0 a1 = some r) : AC Tryz.prog 142 [.v (.im false (rowsOf Row_i a0)), .v (.s (.int .i64 a1))] [.v (.jk), .v (.jk)] [.v (.ow 56 (rowsOf Row_o r))] := by
 unfold qFC.f at h
 let qB := rowsOf Int_c
 let qAB := rowsOf Row_i
 let qT := rowsOf Row_o
 let qm := @lenI Row
 show AC Tryz.prog 142 [.v (.im false (qAB a0)), .v (.s (.int .i64 a1))] _ _
 refine run3 Tryz.func142 (by rfl) (by rfl) (by cbv) ⟨by decide, rfl⟩ ?_
 intro ar cm bo sc sa sx ss sl bs sb ln sr ap up rp fr ge le lt nz mm ma sm fl al ci hL F hP hA hT hM hC
 refine Run.seq ?_
 refine Run.region hL hT [] (by cbv) hq0 ?_
 refine Run.seq ?_
 obtain ⟨r1, h_r1, h⟩ := bnd h
 refine Run.region hL hT [(2, .call [false, false] [.v (.jk), .v (.jk)] [.v (.s (.int .i64 r1))])] (by cbv) ?_ ?_
 · exact (hq (hC (qNG h_r1)) hq0)
 refine Run.seq ?_
 refine Run.region hL hT [] (by cbv) hq0 ?_
 refine Run.seq ?_
 refine Run.seq ?_
 refine Run.region hL hT [] (by cbv) hq0 ?_
 refine Run.block ?_
 refine Run.loop2 (fun (z6 : List Row) (z7 : Int) => ⟨30, 100000, [(0, .t (.im false (qAB a0))), (5, .t (.s (.int .i64 r1))), (6, .rf 1), (7, .t (.s (.int .i64 z7)))], [(1, .row 0 56 2 (qT z6))]⟩) (x0 := []) (x1 := 0) h (Weak.of _ [(1, 8192)] hA (by cbv) ?_) (fun _ _ => rfl) ?_
 · repeat (first | exact hq0 | refine hq (by first | exact Tt | rfl) ?_)
 intro k z6 z7 h
 rw [qFC.l0] at h
 refine Run.seq ?_
 refine Run.seq ?_
 refine Run.region hL hT [] (by cbv) ?_ ?_
 · exact (hq Tt hq0)
 rw [show ln (qAB a0) = qm a0 from ln_eq Row_i _]
 refine Run.cond (by cbv) (hq0) (fun c8 => ?_) (fun c8 => ?_)
 ·
  have h := if_t c8 h
  refine Run.skip ?_
  refine Run.seq ?_
  refine Run.block ?_
  refine Run.seq ?_
  refine Run.region hL hT [] (by cbv) ?_ ?_
  · exact (hq Tt hq0)
  refine Run.cond (by cbv) (hq0) (fun c9 => ?_) (fun c9 => ?_)
  ·
   have h := if_t c9 h
   obtain ⟨⟨qkR, qeJ⟩, h_x10, h⟩ := bnd h
   obtain ⟨⟨qpR, qfJ⟩, h_r11, h⟩ := bnd h
   obtain ⟨l12, h_l12, h⟩ := bnd h
   obtain ⟨l13, h_l13, h⟩ := bnd h
   refine Run.region hL hT [(3, .el [.s (.int .i64 qkR), .im false (qB qeJ)]), (5, .call [false] [.ag [.jk, .jk]] [.ag [.s (.int .i64 qpR), .ow 3 (qB qfJ)]])] (by cbv) ?_ ?_
   · exact (hq (qS h_x10) (hq (ql (f := Row_i) h_x10) (hq (qt (f := Row_i) h_x10) (hq (hC (qVE h_r11)) (hq (qwD (P := Tryz.prog) (f := Row_o) RLe.r (qUB (f := Row_o) h_l12 (RLe.cons rfl LLe.r RLe.nil)) h_l13) hq0)))))
   refine Run.row (rows := (ap (qT z6) ([[.s (.int .i64 qpR), .ow 3 (qB qfJ)]]))) 108199 (qT l13) (by cbv) (qvD (f := Row_o) RLe.r (qUB (f := Row_o) h_l12 (RLe.cons rfl LLe.r RLe.nil)) h_l13) ?_
   refine Run.region hL hT [] (by cbv) ?_ ?_
   · exact (hq Tt hq0)
   refine ⟨l13, (ar .add .i64 z7 1), h, Weak.of _ [(1, 108199)] hA (by cbv) ?_⟩
   repeat (first | exact hq0 | refine hq (by first | exact Tt | rfl) ?_)
  have h := if_f c9 h
  refine Run.skip ?_
  refine Run.region hL hT [] (by cbv) ?_ ?_
  · exact (hq Tt hq0)
  refine ⟨z6, (ar .add .i64 z7 1), h, Weak.of _ [(1, 1)] hA (by cbv) ?_⟩
  repeat (first | exact hq0 | refine hq (by first | exact Tt | rfl) ?_)
 have h := if_f c8 h
 refine Run.exit ?_
 refine Run.seq ?_
 refine Run.region hL hT [] (by cbv) hq0 ?_
 refine Run.ret ?_
 cases h
 refine ⟨_, _, by cbv, ?_, ?_⟩
 · exact LLe.r
 exact (ALe.v LLe.r ALe.nil)
theorem qZH {a0 : List Row} {qLC : Int} {qk : List Int} {r : (List Row)} (h : qZC.f a0 (Row.mk qLC qk) = some r) : AC Tryz.prog 141 [.v (.im false (rowsOf Row_i a0)), .ag [.s (.int .i64 qLC), .im false (rowsOf Int_c qk)]] [.v (.jk), .ag [.jk, .jk]] [.v (.ow 56 (rowsOf Row_o r))] := by
 unfold qZC.f at h
 let qB := rowsOf Int_c
 let qAB := rowsOf Row_i
 let qT := rowsOf Row_o
 let qm := @lenI Row
 show AC Tryz.prog 141 [.v (.im false (qAB a0)), .ag [.s (.int .i64 qLC), .im false (qB qk)]] _ _
 refine run3 Tryz.func141 (by rfl) (by rfl) (by cbv) ⟨by decide, rfl⟩ ?_
 intro ar cm bo sc sa sx ss sl bs sb ln sr ap up rp fr ge le lt nz mm ma sm fl al ci hL F hP hA hT hM hC
 refine Run.seq ?_
 refine Run.region hL hT [] (by cbv) hq0 ?_
 refine Run.seq ?_
 obtain ⟨r1, h_r1, h⟩ := bnd h
 refine Run.region hL hT [(3, .call [false, false] [.v (.jk), .v (.jk)] [.v (.ow 56 (qT r1))])] (by cbv) ?_ ?_
 · exact (hq Tt (hq (hC (qsG h_r1)) hq0))
 refine Run.seq ?_
 refine Run.region hL hT [] (by cbv) hq0 ?_
 rw [show ln (qT r1) = qm r1 from ln_eq Row_o _]
 obtain ⟨K3, h_K3, h⟩ := joinE h
 refine Run.join1 K3 (r := r) (fun (y2 : Int) => ⟨55, 100000, [(3, .pt 1 0 0), (5, .rf 2), (6, .t (.s (.int .i64 y2)))], [(1, .box 56 [.t (.s (.int .i64 qLC)), .t (.im false (qB qk))]), (2, .row 0 56 2 (qT r1))]⟩) ?_ ?_
 ·
  skip
  refine Run.seq ?_
  obtain ⟨r4, h_r4, h⟩ := bnd h
  refine Run.region hL hT [(3, .call [false, false] [.v (.jk), .v (.jk)] [.v (.s (.int .i64 r4))])] (by cbv) ?_ ?_
  · exact (hq Tt (hq (hC (qNG h_r4)) (hq Tt hq0)))
  refine Run.cond (by cbv) (hq0) (fun c5 => ?_) (fun c5 => ?_)
  ·
   have h := if_t c5 h
   obtain ⟨r6, h_r6, h⟩ := bnd h
   refine Run.region hL hT [(3, .call [false, false] [.v (.jk), .v (.jk)] [.v (.s (.int .i64 r6))])] (by cbv) ?_ ?_
   · exact (hq Tt (hq (hC (qNG h_r6)) hq0))
   refine ⟨r6, h, Weak.of _ [(1, 0), (2, 4099)] hA (by cbv) ?_⟩
   repeat (first | exact hq0 | refine hq (by first | exact Tt | rfl) ?_)
  have h := if_f c5 h
  refine Run.seq ?_
  refine Run.region hL hT [] (by cbv) ?_ ?_
  · exact (hq Tt hq0)
  rw [show ln (qT r1) = qm r1 from ln_eq Row_o _]
  refine Run.block ?_
  refine Run.loop2 (fun (z12 : Int) (z13 : Int) => ⟨55, 100000, [(3, .pt 1 0 0), (5, .rf 2), (6, .t (.s (.int .i64 z12))), (7, .t (.s (.int .i64 z13)))], [(1, .box 56 [.t (.s (.int .i64 qLC)), .t (.im false (qB qk))]), (2, .row 0 56 2 (qT r1))]⟩) (x0 := (qm r1)) (x1 := (ar .sub .i64 (qm r1) 1)) h (Weak.of _ [(1, 0), (2, 4099)] hA (by cbv) ?_) (fun _ _ => rfl) ?_
  · repeat (first | exact hq0 | refine hq (by first | exact Tt | rfl) ?_)
  intro k z12 z13 h
  rw [qZC.l0] at h
  refine Run.seq ?_
  refine Run.seq ?_
  refine Run.region hL hT [] (by cbv) ?_ ?_
  · exact (hq Tt hq0)
  refine Run.cond (by cbv) (hq0) (fun c14 => ?_) (fun c14 => ?_)
  ·
   have h := if_t c14 h
   refine Run.skip ?_
   refine Run.seq ?_
   refine Run.block ?_
   refine Run.seq ?_
   obtain ⟨⟨qwc, qxW⟩, h_x15, h⟩ := bnd h
   refine Run.draw hL hT hM [(4, .el [.s (.int .i64 qwc), .ow 3 (qB qxW)])] (by cbv) (by cbv) (by cbv) (by cbv) (by cbv) ?_ ?_
   · exact (hq (qS h_x15) (hq (ql (f := Row_o) h_x15) (hq (qS h_x15) (hq (ql (f := Row_o) h_x15) (hq (qt (f := Row_o) h_x15) (hq Tt (hq Tt hq0)))))))
   refine Run.cond (by cbv) (hq0) (fun c16 => ?_) (fun c16 => ?_)
   ·
    have h := if_t c16 h
    refine Run.region hL hT [] (by cbv) hq0 ?_
    refine Run.region hL hT [] (by cbv) ?_ ?_
    · exact (hq Tt hq0)
    refine ⟨z13, (ar .sub .i64 z13 1), h, Weak.of _ [(1, 1), (2, 2)] hA (by cbv) ?_⟩
    repeat (first | exact hq0 | refine hq (by first | exact Tt | rfl) ?_)
   have h := if_f c16 h
   refine Run.skip ?_
   refine Run.region hL hT [] (by cbv) ?_ ?_
   · exact (hq Tt hq0)
   refine ⟨z12, (ar .sub .i64 z13 1), h, Weak.of _ [(1, 1), (2, 2)] hA (by cbv) ?_⟩
   repeat (first | exact hq0 | refine hq (by first | exact Tt | rfl) ?_)
  have h := if_f c14 h
  refine Run.exit ?_
  refine ⟨z12, h, Weak.of _ [(1, 1), (2, 2)] hA (by cbv) ?_⟩
  repeat (first | exact hq0 | refine hq (by first | exact Tt | rfl) ?_)
 intro y2 h
 rw [h_K3] at h
 refine Run.seq ?_
 obtain ⟨l17, h_l17, h⟩ := bnd h
 obtain ⟨l18, h_l18, h⟩ := bnd h
 refine Run.region hL hT [] (by cbv) ?_ ?_
 · exact (hq (cut_0 h_l17) (hq (cut_1 h_l17) (hq (cut_2 (f := Row_o) h_l17) (hq (cut_2 (f := Row_o) h_l17) (hq (qwD (P := Tryz.prog) (f := Row_o) RLe.r (mv_le Row_o h_l17) h_l18) hq0)))))
 refine Run.row (rows := (ap ([]) ((sr (qT r1) 0 y2)))) 100004 (qT l18) (by cbv) (qvD (f := Row_o) RLe.r (mv_le Row_o h_l17) h_l18) ?_
 refine Run.seq ?_
 obtain ⟨⟨qQZ, qVQ⟩, h_r19, h⟩ := bnd h
 obtain ⟨l20, h_l20, h⟩ := bnd h
 obtain ⟨l21, h_l21, h⟩ := bnd h
 refine Run.region hL hT [(2, .call [false] [.ag [.jk, .jk]] [.ag [.s (.int .i64 qQZ), .ow 3 (qB qVQ)]])] (by cbv) ?_ ?_
 · exact (hq Tt (hq (hC (qVE h_r19)) (hq (qwD (P := Tryz.prog) (f := Row_o) RLe.r (qUB (f := Row_o) h_l20 (RLe.cons rfl LLe.r RLe.nil)) h_l21) hq0)))
 refine Run.row (rows := (ap (qT l18) ([[.s (.int .i64 qQZ), .ow 3 (qB qVQ)]]))) 104100 (qT l21) (by cbv) (qvD (f := Row_o) RLe.r (qUB (f := Row_o) h_l20 (RLe.cons rfl LLe.r RLe.nil)) h_l21) ?_
 refine Run.seq ?_
 obtain ⟨l22, h_l22, h⟩ := bnd h
 obtain ⟨l23, h_l23, h⟩ := bnd h
 refine Run.region hL hT [] (by cbv) ?_ ?_
 · exact (hq (cut_0 h_l22) (hq (jr_1 Row_o h_l17 h_l18 h_l22) (hq (Int.le_refl _) (hq (Int.le_refl _) (hq (qwD (P := Tryz.prog) (f := Row_o) RLe.r (qZb Row_o h_l17 h_l18 h_l22) h_l23) hq0)))))
 refine Run.row (rows := (ap (qT l21) ((sr (ap (ap (sr (qT r1) 0 0) (rp (ar .sub .i64 y2 0) [.jk, .jk])) (sr (qT r1) y2 (ln (qT r1)))) y2 (ln (ap (ap (sr (qT r1) 0 0) (rp (ar .sub .i64 y2 0) [.jk, .jk])) (sr (qT r1) y2 (ln (qT r1))))))))) 108196 (qT l23) (by cbv) (qvD (f := Row_o) RLe.r (qZb Row_o h_l17 h_l18 h_l22) h_l23) ?_
 refine Run.ret ?_
 cases h
 refine ⟨_, _, by cbv, ?_, ?_⟩
 · exact LLe.r
 exact (ALe.v LLe.r ALe.nil)
theorem qsH {a0v_b : List Int} {a0v_i : Int} {a0v_h : Int} {a1 : Int} {r : l1Cur × Row} (h : qKC.f (l1Cur.mk a0v_b a0v_i a0v_h) a1 = some r) : AC Tryz.prog 96 [.v (.bx 119 [.im true (rowsOf u8_c a0v_b), .s (.int .i64 a0v_i), .s (.int .i64 a0v_h)]), .v (.s (.int .i64 a1))] [.v (.bx 119 [.im true (rowsOf u8_c a0v_b), .s (.int .i64 r.1.i), .s (.int .i64 r.1.h)]), .v (.jk)] [.ag [.s (.int .i64 r.2.Id), .ow 3 (rowsOf Int_c r.2.Cells)]] := by
 unfold qKC.f at h
 let qB := rowsOf Int_c
 let eu8_c := rowsOf u8_c
 show AC Tryz.prog 96 [.v (.bx 119 [.im true (eu8_c a0v_b), .s (.int .i64 a0v_i), .s (.int .i64 a0v_h)]), .v (.s (.int .i64 a1))] _ _
 refine run3 Tryz.func96 (by rfl) (by rfl) (by cbv) ⟨by decide, rfl⟩ ?_
 intro ar cm bo sc sa sx ss sl bs sb ln sr ap up rp fr ge le lt nz mm ma sm fl al ci hL F hP hA hT hM hC
 refine Run.seq ?_
 refine Run.region hL hT [] (by cbv) hq0 ?_
 refine Run.seq ?_
 obtain ⟨⟨⟨qqR, qOG, qPG⟩, r1v_2⟩, h_r1, h⟩ := bnd h
 refine Run.region hL hT [(1, .call [true, false] [.v (.bx 119 [.im true (eu8_c a0v_b), .s (.int .i64 qOG), .s (.int .i64 qPG)]), .v (.jk)] [.v (.s (.int .i64 r1v_2))])] (by cbv) ?_ ?_
 · exact (hq (hC (qr h_r1)) (hq Tt (hq Tt hq0)))
 refine Run.seq ?_
 refine Run.seq ?_
 refine Run.region hL hT [] (by cbv) hq0 ?_
 refine Run.block ?_
 refine Run.loop5 (fun (z17 : Int) (z18 : Int) (z19 : Int) (z20 : List Int) (z21 : Int) => ⟨24, 100000, [(0, .pt 0 0 0), (1, .t (.s (.int .i64 a1))), (4, .pt 1 0 0), (5, .pt 2 0 0), (6, .t (.s (.int .i64 z21)))], [(0, .box 119 [.t (.im true (eu8_c a0v_b)), .t (.s (.int .i64 z17)), .t (.s (.int .i64 z18))]), (1, .box 56 [.t (.s (.int .i64 0)), .t (.s (.slice none 0 0))]), (2, .box 56 [.t (.s (.int .i64 z19)), .rf 3]), (3, .row 0 3 1 (qB z20))]⟩) (x0 := qOG) (x1 := qPG) (x2 := (ar .add .i64 1 r1v_2)) (x3 := []) (x4 := 0) h ((Weak.nilB (l := [.t (.s (.int .i64 (ar .add .i64 1 r1v_2)))]) hT 4101 1 13289 3 rfl (by cbv) (by cbv) (by cbv)).trans (Weak.of _ [(0, 0), (1, 1), (2, 4101), (3, 13289)] hA (by cbv) ?_)) (fun _ _ _ _ _ => rfl) ?_
 · repeat (first | exact hq0 | refine hq (by first | exact Tt | rfl) ?_)
 intro k z17 z18 z19 z20 z21 h
 rw [qKC.l0] at h
 refine Run.seq ?_
 refine Run.seq ?_
 refine Run.region hL hT [] (by cbv) ?_ ?_
 · exact (hq Tt hq0)
 refine Run.cond (by cbv) (hq0) (fun c22 => ?_) (fun c22 => ?_)
 ·
  have h := if_t c22 h
  refine Run.skip ?_
  refine Run.seq ?_
  refine Run.block ?_
  obtain ⟨⟨⟨qwd, qVT, qWT⟩, qlb⟩, h_r23, h⟩ := bnd h
  obtain ⟨l24, h_l24, h⟩ := bnd h
  obtain ⟨l25, h_l25, h⟩ := bnd h
  refine Run.draw hL hT hM [(3, .call [true, false] [.v (.bx 119 [.im true (eu8_c a0v_b), .s (.int .i64 qVT), .s (.int .i64 qWT)]), .v (.jk)] [.v (.s (.int .i64 qlb))])] (by cbv) (by cbv) (by cbv) (by cbv) (by cbv) ?_ ?_
  · exact (hq Tt (hq (hC (qr h_r23)) (hq (qwD (P := Tryz.prog) (f := Int_c) RLe.r (qUB (f := Int_c) h_l24 (RLe.cons rfl LLe.r RLe.nil)) h_l25) (hq Tt hq0))))
  refine Run.row (rows := (ap (qB z20) ([[.s (.int .i64 qlb)]]))) 104101 (qB l25) (by cbv) (qvD (f := Int_c) RLe.r (qUB (f := Int_c) h_l24 (RLe.cons rfl LLe.r RLe.nil)) h_l25) ?_
  refine Run.region hL hT [] (by cbv) ?_ ?_
  · exact (hq Tt hq0)
  refine ⟨qVT, qWT, z19, l25, (ar .add .i64 z21 1), h, Weak.of _ [(0, 0), (1, 1), (2, 2), (3, 104101)] hA (by cbv) ?_⟩
  repeat (first | exact hq0 | refine hq (by first | exact Tt | rfl) ?_)
 have h := if_f c22 h
 refine Run.exit ?_
 refine Run.seq ?_
 refine Run.region hL hT [] (by cbv) ?_ ?_
 · exact (hq Tt (hq Tt hq0))
 refine Run.ret ?_
 cases h
 refine ⟨_, _, by cbv, ?_, ?_⟩
 · exact LLe.r
 exact (ALe.ag rfl LLe.r ALe.nil)
theorem qJL {a0v_b : List Int} {a0v_i : Int} {a0v_h : Int} {a1 : Int} {r : l1Cur × (List Row)} (h : qGC.f (l1Cur.mk a0v_b a0v_i a0v_h) a1 = some r) : AC Tryz.prog 92 [.v (.bx 119 [.im true (rowsOf u8_c a0v_b), .s (.int .i64 a0v_i), .s (.int .i64 a0v_h)]), .v (.s (.int .i64 a1))] [.v (.bx 119 [.im true (rowsOf u8_c a0v_b), .s (.int .i64 r.1.i), .s (.int .i64 r.1.h)]), .v (.jk)] [.v (.ow 56 (rowsOf Row_o r.2))] := by
 unfold qGC.f at h
 let qB := rowsOf Int_c
 let qT := rowsOf Row_o
 let eu8_c := rowsOf u8_c
 show AC Tryz.prog 92 [.v (.bx 119 [.im true (eu8_c a0v_b), .s (.int .i64 a0v_i), .s (.int .i64 a0v_h)]), .v (.s (.int .i64 a1))] _ _
 refine run3 Tryz.func92 (by rfl) (by rfl) (by cbv) ⟨by decide, rfl⟩ ?_
 intro ar cm bo sc sa sx ss sl bs sb ln sr ap up rp fr ge le lt nz mm ma sm fl al ci hL F hP hA hT hM hC
 refine Run.seq ?_
 refine Run.region hL hT [] (by cbv) hq0 ?_
 refine Run.seq ?_
 refine Run.region hL hT [] (by cbv) hq0 ?_
 refine Run.seq ?_
 refine Run.seq ?_
 refine Run.region hL hT [] (by cbv) hq0 ?_
 refine Run.block ?_
 refine Run.loop4 (fun (z7 : Int) (z8 : Int) (z9 : List Row) (z10 : Int) => ⟨20, 100000, [(0, .pt 0 0 0), (1, .t (.s (.int .i64 a1))), (5, .rf 1), (6, .t (.s (.int .i64 z10)))], [(0, .box 119 [.t (.im true (eu8_c a0v_b)), .t (.s (.int .i64 z7)), .t (.s (.int .i64 z8))]), (1, .row 0 56 2 (qT z9))]⟩) (x0 := a0v_i) (x1 := a0v_h) (x2 := []) (x3 := 0) h (Weak.of _ [(0, 0), (1, 4097)] hA (by cbv) ?_) (fun _ _ _ _ => rfl) ?_
 · repeat (first | exact hq0 | refine hq (by first | exact Tt | rfl) ?_)
 intro k z7 z8 z9 z10 h
 rw [qGC.l0] at h
 refine Run.seq ?_
 refine Run.seq ?_
 obtain ⟨⟨⟨qxd, qRZ, qSZ⟩, qyd⟩, h_r11, h⟩ := bnd h
 refine Run.region hL hT [(2, .call [true, false] [.v (.bx 119 [.im true (eu8_c a0v_b), .s (.int .i64 qRZ), .s (.int .i64 qSZ)]), .v (.jk)] [.v (.s (.int .i64 qyd))])] (by cbv) ?_ ?_
 · exact (hq (hC (qr h_r11)) (hq Tt hq0))
 refine Run.cond (by cbv) (hq0) (fun c12 => ?_) (fun c12 => ?_)
 ·
  have h := if_t c12 h
  refine Run.skip ?_
  refine Run.seq ?_
  refine Run.block ?_
  obtain ⟨⟨⟨qzd, qXT, qYT⟩, ⟨qyW, qrR⟩⟩, h_r13, h⟩ := bnd h
  obtain ⟨r14, h_r14, h⟩ := bnd h
  refine Run.region hL hT [(3, .call [true, false] [.v (.bx 119 [.im true (eu8_c a0v_b), .s (.int .i64 qXT), .s (.int .i64 qYT)]), .v (.jk)] [.ag [.s (.int .i64 qyW), .ow 3 (qB qrR)]]), (4, .call [false, false] [.v (.jk), .ag [.jk, .jk]] [.v (.ow 56 (qT r14))])] (by cbv) ?_ ?_
  · exact (hq (hC (qsH h_r13)) (hq (hC (AC.args (qZH h_r14) (ALe.v (LLe.im (RLe.eq (qQC qzI _))) (ALe.ag rfl (LLe.c (LLe.cons (LLe.im (RLe.eq (qQC qKD _))) LLe.nil)) ALe.nil)))) hq0))
  refine Run.region hL hT [] (by cbv) ?_ ?_
  · exact (hq Tt hq0)
  refine ⟨qXT, qYT, r14, (ar .add .i64 z10 1), h, Weak.of _ [(0, 0), (1, 104100)] hA (by cbv) ?_⟩
  repeat (first | exact hq0 | refine hq (by first | exact Tt | rfl) ?_)
 have h := if_f c12 h
 refine Run.exit ?_
 refine Run.seq ?_
 refine Run.region hL hT [] (by cbv) hq0 ?_
 refine Run.ret ?_
 cases h
 refine ⟨_, _, by cbv, ?_, ?_⟩
 · exact LLe.r
 exact (ALe.v LLe.r ALe.nil)
theorem qXK {a0v_b : List Int} {a0v_i : Int} {a0v_h : Int} {r : l1Cur × Store} (h : qoB.f (l1Cur.mk a0v_b a0v_i a0v_h) = some r) : AC Tryz.prog 37 [.v (.bx 119 [.im true (rowsOf u8_c a0v_b), .s (.int .i64 a0v_i), .s (.int .i64 a0v_h)])] [.v (.bx 119 [.im true (rowsOf u8_c a0v_b), .s (.int .i64 r.1.i), .s (.int .i64 r.1.h)])] [.ag [.im true (rowsOf Int_c r.2.Schema.Cols), .s (.int .i64 r.2.Version), .im true (rowsOf qZB r.2.Tables)]] := by
 unfold qoB.f at h
 let qB := rowsOf Int_c
 let qMB := rowsOf qZB
 let qz := rowsOf qcB
 let qT := rowsOf Row_o
 let eu8_c := rowsOf u8_c
 let qRC := @lenI (List Row)
 show AC Tryz.prog 37 [.v (.bx 119 [.im true (eu8_c a0v_b), .s (.int .i64 a0v_i), .s (.int .i64 a0v_h)])] _ _
 refine run3 Tryz.func37 (by rfl) (by rfl) (by cbv) ⟨by decide, rfl⟩ ?_
 intro ar cm bo sc sa sx ss sl bs sb ln sr ap up rp fr ge le lt nz mm ma sm fl al ci hL F hP hA hT hM hC
 refine Run.seq ?_
 refine Run.region hL hT [] (by cbv) hq0 ?_
 refine Run.seq ?_
 obtain ⟨⟨⟨qqR, qOG, qPG⟩, ⟨qpU⟩⟩, h_r1, h⟩ := bnd h
 obtain ⟨⟨⟨⟨qXD⟩, qaH, qKL⟩, r2v_2⟩, h_r2, h⟩ := bnd h
 refine Run.region hL hT [(1, .call [true] [.v (.bx 119 [.im true (eu8_c a0v_b), .s (.int .i64 qOG), .s (.int .i64 qPG)])] [.ag [.ow 3 (qB qpU)]]), (2, .call [false] [.ag [.jk]] [.ag [.ow 3 (qB qXD), .s (.int .i64 qaH), .ow 50 (qz qKL)], .v (.s (.bool r2v_2))])] (by cbv) ?_ ?_
 · exact (hq (hC (qgJ h_r1)) (hq (hC (AC.args (qkM h_r2) (ALe.ag rfl (LLe.cons (LLe.im (RLe.eq (qQC qKD _))) LLe.nil) ALe.nil))) (hq Tt hq0)))
 obtain ⟨K6, h_K6, h⟩ := joinE h
 refine Run.join3 K6 (r := r) (fun (y3 : Int) (y4 : Int) (y5 : List (List Row)) => ⟨35, 100000, [(0, .pt 0 0 0), (2, .pt 1 0 0), (3, .pt 2 0 0)], [(0, .box 119 [.t (.im true (eu8_c a0v_b)), .t (.s (.int .i64 y3)), .t (.s (.int .i64 y4))]), (1, .box 29 [.t (.s (.slice none 0 0)), .t (.s (.int .i64 0)), .t (.s (.slice none 0 0))]), (2, .box 29 [.rf 3, .t (.s (.int .i64 qaH)), .rf 4]), (3, .row 0 3 1 (qB qXD)), (4, .row 0 50 1 (qz y5))]⟩) ?_ ?_
 ·
  skip
  refine Run.seq ?_
  refine Run.region hL hT [] (by cbv) hq0 ?_
  refine Run.block ?_
  refine Run.loop4 (fun (z15 : Int) (z16 : Int) (z17 : List (List Row)) (z18 : Int) => ⟨35, 100000, [(0, .pt 0 0 0), (2, .pt 1 0 0), (3, .pt 2 0 0), (5, .t (.s (.int .i64 z18)))], [(0, .box 119 [.t (.im true (eu8_c a0v_b)), .t (.s (.int .i64 z15)), .t (.s (.int .i64 z16))]), (1, .box 29 [.t (.s (.slice none 0 0)), .t (.s (.int .i64 0)), .t (.s (.slice none 0 0))]), (2, .box 29 [.rf 3, .t (.s (.int .i64 qaH)), .rf 4]), (3, .row 0 3 1 (qB qXD)), (4, .row 0 50 1 (qz z17))]⟩) (x0 := qOG) (x1 := qPG) (x2 := qKL) (x3 := 0) h (Weak.of _ [(0, 0), (1, 1), (2, 4103), (3, 4099), (4, 4355)] hA (by cbv) ?_) (fun _ _ _ _ => rfl) ?_
  · repeat (first | exact hq0 | refine hq (by first | exact Tt | rfl) ?_)
  intro k z15 z16 z17 z18 h
  rw [qoB.l0] at h
  refine Run.seq ?_
  refine Run.seq ?_
  refine Run.region hL hT [] (by cbv) ?_ ?_
  · exact (hq Tt (hq Tt hq0))
  rw [show ln (qz z17) = qRC z17 from ln_eq qcB _]
  refine Run.cond (by cbv) (hq0) (fun c19 => ?_) (fun c19 => ?_)
  ·
   have h := if_t c19 h
   refine Run.skip ?_
   refine Run.seq ?_
   refine Run.block ?_
   obtain ⟨x20, h_x20, h⟩ := bnd h
   obtain ⟨⟨⟨qTZ, qFJ, qGJ⟩, qhV⟩, h_r21, h⟩ := bnd h
   obtain ⟨x22, h_x22, h⟩ := bnd h
   obtain ⟨l23, h_l23, h⟩ := bnd h
   refine Run.draw hL hT hM [(9, .el [.s (.int .i64 x20)]), (10, .call [true, false] [.v (.bx 119 [.im true (eu8_c a0v_b), .s (.int .i64 qFJ), .s (.int .i64 qGJ)]), .v (.jk)] [.v (.ow 56 (qT qhV))])] (by cbv) (by cbv) (by cbv) (by cbv) (by cbv) ?_ ?_
   · exact (hq Tt (hq Tt (hq (qS h_x20) (hq (ql (f := Int_c) h_x20) (hq (qS h_x20) (hq (ql (f := Int_c) h_x20) (hq (qt (f := Int_c) h_x20) (hq (hC (qJL h_r21)) (hq (qS h_x22) (hq (ql (f := qcB) h_x22) (hq (qS h_x22) (hq (ql (f := qcB) h_x22) hq0))))))))))))
   refine Run.row (rows := (up (qz z17) z18 0 [.ow 56 (qT qhV)])) 4 (qz l23) (by cbv) (qdS (f := qcB) h_x22 h_l23 rfl LLe.r) ?_
   refine Run.region hL hT [] (by cbv) ?_ ?_
   · exact (hq Tt hq0)
   refine ⟨qFJ, qGJ, l23, (ar .add .i64 z18 1), h, Weak.of _ [(0, 0), (1, 1), (2, 2), (3, 3), (4, 4)] hA (by cbv) ?_⟩
   repeat (first | exact hq0 | refine hq (by first | exact Tt | rfl) ?_)
  have h := if_f c19 h
  refine Run.exit ?_
  refine ⟨z15, z16, z17, h, Weak.of _ [(0, 0), (1, 1), (2, 2), (3, 3), (4, 4)] hA (by cbv) ?_⟩
  repeat (first | exact hq0 | refine hq (by first | exact Tt | rfl) ?_)
 intro y3 y4 y5 h
 rw [h_K6] at h
 refine Run.seq ?_
 obtain ⟨⟨⟨qAe, qUZ, qVZ⟩, qBe⟩, h_r24, h⟩ := bnd h
 refine Run.region hL hT [(1, .call [true, false] [.v (.bx 119 [.im true (eu8_c a0v_b), .s (.int .i64 qUZ), .s (.int .i64 qVZ)]), .v (.jk)] [.v (.s (.int .i64 qBe))])] (by cbv) ?_ ?_
 · exact (hq (hC (qr h_r24)) (hq Tt hq0))
 refine Run.seq ?_
 refine Run.region hL hT [] (by cbv) ?_ ?_
 · exact (hq Tt (hq Tt hq0))
 refine Run.weak ?_ (Weak.keep (rows := qB qXD) 3 (by cbv) (qB qXD) (qQC qKD _))
 refine Run.weak ?_ (Weak.keep (rows := qz y5) 4 (by cbv) (qMB y5) (qQC qBL _))
 refine Run.ret ?_
 cases h
 refine ⟨_, _, by cbv, ?_, ?_⟩
 · exact LLe.r
 exact (ALe.ag rfl LLe.r ALe.nil)
theorem qjF {a0v_b : List Int} {a0v_i : Int} {a0v_h : Int} {a1 : Int} {r : l1Cur × Bool} (h : qfC.f (l1Cur.mk a0v_b a0v_i a0v_h) a1 = some r) : AC Tryz.prog 83 [.v (.bx 119 [.im true (rowsOf u8_c a0v_b), .s (.int .i64 a0v_i), .s (.int .i64 a0v_h)]), .v (.s (.int .i64 a1))] [.v (.bx 119 [.im true (rowsOf u8_c a0v_b), .s (.int .i64 r.1.i), .s (.int .i64 r.1.h)]), .v (.jk)] [.v (.s (.bool r.2))] := by
 unfold qfC.f at h
 let eu8_c := rowsOf u8_c
 show AC Tryz.prog 83 [.v (.bx 119 [.im true (eu8_c a0v_b), .s (.int .i64 a0v_i), .s (.int .i64 a0v_h)]), .v (.s (.int .i64 a1))] _ _
 refine run3 Tryz.func83 (by rfl) (by rfl) (by cbv) ⟨by decide, rfl⟩ ?_
 intro ar cm bo sc sa sx ss sl bs sb ln sr ap up rp fr ge le lt nz mm ma sm fl al ci hL F hP hA hT hM hC
 refine Run.seq ?_
 refine Run.region hL hT [] (by cbv) hq0 ?_
 refine Run.seq ?_
 obtain ⟨⟨⟨qqR, qOG, qPG⟩, r1v_2⟩, h_r1, h⟩ := bnd h
 refine Run.region hL hT [(2, .call [true, false] [.v (.bx 119 [.im true (eu8_c a0v_b), .s (.int .i64 qOG), .s (.int .i64 qPG)]), .v (.jk)] [.v (.s (.int .i64 r1v_2))])] (by cbv) ?_ ?_
 · exact (hq (hC (qr h_r1)) (hq Tt hq0))
 refine Run.ret ?_
 cases h
 refine ⟨_, _, by cbv, ?_, ?_⟩
 · exact LLe.r
 exact (ALe.v LLe.r ALe.nil)
theorem qTF {a0 : Int} {a1 : Int} {r : Int} (h : quC.f a0 a1 = some r) : AC Tryz.prog 93 [.v (.s (.int .i64 a0)), .v (.s (.int .i64 a1))] [.v (.jk), .v (.jk)] [.v (.s (.int .i64 r))] := by
 unfold quC.f at h
 show AC Tryz.prog 93 [.v (.s (.int .i64 a0)), .v (.s (.int .i64 a1))] _ _
 refine run3 Tryz.func93 (by rfl) (by rfl) (by cbv) ⟨by decide, rfl⟩ ?_
 intro ar cm bo sc sa sx ss sl bs sb ln sr ap up rp fr ge le lt nz mm ma sm fl al ci hL F hP hA hT hM hC
 refine Run.seq ?_
 refine Run.region hL hT [] (by cbv) hq0 ?_
 refine Run.seq ?_
 refine Run.seq ?_
 refine Run.region hL hT [] (by cbv) ?_ ?_
 · exact (hq Tt hq0)
 refine Run.cond (by cbv) (hq0) (fun c1 => ?_) (fun c1 => ?_)
 ·
  have h := if_t c1 h
  refine Run.seq ?_
  refine Run.region hL hT [] (by cbv) hq0 ?_
  refine Run.ret ?_
  cases h
  refine ⟨_, _, by cbv, ?_, ?_⟩
  · exact LLe.r
  exact (ALe.v LLe.r ALe.nil)
 have h := if_f c1 h
 refine Run.skip ?_
 refine Run.seq ?_
 refine Run.region hL hT [] (by cbv) hq0 ?_
 refine Run.ret ?_
 cases h
 refine ⟨_, _, by cbv, ?_, ?_⟩
 · exact LLe.r
 exact (ALe.v LLe.r ALe.nil)
theorem qtH {a0v_b : List Int} {a0v_i : Int} {a0v_h : Int} {a1 : List Int} {r : l1Cur × Int} (h : qeC.f (l1Cur.mk a0v_b a0v_i a0v_h) a1 = some r) : AC Tryz.prog 94 [.v (.bx 119 [.im true (rowsOf u8_c a0v_b), .s (.int .i64 a0v_i), .s (.int .i64 a0v_h)]), .v (.im false (rowsOf Int_c a1))] [.v (.bx 119 [.im true (rowsOf u8_c a0v_b), .s (.int .i64 r.1.i), .s (.int .i64 r.1.h)]), .v (.jk)] [.v (.s (.int .i64 r.2))] := by
 unfold qeC.f at h
 let qB := rowsOf Int_c
 let eu8_c := rowsOf u8_c
 let qQ := @lenI Int
 show AC Tryz.prog 94 [.v (.bx 119 [.im true (eu8_c a0v_b), .s (.int .i64 a0v_i), .s (.int .i64 a0v_h)]), .v (.im false (qB a1))] _ _
 refine run3 Tryz.func94 (by rfl) (by rfl) (by cbv) ⟨by decide, rfl⟩ ?_
 intro ar cm bo sc sa sx ss sl bs sb ln sr ap up rp fr ge le lt nz mm ma sm fl al ci hL F hP hA hT hM hC
 refine Run.seq ?_
 refine Run.region hL hT [] (by cbv) hq0 ?_
 refine Run.seq ?_
 obtain ⟨⟨⟨qqR, qOG, qPG⟩, r1v_2⟩, h_r1, h⟩ := bnd h
 obtain ⟨x2, h_x2, h⟩ := bnd h
 refine Run.region hL hT [(4, .call [true, false] [.v (.bx 119 [.im true (eu8_c a0v_b), .s (.int .i64 qOG), .s (.int .i64 qPG)]), .v (.jk)] [.v (.s (.int .i64 r1v_2))]), (5, .el [.s (.int .i64 x2)])] (by cbv) ?_ ?_
 · exact (hq (by rw [show ln (qB a1) = qQ a1 from ln_eq Int_c _]; exact (hC (qr h_r1))) (hq (qS h_x2) (hq (ql (f := Int_c) h_x2) (hq (qt (f := Int_c) h_x2) hq0))))
 rw [show ln (qB a1) = qQ a1 from ln_eq Int_c _]
 refine Run.ret ?_
 cases h
 refine ⟨_, _, by cbv, ?_, ?_⟩
 · exact LLe.r
 exact (ALe.v LLe.r ALe.nil)
theorem qYK {a0v_b : List Int} {a0v_i : Int} {a0v_h : Int} {qAD : List Int} {r : l1Cur × Query} (h : qj.f (l1Cur.mk a0v_b a0v_i a0v_h) (Schema.mk qAD) = some r) : AC Tryz.prog 38 [.v (.bx 119 [.im true (rowsOf u8_c a0v_b), .s (.int .i64 a0v_i), .s (.int .i64 a0v_h)]), .ag [.im false (rowsOf Int_c qAD)]] [.v (.bx 119 [.im true (rowsOf u8_c a0v_b), .s (.int .i64 r.1.i), .s (.int .i64 r.1.h)]), .ag [.jk]] [.ag [.s (.int .i64 r.2.Table), .ow 98 (rowsOf qGB r.2.Where), .s (.int .i64 r.2.Order), .s (.bool r.2.Down), .s (.int .i64 r.2.First), .ow 3 (rowsOf Int_c r.2.Show), .s (.bool r.2.Kids), .s (.int .i64 r.2.KidTable), .s (.int .i64 r.2.KidCol)]] := by
 unfold qj.f at h
 let qO := rowsOf qGB
 let qB := rowsOf Int_c
 let eu8_c := rowsOf u8_c
 let qQ := @lenI Int
 show AC Tryz.prog 38 [.v (.bx 119 [.im true (eu8_c a0v_b), .s (.int .i64 a0v_i), .s (.int .i64 a0v_h)]), .ag [.im false (qB qAD)]] _ _
 refine run3 Tryz.func38 (by rfl) (by rfl) (by cbv) ⟨by decide, rfl⟩ ?_
 intro ar cm bo sc sa sx ss sl bs sb ln sr ap up rp fr ge le lt nz mm ma sm fl al ci hL F hP hA hT hM hC
 refine Run.seq ?_
 refine Run.region hL hT [] (by cbv) hq0 ?_
 refine Run.seq ?_
 obtain ⟨r1, h_r1, h⟩ := bnd h
 obtain ⟨⟨⟨qiV, qQI, qRI⟩, r2v_2⟩, h_r2, h⟩ := bnd h
 refine Run.region hL hT [(4, .call [false, false] [.v (.jk), .v (.jk)] [.v (.s (.int .i64 r1))]), (5, .call [true, false] [.v (.bx 119 [.im true (eu8_c a0v_b), .s (.int .i64 qQI), .s (.int .i64 qRI)]), .v (.jk)] [.v (.s (.int .i64 r2v_2))])] (by cbv) ?_ ?_
 · exact (hq Tt (hq (by rw [show ln (qB qAD) = qQ qAD from ln_eq Int_c _]; exact (hC (qTF h_r1))) (hq (hC (qr h_r2)) (hq Tt hq0))))
 rw [show ln (qB qAD) = qQ qAD from ln_eq Int_c _]
 refine Run.seq ?_
 refine Run.region hL hT [] (by cbv) hq0 ?_
 obtain ⟨K4, h_K4, h⟩ := joinE h
 refine Run.join1 K4 (r := r) (fun (y3 : Int) => ⟨106, 100000, [(0, .pt 0 0 0), (3, .pt 1 0 0), (4, .pt 2 0 0), (5, .pt 3 0 0), (6, .t (.s (.int .i64 y3)))], [(0, .box 119 [.t (.im true (eu8_c a0v_b)), .t (.s (.int .i64 qQI)), .t (.s (.int .i64 qRI))]), (1, .box 26 [.t (.im false (qB qAD))]), (2, .box 32 [.t (.s (.int .i64 0)), .t (.s (.slice none 0 0)), .t (.s (.int .i64 0)), .t (.s (.bool false)), .t (.s (.int .i64 0)), .t (.s (.slice none 0 0)), .t (.s (.bool false)), .t (.s (.int .i64 0)), .t (.s (.int .i64 0))]), (3, .box 32 [.t (.s (.int .i64 r2v_2)), .t (.s (.slice none 0 0)), .t (.s (.int .i64 0)), .t (.s (.bool false)), .t (.s (.int .i64 0)), .t (.s (.slice none 0 0)), .t (.s (.bool false)), .t (.s (.int .i64 0)), .t (.s (.int .i64 0))])]⟩) ?_ ?_
 ·
  skip
  refine Run.seq ?_
  refine Run.region hL hT [] (by cbv) ?_ ?_
  · exact (hq Tt (hq Tt (hq Tt hq0)))
  rw [show ln (qB qAD) = qQ qAD from ln_eq Int_c _]
  refine Run.cond (by cbv) (hq0) (fun c5 => ?_) (fun c5 => ?_)
  ·
   have h := if_t c5 h
   obtain ⟨x6, h_x6, h⟩ := bnd h
   obtain ⟨r7, h_r7, h⟩ := bnd h
   refine Run.region hL hT [(4, .el [.s (.int .i64 x6)]), (6, .call [false, false] [.v (.jk), .v (.jk)] [.v (.s (.int .i64 r7))])] (by cbv) ?_ ?_
   · exact (hq Tt (hq Tt (hq (qS h_x6) (hq (ql (f := Int_c) h_x6) (hq (qt (f := Int_c) h_x6) (hq (hC (qTF h_r7)) hq0))))))
   refine ⟨r7, h, Weak.of _ [(0, 0), (1, 1), (2, 2), (3, 4104)] hA (by cbv) ?_⟩
   repeat (first | exact hq0 | refine hq (by first | exact Tt | rfl) ?_)
  have h := if_f c5 h
  refine Run.skip ?_
  refine ⟨1, h, Weak.of _ [(0, 0), (1, 1), (2, 2), (3, 4104)] hA (by cbv) ?_⟩
  repeat (first | exact hq0 | refine hq (by first | exact Tt | rfl) ?_)
 intro y3 h
 rw [h_K4] at h
 obtain ⟨K11, h_K11, h⟩ := joinE h
 refine Run.join3 K11 (r := r) (fun (y8 : Int) (y9 : Int) (y10 : List Cond) => ⟨106, 100000, [(0, .pt 0 0 0), (3, .pt 1 0 0), (4, .pt 2 0 0), (5, .pt 3 0 0), (6, .t (.s (.int .i64 y3)))], [(0, .box 119 [.t (.im true (eu8_c a0v_b)), .t (.s (.int .i64 y8)), .t (.s (.int .i64 y9))]), (1, .box 26 [.t (.im false (qB qAD))]), (2, .box 32 [.t (.s (.int .i64 0)), .t (.s (.slice none 0 0)), .t (.s (.int .i64 0)), .t (.s (.bool false)), .t (.s (.int .i64 0)), .t (.s (.slice none 0 0)), .t (.s (.bool false)), .t (.s (.int .i64 0)), .t (.s (.int .i64 0))]), (3, .box 32 [.t (.s (.int .i64 r2v_2)), .rf 4, .t (.s (.int .i64 0)), .t (.s (.bool false)), .t (.s (.int .i64 0)), .t (.s (.slice none 0 0)), .t (.s (.bool false)), .t (.s (.int .i64 0)), .t (.s (.int .i64 0))]), (4, .row 0 98 3 (qO y10))]⟩) ?_ ?_
 ·
  skip
  refine Run.seq ?_
  refine Run.region hL hT [] (by cbv) hq0 ?_
  refine Run.block ?_
  refine Run.loop4 (fun (z53 : Int) (z54 : Int) (z55 : List Cond) (z56 : Int) => ⟨106, 100000, [(0, .pt 0 0 0), (3, .pt 1 0 0), (4, .pt 2 0 0), (5, .pt 3 0 0), (6, .t (.s (.int .i64 y3))), (7, .t (.s (.int .i64 z56)))], [(0, .box 119 [.t (.im true (eu8_c a0v_b)), .t (.s (.int .i64 z53)), .t (.s (.int .i64 z54))]), (1, .box 26 [.t (.im false (qB qAD))]), (2, .box 32 [.t (.s (.int .i64 0)), .t (.s (.slice none 0 0)), .t (.s (.int .i64 0)), .t (.s (.bool false)), .t (.s (.int .i64 0)), .t (.s (.slice none 0 0)), .t (.s (.bool false)), .t (.s (.int .i64 0)), .t (.s (.int .i64 0))]), (3, .box 32 [.t (.s (.int .i64 r2v_2)), .rf 4, .t (.s (.int .i64 0)), .t (.s (.bool false)), .t (.s (.int .i64 0)), .t (.s (.slice none 0 0)), .t (.s (.bool false)), .t (.s (.int .i64 0)), .t (.s (.int .i64 0))]), (4, .row 0 98 3 (qO z55))]⟩) (x0 := qQI) (x1 := qRI) (x2 := []) (x3 := 0) h ((Weak.nilB (l := [.t (.s (.int .i64 r2v_2))]) hT 3 1 105096 98 rfl (by cbv) (by cbv) (by cbv)).trans (Weak.of _ [(0, 0), (1, 1), (2, 2), (3, 3), (4, 105096)] hA (by cbv) ?_)) (fun _ _ _ _ => rfl) ?_
  · repeat (first | exact hq0 | refine hq (by first | exact Tt | rfl) ?_)
  intro k z53 z54 z55 z56 h
  rw [qj.l0] at h
  refine Run.seq ?_
  refine Run.seq ?_
  obtain ⟨⟨⟨qCe, qZT, qaT⟩, qDe⟩, h_r57, h⟩ := bnd h
  refine Run.region hL hT [(2, .call [true, false] [.v (.bx 119 [.im true (eu8_c a0v_b), .s (.int .i64 qZT), .s (.int .i64 qaT)]), .v (.jk)] [.v (.s (.int .i64 qDe))])] (by cbv) ?_ ?_
  · exact (hq (hC (qr h_r57)) (hq Tt hq0))
  refine Run.cond (by cbv) (hq0) (fun c58 => ?_) (fun c58 => ?_)
  ·
   have h := if_t c58 h
   refine Run.skip ?_
   refine Run.seq ?_
   refine Run.block ?_
   obtain ⟨⟨⟨qEe, qWZ, qXZ⟩, qmb⟩, h_r59, h⟩ := bnd h
   obtain ⟨⟨⟨qFe, qYZ, qZZ⟩, qnb⟩, h_r60, h⟩ := bnd h
   obtain ⟨⟨⟨qGe, qbT, qcT⟩, qob⟩, h_r61, h⟩ := bnd h
   obtain ⟨l62, h_l62, h⟩ := bnd h
   obtain ⟨l63, h_l63, h⟩ := bnd h
   refine Run.draw hL hT hM [(4, .call [true, false] [.v (.bx 119 [.im true (eu8_c a0v_b), .s (.int .i64 qWZ), .s (.int .i64 qXZ)]), .v (.jk)] [.v (.s (.int .i64 qmb))]), (6, .call [true, false] [.v (.bx 119 [.im true (eu8_c a0v_b), .s (.int .i64 qYZ), .s (.int .i64 qZZ)]), .v (.jk)] [.v (.s (.int .i64 qnb))]), (9, .call [true, false] [.v (.bx 119 [.im true (eu8_c a0v_b), .s (.int .i64 qbT), .s (.int .i64 qcT)]), .v (.jk)] [.v (.s (.int .i64 qob))])] (by cbv) (by cbv) (by cbv) (by cbv) (by cbv) ?_ ?_
   · exact (hq Tt (hq (hC (qr h_r59)) (hq (hC (qr h_r60)) (hq Tt (hq (hC (qr h_r61)) (hq (qwD (P := Tryz.prog) (f := qGB) RLe.r (qUB (f := qGB) h_l62 (RLe.cons rfl LLe.r RLe.nil)) h_l63) (hq Tt hq0)))))))
   refine Run.row (rows := (ap (qO z55) ([[.s (.int .i64 qmb), .s (.int .i64 (ar .add .i64 1 qnb)), .s (.int .i64 qob)]]))) 104108 (qO l63) (by cbv) (qvD (f := qGB) RLe.r (qUB (f := qGB) h_l62 (RLe.cons rfl LLe.r RLe.nil)) h_l63) ?_
   refine Run.region hL hT [] (by cbv) ?_ ?_
   · exact (hq Tt hq0)
   refine ⟨qbT, qcT, l63, (ar .add .i64 z56 1), h, Weak.of _ [(0, 0), (1, 1), (2, 2), (3, 3), (4, 104108)] hA (by cbv) ?_⟩
   repeat (first | exact hq0 | refine hq (by first | exact Tt | rfl) ?_)
  have h := if_f c58 h
  refine Run.exit ?_
  refine ⟨qZT, qaT, z55, h, Weak.of _ [(0, 0), (1, 1), (2, 2), (3, 3), (4, 4)] hA (by cbv) ?_⟩
  repeat (first | exact hq0 | refine hq (by first | exact Tt | rfl) ?_)
 intro y8 y9 y10 h
 rw [h_K11] at h
 refine Run.seq ?_
 obtain ⟨⟨⟨qHe, qaZ, qbZ⟩, qWQ⟩, h_r64, h⟩ := bnd h
 refine Run.region hL hT [(3, .call [true, false] [.v (.bx 119 [.im true (eu8_c a0v_b), .s (.int .i64 qaZ), .s (.int .i64 qbZ)]), .v (.jk)] [.v (.s (.int .i64 qWQ))])] (by cbv) ?_ ?_
 · exact (hq Tt (hq (hC (qr h_r64)) (hq Tt hq0)))
 refine Run.seq ?_
 obtain ⟨⟨⟨qIe, qcZ, qdZ⟩, qeZ⟩, h_r65, h⟩ := bnd h
 refine Run.region hL hT [(5, .call [true, false] [.v (.bx 119 [.im true (eu8_c a0v_b), .s (.int .i64 qcZ), .s (.int .i64 qdZ)]), .v (.jk)] [.v (.s (.bool qeZ))])] (by cbv) ?_ ?_
 · exact (hq Tt (hq Tt (hq (fun _ => hq0) (hq (fun g67 => (hq g67 (hq (hC (qjF (gd_t h_r65 g67))) hq0))) (hq Tt (hq Tt (hq Tt (hq (fun q68 => (hq q68 hq0)) (hq (fun _ => hq0) (hq Tt hq0))))))))))
 refine Run.seq ?_
 obtain ⟨l70, h_l70, h⟩ := bnd h
 obtain ⟨⟨⟨qJe, qdT, qeT⟩, qjV⟩, h_r71, h⟩ := bnd h
 refine Run.region hL hT [(2, .call [true, false] [.v (.bx 119 [.im true (eu8_c a0v_b), .s (.int .i64 qdT), .s (.int .i64 qeT)]), .v (.jk)] [.v (.s (.int .i64 qjV))])] (by cbv) ?_ ?_
 · exact (hq (hC (AC.args (qtH h_r71) (ALe.v LLe.r (ALe.v (qab rfl (qUB (f := Int_c) h_l70 (RLe.cons rfl LLe.r (RLe.cons rfl LLe.r (RLe.cons rfl LLe.r (RLe.cons rfl LLe.r (RLe.cons rfl LLe.r (RLe.cons rfl LLe.r RLe.nil)))))))) ALe.nil)))) (hq Tt hq0))
 refine Run.row (rows := [[.s (.int .i64 0)], [.s (.int .i64 0)], [.s (.int .i64 1)], [.s (.int .i64 2)], [.s (.int .i64 3)], [.s (.int .i64 5)]]) 108193 (qB l70) (by cbv) (qUB (f := Int_c) h_l70 (RLe.cons rfl LLe.r (RLe.cons rfl LLe.r (RLe.cons rfl LLe.r (RLe.cons rfl LLe.r (RLe.cons rfl LLe.r (RLe.cons rfl LLe.r RLe.nil))))))) ?_
 obtain ⟨K76, h_K76, h⟩ := joinE h
 refine Run.join4 K76 (r := r) (fun (y72 : Int) (y73 : Int) (y74 : Bool) (y75 : List Int) => ⟨106, 100000, [(0, .pt 0 0 0), (3, .pt 1 0 0), (4, .pt 2 0 0), (5, .pt 3 0 0)], [(0, .box 119 [.t (.im true (eu8_c a0v_b)), .t (.s (.int .i64 y72)), .t (.s (.int .i64 y73))]), (1, .box 26 [.t (.im false (qB qAD))]), (2, .box 32 [.t (.s (.int .i64 0)), .t (.s (.slice none 0 0)), .t (.s (.int .i64 0)), .t (.s (.bool false)), .t (.s (.int .i64 0)), .t (.s (.slice none 0 0)), .t (.s (.bool false)), .t (.s (.int .i64 0)), .t (.s (.int .i64 0))]), (3, .box 32 [.t (.s (.int .i64 r2v_2)), .rf 4, .t (.s (.int .i64 qWQ)), .t (.s (.bool y74)), .t (.s (.int .i64 qjV)), .rf 5, .t (.s (.bool false)), .t (.s (.int .i64 0)), .t (.s (.int .i64 0))]), (4, .row 0 98 3 (qO y10)), (5, .row 0 3 1 (qB y75))]⟩) ?_ ?_
 ·
  skip
  refine Run.seq ?_
  refine Run.region hL hT [] (by cbv) hq0 ?_
  refine Run.block ?_
  refine Run.loop5 (fun (z120 : Int) (z121 : Int) (z122 : Bool) (z123 : List Int) (z124 : Int) => ⟨106, 100000, [(0, .pt 0 0 0), (3, .pt 1 0 0), (4, .pt 2 0 0), (5, .pt 3 0 0), (6, .t (.s (.int .i64 y3))), (8, .t (.s (.int .i64 z124)))], [(0, .box 119 [.t (.im true (eu8_c a0v_b)), .t (.s (.int .i64 z120)), .t (.s (.int .i64 z121))]), (1, .box 26 [.t (.im false (qB qAD))]), (2, .box 32 [.t (.s (.int .i64 0)), .t (.s (.slice none 0 0)), .t (.s (.int .i64 0)), .t (.s (.bool false)), .t (.s (.int .i64 0)), .t (.s (.slice none 0 0)), .t (.s (.bool false)), .t (.s (.int .i64 0)), .t (.s (.int .i64 0))]), (3, .box 32 [.t (.s (.int .i64 r2v_2)), .rf 4, .t (.s (.int .i64 qWQ)), .t (.s (.bool z122)), .t (.s (.int .i64 qjV)), .rf 5, .t (.s (.bool false)), .t (.s (.int .i64 0)), .t (.s (.int .i64 0))]), (4, .row 0 98 3 (qO y10)), (5, .row 0 3 1 (qB z123))]⟩) (x0 := qdT) (x1 := qeT) (x2 := (bo (cm .gtr qWQ 0) qeZ false)) (x3 := []) (x4 := 0) h ((Weak.nilB (l := [.t (.s (.int .i64 r2v_2)), .rf 4, .t (.s (.int .i64 qWQ)), .t (.s (.bool (bo (cm .gtr qWQ 0) qeZ false))), .t (.s (.int .i64 qjV))]) hT 3 5 117384 3 rfl (by cbv) (by cbv) (by cbv)).trans (Weak.of _ [(0, 0), (1, 1), (2, 2), (3, 3), (4, 4), (5, 117384)] hA (by cbv) ?_)) (fun _ _ _ _ _ => rfl) ?_
  · repeat (first | exact hq0 | refine hq (by first | exact Tt | rfl) ?_)
  intro k z120 z121 z122 z123 z124 h
  rw [qj.l1] at h
  refine Run.seq ?_
  refine Run.seq ?_
  refine Run.region hL hT [] (by cbv) ?_ ?_
  · exact (hq Tt hq0)
  refine Run.cond (by cbv) (hq0) (fun c125 => ?_) (fun c125 => ?_)
  ·
   have h := if_t c125 h
   refine Run.skip ?_
   refine Run.seq ?_
   refine Run.block ?_
   refine Run.seq ?_
   obtain ⟨⟨⟨qGd, qyL, qzL⟩, qxc⟩, qKe, h⟩ := bnd h
   refine Run.region hL hT [(1, .call [true, false] [.v (.bx 119 [.im true (eu8_c a0v_b), .s (.int .i64 qyL), .s (.int .i64 qzL)]), .v (.jk)] [.v (.s (.bool qxc))])] (by cbv) ?_ ?_
   · exact (hq (hC (qjF qKe)) hq0)
   refine Run.cond (by cbv) (hq0) (fun c127 => ?_) (fun c127 => ?_)
   ·
    have h := if_t c127 h
    obtain ⟨l128, qpb, h⟩ := bnd h
    obtain ⟨l129, qqb, h⟩ := bnd h
    refine Run.region hL hT [] (by cbv) ?_ ?_
    · exact (hq Tt (hq (qwD (P := Tryz.prog) (f := Int_c) RLe.r (qUB (f := Int_c) qpb (RLe.cons rfl LLe.r RLe.nil)) qqb) (hq Tt hq0)))
    refine Run.row (rows := (ap (qB z123) ([[.s (.int .i64 z124)]]))) 108196 (qB l129) (by cbv) (qvD (f := Int_c) RLe.r (qUB (f := Int_c) qpb (RLe.cons rfl LLe.r RLe.nil)) qqb) ?_
    refine Run.region hL hT [] (by cbv) ?_ ?_
    · exact (hq Tt hq0)
    refine ⟨qyL, qzL, z122, l129, (ar .add .i64 z124 1), h, Weak.of _ [(0, 0), (1, 1), (2, 2), (3, 3), (4, 4), (5, 108196)] hA (by cbv) ?_⟩
    repeat (first | exact hq0 | refine hq (by first | exact Tt | rfl) ?_)
   have h := if_f c127 h
   refine Run.skip ?_
   refine Run.region hL hT [] (by cbv) ?_ ?_
   · exact (hq Tt hq0)
   refine ⟨qyL, qzL, z122, z123, (ar .add .i64 z124 1), h, Weak.of _ [(0, 0), (1, 1), (2, 2), (3, 3), (4, 4), (5, 5)] hA (by cbv) ?_⟩
   repeat (first | exact hq0 | refine hq (by first | exact Tt | rfl) ?_)
  have h := if_f c125 h
  refine Run.exit ?_
  refine ⟨z120, z121, z122, z123, h, Weak.of _ [(0, 0), (1, 1), (2, 2), (3, 3), (4, 4), (5, 5)] hA (by cbv) ?_⟩
  repeat (first | exact hq0 | refine hq (by first | exact Tt | rfl) ?_)
 intro y72 y73 y74 y75 h
 rw [h_K76] at h
 refine Run.seq ?_
 refine Run.seq ?_
 obtain ⟨⟨⟨qHd, qzW, qAX⟩, qyc⟩, qEZ, h⟩ := bnd h
 refine Run.region hL hT [(1, .call [true, false] [.v (.bx 119 [.im true (eu8_c a0v_b), .s (.int .i64 qzW), .s (.int .i64 qAX)]), .v (.jk)] [.v (.s (.bool qyc))])] (by cbv) ?_ ?_
 · exact (hq (hC (qjF qEZ)) hq0)
 refine Run.cond (by cbv) (hq0) (fun c131 => ?_) (fun c131 => ?_)
 ·
  have h := if_t c131 h
  refine Run.seq ?_
  refine Run.region hL hT [] (by cbv) ?_ ?_
  · exact (hq Tt hq0)
  refine Run.seq ?_
  obtain ⟨r132, qLe, h⟩ := bnd h
  obtain ⟨⟨⟨qId, qBX, qCX⟩, qzc⟩, qMe, h⟩ := bnd h
  refine Run.region hL hT [(4, .call [false, false] [.v (.jk), .v (.jk)] [.v (.s (.int .i64 r132))]), (5, .call [true, false] [.v (.bx 119 [.im true (eu8_c a0v_b), .s (.int .i64 qBX), .s (.int .i64 qCX)]), .v (.jk)] [.v (.s (.int .i64 qzc))])] (by cbv) ?_ ?_
  · exact (hq Tt (hq (by rw [show ln (qB qAD) = qQ qAD from ln_eq Int_c _]; exact (hC (qTF qLe))) (hq (hC (qr qMe)) (hq Tt hq0))))
  rw [show ln (qB qAD) = qQ qAD from ln_eq Int_c _]
  refine Run.seq ?_
  refine Run.region hL hT [] (by cbv) ?_ ?_
  · exact (hq Tt (hq Tt (hq Tt hq0)))
  rw [show ln (qB qAD) = qQ qAD from ln_eq Int_c _]
  refine Run.cond (by cbv) (hq0) (fun c134 => ?_) (fun c134 => ?_)
  ·
   have h := if_t c134 h
   obtain ⟨x135, qfZ, h⟩ := bnd h
   obtain ⟨r136, qNe, h⟩ := bnd h
   obtain ⟨⟨⟨qJd, qDX, qEX⟩, qAd⟩, qOe, h⟩ := bnd h
   refine Run.region hL hT [(5, .el [.s (.int .i64 x135)]), (7, .call [false, false] [.v (.jk), .v (.jk)] [.v (.s (.int .i64 r136))]), (8, .call [true, false] [.v (.bx 119 [.im true (eu8_c a0v_b), .s (.int .i64 qDX), .s (.int .i64 qEX)]), .v (.jk)] [.v (.s (.int .i64 qAd))])] (by cbv) ?_ ?_
   · exact (hq Tt (hq Tt (hq (qS qfZ) (hq (ql (f := Int_c) qfZ) (hq (qt (f := Int_c) qfZ) (hq (hC (qTF qNe)) (hq (hC (qr qOe)) (hq Tt hq0))))))))
   refine Run.seq ?_
   refine Run.region hL hT [] (by cbv) ?_ ?_
   · exact (hq Tt (hq Tt hq0))
   refine Run.ret ?_
   cases h
   refine ⟨_, _, by cbv, ?_, ?_⟩
   · exact LLe.r
   exact (ALe.ag rfl LLe.r ALe.nil)
  have h := if_f c134 h
  refine Run.skip ?_
  refine Run.seq ?_
  refine Run.region hL hT [] (by cbv) ?_ ?_
  · exact (hq Tt (hq Tt hq0))
  refine Run.ret ?_
  cases h
  refine ⟨_, _, by cbv, ?_, ?_⟩
  · exact LLe.r
  exact (ALe.ag rfl LLe.r ALe.nil)
 have h := if_f c131 h
 refine Run.skip ?_
 refine Run.seq ?_
 refine Run.region hL hT [] (by cbv) ?_ ?_
 · exact (hq Tt (hq Tt hq0))
 refine Run.ret ?_
 cases h
 refine ⟨_, _, by cbv, ?_, ?_⟩
 · exact LLe.r
 exact (ALe.ag rfl LLe.r ALe.nil)
theorem qAM {a0v_b : List Int} {a0v_i : Int} {a0v_h : Int} {qOE : List Int} {qZK : Int} {qPC : List (List Row)} {r : l1Cur × Mut} (h : qrE.f (l1Cur.mk a0v_b a0v_i a0v_h) (Store.mk (Schema.mk qOE) qZK qPC) = some r) : AC Tryz.prog 40 [.v (.bx 119 [.im true (rowsOf u8_c a0v_b), .s (.int .i64 a0v_i), .s (.int .i64 a0v_h)]), .ag [.im false (rowsOf Int_c qOE), .s (.int .i64 qZK), .im false (rowsOf qZB qPC)]] [.v (.bx 119 [.im true (rowsOf u8_c a0v_b), .s (.int .i64 r.1.i), .s (.int .i64 r.1.h)]), .ag [.jk, .jk, .jk]] [.ag [.s (.int .i64 r.2.Kind), .s (.int .i64 r.2.Table), .s (.int .i64 r.2.Row.Id), .ow 3 (rowsOf Int_c r.2.Row.Cells)]] := by
 unfold qrE.f at h
 let qB := rowsOf Int_c
 let qMB := rowsOf qZB
 let qAB := rowsOf Row_i
 let eu8_c := rowsOf u8_c
 let qQ := @lenI Int
 let qm := @lenI Row
 let qRC := @lenI (List Row)
 show AC Tryz.prog 40 [.v (.bx 119 [.im true (eu8_c a0v_b), .s (.int .i64 a0v_i), .s (.int .i64 a0v_h)]), .ag [.im false (qB qOE), .s (.int .i64 qZK), .im false (qMB qPC)]] _ _
 refine run3 Tryz.func40 (by rfl) (by rfl) (by cbv) ⟨by decide, rfl⟩ ?_
 intro ar cm bo sc sa sx ss sl bs sb ln sr ap up rp fr ge le lt nz mm ma sm fl al ci hL F hP hA hT hM hC
 refine Run.seq ?_
 refine Run.region hL hT [] (by cbv) hq0 ?_
 refine Run.seq ?_
 obtain ⟨r1, h_r1, h⟩ := bnd h
 obtain ⟨⟨⟨qiV, qQI, qRI⟩, r2v_2⟩, h_r2, h⟩ := bnd h
 refine Run.region hL hT [(4, .call [false, false] [.v (.jk), .v (.jk)] [.v (.s (.int .i64 r1))]), (5, .call [true, false] [.v (.bx 119 [.im true (eu8_c a0v_b), .s (.int .i64 qQI), .s (.int .i64 qRI)]), .v (.jk)] [.v (.s (.int .i64 r2v_2))])] (by cbv) ?_ ?_
 · exact (hq Tt (hq (by rw [show ln (qMB qPC) = qRC qPC from ln_eq qZB _]; exact (hC (qTF h_r1))) (hq (hC (qr h_r2)) hq0)))
 rw [show ln (qMB qPC) = qRC qPC from ln_eq qZB _]
 refine Run.seq ?_
 refine Run.seq ?_
 refine Run.region hL hT [] (by cbv) ?_ ?_
 · exact (hq Tt (hq Tt (hq (fun _ => hq0) (hq (fun _ => hq0) (hq (fun g5 => (by have g5C := g5; rw [show ln (qMB qPC) = qRC qPC from ln_eq qZB _] at g5C; exact (hq g5 hq0))) (hq (fun g6 => (by have g6C := g6; rw [show ln (qMB qPC) = qRC qPC from ln_eq qZB _] at g6C; exact (hq g6 (hq Tt hq0)))) (hq (fun g7 => (by have g7C := g7; rw [show ln (qMB qPC) = qRC qPC from ln_eq qZB _] at g7C; exact (hq g7 hq0))) (hq (fun g8 => (by have g8C := g8; rw [show ln (qMB qPC) = qRC qPC from ln_eq qZB _] at g8C; exact (hq g8 (hq g8 (hq Tt hq0))))) (hq (fun _ => hq0) (hq (fun q10 => (by have q10C := q10; rw [show ln (qMB qPC) = qRC qPC from ln_eq qZB _] at q10C; exact (hq (bo_m q10) hq0))) hq0))))))))))
 rw [show ln (qB qOE) = qQ qOE from ln_eq Int_c _]
 rw [show ln (qMB qPC) = qRC qPC from ln_eq qZB _]
 refine Run.cond (by cbv) (hq0) (fun c11 => ?_) (fun c11 => ?_)
 ·
  have h := if_t c11 h
  refine Run.seq ?_
  refine Run.region hL hT [] (by cbv) ?_ ?_
  · exact (hq Tt hq0)
  refine Run.ret ?_
  cases h
  refine ⟨_, _, by cbv, ?_, ?_⟩
  · exact LLe.r
  exact (ALe.ag rfl (LLe.c (LLe.c (LLe.c (LLe.cons LLe.nilO LLe.nil)))) ALe.nil)
 have h := if_f c11 h
 refine Run.skip ?_
 refine Run.seq ?_
 obtain ⟨⟨⟨qPe, qgZ, qhZ⟩, qfT⟩, h_r12, h⟩ := bnd h
 obtain ⟨x13, h_x13, h⟩ := bnd h
 obtain ⟨⟨⟨qOZ, qHL, qIL⟩, ⟨qXQ, qSI⟩⟩, h_r14, h⟩ := bnd h
 refine Run.draw hL hT hM [(1, .call [true, false] [.v (.bx 119 [.im true (eu8_c a0v_b), .s (.int .i64 qgZ), .s (.int .i64 qhZ)]), .v (.jk)] [.v (.s (.int .i64 qfT))]), (9, .el [.s (.int .i64 x13)]), (11, .call [true, false] [.v (.bx 119 [.im true (eu8_c a0v_b), .s (.int .i64 qHL), .s (.int .i64 qIL)]), .v (.jk)] [.ag [.s (.int .i64 qXQ), .ow 3 (qB qSI)]])] (by cbv) (by cbv) (by cbv) (by cbv) (by cbv) ?_ ?_
 · exact (hq (hC (qr h_r12)) (hq Tt (hq Tt (hq (qS h_x13) (hq (ql (f := Int_c) h_x13) (hq (qt (f := Int_c) h_x13) (hq (hC (qsH h_r14)) (hq Tt hq0))))))))
 obtain ⟨K19, h_K19, h⟩ := joinE h
 refine Run.join4 K19 (r := r) (fun (y15 : Int) (y16 : Int) (y17 : Int) (y18 : Int) => ⟨102, 100000, [(0, .pt 0 0 0), (4, .pt 1 0 0), (6, .pt 2 0 0)], [(0, .box 119 [.t (.im true (eu8_c a0v_b)), .t (.s (.int .i64 y15)), .t (.s (.int .i64 y16))]), (1, .box 79 [.t (.s (.int .i64 0)), .t (.s (.int .i64 0)), .t (.s (.int .i64 0)), .t (.s (.slice none 0 0))]), (2, .box 79 [.t (.s (.int .i64 y17)), .t (.s (.int .i64 r2v_2)), .t (.s (.int .i64 y18)), .rf 3]), (3, .row 0 3 1 (qB qSI))]⟩) ?_ ?_
 ·
  skip
  refine Run.seq ?_
  obtain ⟨x20, h_x20, h⟩ := bnd h
  obtain ⟨⟨⟨qTZ, qFJ, qGJ⟩, qhV⟩, h_r21, h⟩ := bnd h
  refine Run.region hL hT [(7, .el [.im false (qAB x20)]), (14, .call [true, false] [.v (.bx 119 [.im true (eu8_c a0v_b), .s (.int .i64 qFJ), .s (.int .i64 qGJ)]), .v (.jk)] [.v (.s (.bool qhV))])] (by cbv) ?_ ?_
  · exact (hq Tt (hq Tt (hq (fun _ => hq0) (hq (fun g23 => (hq g23 (hq Tt hq0))) (hq (fun _ => hq0) (hq (fun g25 => (hq g25 (hq g25 (hq (qS (gd_t h_x20 g25)) (hq (ql (f := qZB) (gd_t h_x20 g25)) (hq (qt (f := qZB) (gd_t h_x20 g25)) hq0)))))) (hq (fun g26 => (hq g26 hq0)) (hq (fun g27 => (hq g27 hq0)) (hq (fun g28 => (hq g28 (hq Tt hq0))) (hq (fun q29 => (hq q29 hq0)) (hq (fun _ => hq0) (hq (fun _ => hq0) (hq (fun g32 => (by have g32C := g32; rw [show ln (qAB x20) = qm x20 from ln_eq Row_i _] at g32C; exact (hq g32 (hq (hC (qjF (gd_t h_r21 g32C))) hq0)))) (hq Tt (hq Tt (hq Tt (hq (fun g33 => (by have g33C := g33; rw [show ln (qAB x20) = qm x20 from ln_eq Row_i _] at g33C; exact (hq g33 hq0))) (hq (fun q34 => (by have q34C := q34; rw [show ln (qAB x20) = qm x20 from ln_eq Row_i _] at q34C; exact (hq q34 hq0))) (hq (fun _ => hq0) hq0)))))))))))))))))))
  rw [show ln (qAB x20) = qm x20 from ln_eq Row_i _]
  refine Run.cond (by cbv) (hq0) (fun c36 => ?_) (fun c36 => ?_)
  ·
   have h := if_t c36 h
   obtain ⟨x37, h_x37, h⟩ := bnd h
   obtain ⟨⟨⟨qQe, qgT, qhT⟩, qRe⟩, h_r38, h⟩ := bnd h
   obtain ⟨⟨qiZ, qFX⟩, h_x39, h⟩ := bnd h
   refine Run.draw hL hT hM [(3, .el [.im false (qAB x37)]), (9, .el [.im false (qAB x37)]), (12, .call [true, false] [.v (.bx 119 [.im true (eu8_c a0v_b), .s (.int .i64 qgT), .s (.int .i64 qhT)]), .v (.jk)] [.v (.s (.int .i64 qRe))]), (13, .el [.s (.int .i64 qiZ), .im false (qB qFX)])] (by cbv) (by cbv) (by cbv) (by cbv) (by cbv) ?_ ?_
   · exact (hq Tt (hq (qS h_x37) (hq (ql (f := qZB) h_x37) (hq (qt (f := qZB) h_x37) (hq Tt (hq (qS h_x37) (hq (ql (f := qZB) h_x37) (hq (qt (f := qZB) h_x37) (hq (by rw [show ln (qAB x37) = qm x37 from ln_eq Row_i _]; exact (hC (qr h_r38))) (hq (qS h_x39) (hq (ql (f := Row_i) h_x39) (hq (qt (f := Row_i) h_x39) (hq Tt hq0)))))))))))))
   rw [show ln (qAB x37) = qm x37 from ln_eq Row_i _]
   refine ⟨qgT, qhT, (ar .add .i64 1 qfT), qiZ, h, Weak.of _ [(0, 0), (1, 2), (2, 12302), (3, 12300)] hA (by cbv) ?_⟩
   repeat (first | exact hq0 | refine hq (by first | exact Tt | rfl) ?_)
  have h := if_f c36 h
  refine Run.skip ?_
  refine ⟨(ci (bo (cm .neq (ar .add .i64 1 qfT) 1) (cm .gtr (qm x20) 0) false) qFJ qHL), (ci (bo (cm .neq (ar .add .i64 1 qfT) 1) (cm .gtr (qm x20) 0) false) qGJ qIL), (ar .add .i64 1 qfT), qXQ, h, Weak.of _ [(0, 0), (1, 2), (2, 12302), (3, 12300)] hA (by cbv) ?_⟩
  repeat (first | exact hq0 | refine hq (by first | exact Tt | rfl) ?_)
 intro y15 y16 y17 y18 h
 rw [h_K19] at h
 obtain ⟨K41, h_K41, h⟩ := joinE h
 refine Run.join1 K41 (r := r) (fun (y40 : List Int) => ⟨102, 100000, [(0, .pt 0 0 0), (4, .pt 1 0 0), (6, .pt 2 0 0)], [(0, .box 119 [.t (.im true (eu8_c a0v_b)), .t (.s (.int .i64 y15)), .t (.s (.int .i64 y16))]), (1, .box 79 [.t (.s (.int .i64 0)), .t (.s (.int .i64 0)), .t (.s (.int .i64 0)), .t (.s (.slice none 0 0))]), (2, .box 79 [.t (.s (.int .i64 y17)), .t (.s (.int .i64 r2v_2)), .t (.s (.int .i64 y18)), .rf 3]), (3, .row 0 3 1 (qB y40))]⟩) ?_ ?_
 ·
  skip
  refine Run.seq ?_
  refine Run.region hL hT [] (by cbv) ?_ ?_
  · exact (hq Tt (hq Tt hq0))
  refine Run.cond (by cbv) (hq0) (fun c42 => ?_) (fun c42 => ?_)
  ·
   have h := if_t c42 h
   refine Run.region hL hT [] (by cbv) ?_ ?_
   · exact (hq Tt hq0)
   refine ⟨[], h, (Weak.nilB (l := [.t (.s (.int .i64 y17)), .t (.s (.int .i64 r2v_2)), .t (.s (.int .i64 y18))]) hT 2 3 109192 3 rfl (by cbv) (by cbv) (by cbv)).trans (Weak.of _ [(0, 0), (1, 1), (2, 2), (3, 109192)] hA (by cbv) ?_)⟩
   repeat (first | exact hq0 | refine hq (by first | exact Tt | rfl) ?_)
  have h := if_f c42 h
  refine Run.skip ?_
  refine ⟨qSI, h, Weak.of _ [(0, 0), (1, 1), (2, 2), (3, 3)] hA (by cbv) ?_⟩
  repeat (first | exact hq0 | refine hq (by first | exact Tt | rfl) ?_)
 intro y40 h
 rw [h_K41] at h
 refine Run.seq ?_
 refine Run.seq ?_
 obtain ⟨⟨⟨qSe, qjZ, qkZ⟩, qTe⟩, h_r43, h⟩ := bnd h
 refine Run.region hL hT [(1, .call [true, false] [.v (.bx 119 [.im true (eu8_c a0v_b), .s (.int .i64 qjZ), .s (.int .i64 qkZ)]), .v (.jk)] [.v (.s (.int .i64 qTe))])] (by cbv) ?_ ?_
 · exact (hq (hC (qr h_r43)) hq0)
 refine Run.block ?_
 refine Run.seq ?_
 refine Run.region hL hT [] (by cbv) ?_ ?_
 · exact (hq Tt hq0)
 refine Run.cond (by cbv) (hq0) (fun c44 => ?_) (fun c44 => ?_)
 ·
  have h := if_t c44 h
  obtain ⟨⟨⟨qUe, qlZ, qmZ⟩, qVe⟩, h_r45, h⟩ := bnd h
  refine Run.region hL hT [(1, .call [true, false] [.v (.bx 119 [.im true (eu8_c a0v_b), .s (.int .i64 qlZ), .s (.int .i64 qmZ)]), .v (.jk)] [.v (.s (.int .i64 qVe))])] (by cbv) ?_ ?_
  · exact (hq (hC (qr h_r45)) (hq Tt hq0))
  refine Run.seq ?_
  refine Run.region hL hT [] (by cbv) ?_ ?_
  · exact (hq Tt (hq Tt hq0))
  refine Run.ret ?_
  cases h
  refine ⟨_, _, by cbv, ?_, ?_⟩
  · exact LLe.r
  exact (ALe.ag rfl LLe.r ALe.nil)
 have h := if_f c44 h
 refine Run.seq ?_
 refine Run.region hL hT [] (by cbv) ?_ ?_
 · exact (hq Tt hq0)
 refine Run.cond (by cbv) (hq0) (fun c46 => ?_) (fun c46 => ?_)
 ·
  have h := if_t c46 h
  obtain ⟨⟨⟨qWe, qnZ, qoZ⟩, qXe⟩, h_r47, h⟩ := bnd h
  refine Run.region hL hT [(1, .call [true, false] [.v (.bx 119 [.im true (eu8_c a0v_b), .s (.int .i64 qnZ), .s (.int .i64 qoZ)]), .v (.jk)] [.v (.s (.int .i64 qXe))])] (by cbv) ?_ ?_
  · exact (hq (hC (qr h_r47)) (hq Tt (hq Tt hq0)))
  refine Run.seq ?_
  refine Run.region hL hT [] (by cbv) ?_ ?_
  · exact (hq Tt (hq Tt hq0))
  refine Run.ret ?_
  cases h
  refine ⟨_, _, by cbv, ?_, ?_⟩
  · exact LLe.r
  exact (ALe.ag rfl LLe.r ALe.nil)
 have h := if_f c46 h
 refine Run.seq ?_
 refine Run.region hL hT [] (by cbv) ?_ ?_
 · exact (hq Tt hq0)
 refine Run.cond (by cbv) (hq0) (fun c48 => ?_) (fun c48 => ?_)
 ·
  have h := if_t c48 h
  obtain ⟨l49, h_l49, h⟩ := bnd h
  obtain ⟨⟨⟨qYe, qpZ, qqZ⟩, qZe⟩, h_r50, h⟩ := bnd h
  refine Run.region hL hT [(2, .call [true, false] [.v (.bx 119 [.im true (eu8_c a0v_b), .s (.int .i64 qpZ), .s (.int .i64 qqZ)]), .v (.jk)] [.v (.s (.int .i64 qZe))])] (by cbv) ?_ ?_
  · exact (hq (hC (AC.args (qtH h_r50) (ALe.v LLe.r (ALe.v (qab rfl (qUB (f := Int_c) h_l49 (RLe.cons rfl LLe.r (RLe.cons rfl LLe.r (RLe.cons rfl LLe.r RLe.nil))))) ALe.nil)))) (hq Tt hq0))
  refine Run.row (rows := [[.s (.int .i64 0)], [.s (.int .i64 999)], [.s (.int .i64 1000)]]) 116385 (qB l49) (by cbv) (qUB (f := Int_c) h_l49 (RLe.cons rfl LLe.r (RLe.cons rfl LLe.r (RLe.cons rfl LLe.r RLe.nil)))) ?_
  refine Run.seq ?_
  refine Run.region hL hT [] (by cbv) ?_ ?_
  · exact (hq Tt (hq Tt hq0))
  refine Run.ret ?_
  cases h
  refine ⟨_, _, by cbv, ?_, ?_⟩
  · exact LLe.r
  exact (ALe.ag rfl LLe.r ALe.nil)
 have h := if_f c48 h
 refine Run.skip ?_
 refine Run.seq ?_
 refine Run.region hL hT [] (by cbv) ?_ ?_
 · exact (hq Tt (hq Tt hq0))
 refine Run.ret ?_
 cases h
 refine ⟨_, _, by cbv, ?_, ?_⟩
 · exact LLe.r
 exact (ALe.ag rfl LLe.r ALe.nil)
theorem qLL {qK : List Int} {a1 : Int} {qKH : Int} {qhB : List Int} {r : Bool} (h : qRD.f (Schema.mk qK) a1 (Row.mk qKH qhB) = some r) : AC Tryz.prog 85 [.ag [.im false (rowsOf Int_c qK)], .v (.s (.int .i64 a1)), .ag [.s (.int .i64 qKH), .im false (rowsOf Int_c qhB)]] [.ag [.jk], .v (.jk), .ag [.jk, .jk]] [.v (.s (.bool r))] := by
 unfold qRD.f at h
 let qB := rowsOf Int_c
 let qQ := @lenI Int
 show AC Tryz.prog 85 [.ag [.im false (qB qK)], .v (.s (.int .i64 a1)), .ag [.s (.int .i64 qKH), .im false (qB qhB)]] _ _
 refine run3 Tryz.func85 (by rfl) (by rfl) (by cbv) ⟨by decide, rfl⟩ ?_
 intro ar cm bo sc sa sx ss sl bs sb ln sr ap up rp fr ge le lt nz mm ma sm fl al ci hL F hP hA hT hM hC
 refine Run.seq ?_
 refine Run.region hL hT [] (by cbv) hq0 ?_
 refine Run.seq ?_
 refine Run.seq ?_
 obtain ⟨r1, h_r1, h⟩ := bnd h
 obtain ⟨r2, h_r2, h⟩ := bnd h
 obtain ⟨r3, h_r3, h⟩ := bnd h
 obtain ⟨x4, h_x4, h⟩ := bnd h
 refine Run.draw hL hT hM [(1, .call [false] [.ag [.jk]] [.v (.s (.bool r1))]), (9, .call [false, false, false] [.v (.jk), .v (.jk), .v (.jk)] [.v (.s (.bool r2))]), (15, .call [false, false, false] [.v (.jk), .v (.jk), .v (.jk)] [.v (.s (.bool r3))]), (25, .el [.s (.int .i64 x4)])] (by cbv) (by cbv) (by cbv) (by cbv) (by cbv) ?_ ?_
 · exact (hq Tt (hq (hC (qNE h_r1)) (hq (fun _ => hq0) (hq (fun _ => hq0) (hq (fun g7 => (hq g7 (hq Tt hq0))) (hq (fun g8 => (hq g8 hq0)) (hq (fun g9 => (hq g9 (hq Tt hq0))) (hq (fun g10 => (hq g10 (hq g10 (hq (by rw [show ln (qB qK) = qQ qK from ln_eq Int_c _]; exact (hC (qcC (gd_t h_r2 g10)))) hq0)))) (hq (fun g11 => (hq g11 hq0)) (hq (fun _ => hq0) (hq (fun q13 => (hq (bo_m q13) hq0)) (hq (fun _ => hq0) (hq (fun g15 => (hq g15 (hq Tt hq0))) (hq (fun g16 => (hq g16 (hq (hC (qcC (gd_t h_r3 g16))) hq0))) (hq (fun g17 => (hq g17 hq0)) (hq (fun _ => hq0) (hq (fun q19 => (hq (bo_m q19) hq0)) (hq (fun _ => hq0) (hq (fun g21 => (hq g21 (hq Tt hq0))) (hq (fun g22 => (hq g22 hq0)) (hq (fun _ => hq0) (hq (fun g24 => (hq g24 (hq Tt hq0))) (hq (fun _ => hq0) (hq (fun g26 => (hq g26 (hq g26 (hq (qS (gd_t h_x4 g26)) (hq (ql (f := Int_c) (gd_t h_x4 g26)) (hq (qt (f := Int_c) (gd_t h_x4 g26)) hq0)))))) (hq (fun g27 => (hq g27 hq0)) (hq (fun g28 => (hq g28 (hq g28 (hq Tt hq0)))) (hq (fun _ => hq0) (hq (fun q30 => (hq (bo_m q30) hq0)) hq0))))))))))))))))))))))))))))
 rw [show ln (qB qK) = qQ qK from ln_eq Int_c _]
 rw [show ln (qB qhB) = qQ qhB from ln_eq Int_c _]
 refine Run.cond (by cbv) (hq0) (fun c31 => ?_) (fun c31 => ?_)
 ·
  have h := if_t c31 h
  refine Run.seq ?_
  refine Run.region hL hT [] (by cbv) hq0 ?_
  refine Run.ret ?_
  cases h
  refine ⟨_, _, by cbv, ?_, ?_⟩
  · exact LLe.r
  exact (ALe.v LLe.r ALe.nil)
 have h := if_f c31 h
 refine Run.skip ?_
 refine Run.seq ?_
 refine Run.seq ?_
 refine Run.region hL hT [] (by cbv) hq0 ?_
 refine Run.block ?_
 refine Run.loop1 (fun (z35 : Int) => ⟨51, 100000, [(5, .pt 1 0 0), (7, .t (.s (.int .i64 z35)))], [(1, .box 56 [.t (.s (.int .i64 qKH)), .t (.im false (qB qhB))])]⟩) (x0 := 0) h (Weak.of _ [(1, 1)] hA (by cbv) ?_) (fun _ => rfl) ?_
 · repeat (first | exact hq0 | refine hq (by first | exact Tt | rfl) ?_)
 intro k z35 h
 rw [qRD.l0] at h
 refine Run.seq ?_
 refine Run.seq ?_
 refine Run.region hL hT [] (by cbv) ?_ ?_
 · exact (hq Tt (hq Tt hq0))
 rw [show ln (qB qhB) = qQ qhB from ln_eq Int_c _]
 refine Run.cond (by cbv) (hq0) (fun c36 => ?_) (fun c36 => ?_)
 ·
  have h := if_t c36 h
  refine Run.skip ?_
  refine Run.seq ?_
  refine Run.block ?_
  refine Run.seq ?_
  obtain ⟨x37, h_x37, h⟩ := bnd h
  obtain ⟨r38, h_r38, h⟩ := bnd h
  refine Run.region hL hT [(3, .el [.s (.int .i64 x37)]), (5, .call [false, false, false] [.v (.jk), .v (.jk), .v (.jk)] [.v (.s (.bool r38))])] (by cbv) ?_ ?_
  · exact (hq Tt (hq (qS h_x37) (hq (ql (f := Int_c) h_x37) (hq (qt (f := Int_c) h_x37) (hq (hC (qcC h_r38)) hq0)))))
  refine Run.cond (by cbv) (hq0) (fun c39 => ?_) (fun c39 => ?_)
  ·
   have h := if_t c39 h
   refine Run.seq ?_
   refine Run.region hL hT [] (by cbv) hq0 ?_
   refine Run.ret ?_
   cases h
   refine ⟨_, _, by cbv, ?_, ?_⟩
   · exact LLe.r
   exact (ALe.v LLe.r ALe.nil)
  have h := if_f c39 h
  refine Run.skip ?_
  refine Run.region hL hT [] (by cbv) ?_ ?_
  · exact (hq Tt hq0)
  refine ⟨(ar .add .i64 z35 1), h, Weak.of _ [(1, 1)] hA (by cbv) ?_⟩
  repeat (first | exact hq0 | refine hq (by first | exact Tt | rfl) ?_)
 have h := if_f c36 h
 refine Run.exit ?_
 refine Run.seq ?_
 refine Run.region hL hT [] (by cbv) hq0 ?_
 refine Run.ret ?_
 cases h
 refine ⟨_, _, by cbv, ?_, ?_⟩
 · exact LLe.r
 exact (ALe.v LLe.r ALe.nil)
theorem qWP {qK : List Int} {a1 : Int} {a2 : List Row} {r : Bool} (h : qDD.f (Schema.mk qK) a1 a2 = some r) : AC Tryz.prog 65 [.ag [.im false (rowsOf Int_c qK)], .v (.s (.int .i64 a1)), .v (.im false (rowsOf Row_i a2))] [.ag [.jk], .v (.jk), .v (.jk)] [.v (.s (.bool r))] := by
 unfold qDD.f at h
 let qB := rowsOf Int_c
 let qAB := rowsOf Row_i
 let qQ := @lenI Int
 let qm := @lenI Row
 show AC Tryz.prog 65 [.ag [.im false (qB qK)], .v (.s (.int .i64 a1)), .v (.im false (qAB a2))] _ _
 refine run3 Tryz.func65 (by rfl) (by rfl) (by cbv) ⟨by decide, rfl⟩ ?_
 intro ar cm bo sc sa sx ss sl bs sb ln sr ap up rp fr ge le lt nz mm ma sm fl al ci hL F hP hA hT hM hC
 refine Run.seq ?_
 refine Run.region hL hT [] (by cbv) hq0 ?_
 obtain ⟨K2, h_K2, h⟩ := joinE h
 refine Run.join1 K2 (r := r) (fun (y1 : Unit) => ⟨55, 100000, [(1, .t (.s (.int .i64 a1))), (2, .t (.im false (qAB a2))), (3, .pt 1 0 0)], [(1, .box 26 [.t (.im false (qB qK))])]⟩) ?_ ?_
 ·
  skip
  refine Run.seq ?_
  refine Run.region hL hT [] (by cbv) hq0 ?_
  refine Run.block ?_
  refine Run.loop1 (fun (z7 : Int) => ⟨55, 100000, [(1, .t (.s (.int .i64 a1))), (2, .t (.im false (qAB a2))), (3, .pt 1 0 0), (7, .t (.s (.int .i64 z7)))], [(1, .box 26 [.t (.im false (qB qK))])]⟩) (x0 := 0) h (Weak.of _ [(1, 0)] hA (by cbv) ?_) (fun _ => rfl) ?_
  · repeat (first | exact hq0 | refine hq (by first | exact Tt | rfl) ?_)
  intro k z7 h
  rw [qDD.l0] at h
  refine Run.seq ?_
  refine Run.seq ?_
  refine Run.region hL hT [] (by cbv) ?_ ?_
  · exact (hq Tt hq0)
  rw [show ln (qAB a2) = qm a2 from ln_eq Row_i _]
  refine Run.cond (by cbv) (hq0) (fun c8 => ?_) (fun c8 => ?_)
  ·
   have h := if_t c8 h
   refine Run.skip ?_
   refine Run.seq ?_
   refine Run.block ?_
   refine Run.seq ?_
   obtain ⟨⟨qOT, qDJ⟩, h_x9, h⟩ := bnd h
   obtain ⟨r10, h_r10, h⟩ := bnd h
   obtain ⟨⟨qjU, qpL⟩, h_x11, h⟩ := bnd h
   refine Run.draw hL hT hM [(4, .el [.s (.int .i64 qOT), .im false (qB qDJ)]), (6, .call [false, false, false] [.ag [.jk], .v (.jk), .ag [.jk, .jk]] [.v (.s (.bool r10))]), (15, .el [.s (.int .i64 qjU), .im false (qB qpL)]), (20, .el [.s (.int .i64 qOT), .im false (qB qDJ)])] (by cbv) (by cbv) (by cbv) (by cbv) (by cbv) ?_ ?_
   · exact (hq Tt (hq (qS h_x9) (hq (ql (f := Row_i) h_x9) (hq (qt (f := Row_i) h_x9) (hq (hC (qLL h_r10)) (hq (fun _ => hq0) (hq (fun g13 => (hq g13 (hq Tt hq0))) (hq (fun g14 => (hq g14 hq0)) (hq (fun _ => hq0) (hq (fun _ => hq0) (hq (fun g17 => (hq g17 (hq Tt hq0))) (hq (fun g18 => (hq g18 (hq g18 (hq (qS (gd_t h_x11 g18)) (hq (ql (f := Row_i) (gd_t h_x11 g18)) (hq (qt (f := Row_i) (gd_t h_x11 g18)) hq0)))))) (hq (fun g19 => (hq g19 hq0)) (hq (fun g20 => (hq g20 hq0)) (hq (fun _ => hq0) (hq (fun _ => hq0) (hq (fun g23 => (hq g23 (hq g23 (hq (qS h_x9) (hq (ql (f := Row_i) h_x9) (hq (qt (f := Row_i) h_x9) hq0)))))) (hq (fun g24 => (hq g24 hq0)) (hq (fun g25 => (hq g25 hq0)) (hq (fun g26 => (hq g26 (hq g26 (hq Tt hq0)))) (hq (fun g27 => (hq g27 (hq (fun q28 => (hq (bo_a g27 q28) hq0)) (hq (fun _ => hq0) hq0)))) (hq (fun _ => hq0) (hq (fun q31 => (hq (bo_m q31) hq0)) hq0)))))))))))))))))))))))
   refine Run.cond (by cbv) (hq0) (fun c32 => ?_) (fun c32 => ?_)
   ·
    have h := if_t c32 h
    refine Run.seq ?_
    refine Run.region hL hT [] (by cbv) hq0 ?_
    refine Run.ret ?_
    cases h
    refine ⟨_, _, by cbv, ?_, ?_⟩
    · exact LLe.r
    exact (ALe.v LLe.r ALe.nil)
   have h := if_f c32 h
   refine Run.skip ?_
   refine Run.region hL hT [] (by cbv) ?_ ?_
   · exact (hq Tt hq0)
   refine ⟨(ar .add .i64 z7 1), h, Weak.of _ [(1, 1)] hA (by cbv) ?_⟩
   repeat (first | exact hq0 | refine hq (by first | exact Tt | rfl) ?_)
  have h := if_f c8 h
  refine Run.exit ?_
  refine ⟨(), h, Weak.of _ [(1, 1)] hA (by cbv) ?_⟩
  repeat (first | exact hq0 | refine hq (by first | exact Tt | rfl) ?_)
 intro y1 h
 rw [h_K2] at h
 refine Run.seq ?_
 obtain ⟨r33, h_r33, h⟩ := bnd h
 obtain ⟨r34, h_r34, h⟩ := bnd h
 refine Run.region hL hT [(1, .call [false] [.ag [.jk]] [.v (.s (.bool r33))]), (8, .call [false, false, false] [.v (.jk), .v (.jk), .v (.jk)] [.v (.s (.bool r34))])] (by cbv) ?_ ?_
 · exact (hq Tt (hq (hC (qNE h_r33)) (hq (fun _ => hq0) (hq (fun _ => hq0) (hq (fun g37 => (hq g37 (hq Tt hq0))) (hq (fun g38 => (hq g38 hq0)) (hq (fun g39 => (hq g39 (hq Tt hq0))) (hq (fun g40 => (hq g40 (hq g40 (hq (by rw [show ln (qB qK) = qQ qK from ln_eq Int_c _]; exact (hC (qcC (gd_t h_r34 g40)))) hq0)))) (hq (fun q41 => (hq q41 hq0)) (hq (fun _ => hq0) (hq (fun _ => hq0) (hq (fun g44 => (hq g44 hq0)) (hq (fun g45 => (hq g45 (hq Tt hq0))) (hq (fun q46 => (hq q46 hq0)) (hq (fun _ => hq0) hq0)))))))))))))))
 rw [show ln (qB qK) = qQ qK from ln_eq Int_c _]
 rw [show ln (qAB a2) = qm a2 from ln_eq Row_i _]
 refine Run.ret ?_
 cases h
 refine ⟨_, _, by cbv, ?_, ?_⟩
 · exact LLe.r
 exact (ALe.v LLe.r ALe.nil)
theorem qHJ {qE : List Int} {qL : Int} {qI : List (List Row)} {r : Bool} (h : qbC.f (Store.mk (Schema.mk qE) qL qI) = some r) : AC Tryz.prog 20 [.ag [.im false (rowsOf Int_c qE), .s (.int .i64 qL), .im false (rowsOf qZB qI)]] [.ag [.jk, .jk, .jk]] [.v (.s (.bool r))] := by
 unfold qbC.f at h
 let qB := rowsOf Int_c
 let qMB := rowsOf qZB
 let qAB := rowsOf Row_i
 let qQ := @lenI Int
 let qRC := @lenI (List Row)
 show AC Tryz.prog 20 [.ag [.im false (qB qE), .s (.int .i64 qL), .im false (qMB qI)]] _ _
 refine run3 Tryz.func20 (by rfl) (by rfl) (by cbv) ⟨by decide, rfl⟩ ?_
 intro ar cm bo sc sa sx ss sl bs sb ln sr ap up rp fr ge le lt nz mm ma sm fl al ci hL F hP hA hT hM hC
 refine Run.seq ?_
 refine Run.region hL hT [] (by cbv) hq0 ?_
 refine Run.seq ?_
 refine Run.seq ?_
 obtain ⟨r1, h_r1, h⟩ := bnd h
 obtain ⟨r2, h_r2, h⟩ := bnd h
 refine Run.region hL hT [(2, .call [false] [.ag [.jk]] [.v (.s (.bool r1))]), (7, .call [false, false, false] [.v (.jk), .v (.jk), .v (.jk)] [.v (.s (.bool r2))])] (by cbv) ?_ ?_
 · exact (hq Tt (hq (hC (qNE h_r1)) (hq (fun _ => hq0) (hq (fun g4 => (hq g4 (hq Tt hq0))) (hq (fun g5 => (hq g5 (hq (hC (qcC (gd_t h_r2 g5))) hq0))) (hq (fun g6 => (hq g6 hq0)) (hq (fun _ => hq0) (hq (fun q8 => (hq (bo_m q8) hq0)) (hq (fun _ => hq0) (hq (fun g10 => (hq g10 (hq Tt hq0))) (hq (fun g11 => (hq g11 hq0)) (hq (fun _ => hq0) (hq (fun g13 => (hq g13 hq0)) (hq (fun g14 => (hq g14 (hq Tt hq0))) (hq (fun g15 => (hq g15 hq0)) (hq (fun g16 => (hq g16 (hq g16 (hq Tt hq0)))) (hq (fun _ => hq0) (hq (fun q18 => (hq (bo_m q18) hq0)) hq0))))))))))))))))))
 rw [show ln (qB qE) = qQ qE from ln_eq Int_c _]
 rw [show ln (qMB qI) = qRC qI from ln_eq qZB _]
 refine Run.cond (by cbv) (hq0) (fun c19 => ?_) (fun c19 => ?_)
 ·
  have h := if_t c19 h
  refine Run.seq ?_
  refine Run.region hL hT [] (by cbv) hq0 ?_
  refine Run.ret ?_
  cases h
  refine ⟨_, _, by cbv, ?_, ?_⟩
  · exact LLe.r
  exact (ALe.v LLe.r ALe.nil)
 have h := if_f c19 h
 refine Run.skip ?_
 refine Run.seq ?_
 refine Run.seq ?_
 refine Run.region hL hT [] (by cbv) hq0 ?_
 refine Run.block ?_
 refine Run.loop1 (fun (z24 : Int) => ⟨41, 100000, [(1, .pt 1 0 0), (3, .t (.s (.int .i64 z24)))], [(1, .box 29 [.t (.im false (qB qE)), .t (.s (.int .i64 qL)), .t (.im false (qMB qI))])]⟩) (x0 := 0) h (Weak.of _ [(1, 0)] hA (by cbv) ?_) (fun _ => rfl) ?_
 · repeat (first | exact hq0 | refine hq (by first | exact Tt | rfl) ?_)
 intro k z24 h
 rw [qbC.l0] at h
 refine Run.seq ?_
 refine Run.seq ?_
 refine Run.region hL hT [] (by cbv) ?_ ?_
 · exact (hq Tt (hq Tt hq0))
 rw [show ln (qMB qI) = qRC qI from ln_eq qZB _]
 refine Run.cond (by cbv) (hq0) (fun c25 => ?_) (fun c25 => ?_)
 ·
  have h := if_t c25 h
  refine Run.skip ?_
  refine Run.seq ?_
  refine Run.block ?_
  refine Run.seq ?_
  obtain ⟨x26, h_x26, h⟩ := bnd h
  obtain ⟨r27, h_r27, h⟩ := bnd h
  refine Run.draw hL hT hM [(6, .el [.im false (qAB x26)]), (8, .call [false, false, false] [.ag [.jk], .v (.jk), .v (.jk)] [.v (.s (.bool r27))])] (by cbv) (by cbv) (by cbv) (by cbv) (by cbv) ?_ ?_
  · exact (hq Tt (hq Tt (hq (qS h_x26) (hq (ql (f := qZB) h_x26) (hq (qt (f := qZB) h_x26) (hq (hC (qWP h_r27)) hq0))))))
  refine Run.cond (by cbv) (hq0) (fun c28 => ?_) (fun c28 => ?_)
  ·
   have h := if_t c28 h
   refine Run.seq ?_
   refine Run.region hL hT [] (by cbv) hq0 ?_
   refine Run.ret ?_
   cases h
   refine ⟨_, _, by cbv, ?_, ?_⟩
   · exact LLe.r
   exact (ALe.v LLe.r ALe.nil)
  have h := if_f c28 h
  refine Run.skip ?_
  refine Run.region hL hT [] (by cbv) ?_ ?_
  · exact (hq Tt hq0)
  refine ⟨(ar .add .i64 z24 1), h, Weak.of _ [(1, 1)] hA (by cbv) ?_⟩
  repeat (first | exact hq0 | refine hq (by first | exact Tt | rfl) ?_)
 have h := if_f c25 h
 refine Run.exit ?_
 refine Run.seq ?_
 refine Run.region hL hT [] (by cbv) hq0 ?_
 refine Run.ret ?_
 cases h
 refine ⟨_, _, by cbv, ?_, ?_⟩
 · exact LLe.r
 exact (ALe.v LLe.r ALe.nil)
theorem qXP {a0 : List Row} {r : (List Row)} (h : qED.f a0 = some r) : AC Tryz.prog 108 [.v (.im false (rowsOf Row_i a0))] [.v (.jk)] [.v (.ow 56 (rowsOf Row_o r))] := by
 unfold qED.f at h
 let qB := rowsOf Int_c
 let qAB := rowsOf Row_i
 let qT := rowsOf Row_o
 let qm := @lenI Row
 show AC Tryz.prog 108 [.v (.im false (qAB a0))] _ _
 refine run3 Tryz.func108 (by rfl) (by rfl) (by cbv) ⟨by decide, rfl⟩ ?_
 intro ar cm bo sc sa sx ss sl bs sb ln sr ap up rp fr ge le lt nz mm ma sm fl al ci hL F hP hA hT hM hC
 refine Run.seq ?_
 refine Run.region hL hT [] (by cbv) hq0 ?_
 refine Run.seq ?_
 refine Run.region hL hT [] (by cbv) hq0 ?_
 refine Run.seq ?_
 refine Run.seq ?_
 refine Run.region hL hT [] (by cbv) hq0 ?_
 refine Run.block ?_
 refine Run.loop2 (fun (z4 : List Row) (z5 : Int) => ⟨21, 100000, [(0, .t (.im false (qAB a0))), (3, .rf 1), (4, .t (.s (.int .i64 z5)))], [(1, .row 0 56 2 (qT z4))]⟩) (x0 := []) (x1 := 0) h (Weak.of _ [(1, 4096)] hA (by cbv) ?_) (fun _ _ => rfl) ?_
 · repeat (first | exact hq0 | refine hq (by first | exact Tt | rfl) ?_)
 intro k z4 z5 h
 rw [qED.l0] at h
 refine Run.seq ?_
 refine Run.seq ?_
 refine Run.region hL hT [] (by cbv) ?_ ?_
 · exact (hq Tt hq0)
 rw [show ln (qAB a0) = qm a0 from ln_eq Row_i _]
 refine Run.cond (by cbv) (hq0) (fun c6 => ?_) (fun c6 => ?_)
 ·
  have h := if_t c6 h
  refine Run.skip ?_
  refine Run.seq ?_
  refine Run.block ?_
  obtain ⟨⟨qrZ, qhO⟩, h_x7, h⟩ := bnd h
  obtain ⟨⟨qrb, qiT⟩, h_r8, h⟩ := bnd h
  obtain ⟨l9, h_l9, h⟩ := bnd h
  obtain ⟨l10, h_l10, h⟩ := bnd h
  refine Run.region hL hT [(3, .el [.s (.int .i64 qrZ), .im false (qB qhO)]), (5, .call [false] [.ag [.jk, .jk]] [.ag [.s (.int .i64 qrb), .ow 3 (qB qiT)]])] (by cbv) ?_ ?_
  · exact (hq (qS h_x7) (hq (ql (f := Row_i) h_x7) (hq (qt (f := Row_i) h_x7) (hq (hC (qVE h_r8)) (hq (qwD (P := Tryz.prog) (f := Row_o) RLe.r (qUB (f := Row_o) h_l9 (RLe.cons rfl LLe.r RLe.nil)) h_l10) hq0)))))
  refine Run.row (rows := (ap (qT z4) ([[.s (.int .i64 qrb), .ow 3 (qB qiT)]]))) 104103 (qT l10) (by cbv) (qvD (f := Row_o) RLe.r (qUB (f := Row_o) h_l9 (RLe.cons rfl LLe.r RLe.nil)) h_l10) ?_
  refine Run.region hL hT [] (by cbv) ?_ ?_
  · exact (hq Tt hq0)
  refine ⟨l10, (ar .add .i64 z5 1), h, Weak.of _ [(1, 104103)] hA (by cbv) ?_⟩
  repeat (first | exact hq0 | refine hq (by first | exact Tt | rfl) ?_)
 have h := if_f c6 h
 refine Run.exit ?_
 refine Run.seq ?_
 refine Run.region hL hT [] (by cbv) hq0 ?_
 refine Run.ret ?_
 cases h
 refine ⟨_, _, by cbv, ?_, ?_⟩
 · exact LLe.r
 exact (ALe.v LLe.r ALe.nil)
theorem qWE {qE : List Int} {qL : Int} {qI : List (List Row)} {r : Store} (h : qHC.f (Store.mk (Schema.mk qE) qL qI) = some r) : AC Tryz.prog 48 [.ag [.im false (rowsOf Int_c qE), .s (.int .i64 qL), .im false (rowsOf qZB qI)]] [.ag [.jk, .jk, .jk]] [.ag [.ow 3 (rowsOf Int_c r.Schema.Cols), .s (.int .i64 r.Version), .ow 50 (rowsOf qcB r.Tables)]] := by
 unfold qHC.f at h
 let qB := rowsOf Int_c
 let qMB := rowsOf qZB
 let qz := rowsOf qcB
 let qAB := rowsOf Row_i
 let qT := rowsOf Row_o
 let qRC := @lenI (List Row)
 show AC Tryz.prog 48 [.ag [.im false (qB qE), .s (.int .i64 qL), .im false (qMB qI)]] _ _
 refine run3 Tryz.func48 (by rfl) (by rfl) (by cbv) ⟨by decide, rfl⟩ ?_
 intro ar cm bo sc sa sx ss sl bs sb ln sr ap up rp fr ge le lt nz mm ma sm fl al ci hL F hP hA hT hM hC
 refine Run.seq ?_
 refine Run.region hL hT [] (by cbv) hq0 ?_
 refine Run.seq ?_
 obtain ⟨⟨qkV⟩, h_r1, h⟩ := bnd h
 refine Run.draw hL hT hM [(2, .call [false] [.ag [.jk]] [.ag [.ow 3 (qB qkV)]])] (by cbv) (by cbv) (by cbv) (by cbv) (by cbv) ?_ ?_
 · exact (hq Tt (hq (hC (qdI h_r1)) (hq Tt (hq Tt hq0))))
 refine Run.seq ?_
 refine Run.seq ?_
 refine Run.region hL hT [] (by cbv) hq0 ?_
 refine Run.block ?_
 refine Run.loop2 (fun (z17 : List (List Row)) (z18 : Int) => ⟨30, 100000, [(1, .pt 1 0 0), (2, .pt 2 0 0), (3, .pt 3 0 0), (4, .t (.s (.int .i64 z18)))], [(1, .box 29 [.t (.im false (qB qE)), .t (.s (.int .i64 qL)), .t (.im false (qMB qI))]), (2, .box 29 [.t (.s (.slice none 0 0)), .t (.s (.int .i64 0)), .t (.s (.slice none 0 0))]), (3, .box 29 [.rf 4, .t (.s (.int .i64 qL)), .rf 5]), (4, .row 0 3 1 (qB qkV)), (5, .row 0 50 1 (qz z17))]⟩) (x0 := []) (x1 := 0) h ((Weak.nilB (l := [.rf 4098, .t (.s (.int .i64 qL))]) hT 4102 2 13288 50 rfl (by cbv) (by cbv) (by cbv)).trans (Weak.of _ [(1, 0), (2, 1), (3, 4102), (4, 4098), (5, 13288)] hA (by cbv) ?_)) (fun _ _ => rfl) ?_
 · repeat (first | exact hq0 | refine hq (by first | exact Tt | rfl) ?_)
 intro k z17 z18 h
 rw [qHC.l0] at h
 refine Run.seq ?_
 refine Run.seq ?_
 refine Run.region hL hT [] (by cbv) ?_ ?_
 · exact (hq Tt (hq Tt hq0))
 rw [show ln (qMB qI) = qRC qI from ln_eq qZB _]
 refine Run.cond (by cbv) (hq0) (fun c19 => ?_) (fun c19 => ?_)
 ·
  have h := if_t c19 h
  refine Run.skip ?_
  refine Run.seq ?_
  refine Run.block ?_
  obtain ⟨x20, h_x20, h⟩ := bnd h
  obtain ⟨r21, h_r21, h⟩ := bnd h
  obtain ⟨l22, h_l22, h⟩ := bnd h
  obtain ⟨l23, h_l23, h⟩ := bnd h
  refine Run.draw hL hT hM [(5, .el [.im false (qAB x20)]), (7, .call [false] [.v (.jk)] [.v (.ow 56 (qT r21))])] (by cbv) (by cbv) (by cbv) (by cbv) (by cbv) ?_ ?_
  · exact (hq Tt (hq Tt (hq (qS h_x20) (hq (ql (f := qZB) h_x20) (hq (qt (f := qZB) h_x20) (hq (hC (qXP h_r21)) (hq (qwD (P := Tryz.prog) (f := qcB) RLe.r (qUB (f := qcB) h_l22 (RLe.cons rfl LLe.r RLe.nil)) h_l23) (hq Tt hq0))))))))
  refine Run.row (rows := (ap (qz z17) ([[.ow 56 (qT r21)]]))) 104105 (qz l23) (by cbv) (qvD (f := qcB) RLe.r (qUB (f := qcB) h_l22 (RLe.cons rfl LLe.r RLe.nil)) h_l23) ?_
  refine Run.region hL hT [] (by cbv) ?_ ?_
  · exact (hq Tt hq0)
  refine ⟨l23, (ar .add .i64 z18 1), h, Weak.of _ [(1, 1), (2, 2), (3, 3), (4, 4), (5, 104105)] hA (by cbv) ?_⟩
  repeat (first | exact hq0 | refine hq (by first | exact Tt | rfl) ?_)
 have h := if_f c19 h
 refine Run.exit ?_
 refine Run.seq ?_
 refine Run.region hL hT [] (by cbv) ?_ ?_
 · exact (hq Tt (hq Tt hq0))
 refine Run.ret ?_
 cases h
 refine ⟨_, _, by cbv, ?_, ?_⟩
 · exact LLe.r
 exact (ALe.ag rfl LLe.r ALe.nil)
theorem qsR {qK : List Int} {qYB : Int} {qN : Int} {qsB : Int} {qy : List Int} {r : Bool} (h : qmH.f (Schema.mk qK) (Mut.mk qYB qN (Row.mk qsB qy)) = some r) : AC Tryz.prog 97 [.ag [.im false (rowsOf Int_c qK)], .ag [.s (.int .i64 qYB), .s (.int .i64 qN), .s (.int .i64 qsB), .im false (rowsOf Int_c qy)]] [.ag [.jk], .ag [.jk, .jk, .jk, .jk]] [.v (.s (.bool r))] := by
 unfold qmH.f at h
 let qB := rowsOf Int_c
 let qQ := @lenI Int
 show AC Tryz.prog 97 [.ag [.im false (qB qK)], .ag [.s (.int .i64 qYB), .s (.int .i64 qN), .s (.int .i64 qsB), .im false (qB qy)]] _ _
 refine run3 Tryz.func97 (by rfl) (by rfl) (by cbv) ⟨by decide, rfl⟩ ?_
 intro ar cm bo sc sa sx ss sl bs sb ln sr ap up rp fr ge le lt nz mm ma sm fl al ci hL F hP hA hT hM hC
 refine Run.seq ?_
 refine Run.region hL hT [] (by cbv) hq0 ?_
 refine Run.seq ?_
 refine Run.seq ?_
 refine Run.region hL hT [] (by cbv) ?_ ?_
 · exact (hq Tt (hq Tt hq0))
 refine Run.cond (by cbv) (hq0) (fun c1 => ?_) (fun c1 => ?_)
 ·
  have h := if_t c1 h
  refine Run.seq ?_
  obtain ⟨r2, h_r2, h⟩ := bnd h
  obtain ⟨r3, h_r3, h⟩ := bnd h
  obtain ⟨r4, h_r4, h⟩ := bnd h
  refine Run.region hL hT [(1, .call [false] [.ag [.jk]] [.v (.s (.bool r2))]), (9, .call [false, false, false] [.v (.jk), .v (.jk), .v (.jk)] [.v (.s (.bool r3))]), (15, .call [false, false, false] [.v (.jk), .v (.jk), .v (.jk)] [.v (.s (.bool r4))])] (by cbv) ?_ ?_
  · exact (hq Tt (hq (hC (qNE h_r2)) (hq (fun _ => hq0) (hq (fun g6 => (hq g6 (hq Tt hq0))) (hq (fun _ => hq0) (hq (fun g8 => (hq g8 (hq Tt hq0))) (hq (fun g9 => (hq g9 hq0)) (hq (fun g10 => (hq g10 (hq Tt hq0))) (hq (fun g11 => (hq g11 (hq g11 (hq (by rw [show ln (qB qK) = qQ qK from ln_eq Int_c _]; exact (hC (qcC (gd_t h_r3 g11)))) hq0)))) (hq (fun q12 => (hq q12 hq0)) (hq (fun _ => hq0) (hq (fun _ => hq0) (hq (fun g15 => (hq g15 hq0)) (hq (fun g16 => (hq g16 (hq Tt hq0))) (hq (fun g17 => (hq g17 (hq (hC (qcC (gd_t h_r4 g17))) hq0))) (hq (fun q18 => (hq q18 hq0)) (hq (fun _ => hq0) (hq (fun _ => hq0) (hq (fun g21 => (hq g21 hq0)) (hq (fun g22 => (hq g22 (hq Tt hq0))) (hq (fun g23 => (hq g23 hq0)) (hq (fun g24 => (hq g24 (hq Tt hq0))) (hq (fun q25 => (hq q25 hq0)) (hq (fun _ => hq0) hq0))))))))))))))))))))))))
  rw [show ln (qB qK) = qQ qK from ln_eq Int_c _]
  rw [show ln (qB qy) = qQ qy from ln_eq Int_c _]
  refine Run.ret ?_
  cases h
  refine ⟨_, _, by cbv, ?_, ?_⟩
  · exact LLe.r
  exact (ALe.v LLe.r ALe.nil)
 have h := if_f c1 h
 refine Run.skip ?_
 refine Run.seq ?_
 obtain ⟨r27, h_r27, h⟩ := bnd h
 obtain ⟨r28, h_r28, h⟩ := bnd h
 refine Run.region hL hT [(2, .call [false, false, false] [.v (.jk), .v (.jk), .v (.jk)] [.v (.s (.bool r27))]), (9, .call [false, false, false] [.ag [.jk], .v (.jk), .ag [.jk, .jk]] [.v (.s (.bool r28))])] (by cbv) ?_ ?_
 · exact (hq Tt (hq (hC (qcC h_r27)) (hq (fun g29 => (hq Tt hq0)) (hq (fun _ => hq0) (hq (fun g31 => (hq g31 (hq Tt hq0))) (hq (fun _ => hq0) (hq (fun g33 => (hq g33 (hq Tt hq0))) (hq (fun g34 => (hq g34 (hq g34 (hq g34 (hq (hC (qLL (gd_t h_r28 g34))) hq0))))) (hq (fun q35 => (hq q35 hq0)) (hq (fun _ => hq0) hq0))))))))))
 refine Run.ret ?_
 cases h
 refine ⟨_, _, by cbv, ?_, ?_⟩
 · exact LLe.r
 exact (ALe.v LLe.r ALe.nil)
theorem qjT {qE : List Int} {qL : Int} {qI : List (List Row)} {qYB : Int} {qN : Int} {qsB : Int} {qy : List Int} {r : Store × Change × Bool} (h : qsI.f (Store.mk (Schema.mk qE) qL qI) (Mut.mk qYB qN (Row.mk qsB qy)) = some r) : AC Tryz.prog 98 [.ag [.ow 3 (rowsOf Int_c qE), .s (.int .i64 qL), .ow 50 (rowsOf qcB qI)], .ag [.s (.int .i64 qYB), .s (.int .i64 qN), .s (.int .i64 qsB), .im false (rowsOf Int_c qy)]] [.ag [.jk, .jk, .jk], .ag [.jk, .jk, .jk, .jk]] [.ag [.ow 3 (rowsOf Int_c r.1.Schema.Cols), .s (.int .i64 r.1.Version), .ow 50 (rowsOf qcB r.1.Tables)], .ag [.s (.int .i64 r.2.1.Table), .s (.bool r.2.1.Had), .s (.bool r.2.1.Has), .s (.int .i64 r.2.1.Old.Id), .ow 3 (rowsOf Int_c r.2.1.Old.Cells), .s (.int .i64 r.2.1.New.Id), .ow 3 (rowsOf Int_c r.2.1.New.Cells)], .v (.s (.bool r.2.2))] := by
 unfold qsI.f at h
 let qB := rowsOf Int_c
 let qz := rowsOf qcB
 let qT := rowsOf Row_o
 let qm := @lenI Row
 show AC Tryz.prog 98 [.ag [.ow 3 (qB qE), .s (.int .i64 qL), .ow 50 (qz qI)], .ag [.s (.int .i64 qYB), .s (.int .i64 qN), .s (.int .i64 qsB), .im false (qB qy)]] _ _
 refine run3 Tryz.func98 (by rfl) (by rfl) (by cbv) ⟨by decide, rfl⟩ ?_
 intro ar cm bo sc sa sx ss sl bs sb ln sr ap up rp fr ge le lt nz mm ma sm fl al ci hL F hP hA hT hM hC
 refine Run.seq ?_
 refine Run.region hL hT [] (by cbv) hq0 ?_
 refine Run.seq ?_
 obtain ⟨x1, h_x1, h⟩ := bnd h
 refine Run.weak ?_ (Weak.take (rows := qz qI) (e2 := 56) (r2 := qT x1) hT 1 qN 0 7098 1007098 (by cbv) (by cbv) (by cbv) (qXE h_x1) (qBF qcB h_x1) ((congrArg (fun q => q[0]?) (qt (f := qcB) h_x1)).trans rfl) rfl (up (qz qI) qN 0 [.jk]) rfl)
 refine Run.region hL hT [(5, .lk [.jk] [(0, 1007098)])] (by cbv) ?_ ?_
 · exact (hq Tt (hq Tt (hq (qS h_x1) (hq (up_lt qcB h_x1) (hq Tt (hq (qS h_x1) (hq (up_lt qcB h_x1) (hq (up_ge qcB h_x1) hq0))))))))
 refine Run.seq ?_
 obtain ⟨r2, h_r2, h⟩ := bnd h
 refine Run.region hL hT [(4, .call [false, false] [.v (.jk), .v (.jk)] [.v (.s (.int .i64 r2))])] (by cbv) ?_ ?_
 · exact (hq Tt (hq (hC (AC.args (qNG h_r2) (ALe.v (LLe.im (RLe.eq (qQC qzI _))) (ALe.v LLe.r ALe.nil)))) hq0))
 refine Run.seq ?_
 refine Run.region hL hT [] (by cbv) ?_ ?_
 · exact (hq Tt (hq Tt (hq Tt (hq Tt (hq Tt (hq Tt hq0))))))
 refine Run.seq ?_
 refine Run.seq ?_
 refine Run.region hL hT [] (by cbv) ?_ ?_
 · exact (hq Tt (hq Tt (hq (fun _ => hq0) (hq (fun g4 => (hq g4 (hq Tt hq0))) (hq (fun g5 => (hq g5 (hq Tt hq0))) (hq (fun g6 => (hq g6 hq0)) (hq (fun _ => hq0) (hq (fun g8 => (hq g8 hq0)) (hq (fun g9 => (hq g9 (hq Tt hq0))) (hq (fun g10 => (hq g10 (hq (fun q11 => (hq (bo_a g10 q11) hq0)) (hq (fun _ => hq0) hq0)))) (hq (fun _ => hq0) (hq (fun q14 => (hq (bo_m q14) hq0)) hq0))))))))))))
 rw [show ln (qT x1) = qm x1 from ln_eq Row_o _]
 refine Run.cond (by cbv) (hq0) (fun c15 => ?_) (fun c15 => ?_)
 ·
  have h := if_t c15 h
  refine Run.seq ?_
  refine Run.region hL hT [] (by cbv) ?_ ?_
  · exact (hq Tt (hq Tt (hq Tt hq0)))
  refine Run.weak ?_ (Weak.back (rows := (up (qz qI) qN 0 [.jk])) (r2 := qT x1) 1 qN 0 7098 1007098 (by cbv) (by cbv) (by cbv) (by cbv) (qXE h_x1) (up_lt qcB h_x1) ((congrArg (fun q => q[0]?) (up_at qcB h_x1)).trans rfl) (up (up (qz qI) qN 0 [.jk]) qN 0 [.ow 56 (qT x1)]) rfl)
  refine Run.weak ?_ (Weak.row (rows := (up (up (qz qI) qN 0 [.jk]) qN 0 [.ow 56 (qT x1)])) 1 (qz qI) (by cbv) (RLe.eq (qJc (f := qcB) h_x1 rfl)))
  refine Run.weak ?_ (Weak.mvB 0 26578 4 (by cbv) (by cbv) (by cbv))
  refine Run.weak ?_ (Weak.mvB 1 26579 4 (by cbv) (by cbv) (by cbv))
  refine Run.ret ?_
  cases h
  refine ⟨_, _, by cbv, ?_, ?_⟩
  · exact LLe.r
  exact (ALe.ag rfl LLe.r (ALe.ag rfl (LLe.c (LLe.c (LLe.c (LLe.c (LLe.cons LLe.nilO (LLe.c (LLe.cons LLe.nilO LLe.nil))))))) (ALe.v LLe.r ALe.nil)))
 have h := if_f c15 h
 refine Run.skip ?_
 refine Run.seq ?_
 refine Run.seq ?_
 refine Run.region hL hT [] (by cbv) ?_ ?_
 · exact (hq Tt hq0)
 refine Run.cond (by cbv) (hq0) (fun c16 => ?_) (fun c16 => ?_)
 ·
  have h := if_t c16 h
  obtain ⟨⟨qBd, qGX⟩, h_x17, h⟩ := bnd h
  obtain ⟨⟨qCd, qHX⟩, h_r18, h⟩ := bnd h
  refine Run.region hL hT [(3, .el [.s (.int .i64 qBd), .ow 3 (qB qGX)]), (4, .call [false] [.ag [.jk, .jk]] [.ag [.s (.int .i64 qCd), .ow 3 (qB qHX)]])] (by cbv) ?_ ?_
  · exact (hq (qS h_x17) (hq (ql (f := Row_o) h_x17) (hq (qS h_x17) (hq (ql (f := Row_o) h_x17) (hq (qt (f := Row_o) h_x17) (hq (hC (AC.args (qVE h_r18) (ALe.ag rfl (LLe.c (LLe.cons (LLe.im (RLe.eq (qQC qKD _))) LLe.nil)) ALe.nil))) (hq Tt hq0)))))))
  refine Run.seq ?_
  refine Run.seq ?_
  refine Run.region hL hT [] (by cbv) ?_ ?_
  · exact (hq Tt hq0)
  refine Run.cond (by cbv) (hq0) (fun c19 => ?_) (fun c19 => ?_)
  ·
   have h := if_t c19 h
   refine Run.seq ?_
   obtain ⟨⟨qDd, qIX⟩, h_r20, h⟩ := bnd h
   refine Run.region hL hT [(2, .call [false] [.ag [.jk, .jk]] [.ag [.s (.int .i64 qDd), .ow 3 (qB qIX)]])] (by cbv) ?_ ?_
   · exact (hq Tt (hq (hC (qVE h_r20)) (hq Tt hq0)))
   obtain ⟨r21, h_r21, h⟩ := bnd h
   obtain ⟨l22, h_l22, h⟩ := bnd h
   refine Run.draw hL hT hM [(7, .call [false, false] [.v (.jk), .ag [.jk, .jk]] [.v (.ow 56 (qT r21))])] (by cbv) (by cbv) (by cbv) (by cbv) (by cbv) ?_ ?_
   · exact (hq Tt (hq Tt (hq Tt (hq (hC (AC.args (qZH h_r21) (ALe.v (LLe.im (RLe.eq (qQC qzI _))) (ALe.ag rfl LLe.r ALe.nil)))) (hq (qS h_x1) (hq (up_lt qcB h_x1) (hq (qS h_x1) (hq (up_lt qcB h_x1) hq0))))))))
   refine Run.row (rows := (up (up (qz qI) qN 0 [.jk]) qN 0 [.ow 56 (qT r21)])) 1 (qz l22) (by cbv) (qmQ (f := qcB) h_x1 h_l22 (ltn (qAN _) (by decide)) rfl LLe.r) ?_
   refine Run.seq ?_
   refine Run.draw hL hT hM [] (by cbv) (by cbv) (by cbv) (by cbv) (by cbv) ?_ ?_
   · exact (hq Tt (hq Tt (hq Tt (hq Tt hq0))))
   refine Run.weak ?_ (Weak.mvB 0 47058 4 (by cbv) (by cbv) (by cbv))
   refine Run.weak ?_ (Weak.mvB 1 47059 4 (by cbv) (by cbv) (by cbv))
   refine Run.ret ?_
   cases h
   refine ⟨_, _, by cbv, ?_, ?_⟩
   · exact LLe.r
   exact (ALe.ag rfl LLe.r (ALe.ag rfl LLe.r (ALe.v LLe.r ALe.nil)))
  have h := if_f c19 h
  obtain ⟨r23, h_r23, h⟩ := bnd h
  obtain ⟨l24, h_l24, h⟩ := bnd h
  refine Run.draw hL hT hM [(8, .call [false, false] [.v (.jk), .v (.jk)] [.v (.ow 56 (qT r23))])] (by cbv) (by cbv) (by cbv) (by cbv) (by cbv) ?_ ?_
  · exact (hq Tt (hq Tt (hq Tt (hq (hC (AC.args (qsG h_r23) (ALe.v (LLe.im (RLe.eq (qQC qzI _))) (ALe.v LLe.r ALe.nil)))) (hq (qS h_x1) (hq (up_lt qcB h_x1) (hq (qS h_x1) (hq (up_lt qcB h_x1) hq0))))))))
  refine Run.row (rows := (up (up (qz qI) qN 0 [.jk]) qN 0 [.ow 56 (qT r23)])) 1 (qz l24) (by cbv) (qmQ (f := qcB) h_x1 h_l24 (ltn (qAN _) (by decide)) rfl LLe.r) ?_
  refine Run.seq ?_
  refine Run.draw hL hT hM [] (by cbv) (by cbv) (by cbv) (by cbv) (by cbv) ?_ ?_
  · exact (hq Tt (hq Tt (hq Tt (hq Tt hq0))))
  refine Run.weak ?_ (Weak.mvB 0 42962 4 (by cbv) (by cbv) (by cbv))
  refine Run.weak ?_ (Weak.mvB 1 42963 4 (by cbv) (by cbv) (by cbv))
  refine Run.ret ?_
  cases h
  refine ⟨_, _, by cbv, ?_, ?_⟩
  · exact LLe.r
  exact (ALe.ag rfl LLe.r (ALe.ag rfl (LLe.c (LLe.c (LLe.c (LLe.c (LLe.c (LLe.c (LLe.cons LLe.nilO LLe.nil))))))) (ALe.v LLe.r ALe.nil)))
 have h := if_f c16 h
 refine Run.skip ?_
 refine Run.seq ?_
 refine Run.seq ?_
 refine Run.region hL hT [] (by cbv) ?_ ?_
 · exact (hq Tt hq0)
 refine Run.cond (by cbv) (hq0) (fun c25 => ?_) (fun c25 => ?_)
 ·
  have h := if_t c25 h
  refine Run.seq ?_
  obtain ⟨⟨qEd, qJX⟩, h_r26, h⟩ := bnd h
  refine Run.region hL hT [(2, .call [false] [.ag [.jk, .jk]] [.ag [.s (.int .i64 qEd), .ow 3 (qB qJX)]])] (by cbv) ?_ ?_
  · exact (hq Tt (hq (hC (qVE h_r26)) (hq Tt hq0)))
  obtain ⟨r27, h_r27, h⟩ := bnd h
  obtain ⟨l28, h_l28, h⟩ := bnd h
  refine Run.draw hL hT hM [(7, .call [false, false] [.v (.jk), .ag [.jk, .jk]] [.v (.ow 56 (qT r27))])] (by cbv) (by cbv) (by cbv) (by cbv) (by cbv) ?_ ?_
  · exact (hq Tt (hq Tt (hq Tt (hq (hC (AC.args (qZH h_r27) (ALe.v (LLe.im (RLe.eq (qQC qzI _))) (ALe.ag rfl LLe.r ALe.nil)))) (hq (qS h_x1) (hq (up_lt qcB h_x1) (hq (qS h_x1) (hq (up_lt qcB h_x1) hq0))))))))
  refine Run.row (rows := (up (up (qz qI) qN 0 [.jk]) qN 0 [.ow 56 (qT r27)])) 1 (qz l28) (by cbv) (qmQ (f := qcB) h_x1 h_l28 (ltn (qAN _) (by decide)) rfl LLe.r) ?_
  refine Run.seq ?_
  refine Run.draw hL hT hM [] (by cbv) (by cbv) (by cbv) (by cbv) (by cbv) ?_ ?_
  · exact (hq Tt (hq Tt (hq Tt (hq Tt hq0))))
  refine Run.weak ?_ (Weak.mvB 0 42962 4 (by cbv) (by cbv) (by cbv))
  refine Run.weak ?_ (Weak.mvB 1 42963 4 (by cbv) (by cbv) (by cbv))
  refine Run.ret ?_
  cases h
  refine ⟨_, _, by cbv, ?_, ?_⟩
  · exact LLe.r
  exact (ALe.ag rfl LLe.r (ALe.ag rfl (LLe.c (LLe.c (LLe.c (LLe.c (LLe.cons LLe.nilO (LLe.c (LLe.c LLe.nil))))))) (ALe.v LLe.r ALe.nil)))
 have h := if_f c25 h
 obtain ⟨r29, h_r29, h⟩ := bnd h
 obtain ⟨l30, h_l30, h⟩ := bnd h
 refine Run.draw hL hT hM [(8, .call [false, false] [.v (.jk), .v (.jk)] [.v (.ow 56 (qT r29))])] (by cbv) (by cbv) (by cbv) (by cbv) (by cbv) ?_ ?_
 · exact (hq Tt (hq Tt (hq Tt (hq (hC (AC.args (qsG h_r29) (ALe.v (LLe.im (RLe.eq (qQC qzI _))) (ALe.v LLe.r ALe.nil)))) (hq (qS h_x1) (hq (up_lt qcB h_x1) (hq (qS h_x1) (hq (up_lt qcB h_x1) hq0))))))))
 refine Run.row (rows := (up (up (qz qI) qN 0 [.jk]) qN 0 [.ow 56 (qT r29)])) 1 (qz l30) (by cbv) (qmQ (f := qcB) h_x1 h_l30 (ltn (qAN _) (by decide)) rfl LLe.r) ?_
 refine Run.seq ?_
 refine Run.draw hL hT hM [] (by cbv) (by cbv) (by cbv) (by cbv) (by cbv) ?_ ?_
 · exact (hq Tt (hq Tt (hq Tt (hq Tt hq0))))
 refine Run.weak ?_ (Weak.mvB 0 38866 4 (by cbv) (by cbv) (by cbv))
 refine Run.weak ?_ (Weak.mvB 1 38867 4 (by cbv) (by cbv) (by cbv))
 refine Run.ret ?_
 cases h
 refine ⟨_, _, by cbv, ?_, ?_⟩
 · exact LLe.r
 exact (ALe.ag rfl LLe.r (ALe.ag rfl (LLe.c (LLe.c (LLe.c (LLe.c (LLe.cons LLe.nilO (LLe.c (LLe.cons LLe.nilO LLe.nil))))))) (ALe.v LLe.r ALe.nil)))
theorem qML {qE : List Int} {qL : Int} {qI : List (List Row)} {qYB : Int} {qN : Int} {qsB : Int} {qy : List Int} {r : Store × Change × Bool} (h : qSG.f (Store.mk (Schema.mk qE) qL qI) (Mut.mk qYB qN (Row.mk qsB qy)) = some r) : AC Tryz.prog 41 [.ag [.im false (rowsOf Int_c qE), .s (.int .i64 qL), .im false (rowsOf qZB qI)], .ag [.s (.int .i64 qYB), .s (.int .i64 qN), .s (.int .i64 qsB), .im false (rowsOf Int_c qy)]] [.ag [.jk, .jk, .jk], .ag [.jk, .jk, .jk, .jk]] [.ag [.ow 3 (rowsOf Int_c r.1.Schema.Cols), .s (.int .i64 r.1.Version), .ow 50 (rowsOf qcB r.1.Tables)], .ag [.s (.int .i64 r.2.1.Table), .s (.bool r.2.1.Had), .s (.bool r.2.1.Has), .s (.int .i64 r.2.1.Old.Id), .ow 3 (rowsOf Int_c r.2.1.Old.Cells), .s (.int .i64 r.2.1.New.Id), .ow 3 (rowsOf Int_c r.2.1.New.Cells)], .v (.s (.bool r.2.2))] := by
 unfold qSG.f at h
 let qB := rowsOf Int_c
 let qMB := rowsOf qZB
 let qz := rowsOf qcB
 show AC Tryz.prog 41 [.ag [.im false (qB qE), .s (.int .i64 qL), .im false (qMB qI)], .ag [.s (.int .i64 qYB), .s (.int .i64 qN), .s (.int .i64 qsB), .im false (qB qy)]] _ _
 refine run3 Tryz.func41 (by rfl) (by rfl) (by cbv) ⟨by decide, rfl⟩ ?_
 intro ar cm bo sc sa sx ss sl bs sb ln sr ap up rp fr ge le lt nz mm ma sm fl al ci hL F hP hA hT hM hC
 refine Run.seq ?_
 refine Run.region hL hT [] (by cbv) hq0 ?_
 refine Run.seq ?_
 refine Run.seq ?_
 obtain ⟨r1, h_r1, h⟩ := bnd h
 refine Run.region hL hT [(1, .call [false] [.ag [.jk, .jk, .jk]] [.v (.s (.bool r1))])] (by cbv) ?_ ?_
 · exact (hq Tt (hq (hC (qHJ h_r1)) hq0))
 refine Run.cond (by cbv) (hq0) (fun c2 => ?_) (fun c2 => ?_)
 ·
  have h := if_t c2 h
  refine Run.seq ?_
  refine Run.region hL hT [] (by cbv) ?_ ?_
  · exact (hq Tt (hq Tt hq0))
  refine Run.ret ?_
  cases h
  refine ⟨_, _, by cbv, ?_, ?_⟩
  · exact LLe.r
  exact (ALe.ag rfl (LLe.cons LLe.nilO (LLe.c (LLe.cons LLe.nilO LLe.nil))) (ALe.ag rfl (LLe.c (LLe.c (LLe.c (LLe.c (LLe.cons LLe.nilO (LLe.c (LLe.cons LLe.nilO LLe.nil))))))) (ALe.v LLe.r ALe.nil)))
 have h := if_f c2 h
 refine Run.skip ?_
 refine Run.seq ?_
 refine Run.seq ?_
 obtain ⟨r3, h_r3, h⟩ := bnd h
 refine Run.region hL hT [(3, .call [false, false] [.ag [.jk], .ag [.jk, .jk, .jk, .jk]] [.v (.s (.bool r3))])] (by cbv) ?_ ?_
 · exact (hq Tt (hq Tt (hq (hC (qsR h_r3)) hq0)))
 refine Run.cond (by cbv) (hq0) (fun c4 => ?_) (fun c4 => ?_)
 ·
  have h := if_t c4 h
  refine Run.seq ?_
  obtain ⟨⟨⟨qlM⟩, qqU, qKX⟩, h_r5, h⟩ := bnd h
  refine Run.region hL hT [(1, .call [false] [.ag [.jk, .jk, .jk]] [.ag [.ow 3 (qB qlM), .s (.int .i64 qqU), .ow 50 (qz qKX)]])] (by cbv) ?_ ?_
  · exact (hq Tt (hq (hC (qWE h_r5)) (hq Tt (hq Tt hq0))))
  refine Run.ret ?_
  cases h
  refine ⟨_, _, by cbv, ?_, ?_⟩
  · exact LLe.r
  exact (ALe.ag rfl LLe.r (ALe.ag rfl (LLe.c (LLe.c (LLe.c (LLe.c (LLe.cons LLe.nilO (LLe.c (LLe.cons LLe.nilO LLe.nil))))))) (ALe.v LLe.r ALe.nil)))
 have h := if_f c4 h
 refine Run.skip ?_
 refine Run.seq ?_
 obtain ⟨⟨⟨qmM⟩, qrU, qLX⟩, h_r6, h⟩ := bnd h
 obtain ⟨⟨⟨⟨qaK⟩, qYP, qtR⟩, ⟨qiO, quR, qvR, ⟨qBM, qhJ⟩, ⟨qCM, qiJ⟩⟩, qRb⟩, h_r7, h⟩ := bnd h
 refine Run.draw hL hT hM [(1, .call [false] [.ag [.jk, .jk, .jk]] [.ag [.ow 3 (qB qmM), .s (.int .i64 qrU), .ow 50 (qz qLX)]]), (3, .call [true, false] [.ag [.jk, .jk, .jk], .ag [.jk, .jk, .jk, .jk]] [.ag [.ow 3 (qB qaK), .s (.int .i64 qYP), .ow 50 (qz qtR)], .ag [.s (.int .i64 qiO), .s (.bool quR), .s (.bool qvR), .s (.int .i64 qBM), .ow 3 (qB qhJ), .s (.int .i64 qCM), .ow 3 (qB qiJ)], .v (.s (.bool qRb))])] (by cbv) (by cbv) (by cbv) (by cbv) (by cbv) ?_ ?_
 · exact (hq Tt (hq (hC (qWE h_r6)) (hq Tt (hq (hC (qjT h_r7)) (hq Tt (hq Tt hq0))))))
 refine Run.seq ?_
 refine Run.seq ?_
 refine Run.region hL hT [] (by cbv) hq0 ?_
 refine Run.cond (by cbv) (hq0) (fun c8 => ?_) (fun c8 => ?_)
 ·
  have h := if_t c8 h
  refine Run.seq ?_
  obtain ⟨⟨⟨qnM⟩, qsU, qMX⟩, h_r9, h⟩ := bnd h
  refine Run.region hL hT [(1, .call [false] [.ag [.jk, .jk, .jk]] [.ag [.ow 3 (qB qnM), .s (.int .i64 qsU), .ow 50 (qz qMX)]])] (by cbv) ?_ ?_
  · exact (hq Tt (hq (hC (qWE h_r9)) (hq Tt (hq Tt hq0))))
  refine Run.ret ?_
  cases h
  refine ⟨_, _, by cbv, ?_, ?_⟩
  · exact LLe.r
  exact (ALe.ag rfl LLe.r (ALe.ag rfl (LLe.c (LLe.c (LLe.c (LLe.c (LLe.cons LLe.nilO (LLe.c (LLe.cons LLe.nilO LLe.nil))))))) (ALe.v LLe.r ALe.nil)))
 have h := if_f c8 h
 refine Run.skip ?_
 refine Run.seq ?_
 refine Run.draw hL hT hM [] (by cbv) (by cbv) (by cbv) (by cbv) (by cbv) ?_ ?_
 · exact (hq Tt (hq Tt (hq Tt (hq Tt hq0))))
 refine Run.ret ?_
 cases h
 refine ⟨_, _, by cbv, ?_, ?_⟩
 · exact LLe.r
 exact (ALe.ag rfl LLe.r (ALe.ag rfl LLe.r (ALe.v LLe.r ALe.nil)))
theorem qNL {a0 : List Int} {r : Store × Query × (List Mut)} (h : qwB.f a0 = some r) : AC Tryz.prog 7 [.v (.im true (rowsOf u8_c a0))] [.v (.jk)] [.ag [.im true (rowsOf Int_c r.1.Schema.Cols), .s (.int .i64 r.1.Version), .im true (rowsOf qZB r.1.Tables)], .ag [.s (.int .i64 r.2.1.Table), .im true (rowsOf qGB r.2.1.Where), .s (.int .i64 r.2.1.Order), .s (.bool r.2.1.Down), .s (.int .i64 r.2.1.First), .im true (rowsOf Int_c r.2.1.Show), .s (.bool r.2.1.Kids), .s (.int .i64 r.2.1.KidTable), .s (.int .i64 r.2.1.KidCol)], .v (.im true (rowsOf Mut_i r.2.2))] := by
 unfold qwB.f at h
 let qO := rowsOf qGB
 let qB := rowsOf Int_c
 let qtG := rowsOf Mut_i
 let qkT := rowsOf Mut_o
 let qMB := rowsOf qZB
 let qz := rowsOf qcB
 let eu8_c := rowsOf u8_c
 let qkF := @lenI Mut
 show AC Tryz.prog 7 [.v (.im true (eu8_c a0))] _ _
 refine run3 Tryz.func7 (by rfl) (by rfl) (by cbv) ⟨by decide, rfl⟩ ?_
 intro ar cm bo sc sa sx ss sl bs sb ln sr ap up rp fr ge le lt nz mm ma sm fl al ci hL F hP hA hT hM hC
 refine Run.seq ?_
 refine Run.region hL hT [] (by cbv) hq0 ?_
 refine Run.seq ?_
 obtain ⟨⟨r1v_b, r1v_i, r1v_h⟩, h_r1, h⟩ := bnd h
 refine Run.region hL hT [(1, .call [true] [.v (.jk)] [.v (.bx 119 [.im true (eu8_c r1v_b), .s (.int .i64 r1v_i), .s (.int .i64 r1v_h)])])] (by cbv) ?_ ?_
 · exact (hq (hC (qoR h_r1)) hq0)
 refine Run.seq ?_
 obtain ⟨⟨⟨qiV, qQI, qRI⟩, ⟨⟨qFF⟩, qbH, qTI⟩⟩, h_r2, h⟩ := bnd h
 refine Run.region hL hT [(1, .call [true] [.v (.bx 119 [.im true (eu8_c r1v_b), .s (.int .i64 qQI), .s (.int .i64 qRI)])] [.ag [.im true (qB qFF), .s (.int .i64 qbH), .im true (qMB qTI)]])] (by cbv) ?_ ?_
 · exact (hq (hC (qXK h_r2)) (hq Tt hq0))
 refine Run.seq ?_
 obtain ⟨⟨⟨qHb, qCN, qDN⟩, ⟨qcM, qLH, qdM, qjO, qeM, qUI, qkO, qIJ, qOL⟩⟩, h_r3, h⟩ := bnd h
 refine Run.region hL hT [(3, .call [true, false] [.v (.bx 119 [.im true (eu8_c r1v_b), .s (.int .i64 qCN), .s (.int .i64 qDN)]), .ag [.jk]] [.ag [.s (.int .i64 qcM), .ow 98 (qO qLH), .s (.int .i64 qdM), .s (.bool qjO), .s (.int .i64 qeM), .ow 3 (qB qUI), .s (.bool qkO), .s (.int .i64 qIJ), .s (.int .i64 qOL)]])] (by cbv) ?_ ?_
 · exact (hq Tt (hq (hC (qYK h_r3)) (hq Tt hq0)))
 refine Run.seq ?_
 refine Run.region hL hT [] (by cbv) ?_ ?_
 · exact (hq Tt (hq Tt hq0))
 refine Run.seq ?_
 refine Run.region hL hT [] (by cbv) hq0 ?_
 refine Run.seq ?_
 refine Run.seq ?_
 refine Run.region hL hT [] (by cbv) hq0 ?_
 refine Run.block ?_
 refine Run.loop7 (fun (z32 : Int) (z33 : Int) (z34 : List Int) (z35 : Int) (z36 : List (List Row)) (z37 : List Mut) (z38 : Int) => ⟨56, 100000, [(2, .pt 1 0 0), (3, .pt 2 0 0), (5, .pt 3 0 0), (6, .pt 4 0 0), (7, .pt 5 0 0), (8, .pt 8 0 0), (9, .rf 9), (10, .t (.s (.int .i64 z38)))], [(1, .box 29 [.t (.s (.slice none 0 0)), .t (.s (.int .i64 0)), .t (.s (.slice none 0 0))]), (2, .box 32 [.t (.s (.int .i64 0)), .t (.s (.slice none 0 0)), .t (.s (.int .i64 0)), .t (.s (.bool false)), .t (.s (.int .i64 0)), .t (.s (.slice none 0 0)), .t (.s (.bool false)), .t (.s (.int .i64 0)), .t (.s (.int .i64 0))]), (3, .box 119 [.t (.im true (eu8_c r1v_b)), .t (.s (.int .i64 z32)), .t (.s (.int .i64 z33))]), (4, .box 29 [.t (.im true (qB qFF)), .t (.s (.int .i64 qbH)), .t (.im true (qMB qTI))]), (5, .box 32 [.t (.s (.int .i64 qcM)), .rf 6, .t (.s (.int .i64 qdM)), .t (.s (.bool qjO)), .t (.s (.int .i64 qeM)), .rf 7, .t (.s (.bool qkO)), .t (.s (.int .i64 qIJ)), .t (.s (.int .i64 qOL))]), (6, .row 0 98 3 (qO qLH)), (7, .row 0 3 1 (qB qUI)), (8, .box 29 [.t (.im true (qB z34)), .t (.s (.int .i64 z35)), .t (.im true (qMB z36))]), (9, .row 0 79 4 (qkT z37))]⟩) (x0 := qCN) (x1 := qDN) (x2 := qFF) (x3 := qbH) (x4 := qTI) (x5 := []) (x6 := 0) h (Weak.of _ [(1, 0), (2, 1), (3, 4097), (4, 8194), (5, 12292), (6, 12291), (7, 12547), (8, 16385), (9, 20480)] hA (by cbv) ?_) (fun _ _ _ _ _ _ _ => rfl) ?_
 · repeat (first | exact hq0 | refine hq (by first | exact Tt | rfl) ?_)
 intro k z32 z33 z34 z35 z36 z37 z38 h
 rw [qwB.l0] at h
 refine Run.seq ?_
 refine Run.seq ?_
 obtain ⟨⟨⟨qae, qsZ, qtZ⟩, qbe⟩, h_r39, h⟩ := bnd h
 refine Run.region hL hT [(6, .call [true, false] [.v (.bx 119 [.im true (eu8_c r1v_b), .s (.int .i64 qsZ), .s (.int .i64 qtZ)]), .v (.jk)] [.v (.s (.int .i64 qbe))])] (by cbv) ?_ ?_
 · exact (hq Tt (hq (fun _ => hq0) (hq (fun g41 => (hq g41 hq0)) (hq (fun _ => hq0) (hq (fun g43 => (hq g43 (hq (hC (qr (gd_t h_r39 g43))) hq0))) (hq Tt (hq Tt (hq Tt (hq (fun g44 => (hq g44 (hq Tt hq0))) (hq (fun g45 => (hq g45 (hq g45 (hq Tt hq0)))) (hq (fun q46 => (hq q46 hq0)) (hq (fun _ => hq0) hq0))))))))))))
 rw [show ln (qkT z37) = qkF z37 from ln_eq Mut_o _]
 refine Run.cond (by cbv) (hq0) (fun c48 => ?_) (fun c48 => ?_)
 ·
  have h := if_t c48 h
  refine Run.skip ?_
  refine Run.seq ?_
  refine Run.block ?_
  refine Run.seq ?_
  obtain ⟨⟨⟨qce, qlO, qmO⟩, ⟨qfM, qPL, ⟨qJJ, qMH⟩⟩⟩, h_r49, h⟩ := bnd h
  refine Run.region hL hT [(2, .call [true, false] [.v (.bx 119 [.im true (eu8_c r1v_b), .s (.int .i64 qlO), .s (.int .i64 qmO)]), .ag [.jk, .jk, .jk]] [.ag [.s (.int .i64 qfM), .s (.int .i64 qPL), .s (.int .i64 qJJ), .ow 3 (qB qMH)]])] (by cbv) ?_ ?_
  · exact (hq Tt (hq (hC (qAM h_r49)) (hq Tt hq0)))
  refine Run.seq ?_
  obtain ⟨⟨⟨⟨qkD⟩, qKJ, qlF⟩, ⟨qoM, qZP, qaP, ⟨qQL, qLJ⟩, ⟨qRL, qMJ⟩⟩, quZ⟩, h_r50, h⟩ := bnd h
  refine Run.region hL hT [(2, .call [false, false] [.ag [.jk, .jk, .jk], .ag [.jk, .jk, .jk, .jk]] [.ag [.ow 3 (qB qkD), .s (.int .i64 qKJ), .ow 50 (qz qlF)], .ag [.s (.int .i64 qoM), .s (.bool qZP), .s (.bool qaP), .s (.int .i64 qQL), .ow 3 (qB qLJ), .s (.int .i64 qRL), .ow 3 (qB qMJ)], .v (.s (.bool quZ))])] (by cbv) ?_ ?_
  · exact (hq Tt (hq Tt (hq (hC (AC.args (qML h_r50) (ALe.ag rfl LLe.r (ALe.ag rfl (LLe.c (LLe.c (LLe.c (LLe.cons (LLe.im (RLe.eq (qQC qKD _))) LLe.nil)))) ALe.nil)))) (hq Tt (hq Tt hq0)))))
  refine Run.seq ?_
  refine Run.region hL hT [] (by cbv) hq0 ?_
  refine Run.cond (by cbv) (hq0) (fun c51 => ?_) (fun c51 => ?_)
  ·
   have h := if_t c51 h
   refine Run.seq ?_
   refine Run.region hL hT [] (by cbv) ?_ ?_
   · exact (hq Tt (hq Tt hq0))
   obtain ⟨l52, h_l52, h⟩ := bnd h
   obtain ⟨l53, h_l53, h⟩ := bnd h
   refine Run.region hL hT [] (by cbv) ?_ ?_
   · exact (hq Tt (hq (qwD (P := Tryz.prog) (f := Mut_o) RLe.r (qUB (f := Mut_o) h_l52 (RLe.cons rfl LLe.r RLe.nil)) h_l53) hq0))
   refine Run.row (rows := (ap (qkT z37) ([[.s (.int .i64 qfM), .s (.int .i64 qPL), .s (.int .i64 qJJ), .ow 3 (qB qMH)]]))) 120483 (qkT l53) (by cbv) (qvD (f := Mut_o) RLe.r (qUB (f := Mut_o) h_l52 (RLe.cons rfl LLe.r RLe.nil)) h_l53) ?_
   refine Run.region hL hT [] (by cbv) ?_ ?_
   · exact (hq Tt hq0)
   refine ⟨qlO, qmO, qkD, qKJ, qlF, l53, (ar .add .i64 z38 1), h, (Weak.keep (rows := qB qkD) 108194 (by cbv) (qB qkD) (qQC qKD _)).trans ((Weak.keep (rows := qz qlF) 108450 (by cbv) (qMB qlF) (qQC qBL _)).trans (Weak.of _ [(1, 1), (2, 2), (3, 3), (4, 4), (5, 5), (6, 6), (7, 7), (8, 8), (9, 120483)] hA (by cbv) ?_))⟩
   repeat (first | exact hq0 | refine hq (by first | exact Tt | rfl) ?_)
  have h := if_f c51 h
  refine Run.skip ?_
  refine Run.region hL hT [] (by cbv) ?_ ?_
  · exact (hq Tt hq0)
  refine ⟨qlO, qmO, z34, z35, z36, z37, (ar .add .i64 z38 1), h, Weak.of _ [(1, 1), (2, 2), (3, 3), (4, 4), (5, 5), (6, 6), (7, 7), (8, 8), (9, 9)] hA (by cbv) ?_⟩
  repeat (first | exact hq0 | refine hq (by first | exact Tt | rfl) ?_)
 have h := if_f c48 h
 refine Run.exit ?_
 refine Run.seq ?_
 refine Run.draw hL hT hM [] (by cbv) (by cbv) (by cbv) (by cbv) (by cbv) ?_ ?_
 · exact (hq Tt (hq Tt (hq Tt (hq Tt hq0))))
 refine Run.weak ?_ (Weak.keep (rows := qO qLH) 6 (by cbv) (qO qLH) (qQC qua _))
 refine Run.weak ?_ (Weak.keep (rows := qB qUI) 7 (by cbv) (qB qUI) (qQC qKD _))
 refine Run.weak ?_ (Weak.keep (rows := qkT z37) 9 (by cbv) (qtG z37) (qQC qlc _))
 refine Run.ret ?_
 cases h
 refine ⟨_, _, by cbv, ?_, ?_⟩
 · exact LLe.r
 exact (ALe.ag rfl LLe.r (ALe.ag rfl LLe.r (ALe.v LLe.r ALe.nil)))
theorem qEG {a0 : List Row} {r : (List Row)} (h : qzB.f a0 = some r) : AC Tryz.prog 103 [.v (.im false (rowsOf Row_i a0))] [.v (.jk)] [.v (.ow 56 (rowsOf Row_o r))] := by
 unfold qzB.f at h
 let qB := rowsOf Int_c
 let qAB := rowsOf Row_i
 let qT := rowsOf Row_o
 let qm := @lenI Row
 show AC Tryz.prog 103 [.v (.im false (qAB a0))] _ _
 refine run3 Tryz.func103 (by rfl) (by rfl) (by cbv) ⟨by decide, rfl⟩ ?_
 intro ar cm bo sc sa sx ss sl bs sb ln sr ap up rp fr ge le lt nz mm ma sm fl al ci hL F hP hA hT hM hC
 refine Run.seq ?_
 refine Run.region hL hT [] (by cbv) hq0 ?_
 refine Run.seq ?_
 refine Run.region hL hT [] (by cbv) hq0 ?_
 refine Run.seq ?_
 refine Run.seq ?_
 refine Run.region hL hT [] (by cbv) hq0 ?_
 rw [show ln (qAB a0) = qm a0 from ln_eq Row_i _]
 refine Run.block ?_
 refine Run.loop2 (fun (z5 : List Row) (z6 : Int) => ⟨20, 100000, [(3, .rf 1), (7, .t (.im false (qAB a0))), (8, .t (.s (.int .i64 (qm a0)))), (9, .t (.s (.int .i64 z6)))], [(1, .row 0 56 2 (qT z5))]⟩) (x0 := []) (x1 := 0) h (Weak.of _ [(1, 4096)] hA (by cbv) ?_) (fun _ _ => rfl) ?_
 · repeat (first | exact hq0 | refine hq (by first | exact Tt | rfl) ?_)
 intro k z5 z6 h
 rw [qzB.l0] at h
 refine Run.seq ?_
 refine Run.region hL hT [] (by cbv) ?_ ?_
 · exact (hq Tt hq0)
 refine Run.seq ?_
 refine Run.cond (by cbv) (hq0) (fun c7 => ?_) (fun c7 => ?_)
 ·
  have h := if_t c7 h
  refine Run.skip ?_
  refine Run.seq ?_
  refine Run.block ?_
  refine Run.seq ?_
  obtain ⟨⟨qvZ, qnO⟩, h_x8, h⟩ := bnd h
  refine Run.region hL hT [(0, .el [.s (.int .i64 qvZ), .im false (qB qnO)])] (by cbv) ?_ ?_
  · exact (hq (qS h_x8) (hq (ql (f := Row_i) h_x8) (hq (qt (f := Row_i) h_x8) (hq Tt hq0))))
  obtain ⟨⟨qsb, qlT⟩, h_r9, h⟩ := bnd h
  obtain ⟨l10, h_l10, h⟩ := bnd h
  obtain ⟨l11, h_l11, h⟩ := bnd h
  refine Run.region hL hT [(2, .call [false] [.ag [.jk, .jk]] [.ag [.s (.int .i64 qsb), .ow 3 (qB qlT)]])] (by cbv) ?_ ?_
  · exact (hq Tt (hq (hC (qsD h_r9)) (hq (qwD (P := Tryz.prog) (f := Row_o) RLe.r (qUB (f := Row_o) h_l10 (RLe.cons rfl LLe.r RLe.nil)) h_l11) hq0)))
  refine Run.row (rows := (ap (qT z5) ([[.s (.int .i64 qsb), .ow 3 (qB qlT)]]))) 108196 (qT l11) (by cbv) (qvD (f := Row_o) RLe.r (qUB (f := Row_o) h_l10 (RLe.cons rfl LLe.r RLe.nil)) h_l11) ?_
  refine Run.region hL hT [] (by cbv) ?_ ?_
  · exact (hq Tt hq0)
  refine ⟨l11, (ar .add .i64 z6 1), h, Weak.of _ [(1, 108196)] hA (by cbv) ?_⟩
  repeat (first | exact hq0 | refine hq (by first | exact Tt | rfl) ?_)
 have h := if_f c7 h
 refine Run.exit ?_
 refine Run.seq ?_
 refine Run.region hL hT [] (by cbv) hq0 ?_
 refine Run.ret ?_
 cases h
 refine ⟨_, _, by cbv, ?_, ?_⟩
 · exact LLe.r
 exact (ALe.v LLe.r ALe.nil)
theorem quD {qE : List Int} {qL : Int} {qI : List (List Row)} {r : Store} (h : qfB.f (Store.mk (Schema.mk qE) qL qI) = some r) : AC Tryz.prog 45 [.ag [.im false (rowsOf Int_c qE), .s (.int .i64 qL), .im false (rowsOf qZB qI)]] [.ag [.jk, .jk, .jk]] [.ag [.ow 3 (rowsOf Int_c r.Schema.Cols), .s (.int .i64 r.Version), .ow 50 (rowsOf qcB r.Tables)]] := by
 unfold qfB.f at h
 let qB := rowsOf Int_c
 let qMB := rowsOf qZB
 let qz := rowsOf qcB
 let qAB := rowsOf Row_i
 let qT := rowsOf Row_o
 let qRC := @lenI (List Row)
 show AC Tryz.prog 45 [.ag [.im false (qB qE), .s (.int .i64 qL), .im false (qMB qI)]] _ _
 refine run3 Tryz.func45 (by rfl) (by rfl) (by cbv) ⟨by decide, rfl⟩ ?_
 intro ar cm bo sc sa sx ss sl bs sb ln sr ap up rp fr ge le lt nz mm ma sm fl al ci hL F hP hA hT hM hC
 refine Run.seq ?_
 refine Run.region hL hT [] (by cbv) hq0 ?_
 refine Run.seq ?_
 obtain ⟨r1, h_r1, h⟩ := bnd h
 refine Run.draw hL hT hM [(3, .call [false] [.v (.jk)] [.v (.ow 3 (qB r1))])] (by cbv) (by cbv) (by cbv) (by cbv) (by cbv) ?_ ?_
 · exact (hq Tt (hq (hC (qcI h_r1)) (hq Tt (hq Tt hq0))))
 refine Run.seq ?_
 refine Run.seq ?_
 refine Run.region hL hT [] (by cbv) ?_ ?_
 · exact (hq Tt hq0)
 rw [show ln (qMB qI) = qRC qI from ln_eq qZB _]
 refine Run.block ?_
 refine Run.loop2 (fun (z15 : List (List Row)) (z16 : Int) => ⟨30, 100000, [(2, .pt 1 0 0), (3, .pt 2 0 0), (15, .t (.im false (qMB qI))), (16, .t (.s (.int .i64 (qRC qI)))), (17, .t (.s (.int .i64 z16)))], [(1, .box 29 [.t (.s (.slice none 0 0)), .t (.s (.int .i64 0)), .t (.s (.slice none 0 0))]), (2, .box 29 [.rf 3, .t (.s (.int .i64 qL)), .rf 4]), (3, .row 0 3 1 (qB r1)), (4, .row 0 50 1 (qz z15))]⟩) (x0 := []) (x1 := 0) h ((Weak.nilB (l := [.rf 4099, .t (.s (.int .i64 qL))]) hT 4104 2 13288 50 rfl (by cbv) (by cbv) (by cbv)).trans (Weak.of _ [(1, 1), (2, 4104), (3, 4099), (4, 13288)] hA (by cbv) ?_)) (fun _ _ => rfl) ?_
 · repeat (first | exact hq0 | refine hq (by first | exact Tt | rfl) ?_)
 intro k z15 z16 h
 rw [qfB.l0] at h
 refine Run.seq ?_
 refine Run.region hL hT [] (by cbv) ?_ ?_
 · exact (hq Tt hq0)
 refine Run.seq ?_
 refine Run.cond (by cbv) (hq0) (fun c17 => ?_) (fun c17 => ?_)
 ·
  have h := if_t c17 h
  refine Run.skip ?_
  refine Run.seq ?_
  refine Run.block ?_
  refine Run.seq ?_
  obtain ⟨x18, h_x18, h⟩ := bnd h
  refine Run.region hL hT [(0, .el [.im false (qAB x18)])] (by cbv) ?_ ?_
  · exact (hq (qS h_x18) (hq (ql (f := qZB) h_x18) (hq (qt (f := qZB) h_x18) hq0)))
  obtain ⟨r19, h_r19, h⟩ := bnd h
  obtain ⟨l20, h_l20, h⟩ := bnd h
  obtain ⟨l21, h_l21, h⟩ := bnd h
  refine Run.draw hL hT hM [(3, .call [false] [.v (.jk)] [.v (.ow 56 (qT r19))])] (by cbv) (by cbv) (by cbv) (by cbv) (by cbv) ?_ ?_
  · exact (hq Tt (hq (hC (qEG h_r19)) (hq (qwD (P := Tryz.prog) (f := qcB) RLe.r (qUB (f := qcB) h_l20 (RLe.cons rfl LLe.r RLe.nil)) h_l21) (hq Tt hq0))))
  refine Run.row (rows := (ap (qz z15) ([[.ow 56 (qT r19)]]))) 108197 (qz l21) (by cbv) (qvD (f := qcB) RLe.r (qUB (f := qcB) h_l20 (RLe.cons rfl LLe.r RLe.nil)) h_l21) ?_
  refine Run.region hL hT [] (by cbv) ?_ ?_
  · exact (hq Tt hq0)
  refine ⟨l21, (ar .add .i64 z16 1), h, Weak.of _ [(1, 1), (2, 2), (3, 3), (4, 108197)] hA (by cbv) ?_⟩
  repeat (first | exact hq0 | refine hq (by first | exact Tt | rfl) ?_)
 have h := if_f c17 h
 refine Run.exit ?_
 refine Run.seq ?_
 refine Run.region hL hT [] (by cbv) ?_ ?_
 · exact (hq Tt (hq Tt hq0))
 refine Run.ret ?_
 cases h
 refine ⟨_, _, by cbv, ?_, ?_⟩
 · exact LLe.r
 exact (ALe.ag rfl LLe.r ALe.nil)
theorem qSL {qE : List Int} {qL : Int} {qI : List (List Row)} {r : Store} (h : qTG.f (Store.mk (Schema.mk qE) qL qI) = some r) : AC Tryz.prog 44 [.ag [.im false (rowsOf Int_c qE), .s (.int .i64 qL), .im false (rowsOf qZB qI)]] [.ag [.jk, .jk, .jk]] [.ag [.ow 3 (rowsOf Int_c r.Schema.Cols), .s (.int .i64 r.Version), .ow 50 (rowsOf qcB r.Tables)]] := by
 unfold qTG.f at h
 let qB := rowsOf Int_c
 let qMB := rowsOf qZB
 let qz := rowsOf qcB
 show AC Tryz.prog 44 [.ag [.im false (qB qE), .s (.int .i64 qL), .im false (qMB qI)]] _ _
 refine run3 Tryz.func44 (by rfl) (by rfl) (by cbv) ⟨by decide, rfl⟩ ?_
 intro ar cm bo sc sa sx ss sl bs sb ln sr ap up rp fr ge le lt nz mm ma sm fl al ci hL F hP hA hT hM hC
 refine Run.seq ?_
 refine Run.region hL hT [] (by cbv) hq0 ?_
 refine Run.seq ?_
 refine Run.seq ?_
 obtain ⟨r1, h_r1, h⟩ := bnd h
 refine Run.region hL hT [(1, .call [false] [.ag [.jk, .jk, .jk]] [.v (.s (.bool r1))])] (by cbv) ?_ ?_
 · exact (hq Tt (hq (hC (qrD h_r1)) hq0))
 refine Run.cond (by cbv) (hq0) (fun c2 => ?_) (fun c2 => ?_)
 ·
  have h := if_t c2 h
  refine Run.seq ?_
  refine Run.region hL hT [] (by cbv) ?_ ?_
  · exact (hq Tt hq0)
  refine Run.ret ?_
  cases h
  refine ⟨_, _, by cbv, ?_, ?_⟩
  · exact LLe.r
  exact (ALe.ag rfl (LLe.cons LLe.nilO (LLe.c (LLe.cons LLe.nilO LLe.nil))) ALe.nil)
 have h := if_f c2 h
 refine Run.skip ?_
 refine Run.seq ?_
 obtain ⟨⟨⟨qpM⟩, qtU, qNX⟩, h_r3, h⟩ := bnd h
 refine Run.region hL hT [(1, .call [false] [.ag [.jk, .jk, .jk]] [.ag [.ow 3 (qB qpM), .s (.int .i64 qtU), .ow 50 (qz qNX)]])] (by cbv) ?_ ?_
 · exact (hq Tt (hq (hC (quD h_r3)) (hq Tt hq0)))
 refine Run.ret ?_
 cases h
 refine ⟨_, _, by cbv, ?_, ?_⟩
 · exact LLe.r
 exact (ALe.ag rfl LLe.r ALe.nil)
theorem qwR {qK : List Int} {qYB : Int} {qN : Int} {qsB : Int} {qy : List Int} {r : Bool} (h : qnH.f (Schema.mk qK) (Mut.mk qYB qN (Row.mk qsB qy)) = some r) : AC Tryz.prog 104 [.ag [.im false (rowsOf Int_c qK)], .ag [.s (.int .i64 qYB), .s (.int .i64 qN), .s (.int .i64 qsB), .im false (rowsOf Int_c qy)]] [.ag [.jk], .ag [.jk, .jk, .jk, .jk]] [.v (.s (.bool r))] := by
 unfold qnH.f at h
 let qB := rowsOf Int_c
 let qQ := @lenI Int
 show AC Tryz.prog 104 [.ag [.im false (qB qK)], .ag [.s (.int .i64 qYB), .s (.int .i64 qN), .s (.int .i64 qsB), .im false (qB qy)]] _ _
 refine run3 Tryz.func104 (by rfl) (by rfl) (by cbv) ⟨by decide, rfl⟩ ?_
 intro ar cm bo sc sa sx ss sl bs sb ln sr ap up rp fr ge le lt nz mm ma sm fl al ci hL F hP hA hT hM hC
 refine Run.seq ?_
 refine Run.region hL hT [] (by cbv) hq0 ?_
 refine Run.seq ?_
 refine Run.seq ?_
 refine Run.region hL hT [] (by cbv) ?_ ?_
 · exact (hq Tt (hq Tt hq0))
 refine Run.cond (by cbv) (hq0) (fun c1 => ?_) (fun c1 => ?_)
 ·
  have h := if_t c1 h
  refine Run.seq ?_
  obtain ⟨r2, h_r2, h⟩ := bnd h
  obtain ⟨r3, h_r3, h⟩ := bnd h
  obtain ⟨r4, h_r4, h⟩ := bnd h
  refine Run.region hL hT [(1, .call [false] [.ag [.jk]] [.v (.s (.bool r2))]), (6, .call [false, false] [.ag [.jk], .v (.jk)] [.v (.s (.bool r3))]), (12, .call [false, false, false] [.v (.jk), .v (.jk), .v (.jk)] [.v (.s (.bool r4))])] (by cbv) ?_ ?_
  · exact (hq Tt (hq (hC (qME h_r2)) (hq (fun g5 => (hq Tt hq0)) (hq (fun _ => hq0) (hq (fun g7 => (hq g7 (hq Tt hq0))) (hq (fun g8 => (hq g8 (hq g8 (hq (hC (qLE (gd_t h_r3 g8))) hq0)))) (hq (fun q9 => (hq q9 hq0)) (hq (fun _ => hq0) (hq (fun _ => hq0) (hq (fun g12 => (hq g12 hq0)) (hq (fun g13 => (hq g13 (hq Tt hq0))) (hq (fun g14 => (hq g14 (hq (hC (qSB (gd_t h_r4 g14))) hq0))) (hq (fun q15 => (hq q15 hq0)) (hq (fun _ => hq0) (hq (fun _ => hq0) (hq (fun g18 => (hq g18 hq0)) (hq (fun g19 => (hq g19 (hq Tt hq0))) (hq (fun g20 => (hq g20 hq0)) (hq (fun g21 => (hq g21 (hq Tt hq0))) (hq (fun q22 => (hq q22 hq0)) (hq (fun _ => hq0) hq0)))))))))))))))))))))
  rw [show ln (qB qy) = qQ qy from ln_eq Int_c _]
  refine Run.ret ?_
  cases h
  refine ⟨_, _, by cbv, ?_, ?_⟩
  · exact LLe.r
  exact (ALe.v LLe.r ALe.nil)
 have h := if_f c1 h
 refine Run.skip ?_
 refine Run.seq ?_
 obtain ⟨r24, h_r24, h⟩ := bnd h
 obtain ⟨r25, h_r25, h⟩ := bnd h
 refine Run.region hL hT [(2, .call [false, false, false] [.v (.jk), .v (.jk), .v (.jk)] [.v (.s (.bool r24))]), (9, .call [false, false, false] [.ag [.jk], .v (.jk), .ag [.jk, .jk]] [.v (.s (.bool r25))])] (by cbv) ?_ ?_
 · exact (hq Tt (hq (hC (qSB h_r24)) (hq (fun g26 => (hq Tt hq0)) (hq (fun _ => hq0) (hq (fun g28 => (hq g28 (hq Tt hq0))) (hq (fun _ => hq0) (hq (fun g30 => (hq g30 (hq Tt hq0))) (hq (fun g31 => (hq g31 (hq g31 (hq g31 (hq (hC (qFL (gd_t h_r25 g31))) hq0))))) (hq (fun q32 => (hq q32 hq0)) (hq (fun _ => hq0) hq0))))))))))
 refine Run.ret ?_
 cases h
 refine ⟨_, _, by cbv, ?_, ?_⟩
 · exact LLe.r
 exact (ALe.v LLe.r ALe.nil)
set_option maxRecDepth 8000 in
theorem qcH {a0 : List Row} {a1 a2 : Int} {r : List Row} (h : qZD.f a0 a1 a2 = some r) : AC Tryz.prog 143 [.v (.ow 56 (rowsOf Row_o a0)), .v (.s (.int .i64 a1)), .v (.s (.int .i64 a2))] [.v .jk, .v .jk, .v .jk] [.v (.ow 56 (rowsOf Row_o r))] := by
 unfold qZD.f delO at h
 split at h
 ·
  rename_i hc
  obtain ⟨c0, c1, c2⟩ := hc
  obtain ⟨i, rfl⟩ : ∃ k : Nat, a1 = k := ⟨a1.toNat, by omega⟩
  obtain ⟨j, rfl⟩ : ∃ k : Nat, a2 = k := ⟨a2.toNat, by omega⟩
  simp only [Option.some.injEq] at h
  subst h
  have hr : rowsOf Row_o (a0.take ((i : Nat) : Int).toNat ++ a0.drop ((j : Nat) : Int).toNat) = (rowsOf Row_o a0).take i ++ (rowsOf Row_o a0).drop j := by simp [rowsOf, List.map_take, List.map_drop]
  rw [hr]
  have hl := rowsOf_len Row_o a0
  generalize rowsOf Row_o a0 = R at *
  obtain ⟨D3, hD3⟩ : ∃ D, D = R.take i ++ R.drop j := ⟨_, rfl⟩
  rw [← hD3]
  have c1 : i ≤ j := by omega
  have c2 : j ≤ R.length := by omega
  have hlR : Ls.ln R = (R.length : Int) := rfl
  let ar := Ls.ar; let cm := Ls.cm; let bo := Ls.bo; let sc := Ls.sc; let sa := Ls.sa; let sx := Ls.sx; let ss := Ls.ss; let sl := Ls.sl; let bs := Ls.bs; let sb := Ls.sb; let ln := Ls.ln; let sr := Ls.sr; let ap := Ls.ap; let up := Ls.up; let rp := Ls.rp; let fr := Ls.fr; let ge := Ls.ge; let le := Ls.le; let lt := Ls.lt; let nz := Ls.nz; let mm := Ls.mm; let ma := Ls.ma; let sm := Ls.sm; let fl := Ls.fl; let al := Ls.al; let ci := Ls.ci
  have hL : (⟨ar, cm, bo, sc, sa, sx, ss, sl, bs, sb, ln, sr, ap, up, rp, fr, ge, le, lt, nz, mm, ma, sm, fl, al, ci⟩ : Lf) = Ls := rfl
  refine AC.of_run2 qqE Tryz.func143 (by rfl) (by rfl) (by cbv) ⟨by decide, rfl⟩ fun F hP hA => ?_
  have hT : TabOk F.P tab := hP ▸ qqE
  have hM : F.P.follows .mixedOrders = true := hP ▸ mixed
  refine Run.seq ?_
  refine Run.region hL hT [] (by cbv) hq0 ?_
  refine Run.seq ?_
  refine Run.region hL hT [(5, .hd [0] .u [])] (by cbv) ?_ ?_
  · exact hq (qfS (hT 50 _ rfl) rfl (hT 56 _ rfl) (by omega) (by omega) (by show (j : Int) ≤ (R.length : Int); omega) (Int.le_refl _)) hq0
  refine Run.seq ?_
  refine Run.seq ?_
  refine Run.region hL hT [] (by cbv) ?_ ?_
  · exact hq Tt hq0
  refine Run.cond (by cbv) hq0 (fun c => ?_) (fun c => ?_)
  ·
   have e : (i : Int) = j := of_decide_eq_true c
   obtain rfl : i = j := by omega
   rw [List.take_append_drop] at hD3
   subst hD3
   refine Run.seq ?_
   refine Run.region hL hT [] (by cbv) hq0 ?_
   refine Run.weak ?_ (Weak.mv (v := .rf 0) 0 900000 6 (by cbv) (by cbv) (by cbv) (by cbv))
   refine Run.ret ?_
   refine ⟨_, _, by cbv, ?_, ?_⟩
   · exact LLe.r
   exact ALe.r
  have e : ¬ (i : Int) = j := of_decide_eq_false c
  have c1 : i < j := by omega
  obtain ⟨D1, hD1⟩ : ∃ D, D = delR R i j R.length 2 := ⟨_, rfl⟩
  obtain ⟨D2, hD2⟩ : ∃ D, D = delR D1 (i + (R.length - j)) D1.length D1.length 2 := ⟨_, rfl⟩
  have hl1 : D1.length = R.length := by rw [hD1]; exact qvM (by omega) (by omega) (Nat.le_refl _)
  have hl2 : D2.take (i + (R.length - j)) = D3 := by rw [hD3]; rw [hD2, hl1, hD1]; exact qHW (by omega) (by omega)
  have hj1 := qyO (P := F.P) (x := .tmp 22) (y := .tmp 25) (id := 0) (ver := 0) (hT 50 _ rfl) rfl (hT 56 _ rfl) (h := R.length) (rows := R) c1 c2 (Nat.le_refl _) (rfl : ((i + (R.length - j) : Nat) : Int) = _)
  rw [← hD1] at hj1
  obtain ⟨ki, hki⟩ : ∃ k : Int, k = ((i + (R.length - j) : Nat) : Int) := ⟨_, rfl⟩
  rw [← hki] at hj1
  refine Run.skip ?_
  refine Run.seq ?_
  refine Run.region hL hT [] (by cbv) hq0 ?_
  refine Run.seq ?_
  refine Run.draw hL hT hM [(6, .hd [0] (.sb 0 0 ki) [(0, .row 1 56 2 D1)])] (by cbv) (by cbv) (by cbv) (by cbv) (by cbv) ?_ ?_
  · exact hq (Int.le_refl _) (hq (by show (0 : Int) ≤ (i : Int); omega) (hq (by show (i : Int) ≤ (R.length : Int); omega) (hq (by show (0 : Int) ≤ (j : Int); omega) (hq (by show (j : Int) ≤ (R.length : Int); omega) (hq (Int.le_refl _) (hq hj1 hq0))))))
  refine Run.seq ?_
  refine Run.region hL hT [(2, .hd [0] (.t (.s (.int .i64 ki))) []), (4, .hd [0] (.sb 0 ki (ln R)) []), (5, .hd [0] .u [(0, .row 2 56 2 D2)])] (by cbv) ?_ ?_
  ·
   have hj2 := qGW (P := F.P) (x := .tmp 31) (id := 0) (ver := 1) (hT 50 _ rfl) rfl (hT 56 _ rfl) (by simp) (b0 := i + (R.length - j)) (b1 := R.length) (rows := D1) (by omega) (by omega)
   rw [← hD2, ← hki] at hj2
   exact hq (qWa (hT 50 _ rfl) rfl (by omega)) (hq (qFW (hT 50 _ rfl) rfl (hT 56 _ rfl) (l := ki) (hh := R.length) rfl (.inr ⟨_, _, rfl, rfl⟩) (.inr ⟨_, _, rfl, rfl⟩) (by omega) (by omega) (by show (0 : Int) + (R.length : Int) ≤ (D1.length : Int); omega) (by omega) (by show (R.length : Int) = _; omega)) (hq hj2 hq0))
  refine Run.seq ?_
  refine Run.region hL hT [] (by cbv) hq0 ?_
  refine Run.weak ?_ (Weak.shrink 0 900000 6 (by cbv) (by cbv) (by cbv) (by cbv) hki _ hl2)
  refine Run.ret ?_
  refine ⟨_, _, by cbv, ?_, ?_⟩
  · exact LLe.r
  exact ALe.r
 cases h
theorem qoO {qqD : Int} {qQB : List Int} {a1 : Int} {r : Bool} (h : qEH.f (Row.mk qqD qQB) a1 = some r) : AC Tryz.prog 134 [.ag [.s (.int .i64 qqD), .im false (rowsOf Int_c qQB)], .v (.ip [.s (.int .i64 a1)])] [.ag [.jk, .jk], .v (.jk)] [.v (.s (.bool r))] := by
 unfold qEH.f at h
 let qB := rowsOf Int_c
 show AC Tryz.prog 134 [.ag [.s (.int .i64 qqD), .im false (qB qQB)], .v (.ip [.s (.int .i64 a1)])] _ _
 refine run3 Tryz.func134 (by rfl) (by rfl) (by cbv) ⟨by decide, rfl⟩ ?_
 intro ar cm bo sc sa sx ss sl bs sb ln sr ap up rp fr ge le lt nz mm ma sm fl al ci hL F hP hA hT hM hC
 refine Run.seq ?_
 refine Run.region hL hT [] (by cbv) hq0 ?_
 refine Run.seq ?_
 refine Run.region hL hT [] (by cbv) ?_ ?_
 · exact (hq Tt (hq Tt hq0))
 refine Run.ret ?_
 cases h
 refine ⟨_, _, by cbv, ?_, ?_⟩
 · exact LLe.r
 exact (ALe.v LLe.r ALe.nil)
theorem qPE {a0 : List Row} {a1c0 : Int} {r : Int} (h : qU.f a0 a1c0 = some r) : AC Tryz.prog 133 [.v (.im false (rowsOf Row_i a0)), .v (.fn 134 [.ip [.s (.int .i64 a1c0)]])] [.v (.jk), .v (.jk)] [.v (.s (.int .i64 r))] := by
 unfold qU.f at h
 let qB := rowsOf Int_c
 let qAB := rowsOf Row_i
 let qm := @lenI Row
 show AC Tryz.prog 133 [.v (.im false (qAB a0)), .v (.fn 134 [.ip [.s (.int .i64 a1c0)]])] _ _
 refine run3 Tryz.func133 (by rfl) (by rfl) (by cbv) ⟨by decide, rfl⟩ ?_
 intro ar cm bo sc sa sx ss sl bs sb ln sr ap up rp fr ge le lt nz mm ma sm fl al ci hL F hP hA hT hM hC
 refine Run.weak ?_ (Weak.fnT 1 (by cbv))
 refine Run.seq ?_
 refine Run.region hL hT [] (by cbv) hq0 ?_
 refine Run.seq ?_
 refine Run.seq ?_
 refine Run.region hL hT [] (by cbv) hq0 ?_
 rw [show ln (qAB a0) = qm a0 from ln_eq Row_i _]
 refine Run.block ?_
 refine Run.loop1 (fun (z5 : Int) => ⟨19, 100000, [(0, .t (.im false (qAB a0))), (1, .fn 134 [.t (.ip [.s (.int .i64 a1c0)])]), (7, .t (.s (.int .i64 (qm a0)))), (8, .t (.s (.int .i64 z5)))], []⟩) (x0 := 0) h (Weak.of _ [] hA (by cbv) ?_) (fun _ => rfl) ?_
 · repeat (first | exact hq0 | refine hq (by first | exact Tt | rfl) ?_)
 intro k z5 h
 rw [qU.l0] at h
 refine Run.seq ?_
 refine Run.region hL hT [] (by cbv) ?_ ?_
 · exact (hq Tt hq0)
 refine Run.seq ?_
 refine Run.cond (by cbv) (hq0) (fun c6 => ?_) (fun c6 => ?_)
 ·
  have h := if_t c6 h
  refine Run.skip ?_
  refine Run.seq ?_
  refine Run.block ?_
  refine Run.seq ?_
  refine Run.region hL hT [] (by cbv) hq0 ?_
  refine Run.seq ?_
  obtain ⟨⟨qrZ, qhO⟩, h_x7, h⟩ := bnd h
  obtain ⟨r8, h_r8, h⟩ := bnd h
  refine Run.region hL hT [(3, .el [.s (.int .i64 qrZ), .im false (qB qhO)]), (5, .call [false] [.ag [.jk, .jk], .v (.jk)] [.v (.s (.bool r8))])] (by cbv) ?_ ?_
  · exact (hq (qS h_x7) (hq (ql (f := Row_i) h_x7) (hq (qt (f := Row_i) h_x7) (hq (hC (qoO h_r8)) hq0))))
  refine Run.cond (by cbv) (hq0) (fun c9 => ?_) (fun c9 => ?_)
  ·
   have h := if_t c9 h
   refine Run.seq ?_
   refine Run.region hL hT [] (by cbv) hq0 ?_
   refine Run.ret ?_
   cases h
   refine ⟨_, _, by cbv, ?_, ?_⟩
   · exact LLe.r
   exact (ALe.v LLe.r ALe.nil)
  have h := if_f c9 h
  refine Run.skip ?_
  refine Run.region hL hT [] (by cbv) ?_ ?_
  · exact (hq Tt hq0)
  refine ⟨(ar .add .i64 z5 1), h, Weak.of _ [] hA (by cbv) ?_⟩
  repeat (first | exact hq0 | refine hq (by first | exact Tt | rfl) ?_)
 have h := if_f c6 h
 refine Run.exit ?_
 refine Run.seq ?_
 refine Run.region hL hT [] (by cbv) hq0 ?_
 refine Run.ret ?_
 cases h
 refine ⟨_, _, by cbv, ?_, ?_⟩
 · exact LLe.r
 exact (ALe.v LLe.r ALe.nil)
theorem qVI {a0 : List Row} {a1 : Int} {r : Int} (h : qaF.f a0 a1 = some r) : AC Tryz.prog 76 [.v (.im false (rowsOf Row_i a0)), .v (.s (.int .i64 a1))] [.v (.jk), .v (.jk)] [.v (.s (.int .i64 r))] := by
 unfold qaF.f at h
 let qAB := rowsOf Row_i
 show AC Tryz.prog 76 [.v (.im false (qAB a0)), .v (.s (.int .i64 a1))] _ _
 refine run3 Tryz.func76 (by rfl) (by rfl) (by cbv) ⟨by decide, rfl⟩ ?_
 intro ar cm bo sc sa sx ss sl bs sb ln sr ap up rp fr ge le lt nz mm ma sm fl al ci hL F hP hA hT hM hC
 refine Run.seq ?_
 refine Run.region hL hT [] (by cbv) hq0 ?_
 refine Run.seq ?_
 obtain ⟨r1, h_r1, h⟩ := bnd h
 refine Run.region hL hT [(2, .call [false, false] [.v (.jk), .v (.jk)] [.v (.s (.int .i64 r1))])] (by cbv) ?_ ?_
 · exact (hq (hC (qPE h_r1)) hq0)
 refine Run.ret ?_
 cases h
 refine ⟨_, _, by cbv, ?_, ?_⟩
 · exact LLe.r
 exact (ALe.v LLe.r ALe.nil)
theorem qpO {a0 : List Row} {a1 : Int} {r : (List Row)} (h : qwF.f a0 a1 = some r) : AC Tryz.prog 105 [.v (.im false (rowsOf Row_i a0)), .v (.s (.int .i64 a1))] [.v (.jk), .v (.jk)] [.v (.ow 56 (rowsOf Row_o r))] := by
 unfold qwF.f at h
 let qAB := rowsOf Row_i
 let qT := rowsOf Row_o
 show AC Tryz.prog 105 [.v (.im false (qAB a0)), .v (.s (.int .i64 a1))] _ _
 refine run3 Tryz.func105 (by rfl) (by rfl) (by cbv) ⟨by decide, rfl⟩ ?_
 intro ar cm bo sc sa sx ss sl bs sb ln sr ap up rp fr ge le lt nz mm ma sm fl al ci hL F hP hA hT hM hC
 refine Run.seq ?_
 refine Run.region hL hT [] (by cbv) hq0 ?_
 refine Run.seq ?_
 obtain ⟨r1, h_r1, h⟩ := bnd h
 refine Run.region hL hT [(1, .call [false] [.v (.jk)] [.v (.ow 56 (qT r1))])] (by cbv) ?_ ?_
 · exact (hq (hC (qEG h_r1)) hq0)
 refine Run.seq ?_
 obtain ⟨r2, h_r2, h⟩ := bnd h
 refine Run.region hL hT [(2, .call [false, false] [.v (.jk), .v (.jk)] [.v (.s (.int .i64 r2))])] (by cbv) ?_ ?_
 · exact (hq (hC (qVI h_r2)) hq0)
 refine Run.seq ?_
 refine Run.seq ?_
 refine Run.region hL hT [] (by cbv) ?_ ?_
 · exact (hq Tt hq0)
 refine Run.cond (by cbv) (hq0) (fun c3 => ?_) (fun c3 => ?_)
 ·
  have h := if_t c3 h
  obtain ⟨r4, h_r4, h⟩ := bnd h
  refine Run.region hL hT [(4, .call [true, false, false] [.v (.jk), .v (.jk), .v (.jk)] [.v (.ow 56 (qT r4))])] (by cbv) ?_ ?_
  · exact (hq Tt (hq (hC (qcH h_r4)) hq0))
  refine Run.seq ?_
  refine Run.region hL hT [] (by cbv) hq0 ?_
  refine Run.ret ?_
  cases h
  refine ⟨_, _, by cbv, ?_, ?_⟩
  · exact LLe.r
  exact (ALe.v LLe.r ALe.nil)
 have h := if_f c3 h
 refine Run.skip ?_
 refine Run.seq ?_
 refine Run.region hL hT [] (by cbv) hq0 ?_
 refine Run.ret ?_
 cases h
 refine ⟨_, _, by cbv, ?_, ?_⟩
 · exact LLe.r
 exact (ALe.v LLe.r ALe.nil)
theorem qqM {qqD : Int} {qQB : List Int} {qLC : Int} {qk : List Int} {r : Bool} (h : qKG.f (Row.mk qqD qQB) (Row.mk qLC qk) = some r) : AC Tryz.prog 144 [.ag [.s (.int .i64 qqD), .im false (rowsOf Int_c qQB)], .v (.ip [.s (.int .i64 qLC), .im false (rowsOf Int_c qk)])] [.ag [.jk, .jk], .v (.jk)] [.v (.s (.bool r))] := by
 unfold qKG.f at h
 let qB := rowsOf Int_c
 show AC Tryz.prog 144 [.ag [.s (.int .i64 qqD), .im false (qB qQB)], .v (.ip [.s (.int .i64 qLC), .im false (qB qk)])] _ _
 refine run3 Tryz.func144 (by rfl) (by rfl) (by cbv) ⟨by decide, rfl⟩ ?_
 intro ar cm bo sc sa sx ss sl bs sb ln sr ap up rp fr ge le lt nz mm ma sm fl al ci hL F hP hA hT hM hC
 refine Run.seq ?_
 refine Run.region hL hT [] (by cbv) hq0 ?_
 refine Run.seq ?_
 refine Run.region hL hT [] (by cbv) ?_ ?_
 · exact (hq Tt (hq Tt hq0))
 refine Run.ret ?_
 cases h
 refine ⟨_, _, by cbv, ?_, ?_⟩
 · exact LLe.r
 exact (ALe.v LLe.r ALe.nil)
theorem qEE {a0 : List Row} {qEN : Int} {qWI : List Int} {r : Int} (h : qR.f a0 (Row.mk qEN qWI) = some r) : AC Tryz.prog 133 [.v (.im false (rowsOf Row_i a0)), .v (.fn 144 [.ip [.s (.int .i64 qEN), .im false (rowsOf Int_c qWI)]])] [.v (.jk), .v (.jk)] [.v (.s (.int .i64 r))] := by
 unfold qR.f at h
 let qB := rowsOf Int_c
 let qAB := rowsOf Row_i
 let qm := @lenI Row
 show AC Tryz.prog 133 [.v (.im false (qAB a0)), .v (.fn 144 [.ip [.s (.int .i64 qEN), .im false (qB qWI)]])] _ _
 refine run3 Tryz.func133 (by rfl) (by rfl) (by cbv) ⟨by decide, rfl⟩ ?_
 intro ar cm bo sc sa sx ss sl bs sb ln sr ap up rp fr ge le lt nz mm ma sm fl al ci hL F hP hA hT hM hC
 refine Run.weak ?_ (Weak.fnT 1 (by cbv))
 refine Run.seq ?_
 refine Run.region hL hT [] (by cbv) hq0 ?_
 refine Run.seq ?_
 refine Run.seq ?_
 refine Run.region hL hT [] (by cbv) hq0 ?_
 rw [show ln (qAB a0) = qm a0 from ln_eq Row_i _]
 refine Run.block ?_
 refine Run.loop1 (fun (z6 : Int) => ⟨19, 100000, [(0, .t (.im false (qAB a0))), (1, .fn 144 [.t (.ip [.s (.int .i64 qEN), .im false (qB qWI)])]), (7, .t (.s (.int .i64 (qm a0)))), (8, .t (.s (.int .i64 z6)))], []⟩) (x0 := 0) h (Weak.of _ [] hA (by cbv) ?_) (fun _ => rfl) ?_
 · repeat (first | exact hq0 | refine hq (by first | exact Tt | rfl) ?_)
 intro k z6 h
 rw [qR.l0] at h
 refine Run.seq ?_
 refine Run.region hL hT [] (by cbv) ?_ ?_
 · exact (hq Tt hq0)
 refine Run.seq ?_
 refine Run.cond (by cbv) (hq0) (fun c7 => ?_) (fun c7 => ?_)
 ·
  have h := if_t c7 h
  refine Run.skip ?_
  refine Run.seq ?_
  refine Run.block ?_
  refine Run.seq ?_
  refine Run.region hL hT [] (by cbv) hq0 ?_
  refine Run.seq ?_
  obtain ⟨⟨qvZ, qnO⟩, h_x8, h⟩ := bnd h
  obtain ⟨r9, h_r9, h⟩ := bnd h
  refine Run.region hL hT [(3, .el [.s (.int .i64 qvZ), .im false (qB qnO)]), (5, .call [false] [.ag [.jk, .jk], .v (.jk)] [.v (.s (.bool r9))])] (by cbv) ?_ ?_
  · exact (hq (qS h_x8) (hq (ql (f := Row_i) h_x8) (hq (qt (f := Row_i) h_x8) (hq (hC (qqM h_r9)) hq0))))
  refine Run.cond (by cbv) (hq0) (fun c10 => ?_) (fun c10 => ?_)
  ·
   have h := if_t c10 h
   refine Run.seq ?_
   refine Run.region hL hT [] (by cbv) hq0 ?_
   refine Run.ret ?_
   cases h
   refine ⟨_, _, by cbv, ?_, ?_⟩
   · exact LLe.r
   exact (ALe.v LLe.r ALe.nil)
  have h := if_f c10 h
  refine Run.skip ?_
  refine Run.region hL hT [] (by cbv) ?_ ?_
  · exact (hq Tt hq0)
  refine ⟨(ar .add .i64 z6 1), h, Weak.of _ [] hA (by cbv) ?_⟩
  repeat (first | exact hq0 | refine hq (by first | exact Tt | rfl) ?_)
 have h := if_f c7 h
 refine Run.exit ?_
 refine Run.seq ?_
 refine Run.region hL hT [] (by cbv) hq0 ?_
 refine Run.ret ?_
 cases h
 refine ⟨_, _, by cbv, ?_, ?_⟩
 · exact LLe.r
 exact (ALe.v LLe.r ALe.nil)
set_option maxHeartbeats 4000000 in
set_option maxRecDepth 100000 in
theorem quG (w : World) (g2 c2 : Nat)
 (v' : Value) (w' : World) (hrun : (Builtin.append_ #[50, 50] 50 #[.slice none 0 0, .slice (some ⟨g2, 0, none⟩) 1 c2]).run Tryz.prog w = .ok v' w') :
 Calls Tryz.prog 145 #[.slice none 0 0, .int .i64 0, .slice (some ⟨g2, 0, none⟩) 1 c2] w fun ex w2 => ex = .returned v' ∧ w2 = w' := by
 go_enter Tryz.func145, Tryz.ntmps145
 go_wp2_with (at_builtin; refine qpC rfl (qyD rfl rfl rfl hrun) ?_)
 all_goals go_ret
 all_goals exact ⟨rfl, rfl⟩
set_option maxHeartbeats 4000000 in
set_option maxRecDepth 100000 in
theorem qzG (w : World) (g c g2 c2 n : Nat) (hnc : n ≤ c)
 (v' : Value) (w' : World) (hrun : (Builtin.append_ #[50, 50] 50 #[.slice (some ⟨g, 0, none⟩) n c, .slice (some ⟨g2, 0, none⟩) 1 c2]).run Tryz.prog w = .ok v' w') :
 Calls Tryz.prog 145 #[.slice (some ⟨g, 0, none⟩) n c, .int .i64 n, .slice (some ⟨g2, 0, none⟩) 1 c2] w fun ex w2 => ex = .returned v' ∧ w2 = w' := by
 go_enter Tryz.func145, Tryz.ntmps145
 go_wp2_with (at_builtin; refine qpC rfl (qyD rfl rfl rfl hrun) ?_)
 all_goals go_ret
 all_goals exact ⟨rfl, rfl⟩
set_option maxHeartbeats 4000000 in
set_option maxRecDepth 100000 in
theorem qdH (w : World) (g c g2 c2 n i : Nat) (cur cur2 A B : Array Value) (hi : i < n) (hroom : n + 1 ≤ c) (hc63 : c ≤ maxLen) (hne : g2 ≠ g) (hg : w.heap[g]? = some (.cells cur 56 (0, 0))) (hcs : cur.size = c * 2) (hg2 : w.heap[g2]? = some (.cells cur2 56 (0, 0)))
 (hcp1 : ∀ ty dc sc, (Builtin.copy_ #[50, 50] ty #[.slice (some ⟨g, (i + 1) * 2, none⟩) (n + 1 - (i + 1)) dc, .slice (some ⟨g, i * 2, none⟩) (n + 1 - i) sc]).run Tryz.prog w.drew = .ok (goInt (n - i : Nat)) (w.drew.setRow g A))
 (hcp2 : ∀ ty dc, (Builtin.copy_ #[50, 50] ty #[.slice (some ⟨g, i * 2, none⟩) (n + 1 - i) dc, .slice (some ⟨g2, 0, none⟩) 1 c2]).run Tryz.prog (w.drew.setRow g A) = .ok (goInt (1 : Nat)) ((w.drew.setRow g A).setRow g B)) :
 Calls Tryz.prog 145 #[.slice (some ⟨g, 0, none⟩) n c, .int .i64 i, .slice (some ⟨g2, 0, none⟩) 1 c2] w fun ex w2 => ex = .returned (.slice (some ⟨g, 0, none⟩) (n + 1) c) ∧ w2 = (w.drew.setRow g A).setRow g B := by
 have mixed := mixed
 have TE : TyOk Tryz.prog 56 _ := qqE 56 _ rfl
 have TS : TyOk Tryz.prog 50 _ := qqE 50 _ rfl
 obtain ⟨ti, hti, htz, htb, _⟩ := TE.info
 have u92 := TS.isS rfl
 have hz1 : ¬ ((1 : Int) = 0) := by omega
 have hz2 : ¬ ((i : Int) = (n : Int)) := by omega
 have hw1 : IntKind.i64.wrap ((i : Int) + (1 : Int)) = (i : Int) + (1 : Int) := by unfold maxLen at hc63; rw [IntKind.wrap_i64]; omega
 have hw2 : IntKind.i64.wrap ((n : Int) + (1 : Int)) = (n : Int) + (1 : Int) := by unfold maxLen at hc63; rw [IntKind.wrap_i64]; omega
 have hb1 : (0 : Int) ≤ (i : Int) + (1 : Int) := by omega
 have hin : i ≤ n := by omega
 have htn : ((i : Int) + (1 : Int)).toNat = i + 1 := by omega
 have hb2 : ¬ (c = i + 1) := by omega
 have hb3 : (i : Int) ≤ (n : Int) + (1 : Int) := by omega
 have hb4 : ¬ (c = i) := by omega
 have hov : ∀ lb cb o, (callFunc 160 #[.slice (some ⟨g2, 0, none⟩) 1 c2, .slice (some ⟨g, o, none⟩) lb cb]).run Tryz.prog w = .ok (.value (.bool false)) w := fun lb cb o => by
  rw [run_callFunc_extern Tryz.func160 (by kernel_rfl) (by kernel_rfl) (by kernel_rfl) (e := Extern.SlicesOverlaps.overlaps #[50, 50] #[4]) (by kernel_rfl),
   Lib.run_overlaps_apart w 50 4 56 u92 2 (fun w => by simp [sizeOf, typeInfo, hti, htz]) ⟨g2, 0, none⟩ ⟨g, o, none⟩ 1 c2 lb cb hne 56 56 cur2.size cur.size (by simp [World.shape?, hg2]) (by simp [World.shape?, hg]) (by omega) (by simp [World.frozen?, hg2]) (by simp [World.frozen?, hg2])]
  rfl
 go_enter Tryz.func145, Tryz.ntmps145
 go_wp2_with (simp only [hov])
 go_region_law_o (refine qXJ rfl (qFE rfl (by simp [Act.eval, Act.put]; rfl) (by simp [Act.eval, Act.put]; rfl) (hcp1 _ _ _)) ?_)
 go_wp2_with (at_builtin; refine qpC rfl (qFE rfl rfl rfl (hcp2 _ _)) ?_)
 go_ret
 exact ⟨rfl, rfl⟩
set_option maxHeartbeats 4000000 in
set_option maxRecDepth 100000 in
theorem qvG (w : World) (g c g2 c2 n i G : Nat) (R A B : Array Value) (hi : i < n) (hnc : n ≤ c) (hroom : c < n + 1) (hc63 : n + 1 ≤ maxLen) (hG : n + 1 ≤ G) (hGm : G ≤ maxLen)
 (hrz : ∀ ty, (Builtin.append_ #[50, 3] ty #[.slice (some ⟨g, 0, none⟩) i c, .int .i64 ((n : Int) + 1 - i)]).run Tryz.prog w = .ok (.slice (some ⟨w.heap.size, 0, none⟩) (n + 1) G) (w.drew.alloc (.cells R 56)))
 (hcp2 : ∀ ty dc, (Builtin.copy_ #[50, 50] ty #[.slice (some ⟨w.heap.size, i * 2, none⟩) (n + 1 - i) dc, .slice (some ⟨g2, 0, none⟩) 1 c2]).run Tryz.prog (w.alloc (.cells R 56)).drew = .ok (goInt (1 : Nat)) ((w.alloc (.cells R 56)).drew.setRow w.heap.size A))
 (hcp1 : ∀ ty dc sc, (Builtin.copy_ #[50, 50] ty #[.slice (some ⟨w.heap.size, (i + 1) * 2, none⟩) (n + 1 - (i + 1)) dc, .slice (some ⟨g, i * 2, none⟩) (n - i) sc]).run Tryz.prog ((w.alloc (.cells R 56)).drew.setRow w.heap.size A).drew = .ok (goInt (n - i : Nat)) (((w.alloc (.cells R 56)).drew.setRow w.heap.size A).drew.setRow w.heap.size B)) :
 Calls Tryz.prog 145 #[.slice (some ⟨g, 0, none⟩) n c, .int .i64 i, .slice (some ⟨g2, 0, none⟩) 1 c2] w fun ex w2 => ex = .returned (.slice (some ⟨w.heap.size, 0, none⟩) (n + 1) G) ∧ w2 = ((w.alloc (.cells R 56)).drew.setRow w.heap.size A).drew.setRow w.heap.size B := by
 have mixed := mixed
 have hz1 : ¬ ((1 : Int) = 0) := by omega
 have hz2 : ¬ ((i : Int) = (n : Int)) := by omega
 have hz3 : (c : Int) < (n : Int) + (1 : Int) := by omega
 have hw1 : IntKind.i64.wrap ((i : Int) + (1 : Int)) = (i : Int) + (1 : Int) := by unfold maxLen at hc63; rw [IntKind.wrap_i64]; omega
 have hw2 : IntKind.i64.wrap ((n : Int) + (1 : Int)) = (n : Int) + (1 : Int) := by unfold maxLen at hc63; rw [IntKind.wrap_i64]; omega
 have hw3 : IntKind.i64.wrap ((n : Int) + (1 : Int) - (i : Int)) = (n : Int) + (1 : Int) - (i : Int) := by unfold maxLen at hc63; rw [IntKind.wrap_i64]; omega
 have hb1 : (0 : Int) ≤ (i : Int) + (1 : Int) := by omega
 have hin : i ≤ n := by omega
 have htn : ((i : Int) + (1 : Int)).toNat = i + 1 := by omega
 have hGi : ¬ (G = i) := by omega
 have hGim : ¬ (G = i + 1) := by omega
 have hci : ¬ (c = i) := by omega
 have hb3 : (i : Int) ≤ (n : Int) := by omega
 go_enter Tryz.func145, Tryz.ntmps145
 go_wp2_with (first
  | (at_builtin; refine qpC rfl (qyD rfl rfl rfl (hrz _)) ?_)
  | (at_builtin; refine qpC rfl (qFE rfl rfl rfl (hcp2 _ _)) ?_))
 go_region_law_o (refine qXJ rfl (qFE rfl (by simp [Act.eval, Act.put]; rfl) (by simp [Act.eval, Act.put]; rfl) (hcp1 _ _ _)) ?_)
 go_wp2
 go_ret
 exact ⟨rfl, rfl⟩
theorem qQG : Roads Tryz.prog 145 50 56 2 3 where
 end0 := fun w g2 c2 v' w' h => quG w g2 c2 v' w' h
 end1 := fun w g c g2 c2 n v' w' hnc h => qzG w g c g2 c2 n hnc v' w' h
 inn := fun w g c g2 c2 n i cur cur2 A B h1 h2 h3 h4 h5 h6 h7 h8 h9 => qdH w g c g2 c2 n i cur cur2 A B h1 h2 h3 h4 h5 h6 h7 h8 h9
 grow := fun w g c g2 c2 n i G R A B h1 h2 h3 h4 h5 h6 h7 h8 h9 => qvG w g c g2 c2 n i G R A B h1 h2 h3 h4 h5 h6 h7 h8 h9
theorem qeH {a0 a2 : List Row} {a1 : Int} {r : List Row} (h : qoC.f a0 a1 a2 = some r) : AC Tryz.prog 145 [.v (.ow 56 (rowsOf Row_o a0)), .v (.s (.int .i64 a1)), .v (.ow 56 (rowsOf Row_o a2))] [.v .jk, .v .jk, .v .jk] [.v (.ow 56 (rowsOf Row_o r))] := by
 unfold qoC.f insO at h
 split at h
 ·
  rename_i hc
  obtain ⟨h1, c0, c1, c2, c3⟩ := hc
  obtain ⟨i, rfl⟩ : ∃ k : Nat, a1 = k := ⟨a1.toNat, by omega⟩
  obtain ⟨x, rfl⟩ := List.length_eq_one_iff.1 h1
  simp only [Option.some.injEq] at h
  subst h
  have hr : rowsOf Row_o (a0.take ((i : Nat) : Int).toNat ++ [x] ++ a0.drop ((i : Nat) : Int).toNat) = (rowsOf Row_o a0).take i ++ [Row_o x] ++ (rowsOf Row_o a0).drop i := by simp [rowsOf, List.map_take, List.map_drop]
  rw [hr]
  have hl := rowsOf_len Row_o a0
  simp only [List.length_singleton] at c2 c3
  exact AC.of_ins ⟨_, Tryz.func145, by rfl, by rfl⟩ (qRE (qqE 56 _ rfl)) (qQG.raw (qqE 50 _ rfl) rfl (qqE 56 _ rfl) (by simp) (qUH (qqE 3 _ rfl) rfl)) (by omega) (by rw [hl]; show (a0.length + 1) * 32 ≤ _; omega) (by omega)
 cases h
theorem qbP {a0 : List Row} {qLC : Int} {qk : List Int} {r : (List Row)} (h : qcG.f a0 (Row.mk qLC qk) = some r) : AC Tryz.prog 106 [.v (.im false (rowsOf Row_i a0)), .ag [.s (.int .i64 qLC), .im false (rowsOf Int_c qk)]] [.v (.jk), .ag [.jk, .jk]] [.v (.ow 56 (rowsOf Row_o r))] := by
 unfold qcG.f at h
 let qB := rowsOf Int_c
 let qAB := rowsOf Row_i
 let qT := rowsOf Row_o
 let qm := @lenI Row
 show AC Tryz.prog 106 [.v (.im false (qAB a0)), .ag [.s (.int .i64 qLC), .im false (qB qk)]] _ _
 refine run3 Tryz.func106 (by rfl) (by rfl) (by cbv) ⟨by decide, rfl⟩ ?_
 intro ar cm bo sc sa sx ss sl bs sb ln sr ap up rp fr ge le lt nz mm ma sm fl al ci hL F hP hA hT hM hC
 refine Run.seq ?_
 refine Run.region hL hT [] (by cbv) hq0 ?_
 refine Run.seq ?_
 obtain ⟨r1, h_r1, h⟩ := bnd h
 refine Run.region hL hT [(1, .call [false] [.v (.jk)] [.v (.ow 56 (qT r1))])] (by cbv) ?_ ?_
 · exact (hq (hC (qEG h_r1)) hq0)
 refine Run.seq ?_
 obtain ⟨r2, h_r2, h⟩ := bnd h
 refine Run.region hL hT [(3, .call [false, false] [.v (.jk), .v (.jk)] [.v (.s (.int .i64 r2))])] (by cbv) ?_ ?_
 · exact (hq Tt (hq (hC (qVI h_r2)) hq0))
 refine Run.seq ?_
 refine Run.seq ?_
 refine Run.region hL hT [] (by cbv) ?_ ?_
 · exact (hq Tt hq0)
 refine Run.cond (by cbv) (hq0) (fun c3 => ?_) (fun c3 => ?_)
 ·
  have h := if_t c3 h
  refine Run.seq ?_
  obtain ⟨⟨qtb, qmT⟩, h_r4, h⟩ := bnd h
  obtain ⟨⟨qqe, qde⟩, h_x5, h⟩ := bnd h
  obtain ⟨l6, h_l6, h⟩ := bnd h
  refine Run.region hL hT [(3, .call [false] [.ag [.jk, .jk]] [.ag [.s (.int .i64 qtb), .ow 3 (qB qmT)]])] (by cbv) ?_ ?_
  · exact (hq Tt (hq (hC (qsD h_r4)) (hq (qS h_x5) (hq (ql (f := Row_o) h_x5) (hq (qS h_x5) (hq (ql (f := Row_o) h_x5) hq0))))))
  refine Run.row (rows := (up (qT r1) r2 0 [.s (.int .i64 qtb), .ow 3 (qB qmT)])) 4097 (qT l6) (by cbv) (qdS (f := Row_o) h_x5 h_l6 rfl LLe.r) ?_
  refine Run.seq ?_
  refine Run.region hL hT [] (by cbv) hq0 ?_
  refine Run.ret ?_
  cases h
  refine ⟨_, _, by cbv, ?_, ?_⟩
  · exact LLe.r
  exact (ALe.v LLe.r ALe.nil)
 have h := if_f c3 h
 refine Run.skip ?_
 refine Run.seq ?_
 obtain ⟨r7, h_r7, h⟩ := bnd h
 refine Run.region hL hT [(2, .call [false, false] [.v (.jk), .v (.jk)] [.v (.s (.int .i64 r7))])] (by cbv) ?_ ?_
 · exact (hq (hC (qEE h_r7)) hq0)
 obtain ⟨K9, h_K9, h⟩ := joinE h
 refine Run.join1 K9 (r := r) (fun (y8 : Int) => ⟨34, 100000, [(3, .pt 1 0 0), (5, .rf 2), (6, .t (.s (.int .i64 y8)))], [(1, .box 56 [.t (.s (.int .i64 qLC)), .t (.im false (qB qk))]), (2, .row 0 56 2 (qT r1))]⟩) ?_ ?_
 ·
  skip
  refine Run.seq ?_
  refine Run.region hL hT [] (by cbv) ?_ ?_
  · exact (hq Tt hq0)
  refine Run.cond (by cbv) (hq0) (fun c10 => ?_) (fun c10 => ?_)
  ·
   have h := if_t c10 h
   refine Run.region hL hT [] (by cbv) hq0 ?_
   rw [show ln (qAB a0) = qm a0 from ln_eq Row_i _]
   refine ⟨(qm a0), h, Weak.of _ [(1, 0), (2, 4097)] hA (by cbv) ?_⟩
   repeat (first | exact hq0 | refine hq (by first | exact Tt | rfl) ?_)
  have h := if_f c10 h
  refine Run.skip ?_
  refine ⟨r7, h, Weak.of _ [(1, 0), (2, 4097)] hA (by cbv) ?_⟩
  repeat (first | exact hq0 | refine hq (by first | exact Tt | rfl) ?_)
 intro y8 h
 rw [h_K9] at h
 refine Run.seq ?_
 obtain ⟨⟨qpR, qfJ⟩, h_r11, h⟩ := bnd h
 obtain ⟨l12, h_l12, h⟩ := bnd h
 obtain ⟨r13, h_r13, h⟩ := bnd h
 refine Run.region hL hT [(3, .call [false] [.ag [.jk, .jk]] [.ag [.s (.int .i64 qpR), .ow 3 (qB qfJ)]]), (5, .call [true, false, true] [.v (.jk), .v (.jk), .v (.jk)] [.v (.ow 56 (qT r13))])] (by cbv) ?_ ?_
 · exact (hq Tt (hq (hC (qsD h_r11)) (hq (hC (AC.args (qeH h_r13) (ALe.v LLe.r (ALe.v LLe.r (ALe.v (LLe.ow (qUB (f := Row_o) h_l12 (RLe.cons rfl LLe.r RLe.nil))) ALe.nil))))) hq0)))
 refine Run.ret ?_
 cases h
 refine ⟨_, _, by cbv, ?_, ?_⟩
 · exact LLe.r
 exact (ALe.v LLe.r ALe.nil)
end Go.Proofs.YtbhleignjmcdiaaGreatDoor.L