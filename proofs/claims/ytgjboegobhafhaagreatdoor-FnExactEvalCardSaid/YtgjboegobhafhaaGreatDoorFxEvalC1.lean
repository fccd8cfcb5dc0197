/- The contracts of the program's functions. -/
import Derived.Test.YtgjboegobhafhaaGreatDoorProg
import Derived.Test.YtgjboegobhafhaaGreatDoorFxEvalC0
import Derived.KernelRfl
namespace Go.Proofs.YtgjboegobhafhaaGreatDoor.L
open Go Go.Proofs
set_option linter.unusedVariables false
set_option linter.unusedSimpArgs false
set_option maxRecDepth 8000
def qkQ : Go.Shelf.Ren := ⟨fun | 171 => 130 | 243 => 136 | 246 => 146 | 283 => 150 | 284 => 151 | 285 => 152 | 286 => 153 | 129 => 157 | 317 => 156 | 318 => 158 | 319 => 159 | 320 => 160 | 337 => 161 | 338 => 162 | n => n, fun | 3 => 3 | 9 => 9 | 2 => 2 | 4 => 4 | 171 => 158 | 0 => 0 | 53 => 159 | 37 => 139 | 5 => 5 | 173 => 162 | 212 => 168 | 51 => 169 | 20 => 20 | 213 => 170 | 46 => 152 | 232 => 173 | 233 => 174 | n => n, fun | 17 => 0 | 18 => 1 | 19 => 2 | n => n⟩
theorem laysItoa : Go.Proofs.LaysM.n171 Tryz.prog qkQ := {
 mixed := by kernel_rfl
 f129 := Tryz.func157.trans (congrArg some (by kernel_rfl))
 f171 := Tryz.func130.trans (congrArg some (by kernel_rfl))
 f243 := Tryz.func136.trans (congrArg some (by kernel_rfl))
 f246 := Tryz.func146.trans (congrArg some (by kernel_rfl))
 f283 := Tryz.func150.trans (congrArg some (by kernel_rfl))
 f284 := Tryz.func151.trans (congrArg some (by kernel_rfl))
 f285 := Tryz.func152.trans (congrArg some (by kernel_rfl))
 f286 := Tryz.func153.trans (congrArg some (by kernel_rfl))
 f317 := Tryz.func156.trans (congrArg some (by kernel_rfl))
 f318 := Tryz.func158.trans (congrArg some (by kernel_rfl))
 f319 := Tryz.func159.trans (congrArg some (by kernel_rfl))
 f320 := Tryz.func160.trans (congrArg some (by kernel_rfl))
 f337 := Tryz.func161.trans (congrArg some (by kernel_rfl))
 f338 := Tryz.func162.trans (congrArg some (by kernel_rfl))
 t0 := Tryz.underlying0
 a0 := Tryz.isAgg0
 z0 := Tryz.sizeOf0
 v0 := Tryz.zeroValue0
 t2 := Tryz.underlying2
 a2 := Tryz.isAgg2
 z2 := Tryz.sizeOf2
 v2 := Tryz.zeroValue2
 t3 := Tryz.underlying3
 a3 := Tryz.isAgg3
 z3 := Tryz.sizeOf3
 v3 := Tryz.zeroValue3
 t4 := Tryz.underlying4
 a4 := Tryz.isAgg4
 z4 := Tryz.sizeOf4
 v4 := Tryz.zeroValue4
 t5 := Tryz.underlying5
 a5 := Tryz.isAgg5
 z5 := Tryz.sizeOf5
 v5 := Tryz.zeroValue5
 t9 := Tryz.underlying9
 a9 := Tryz.isAgg9
 z9 := Tryz.sizeOf9
 v9 := Tryz.zeroValue9
 t20 := Tryz.underlying20
 a20 := Tryz.isAgg20
 z20 := Tryz.sizeOf20
 v20 := Tryz.zeroValue20
 t37 := Tryz.underlying139
 a37 := Tryz.isAgg139
 z37 := Tryz.sizeOf139
 v37 := Tryz.zeroValue139
 t46 := Tryz.underlying152
 a46 := Tryz.isAgg152
 z46 := Tryz.sizeOf152
 v46 := Tryz.zeroValue152
 t51 := Tryz.underlying169
 a51 := Tryz.isAgg169
 z51 := Tryz.sizeOf169
 v51 := Tryz.zeroValue169
 t53 := Tryz.underlying159
 a53 := Tryz.isAgg159
 z53 := Tryz.sizeOf159
 v53 := Tryz.zeroValue159
 t171 := Tryz.underlying158
 a171 := Tryz.isAgg158
 z171 := Tryz.sizeOf158
 v171 := Tryz.zeroValue158
 t173 := Tryz.underlying162
 a173 := Tryz.isAgg162
 z173 := Tryz.sizeOf162
 v173 := Tryz.zeroValue162
 t212 := Tryz.underlying168
 a212 := Tryz.isAgg168
 z212 := Tryz.sizeOf168
 v212 := Tryz.zeroValue168
 t213 := Tryz.underlying170
 a213 := Tryz.isAgg170
 z213 := Tryz.sizeOf170
 t232 := Tryz.underlying173
 a232 := Tryz.isAgg173
 z232 := Tryz.sizeOf173
 v232 := Tryz.zeroValue173
 t233 := Tryz.underlying174
 a233 := Tryz.isAgg174
 z233 := Tryz.sizeOf174
 v233 := Tryz.zeroValue174
 g17 := by kernel_rfl
 g18 := by kernel_rfl
 g19 := by kernel_rfl
 i0 := by kernel_rfl
 i2 := by kernel_rfl
 i3 := by kernel_rfl
 i4 := by kernel_rfl
 i5 := by kernel_rfl
 i9 := by kernel_rfl
 i20 := by kernel_rfl
 i37 := by kernel_rfl
 i46 := by kernel_rfl
 i51 := by kernel_rfl
 i53 := by kernel_rfl
 i171 := by kernel_rfl
 i173 := by kernel_rfl
 i212 := by kernel_rfl
 i232 := by kernel_rfl
 i233 := by kernel_rfl
 m17 := by kernel_rfl
 m18 := by kernel_rfl
 m19 := by kernel_rfl }
theorem qRM {a0 : Int} {r : ByteArray} (h : strconv_Itoa.f a0 = some r) : AC Tryz.prog 130 [.v (.s (.int .i64 a0))] [.v .jk] [.v (.s (.string r))] := AC.of_itoa ⟨_, Tryz.func130, by rfl, by rfl⟩ (g := 0) (by kernel_rfl) (fun n h0 h1 w htab => Go.Proofs.Any.strconv_Itoa laysItoa n h0 h1 w htab) h
theorem qQN {a0 : Int} {r : ByteArray} (h : qsF.f a0 = some r) : AC Tryz.prog 122 [.v (.s (.int .i64 a0))] [.v (.jk)] [.v (.s (.string r))] := by
 unfold qsF.f at h
 show AC Tryz.prog 122 [.v (.s (.int .i64 a0))] _ _
 refine run3 Tryz.func122 (by rfl) (by rfl) (by cbv) ⟨by decide, rfl⟩ ?_
 intro ar cm bo sc sa sx ss sl bs sb ln sr ap up rp fr ge le lt nz mm ma sm fl al ci hL F hP hA hT hM hC
 refine Run.seq ?_
 refine Run.region hL hT [] (by cbv) hq0 ?_
 refine Run.seq ?_
 obtain ⟨r1, h_r1, h⟩ := bnd h
 refine Run.region hL hT [(1, .call [false] [.v (.jk)] [.v (.s (.string r1))])] (by cbv) ?_ ?_
 · exact (hq (hC (qRM h_r1)) hq0)
 refine Run.ret ?_
 cases h
 refine ⟨_, _, by cbv, ?_, ?_⟩
 · exact LLe.r
 · exact (ALe.v LLe.r ALe.nil)
theorem qHG {a0 : ByteArray} {r : Bool} (h : qiD.f a0 = some r) : AC Tryz.prog 147 [.v (.s (.string a0))] [.v (.jk)] [.v (.s (.bool r))] := by
 unfold qiD.f at h
 show AC Tryz.prog 147 [.v (.s (.string a0))] _ _
 refine run3 Tryz.func147 (by rfl) (by rfl) (by cbv) ⟨by decide, rfl⟩ ?_
 intro ar cm bo sc sa sx ss sl bs sb ln sr ap up rp fr ge le lt nz mm ma sm fl al ci hL F hP hA hT hM hC
 refine Run.seq ?_
 refine Run.region hL hT [] (by cbv) hq0 ?_
 refine Run.seq ?_
 refine Run.region hL hT [] (by cbv) hq0 ?_
 refine Run.ret ?_
 cases h
 refine ⟨_, _, by cbv, ?_, ?_⟩
 · exact LLe.r
 · exact (ALe.v LLe.r ALe.nil)
theorem qNJ {a0 : ByteArray} {a1 : ByteArray} {r : Bool} (h : qvD.f a0 a1 = some r) : AC Tryz.prog 137 [.v (.s (.string a0)), .v (.s (.string a1))] [.v (.jk), .v (.jk)] [.v (.s (.bool r))] := by
 unfold qvD.f at h
 show AC Tryz.prog 137 [.v (.s (.string a0)), .v (.s (.string a1))] _ _
 refine run3 Tryz.func137 (by rfl) (by rfl) (by cbv) ⟨by decide, rfl⟩ ?_
 intro ar cm bo sc sa sx ss sl bs sb ln sr ap up rp fr ge le lt nz mm ma sm fl al ci hL F hP hA hT hM hC
 refine Run.seq ?_
 refine Run.region hL hT [] (by cbv) hq0 ?_
 refine Run.seq ?_
 obtain ⟨r1, h_r1, h⟩ := bnd h
 obtain ⟨r2, h_r2, h⟩ := bnd h
 refine Run.region hL hT [(1, .call [false] [.v (.jk)] [.v (.s (.bool r1))]), (4, .call [false] [.v (.jk)] [.v (.s (.bool r2))])] (by cbv) ?_ ?_
 · exact (hq (hC (qHG h_r1)) (hq (fun _ => hq0) (hq (fun g4 => (hq g4 (hq (hC (qHG (gd_t h_r2 g4))) hq0))) (hq (fun g5 => (hq g5 hq0)) (hq (fun q6 => (hq q6 hq0)) (hq (fun _ => hq0) (hq (fun _ => hq0) (hq (fun _ => hq0) (hq (fun g10 => (hq g10 (hq g10 hq0))) (hq (fun _ => hq0) (hq (fun q12 => (hq (bo_m q12) hq0)) hq0)))))))))))
 refine Run.ret ?_
 cases h
 refine ⟨_, _, by cbv, ?_, ?_⟩
 · exact LLe.r
 · exact (ALe.v LLe.r ALe.nil)
theorem qxE {a0 : ByteArray} {r : Bool} (h : qMC.f a0 = some r) : AC Tryz.prog 138 [.v (.s (.string a0))] [.v (.jk)] [.v (.s (.bool r))] := by
 unfold qMC.f at h
 show AC Tryz.prog 138 [.v (.s (.string a0))] _ _
 refine run3 Tryz.func138 (by rfl) (by rfl) (by cbv) ⟨by decide, rfl⟩ ?_
 intro ar cm bo sc sa sx ss sl bs sb ln sr ap up rp fr ge le lt nz mm ma sm fl al ci hL F hP hA hT hM hC
 refine Run.seq ?_
 refine Run.region hL hT [] (by cbv) hq0 ?_
 refine Run.seq ?_
 refine Run.region hL hT [] (by cbv) hq0 ?_
 refine Run.ret ?_
 cases h
 refine ⟨_, _, by cbv, ?_, ?_⟩
 · exact LLe.r
 · exact (ALe.v LLe.r ALe.nil)
theorem qZF {a0 : List ByteArray} {a1 : ByteArray} {r : Int × Bool} (h : qk.f a0 a1 = some r) : AC Tryz.prog 131 [.v (.im false (rowsOf Str_c a0)), .v (.s (.string a1))] [.v (.jk), .v (.jk)] [.v (.s (.int .i64 r.1)), .v (.s (.bool r.2))] := by
 unfold qk.f at h
 let qR := rowsOf Str_c
 let qkB := @lenI ByteArray
 show AC Tryz.prog 131 [.v (.im false (qR a0)), .v (.s (.string a1))] _ _
 refine run3 Tryz.func131 (by rfl) (by rfl) (by cbv) ⟨by decide, rfl⟩ ?_
 intro ar cm bo sc sa sx ss sl bs sb ln sr ap up rp fr ge le lt nz mm ma sm fl al ci hL F hP hA hT hM hC
 refine Run.seq ?_
 refine Run.region hL hT [] (by cbv) hq0 ?_
 refine Run.seq ?_
 refine Run.region hL hT [] (by cbv) hq0 ?_
 rw [show ln (qR a0) = qkB a0 from ln_eq Str_c _]
 refine Run.seq ?_
 refine Run.region hL hT [] (by cbv) hq0 ?_
 obtain ⟨K2, h_K2, h⟩ := joinE h
 refine Run.join1 K2 (r := r) (fun (y1 : Int) => ⟨54, 100000, [(0, .t (.im false (qR a0))), (1, .t (.s (.string a1))), (6, .t (.s (.int .i64 (qkB a0)))), (7, .t (.s (.int .i64 y1)))], []⟩) ?_ ?_
 ·
  skip
  refine Run.block ?_
  refine Run.loop2 (fun (z8 : Int) (z9 : Int) => ⟨54, 100000, [(0, .t (.im false (qR a0))), (1, .t (.s (.string a1))), (6, .t (.s (.int .i64 (qkB a0)))), (7, .t (.s (.int .i64 z8))), (8, .t (.s (.int .i64 z9)))], []⟩) (x0 := 0) (x1 := (qkB a0)) h (Weak.of _ [] hA (by cbv) ?_) (fun _ _ => rfl) ?_
  · repeat (first | exact hq0 | refine hq (by first | exact Tt | rfl) ?_)
  ·
   intro k z8 z9 h
   rw [qk.l0] at h
   refine Run.seq ?_
   refine Run.seq ?_
   refine Run.region hL hT [] (by cbv) ?_ ?_
   · exact (hq Tt hq0)
   refine Run.cond (by cbv) (hq0) (fun c10 => ?_) (fun c10 => ?_)
   ·
    have h := if_t c10 h
    refine Run.skip ?_
    refine Run.block ?_
    refine Run.seq ?_
    refine Run.region hL hT [] (by cbv) ?_ ?_
    · exact (hq Tt (hq Tt (hq Tt (hq (by decide : (0 : Int) ≤ 1) (hq (by decide : (1 : Int) < 64) hq0)))))
    refine Run.seq ?_
    obtain ⟨x11, h_x11, h⟩ := bnd h
    obtain ⟨r12, h_r12, h⟩ := bnd h
    refine Run.region hL hT [(2, .el [.s (.string x11)]), (5, .call [false, false] [.v (.jk), .v (.jk)] [.v (.s (.bool r12))])] (by cbv) ?_ ?_
    · exact (hq (qM h_x11) (hq (qb (f := Str_c) h_x11) (hq (qx (f := Str_c) h_x11) (hq (hC (qNJ h_r12)) hq0))))
    refine Run.cond (by cbv) (hq0) (fun c13 => ?_) (fun c13 => ?_)
    ·
     have h := if_t c13 h
     refine Run.region hL hT [] (by cbv) ?_ ?_
     · exact (hq Tt hq0)
     refine ⟨(ar .add .i64 (ar .or .i64 (ar .shr .u64 (ar .or .u64 (ar .add .i64 z8 z9) 0) 1) 0) 1), z9, h, Weak.of _ [] hA (by cbv) ?_⟩
     repeat (first | exact hq0 | refine hq (by first | exact Tt | rfl) ?_)
    ·
     have h := if_f c13 h
     refine Run.region hL hT [] (by cbv) hq0 ?_
     refine ⟨z8, (ar .or .i64 (ar .shr .u64 (ar .or .u64 (ar .add .i64 z8 z9) 0) 1) 0), h, Weak.of _ [] hA (by cbv) ?_⟩
     repeat (first | exact hq0 | refine hq (by first | exact Tt | rfl) ?_)
   ·
    have h := if_f c10 h
    refine Run.exit ?_
    refine ⟨z8, h, Weak.of _ [] hA (by cbv) ?_⟩
    repeat (first | exact hq0 | refine hq (by first | exact Tt | rfl) ?_)
 ·
  intro y1 h
  rw [h_K2] at h
  refine Run.seq ?_
  obtain ⟨x14, h_x14, h⟩ := bnd h
  obtain ⟨x15, h_x15, h⟩ := bnd h
  obtain ⟨r16, h_r16, h⟩ := bnd h
  obtain ⟨r17, h_r17, h⟩ := bnd h
  refine Run.region hL hT [(7, .el [.s (.string x14)]), (14, .el [.s (.string x15)]), (16, .call [false] [.v (.jk)] [.v (.s (.bool r16))]), (19, .call [false] [.v (.jk)] [.v (.s (.bool r17))])] (by cbv) ?_ ?_
  · exact (hq Tt (hq (fun _ => hq0) (hq (fun _ => hq0) (hq (fun g20 => (hq g20 (hq g20 (hq (qM (gd_t h_x14 g20)) (hq (qb (f := Str_c) (gd_t h_x14 g20)) (hq (qx (f := Str_c) (gd_t h_x14 g20)) hq0)))))) (hq (fun g21 => (hq g21 hq0)) (hq (fun _ => hq0) (hq (fun g23 => (hq g23 (hq g23 hq0))) (hq (fun g24 => (hq g24 hq0)) (hq (fun _ => hq0) (hq (fun _ => hq0) (hq (fun g27 => (hq g27 (hq g27 (hq (qM (gd_t h_x15 g27)) (hq (qb (f := Str_c) (gd_t h_x15 g27)) (hq (qx (f := Str_c) (gd_t h_x15 g27)) hq0)))))) (hq (fun g28 => (hq g28 hq0)) (hq (fun g29 => (hq g29 (hq (hC (qxE (gd_t h_r16 g29))) hq0))) (hq (fun g30 => (hq g30 hq0)) (hq (fun _ => hq0) (hq (fun g32 => (hq g32 (hq (hC (qxE (gd_t h_r17 g32))) hq0))) (hq (fun g33 => (hq g33 (hq (fun q34 => (hq (bo_a g33 q34) hq0)) (hq (fun _ => hq0) hq0)))) (hq (fun g36 => (hq g36 (hq (fun _ => hq0) (hq (fun q38 => (hq (bo_a g36 (bo_m q38)) hq0)) hq0)))) (hq (fun q39 => (hq q39 hq0)) (hq (fun _ => hq0) hq0))))))))))))))))))))
  refine Run.ret ?_
  cases h
  refine ⟨_, _, by cbv, ?_, ?_⟩
  · exact LLe.r
  · exact (ALe.v LLe.r (ALe.v LLe.r ALe.nil))
set_option maxHeartbeats 4000000 in
set_option maxRecDepth 100000 in
theorem qlG (w : World) (g2 c2 : Nat)
 (v' : Value) (w' : World) (hrun : (Builtin.append_ #[32, 32] 32 #[.slice none 0 0, .slice (some ⟨g2, 0, none⟩) 1 c2]).run Tryz.prog w = .ok v' w') :
 Calls Tryz.prog 132 #[.slice none 0 0, .int .i64 0, .slice (some ⟨g2, 0, none⟩) 1 c2] w fun ex w2 => ex = .returned v' ∧ w2 = w' := by
 go_enter Tryz.func132, Tryz.ntmps132
 go_wp2_with (at_builtin; refine qmD rfl (qzE rfl rfl rfl hrun) ?_)
 all_goals go_ret
 all_goals exact ⟨rfl, rfl⟩
set_option maxHeartbeats 4000000 in
set_option maxRecDepth 100000 in
theorem qHH (w : World) (g c g2 c2 n : Nat) (hnc : n ≤ c)
 (v' : Value) (w' : World) (hrun : (Builtin.append_ #[32, 32] 32 #[.slice (some ⟨g, 0, none⟩) n c, .slice (some ⟨g2, 0, none⟩) 1 c2]).run Tryz.prog w = .ok v' w') :
 Calls Tryz.prog 132 #[.slice (some ⟨g, 0, none⟩) n c, .int .i64 n, .slice (some ⟨g2, 0, none⟩) 1 c2] w fun ex w2 => ex = .returned v' ∧ w2 = w' := by
 go_enter Tryz.func132, Tryz.ntmps132
 go_wp2_with (at_builtin; refine qmD rfl (qzE rfl rfl rfl hrun) ?_)
 all_goals go_ret
 all_goals exact ⟨rfl, rfl⟩
set_option maxHeartbeats 4000000 in
set_option maxRecDepth 100000 in
theorem qZH (w : World) (g c g2 c2 n i : Nat) (cur cur2 A B : Array Value) (hi : i < n) (hroom : n + 1 ≤ c) (hc63 : c ≤ maxLen) (hne : g2 ≠ g) (hg : w.heap[g]? = some (.cells cur 9 (0, 0))) (hcs : cur.size = c * 1) (hg2 : w.heap[g2]? = some (.cells cur2 9 (0, 0)))
 (hcp1 : ∀ ty dc sc, (Builtin.copy_ #[32, 32] ty #[.slice (some ⟨g, i + 1, none⟩) (n + 1 - (i + 1)) dc, .slice (some ⟨g, i, none⟩) (n + 1 - i) sc]).run Tryz.prog w.drew = .ok (goInt (n - i : Nat)) (w.drew.setRow g A))
 (hcp2 : ∀ ty dc, (Builtin.copy_ #[32, 32] ty #[.slice (some ⟨g, i, none⟩) (n + 1 - i) dc, .slice (some ⟨g2, 0, none⟩) 1 c2]).run Tryz.prog (w.drew.setRow g A) = .ok (goInt (1 : Nat)) ((w.drew.setRow g A).setRow g B)) :
 Calls Tryz.prog 132 #[.slice (some ⟨g, 0, none⟩) n c, .int .i64 i, .slice (some ⟨g2, 0, none⟩) 1 c2] w fun ex w2 => ex = .returned (.slice (some ⟨g, 0, none⟩) (n + 1) c) ∧ w2 = (w.drew.setRow g A).setRow g B := by
 have mixed := mixed
 have TE : TyOk Tryz.prog 9 _ := qVG 9 _ rfl
 have TS : TyOk Tryz.prog 32 _ := qVG 32 _ rfl
 obtain ⟨ti, hti, htz, htb, _⟩ := TE.info
 have u92 := TS.isS rfl
 have hz1 : ¬ ((1 : Int) = 0) := by omega
 have hz2 : ¬ ((i : Int) = (n : Int)) := by omega
 have hw1 : IntKind.i64.wrap ((i : Int) + (1 : Int)) = (i : Int) + (1 : Int) := by unfold maxLen at hc63; rw [IntKind.wrap_i64]; omega
 have hw2 : IntKind.i64.wrap ((n : Int) + (1 : Int)) = (n : Int) + (1 : Int) := by unfold maxLen at hc63; rw [IntKind.wrap_i64]; omega
 have hb1 : (0 : Int) ≤ (i : Int) + (1 : Int) := by omega
 have hin : i ≤ n := by omega
 have htn : ((i : Int) + (1 : Int)).toNat = i + 1 := by omega
 have hb2 : ¬ (c = i + 1) := by omega
 have hb3 : (i : Int) ≤ (n : Int) + (1 : Int) := by omega
 have hb4 : ¬ (c = i) := by omega
 have hov : ∀ lb cb o, (callFunc 139 #[.slice (some ⟨g2, 0, none⟩) 1 c2, .slice (some ⟨g, o, none⟩) lb cb]).run Tryz.prog w = .ok (.value (.bool false)) w := fun lb cb o => by
  rw [run_callFunc_extern Tryz.func139 (by kernel_rfl) (by kernel_rfl) (by kernel_rfl) (e := Extern.SlicesOverlaps.overlaps #[32, 32] #[4]) (by kernel_rfl),
   Lib.run_overlaps_apart w 32 4 9 u92 1 (fun w => by simp [sizeOf, typeInfo, hti, htz]) ⟨g2, 0, none⟩ ⟨g, o, none⟩ 1 c2 lb cb hne 9 9 cur2.size cur.size (by simp [World.shape?, hg2]) (by simp [World.shape?, hg]) (by omega) (by simp [World.frozen?, hg2]) (by simp [World.frozen?, hg2])]
  rfl
 go_enter Tryz.func132, Tryz.ntmps132
 go_wp2_with (simp only [hov])
 go_region_law_o (refine qfK rfl (qOF rfl (by simp [Act.eval, Act.put]; rfl) (by simp [Act.eval, Act.put]; rfl) (hcp1 _ _ _)) ?_)
 go_wp2_with (at_builtin; refine qmD rfl (qOF rfl rfl rfl (hcp2 _ _)) ?_)
 go_ret
 exact ⟨rfl, rfl⟩
set_option maxHeartbeats 4000000 in
set_option maxRecDepth 100000 in
theorem qmG (w : World) (g c g2 c2 n i G : Nat) (R A B : Array Value) (hi : i < n) (hnc : n ≤ c) (hroom : c < n + 1) (hc63 : n + 1 ≤ maxLen) (hG : n + 1 ≤ G) (hGm : G ≤ maxLen)
 (hrz : ∀ ty, (Builtin.append_ #[32, 3] ty #[.slice (some ⟨g, 0, none⟩) i c, .int .i64 ((n : Int) + 1 - i)]).run Tryz.prog w = .ok (.slice (some ⟨w.heap.size, 0, none⟩) (n + 1) G) (w.drew.alloc (.cells R 9)))
 (hcp2 : ∀ ty dc, (Builtin.copy_ #[32, 32] ty #[.slice (some ⟨w.heap.size, i, none⟩) (n + 1 - i) dc, .slice (some ⟨g2, 0, none⟩) 1 c2]).run Tryz.prog (w.alloc (.cells R 9)).drew = .ok (goInt (1 : Nat)) ((w.alloc (.cells R 9)).drew.setRow w.heap.size A))
 (hcp1 : ∀ ty dc sc, (Builtin.copy_ #[32, 32] ty #[.slice (some ⟨w.heap.size, i + 1, none⟩) (n + 1 - (i + 1)) dc, .slice (some ⟨g, i, none⟩) (n - i) sc]).run Tryz.prog ((w.alloc (.cells R 9)).drew.setRow w.heap.size A).drew = .ok (goInt (n - i : Nat)) (((w.alloc (.cells R 9)).drew.setRow w.heap.size A).drew.setRow w.heap.size B)) :
 Calls Tryz.prog 132 #[.slice (some ⟨g, 0, none⟩) n c, .int .i64 i, .slice (some ⟨g2, 0, none⟩) 1 c2] w fun ex w2 => ex = .returned (.slice (some ⟨w.heap.size, 0, none⟩) (n + 1) G) ∧ w2 = ((w.alloc (.cells R 9)).drew.setRow w.heap.size A).drew.setRow w.heap.size B := by
 have mixed := mixed
 have hz1 : ¬ ((1 : Int) = 0) := by omega
 have hz2 : ¬ ((i : Int) = (n : Int)) := by omega
 have hz3 : (c : Int) < (n : Int) + (1 : Int) := by omega
 have hw1 : IntKind.i64.wrap ((i : Int) + (1 : Int)) = (i : Int) + (1 : Int) := by unfold maxLen at hc63; rw [IntKind.wrap_i64]; omega
 have hw2 : IntKind.i64.wrap ((n : Int) + (1 : Int)) = (n : Int) + (1 : Int) := by unfold maxLen at hc63; rw [IntKind.wrap_i64]; omega
 have hw3 : IntKind.i64.wrap ((n : Int) + (1 : Int) - (i : Int)) = (n : Int) + (1 : Int) - (i : Int) := by unfold maxLen at hc63; rw [IntKind.wrap_i64]; omega
 have hb1 : (0 : Int) ≤ (i : Int) + (1 : Int) := by omega
 have hin : i ≤ n := by omega
 have htn : ((i : Int) + (1 : Int)).toNat = i + 1 := by omega
 have hGi : ¬ (G = i) := by omega
 have hGim : ¬ (G = i + 1) := by omega
 have hci : ¬ (c = i) := by omega
 have hb3 : (i : Int) ≤ (n : Int) := by omega
 go_enter Tryz.func132, Tryz.ntmps132
 go_wp2_with (first
  | (at_builtin; refine qmD rfl (qzE rfl rfl rfl (hrz _)) ?_)
  | (at_builtin; refine qmD rfl (qOF rfl rfl rfl (hcp2 _ _)) ?_))
 go_region_law_o (refine qfK rfl (qOF rfl (by simp [Act.eval, Act.put]; rfl) (by simp [Act.eval, Act.put]; rfl) (hcp1 _ _ _)) ?_)
 go_wp2
 go_ret
 exact ⟨rfl, rfl⟩
theorem qLG : Roads Tryz.prog 132 32 9 1 3 where
 end0 := fun w g2 c2 v' w' h => qlG w g2 c2 v' w' h
 end1 := fun w g c g2 c2 n v' w' hnc h => qHH w g c g2 c2 n hnc v' w' h
 inn := fun w g c g2 c2 n i cur cur2 A B h1 h2 h3 h4 h5 h6 h7 h8 h9 => qZH w g c g2 c2 n i cur cur2 A B h1 h2 h3 h4 h5 h6 h7 (by simpa using h8) (by simpa using h9)
 grow := fun w g c g2 c2 n i G R A B h1 h2 h3 h4 h5 h6 h7 h8 h9 => qmG w g c g2 c2 n i G R A B h1 h2 h3 h4 h5 h6 h7 (by simpa using h8) (by simpa using h9)
theorem qaH {a0 a2 : List ByteArray} {a1 : Int} {r : List ByteArray} (h : qSD.f a0 a1 a2 = some r) : AC Tryz.prog 132 [.v (.ow 9 (rowsOf Str_c a0)), .v (.s (.int .i64 a1)), .v (.ow 9 (rowsOf Str_c a2))] [.v .jk, .v .jk, .v .jk] [.v (.ow 9 (rowsOf Str_c r))] := by
 unfold qSD.f insO at h
 split at h
 ·
  rename_i hc
  obtain ⟨h1, c0, c1, c2, c3⟩ := hc
  obtain ⟨i, rfl⟩ : ∃ k : Nat, a1 = k := ⟨a1.toNat, by omega⟩
  obtain ⟨x, rfl⟩ := List.length_eq_one_iff.1 h1
  simp only [Option.some.injEq] at h
  subst h
  have hr : rowsOf Str_c (a0.take ((i : Nat) : Int).toNat ++ [x] ++ a0.drop ((i : Nat) : Int).toNat) = (rowsOf Str_c a0).take i ++ [Str_c x] ++ (rowsOf Str_c a0).drop i := by simp [rowsOf, List.map_take, List.map_drop]
  rw [hr]
  have hl := rowsOf_len Str_c a0
  simp only [List.length_singleton] at c2 c3
  exact AC.of_ins ⟨_, Tryz.func132, by rfl, by rfl⟩ (qCE (qVG 9 _ rfl)) (qLG.raw (qVG 32 _ rfl) rfl (qVG 9 _ rfl) (by simp) (qRI (qVG 3 _ rfl) rfl)) (by omega) (by rw [hl]; show (a0.length + 1) * 16 ≤ _; omega) (by omega)
 · cases h
set_option maxHeartbeats 4000000 in
set_option maxRecDepth 100000 in
theorem qfF (w : World) (g2 c2 : Nat)
 (v' : Value) (w' : World) (hrun : (Builtin.append_ #[31, 31] 31 #[.slice none 0 0, .slice (some ⟨g2, 0, none⟩) 1 c2]).run Tryz.prog w = .ok v' w') :
 Calls Tryz.prog 133 #[.slice none 0 0, .int .i64 0, .slice (some ⟨g2, 0, none⟩) 1 c2] w fun ex w2 => ex = .returned v' ∧ w2 = w' := by
 go_enter Tryz.func133, Tryz.ntmps133
 go_wp2_with (at_builtin; refine qmD rfl (qzE rfl rfl rfl hrun) ?_)
 all_goals go_ret
 all_goals exact ⟨rfl, rfl⟩
set_option maxHeartbeats 4000000 in
set_option maxRecDepth 100000 in
theorem qIG (w : World) (g c g2 c2 n : Nat) (hnc : n ≤ c)
 (v' : Value) (w' : World) (hrun : (Builtin.append_ #[31, 31] 31 #[.slice (some ⟨g, 0, none⟩) n c, .slice (some ⟨g2, 0, none⟩) 1 c2]).run Tryz.prog w = .ok v' w') :
 Calls Tryz.prog 133 #[.slice (some ⟨g, 0, none⟩) n c, .int .i64 n, .slice (some ⟨g2, 0, none⟩) 1 c2] w fun ex w2 => ex = .returned v' ∧ w2 = w' := by
 go_enter Tryz.func133, Tryz.ntmps133
 go_wp2_with (at_builtin; refine qmD rfl (qzE rfl rfl rfl hrun) ?_)
 all_goals go_ret
 all_goals exact ⟨rfl, rfl⟩
set_option maxHeartbeats 4000000 in
set_option maxRecDepth 100000 in
theorem qMG (w : World) (g c g2 c2 n i : Nat) (cur cur2 A B : Array Value) (hi : i < n) (hroom : n + 1 ≤ c) (hc63 : c ≤ maxLen) (hne : g2 ≠ g) (hg : w.heap[g]? = some (.cells cur 34 (0, 0))) (hcs : cur.size = c * 5) (hg2 : w.heap[g2]? = some (.cells cur2 34 (0, 0)))
 (hcp1 : ∀ ty dc sc, (Builtin.copy_ #[31, 31] ty #[.slice (some ⟨g, (i + 1) * 5, none⟩) (n + 1 - (i + 1)) dc, .slice (some ⟨g, i * 5, none⟩) (n + 1 - i) sc]).run Tryz.prog w.drew = .ok (goInt (n - i : Nat)) (w.drew.setRow g A))
 (hcp2 : ∀ ty dc, (Builtin.copy_ #[31, 31] ty #[.slice (some ⟨g, i * 5, none⟩) (n + 1 - i) dc, .slice (some ⟨g2, 0, none⟩) 1 c2]).run Tryz.prog (w.drew.setRow g A) = .ok (goInt (1 : Nat)) ((w.drew.setRow g A).setRow g B)) :
 Calls Tryz.prog 133 #[.slice (some ⟨g, 0, none⟩) n c, .int .i64 i, .slice (some ⟨g2, 0, none⟩) 1 c2] w fun ex w2 => ex = .returned (.slice (some ⟨g, 0, none⟩) (n + 1) c) ∧ w2 = (w.drew.setRow g A).setRow g B := by
 have mixed := mixed
 have TE : TyOk Tryz.prog 34 _ := qVG 34 _ rfl
 have TS : TyOk Tryz.prog 31 _ := qVG 31 _ rfl
 obtain ⟨ti, hti, htz, htb, _⟩ := TE.info
 have u92 := TS.isS rfl
 have hz1 : ¬ ((1 : Int) = 0) := by omega
 have hz2 : ¬ ((i : Int) = (n : Int)) := by omega
 have hw1 : IntKind.i64.wrap ((i : Int) + (1 : Int)) = (i : Int) + (1 : Int) := by unfold maxLen at hc63; rw [IntKind.wrap_i64]; omega
 have hw2 : IntKind.i64.wrap ((n : Int) + (1 : Int)) = (n : Int) + (1 : Int) := by unfold maxLen at hc63; rw [IntKind.wrap_i64]; omega
 have hb1 : (0 : Int) ≤ (i : Int) + (1 : Int) := by omega
 have hin : i ≤ n := by omega
 have htn : ((i : Int) + (1 : Int)).toNat = i + 1 := by omega
 have hb2 : ¬ (c = i + 1) := by omega
 have hb3 : (i : Int) ≤ (n : Int) + (1 : Int) := by omega
 have hb4 : ¬ (c = i) := by omega
 have hov : ∀ lb cb o, (callFunc 141 #[.slice (some ⟨g2, 0, none⟩) 1 c2, .slice (some ⟨g, o, none⟩) lb cb]).run Tryz.prog w = .ok (.value (.bool false)) w := fun lb cb o => by
  rw [run_callFunc_extern Tryz.func141 (by kernel_rfl) (by kernel_rfl) (by kernel_rfl) (e := Extern.SlicesOverlaps.overlaps #[31, 31] #[4]) (by kernel_rfl),
   Lib.run_overlaps_apart w 31 4 34 u92 5 (fun w => by simp [sizeOf, typeInfo, hti, htz]) ⟨g2, 0, none⟩ ⟨g, o, none⟩ 1 c2 lb cb hne 34 34 cur2.size cur.size (by simp [World.shape?, hg2]) (by simp [World.shape?, hg]) (by omega) (by simp [World.frozen?, hg2]) (by simp [World.frozen?, hg2])]
  rfl
 go_enter Tryz.func133, Tryz.ntmps133
 go_wp2_with (simp only [hov])
 go_region_law_o (refine qfK rfl (qOF rfl (by simp [Act.eval, Act.put]; rfl) (by simp [Act.eval, Act.put]; rfl) (hcp1 _ _ _)) ?_)
 go_wp2_with (at_builtin; refine qmD rfl (qOF rfl rfl rfl (hcp2 _ _)) ?_)
 go_ret
 exact ⟨rfl, rfl⟩
set_option maxHeartbeats 4000000 in
set_option maxRecDepth 100000 in
theorem qgF (w : World) (g c g2 c2 n i G : Nat) (R A B : Array Value) (hi : i < n) (hnc : n ≤ c) (hroom : c < n + 1) (hc63 : n + 1 ≤ maxLen) (hG : n + 1 ≤ G) (hGm : G ≤ maxLen)
 (hrz : ∀ ty, (Builtin.append_ #[31, 3] ty #[.slice (some ⟨g, 0, none⟩) i c, .int .i64 ((n : Int) + 1 - i)]).run Tryz.prog w = .ok (.slice (some ⟨w.heap.size, 0, none⟩) (n + 1) G) (w.drew.alloc (.cells R 34)))
 (hcp2 : ∀ ty dc, (Builtin.copy_ #[31, 31] ty #[.slice (some ⟨w.heap.size, i * 5, none⟩) (n + 1 - i) dc, .slice (some ⟨g2, 0, none⟩) 1 c2]).run Tryz.prog (w.alloc (.cells R 34)).drew = .ok (goInt (1 : Nat)) ((w.alloc (.cells R 34)).drew.setRow w.heap.size A))
 (hcp1 : ∀ ty dc sc, (Builtin.copy_ #[31, 31] ty #[.slice (some ⟨w.heap.size, (i + 1) * 5, none⟩) (n + 1 - (i + 1)) dc, .slice (some ⟨g, i * 5, none⟩) (n - i) sc]).run Tryz.prog ((w.alloc (.cells R 34)).drew.setRow w.heap.size A).drew = .ok (goInt (n - i : Nat)) (((w.alloc (.cells R 34)).drew.setRow w.heap.size A).drew.setRow w.heap.size B)) :
 Calls Tryz.prog 133 #[.slice (some ⟨g, 0, none⟩) n c, .int .i64 i, .slice (some ⟨g2, 0, none⟩) 1 c2] w fun ex w2 => ex = .returned (.slice (some ⟨w.heap.size, 0, none⟩) (n + 1) G) ∧ w2 = ((w.alloc (.cells R 34)).drew.setRow w.heap.size A).drew.setRow w.heap.size B := by
 have mixed := mixed
 have hz1 : ¬ ((1 : Int) = 0) := by omega
 have hz2 : ¬ ((i : Int) = (n : Int)) := by omega
 have hz3 : (c : Int) < (n : Int) + (1 : Int) := by omega
 have hw1 : IntKind.i64.wrap ((i : Int) + (1 : Int)) = (i : Int) + (1 : Int) := by unfold maxLen at hc63; rw [IntKind.wrap_i64]; omega
 have hw2 : IntKind.i64.wrap ((n : Int) + (1 : Int)) = (n : Int) + (1 : Int) := by unfold maxLen at hc63; rw [IntKind.wrap_i64]; omega
 have hw3 : IntKind.i64.wrap ((n : Int) + (1 : Int) - (i : Int)) = (n : Int) + (1 : Int) - (i : Int) := by unfold maxLen at hc63; rw [IntKind.wrap_i64]; omega
 have hb1 : (0 : Int) ≤ (i : Int) + (1 : Int) := by omega
 have hin : i ≤ n := by omega
 have htn : ((i : Int) + (1 : Int)).toNat = i + 1 := by omega
 have hGi : ¬ (G = i) := by omega
 have hGim : ¬ (G = i + 1) := by omega
 have hci : ¬ (c = i) := by omega
 have hb3 : (i : Int) ≤ (n : Int) := by omega
 go_enter Tryz.func133, Tryz.ntmps133
 go_wp2_with (first
  | (at_builtin; refine qmD rfl (qzE rfl rfl rfl (hrz _)) ?_)
  | (at_builtin; refine qmD rfl (qOF rfl rfl rfl (hcp2 _ _)) ?_))
 go_region_law_o (refine qfK rfl (qOF rfl (by simp [Act.eval, Act.put]; rfl) (by simp [Act.eval, Act.put]; rfl) (hcp1 _ _ _)) ?_)
 go_wp2
 go_ret
 exact ⟨rfl, rfl⟩
theorem qaF : Roads Tryz.prog 133 31 34 5 3 where
 end0 := fun w g2 c2 v' w' h => qfF w g2 c2 v' w' h
 end1 := fun w g c g2 c2 n v' w' hnc h => qIG w g c g2 c2 n hnc v' w' h
 inn := fun w g c g2 c2 n i cur cur2 A B h1 h2 h3 h4 h5 h6 h7 h8 h9 => qMG w g c g2 c2 n i cur cur2 A B h1 h2 h3 h4 h5 h6 h7 h8 h9
 grow := fun w g c g2 c2 n i G R A B h1 h2 h3 h4 h5 h6 h7 h8 h9 => qgF w g c g2 c2 n i G R A B h1 h2 h3 h4 h5 h6 h7 h8 h9
theorem qNG {a0 a2 : List Json} {a1 : Int} {r : List Json} (h : qsC.f a0 a1 a2 = some r) : AC Tryz.prog 133 [.v (.ow 34 (rowsOf qdB a0)), .v (.s (.int .i64 a1)), .v (.ow 34 (rowsOf qdB a2))] [.v .jk, .v .jk, .v .jk] [.v (.ow 34 (rowsOf qdB r))] := by
 unfold qsC.f insO at h
 split at h
 ·
  rename_i hc
  obtain ⟨h1, c0, c1, c2, c3⟩ := hc
  obtain ⟨i, rfl⟩ : ∃ k : Nat, a1 = k := ⟨a1.toNat, by omega⟩
  obtain ⟨x, rfl⟩ := List.length_eq_one_iff.1 h1
  simp only [Option.some.injEq] at h
  subst h
  have hr : rowsOf qdB (a0.take ((i : Nat) : Int).toNat ++ [x] ++ a0.drop ((i : Nat) : Int).toNat) = (rowsOf qdB a0).take i ++ [qdB x] ++ (rowsOf qdB a0).drop i := by simp [rowsOf, List.map_take, List.map_drop]
  rw [hr]
  have hl := rowsOf_len qdB a0
  simp only [List.length_singleton] at c2 c3
  exact AC.of_ins ⟨_, Tryz.func133, by rfl, by rfl⟩ (qCE (qVG 34 _ rfl)) (qaF.raw (qVG 31 _ rfl) rfl (qVG 34 _ rfl) (by simp) (qRI (qVG 3 _ rfl) rfl)) (by omega) (by rw [hl]; show (a0.length + 1) * 80 ≤ _; omega) (by omega)
 · cases h
theorem qUP {a0 : List ByteArray} {a1 : List Int} {r : Json} (h : qwC.f a0 a1 = some r) : AC Tryz.prog 123 [.v (.im false (rowsOf Str_c a0)), .v (.im false (rowsOf Int_c a1))] [.v (.jk), .v (.jk)] [.ag [.s (.int .i64 r.Kind), .s (.int .i64 r.N), .s (.string r.S), .ow 34 (rowsOf qdB r.List_), .ow 9 (rowsOf Str_c r.Names)]] := by
 unfold qwC.f at h
 let qB := rowsOf Int_c
 let qOB := rowsOf qdB
 let qR := rowsOf Str_c
 let qkB := @lenI ByteArray
 show AC Tryz.prog 123 [.v (.im false (qR a0)), .v (.im false (qB a1))] _ _
 refine run3 Tryz.func123 (by rfl) (by rfl) (by cbv) ⟨by decide, rfl⟩ ?_
 intro ar cm bo sc sa sx ss sl bs sb ln sr ap up rp fr ge le lt nz mm ma sm fl al ci hL F hP hA hT hM hC
 refine Run.seq ?_
 refine Run.region hL hT [] (by cbv) hq0 ?_
 refine Run.seq ?_
 refine Run.region hL hT [] (by cbv) ?_ ?_
 · exact (hq Tt hq0)
 refine Run.seq ?_
 refine Run.seq ?_
 refine Run.region hL hT [] (by cbv) hq0 ?_
 rw [show ln (qR a0) = qkB a0 from ln_eq Str_c _]
 refine Run.block ?_
 refine Run.loop3 (fun (z23 : List Json) (z24 : List ByteArray) (z25 : Int) => ⟨45, 100000, [(1, .t (.im false (qB a1))), (4, .pt 1 0 0), (5, .pt 2 0 0), (11, .t (.im false (qR a0))), (12, .t (.s (.int .i64 (qkB a0)))), (13, .t (.s (.int .i64 z25)))], [(1, .box 34 [.t (.s (.int .i64 0)), .t (.s (.int .i64 0)), .t (.s (.string ByteArray.empty)), .t (.s (.slice none 0 0)), .t (.s (.slice none 0 0))]), (2, .box 34 [.t (.s (.int .i64 5)), .t (.s (.int .i64 0)), .t (.s (.string ByteArray.empty)), .rf 3, .rf 4]), (3, .row 0 34 5 (qOB z23)), (4, .row 0 9 1 (qR z24))]⟩) (x0 := []) (x1 := []) (x2 := 0) h ((Weak.nilB (l := [.t (.s (.int .i64 5)), .t (.s (.int .i64 0)), .t (.s (.string ByteArray.empty))]) hT 4097 3 13288 34 rfl (by cbv) (by cbv) (by cbv)).trans ((Weak.nilB (l := [.t (.s (.int .i64 5)), .t (.s (.int .i64 0)), .t (.s (.string ByteArray.empty)), .rf 13288]) hT 4097 4 13289 9 rfl (by cbv) (by cbv) (by cbv)).trans (Weak.of _ [(1, 0), (2, 4097), (3, 13288), (4, 13289)] hA (by cbv) ?_))) (fun _ _ _ => rfl) ?_
 · repeat (first | exact hq0 | refine hq (by first | exact Tt | rfl) ?_)
 ·
  intro k z23 z24 z25 h
  rw [qwC.l0] at h
  refine Run.seq ?_
  refine Run.region hL hT [] (by cbv) ?_ ?_
  · exact (hq Tt hq0)
  refine Run.seq ?_
  refine Run.cond (by cbv) (hq0) (fun c26 => ?_) (fun c26 => ?_)
  ·
   have h := if_t c26 h
   refine Run.skip ?_
   refine Run.seq ?_
   refine Run.block ?_
   refine Run.seq ?_
   obtain ⟨x27, h_x27, h⟩ := bnd h
   refine Run.region hL hT [(1, .el [.s (.string x27)])] (by cbv) ?_ ?_
   · exact (hq (qM h_x27) (hq (qb (f := Str_c) h_x27) (hq (qx (f := Str_c) h_x27) hq0)))
   refine Run.seq ?_
   obtain ⟨⟨r28v_1, r28v_2⟩, h_r28, h⟩ := bnd h
   refine Run.region hL hT [(3, .call [false, false] [.v (.jk), .v (.jk)] [.v (.s (.int .i64 r28v_1)), .v (.s (.bool r28v_2))])] (by cbv) ?_ ?_
   · exact (hq Tt (hq (hC (AC.args (qZF h_r28) (ALe.v (LLe.im (RLe.eq (qmB qEF _))) (ALe.v LLe.r ALe.nil)))) hq0))
   refine Run.seq ?_
   obtain ⟨l29, h_l29, h⟩ := bnd h
   obtain ⟨r30, h_r30, h⟩ := bnd h
   refine Run.region hL hT [(5, .call [true, false, true] [.v (.jk), .v (.jk), .v (.jk)] [.v (.ow 9 (qR r30))])] (by cbv) ?_ ?_
   · exact (hq Tt (hq (hC (AC.args (qaH h_r30) (ALe.v LLe.r (ALe.v LLe.r (ALe.v (LLe.ow (qvB (f := Str_c) h_l29 (RLe.cons rfl LLe.r RLe.nil))) ALe.nil))))) (hq Tt hq0)))
   obtain ⟨x31, h_x31, h⟩ := bnd h
   obtain ⟨l32, h_l32, h⟩ := bnd h
   obtain ⟨r33, h_r33, h⟩ := bnd h
   refine Run.draw hL hT hM [(5, .el [.s (.int .i64 x31)]), (9, .call [true, false, true] [.v (.jk), .v (.jk), .v (.jk)] [.v (.ow 34 (qOB r33))])] (by cbv) (by cbv) (by cbv) (by cbv) (by cbv) ?_ ?_
   · exact (hq Tt (hq (qM h_x31) (hq (qb (f := Int_c) h_x31) (hq (qx (f := Int_c) h_x31) (hq (hC (AC.args (qNG h_r33) (ALe.v LLe.r (ALe.v LLe.r (ALe.v (LLe.ow (qDE qUD h_l32 (RLe.cons rfl (LLe.c (LLe.c (LLe.c (LLe.cons LLe.nilO (LLe.cons LLe.nilO LLe.nil))))) RLe.nil))) ALe.nil))))) (hq Tt hq0))))))
   refine Run.region hL hT [] (by cbv) ?_ ?_
   · exact (hq Tt hq0)
   refine ⟨r33, r30, (ar .add .i64 z25 1), h, Weak.of _ [(1, 1), (2, 2), (3, 116393), (4, 112293)] hA (by cbv) ?_⟩
   repeat (first | exact hq0 | refine hq (by first | exact Tt | rfl) ?_)
  ·
   have h := if_f c26 h
   refine Run.exit ?_
   refine Run.seq ?_
   refine Run.region hL hT [] (by cbv) ?_ ?_
   · exact (hq Tt (hq Tt hq0))
   refine Run.ret ?_
   cases h
   refine ⟨_, _, by cbv, ?_, ?_⟩
   · exact LLe.r
   · exact (ALe.ag rfl LLe.r ALe.nil)
theorem qYI {a0 : ByteArray} {r : Bool} (h : qoC.f a0 = some r) : AC Tryz.prog 143 [.v (.s (.string a0))] [.v (.jk)] [.v (.s (.bool r))] := by
 unfold qoC.f at h
 show AC Tryz.prog 143 [.v (.s (.string a0))] _ _
 refine run3 Tryz.func143 (by rfl) (by rfl) (by cbv) ⟨by decide, rfl⟩ ?_
 intro ar cm bo sc sa sx ss sl bs sb ln sr ap up rp fr ge le lt nz mm ma sm fl al ci hL F hP hA hT hM hC
 refine Run.seq ?_
 refine Run.region hL hT [] (by cbv) hq0 ?_
 refine Run.seq ?_
 refine Run.seq ?_
 refine Run.region hL hT [] (by cbv) hq0 ?_
 refine Run.block ?_
 refine Run.loop2 (fun (z4 : Int) (z5 : Int) => ⟨19, 100000, [(0, .t (.s (.string a0))), (5, .t (.s (.int .i64 z4))), (6, .t (.s (.int .i64 z5)))], []⟩) (x0 := (sl a0)) (x1 := 0) h (Weak.of _ [] hA (by cbv) ?_) (fun _ _ => rfl) ?_
 · repeat (first | exact hq0 | refine hq (by first | exact Tt | rfl) ?_)
 ·
  intro k z4 z5 h
  rw [qoC.l0] at h
  refine Run.seq ?_
  refine Run.region hL hT [] (by cbv) ?_ ?_
  · exact (hq Tt hq0)
  refine Run.seq ?_
  refine Run.cond (by cbv) (hq0) (fun c6 => ?_) (fun c6 => ?_)
  ·
   have h := if_t c6 h
   refine Run.skip ?_
   refine Run.seq ?_
   refine Run.block ?_
   refine Run.seq ?_
   refine Run.region hL hT [] (by cbv) hq0 ?_
   refine Run.seq ?_
   obtain ⟨u7, h_u7, h⟩ := bnd h
   obtain ⟨r8, h_r8, h⟩ := bnd h
   refine Run.region hL hT [(4, .call [false, false, false] [.v (.jk), .v (.jk), .v (.jk)] [.v (.s (.bool r8))])] (by cbv) ?_ ?_
   · exact (hq (inS_0 h_u7) (hq (inS_1 h_u7) (hq (hC (qgB h_r8)) hq0)))
   refine Run.cond (by cbv) (hq0) (fun c9 => ?_) (fun c9 => ?_)
   ·
    have h := if_t c9 h
    refine Run.seq ?_
    refine Run.region hL hT [] (by cbv) hq0 ?_
    refine Run.ret ?_
    cases h
    refine ⟨_, _, by cbv, ?_, ?_⟩
    · exact LLe.r
    · exact (ALe.v LLe.r ALe.nil)
   ·
    have h := if_f c9 h
    refine Run.skip ?_
    refine Run.region hL hT [] (by cbv) ?_ ?_
    · exact (hq Tt hq0)
    refine ⟨z4, (ar .add .i64 z5 1), h, Weak.of _ [] hA (by cbv) ?_⟩
    repeat (first | exact hq0 | refine hq (by first | exact Tt | rfl) ?_)
  ·
   have h := if_f c6 h
   refine Run.exit ?_
   refine Run.seq ?_
   refine Run.region hL hT [] (by cbv) ?_ ?_
   · exact (hq Tt hq0)
   refine Run.ret ?_
   cases h
   refine ⟨_, _, by cbv, ?_, ?_⟩
   · exact LLe.r
   · exact (ALe.v LLe.r ALe.nil)
theorem qSM {a0 : List ByteArray} {r : Bool} (h : qWC.f a0 = some r) : AC Tryz.prog 144 [.v (.im false (rowsOf Str_c a0))] [.v (.jk)] [.v (.s (.bool r))] := by
 unfold qWC.f at h
 let qR := rowsOf Str_c
 let qkB := @lenI ByteArray
 show AC Tryz.prog 144 [.v (.im false (qR a0))] _ _
 refine run3 Tryz.func144 (by rfl) (by rfl) (by cbv) ⟨by decide, rfl⟩ ?_
 intro ar cm bo sc sa sx ss sl bs sb ln sr ap up rp fr ge le lt nz mm ma sm fl al ci hL F hP hA hT hM hC
 refine Run.seq ?_
 refine Run.region hL hT [] (by cbv) hq0 ?_
 refine Run.seq ?_
 refine Run.seq ?_
 refine Run.region hL hT [] (by cbv) hq0 ?_
 rw [show ln (qR a0) = qkB a0 from ln_eq Str_c _]
 refine Run.block ?_
 refine Run.loop1 (fun (z5 : Int) => ⟨29, 100000, [(0, .t (.im false (qR a0))), (5, .t (.im false (qR a0))), (6, .t (.s (.int .i64 (qkB a0)))), (7, .t (.s (.int .i64 z5)))], []⟩) (x0 := 0) h (Weak.of _ [] hA (by cbv) ?_) (fun _ => rfl) ?_
 · repeat (first | exact hq0 | refine hq (by first | exact Tt | rfl) ?_)
 ·
  intro k z5 h
  rw [qWC.l0] at h
  refine Run.seq ?_
  refine Run.region hL hT [] (by cbv) ?_ ?_
  · exact (hq Tt hq0)
  refine Run.seq ?_
  refine Run.cond (by cbv) (hq0) (fun c6 => ?_) (fun c6 => ?_)
  ·
   have h := if_t c6 h
   refine Run.skip ?_
   refine Run.seq ?_
   refine Run.block ?_
   refine Run.seq ?_
   obtain ⟨x7, h_x7, h⟩ := bnd h
   refine Run.region hL hT [(1, .el [.s (.string x7)])] (by cbv) ?_ ?_
   · exact (hq (qM h_x7) (hq (qb (f := Str_c) h_x7) (hq (qx (f := Str_c) h_x7) hq0)))
   refine Run.seq ?_
   obtain ⟨r8, h_r8, h⟩ := bnd h
   obtain ⟨x9, h_x9, h⟩ := bnd h
   refine Run.region hL hT [(1, .call [false] [.v (.jk)] [.v (.s (.bool r8))]), (10, .el [.s (.string x9)])] (by cbv) ?_ ?_
   · exact (hq (hC (qYI h_r8)) (hq (fun _ => hq0) (hq (fun g11 => (hq g11 (hq Tt hq0))) (hq (fun g12 => (hq g12 hq0)) (hq (fun _ => hq0) (hq (fun _ => hq0) (hq (fun g15 => (hq g15 (hq Tt hq0))) (hq (fun g16 => (hq g16 (hq g16 (hq (qM (gd_t h_x9 g16)) (hq (qb (f := Str_c) (gd_t h_x9 g16)) (hq (qx (f := Str_c) (gd_t h_x9 g16)) hq0)))))) (hq (fun g17 => (hq g17 hq0)) (hq (fun _ => hq0) (hq (fun g19 => (hq g19 (hq g19 hq0))) (hq (fun g20 => (hq g20 (hq (fun q21 => (hq (bo_a g20 q21) hq0)) (hq (fun _ => hq0) hq0)))) (hq (fun _ => hq0) (hq (fun q24 => (hq (bo_m q24) hq0)) hq0))))))))))))))
   refine Run.cond (by cbv) (hq0) (fun c25 => ?_) (fun c25 => ?_)
   ·
    have h := if_t c25 h
    refine Run.seq ?_
    refine Run.region hL hT [] (by cbv) hq0 ?_
    refine Run.ret ?_
    cases h
    refine ⟨_, _, by cbv, ?_, ?_⟩
    · exact LLe.r
    · exact (ALe.v LLe.r ALe.nil)
   ·
    have h := if_f c25 h
    refine Run.skip ?_
    refine Run.region hL hT [] (by cbv) ?_ ?_
    · exact (hq Tt hq0)
    refine ⟨(ar .add .i64 z5 1), h, Weak.of _ [] hA (by cbv) ?_⟩
    repeat (first | exact hq0 | refine hq (by first | exact Tt | rfl) ?_)
  ·
   have h := if_f c6 h
   refine Run.exit ?_
   refine Run.seq ?_
   refine Run.region hL hT [] (by cbv) hq0 ?_
   refine Run.ret ?_
   cases h
   refine ⟨_, _, by cbv, ?_, ?_⟩
   · exact LLe.r
   · exact (ALe.v LLe.r ALe.nil)
theorem qbH {a0 : Int} {r : Bool} (h : qBF.f a0 = some r) : AC Tryz.prog 93 [.v (.s (.int .i64 a0))] [.v (.jk)] [.v (.s (.bool r))] := by
 unfold qBF.f at h
 show AC Tryz.prog 93 [.v (.s (.int .i64 a0))] _ _
 refine run3 Tryz.func93 (by rfl) (by rfl) (by cbv) ⟨by decide, rfl⟩ ?_
 intro ar cm bo sc sa sx ss sl bs sb ln sr ap up rp fr ge le lt nz mm ma sm fl al ci hL F hP hA hT hM hC
 refine Run.seq ?_
 refine Run.region hL hT [] (by cbv) hq0 ?_
 refine Run.seq ?_
 obtain ⟨r1, h_r1, h⟩ := bnd h
 refine Run.region hL hT [(1, .call [false, false, false] [.v (.jk), .v (.jk), .v (.jk)] [.v (.s (.bool r1))])] (by cbv) ?_ ?_
 · exact (hq (hC (qgB h_r1)) hq0)
 refine Run.ret ?_
 cases h
 refine ⟨_, _, by cbv, ?_, ?_⟩
 · exact LLe.r
 · exact (ALe.v LLe.r ALe.nil)
theorem qVP {qU : Int} {a0v_N : Int} {a0v_S : ByteArray} {qE : List Json} {qH : List ByteArray} {r : Bool} (h : qyG.f (Json.mk qU a0v_N a0v_S qE qH) = some r) : AC Tryz.prog 134 [.ag [.s (.int .i64 qU), .s (.int .i64 a0v_N), .s (.string a0v_S), .im false (rowsOf qu qE), .im false (rowsOf Str_c qH)]] [.ag [.jk, .jk, .jk, .jk, .jk]] [.v (.s (.bool r))] := by
 unfold qyG.f at h
 let qr := rowsOf qu
 let qR := rowsOf Str_c
 let qEB := @lenI Json
 let qkB := @lenI ByteArray
 show AC Tryz.prog 134 [.ag [.s (.int .i64 qU), .s (.int .i64 a0v_N), .s (.string a0v_S), .im false (qr qE), .im false (qR qH)]] _ _
 refine run3 Tryz.func134 (by rfl) (by rfl) (by cbv) ⟨by decide, rfl⟩ ?_
 intro ar cm bo sc sa sx ss sl bs sb ln sr ap up rp fr ge le lt nz mm ma sm fl al ci hL F hP hA hT hM hC
 refine Run.seq ?_
 refine Run.region hL hT [] (by cbv) hq0 ?_
 refine Run.seq ?_
 refine Run.seq ?_
 refine Run.region hL hT [] (by cbv) ?_ ?_
 · exact (hq Tt (hq Tt (hq (fun _ => hq0) (hq (fun g2 => (by have g2C := g2; rw [show ln (qr qE) = qEB qE from ln_eq qu _] at g2C; exact (hq g2 (hq Tt hq0)))) (hq (fun g3 => (by have g3C := g3; rw [show ln (qr qE) = qEB qE from ln_eq qu _] at g3C; exact (hq g3 (hq Tt hq0)))) (hq (fun q4 => (by have q4C := q4; rw [show ln (qr qE) = qEB qE from ln_eq qu _] at q4C; exact (hq q4 hq0))) (hq (fun _ => hq0) (hq (fun _ => hq0) (hq (fun g7 => (by have g7C := g7; rw [show ln (qr qE) = qEB qE from ln_eq qu _] at g7C; exact (hq g7 (hq Tt hq0)))) (hq (fun g8 => (by have g8C := g8; rw [show ln (qr qE) = qEB qE from ln_eq qu _] at g8C; exact (hq g8 (hq Tt hq0)))) (hq (fun q9 => (by have q9C := q9; rw [show ln (qr qE) = qEB qE from ln_eq qu _] at q9C; exact (hq q9 hq0))) (hq (fun _ => hq0) (hq (fun _ => hq0) (hq (fun g12 => (by have g12C := g12; rw [show ln (qr qE) = qEB qE from ln_eq qu _] at g12C; exact (hq g12 (hq Tt hq0)))) (hq (fun g13 => (by have g13C := g13; rw [show ln (qr qE) = qEB qE from ln_eq qu _] at g13C; exact (hq g13 hq0))) (hq (fun g14 => (by have g14C := g14; rw [show ln (qr qE) = qEB qE from ln_eq qu _] at g14C; exact (hq g14 (hq Tt hq0)))) (hq (fun g15 => (by have g15C := g15; rw [show ln (qr qE) = qEB qE from ln_eq qu _] at g15C; exact (hq g15 hq0))) (hq (fun _ => hq0) (hq (fun g17 => (by have g17C := g17; rw [show ln (qr qE) = qEB qE from ln_eq qu _, show ln (qR qH) = qkB qH from ln_eq Str_c _] at g17C; exact (hq g17 (hq Tt hq0)))) (hq (fun g18 => (by have g18C := g18; rw [show ln (qr qE) = qEB qE from ln_eq qu _, show ln (qR qH) = qkB qH from ln_eq Str_c _] at g18C; exact (hq g18 (hq Tt hq0)))) (hq (fun g19 => (by have g19C := g19; rw [show ln (qr qE) = qEB qE from ln_eq qu _] at g19C; exact (hq g19 (hq (fun q20 => (by have q20C := q20; rw [show ln (qR qH) = qkB qH from ln_eq Str_c _] at q20C; exact (hq (bo_a g19 q20) hq0))) (hq (fun _ => hq0) hq0))))) (hq (fun _ => hq0) (hq (fun q23 => (by have q23C := q23; rw [show ln (qr qE) = qEB qE from ln_eq qu _] at q23C; exact (hq (bo_m q23) hq0))) hq0)))))))))))))))))))))))
 rw [show ln (qr qE) = qEB qE from ln_eq qu _]
 rw [show ln (qR qH) = qkB qH from ln_eq Str_c _]
 refine Run.cond (by cbv) (hq0) (fun c24 => ?_) (fun c24 => ?_)
 ·
  have h := if_t c24 h
  refine Run.seq ?_
  refine Run.region hL hT [] (by cbv) hq0 ?_
  refine Run.ret ?_
  cases h
  refine ⟨_, _, by cbv, ?_, ?_⟩
  · exact LLe.r
  · exact (ALe.v LLe.r ALe.nil)
 ·
  have h := if_f c24 h
  refine Run.skip ?_
  refine Run.seq ?_
  refine Run.seq ?_
  refine Run.region hL hT [] (by cbv) ?_ ?_
  · exact (hq Tt (hq Tt (hq (fun _ => hq0) (hq (fun g26 => (hq g26 (hq Tt hq0))) (hq (fun g27 => (hq g27 (hq Tt hq0))) (hq (fun q28 => (hq q28 hq0)) (hq (fun _ => hq0) (hq (fun _ => hq0) (hq (fun g31 => (hq g31 (hq Tt hq0))) (hq (fun g32 => (hq g32 (hq Tt hq0))) (hq (fun q33 => (hq q33 hq0)) (hq (fun _ => hq0) (hq (fun _ => hq0) (hq (fun g36 => (hq g36 (hq Tt hq0))) (hq (fun g37 => (hq g37 hq0)) (hq (fun g38 => (hq g38 hq0)) (hq (fun _ => hq0) (hq (fun g40 => (hq g40 (hq Tt hq0))) (hq (fun g41 => (hq g41 (hq Tt hq0))) (hq (fun g42 => (hq g42 (hq (fun q43 => (hq (bo_a g42 q43) hq0)) (hq (fun _ => hq0) hq0)))) (hq (fun _ => hq0) (hq (fun q46 => (hq (bo_m q46) hq0)) hq0))))))))))))))))))))))
  refine Run.cond (by cbv) (hq0) (fun c47 => ?_) (fun c47 => ?_)
  ·
   have h := if_t c47 h
   refine Run.seq ?_
   refine Run.region hL hT [] (by cbv) hq0 ?_
   refine Run.ret ?_
   cases h
   refine ⟨_, _, by cbv, ?_, ?_⟩
   · exact LLe.r
   · exact (ALe.v LLe.r ALe.nil)
  ·
   have h := if_f c47 h
   refine Run.skip ?_
   refine Run.seq ?_
   refine Run.seq ?_
   refine Run.region hL hT [] (by cbv) ?_ ?_
   · exact (hq Tt hq0)
   refine Run.block ?_
   refine Run.seq ?_
   refine Run.region hL hT [] (by cbv) ?_ ?_
   · exact (hq Tt hq0)
   refine Run.cond (by cbv) (hq0) (fun c48 => ?_) (fun c48 => ?_)
   ·
    have h := if_t c48 h
    refine Run.seq ?_
    obtain ⟨r49, h_r49, h⟩ := bnd h
    refine Run.region hL hT [(2, .call [false, false, false] [.v (.jk), .v (.jk), .v (.jk)] [.v (.s (.bool r49))])] (by cbv) ?_ ?_
    · exact (hq Tt (hq (hC (qgB h_r49)) hq0))
    refine Run.ret ?_
    cases h
    refine ⟨_, _, by cbv, ?_, ?_⟩
    · exact LLe.r
    · exact (ALe.v LLe.r ALe.nil)
   ·
    have h := if_f c48 h
    refine Run.seq ?_
    refine Run.region hL hT [] (by cbv) ?_ ?_
    · exact (hq Tt hq0)
    refine Run.cond (by cbv) (hq0) (fun c50 => ?_) (fun c50 => ?_)
    ·
     have h := if_t c50 h
     refine Run.seq ?_
     obtain ⟨r51, h_r51, h⟩ := bnd h
     refine Run.region hL hT [(2, .call [false] [.v (.jk)] [.v (.s (.bool r51))])] (by cbv) ?_ ?_
     · exact (hq Tt (hq (hC (qbH h_r51)) hq0))
     refine Run.ret ?_
     cases h
     refine ⟨_, _, by cbv, ?_, ?_⟩
     · exact LLe.r
     · exact (ALe.v LLe.r ALe.nil)
    ·
     have h := if_f c50 h
     refine Run.seq ?_
     refine Run.region hL hT [] (by cbv) ?_ ?_
     · exact (hq Tt hq0)
     refine Run.cond (by cbv) (hq0) (fun c52 => ?_) (fun c52 => ?_)
     ·
      have h := if_t c52 h
      refine Run.seq ?_
      obtain ⟨r53, h_r53, h⟩ := bnd h
      refine Run.region hL hT [(2, .call [false] [.v (.jk)] [.v (.s (.bool r53))])] (by cbv) ?_ ?_
      · exact (hq Tt (hq (hC (qYI h_r53)) hq0))
      refine Run.ret ?_
      cases h
      refine ⟨_, _, by cbv, ?_, ?_⟩
      · exact LLe.r
      · exact (ALe.v LLe.r ALe.nil)
     ·
      have h := if_f c52 h
      refine Run.seq ?_
      refine Run.region hL hT [] (by cbv) ?_ ?_
      · exact (hq Tt hq0)
      refine Run.cond (by cbv) (hq0) (fun c54 => ?_) (fun c54 => ?_)
      ·
       have h := if_t c54 h
       refine Run.seq ?_
       obtain ⟨r55, h_r55, h⟩ := bnd h
       refine Run.region hL hT [(10, .call [false] [.v (.jk)] [.v (.s (.bool r55))])] (by cbv) ?_ ?_
       · exact (hq Tt (hq Tt (hq Tt (hq (fun _ => hq0) (hq (fun g57 => (by have g57C := g57; rw [show ln (qr qE) = qEB qE from ln_eq qu _, show ln (qR qH) = qkB qH from ln_eq Str_c _] at g57C; exact (hq g57 (hq Tt hq0)))) (hq (fun g58 => (by have g58C := g58; rw [show ln (qr qE) = qEB qE from ln_eq qu _, show ln (qR qH) = qkB qH from ln_eq Str_c _] at g58C; exact (hq g58 (hq (hC (qSM (gd_t h_r55 g58C))) hq0)))) (hq (fun q59 => (by have q59C := q59; rw [show ln (qr qE) = qEB qE from ln_eq qu _, show ln (qR qH) = qkB qH from ln_eq Str_c _] at q59C; exact (hq q59 hq0))) (hq (fun _ => hq0) hq0))))))))
       rw [show ln (qr qE) = qEB qE from ln_eq qu _]
       rw [show ln (qR qH) = qkB qH from ln_eq Str_c _]
       refine Run.ret ?_
       cases h
       refine ⟨_, _, by cbv, ?_, ?_⟩
       · exact LLe.r
       · exact (ALe.v LLe.r ALe.nil)
      ·
       have h := if_f c54 h
       refine Run.skip ?_
       refine Run.seq ?_
       refine Run.region hL hT [] (by cbv) ?_ ?_
       · exact (hq Tt (hq Tt (hq (fun _ => hq0) (hq (fun g62 => (hq g62 (hq Tt hq0))) (hq (fun g63 => (hq g63 (hq Tt hq0))) (hq (fun _ => hq0) (hq (fun q65 => (hq (bo_m q65) hq0)) hq0)))))))
       refine Run.ret ?_
       cases h
       refine ⟨_, _, by cbv, ?_, ?_⟩
       · exact LLe.r
       · exact (ALe.v LLe.r ALe.nil)
theorem qTM (self : Json → Int → Option Int) (hself : ∀ {qU : Int} {a0v_N : Int} {a0v_S : ByteArray} {qE : List Json} {qH : List ByteArray} {a1 : Int} {r : Int} (h : self (Json.mk qU a0v_N a0v_S qE qH) a1 = some r), AC Tryz.prog 124 [.ag [.s (.int .i64 qU), .s (.int .i64 a0v_N), .s (.string a0v_S), .im false (rowsOf qu qE), .im false (rowsOf Str_c qH)], .v (.s (.int .i64 a1))] [.ag [.jk, .jk, .jk, .jk, .jk], .v (.jk)] [.v (.s (.int .i64 r))]) {qU : Int} {a0v_N : Int} {a0v_S : ByteArray} {qE : List Json} {qH : List ByteArray} {a1 : Int} {r : Int} (h : qhB.b self (Json.mk qU a0v_N a0v_S qE qH) a1 = some r) : AC Tryz.prog 124 [.ag [.s (.int .i64 qU), .s (.int .i64 a0v_N), .s (.string a0v_S), .im false (rowsOf qu qE), .im false (rowsOf Str_c qH)], .v (.s (.int .i64 a1))] [.ag [.jk, .jk, .jk, .jk, .jk], .v (.jk)] [.v (.s (.int .i64 r))] := by
 unfold qhB.b at h
 let qr := rowsOf qu
 let qR := rowsOf Str_c
 let qEB := @lenI Json
 show AC Tryz.prog 124 [.ag [.s (.int .i64 qU), .s (.int .i64 a0v_N), .s (.string a0v_S), .im false (qr qE), .im false (qR qH)], .v (.s (.int .i64 a1))] _ _
 refine run3 Tryz.func124 (by rfl) (by rfl) (by cbv) ⟨by decide, rfl⟩ ?_
 intro ar cm bo sc sa sx ss sl bs sb ln sr ap up rp fr ge le lt nz mm ma sm fl al ci hL F hP hA hT hM hC
 refine Run.seq ?_
 refine Run.region hL hT [] (by cbv) hq0 ?_
 refine Run.seq ?_
 refine Run.seq ?_
 obtain ⟨r1, h_r1, h⟩ := bnd h
 refine Run.region hL hT [(4, .call [false] [.ag [.jk, .jk, .jk, .jk, .jk]] [.v (.s (.bool r1))])] (by cbv) ?_ ?_
 · exact (hq Tt (hq (fun g2 => (hq Tt hq0)) (hq (fun g3 => (hq g3 (hq (hC (qVP (gd_t h_r1 g3))) hq0))) (hq (fun g4 => (hq g4 hq0)) (hq (fun _ => hq0) (hq (fun q6 => (hq (bo_m q6) hq0)) hq0))))))
 refine Run.cond (by cbv) (hq0) (fun c7 => ?_) (fun c7 => ?_)
 ·
  have h := if_t c7 h
  refine Run.seq ?_
  refine Run.region hL hT [] (by cbv) hq0 ?_
  refine Run.ret ?_
  cases h
  refine ⟨_, _, by cbv, ?_, ?_⟩
  · exact LLe.r
  · exact (ALe.v LLe.r ALe.nil)
 ·
  have h := if_f c7 h
  refine Run.skip ?_
  refine Run.seq ?_
  refine Run.region hL hT [] (by cbv) hq0 ?_
  refine Run.seq ?_
  refine Run.seq ?_
  refine Run.region hL hT [] (by cbv) ?_ ?_
  · exact (hq Tt hq0)
  rw [show ln (qr qE) = qEB qE from ln_eq qu _]
  refine Run.block ?_
  refine Run.loop2 (fun (z13 : Int) (z14 : Int) => ⟨32, 100000, [(1, .t (.s (.int .i64 a1))), (5, .t (.s (.int .i64 z13))), (16, .t (.im false (qr qE))), (17, .t (.s (.int .i64 (qEB qE)))), (18, .t (.s (.int .i64 z14)))], []⟩) (x0 := 1) (x1 := 0) h (Weak.of _ [] hA (by cbv) ?_) (fun _ _ => rfl) ?_
  · repeat (first | exact hq0 | refine hq (by first | exact Tt | rfl) ?_)
  ·
   intro k z13 z14 h
   rw [qhB.l0] at h
   refine Run.seq ?_
   refine Run.region hL hT [] (by cbv) ?_ ?_
   · exact (hq Tt hq0)
   refine Run.seq ?_
   refine Run.cond (by cbv) (hq0) (fun c15 => ?_) (fun c15 => ?_)
   ·
    have h := if_t c15 h
    refine Run.skip ?_
    refine Run.seq ?_
    refine Run.block ?_
    refine Run.seq ?_
    obtain ⟨⟨qrU, qiX, qjX, qQT, qRT⟩, h_x16, h⟩ := bnd h
    refine Run.region hL hT [(0, .el [.s (.int .i64 qrU), .s (.int .i64 qiX), .s (.string qjX), .im false (qr qQT), .im false (qR qRT)])] (by cbv) ?_ ?_
    · exact (hq (qM h_x16) (hq (qb (f := qu) h_x16) (hq (qAF qeD h_x16) (hq Tt hq0))))
    refine Run.seq ?_
    obtain ⟨r17, h_r17, h⟩ := bnd h
    refine Run.region hL hT [(4, .call [false, false] [.ag [.jk, .jk, .jk, .jk, .jk], .v (.jk)] [.v (.s (.int .i64 r17))])] (by cbv) ?_ ?_
    · exact (hq Tt (hq Tt (hq (hC (hself h_r17)) (hq Tt hq0))))
    refine Run.seq ?_
    refine Run.region hL hT [] (by cbv) ?_ ?_
    · exact (hq Tt hq0)
    refine Run.cond (by cbv) (hq0) (fun c18 => ?_) (fun c18 => ?_)
    ·
     have h := if_t c18 h
     refine Run.seq ?_
     refine Run.region hL hT [] (by cbv) hq0 ?_
     refine Run.ret ?_
     cases h
     refine ⟨_, _, by cbv, ?_, ?_⟩
     · exact LLe.r
     · exact (ALe.v LLe.r ALe.nil)
    ·
     have h := if_f c18 h
     refine Run.skip ?_
     refine Run.region hL hT [] (by cbv) ?_ ?_
     · exact (hq Tt hq0)
     refine ⟨(ar .add .i64 z13 r17), (ar .add .i64 z14 1), h, Weak.of _ [] hA (by cbv) ?_⟩
     repeat (first | exact hq0 | refine hq (by first | exact Tt | rfl) ?_)
   ·
    have h := if_f c15 h
    refine Run.exit ?_
    refine Run.seq ?_
    refine Run.region hL hT [] (by cbv) hq0 ?_
    refine Run.ret ?_
    cases h
    refine ⟨_, _, by cbv, ?_, ?_⟩
    · exact LLe.r
    · exact (ALe.v LLe.r ALe.nil)
theorem qyH : ∀ (k : Nat) {qU : Int} {a0v_N : Int} {a0v_S : ByteArray} {qE : List Json} {qH : List ByteArray} {a1 : Int} {r : Int} (h : qhB.g k (Json.mk qU a0v_N a0v_S qE qH) a1 = some r), AC Tryz.prog 124 [.ag [.s (.int .i64 qU), .s (.int .i64 a0v_N), .s (.string a0v_S), .im false (rowsOf qu qE), .im false (rowsOf Str_c qH)], .v (.s (.int .i64 a1))] [.ag [.jk, .jk, .jk, .jk, .jk], .v (.jk)] [.v (.s (.int .i64 r))]
 | 0 => fun h => by cases h
 | k + 1 => fun h => qTM (qhB.g k) (qyH k) h
theorem qRN {qU : Int} {a0v_N : Int} {a0v_S : ByteArray} {qE : List Json} {qH : List ByteArray} {a1 : Int} {r : Int} (h : qhB.f (Json.mk qU a0v_N a0v_S qE qH) a1 = some r) : AC Tryz.prog 124 [.ag [.s (.int .i64 qU), .s (.int .i64 a0v_N), .s (.string a0v_S), .im false (rowsOf qu qE), .im false (rowsOf Str_c qH)], .v (.s (.int .i64 a1))] [.ag [.jk, .jk, .jk, .jk, .jk], .v (.jk)] [.v (.s (.int .i64 r))] := qyH 20 h
theorem qSN {qU : Int} {a0v_N : Int} {a0v_S : ByteArray} {qE : List Json} {qH : List ByteArray} {r : Bool} (h : qtF.f (Json.mk qU a0v_N a0v_S qE qH) = some r) : AC Tryz.prog 110 [.ag [.s (.int .i64 qU), .s (.int .i64 a0v_N), .s (.string a0v_S), .im false (rowsOf qu qE), .im false (rowsOf Str_c qH)]] [.ag [.jk, .jk, .jk, .jk, .jk]] [.v (.s (.bool r))] := by
 unfold qtF.f at h
 let qr := rowsOf qu
 let qR := rowsOf Str_c
 show AC Tryz.prog 110 [.ag [.s (.int .i64 qU), .s (.int .i64 a0v_N), .s (.string a0v_S), .im false (qr qE), .im false (qR qH)]] _ _
 refine run3 Tryz.func110 (by rfl) (by rfl) (by cbv) ⟨by decide, rfl⟩ ?_
 intro ar cm bo sc sa sx ss sl bs sb ln sr ap up rp fr ge le lt nz mm ma sm fl al ci hL F hP hA hT hM hC
 refine Run.seq ?_
 refine Run.region hL hT [] (by cbv) hq0 ?_
 refine Run.seq ?_
 obtain ⟨r1, h_r1, h⟩ := bnd h
 refine Run.region hL hT [(1, .call [false, false] [.ag [.jk, .jk, .jk, .jk, .jk], .v (.jk)] [.v (.s (.int .i64 r1))])] (by cbv) ?_ ?_
 · exact (hq Tt (hq (hC (qRN h_r1)) (hq Tt hq0)))
 refine Run.ret ?_
 cases h
 refine ⟨_, _, by cbv, ?_, ?_⟩
 · exact LLe.r
 · exact (ALe.v LLe.r ALe.nil)
theorem qZI {qU : Int} {a0v_N : Int} {a0v_S : ByteArray} {qE : List Json} {qH : List ByteArray} {r : Json} (h : qbE.f (Json.mk qU a0v_N a0v_S qE qH) = some r) : AC Tryz.prog 77 [.ag [.s (.int .i64 qU), .s (.int .i64 a0v_N), .s (.string a0v_S), .ow 34 (rowsOf qdB qE), .ow 9 (rowsOf Str_c qH)]] [.ag [.jk, .jk, .jk, .jk, .jk]] [.ag [.s (.int .i64 r.Kind), .s (.int .i64 r.N), .s (.string r.S), .ow 34 (rowsOf qdB r.List_), .ow 9 (rowsOf Str_c r.Names)]] := by
 unfold qbE.f at h
 let qOB := rowsOf qdB
 let qR := rowsOf Str_c
 show AC Tryz.prog 77 [.ag [.s (.int .i64 qU), .s (.int .i64 a0v_N), .s (.string a0v_S), .ow 34 (qOB qE), .ow 9 (qR qH)]] _ _
 refine run3 Tryz.func77 (by rfl) (by rfl) (by cbv) ⟨by decide, rfl⟩ ?_
 intro ar cm bo sc sa sx ss sl bs sb ln sr ap up rp fr ge le lt nz mm ma sm fl al ci hL F hP hA hT hM hC
 refine Run.seq ?_
 refine Run.region hL hT [] (by cbv) hq0 ?_
 refine Run.seq ?_
 refine Run.seq ?_
 obtain ⟨r1, h_r1, h⟩ := bnd h
 refine Run.region hL hT [(1, .call [false] [.ag [.jk, .jk, .jk, .jk, .jk]] [.v (.s (.bool r1))])] (by cbv) ?_ ?_
 · exact (hq Tt (hq (hC (AC.args (qSN h_r1) (ALe.ag rfl (LLe.c (LLe.c (LLe.c (LLe.cons (LLe.im (RLe.eq (qmB qUG _))) (LLe.cons (LLe.im (RLe.eq (qmB qEF _))) LLe.nil))))) ALe.nil))) hq0))
 refine Run.cond (by cbv) (hq0) (fun c2 => ?_) (fun c2 => ?_)
 ·
  have h := if_t c2 h
  refine Run.seq ?_
  refine Run.region hL hT [] (by cbv) ?_ ?_
  · exact (hq Tt hq0)
  refine Run.ret ?_
  cases h
  refine ⟨_, _, by cbv, ?_, ?_⟩
  · exact (LLe.c (LLe.c (LLe.c (LLe.cons LLe.jk (LLe.cons LLe.jk LLe.nil)))))
  · exact (ALe.ag rfl (LLe.c (LLe.c (LLe.c (LLe.cons LLe.nilO (LLe.cons LLe.nilO LLe.nil))))) ALe.nil)
 ·
  have h := if_f c2 h
  refine Run.skip ?_
  refine Run.seq ?_
  refine Run.region hL hT [] (by cbv) ?_ ?_
  · exact (hq Tt (hq Tt hq0))
  refine Run.weak ?_ (Weak.mvB 0 14290 3 (by cbv) (by cbv) (by cbv))
  refine Run.weak ?_ (Weak.mvB 1 14291 3 (by cbv) (by cbv) (by cbv))
  refine Run.ret ?_
  cases h
  refine ⟨_, _, by cbv, ?_, ?_⟩
  · exact LLe.r
  · exact (ALe.ag rfl LLe.r ALe.nil)
theorem qTN {qW : Int} {qS : List Cond} {qX : Int} {qi : Bool} {qY : Int} {qe : List Int} {qj : Bool} {qK : Int} {qQ : Int} {qGC : Int} {qv : List Int} {a2 : Int} {r : Json} (h : qfC.f (Query.mk qW qS qX qi qY qe qj qK qQ) (Row.mk qGC qv) a2 = some r) : AC Tryz.prog 108 [.ag [.s (.int .i64 qW), .im false (rowsOf Cond_c qS), .s (.int .i64 qX), .s (.bool qi), .s (.int .i64 qY), .im false (rowsOf Int_c qe), .s (.bool qj), .s (.int .i64 qK), .s (.int .i64 qQ)], .ag [.s (.int .i64 qGC), .im false (rowsOf Int_c qv)], .v (.s (.int .i64 a2))] [.ag [.jk, .jk, .jk, .jk, .jk, .jk, .jk, .jk, .jk], .ag [.jk, .jk], .v (.jk)] [.ag [.s (.int .i64 r.Kind), .s (.int .i64 r.N), .s (.string r.S), .ow 34 (rowsOf qdB r.List_), .ow 9 (rowsOf Str_c r.Names)]] := by
 unfold qfC.f at h
 let qJ := rowsOf Cond_c
 let qB := rowsOf Int_c
 let qOB := rowsOf qdB
 let qR := rowsOf Str_c
 let qh := @lenI Int
 show AC Tryz.prog 108 [.ag [.s (.int .i64 qW), .im false (qJ qS), .s (.int .i64 qX), .s (.bool qi), .s (.int .i64 qY), .im false (qB qe), .s (.bool qj), .s (.int .i64 qK), .s (.int .i64 qQ)], .ag [.s (.int .i64 qGC), .im false (qB qv)], .v (.s (.int .i64 a2))] _ _
 refine run3 Tryz.func108 (by rfl) (by rfl) (by cbv) ⟨by decide, rfl⟩ ?_
 intro ar cm bo sc sa sx ss sl bs sb ln sr ap up rp fr ge le lt nz mm ma sm fl al ci hL F hP hA hT hM hC
 refine Run.seq ?_
 refine Run.region hL hT [] (by cbv) hq0 ?_
 refine Run.seq ?_
 obtain ⟨l1, h_l1, h⟩ := bnd h
 obtain ⟨l2, h_l2, h⟩ := bnd h
 refine Run.draw hL hT hM [] (by cbv) (by cbv) (by cbv) (by cbv) (by cbv) ?_ ?_
 · exact (hq Tt hq0)
 refine Run.row (rows := [[.s (.string (ByteArray.mk #[105, 100]))]]) 4096 (qR l1) (by cbv) (qvB (f := Str_c) h_l1 (RLe.cons rfl LLe.r RLe.nil)) ?_
 refine Run.row (rows := [[.s (.int .i64 qGC)]]) 4099 (qB l2) (by cbv) (qvB (f := Int_c) h_l2 (RLe.cons rfl LLe.r RLe.nil)) ?_
 obtain ⟨K5, h_K5, h⟩ := joinE h
 refine Run.join2 K5 (r := r) (fun (y3 : List ByteArray) (y4 : List Int) => ⟨55, 100000, [(2, .t (.s (.int .i64 a2))), (3, .pt 1 0 0), (6, .pt 2 0 0), (7, .rf 3), (8, .rf 4)], [(1, .box 38 [.t (.s (.int .i64 qW)), .t (.im false (qJ qS)), .t (.s (.int .i64 qX)), .t (.s (.bool qi)), .t (.s (.int .i64 qY)), .t (.im false (qB qe)), .t (.s (.bool qj)), .t (.s (.int .i64 qK)), .t (.s (.int .i64 qQ))]), (2, .box 34 [.t (.s (.int .i64 0)), .t (.s (.int .i64 0)), .t (.s (.string ByteArray.empty)), .t (.s (.slice none 0 0)), .t (.s (.slice none 0 0))]), (3, .row 0 9 1 (qR y3)), (4, .row 0 3 1 (qB y4))]⟩) ?_ ?_
 ·
  skip
  refine Run.seq ?_
  refine Run.region hL hT [] (by cbv) ?_ ?_
  · exact (hq Tt hq0)
  rw [show ln (qB qe) = qh qe from ln_eq Int_c _]
  refine Run.block ?_
  refine Run.loop3 (fun (z26 : List ByteArray) (z27 : List Int) (z28 : Int) => ⟨55, 100000, [(2, .t (.s (.int .i64 a2))), (3, .pt 1 0 0), (4, .pt 2 0 0), (6, .pt 3 0 0), (7, .rf 4), (8, .rf 5), (16, .t (.im false (qB qe))), (17, .t (.s (.int .i64 (qh qe)))), (18, .t (.s (.int .i64 z28)))], [(1, .box 38 [.t (.s (.int .i64 qW)), .t (.im false (qJ qS)), .t (.s (.int .i64 qX)), .t (.s (.bool qi)), .t (.s (.int .i64 qY)), .t (.im false (qB qe)), .t (.s (.bool qj)), .t (.s (.int .i64 qK)), .t (.s (.int .i64 qQ))]), (2, .box 91 [.t (.s (.int .i64 qGC)), .t (.im false (qB qv))]), (3, .box 34 [.t (.s (.int .i64 0)), .t (.s (.int .i64 0)), .t (.s (.string ByteArray.empty)), .t (.s (.slice none 0 0)), .t (.s (.slice none 0 0))]), (4, .row 0 9 1 (qR z26)), (5, .row 0 3 1 (qB z27))]⟩) (x0 := l1) (x1 := l2) (x2 := 0) h (Weak.of _ [(1, 0), (2, 1), (3, 2), (4, 4096), (5, 4099)] hA (by cbv) ?_) (fun _ _ _ => rfl) ?_
  · repeat (first | exact hq0 | refine hq (by first | exact Tt | rfl) ?_)
  ·
   intro k z26 z27 z28 h
   rw [qfC.l0] at h
   refine Run.seq ?_
   refine Run.region hL hT [] (by cbv) ?_ ?_
   · exact (hq Tt hq0)
   refine Run.seq ?_
   refine Run.cond (by cbv) (hq0) (fun c29 => ?_) (fun c29 => ?_)
   ·
    have h := if_t c29 h
    refine Run.skip ?_
    refine Run.seq ?_
    refine Run.block ?_
    refine Run.seq ?_
    obtain ⟨x30, h_x30, h⟩ := bnd h
    refine Run.region hL hT [(1, .el [.s (.int .i64 x30)])] (by cbv) ?_ ?_
    · exact (hq (qM h_x30) (hq (qb (f := Int_c) h_x30) (hq (qx (f := Int_c) h_x30) hq0)))
    refine Run.seq ?_
    refine Run.seq ?_
    obtain ⟨l31, h_l31, h⟩ := bnd h
    obtain ⟨r32, h_r32, h⟩ := bnd h
    refine Run.region hL hT [(5, .call [false, false] [.v (.jk), .v (.jk)] [.v (.s (.bool r32))])] (by cbv) ?_ ?_
    · exact (hq Tt (hq (cut_0 h_l31) (hq (cut_1 h_l31) (hq (cut_2 (f := Int_c) h_l31) (hq (qsV qnW _) (hq (hC (AC.args (qgH h_r32) (ALe.v (LLe.im (RLe.eq (qBU Int_c h_l31))) (ALe.v LLe.r ALe.nil)))) hq0))))))
    rw [show sr (qB qe) 0 z28 = qB l31 from qBU Int_c h_l31]
    refine Run.cond (by cbv) (hq0) (fun c33 => ?_) (fun c33 => ?_)
    ·
     have h := if_t c33 h
     refine Run.exit ?_
     refine Run.region hL hT [] (by cbv) ?_ ?_
     · exact (hq Tt hq0)
     refine ⟨z26, z27, (ar .add .i64 z28 1), h, Weak.of _ [(1, 1), (2, 2), (3, 3), (4, 4), (5, 5)] hA (by cbv) ?_⟩
     repeat (first | exact hq0 | refine hq (by first | exact Tt | rfl) ?_)
    ·
     have h := if_f c33 h
     refine Run.skip ?_
     refine Run.seq ?_
     obtain ⟨r34, h_r34, h⟩ := bnd h
     obtain ⟨u35, h_u35, h⟩ := bnd h
     obtain ⟨l36, h_l36, h⟩ := bnd h
     obtain ⟨l37, h_l37, h⟩ := bnd h
     refine Run.region hL hT [(2, .call [false] [.v (.jk)] [.v (.s (.string r34))])] (by cbv) ?_ ?_
     · exact (hq (hC (qQN h_r34)) (hq (sm_t h_u35) (hq (qLE (P := Tryz.prog) (f := Str_c) RLe.r (qvB (f := Str_c) h_l36 (RLe.cons rfl LLe.r RLe.nil)) h_l37) hq0)))
     refine Run.row (rows := (ap (qR z26) ([[.s (.string (sa (ByteArray.mk #[99]) r34))]]))) 112293 (qR l37) (by cbv) (qKE (f := Str_c) RLe.r (qvB (f := Str_c) h_l36 (RLe.cons rfl LLe.r RLe.nil)) h_l37) ?_
     obtain ⟨r38, h_r38, h⟩ := bnd h
     obtain ⟨l39, h_l39, h⟩ := bnd h
     obtain ⟨l40, h_l40, h⟩ := bnd h
     refine Run.region hL hT [(3, .call [false, false] [.ag [.jk, .jk], .v (.jk)] [.v (.s (.int .i64 r38))])] (by cbv) ?_ ?_
     · exact (hq Tt (hq (hC (qkG h_r38)) (hq (qLE (P := Tryz.prog) (f := Int_c) RLe.r (qvB (f := Int_c) h_l39 (RLe.cons rfl LLe.r RLe.nil)) h_l40) hq0)))
     refine Run.row (rows := (ap (qB z27) ([[.s (.int .i64 r38)]]))) 116389 (qB l40) (by cbv) (qKE (f := Int_c) RLe.r (qvB (f := Int_c) h_l39 (RLe.cons rfl LLe.r RLe.nil)) h_l40) ?_
     refine Run.region hL hT [] (by cbv) ?_ ?_
     · exact (hq Tt hq0)
     refine ⟨l37, l40, (ar .add .i64 z28 1), h, Weak.of _ [(1, 1), (2, 2), (3, 3), (4, 112293), (5, 116389)] hA (by cbv) ?_⟩
     repeat (first | exact hq0 | refine hq (by first | exact Tt | rfl) ?_)
   ·
    have h := if_f c29 h
    refine Run.exit ?_
    refine ⟨z26, z27, h, Weak.of _ [(1, 1), (2, 3), (3, 4), (4, 5)] hA (by cbv) ?_⟩
    repeat (first | exact hq0 | refine hq (by first | exact Tt | rfl) ?_)
 ·
  intro y3 y4 h
  rw [h_K5] at h
  obtain ⟨K43, h_K43, h⟩ := joinE h
  refine Run.join2 K43 (r := r) (fun (y41 : List ByteArray) (y42 : List Int) => ⟨55, 100000, [(6, .pt 1 0 0), (7, .rf 2), (8, .rf 3)], [(1, .box 34 [.t (.s (.int .i64 0)), .t (.s (.int .i64 0)), .t (.s (.string ByteArray.empty)), .t (.s (.slice none 0 0)), .t (.s (.slice none 0 0))]), (2, .row 0 9 1 (qR y41)), (3, .row 0 3 1 (qB y42))]⟩) ?_ ?_
  ·
   skip
   refine Run.seq ?_
   refine Run.region hL hT [] (by cbv) ?_ ?_
   · exact (hq Tt hq0)
   refine Run.cond (by cbv) (hq0) (fun c44 => ?_) (fun c44 => ?_)
   ·
    have h := if_t c44 h
    refine Run.seq ?_
    obtain ⟨l45, h_l45, h⟩ := bnd h
    obtain ⟨l46, h_l46, h⟩ := bnd h
    refine Run.region hL hT [] (by cbv) ?_ ?_
    · exact (hq (qLE (P := Tryz.prog) (f := Str_c) RLe.r (qvB (f := Str_c) h_l45 (RLe.cons rfl LLe.r RLe.nil)) h_l46) hq0)
    refine Run.row (rows := (ap (qR y3) ([[.s (.string (ByteArray.mk #[107, 105, 100, 115]))]]))) 104098 (qR l46) (by cbv) (qKE (f := Str_c) RLe.r (qvB (f := Str_c) h_l45 (RLe.cons rfl LLe.r RLe.nil)) h_l46) ?_
    obtain ⟨l47, h_l47, h⟩ := bnd h
    obtain ⟨l48, h_l48, h⟩ := bnd h
    refine Run.region hL hT [] (by cbv) ?_ ?_
    · exact (hq (qLE (P := Tryz.prog) (f := Int_c) RLe.r (qvB (f := Int_c) h_l47 (RLe.cons rfl LLe.r RLe.nil)) h_l48) hq0)
    refine ⟨l46, l48, h, (Weak.row (rows := (ap (qB y4) ([[.s (.int .i64 a2)]]))) 108195 (qB l48) (by cbv) (qKE (f := Int_c) RLe.r (qvB (f := Int_c) h_l47 (RLe.cons rfl LLe.r RLe.nil)) h_l48)).trans (Weak.of _ [(1, 2), (2, 104098), (3, 108195)] hA (by cbv) ?_)⟩
    repeat (first | exact hq0 | refine hq (by first | exact Tt | rfl) ?_)
   ·
    have h := if_f c44 h
    refine Run.skip ?_
    refine ⟨y3, y4, h, Weak.of _ [(1, 2), (2, 3), (3, 4)] hA (by cbv) ?_⟩
    repeat (first | exact hq0 | refine hq (by first | exact Tt | rfl) ?_)
  ·
   intro y41 y42 h
   rw [h_K43] at h
   refine Run.seq ?_
   obtain ⟨⟨r49v_Kind, r49v_N, r49v_S, r49v_List_, r49v_Names⟩, h_r49, h⟩ := bnd h
   obtain ⟨⟨r50v_Kind, r50v_N, r50v_S, r50v_List_, r50v_Names⟩, h_r50, h⟩ := bnd h
   refine Run.region hL hT [(2, .call [false, false] [.v (.jk), .v (.jk)] [.ag [.s (.int .i64 r49v_Kind), .s (.int .i64 r49v_N), .s (.string r49v_S), .ow 34 (qOB r49v_List_), .ow 9 (qR r49v_Names)]]), (3, .call [true] [.ag [.jk, .jk, .jk, .jk, .jk]] [.ag [.s (.int .i64 r50v_Kind), .s (.int .i64 r50v_N), .s (.string r50v_S), .ow 34 (qOB r50v_List_), .ow 9 (qR r50v_Names)]])] (by cbv) ?_ ?_
   · exact (hq (hC (AC.args (qUP h_r49) (ALe.v (LLe.im (RLe.eq (qmB qEF _))) (ALe.v (LLe.im (RLe.eq (qmB qBD _))) ALe.nil)))) (hq (hC (qZI h_r50)) (hq Tt hq0)))
   refine Run.ret ?_
   cases h
   refine ⟨_, _, by cbv, ?_, ?_⟩
   · exact LLe.r
   · exact (ALe.ag rfl LLe.r ALe.nil)
theorem qUM {qW : Int} {qS : List Cond} {qX : Int} {qi : Bool} {qY : Int} {qe : List Int} {qj : Bool} {qK : Int} {qQ : Int} {a1 : List Row} {a2 : List Int} {r : (List Json)} (h : qjC.f (Query.mk qW qS qX qi qY qe qj qK qQ) a1 a2 = some r) : AC Tryz.prog 74 [.ag [.s (.int .i64 qW), .im false (rowsOf Cond_c qS), .s (.int .i64 qX), .s (.bool qi), .s (.int .i64 qY), .im false (rowsOf Int_c qe), .s (.bool qj), .s (.int .i64 qK), .s (.int .i64 qQ)], .v (.im false (rowsOf Row_i a1)), .v (.im false (rowsOf Int_c a2))] [.ag [.jk, .jk, .jk, .jk, .jk, .jk, .jk, .jk, .jk], .v (.jk), .v (.jk)] [.v (.ow 34 (rowsOf qdB r))] := by
 unfold qjC.f at h
 let qJ := rowsOf Cond_c
 let qB := rowsOf Int_c
 let qOB := rowsOf qdB
 let qMB := rowsOf Row_i
 let qR := rowsOf Str_c
 let qh := @lenI Int
 let qDB := @lenI Row
 show AC Tryz.prog 74 [.ag [.s (.int .i64 qW), .im false (qJ qS), .s (.int .i64 qX), .s (.bool qi), .s (.int .i64 qY), .im false (qB qe), .s (.bool qj), .s (.int .i64 qK), .s (.int .i64 qQ)], .v (.im false (qMB a1)), .v (.im false (qB a2))] _ _
 refine run3 Tryz.func74 (by rfl) (by rfl) (by cbv) ⟨by decide, rfl⟩ ?_
 intro ar cm bo sc sa sx ss sl bs sb ln sr ap up rp fr ge le lt nz mm ma sm fl al ci hL F hP hA hT hM hC
 refine Run.seq ?_
 refine Run.region hL hT [] (by cbv) hq0 ?_
 refine Run.seq ?_
 refine Run.region hL hT [] (by cbv) hq0 ?_
 refine Run.seq ?_
 refine Run.seq ?_
 obtain ⟨r1, h_r1, h⟩ := bnd h
 obtain ⟨l2, h_l2, h⟩ := bnd h
 refine Run.region hL hT [(4, .call [false, false] [.ag [.jk, .jk, .jk, .jk, .jk, .jk, .jk, .jk, .jk], .v (.jk)] [.v (.s (.int .i64 r1))])] (by cbv) ?_ ?_
 · exact (hq Tt (hq (by rw [show ln (qMB a1) = qDB a1 from ln_eq Row_i _]; exact (hC (qQM h_r1))) (hq (cut_0 h_l2) (hq (cut_1 h_l2) (hq (cut_2 (f := Row_i) h_l2) (hq (qsV qoW _) hq0))))))
 rw [show sr (qMB a1) 0 r1 = qMB l2 from qBU Row_i h_l2]
 rw [show ln (qMB a1) = qDB a1 from ln_eq Row_i _]
 rw [show ln (qMB l2) = qDB l2 from ln_eq Row_i _]
 refine Run.block ?_
 refine Run.loop2 (fun (z17 : List Json) (z18 : Int) => ⟨41, 100000, [(2, .t (.im false (qB a2))), (3, .pt 1 0 0), (7, .rf 2), (17, .t (.im false (qMB l2))), (18, .t (.s (.int .i64 (qDB l2)))), (19, .t (.s (.int .i64 z18)))], [(1, .box 38 [.t (.s (.int .i64 qW)), .t (.im false (qJ qS)), .t (.s (.int .i64 qX)), .t (.s (.bool qi)), .t (.s (.int .i64 qY)), .t (.im false (qB qe)), .t (.s (.bool qj)), .t (.s (.int .i64 qK)), .t (.s (.int .i64 qQ))]), (2, .row 0 34 5 (qOB z17))]⟩) (x0 := []) (x1 := 0) h (Weak.of _ [(1, 0), (2, 4096)] hA (by cbv) ?_) (fun _ _ => rfl) ?_
 · repeat (first | exact hq0 | refine hq (by first | exact Tt | rfl) ?_)
 ·
  intro k z17 z18 h
  rw [qjC.l0] at h
  refine Run.seq ?_
  refine Run.region hL hT [] (by cbv) ?_ ?_
  · exact (hq Tt hq0)
  refine Run.seq ?_
  refine Run.cond (by cbv) (hq0) (fun c19 => ?_) (fun c19 => ?_)
  ·
   have h := if_t c19 h
   refine Run.skip ?_
   refine Run.seq ?_
   refine Run.block ?_
   refine Run.seq ?_
   obtain ⟨⟨qsU, qIO⟩, h_x20, h⟩ := bnd h
   refine Run.region hL hT [(1, .el [.s (.int .i64 qsU), .im false (qB qIO)])] (by cbv) ?_ ?_
   · exact (hq (qM h_x20) (hq (qb (f := Row_i) h_x20) (hq (qx (f := Row_i) h_x20) (hq Tt hq0))))
   refine Run.seq ?_
   refine Run.region hL hT [] (by cbv) hq0 ?_
   obtain ⟨K22, h_K22, h⟩ := joinE h
   refine Run.join1 K22 (r := r) (fun (y21 : Int) => ⟨41, 100000, [(2, .t (.im false (qB a2))), (3, .pt 1 0 0), (7, .rf 2), (9, .pt 3 0 0), (10, .t (.s (.int .i64 y21))), (17, .t (.im false (qMB l2))), (18, .t (.s (.int .i64 (qDB l2)))), (19, .t (.s (.int .i64 z18)))], [(1, .box 38 [.t (.s (.int .i64 qW)), .t (.im false (qJ qS)), .t (.s (.int .i64 qX)), .t (.s (.bool qi)), .t (.s (.int .i64 qY)), .t (.im false (qB qe)), .t (.s (.bool qj)), .t (.s (.int .i64 qK)), .t (.s (.int .i64 qQ))]), (2, .row 0 34 5 (qOB z17)), (3, .box 91 [.t (.s (.int .i64 qsU)), .t (.im false (qB qIO))])]⟩) ?_ ?_
   ·
    skip
    refine Run.seq ?_
    refine Run.region hL hT [] (by cbv) ?_ ?_
    · exact (hq Tt hq0)
    rw [show ln (qB a2) = qh a2 from ln_eq Int_c _]
    refine Run.cond (by cbv) (hq0) (fun c23 => ?_) (fun c23 => ?_)
    ·
     have h := if_t c23 h
     obtain ⟨x24, h_x24, h⟩ := bnd h
     refine Run.region hL hT [(2, .el [.s (.int .i64 x24)])] (by cbv) ?_ ?_
     · exact (hq (qM h_x24) (hq (qb (f := Int_c) h_x24) (hq (qx (f := Int_c) h_x24) hq0)))
     refine ⟨x24, h, Weak.of _ [(1, 1), (2, 2), (3, 104099)] hA (by cbv) ?_⟩
     repeat (first | exact hq0 | refine hq (by first | exact Tt | rfl) ?_)
    ·
     have h := if_f c23 h
     refine Run.skip ?_
     refine ⟨0, h, Weak.of _ [(1, 1), (2, 2), (3, 104099)] hA (by cbv) ?_⟩
     repeat (first | exact hq0 | refine hq (by first | exact Tt | rfl) ?_)
   ·
    intro y21 h
    rw [h_K22] at h
    obtain ⟨⟨r25v_Kind, r25v_N, r25v_S, r25v_List_, r25v_Names⟩, h_r25, h⟩ := bnd h
    obtain ⟨l26, h_l26, h⟩ := bnd h
    obtain ⟨l27, h_l27, h⟩ := bnd h
    refine Run.region hL hT [(4, .call [false, false, false] [.ag [.jk, .jk, .jk, .jk, .jk, .jk, .jk, .jk, .jk], .ag [.jk, .jk], .v (.jk)] [.ag [.s (.int .i64 r25v_Kind), .s (.int .i64 r25v_N), .s (.string r25v_S), .ow 34 (qOB r25v_List_), .ow 9 (qR r25v_Names)]])] (by cbv) ?_ ?_
    · exact (hq Tt (hq Tt (hq (hC (qTN h_r25)) (hq (qLE (P := Tryz.prog) (f := qdB) RLe.r (qDE qUD h_l26 (RLe.cons rfl LLe.r RLe.nil)) h_l27) hq0))))
    refine Run.row (rows := (ap (qOB z17) ([[.s (.int .i64 r25v_Kind), .s (.int .i64 r25v_N), .s (.string r25v_S), .ow 34 (qOB r25v_List_), .ow 9 (qR r25v_Names)]]))) 100006 (qOB l27) (by cbv) (qKE (f := qdB) RLe.r (qDE qUD h_l26 (RLe.cons rfl LLe.r RLe.nil)) h_l27) ?_
    refine Run.region hL hT [] (by cbv) ?_ ?_
    · exact (hq Tt hq0)
    refine ⟨l27, (ar .add .i64 z18 1), h, Weak.of _ [(1, 1), (2, 100006)] hA (by cbv) ?_⟩
    repeat (first | exact hq0 | refine hq (by first | exact Tt | rfl) ?_)
  ·
   have h := if_f c19 h
   refine Run.exit ?_
   refine Run.seq ?_
   refine Run.region hL hT [] (by cbv) hq0 ?_
   refine Run.ret ?_
   cases h
   refine ⟨_, _, by cbv, ?_, ?_⟩
   · exact LLe.r
   · exact (ALe.v LLe.r ALe.nil)
theorem qVM {qU : Int} {a0v_N : Int} {a0v_S : ByteArray} {qE : List Json} {qH : List ByteArray} {r : Bool} (h : qSG.f (Json.mk qU a0v_N a0v_S qE qH) = some r) : AC Tryz.prog 76 [.ag [.s (.int .i64 qU), .s (.int .i64 a0v_N), .s (.string a0v_S), .im false (rowsOf qu qE), .im false (rowsOf Str_c qH)]] [.ag [.jk, .jk, .jk, .jk, .jk]] [.v (.s (.bool r))] := by
 unfold qSG.f at h
 let qr := rowsOf qu
 let qR := rowsOf Str_c
 show AC Tryz.prog 76 [.ag [.s (.int .i64 qU), .s (.int .i64 a0v_N), .s (.string a0v_S), .im false (qr qE), .im false (qR qH)]] _ _
 refine run3 Tryz.func76 (by rfl) (by rfl) (by cbv) ⟨by decide, rfl⟩ ?_
 intro ar cm bo sc sa sx ss sl bs sb ln sr ap up rp fr ge le lt nz mm ma sm fl al ci hL F hP hA hT hM hC
 refine Run.seq ?_
 refine Run.region hL hT [] (by cbv) hq0 ?_
 refine Run.seq ?_
 refine Run.region hL hT [] (by cbv) ?_ ?_
 · exact (hq Tt (hq Tt hq0))
 refine Run.ret ?_
 cases h
 refine ⟨_, _, by cbv, ?_, ?_⟩
 · exact LLe.r
 · exact (ALe.v LLe.r ALe.nil)
theorem qfD {a0 : List Json} {r : Int} (h : qd.f a0 = some r) : AC Tryz.prog 109 [.v (.im false (rowsOf qu a0)), .v (.fn 76 [])] [.v (.jk), .v (.jk)] [.v (.s (.int .i64 r))] := by
 unfold qd.f at h
 let qr := rowsOf qu
 let qR := rowsOf Str_c
 let qEB := @lenI Json
 show AC Tryz.prog 109 [.v (.im false (qr a0)), .v (.fn 76 [])] _ _
 refine run3 Tryz.func109 (by rfl) (by rfl) (by cbv) ⟨by decide, rfl⟩ ?_
 intro ar cm bo sc sa sx ss sl bs sb ln sr ap up rp fr ge le lt nz mm ma sm fl al ci hL F hP hA hT hM hC
 refine Run.weak ?_ (Weak.fnT 1 (by cbv))
 refine Run.seq ?_
 refine Run.region hL hT [] (by cbv) hq0 ?_
 refine Run.seq ?_
 refine Run.seq ?_
 refine Run.region hL hT [] (by cbv) hq0 ?_
 rw [show ln (qr a0) = qEB a0 from ln_eq qu _]
 refine Run.block ?_
 refine Run.loop1 (fun (z4 : Int) => ⟨19, 100000, [(0, .t (.im false (qr a0))), (1, .fn 76 []), (7, .t (.s (.int .i64 (qEB a0)))), (8, .t (.s (.int .i64 z4)))], []⟩) (x0 := 0) h (Weak.of _ [] hA (by cbv) ?_) (fun _ => rfl) ?_
 · repeat (first | exact hq0 | refine hq (by first | exact Tt | rfl) ?_)
 ·
  intro k z4 h
  rw [qd.l0] at h
  refine Run.seq ?_
  refine Run.region hL hT [] (by cbv) ?_ ?_
  · exact (hq Tt hq0)
  refine Run.seq ?_
  refine Run.cond (by cbv) (hq0) (fun c5 => ?_) (fun c5 => ?_)
  ·
   have h := if_t c5 h
   refine Run.skip ?_
   refine Run.seq ?_
   refine Run.block ?_
   refine Run.seq ?_
   refine Run.region hL hT [] (by cbv) hq0 ?_
   refine Run.seq ?_
   obtain ⟨⟨qoV, x6v_N, x6v_S, qtU, quU⟩, h_x6, h⟩ := bnd h
   obtain ⟨r7, h_r7, h⟩ := bnd h
   refine Run.region hL hT [(3, .el [.s (.int .i64 qoV), .s (.int .i64 x6v_N), .s (.string x6v_S), .im false (qr qtU), .im false (qR quU)]), (5, .call [false] [.ag [.jk, .jk, .jk, .jk, .jk]] [.v (.s (.bool r7))])] (by cbv) ?_ ?_
   · exact (hq (qM h_x6) (hq (qb (f := qu) h_x6) (hq (qAF qeD h_x6) (hq (hC (qVM h_r7)) hq0))))
   refine Run.cond (by cbv) (hq0) (fun c8 => ?_) (fun c8 => ?_)
   ·
    have h := if_t c8 h
    refine Run.seq ?_
    refine Run.region hL hT [] (by cbv) hq0 ?_
    refine Run.ret ?_
    cases h
    refine ⟨_, _, by cbv, ?_, ?_⟩
    · exact LLe.r
    · exact (ALe.v LLe.r ALe.nil)
   ·
    have h := if_f c8 h
    refine Run.skip ?_
    refine Run.region hL hT [] (by cbv) ?_ ?_
    · exact (hq Tt hq0)
    refine ⟨(ar .add .i64 z4 1), h, Weak.of _ [] hA (by cbv) ?_⟩
    repeat (first | exact hq0 | refine hq (by first | exact Tt | rfl) ?_)
  ·
   have h := if_f c5 h
   refine Run.exit ?_
   refine Run.seq ?_
   refine Run.region hL hT [] (by cbv) hq0 ?_
   refine Run.ret ?_
   cases h
   refine ⟨_, _, by cbv, ?_, ?_⟩
   · exact LLe.r
   · exact (ALe.v LLe.r ALe.nil)
theorem qRD {a0 : List Json} {r : Bool} (h : qNB.f a0 = some r) : AC Tryz.prog 75 [.v (.im false (rowsOf qu a0)), .v (.fn 76 [])] [.v (.jk), .v (.jk)] [.v (.s (.bool r))] := by
 unfold qNB.f at h
 let qr := rowsOf qu
 show AC Tryz.prog 75 [.v (.im false (qr a0)), .v (.fn 76 [])] _ _
 refine run3 Tryz.func75 (by rfl) (by rfl) (by cbv) ⟨by decide, rfl⟩ ?_
 intro ar cm bo sc sa sx ss sl bs sb ln sr ap up rp fr ge le lt nz mm ma sm fl al ci hL F hP hA hT hM hC
 refine Run.weak ?_ (Weak.fnT 1 (by cbv))
 refine Run.seq ?_
 refine Run.region hL hT [] (by cbv) hq0 ?_
 refine Run.seq ?_
 obtain ⟨r1, h_r1, h⟩ := bnd h
 refine Run.region hL hT [(2, .call [false, false] [.v (.jk), .v (.jk)] [.v (.s (.int .i64 r1))])] (by cbv) ?_ ?_
 · exact (hq (hC (qfD h_r1)) (hq Tt hq0))
 refine Run.ret ?_
 cases h
 refine ⟨_, _, by cbv, ?_, ?_⟩
 · exact LLe.r
 · exact (ALe.v LLe.r ALe.nil)
theorem qWP {qW : Int} {qS : List Cond} {qX : Int} {qi : Bool} {qY : Int} {qe : List Int} {qj : Bool} {qK : Int} {qQ : Int} {a1 : List Row} {a2 : List Int} {r : Json} (h : qCF.f (Query.mk qW qS qX qi qY qe qj qK qQ) a1 a2 = some r) : AC Tryz.prog 30 [.ag [.s (.int .i64 qW), .im false (rowsOf Cond_c qS), .s (.int .i64 qX), .s (.bool qi), .s (.int .i64 qY), .im false (rowsOf Int_c qe), .s (.bool qj), .s (.int .i64 qK), .s (.int .i64 qQ)], .v (.im false (rowsOf Row_i a1)), .v (.im false (rowsOf Int_c a2))] [.ag [.jk, .jk, .jk, .jk, .jk, .jk, .jk, .jk, .jk], .v (.jk), .v (.jk)] [.ag [.s (.int .i64 r.Kind), .s (.int .i64 r.N), .s (.string r.S), .ow 34 (rowsOf qdB r.List_), .ow 9 (rowsOf Str_c r.Names)]] := by
 unfold qCF.f at h
 let qJ := rowsOf Cond_c
 let qB := rowsOf Int_c
 let qOB := rowsOf qdB
 let qMB := rowsOf Row_i
 let qR := rowsOf Str_c
 let qDB := @lenI Row
 show AC Tryz.prog 30 [.ag [.s (.int .i64 qW), .im false (qJ qS), .s (.int .i64 qX), .s (.bool qi), .s (.int .i64 qY), .im false (qB qe), .s (.bool qj), .s (.int .i64 qK), .s (.int .i64 qQ)], .v (.im false (qMB a1)), .v (.im false (qB a2))] _ _
 refine run3 Tryz.func30 (by rfl) (by rfl) (by cbv) ⟨by decide, rfl⟩ ?_
 intro ar cm bo sc sa sx ss sl bs sb ln sr ap up rp fr ge le lt nz mm ma sm fl al ci hL F hP hA hT hM hC
 refine Run.seq ?_
 refine Run.region hL hT [] (by cbv) hq0 ?_
 refine Run.seq ?_
 obtain ⟨r1, h_r1, h⟩ := bnd h
 refine Run.region hL hT [(3, .call [false, false, false] [.ag [.jk, .jk, .jk, .jk, .jk, .jk, .jk, .jk, .jk], .v (.jk), .v (.jk)] [.v (.ow 34 (qOB r1))])] (by cbv) ?_ ?_
 · exact (hq Tt (hq (hC (qUM h_r1)) hq0))
 refine Run.seq ?_
 refine Run.seq ?_
 obtain ⟨r2, h_r2, h⟩ := bnd h
 refine Run.region hL hT [(1, .call [false, false] [.v (.jk), .v (.jk)] [.v (.s (.bool r2))])] (by cbv) ?_ ?_
 · exact (hq (hC (AC.args (qRD h_r2) (ALe.v (LLe.im (RLe.eq (qmB qUG _))) (ALe.v LLe.r ALe.nil)))) hq0)
 refine Run.cond (by cbv) (hq0) (fun c3 => ?_) (fun c3 => ?_)
 ·
  have h := if_t c3 h
  refine Run.seq ?_
  refine Run.region hL hT [] (by cbv) ?_ ?_
  · exact (hq Tt hq0)
  refine Run.ret ?_
  cases h
  refine ⟨_, _, by cbv, ?_, ?_⟩
  · exact LLe.r
  · exact (ALe.ag rfl (LLe.c (LLe.c (LLe.c (LLe.cons LLe.nilO (LLe.cons LLe.nilO LLe.nil))))) ALe.nil)
 ·
  have h := if_f c3 h
  refine Run.skip ?_
  refine Run.seq ?_
  refine Run.region hL hT [] (by cbv) ?_ ?_
  · exact (hq Tt hq0)
  refine Run.seq ?_
  obtain ⟨l4, h_l4, h⟩ := bnd h
  obtain ⟨l5, h_l5, h⟩ := bnd h
  obtain ⟨⟨r6v_Kind, r6v_N, r6v_S, r6v_List_, r6v_Names⟩, h_r6, h⟩ := bnd h
  refine Run.region hL hT [(7, .call [true] [.ag [.jk, .jk, .jk, .jk, .jk]] [.ag [.s (.int .i64 r6v_Kind), .s (.int .i64 r6v_N), .s (.string r6v_S), .ow 34 (qOB r6v_List_), .ow 9 (qR r6v_Names)]])] (by cbv) ?_ ?_
  · exact (hq Tt (hq (hC (AC.args (qZI h_r6) (ALe.ag rfl (LLe.c (LLe.c (LLe.c (LLe.cons (LLe.ow (qDE qUD h_l5 (RLe.cons rfl (LLe.c (LLe.cons (LLe.eq (congrArg (fun z => [T.s (Value.int .i64 z)]) (ln_eq Row_i _))) (LLe.c (LLe.cons LLe.nilO (LLe.cons LLe.nilO LLe.nil))))) (RLe.cons rfl (LLe.c (LLe.c (LLe.c (LLe.c (LLe.cons LLe.nilO LLe.nil))))) RLe.nil)))) (LLe.cons (LLe.ow (qvB (f := Str_c) h_l4 (RLe.cons rfl LLe.r (RLe.cons rfl LLe.r RLe.nil)))) LLe.nil))))) ALe.nil))) (hq Tt hq0)))
  rw [show ln (qMB a1) = qDB a1 from ln_eq Row_i _]
  refine Run.ret ?_
  cases h
  refine ⟨_, _, by cbv, ?_, ?_⟩
  · exact LLe.r
  · exact (ALe.ag rfl LLe.r ALe.nil)
theorem qVE {qO : List Int} {r : Bool} (h : qqB.f (Schema.mk qO) = some r) : AC Tryz.prog 88 [.ag [.im false (rowsOf Int_c qO)]] [.ag [.jk]] [.v (.s (.bool r))] := by
 unfold qqB.f at h
 let qB := rowsOf Int_c
 let qh := @lenI Int
 show AC Tryz.prog 88 [.ag [.im false (qB qO)]] _ _
 refine run3 Tryz.func88 (by rfl) (by rfl) (by cbv) ⟨by decide, rfl⟩ ?_
 intro ar cm bo sc sa sx ss sl bs sb ln sr ap up rp fr ge le lt nz mm ma sm fl al ci hL F hP hA hT hM hC
 refine Run.seq ?_
 refine Run.region hL hT [] (by cbv) hq0 ?_
 obtain ⟨K2, h_K2, h⟩ := joinE h
 refine Run.join1 K2 (r := r) (fun (y1 : Unit) => ⟨20, 100000, [(1, .pt 1 0 0)], [(1, .box 57 [.t (.im false (qB qO))])]⟩) ?_ ?_
 ·
  skip
  refine Run.seq ?_
  refine Run.region hL hT [] (by cbv) ?_ ?_
  · exact (hq Tt hq0)
  rw [show ln (qB qO) = qh qO from ln_eq Int_c _]
  refine Run.block ?_
  refine Run.loop1 (fun (z7 : Int) => ⟨20, 100000, [(1, .pt 1 0 0), (6, .t (.im false (qB qO))), (7, .t (.s (.int .i64 (qh qO)))), (8, .t (.s (.int .i64 z7)))], [(1, .box 57 [.t (.im false (qB qO))])]⟩) (x0 := 0) h (Weak.of _ [(1, 0)] hA (by cbv) ?_) (fun _ => rfl) ?_
  · repeat (first | exact hq0 | refine hq (by first | exact Tt | rfl) ?_)
  ·
   intro k z7 h
   rw [qqB.l0] at h
   refine Run.seq ?_
   refine Run.region hL hT [] (by cbv) ?_ ?_
   · exact (hq Tt hq0)
   refine Run.seq ?_
   refine Run.cond (by cbv) (hq0) (fun c8 => ?_) (fun c8 => ?_)
   ·
    have h := if_t c8 h
    refine Run.skip ?_
    refine Run.seq ?_
    refine Run.block ?_
    refine Run.seq ?_
    obtain ⟨x9, h_x9, h⟩ := bnd h
    refine Run.region hL hT [(0, .el [.s (.int .i64 x9)])] (by cbv) ?_ ?_
    · exact (hq (qM h_x9) (hq (qb (f := Int_c) h_x9) (hq (qx (f := Int_c) h_x9) hq0)))
    refine Run.seq ?_
    obtain ⟨r10, h_r10, h⟩ := bnd h
    refine Run.region hL hT [(1, .call [false, false, false] [.v (.jk), .v (.jk), .v (.jk)] [.v (.s (.bool r10))])] (by cbv) ?_ ?_
    · exact (hq (hC (qgB h_r10)) hq0)
    refine Run.cond (by cbv) (hq0) (fun c11 => ?_) (fun c11 => ?_)
    ·
     have h := if_t c11 h
     refine Run.seq ?_
     refine Run.region hL hT [] (by cbv) hq0 ?_
     refine Run.ret ?_
     cases h
     refine ⟨_, _, by cbv, ?_, ?_⟩
     · exact LLe.r
     · exact (ALe.v LLe.r ALe.nil)
    ·
     have h := if_f c11 h
     refine Run.skip ?_
     refine Run.region hL hT [] (by cbv) ?_ ?_
     · exact (hq Tt hq0)
     refine ⟨(ar .add .i64 z7 1), h, Weak.of _ [(1, 1)] hA (by cbv) ?_⟩
     repeat (first | exact hq0 | refine hq (by first | exact Tt | rfl) ?_)
   ·
    have h := if_f c8 h
    refine Run.exit ?_
    refine ⟨(), h, Weak.of _ [(1, 1)] hA (by cbv) ?_⟩
    repeat (first | exact hq0 | refine hq (by first | exact Tt | rfl) ?_)
 ·
  intro y1 h
  rw [h_K2] at h
  refine Run.seq ?_
  obtain ⟨r12, h_r12, h⟩ := bnd h
  refine Run.region hL hT [(3, .call [false, false, false] [.v (.jk), .v (.jk), .v (.jk)] [.v (.s (.bool r12))])] (by cbv) ?_ ?_
  · exact (hq Tt (hq (by rw [show ln (qB qO) = qh qO from ln_eq Int_c _]; exact (hC (qgB h_r12))) hq0))
  rw [show ln (qB qO) = qh qO from ln_eq Int_c _]
  refine Run.ret ?_
  cases h
  refine ⟨_, _, by cbv, ?_, ?_⟩
  · exact LLe.r
  · exact (ALe.v LLe.r ALe.nil)
theorem qkJ {a0 : Int} {r : Bool} (h : qnD.f a0 = some r) : AC Tryz.prog 89 [.v (.s (.int .i64 a0))] [.v (.jk)] [.v (.s (.bool r))] := by
 unfold qnD.f at h
 show AC Tryz.prog 89 [.v (.s (.int .i64 a0))] _ _
 refine run3 Tryz.func89 (by rfl) (by rfl) (by cbv) ⟨by decide, rfl⟩ ?_
 intro ar cm bo sc sa sx ss sl bs sb ln sr ap up rp fr ge le lt nz mm ma sm fl al ci hL F hP hA hT hM hC
 refine Run.seq ?_
 refine Run.region hL hT [] (by cbv) hq0 ?_
 refine Run.seq ?_
 obtain ⟨r1, h_r1, h⟩ := bnd h
 refine Run.region hL hT [(1, .call [false, false, false] [.v (.jk), .v (.jk), .v (.jk)] [.v (.s (.bool r1))])] (by cbv) ?_ ?_
 · exact (hq (hC (qgB h_r1)) hq0)
 refine Run.ret ?_
 cases h
 refine ⟨_, _, by cbv, ?_, ?_⟩
 · exact LLe.r
 · exact (ALe.v LLe.r ALe.nil)
theorem qWE {qO : List Int} {a1 : Int} {r : Bool} (h : qMD.f (Schema.mk qO) a1 = some r) : AC Tryz.prog 91 [.ag [.im false (rowsOf Int_c qO)], .v (.s (.int .i64 a1))] [.ag [.jk], .v (.jk)] [.v (.s (.bool r))] := by
 unfold qMD.f at h
 let qB := rowsOf Int_c
 let qh := @lenI Int
 show AC Tryz.prog 91 [.ag [.im false (qB qO)], .v (.s (.int .i64 a1))] _ _
 refine run3 Tryz.func91 (by rfl) (by rfl) (by cbv) ⟨by decide, rfl⟩ ?_
 intro ar cm bo sc sa sx ss sl bs sb ln sr ap up rp fr ge le lt nz mm ma sm fl al ci hL F hP hA hT hM hC
 refine Run.seq ?_
 refine Run.region hL hT [] (by cbv) hq0 ?_
 refine Run.seq ?_
 obtain ⟨r1, h_r1, h⟩ := bnd h
 refine Run.region hL hT [(5, .call [false, false, false] [.v (.jk), .v (.jk), .v (.jk)] [.v (.s (.bool r1))])] (by cbv) ?_ ?_
 · exact (hq Tt (hq Tt (hq (by rw [show ln (qB qO) = qh qO from ln_eq Int_c _]; exact (hC (qgB h_r1))) hq0)))
 rw [show ln (qB qO) = qh qO from ln_eq Int_c _]
 refine Run.ret ?_
 cases h
 refine ⟨_, _, by cbv, ?_, ?_⟩
 · exact LLe.r
 · exact (ALe.v LLe.r ALe.nil)
theorem qXP {qO : List Int} {a1 : Int} {qsD : Int} {qLB : List Int} {r : Bool} (h : qKD.f (Schema.mk qO) a1 (Row.mk qsD qLB) = some r) : AC Tryz.prog 115 [.ag [.im false (rowsOf Int_c qO)], .v (.s (.int .i64 a1)), .ag [.s (.int .i64 qsD), .im false (rowsOf Int_c qLB)]] [.ag [.jk], .v (.jk), .ag [.jk, .jk]] [.v (.s (.bool r))] := by
 unfold qKD.f at h
 let qB := rowsOf Int_c
 let qh := @lenI Int
 show AC Tryz.prog 115 [.ag [.im false (qB qO)], .v (.s (.int .i64 a1)), .ag [.s (.int .i64 qsD), .im false (qB qLB)]] _ _
 refine run3 Tryz.func115 (by rfl) (by rfl) (by cbv) ⟨by decide, rfl⟩ ?_
 intro ar cm bo sc sa sx ss sl bs sb ln sr ap up rp fr ge le lt nz mm ma sm fl al ci hL F hP hA hT hM hC
 refine Run.seq ?_
 refine Run.region hL hT [] (by cbv) hq0 ?_
 obtain ⟨K2, h_K2, h⟩ := joinE h
 refine Run.join1 K2 (r := r) (fun (y1 : Unit) => ⟨43, 100000, [(1, .t (.s (.int .i64 a1))), (3, .pt 1 0 0), (5, .pt 2 0 0)], [(1, .box 57 [.t (.im false (qB qO))]), (2, .box 91 [.t (.s (.int .i64 qsD)), .t (.im false (qB qLB))])]⟩) ?_ ?_
 ·
  skip
  refine Run.seq ?_
  refine Run.region hL hT [] (by cbv) ?_ ?_
  · exact (hq Tt hq0)
  rw [show ln (qB qLB) = qh qLB from ln_eq Int_c _]
  refine Run.block ?_
  refine Run.loop1 (fun (z10 : Int) => ⟨43, 100000, [(1, .t (.s (.int .i64 a1))), (3, .pt 1 0 0), (5, .pt 2 0 0), (10, .t (.im false (qB qLB))), (11, .t (.s (.int .i64 (qh qLB)))), (12, .t (.s (.int .i64 z10)))], [(1, .box 57 [.t (.im false (qB qO))]), (2, .box 91 [.t (.s (.int .i64 qsD)), .t (.im false (qB qLB))])]⟩) (x0 := 0) h (Weak.of _ [(1, 0), (2, 1)] hA (by cbv) ?_) (fun _ => rfl) ?_
  · repeat (first | exact hq0 | refine hq (by first | exact Tt | rfl) ?_)
  ·
   intro k z10 h
   rw [qKD.l0] at h
   refine Run.seq ?_
   refine Run.region hL hT [] (by cbv) ?_ ?_
   · exact (hq Tt hq0)
   refine Run.seq ?_
   refine Run.cond (by cbv) (hq0) (fun c11 => ?_) (fun c11 => ?_)
   ·
    have h := if_t c11 h
    refine Run.skip ?_
    refine Run.seq ?_
    refine Run.block ?_
    refine Run.seq ?_
    obtain ⟨x12, h_x12, h⟩ := bnd h
    refine Run.region hL hT [(0, .el [.s (.int .i64 x12)])] (by cbv) ?_ ?_
    · exact (hq (qM h_x12) (hq (qb (f := Int_c) h_x12) (hq (qx (f := Int_c) h_x12) hq0)))
    refine Run.seq ?_
    obtain ⟨r13, h_r13, h⟩ := bnd h
    refine Run.region hL hT [(1, .call [false] [.v (.jk)] [.v (.s (.bool r13))])] (by cbv) ?_ ?_
    · exact (hq (hC (qbH h_r13)) hq0)
    refine Run.cond (by cbv) (hq0) (fun c14 => ?_) (fun c14 => ?_)
    ·
     have h := if_t c14 h
     refine Run.seq ?_
     refine Run.region hL hT [] (by cbv) hq0 ?_
     refine Run.ret ?_
     cases h
     refine ⟨_, _, by cbv, ?_, ?_⟩
     · exact LLe.r
     · exact (ALe.v LLe.r ALe.nil)
    ·
     have h := if_f c14 h
     refine Run.skip ?_
     refine Run.region hL hT [] (by cbv) ?_ ?_
     · exact (hq Tt hq0)
     refine ⟨(ar .add .i64 z10 1), h, Weak.of _ [(1, 1), (2, 2)] hA (by cbv) ?_⟩
     repeat (first | exact hq0 | refine hq (by first | exact Tt | rfl) ?_)
   ·
    have h := if_f c11 h
    refine Run.exit ?_
    refine ⟨(), h, Weak.of _ [(1, 1), (2, 2)] hA (by cbv) ?_⟩
    repeat (first | exact hq0 | refine hq (by first | exact Tt | rfl) ?_)
 ·
  intro y1 h
  rw [h_K2] at h
  refine Run.seq ?_
  obtain ⟨r15, h_r15, h⟩ := bnd h
  obtain ⟨r16, h_r16, h⟩ := bnd h
  obtain ⟨x17, h_x17, h⟩ := bnd h
  obtain ⟨r18, h_r18, h⟩ := bnd h
  refine Run.draw hL hT hM [(1, .call [false] [.ag [.jk]] [.v (.s (.bool r15))]), (5, .call [false, false] [.ag [.jk], .v (.jk)] [.v (.s (.bool r16))]), (14, .el [.s (.int .i64 x17)]), (21, .call [false, false, false] [.v (.jk), .v (.jk), .v (.jk)] [.v (.s (.bool r18))])] (by cbv) (by cbv) (by cbv) (by cbv) (by cbv) ?_ ?_
  · exact (hq Tt (hq (hC (qVE h_r15)) (hq (fun g19 => (hq Tt hq0)) (hq (fun _ => hq0) (hq (fun g21 => (hq g21 (hq g21 (hq (hC (qWE (gd_t h_r16 g21))) hq0)))) (hq (fun q22 => (hq q22 hq0)) (hq (fun _ => hq0) (hq (fun _ => hq0) (hq (fun g25 => (hq g25 (hq Tt hq0))) (hq (fun g26 => (hq g26 hq0)) (hq (fun _ => hq0) (hq (fun g28 => (hq g28 (hq Tt hq0))) (hq (fun _ => hq0) (hq (fun g30 => (hq g30 (hq g30 (hq (qM (gd_t h_x17 g30)) (hq (qb (f := Int_c) (gd_t h_x17 g30)) (hq (qx (f := Int_c) (gd_t h_x17 g30)) hq0)))))) (hq (fun g31 => (hq g31 hq0)) (hq (fun g32 => (hq g32 (hq g32 (hq Tt hq0)))) (hq (fun q33 => (hq q33 hq0)) (hq (fun _ => hq0) (hq (fun _ => hq0) (hq (fun g36 => (by have g36C := g36; rw [show ln (qB qLB) = qh qLB from ln_eq Int_c _] at g36C; exact (hq g36 (hq Tt hq0)))) (hq (fun g37 => (by have g37C := g37; rw [show ln (qB qLB) = qh qLB from ln_eq Int_c _] at g37C; exact (hq g37 (hq (hC (qgB (gd_t h_r18 g37C))) hq0)))) (hq (fun q38 => (by have q38C := q38; rw [show ln (qB qLB) = qh qLB from ln_eq Int_c _] at q38C; exact (hq q38 hq0))) (hq (fun _ => hq0) hq0)))))))))))))))))))))))
  rw [show ln (qB qLB) = qh qLB from ln_eq Int_c _]
  refine Run.ret ?_
  cases h
  refine ⟨_, _, by cbv, ?_, ?_⟩
  · exact LLe.r
  · exact (ALe.v LLe.r ALe.nil)
theorem qUN {qO : List Int} {a1 : Int} {a2 : List Row} {r : Bool} (h : qpC.f (Schema.mk qO) a1 a2 = some r) : AC Tryz.prog 90 [.ag [.im false (rowsOf Int_c qO)], .v (.s (.int .i64 a1)), .v (.im false (rowsOf Row_i a2))] [.ag [.jk], .v (.jk), .v (.jk)] [.v (.s (.bool r))] := by
 unfold qpC.f at h
 let qB := rowsOf Int_c
 let qMB := rowsOf Row_i
 let qDB := @lenI Row
 show AC Tryz.prog 90 [.ag [.im false (qB qO)], .v (.s (.int .i64 a1)), .v (.im false (qMB a2))] _ _
 refine run3 Tryz.func90 (by rfl) (by rfl) (by cbv) ⟨by decide, rfl⟩ ?_
 intro ar cm bo sc sa sx ss sl bs sb ln sr ap up rp fr ge le lt nz mm ma sm fl al ci hL F hP hA hT hM hC
 refine Run.seq ?_
 refine Run.region hL hT [] (by cbv) hq0 ?_
 obtain ⟨K2, h_K2, h⟩ := joinE h
 refine Run.join1 K2 (r := r) (fun (y1 : Unit) => ⟨49, 100000, [(1, .t (.s (.int .i64 a1))), (2, .t (.im false (qMB a2))), (3, .pt 1 0 0)], [(1, .box 57 [.t (.im false (qB qO))])]⟩) ?_ ?_
 ·
  skip
  refine Run.seq ?_
  refine Run.region hL hT [] (by cbv) hq0 ?_
  rw [show ln (qMB a2) = qDB a2 from ln_eq Row_i _]
  refine Run.block ?_
  refine Run.loop1 (fun (z9 : Int) => ⟨49, 100000, [(1, .t (.s (.int .i64 a1))), (2, .t (.im false (qMB a2))), (3, .pt 1 0 0), (9, .t (.im false (qMB a2))), (10, .t (.s (.int .i64 (qDB a2)))), (11, .t (.s (.int .i64 z9)))], [(1, .box 57 [.t (.im false (qB qO))])]⟩) (x0 := 0) h (Weak.of _ [(1, 0)] hA (by cbv) ?_) (fun _ => rfl) ?_
  · repeat (first | exact hq0 | refine hq (by first | exact Tt | rfl) ?_)
  ·
   intro k z9 h
   rw [qpC.l0] at h
   refine Run.seq ?_
   refine Run.region hL hT [] (by cbv) ?_ ?_
   · exact (hq Tt hq0)
   refine Run.seq ?_
   refine Run.cond (by cbv) (hq0) (fun c10 => ?_) (fun c10 => ?_)
   ·
    have h := if_t c10 h
    refine Run.skip ?_
    refine Run.seq ?_
    refine Run.block ?_
    refine Run.seq ?_
    obtain ⟨⟨qdR, qhJ⟩, h_x11, h⟩ := bnd h
    refine Run.region hL hT [(1, .el [.s (.int .i64 qdR), .im false (qB qhJ)])] (by cbv) ?_ ?_
    · exact (hq (qM h_x11) (hq (qb (f := Row_i) h_x11) (hq (qx (f := Row_i) h_x11) (hq Tt hq0))))
    refine Run.seq ?_
    obtain ⟨r12, h_r12, h⟩ := bnd h
    obtain ⟨⟨qvW, qST⟩, h_x13, h⟩ := bnd h
    refine Run.draw hL hT hM [(3, .call [false, false, false] [.ag [.jk], .v (.jk), .ag [.jk, .jk]] [.v (.s (.bool r12))]), (12, .el [.s (.int .i64 qvW), .im false (qB qST)])] (by cbv) (by cbv) (by cbv) (by cbv) (by cbv) ?_ ?_
    · exact (hq Tt (hq Tt (hq (hC (qXP h_r12)) (hq (fun _ => hq0) (hq (fun g15 => (hq g15 (hq Tt hq0))) (hq (fun g16 => (hq g16 hq0)) (hq (fun _ => hq0) (hq (fun _ => hq0) (hq (fun g19 => (hq g19 (hq Tt hq0))) (hq (fun g20 => (hq g20 (hq g20 (hq (qM (gd_t h_x13 g20)) (hq (qb (f := Row_i) (gd_t h_x13 g20)) (hq (qx (f := Row_i) (gd_t h_x13 g20)) hq0)))))) (hq (fun g21 => (hq g21 hq0)) (hq (fun g22 => (hq g22 hq0)) (hq (fun _ => hq0) (hq (fun g24 => (hq g24 (hq Tt hq0))) (hq (fun g25 => (hq g25 (hq g25 (hq Tt hq0)))) (hq (fun g26 => (hq g26 (hq (fun q27 => (hq (bo_a g26 q27) hq0)) (hq (fun _ => hq0) hq0)))) (hq (fun _ => hq0) (hq (fun q30 => (hq (bo_m q30) hq0)) hq0))))))))))))))))))
    refine Run.cond (by cbv) (hq0) (fun c31 => ?_) (fun c31 => ?_)
    ·
     have h := if_t c31 h
     refine Run.seq ?_
     refine Run.region hL hT [] (by cbv) hq0 ?_
     refine Run.ret ?_
     cases h
     refine ⟨_, _, by cbv, ?_, ?_⟩
     · exact LLe.r
     · exact (ALe.v LLe.r ALe.nil)
    ·
     have h := if_f c31 h
     refine Run.skip ?_
     refine Run.region hL hT [] (by cbv) ?_ ?_
     · exact (hq Tt hq0)
     refine ⟨(ar .add .i64 z9 1), h, Weak.of _ [(1, 1)] hA (by cbv) ?_⟩
     repeat (first | exact hq0 | refine hq (by first | exact Tt | rfl) ?_)
   ·
    have h := if_f c10 h
    refine Run.exit ?_
    refine ⟨(), h, Weak.of _ [(1, 1)] hA (by cbv) ?_⟩
    repeat (first | exact hq0 | refine hq (by first | exact Tt | rfl) ?_)
 ·
  intro y1 h
  rw [h_K2] at h
  refine Run.seq ?_
  obtain ⟨r32, h_r32, h⟩ := bnd h
  obtain ⟨r33, h_r33, h⟩ := bnd h
  refine Run.region hL hT [(1, .call [false] [.ag [.jk]] [.v (.s (.bool r32))]), (5, .call [false, false] [.ag [.jk], .v (.jk)] [.v (.s (.bool r33))])] (by cbv) ?_ ?_
  · exact (hq Tt (hq (hC (qVE h_r32)) (hq (fun g34 => (hq Tt hq0)) (hq (fun _ => hq0) (hq (fun g36 => (hq g36 (hq g36 (hq (hC (qWE (gd_t h_r33 g36))) hq0)))) (hq (fun q37 => (hq q37 hq0)) (hq (fun _ => hq0) (hq (fun _ => hq0) (hq (fun g40 => (hq g40 hq0)) (hq (fun g41 => (hq g41 (hq Tt hq0))) (hq (fun q42 => (hq q42 hq0)) (hq (fun _ => hq0) hq0))))))))))))
  rw [show ln (qMB a2) = qDB a2 from ln_eq Row_i _]
  refine Run.ret ?_
  cases h
  refine ⟨_, _, by cbv, ?_, ?_⟩
  · exact LLe.r
  · exact (ALe.v LLe.r ALe.nil)
theorem qJG {qF : List Int} {qV : Int} {qT : List (List Row)} {r : Bool} (h : qJC.f (Store.mk (Schema.mk qF) qV qT) = some r) : AC Tryz.prog 54 [.ag [.im false (rowsOf Int_c qF), .s (.int .i64 qV), .im false (rowsOf RowS_i qT)]] [.ag [.jk, .jk, .jk]] [.v (.s (.bool r))] := by
 unfold qJC.f at h
 let qB := rowsOf Int_c
 let qUB := rowsOf RowS_i
 let qMB := rowsOf Row_i
 let qh := @lenI Int
 let qFC := @lenI (List Row)
 show AC Tryz.prog 54 [.ag [.im false (qB qF), .s (.int .i64 qV), .im false (qUB qT)]] _ _
 refine run3 Tryz.func54 (by rfl) (by rfl) (by cbv) ⟨by decide, rfl⟩ ?_
 intro ar cm bo sc sa sx ss sl bs sb ln sr ap up rp fr ge le lt nz mm ma sm fl al ci hL F hP hA hT hM hC
 refine Run.seq ?_
 refine Run.region hL hT [] (by cbv) hq0 ?_
 refine Run.seq ?_
 refine Run.seq ?_
 obtain ⟨r1, h_r1, h⟩ := bnd h
 obtain ⟨r2, h_r2, h⟩ := bnd h
 refine Run.region hL hT [(2, .call [false] [.ag [.jk]] [.v (.s (.bool r1))]), (7, .call [false] [.v (.jk)] [.v (.s (.bool r2))])] (by cbv) ?_ ?_
 · exact (hq Tt (hq (hC (qVE h_r1)) (hq (fun _ => hq0) (hq (fun g4 => (hq g4 (hq Tt hq0))) (hq (fun g5 => (hq g5 (hq (hC (qkJ (gd_t h_r2 g5))) hq0))) (hq (fun g6 => (hq g6 hq0)) (hq (fun _ => hq0) (hq (fun q8 => (hq (bo_m q8) hq0)) (hq (fun _ => hq0) (hq (fun g10 => (hq g10 (hq Tt hq0))) (hq (fun g11 => (hq g11 hq0)) (hq (fun _ => hq0) (hq (fun g13 => (hq g13 hq0)) (hq (fun g14 => (hq g14 (hq Tt hq0))) (hq (fun g15 => (hq g15 hq0)) (hq (fun g16 => (hq g16 (hq g16 (hq Tt hq0)))) (hq (fun _ => hq0) (hq (fun q18 => (hq (bo_m q18) hq0)) hq0))))))))))))))))))
 rw [show ln (qB qF) = qh qF from ln_eq Int_c _]
 rw [show ln (qUB qT) = qFC qT from ln_eq RowS_i _]
 refine Run.cond (by cbv) (hq0) (fun c19 => ?_) (fun c19 => ?_)
 ·
  have h := if_t c19 h
  refine Run.seq ?_
  refine Run.region hL hT [] (by cbv) hq0 ?_
  refine Run.ret ?_
  cases h
  refine ⟨_, _, by cbv, ?_, ?_⟩
  · exact LLe.r
  · exact (ALe.v LLe.r ALe.nil)
 ·
  have h := if_f c19 h
  refine Run.skip ?_
  refine Run.seq ?_
  refine Run.seq ?_
  refine Run.region hL hT [] (by cbv) ?_ ?_
  · exact (hq Tt hq0)
  rw [show ln (qUB qT) = qFC qT from ln_eq RowS_i _]
  refine Run.block ?_
  refine Run.loop1 (fun (z26 : Int) => ⟨40, 100000, [(1, .pt 1 0 0), (26, .t (.im false (qUB qT))), (27, .t (.s (.int .i64 (qFC qT)))), (28, .t (.s (.int .i64 z26)))], [(1, .box 60 [.t (.im false (qB qF)), .t (.s (.int .i64 qV)), .t (.im false (qUB qT))])]⟩) (x0 := 0) h (Weak.of _ [(1, 0)] hA (by cbv) ?_) (fun _ => rfl) ?_
  · repeat (first | exact hq0 | refine hq (by first | exact Tt | rfl) ?_)
  ·
   intro k z26 h
   rw [qJC.l0] at h
   refine Run.seq ?_
   refine Run.region hL hT [] (by cbv) ?_ ?_
   · exact (hq Tt hq0)
   refine Run.seq ?_
   refine Run.cond (by cbv) (hq0) (fun c27 => ?_) (fun c27 => ?_)
   ·
    have h := if_t c27 h
    refine Run.skip ?_
    refine Run.seq ?_
    refine Run.block ?_
    refine Run.seq ?_
    obtain ⟨x28, h_x28, h⟩ := bnd h
    refine Run.region hL hT [(1, .el [.im false (qMB x28)])] (by cbv) ?_ ?_
    · exact (hq (qM h_x28) (hq (qb (f := RowS_i) h_x28) (hq (qx (f := RowS_i) h_x28) hq0)))
    refine Run.seq ?_
    obtain ⟨r29, h_r29, h⟩ := bnd h
    refine Run.region hL hT [(4, .call [false, false, false] [.ag [.jk], .v (.jk), .v (.jk)] [.v (.s (.bool r29))])] (by cbv) ?_ ?_
    · exact (hq Tt (hq (hC (qUN h_r29)) hq0))
    refine Run.cond (by cbv) (hq0) (fun c30 => ?_) (fun c30 => ?_)
    ·
     have h := if_t c30 h
     refine Run.seq ?_
     refine Run.region hL hT [] (by cbv) hq0 ?_
     refine Run.ret ?_
     cases h
     refine ⟨_, _, by cbv, ?_, ?_⟩
     · exact LLe.r
     · exact (ALe.v LLe.r ALe.nil)
    ·
     have h := if_f c30 h
     refine Run.skip ?_
     refine Run.region hL hT [] (by cbv) ?_ ?_
     · exact (hq Tt hq0)
     refine ⟨(ar .add .i64 z26 1), h, Weak.of _ [(1, 1)] hA (by cbv) ?_⟩
     repeat (first | exact hq0 | refine hq (by first | exact Tt | rfl) ?_)
   ·
    have h := if_f c27 h
    refine Run.exit ?_
    refine Run.seq ?_
    refine Run.region hL hT [] (by cbv) hq0 ?_
    refine Run.ret ?_
    cases h
    refine ⟨_, _, by cbv, ?_, ?_⟩
    · exact LLe.r
    · exact (ALe.v LLe.r ALe.nil)
theorem qWM {qO : List Int} {ql : Int} {qP : List Cond} {qm : Int} {qy : Bool} {qn : Int} {qq : List Int} {qz : Bool} {qN : Int} {qZ : Int} {r : Bool} (h : qUF.f (Schema.mk qO) (Query.mk ql qP qm qy qn qq qz qN qZ) = some r) : AC Tryz.prog 94 [.ag [.im false (rowsOf Int_c qO)], .ag [.s (.int .i64 ql), .im false (rowsOf Cond_c qP), .s (.int .i64 qm), .s (.bool qy), .s (.int .i64 qn), .im false (rowsOf Int_c qq), .s (.bool qz), .s (.int .i64 qN), .s (.int .i64 qZ)]] [.ag [.jk], .ag [.jk, .jk, .jk, .jk, .jk, .jk, .jk, .jk, .jk]] [.v (.s (.bool r))] := by
 unfold qUF.f at h
 let qJ := rowsOf Cond_c
 let qB := rowsOf Int_c
 show AC Tryz.prog 94 [.ag [.im false (qB qO)], .ag [.s (.int .i64 ql), .im false (qJ qP), .s (.int .i64 qm), .s (.bool qy), .s (.int .i64 qn), .im false (qB qq), .s (.bool qz), .s (.int .i64 qN), .s (.int .i64 qZ)]] _ _
 refine run3 Tryz.func94 (by rfl) (by rfl) (by cbv) ⟨by decide, rfl⟩ ?_
 intro ar cm bo sc sa sx ss sl bs sb ln sr ap up rp fr ge le lt nz mm ma sm fl al ci hL F hP hA hT hM hC
 refine Run.seq ?_
 refine Run.region hL hT [] (by cbv) hq0 ?_
 refine Run.seq ?_
 refine Run.seq ?_
 refine Run.region hL hT [] (by cbv) ?_ ?_
 · exact (hq Tt hq0)
 refine Run.cond (by cbv) (hq0) (fun c1 => ?_) (fun c1 => ?_)
 ·
  have h := if_t c1 h
  refine Run.seq ?_
  refine Run.region hL hT [] (by cbv) ?_ ?_
  · exact (hq Tt (hq Tt (hq (fun _ => hq0) (hq (fun g3 => (hq g3 (hq Tt hq0))) (hq (fun g4 => (hq g4 (hq Tt hq0))) (hq (fun q5 => (hq q5 hq0)) (hq (fun _ => hq0) hq0)))))))
  refine Run.ret ?_
  cases h
  refine ⟨_, _, by cbv, ?_, ?_⟩
  · exact LLe.r
  · exact (ALe.v LLe.r ALe.nil)
 ·
  have h := if_f c1 h
  refine Run.skip ?_
  refine Run.seq ?_
  obtain ⟨r7, h_r7, h⟩ := bnd h
  obtain ⟨x8, h_x8, h⟩ := bnd h
  obtain ⟨r9, h_r9, h⟩ := bnd h
  refine Run.draw hL hT hM [(3, .call [false, false] [.ag [.jk], .v (.jk)] [.v (.s (.bool r7))]), (11, .el [.s (.int .i64 x8)]), (14, .call [false, false, false] [.v (.jk), .v (.jk), .v (.jk)] [.v (.s (.bool r9))])] (by cbv) (by cbv) (by cbv) (by cbv) (by cbv) ?_ ?_
  · exact (hq Tt (hq Tt (hq (hC (qWE h_r7)) (hq (fun _ => hq0) (hq (fun g11 => (hq g11 (hq Tt hq0))) (hq (fun _ => hq0) (hq (fun g13 => (hq g13 (hq Tt hq0))) (hq (fun _ => hq0) (hq (fun g15 => (hq g15 (hq Tt hq0))) (hq (fun g16 => (hq g16 (hq g16 (hq (qM (gd_t h_x8 g16)) (hq (qb (f := Int_c) (gd_t h_x8 g16)) (hq (qx (f := Int_c) (gd_t h_x8 g16)) hq0)))))) (hq (fun g17 => (hq g17 hq0)) (hq (fun g18 => (hq g18 (hq Tt hq0))) (hq (fun g19 => (hq g19 (hq g19 (hq (hC (qgB (gd_t h_r9 g19))) hq0)))) (hq (fun q20 => (hq q20 hq0)) (hq (fun _ => hq0) hq0)))))))))))))))
  refine Run.ret ?_
  cases h
  refine ⟨_, _, by cbv, ?_, ?_⟩
  · exact LLe.r
  · exact (ALe.v LLe.r ALe.nil)
theorem qKG {qO : List Int} {ql : Int} {qP : List Cond} {qm : Int} {qy : Bool} {qn : Int} {qq : List Int} {qz : Bool} {qN : Int} {qZ : Int} {r : Bool} (h : qZB.f (Schema.mk qO) (Query.mk ql qP qm qy qn qq qz qN qZ) = some r) : AC Tryz.prog 55 [.ag [.im false (rowsOf Int_c qO)], .ag [.s (.int .i64 ql), .im false (rowsOf Cond_c qP), .s (.int .i64 qm), .s (.bool qy), .s (.int .i64 qn), .im false (rowsOf Int_c qq), .s (.bool qz), .s (.int .i64 qN), .s (.int .i64 qZ)]] [.ag [.jk], .ag [.jk, .jk, .jk, .jk, .jk, .jk, .jk, .jk, .jk]] [.v (.s (.bool r))] := by
 unfold qZB.f at h
 let qJ := rowsOf Cond_c
 let qB := rowsOf Int_c
 let qWB := @lenI Cond
 let qh := @lenI Int
 show AC Tryz.prog 55 [.ag [.im false (qB qO)], .ag [.s (.int .i64 ql), .im false (qJ qP), .s (.int .i64 qm), .s (.bool qy), .s (.int .i64 qn), .im false (qB qq), .s (.bool qz), .s (.int .i64 qN), .s (.int .i64 qZ)]] _ _
 refine run3 Tryz.func55 (by rfl) (by rfl) (by cbv) ⟨by decide, rfl⟩ ?_
 intro ar cm bo sc sa sx ss sl bs sb ln sr ap up rp fr ge le lt nz mm ma sm fl al ci hL F hP hA hT hM hC
 refine Run.seq ?_
 refine Run.region hL hT [] (by cbv) hq0 ?_
 refine Run.seq ?_
 refine Run.seq ?_
 obtain ⟨r1, h_r1, h⟩ := bnd h
 obtain ⟨r2, h_r2, h⟩ := bnd h
 refine Run.region hL hT [(1, .call [false] [.ag [.jk]] [.v (.s (.bool r1))]), (7, .call [false, false] [.ag [.jk], .v (.jk)] [.v (.s (.bool r2))])] (by cbv) ?_ ?_
 · exact (hq Tt (hq (hC (qVE h_r1)) (hq (fun g3 => (hq Tt hq0)) (hq (fun _ => hq0) (hq (fun g5 => (hq g5 (hq Tt hq0))) (hq (fun g6 => (hq g6 (hq g6 (hq (hC (qWE (gd_t h_r2 g6))) hq0)))) (hq (fun g7 => (hq g7 hq0)) (hq (fun _ => hq0) (hq (fun q9 => (hq (bo_m q9) hq0)) hq0)))))))))
 refine Run.cond (by cbv) (hq0) (fun c10 => ?_) (fun c10 => ?_)
 ·
  have h := if_t c10 h
  refine Run.seq ?_
  refine Run.region hL hT [] (by cbv) hq0 ?_
  refine Run.ret ?_
  cases h
  refine ⟨_, _, by cbv, ?_, ?_⟩
  · exact LLe.r
  · exact (ALe.v LLe.r ALe.nil)
 ·
  have h := if_f c10 h
  refine Run.skip ?_
  refine Run.seq ?_
  obtain ⟨x11, h_x11, h⟩ := bnd h
  refine Run.region hL hT [(4, .el [.s (.int .i64 x11)])] (by cbv) ?_ ?_
  · exact (hq Tt (hq Tt (hq (qM h_x11) (hq (qb (f := Int_c) h_x11) (hq (qx (f := Int_c) h_x11) hq0)))))
  obtain ⟨K13, h_K13, h⟩ := joinE h
  refine Run.join1 K13 (r := r) (fun (y12 : Unit) => ⟨112, 100000, [(2, .pt 1 0 0), (3, .pt 2 0 0), (5, .t (.s (.int .i64 x11)))], [(1, .box 57 [.t (.im false (qB qO))]), (2, .box 38 [.t (.s (.int .i64 ql)), .t (.im false (qJ qP)), .t (.s (.int .i64 qm)), .t (.s (.bool qy)), .t (.s (.int .i64 qn)), .t (.im false (qB qq)), .t (.s (.bool qz)), .t (.s (.int .i64 qN)), .t (.s (.int .i64 qZ))])]⟩) ?_ ?_
  ·
   skip
   refine Run.seq ?_
   refine Run.region hL hT [] (by cbv) ?_ ?_
   · exact (hq Tt hq0)
   rw [show ln (qJ qP) = qWB qP from ln_eq Cond_c _]
   refine Run.block ?_
   refine Run.loop1 (fun (z28 : Int) => ⟨112, 100000, [(2, .pt 1 0 0), (3, .pt 2 0 0), (5, .t (.s (.int .i64 x11))), (28, .t (.im false (qJ qP))), (29, .t (.s (.int .i64 (qWB qP)))), (30, .t (.s (.int .i64 z28)))], [(1, .box 57 [.t (.im false (qB qO))]), (2, .box 38 [.t (.s (.int .i64 ql)), .t (.im false (qJ qP)), .t (.s (.int .i64 qm)), .t (.s (.bool qy)), .t (.s (.int .i64 qn)), .t (.im false (qB qq)), .t (.s (.bool qz)), .t (.s (.int .i64 qN)), .t (.s (.int .i64 qZ))])]⟩) (x0 := 0) h (Weak.of _ [(1, 0), (2, 1)] hA (by cbv) ?_) (fun _ => rfl) ?_
   · repeat (first | exact hq0 | refine hq (by first | exact Tt | rfl) ?_)
   ·
    intro k z28 h
    rw [qZB.l0] at h
    refine Run.seq ?_
    refine Run.region hL hT [] (by cbv) ?_ ?_
    · exact (hq Tt hq0)
    refine Run.seq ?_
    refine Run.cond (by cbv) (hq0) (fun c29 => ?_) (fun c29 => ?_)
    ·
     have h := if_t c29 h
     refine Run.skip ?_
     refine Run.seq ?_
     refine Run.block ?_
     refine Run.seq ?_
     obtain ⟨⟨qpV, qwW, qkX⟩, h_x30, h⟩ := bnd h
     refine Run.region hL hT [(0, .el [.s (.int .i64 qpV), .s (.int .i64 qwW), .s (.int .i64 qkX)])] (by cbv) ?_ ?_
     · exact (hq (qM h_x30) (hq (qb (f := Cond_c) h_x30) (hq (qx (f := Cond_c) h_x30) (hq Tt hq0))))
     refine Run.seq ?_
     obtain ⟨r31, h_r31, h⟩ := bnd h
     obtain ⟨r32, h_r32, h⟩ := bnd h
     obtain ⟨r33, h_r33, h⟩ := bnd h
     refine Run.region hL hT [(4, .call [false, false, false] [.v (.jk), .v (.jk), .v (.jk)] [.v (.s (.bool r31))]), (9, .call [false, false, false] [.v (.jk), .v (.jk), .v (.jk)] [.v (.s (.bool r32))]), (15, .call [false] [.v (.jk)] [.v (.s (.bool r33))])] (by cbv) ?_ ?_
     · exact (hq Tt (hq Tt (hq (hC (qgB h_r31)) (hq (fun _ => hq0) (hq (fun g35 => (hq g35 (hq Tt hq0))) (hq (fun g36 => (hq g36 (hq (hC (qgB (gd_t h_r32 g36))) hq0))) (hq (fun g37 => (hq g37 hq0)) (hq (fun _ => hq0) (hq (fun q39 => (hq (bo_m q39) hq0)) (hq (fun _ => hq0) (hq (fun g41 => (hq g41 (hq Tt hq0))) (hq (fun g42 => (hq g42 (hq (hC (qbH (gd_t h_r33 g42))) hq0))) (hq (fun g43 => (hq g43 hq0)) (hq (fun _ => hq0) (hq (fun q45 => (hq (bo_m q45) hq0)) hq0)))))))))))))))
     refine Run.cond (by cbv) (hq0) (fun c46 => ?_) (fun c46 => ?_)
     ·
      have h := if_t c46 h
      refine Run.seq ?_
      refine Run.region hL hT [] (by cbv) hq0 ?_
      refine Run.ret ?_
      cases h
      refine ⟨_, _, by cbv, ?_, ?_⟩
      · exact LLe.r
      · exact (ALe.v LLe.r ALe.nil)
     ·
      have h := if_f c46 h
      refine Run.skip ?_
      refine Run.region hL hT [] (by cbv) ?_ ?_
      · exact (hq Tt hq0)
      refine ⟨(ar .add .i64 z28 1), h, Weak.of _ [(1, 1), (2, 2)] hA (by cbv) ?_⟩
      repeat (first | exact hq0 | refine hq (by first | exact Tt | rfl) ?_)
    ·
     have h := if_f c29 h
     refine Run.exit ?_
     refine ⟨(), h, Weak.of _ [(1, 1), (2, 2)] hA (by cbv) ?_⟩
     repeat (first | exact hq0 | refine hq (by first | exact Tt | rfl) ?_)
  ·
   intro y12 h
   rw [h_K13] at h
   obtain ⟨K48, h_K48, h⟩ := joinE h
   refine Run.join1 K48 (r := r) (fun (y47 : Unit) => ⟨112, 100000, [(2, .pt 1 0 0), (3, .pt 2 0 0), (5, .t (.s (.int .i64 x11)))], [(1, .box 57 [.t (.im false (qB qO))]), (2, .box 38 [.t (.s (.int .i64 ql)), .t (.im false (qJ qP)), .t (.s (.int .i64 qm)), .t (.s (.bool qy)), .t (.s (.int .i64 qn)), .t (.im false (qB qq)), .t (.s (.bool qz)), .t (.s (.int .i64 qN)), .t (.s (.int .i64 qZ))])]⟩) ?_ ?_
   ·
    skip
    refine Run.seq ?_
    refine Run.region hL hT [] (by cbv) ?_ ?_
    · exact (hq Tt hq0)
    rw [show ln (qB qq) = qh qq from ln_eq Int_c _]
    refine Run.block ?_
    refine Run.loop1 (fun (z63 : Int) => ⟨112, 100000, [(2, .pt 1 0 0), (3, .pt 2 0 0), (5, .t (.s (.int .i64 x11))), (54, .t (.im false (qB qq))), (55, .t (.s (.int .i64 (qh qq)))), (56, .t (.s (.int .i64 z63)))], [(1, .box 57 [.t (.im false (qB qO))]), (2, .box 38 [.t (.s (.int .i64 ql)), .t (.im false (qJ qP)), .t (.s (.int .i64 qm)), .t (.s (.bool qy)), .t (.s (.int .i64 qn)), .t (.im false (qB qq)), .t (.s (.bool qz)), .t (.s (.int .i64 qN)), .t (.s (.int .i64 qZ))])]⟩) (x0 := 0) h (Weak.of _ [(1, 1), (2, 2)] hA (by cbv) ?_) (fun _ => rfl) ?_
    · repeat (first | exact hq0 | refine hq (by first | exact Tt | rfl) ?_)
    ·
     intro k z63 h
     rw [qZB.l1] at h
     refine Run.seq ?_
     refine Run.region hL hT [] (by cbv) ?_ ?_
     · exact (hq Tt hq0)
     refine Run.seq ?_
     refine Run.cond (by cbv) (hq0) (fun c64 => ?_) (fun c64 => ?_)
     ·
      have h := if_t c64 h
      refine Run.skip ?_
      refine Run.seq ?_
      refine Run.block ?_
      refine Run.seq ?_
      obtain ⟨x65, h_x65, h⟩ := bnd h
      refine Run.region hL hT [(1, .el [.s (.int .i64 x65)])] (by cbv) ?_ ?_
      · exact (hq (qM h_x65) (hq (qb (f := Int_c) h_x65) (hq (qx (f := Int_c) h_x65) hq0)))
      refine Run.seq ?_
      obtain ⟨r66, h_r66, h⟩ := bnd h
      obtain ⟨x67, h_x67, h⟩ := bnd h
      refine Run.region hL hT [(3, .call [false, false, false] [.v (.jk), .v (.jk), .v (.jk)] [.v (.s (.bool r66))]), (13, .el [.s (.int .i64 x67)])] (by cbv) ?_ ?_
      · exact (hq Tt (hq (hC (qgB h_r66)) (hq (fun _ => hq0) (hq (fun g69 => (hq g69 (hq Tt hq0))) (hq (fun g70 => (hq g70 hq0)) (hq (fun _ => hq0) (hq (fun g72 => (hq g72 (hq Tt hq0))) (hq (fun _ => hq0) (hq (fun g74 => (hq g74 (hq Tt hq0))) (hq (fun g75 => (hq g75 (hq g75 (hq (qM (gd_t h_x67 g75)) (hq (qb (f := Int_c) (gd_t h_x67 g75)) (hq (qx (f := Int_c) (gd_t h_x67 g75)) hq0)))))) (hq (fun g76 => (hq g76 hq0)) (hq (fun _ => hq0) (hq (fun g78 => (hq g78 (hq g78 (hq Tt hq0)))) (hq (fun g79 => (hq g79 (hq (fun q80 => (hq (bo_a g79 q80) hq0)) (hq (fun _ => hq0) hq0)))) (hq (fun _ => hq0) (hq (fun q83 => (hq (bo_m q83) hq0)) hq0))))))))))))))))
      refine Run.cond (by cbv) (hq0) (fun c84 => ?_) (fun c84 => ?_)
      ·
       have h := if_t c84 h
       refine Run.seq ?_
       refine Run.region hL hT [] (by cbv) hq0 ?_
       refine Run.ret ?_
       cases h
       refine ⟨_, _, by cbv, ?_, ?_⟩
       · exact LLe.r
       · exact (ALe.v LLe.r ALe.nil)
      ·
       have h := if_f c84 h
       refine Run.skip ?_
       refine Run.region hL hT [] (by cbv) ?_ ?_
       · exact (hq Tt hq0)
       refine ⟨(ar .add .i64 z63 1), h, Weak.of _ [(1, 1), (2, 2)] hA (by cbv) ?_⟩
       repeat (first | exact hq0 | refine hq (by first | exact Tt | rfl) ?_)
     ·
      have h := if_f c64 h
      refine Run.exit ?_
      refine ⟨(), h, Weak.of _ [(1, 1), (2, 2)] hA (by cbv) ?_⟩
      repeat (first | exact hq0 | refine hq (by first | exact Tt | rfl) ?_)
   ·
    intro y47 h
    rw [h_K48] at h
    refine Run.seq ?_
    obtain ⟨r85, h_r85, h⟩ := bnd h
    refine Run.region hL hT [(3, .call [false, false, false] [.v (.jk), .v (.jk), .v (.jk)] [.v (.s (.bool r85))])] (by cbv) ?_ ?_
    · exact (hq Tt (hq (hC (qgB h_r85)) (hq (fun _ => hq0) (hq (fun g87 => (hq g87 (hq Tt hq0))) (hq (fun g88 => (hq g88 hq0)) (hq (fun g89 => (hq g89 hq0)) (hq (fun _ => hq0) (hq (fun g91 => (hq g91 (hq Tt hq0))) (hq (fun g92 => (hq g92 (hq Tt hq0))) (hq (fun g93 => (hq g93 (hq (fun _ => hq0) (hq (fun q95 => (hq (bo_a g93 (bo_m q95)) hq0)) hq0)))) (hq (fun q96 => (hq q96 hq0)) (hq (fun _ => hq0) hq0))))))))))))
    refine Run.seq ?_
    obtain ⟨r98, h_r98, h⟩ := bnd h
    obtain ⟨r99, h_r99, h⟩ := bnd h
    refine Run.region hL hT [(10, .call [false, false, false] [.v (.jk), .v (.jk), .v (.jk)] [.v (.s (.bool r98))]), (15, .call [false, false] [.ag [.jk], .ag [.jk, .jk, .jk, .jk, .jk, .jk, .jk, .jk, .jk]] [.v (.s (.bool r99))])] (by cbv) ?_ ?_
    · exact (hq Tt (hq Tt (hq (fun _ => hq0) (hq (fun q101 => (by have q101C := q101; rw [show ln (qJ qP) = qWB qP from ln_eq Cond_c _] at q101C; exact (hq q101 hq0))) (hq (fun _ => hq0) (hq (fun _ => hq0) (hq (fun g104 => (by have g104C := g104; rw [show ln (qJ qP) = qWB qP from ln_eq Cond_c _] at g104C; exact (hq g104 (hq Tt hq0)))) (hq (fun g105 => (by have g105C := g105; rw [show ln (qJ qP) = qWB qP from ln_eq Cond_c _] at g105C; exact (hq g105 (hq (hC (qgB (gd_t h_r98 g105C))) hq0)))) (hq (fun q106 => (by have q106C := q106; rw [show ln (qJ qP) = qWB qP from ln_eq Cond_c _] at q106C; exact (hq q106 hq0))) (hq (fun _ => hq0) (hq (fun g108 => (by have g108C := g108; rw [show ln (qJ qP) = qWB qP from ln_eq Cond_c _] at g108C; exact (hq Tt hq0))) (hq (fun g109 => (by have g109C := g109; rw [show ln (qJ qP) = qWB qP from ln_eq Cond_c _] at g109C; exact (hq Tt hq0))) (hq (fun g110 => (by have g110C := g110; rw [show ln (qJ qP) = qWB qP from ln_eq Cond_c _] at g110C; exact (hq g110 (hq g110 (hq (hC (qWM (gd_t h_r99 g110C))) hq0))))) (hq (fun q111 => (by have q111C := q111; rw [show ln (qJ qP) = qWB qP from ln_eq Cond_c _] at q111C; exact (hq q111 hq0))) (hq (fun _ => hq0) hq0)))))))))))))))
    rw [show ln (qJ qP) = qWB qP from ln_eq Cond_c _]
    refine Run.ret ?_
    cases h
    refine ⟨_, _, by cbv, ?_, ?_⟩
    · exact LLe.r
    · exact (ALe.v LLe.r ALe.nil)
theorem qYP {qcE : Int} {qGG : Int} {a0v_V : Int} {qGC : Int} {qv : List Int} {r : Bool} (h : qzG.f (Cond.mk qcE qGG a0v_V) (Row.mk qGC qv) = some r) : AC Tryz.prog 116 [.ag [.s (.int .i64 qcE), .s (.int .i64 qGG), .s (.int .i64 a0v_V)], .ag [.s (.int .i64 qGC), .im false (rowsOf Int_c qv)]] [.ag [.jk, .jk, .jk], .ag [.jk, .jk]] [.v (.s (.bool r))] := by
 unfold qzG.f at h
 let qB := rowsOf Int_c
 let qh := @lenI Int
 show AC Tryz.prog 116 [.ag [.s (.int .i64 qcE), .s (.int .i64 qGG), .s (.int .i64 a0v_V)], .ag [.s (.int .i64 qGC), .im false (qB qv)]] _ _
 refine run3 Tryz.func116 (by rfl) (by rfl) (by cbv) ⟨by decide, rfl⟩ ?_
 intro ar cm bo sc sa sx ss sl bs sb ln sr ap up rp fr ge le lt nz mm ma sm fl al ci hL F hP hA hT hM hC
 refine Run.seq ?_
 refine Run.region hL hT [] (by cbv) hq0 ?_
 refine Run.seq ?_
 refine Run.seq ?_
 obtain ⟨r1, h_r1, h⟩ := bnd h
 refine Run.region hL hT [(6, .call [false, false, false] [.v (.jk), .v (.jk), .v (.jk)] [.v (.s (.bool r1))])] (by cbv) ?_ ?_
 · exact (hq Tt (hq Tt (hq Tt (hq (by rw [show ln (qB qv) = qh qv from ln_eq Int_c _]; exact (hC (qgB h_r1))) hq0))))
 rw [show ln (qB qv) = qh qv from ln_eq Int_c _]
 refine Run.cond (by cbv) (hq0) (fun c2 => ?_) (fun c2 => ?_)
 ·
  have h := if_t c2 h
  refine Run.seq ?_
  refine Run.region hL hT [] (by cbv) hq0 ?_
  refine Run.ret ?_
  cases h
  refine ⟨_, _, by cbv, ?_, ?_⟩
  · exact LLe.r
  · exact (ALe.v LLe.r ALe.nil)
 ·
  have h := if_f c2 h
  refine Run.skip ?_
  refine Run.seq ?_
  obtain ⟨x3, h_x3, h⟩ := bnd h
  refine Run.region hL hT [(4, .el [.s (.int .i64 x3)])] (by cbv) ?_ ?_
  · exact (hq Tt (hq Tt (hq (qM h_x3) (hq (qb (f := Int_c) h_x3) (hq (qx (f := Int_c) h_x3) hq0)))))
  refine Run.seq ?_
  refine Run.seq ?_
  refine Run.region hL hT [] (by cbv) ?_ ?_
  · exact (hq Tt hq0)
  refine Run.block ?_
  refine Run.seq ?_
  refine Run.region hL hT [] (by cbv) ?_ ?_
  · exact (hq Tt hq0)
  refine Run.cond (by cbv) (hq0) (fun c4 => ?_) (fun c4 => ?_)
  ·
   have h := if_t c4 h
   refine Run.seq ?_
   refine Run.region hL hT [] (by cbv) ?_ ?_
   · exact (hq Tt (hq Tt hq0))
   refine Run.ret ?_
   cases h
   refine ⟨_, _, by cbv, ?_, ?_⟩
   · exact LLe.r
   · exact (ALe.v LLe.r ALe.nil)
  ·
   have h := if_f c4 h
   refine Run.seq ?_
   refine Run.region hL hT [] (by cbv) ?_ ?_
   · exact (hq Tt hq0)
   refine Run.cond (by cbv) (hq0) (fun c5 => ?_) (fun c5 => ?_)
   ·
    have h := if_t c5 h
    refine Run.seq ?_
    refine Run.region hL hT [] (by cbv) ?_ ?_
    · exact (hq Tt (hq Tt hq0))
    refine Run.ret ?_
    cases h
    refine ⟨_, _, by cbv, ?_, ?_⟩
    · exact LLe.r
    · exact (ALe.v LLe.r ALe.nil)
   ·
    have h := if_f c5 h
    refine Run.seq ?_
    refine Run.region hL hT [] (by cbv) ?_ ?_
    · exact (hq Tt hq0)
    refine Run.cond (by cbv) (hq0) (fun c6 => ?_) (fun c6 => ?_)
    ·
     have h := if_t c6 h
     refine Run.seq ?_
     refine Run.region hL hT [] (by cbv) ?_ ?_
     · exact (hq Tt (hq Tt hq0))
     refine Run.ret ?_
     cases h
     refine ⟨_, _, by cbv, ?_, ?_⟩
     · exact LLe.r
     · exact (ALe.v LLe.r ALe.nil)
    ·
     have h := if_f c6 h
     refine Run.skip ?_
     refine Run.seq ?_
     refine Run.region hL hT [] (by cbv) ?_ ?_
     · exact (hq Tt (hq Tt (hq (fun _ => hq0) (hq (fun _ => hq0) (hq (fun g9 => (hq g9 (hq Tt hq0))) (hq (fun g10 => (hq g10 (hq g10 (hq Tt hq0)))) (hq (fun q11 => (hq q11 hq0)) (hq (fun _ => hq0) hq0))))))))
     refine Run.ret ?_
     cases h
     refine ⟨_, _, by cbv, ?_, ?_⟩
     · exact LLe.r
     · exact (ALe.v LLe.r ALe.nil)
theorem qXM {qW : Int} {qS : List Cond} {qX : Int} {qi : Bool} {qY : Int} {qe : List Int} {qj : Bool} {qK : Int} {qQ : Int} {qGC : Int} {qv : List Int} {r : Bool} (h : qXC.f (Query.mk qW qS qX qi qY qe qj qK qQ) (Row.mk qGC qv) = some r) : AC Tryz.prog 95 [.ag [.s (.int .i64 qW), .im false (rowsOf Cond_c qS), .s (.int .i64 qX), .s (.bool qi), .s (.int .i64 qY), .im false (rowsOf Int_c qe), .s (.bool qj), .s (.int .i64 qK), .s (.int .i64 qQ)], .ag [.s (.int .i64 qGC), .im false (rowsOf Int_c qv)]] [.ag [.jk, .jk, .jk, .jk, .jk, .jk, .jk, .jk, .jk], .ag [.jk, .jk]] [.v (.s (.bool r))] := by
 unfold qXC.f at h
 let qJ := rowsOf Cond_c
 let qB := rowsOf Int_c
 let qWB := @lenI Cond
 show AC Tryz.prog 95 [.ag [.s (.int .i64 qW), .im false (qJ qS), .s (.int .i64 qX), .s (.bool qi), .s (.int .i64 qY), .im false (qB qe), .s (.bool qj), .s (.int .i64 qK), .s (.int .i64 qQ)], .ag [.s (.int .i64 qGC), .im false (qB qv)]] _ _
 refine run3 Tryz.func95 (by rfl) (by rfl) (by cbv) ⟨by decide, rfl⟩ ?_
 intro ar cm bo sc sa sx ss sl bs sb ln sr ap up rp fr ge le lt nz mm ma sm fl al ci hL F hP hA hT hM hC
 refine Run.seq ?_
 refine Run.region hL hT [] (by cbv) hq0 ?_
 refine Run.seq ?_
 refine Run.seq ?_
 refine Run.region hL hT [] (by cbv) ?_ ?_
 · exact (hq Tt hq0)
 rw [show ln (qJ qS) = qWB qS from ln_eq Cond_c _]
 refine Run.block ?_
 refine Run.loop1 (fun (z6 : Int) => ⟨19, 100000, [(3, .pt 1 0 0), (8, .t (.im false (qJ qS))), (9, .t (.s (.int .i64 (qWB qS)))), (10, .t (.s (.int .i64 z6)))], [(1, .box 91 [.t (.s (.int .i64 qGC)), .t (.im false (qB qv))])]⟩) (x0 := 0) h (Weak.of _ [(1, 1)] hA (by cbv) ?_) (fun _ => rfl) ?_
 · repeat (first | exact hq0 | refine hq (by first | exact Tt | rfl) ?_)
 ·
  intro k z6 h
  rw [qXC.l0] at h
  refine Run.seq ?_
  refine Run.region hL hT [] (by cbv) ?_ ?_
  · exact (hq Tt hq0)
  refine Run.seq ?_
  refine Run.cond (by cbv) (hq0) (fun c7 => ?_) (fun c7 => ?_)
  ·
   have h := if_t c7 h
   refine Run.skip ?_
   refine Run.seq ?_
   refine Run.block ?_
   refine Run.seq ?_
   obtain ⟨⟨qjJ, qHO, x8v_V⟩, h_x8, h⟩ := bnd h
   refine Run.region hL hT [(0, .el [.s (.int .i64 qjJ), .s (.int .i64 qHO), .s (.int .i64 x8v_V)])] (by cbv) ?_ ?_
   · exact (hq (qM h_x8) (hq (qb (f := Cond_c) h_x8) (hq (qx (f := Cond_c) h_x8) (hq Tt hq0))))
   refine Run.seq ?_
   obtain ⟨r9, h_r9, h⟩ := bnd h
   refine Run.region hL hT [(2, .call [false, false] [.ag [.jk, .jk, .jk], .ag [.jk, .jk]] [.v (.s (.bool r9))])] (by cbv) ?_ ?_
   · exact (hq Tt (hq Tt (hq (hC (qYP h_r9)) hq0)))
   refine Run.cond (by cbv) (hq0) (fun c10 => ?_) (fun c10 => ?_)
   ·
    have h := if_t c10 h
    refine Run.seq ?_
    refine Run.region hL hT [] (by cbv) hq0 ?_
    refine Run.ret ?_
    cases h
    refine ⟨_, _, by cbv, ?_, ?_⟩
    · exact LLe.r
    · exact (ALe.v LLe.r ALe.nil)
   ·
    have h := if_f c10 h
    refine Run.skip ?_
    refine Run.region hL hT [] (by cbv) ?_ ?_
    · exact (hq Tt hq0)
    refine ⟨(ar .add .i64 z6 1), h, Weak.of _ [(1, 1)] hA (by cbv) ?_⟩
    repeat (first | exact hq0 | refine hq (by first | exact Tt | rfl) ?_)
  ·
   have h := if_f c7 h
   refine Run.exit ?_
   refine Run.seq ?_
   refine Run.region hL hT [] (by cbv) hq0 ?_
   refine Run.ret ?_
   cases h
   refine ⟨_, _, by cbv, ?_, ?_⟩
   · exact LLe.r
   · exact (ALe.v LLe.r ALe.nil)
theorem qYK {a0 : List Int} {r : (List Int)} (h : qrE.f a0 = some r) : AC Tryz.prog 117 [.v (.im false (rowsOf Int_c a0))] [.v (.jk)] [.v (.ow 3 (rowsOf Int_c r))] := by
 unfold qrE.f at h
 let qB := rowsOf Int_c
 show AC Tryz.prog 117 [.v (.im false (qB a0))] _ _
 refine run3 Tryz.func117 (by rfl) (by rfl) (by cbv) ⟨by decide, rfl⟩ ?_
 intro ar cm bo sc sa sx ss sl bs sb ln sr ap up rp fr ge le lt nz mm ma sm fl al ci hL F hP hA hT hM hC
 refine Run.seq ?_
 refine Run.region hL hT [] (by cbv) hq0 ?_
 refine Run.seq ?_
 obtain ⟨l1, h_l1, h⟩ := bnd h
 refine Run.region hL hT [] (by cbv) ?_ ?_
 · exact (hq (qtV qiU _) (hq (qLE (P := Tryz.prog) (f := Int_c) RLe.r RLe.r h_l1) hq0))
 refine Run.row (rows := (ap ([]) ((qB a0)))) 4098 (qB l1) (by cbv) (qKE (f := Int_c) RLe.r RLe.r h_l1) ?_
 refine Run.ret ?_
 cases h
 refine ⟨_, _, by cbv, ?_, ?_⟩
 · exact LLe.r
 · exact (ALe.v LLe.r ALe.nil)
theorem qYM {qCD : Int} {qKB : List Int} {r : Row} (h : qVF.f (Row.mk qCD qKB) = some r) : AC Tryz.prog 96 [.ag [.s (.int .i64 qCD), .im false (rowsOf Int_c qKB)]] [.ag [.jk, .jk]] [.ag [.s (.int .i64 r.Id), .ow 3 (rowsOf Int_c r.Cells)]] := by
 unfold qVF.f at h
 let qB := rowsOf Int_c
 show AC Tryz.prog 96 [.ag [.s (.int .i64 qCD), .im false (qB qKB)]] _ _
 refine run3 Tryz.func96 (by rfl) (by rfl) (by cbv) ⟨by decide, rfl⟩ ?_
 intro ar cm bo sc sa sx ss sl bs sb ln sr ap up rp fr ge le lt nz mm ma sm fl al ci hL F hP hA hT hM hC
 refine Run.seq ?_
 refine Run.region hL hT [] (by cbv) hq0 ?_
 refine Run.seq ?_
 obtain ⟨r1, h_r1, h⟩ := bnd h
 refine Run.draw hL hT hM [(4, .call [false] [.v (.jk)] [.v (.ow 3 (qB r1))])] (by cbv) (by cbv) (by cbv) (by cbv) (by cbv) ?_ ?_
 · exact (hq Tt (hq Tt (hq (hC (qYK h_r1)) (hq Tt hq0))))
 refine Run.ret ?_
 cases h
 refine ⟨_, _, by cbv, ?_, ?_⟩
 · exact LLe.r
 · exact (ALe.ag rfl LLe.r ALe.nil)
theorem qZP {qW : Int} {qS : List Cond} {qX : Int} {qi : Bool} {qY : Int} {qe : List Int} {qj : Bool} {qK : Int} {qQ : Int} {qGC : Int} {qv : List Int} {qsD : Int} {qLB : List Int} {r : Bool} (h : qAH.f (Query.mk qW qS qX qi qY qe qj qK qQ) (Row.mk qGC qv) (Row.mk qsD qLB) = some r) : AC Tryz.prog 99 [.ag [.s (.int .i64 qW), .im false (rowsOf Cond_c qS), .s (.int .i64 qX), .s (.bool qi), .s (.int .i64 qY), .im false (rowsOf Int_c qe), .s (.bool qj), .s (.int .i64 qK), .s (.int .i64 qQ)], .ag [.s (.int .i64 qGC), .im false (rowsOf Int_c qv)], .ag [.s (.int .i64 qsD), .im false (rowsOf Int_c qLB)]] [.ag [.jk, .jk, .jk, .jk, .jk, .jk, .jk, .jk, .jk], .ag [.jk, .jk], .ag [.jk, .jk]] [.v (.s (.bool r))] := by
 unfold qAH.f at h
 let qJ := rowsOf Cond_c
 let qB := rowsOf Int_c
 show AC Tryz.prog 99 [.ag [.s (.int .i64 qW), .im false (qJ qS), .s (.int .i64 qX), .s (.bool qi), .s (.int .i64 qY), .im false (qB qe), .s (.bool qj), .s (.int .i64 qK), .s (.int .i64 qQ)], .ag [.s (.int .i64 qGC), .im false (qB qv)], .ag [.s (.int .i64 qsD), .im false (qB qLB)]] _ _
 refine run3 Tryz.func99 (by rfl) (by rfl) (by cbv) ⟨by decide, rfl⟩ ?_
 intro ar cm bo sc sa sx ss sl bs sb ln sr ap up rp fr ge le lt nz mm ma sm fl al ci hL F hP hA hT hM hC
 refine Run.seq ?_
 refine Run.region hL hT [] (by cbv) hq0 ?_
 refine Run.seq ?_
 refine Run.seq ?_
 refine Run.region hL hT [] (by cbv) ?_ ?_
 · exact (hq Tt (hq Tt hq0))
 refine Run.cond (by cbv) (hq0) (fun c1 => ?_) (fun c1 => ?_)
 ·
  have h := if_t c1 h
  refine Run.seq ?_
  refine Run.region hL hT [] (by cbv) ?_ ?_
  · exact (hq Tt (hq Tt (hq Tt hq0)))
  refine Run.ret ?_
  cases h
  refine ⟨_, _, by cbv, ?_, ?_⟩
  · exact LLe.r
  · exact (ALe.v LLe.r ALe.nil)
 ·
  have h := if_f c1 h
  refine Run.skip ?_
  refine Run.seq ?_
  obtain ⟨r2, h_r2, h⟩ := bnd h
  obtain ⟨r3, h_r3, h⟩ := bnd h
  refine Run.draw hL hT hM [(4, .call [false, false] [.ag [.jk, .jk], .v (.jk)] [.v (.s (.int .i64 r2))]), (9, .call [false, false] [.ag [.jk, .jk], .v (.jk)] [.v (.s (.int .i64 r3))])] (by cbv) (by cbv) (by cbv) (by cbv) (by cbv) ?_ ?_
  · exact (hq Tt (hq Tt (hq Tt (hq (hC (qkG h_r2)) (hq Tt (hq Tt (hq Tt (hq (hC (qkG h_r3)) hq0))))))))
  refine Run.seq ?_
  refine Run.block ?_
  refine Run.seq ?_
  refine Run.region hL hT [] (by cbv) ?_ ?_
  · exact (hq Tt hq0)
  refine Run.cond (by cbv) (hq0) (fun c4 => ?_) (fun c4 => ?_)
  ·
   have h := if_t c4 h
   refine Run.seq ?_
   refine Run.region hL hT [] (by cbv) ?_ ?_
   · exact (hq Tt (hq Tt (hq Tt hq0)))
   refine Run.ret ?_
   cases h
   refine ⟨_, _, by cbv, ?_, ?_⟩
   · exact LLe.r
   · exact (ALe.v LLe.r ALe.nil)
  ·
   have h := if_f c4 h
   refine Run.seq ?_
   refine Run.region hL hT [] (by cbv) ?_ ?_
   · exact (hq Tt hq0)
   refine Run.cond (by cbv) (hq0) (fun c5 => ?_) (fun c5 => ?_)
   ·
    have h := if_t c5 h
    refine Run.seq ?_
    refine Run.region hL hT [] (by cbv) ?_ ?_
    · exact (hq Tt hq0)
    refine Run.ret ?_
    cases h
    refine ⟨_, _, by cbv, ?_, ?_⟩
    · exact LLe.r
    · exact (ALe.v LLe.r ALe.nil)
   ·
    have h := if_f c5 h
    refine Run.skip ?_
    refine Run.seq ?_
    refine Run.region hL hT [] (by cbv) ?_ ?_
    · exact (hq Tt hq0)
    refine Run.ret ?_
    cases h
    refine ⟨_, _, by cbv, ?_, ?_⟩
    · exact LLe.r
    · exact (ALe.v LLe.r ALe.nil)
theorem qJE {qCD : Int} {qKB : List Int} {qGC : Int} {qv : List Int} {qZM : Int} {qaM : List Cond} {qbM : Int} {qaP : Bool} {qcM : Int} {qbP : List Int} {qcP : Bool} {qzH : Int} {qlJ : Int} {r : Int} (h : qtC.f (Row.mk qCD qKB) (Row.mk qGC qv) (Query.mk qZM qaM qbM qaP qcM qbP qcP qzH qlJ) = some r) : AC Tryz.prog 98 [.ag [.s (.int .i64 qCD), .im false (rowsOf Int_c qKB)], .ag [.s (.int .i64 qGC), .im false (rowsOf Int_c qv)], .v (.ip [.s (.int .i64 qZM), .im false (rowsOf Cond_c qaM), .s (.int .i64 qbM), .s (.bool qaP), .s (.int .i64 qcM), .im false (rowsOf Int_c qbP), .s (.bool qcP), .s (.int .i64 qzH), .s (.int .i64 qlJ)])] [.ag [.jk, .jk], .ag [.jk, .jk], .v (.jk)] [.v (.s (.int .i64 r))] := by
 unfold qtC.f at h
 let qJ := rowsOf Cond_c
 let qB := rowsOf Int_c
 show AC Tryz.prog 98 [.ag [.s (.int .i64 qCD), .im false (qB qKB)], .ag [.s (.int .i64 qGC), .im false (qB qv)], .v (.ip [.s (.int .i64 qZM), .im false (qJ qaM), .s (.int .i64 qbM), .s (.bool qaP), .s (.int .i64 qcM), .im false (qB qbP), .s (.bool qcP), .s (.int .i64 qzH), .s (.int .i64 qlJ)])] _ _
 refine run3 Tryz.func98 (by rfl) (by rfl) (by cbv) ⟨by decide, rfl⟩ ?_
 intro ar cm bo sc sa sx ss sl bs sb ln sr ap up rp fr ge le lt nz mm ma sm fl al ci hL F hP hA hT hM hC
 refine Run.seq ?_
 refine Run.region hL hT [] (by cbv) hq0 ?_
 refine Run.seq ?_
 refine Run.seq ?_
 obtain ⟨r1, h_r1, h⟩ := bnd h
 refine Run.region hL hT [(3, .call [false, false, false] [.ag [.jk, .jk, .jk, .jk, .jk, .jk, .jk, .jk, .jk], .ag [.jk, .jk], .ag [.jk, .jk]] [.v (.s (.bool r1))])] (by cbv) ?_ ?_
 · exact (hq Tt (hq Tt (hq (hC (qZP h_r1)) hq0)))
 refine Run.cond (by cbv) (hq0) (fun c2 => ?_) (fun c2 => ?_)
 ·
  have h := if_t c2 h
  refine Run.seq ?_
  refine Run.region hL hT [] (by cbv) hq0 ?_
  refine Run.ret ?_
  cases h
  refine ⟨_, _, by cbv, ?_, ?_⟩
  · exact LLe.r
  · exact (ALe.v LLe.r ALe.nil)
 ·
  have h := if_f c2 h
  refine Run.skip ?_
  refine Run.seq ?_
  refine Run.region hL hT [] (by cbv) hq0 ?_
  refine Run.ret ?_
  cases h
  refine ⟨_, _, by cbv, ?_, ?_⟩
  · exact LLe.r
  · exact (ALe.v LLe.r ALe.nil)
theorem qtB {a0 : List Row} {a1 : Int} {a2 : Int} {qFF : Int} {qGF : List Cond} {qHF : Int} {qjF : Bool} {qIF : Int} {qkF : List Int} {qlF : Bool} {qoD : Int} {qgE : Int} {r : (List Row)} (h : qD.f a0 a1 a2 (Query.mk qFF qGF qHF qjF qIF qkF qlF qoD qgE) = some r) : AC Tryz.prog 125 [.v (.ow 91 (rowsOf Row_o a0)), .v (.s (.int .i64 a1)), .v (.s (.int .i64 a2)), .v (.fn 98 [.ip [.s (.int .i64 qFF), .im false (rowsOf Cond_c qGF), .s (.int .i64 qHF), .s (.bool qjF), .s (.int .i64 qIF), .im false (rowsOf Int_c qkF), .s (.bool qlF), .s (.int .i64 qoD), .s (.int .i64 qgE)]])] [.v (.ow 91 (rowsOf Row_o r)), .v (.jk), .v (.jk), .v (.jk)] [] := by
 unfold qD.f at h
 let qJ := rowsOf Cond_c
 let qB := rowsOf Int_c
 let qf := rowsOf Row_o
 show AC Tryz.prog 125 [.v (.ow 91 (qf a0)), .v (.s (.int .i64 a1)), .v (.s (.int .i64 a2)), .v (.fn 98 [.ip [.s (.int .i64 qFF), .im false (qJ qGF), .s (.int .i64 qHF), .s (.bool qjF), .s (.int .i64 qIF), .im false (qB qkF), .s (.bool qlF), .s (.int .i64 qoD), .s (.int .i64 qgE)]])] _ _
 refine run3 Tryz.func125 (by rfl) (by rfl) (by cbv) ⟨by decide, rfl⟩ ?_
 intro ar cm bo sc sa sx ss sl bs sb ln sr ap up rp fr ge le lt nz mm ma sm fl al ci hL F hP hA hT hM hC
 refine Run.weak ?_ (Weak.fnT 3 (by cbv))
 refine Run.seq ?_
 refine Run.region hL hT [] (by cbv) ?_ ?_
 · exact (hq Tt hq0)
 refine Run.block ?_
 refine Run.loop2 (fun (z14 : List Row) (z15 : Int) => ⟨53, 100000, [(0, .rf 0), (1, .t (.s (.int .i64 a1))), (2, .t (.s (.int .i64 a2))), (3, .fn 98 [.t (.ip [.s (.int .i64 qFF), .im false (qJ qGF), .s (.int .i64 qHF), .s (.bool qjF), .s (.int .i64 qIF), .im false (qB qkF), .s (.bool qlF), .s (.int .i64 qoD), .s (.int .i64 qgE)])]), (8, .t (.s (.int .i64 z15)))], [(0, .row 0 91 2 (qf z14))]⟩) (x0 := a0) (x1 := (ar .add .i64 a1 1)) h (Weak.of _ [(0, 0)] hA (by cbv) ?_) (fun _ _ => rfl) ?_
 · repeat (first | exact hq0 | refine hq (by first | exact Tt | rfl) ?_)
 ·
  intro k z14 z15 h
  rw [qD.l0] at h
  refine Run.seq ?_
  refine Run.seq ?_
  refine Run.region hL hT [] (by cbv) ?_ ?_
  · exact (hq Tt hq0)
  refine Run.cond (by cbv) (hq0) (fun c16 => ?_) (fun c16 => ?_)
  ·
   have h := if_t c16 h
   refine Run.skip ?_
   obtain ⟨K18, h_K18, h⟩ := joinE h
   refine Run.join1 K18 (r := r) (fun (y17 : List Row) => ⟨53, 100000, [(0, .rf 0), (1, .t (.s (.int .i64 a1))), (2, .t (.s (.int .i64 a2))), (3, .fn 98 [.t (.ip [.s (.int .i64 qFF), .im false (qJ qGF), .s (.int .i64 qHF), .s (.bool qjF), .s (.int .i64 qIF), .im false (qB qkF), .s (.bool qlF), .s (.int .i64 qoD), .s (.int .i64 qgE)])]), (8, .t (.s (.int .i64 z15)))], [(0, .row 0 91 2 (qf y17))]⟩) ?_ ?_
   ·
    skip
    refine Run.block ?_
    refine Run.seq ?_
    refine Run.region hL hT [] (by cbv) hq0 ?_
    refine Run.block ?_
    refine Run.loop2 (fun (z33 : List Row) (z34 : Int) => ⟨53, 100000, [(0, .rf 0), (1, .t (.s (.int .i64 a1))), (2, .t (.s (.int .i64 a2))), (3, .fn 98 [.t (.ip [.s (.int .i64 qFF), .im false (qJ qGF), .s (.int .i64 qHF), .s (.bool qjF), .s (.int .i64 qIF), .im false (qB qkF), .s (.bool qlF), .s (.int .i64 qoD), .s (.int .i64 qgE)])]), (8, .t (.s (.int .i64 z15))), (9, .t (.s (.int .i64 z34)))], [(0, .row 0 91 2 (qf z33))]⟩) (x0 := z14) (x1 := z15) h (Weak.of _ [(0, 0)] hA (by cbv) ?_) (fun _ _ => rfl) ?_
    · repeat (first | exact hq0 | refine hq (by first | exact Tt | rfl) ?_)
    ·
     intro k z33 z34 h
     rw [qD.l1] at h
     refine Run.seq ?_
     refine Run.seq ?_
     obtain ⟨⟨qeR, qiJ⟩, h_x35, h⟩ := bnd h
     obtain ⟨⟨qfR, qmJ⟩, h_x36, h⟩ := bnd h
     obtain ⟨r37, h_r37, h⟩ := bnd h
     refine Run.draw hL hT hM [(8, .el [.s (.int .i64 qeR), .ow 3 (qB qiJ)]), (13, .el [.s (.int .i64 qfR), .ow 3 (qB qmJ)]), (14, .call [false, false] [.ag [.jk, .jk], .ag [.jk, .jk], .v (.jk)] [.v (.s (.int .i64 r37))])] (by cbv) (by cbv) (by cbv) (by cbv) (by cbv) ?_ ?_
     · exact (hq Tt (hq (fun _ => hq0) (hq (fun _ => hq0) (hq (fun _ => hq0) (hq (fun g41 => (hq g41 (hq g41 (hq (qM (gd_t h_x35 g41)) (hq (qb (f := Row_o) (gd_t h_x35 g41)) hq0))))) (hq (fun g42 => (hq g42 (hq (qM (gd_t h_x35 g42)) (hq (qb (f := Row_o) (gd_t h_x35 g42)) (hq (qx (f := Row_o) (gd_t h_x35 g42)) hq0))))) (hq (fun _ => hq0) (hq (fun _ => hq0) (hq (fun g45 => (hq g45 (hq Tt hq0))) (hq (fun g46 => (hq g46 (hq g46 (hq (qM (gd_t h_x36 g46)) (hq (qb (f := Row_o) (gd_t h_x36 g46)) hq0))))) (hq (fun g47 => (hq g47 (hq (qM (gd_t h_x36 g47)) (hq (qb (f := Row_o) (gd_t h_x36 g47)) (hq (qx (f := Row_o) (gd_t h_x36 g47)) hq0))))) (hq (fun g48 => (hq g48 (hq g48 (hq g48 (hq (hC (AC.args (qJE (gd_t h_r37 g48)) (ALe.ag rfl (LLe.c (LLe.cons (LLe.im (RLe.eq (qmB qBD _))) LLe.nil)) (ALe.ag rfl (LLe.c (LLe.cons (LLe.im (RLe.eq (qmB qBD _))) LLe.nil)) (ALe.v LLe.r ALe.nil))))) hq0))))) (hq (fun g49 => (hq g49 (hq Tt hq0))) (hq (fun q50 => (hq q50 hq0)) (hq (fun _ => hq0) hq0)))))))))))))))
     refine Run.cond (by cbv) (hq0) (fun c52 => ?_) (fun c52 => ?_)
     ·
      have h := if_t c52 h
      refine Run.skip ?_
      refine Run.seq ?_
      refine Run.block ?_
      obtain ⟨⟨qvU, qJO⟩, h_x53, h⟩ := bnd h
      obtain ⟨⟨qwU, qKO⟩, h_x54, h⟩ := bnd h
      obtain ⟨u55, h_u55, h⟩ := bnd h
      obtain ⟨l56, h_l56, h⟩ := bnd h
      refine Run.weak ?_ (Weak.take2 (rows := qf z33) (e2 := 3) (r1 := qB qJO) (r2 := qB qKO) hT 0 (ar .sub .i64 z34 1) z34 1 107096 1107096 107097 1107097 (by cbv) (by cbv) (by cbv) (by cbv) (by cbv) (by cbv) (qcC h_x53) (qcD Row_o h_x53) ((congrArg (fun q => q[1]?) (qx (f := Row_o) h_x53)).trans rfl) rfl (qcC h_x54) (qcD Row_o h_x54) (ne_t h_u55) ((congrArg (fun q => q[1]?) (qx (f := Row_o) h_x54)).trans rfl) rfl (by cbv) (up (up (qf z33) (ar .sub .i64 z34 1) 1 [.jk]) z34 1 [.jk]) rfl)
      refine Run.draw hL hT hM [(9, .lk [.s (.int .i64 qvU), .jk] [(1, 1107096)]), (13, .lk [.s (.int .i64 qwU), .jk] [(1, 1107097)])] (by cbv) (by cbv) (by cbv) (by cbv) (by cbv) ?_ ?_
      · exact (hq Tt (hq Tt (hq (qM h_x53) (hq (sw_lt Row_o h_x53) (hq Tt (hq (qM h_x53) (hq (sw_lt Row_o h_x53) (hq (qFQ Row_o h_x53 h_x54 (ne_t h_u55)) (hq (qM h_x54) (hq (sw_lt Row_o h_x54) (hq Tt (hq (qM h_x54) (hq (sw_lt Row_o h_x54) (hq (qGQ Row_o h_x53 h_x54 (ne_t h_u55)) (hq (qM h_x54) (hq (sw_lt Row_o h_x54) (hq (qM h_x54) (hq (sw_lt Row_o h_x54) (hq (qM h_x53) (hq (qHK Row_o h_x53) (hq (qM h_x53) (hq (qHK Row_o h_x53) hq0))))))))))))))))))))))
      refine Run.row (rows := (up (up (up (up (qf z33) (ar .sub .i64 z34 1) 1 [.jk]) z34 1 [.jk]) z34 0 [.s (.int .i64 qvU), .ow 3 (qB qJO)]) (ar .sub .i64 z34 1) 0 [.s (.int .i64 qwU), .ow 3 (qB qKO)])) 0 (qf l56) (by cbv) (qcO (f := Row_o) qjI h_x53 h_x54 (ne_t h_u55) (by decide) (.inr ⟨rfl, rfl⟩) h_l56 rfl rfl) ?_
      refine Run.region hL hT [] (by cbv) ?_ ?_
      · exact (hq Tt hq0)
      refine ⟨l56, (ar .sub .i64 z34 1), h, Weak.of _ [(0, 0)] hA (by cbv) ?_⟩
      repeat (first | exact hq0 | refine hq (by first | exact Tt | rfl) ?_)
     ·
      have h := if_f c52 h
      refine Run.exit ?_
      refine ⟨z33, h, Weak.of _ [(0, 0)] hA (by cbv) ?_⟩
      repeat (first | exact hq0 | refine hq (by first | exact Tt | rfl) ?_)
   ·
    intro y17 h
    rw [h_K18] at h
    refine Run.region hL hT [] (by cbv) ?_ ?_
    · exact (hq Tt hq0)
    refine ⟨y17, (ar .add .i64 z15 1), h, Weak.of _ [(0, 0)] hA (by cbv) ?_⟩
    repeat (first | exact hq0 | refine hq (by first | exact Tt | rfl) ?_)
  ·
   have h := if_f c16 h
   refine Run.exit ?_
   cases h
   refine ⟨_, _, by cbv, ?_, ?_⟩
   · exact LLe.r
   · exact ALe.nil
theorem qcB {a0 : List Row} {a1 : Int} {a2 : Int} {a3 : Int} {qFB : Int} {qGB : List Cond} {qHB : Int} {qRB : Bool} {qIB : Int} {qSB : List Int} {qTB : Bool} {qp : Int} {qCB : Int} {r : (List Row)} (h : qI.f a0 a1 a2 a3 (Query.mk qFB qGB qHB qRB qIB qSB qTB qp qCB) = some r) : AC Tryz.prog 145 [.v (.ow 91 (rowsOf Row_o a0)), .v (.s (.int .i64 a1)), .v (.s (.int .i64 a2)), .v (.s (.int .i64 a3)), .v (.fn 98 [.ip [.s (.int .i64 qFB), .im false (rowsOf Cond_c qGB), .s (.int .i64 qHB), .s (.bool qRB), .s (.int .i64 qIB), .im false (rowsOf Int_c qSB), .s (.bool qTB), .s (.int .i64 qp), .s (.int .i64 qCB)]])] [.v (.ow 91 (rowsOf Row_o r)), .v (.jk), .v (.jk), .v (.jk), .v (.jk)] [] := by
 unfold qI.f at h
 let qJ := rowsOf Cond_c
 let qB := rowsOf Int_c
 let qf := rowsOf Row_o
 show AC Tryz.prog 145 [.v (.ow 91 (qf a0)), .v (.s (.int .i64 a1)), .v (.s (.int .i64 a2)), .v (.s (.int .i64 a3)), .v (.fn 98 [.ip [.s (.int .i64 qFB), .im false (qJ qGB), .s (.int .i64 qHB), .s (.bool qRB), .s (.int .i64 qIB), .im false (qB qSB), .s (.bool qTB), .s (.int .i64 qp), .s (.int .i64 qCB)]])] _ _
 refine run3 Tryz.func145 (by rfl) (by rfl) (by cbv) ⟨by decide, rfl⟩ ?_
 intro ar cm bo sc sa sx ss sl bs sb ln sr ap up rp fr ge le lt nz mm ma sm fl al ci hL F hP hA hT hM hC
 refine Run.weak ?_ (Weak.fnT 4 (by cbv))
 refine Run.seq ?_
 refine Run.region hL hT [] (by cbv) hq0 ?_
 refine Run.block ?_
 refine Run.loop2 (fun (z6 : List Row) (z7 : Int) => ⟨38, 100000, [(0, .rf 0), (1, .t (.s (.int .i64 a1))), (2, .t (.s (.int .i64 a2))), (3, .t (.s (.int .i64 a3))), (10, .t (.s (.int .i64 z7)))], [(0, .row 0 91 2 (qf z6))]⟩) (x0 := a0) (x1 := 0) h (Weak.of _ [(0, 0)] hA (by cbv) ?_) (fun _ _ => rfl) ?_
 · repeat (first | exact hq0 | refine hq (by first | exact Tt | rfl) ?_)
 ·
  intro k z6 z7 h
  rw [qI.l0] at h
  refine Run.seq ?_
  refine Run.seq ?_
  refine Run.region hL hT [] (by cbv) ?_ ?_
  · exact (hq Tt hq0)
  refine Run.cond (by cbv) (hq0) (fun c8 => ?_) (fun c8 => ?_)
  ·
   have h := if_t c8 h
   refine Run.skip ?_
   refine Run.seq ?_
   refine Run.block ?_
   obtain ⟨⟨qiQ, qxH⟩, h_x9, h⟩ := bnd h
   obtain ⟨⟨qNM, qGH⟩, h_x10, h⟩ := bnd h
   obtain ⟨u11, h_u11, h⟩ := bnd h
   obtain ⟨l12, h_l12, h⟩ := bnd h
   refine Run.weak ?_ (Weak.take2 (rows := qf z6) (e2 := 3) (r1 := qB qxH) (r2 := qB qGH) hT 0 (ar .add .i64 a2 z7) (ar .add .i64 a1 z7) 1 107096 1107096 107097 1107097 (by cbv) (by cbv) (by cbv) (by cbv) (by cbv) (by cbv) (qcC h_x9) (qcD Row_o h_x9) ((congrArg (fun q => q[1]?) (qx (f := Row_o) h_x9)).trans rfl) rfl (qcC h_x10) (qcD Row_o h_x10) (ne_t h_u11) ((congrArg (fun q => q[1]?) (qx (f := Row_o) h_x10)).trans rfl) rfl (by cbv) (up (up (qf z6) (ar .add .i64 a2 z7) 1 [.jk]) (ar .add .i64 a1 z7) 1 [.jk]) rfl)
   refine Run.draw hL hT hM [(13, .lk [.s (.int .i64 qiQ), .jk] [(1, 1107096)]), (19, .lk [.s (.int .i64 qNM), .jk] [(1, 1107097)])] (by cbv) (by cbv) (by cbv) (by cbv) (by cbv) ?_ ?_
   · exact (hq Tt (hq Tt (hq Tt (hq (qM h_x9) (hq (sw_lt Row_o h_x9) (hq Tt (hq (qM h_x9) (hq (sw_lt Row_o h_x9) (hq (qFQ Row_o h_x9 h_x10 (ne_t h_u11)) (hq Tt (hq (qM h_x10) (hq (sw_lt Row_o h_x10) (hq Tt (hq (qM h_x10) (hq (sw_lt Row_o h_x10) (hq (qGQ Row_o h_x9 h_x10 (ne_t h_u11)) (hq (qM h_x10) (hq (sw_lt Row_o h_x10) (hq (qM h_x10) (hq (sw_lt Row_o h_x10) (hq (qM h_x9) (hq (qHK Row_o h_x9) (hq (qM h_x9) (hq (qHK Row_o h_x9) hq0))))))))))))))))))))))))
   refine Run.row (rows := (up (up (up (up (qf z6) (ar .add .i64 a2 z7) 1 [.jk]) (ar .add .i64 a1 z7) 1 [.jk]) (ar .add .i64 a1 z7) 0 [.s (.int .i64 qiQ), .ow 3 (qB qxH)]) (ar .add .i64 a2 z7) 0 [.s (.int .i64 qNM), .ow 3 (qB qGH)])) 0 (qf l12) (by cbv) (qcO (f := Row_o) qjI h_x9 h_x10 (ne_t h_u11) (by decide) (.inr ⟨rfl, rfl⟩) h_l12 rfl rfl) ?_
   refine Run.region hL hT [] (by cbv) ?_ ?_
   · exact (hq Tt hq0)
   refine ⟨l12, (ar .add .i64 z7 1), h, Weak.of _ [(0, 0)] hA (by cbv) ?_⟩
   repeat (first | exact hq0 | refine hq (by first | exact Tt | rfl) ?_)
  ·
   have h := if_f c8 h
   refine Run.exit ?_
   cases h
   refine ⟨_, _, by cbv, ?_, ?_⟩
   · exact LLe.r
   · exact ALe.nil
theorem qOD {a0 : List Row} {a1 : Int} {a2 : Int} {a3 : Int} {qFB : Int} {qGB : List Cond} {qHB : Int} {qRB : Bool} {qIB : Int} {qSB : List Int} {qTB : Bool} {qp : Int} {qCB : Int} {r : (List Row)} (h : qL.f a0 a1 a2 a3 (Query.mk qFB qGB qHB qRB qIB qSB qTB qp qCB) = some r) : AC Tryz.prog 135 [.v (.ow 91 (rowsOf Row_o a0)), .v (.s (.int .i64 a1)), .v (.s (.int .i64 a2)), .v (.s (.int .i64 a3)), .v (.fn 98 [.ip [.s (.int .i64 qFB), .im false (rowsOf Cond_c qGB), .s (.int .i64 qHB), .s (.bool qRB), .s (.int .i64 qIB), .im false (rowsOf Int_c qSB), .s (.bool qTB), .s (.int .i64 qp), .s (.int .i64 qCB)]])] [.v (.ow 91 (rowsOf Row_o r)), .v (.jk), .v (.jk), .v (.jk), .v (.jk)] [] := by
 unfold qL.f at h
 let qJ := rowsOf Cond_c
 let qB := rowsOf Int_c
 let qf := rowsOf Row_o
 show AC Tryz.prog 135 [.v (.ow 91 (qf a0)), .v (.s (.int .i64 a1)), .v (.s (.int .i64 a2)), .v (.s (.int .i64 a3)), .v (.fn 98 [.ip [.s (.int .i64 qFB), .im false (qJ qGB), .s (.int .i64 qHB), .s (.bool qRB), .s (.int .i64 qIB), .im false (qB qSB), .s (.bool qTB), .s (.int .i64 qp), .s (.int .i64 qCB)]])] _ _
 refine run3 Tryz.func135 (by rfl) (by rfl) (by cbv) ⟨by decide, rfl⟩ ?_
 intro ar cm bo sc sa sx ss sl bs sb ln sr ap up rp fr ge le lt nz mm ma sm fl al ci hL F hP hA hT hM hC
 refine Run.weak ?_ (Weak.fnT 4 (by cbv))
 refine Run.seq ?_
 refine Run.region hL hT [] (by cbv) ?_ ?_
 · exact (hq Tt hq0)
 refine Run.seq ?_
 refine Run.region hL hT [] (by cbv) ?_ ?_
 · exact (hq Tt hq0)
 obtain ⟨K3, h_K3, h⟩ := joinE h
 refine Run.join2 K3 (r := r) (fun (y1 : List Row) (y2 : Int) => ⟨58, 100000, [(0, .rf 0), (2, .t (.s (.int .i64 a2))), (4, .fn 98 [.t (.ip [.s (.int .i64 qFB), .im false (qJ qGB), .s (.int .i64 qHB), .s (.bool qRB), .s (.int .i64 qIB), .im false (qB qSB), .s (.bool qTB), .s (.int .i64 qp), .s (.int .i64 qCB)])]), (10, .t (.s (.int .i64 y2)))], [(0, .row 0 91 2 (qf y1))]⟩) ?_ ?_
 ·
  skip
  refine Run.block ?_
  refine Run.loop3 (fun (z17 : List Row) (z18 : Int) (z19 : Int) => ⟨58, 100000, [(0, .rf 0), (2, .t (.s (.int .i64 a2))), (4, .fn 98 [.t (.ip [.s (.int .i64 qFB), .im false (qJ qGB), .s (.int .i64 qHB), .s (.bool qRB), .s (.int .i64 qIB), .im false (qB qSB), .s (.bool qTB), .s (.int .i64 qp), .s (.int .i64 qCB)])]), (10, .t (.s (.int .i64 z18))), (11, .t (.s (.int .i64 z19)))], [(0, .row 0 91 2 (qf z17))]⟩) (x0 := a0) (x1 := (ar .sub .i64 a2 a1)) (x2 := (ar .sub .i64 a3 a2)) h (Weak.of _ [(0, 0)] hA (by cbv) ?_) (fun _ _ _ => rfl) ?_
  · repeat (first | exact hq0 | refine hq (by first | exact Tt | rfl) ?_)
  ·
   intro k z17 z18 z19 h
   rw [qL.l0] at h
   refine Run.seq ?_
   refine Run.seq ?_
   refine Run.region hL hT [] (by cbv) ?_ ?_
   · exact (hq Tt hq0)
   refine Run.cond (by cbv) (hq0) (fun c20 => ?_) (fun c20 => ?_)
   ·
    have h := if_t c20 h
    refine Run.skip ?_
    refine Run.block ?_
    refine Run.seq ?_
    refine Run.region hL hT [] (by cbv) ?_ ?_
    · exact (hq Tt hq0)
    refine Run.cond (by cbv) (hq0) (fun c21 => ?_) (fun c21 => ?_)
    ·
     have h := if_t c21 h
     refine Run.seq ?_
     obtain ⟨r22, h_r22, h⟩ := bnd h
     refine Run.region hL hT [(7, .call [true, false, false, false, false] [.v (.ow 91 (qf r22)), .v (.jk), .v (.jk), .v (.jk), .v (.jk)] [])] (by cbv) ?_ ?_
     · exact (hq Tt (hq (hC (qcB h_r22)) hq0))
     refine Run.region hL hT [] (by cbv) ?_ ?_
     · exact (hq Tt hq0)
     refine ⟨r22, (ar .sub .i64 z18 z19), z19, h, Weak.of _ [(0, 0)] hA (by cbv) ?_⟩
     repeat (first | exact hq0 | refine hq (by first | exact Tt | rfl) ?_)
    ·
     have h := if_f c21 h
     refine Run.seq ?_
     obtain ⟨r23, h_r23, h⟩ := bnd h
     refine Run.region hL hT [(11, .call [true, false, false, false, false] [.v (.ow 91 (qf r23)), .v (.jk), .v (.jk), .v (.jk), .v (.jk)] [])] (by cbv) ?_ ?_
     · exact (hq Tt (hq Tt (hq Tt (hq (hC (qcB h_r23)) hq0))))
     refine Run.region hL hT [] (by cbv) ?_ ?_
     · exact (hq Tt hq0)
     refine ⟨r23, z18, (ar .sub .i64 z19 z18), h, Weak.of _ [(0, 0)] hA (by cbv) ?_⟩
     repeat (first | exact hq0 | refine hq (by first | exact Tt | rfl) ?_)
   ·
    have h := if_f c20 h
    refine Run.exit ?_
    refine ⟨z17, z18, h, Weak.of _ [(0, 0)] hA (by cbv) ?_⟩
    repeat (first | exact hq0 | refine hq (by first | exact Tt | rfl) ?_)
 ·
  intro y1 y2 h
  rw [h_K3] at h
  obtain ⟨r24, h_r24, h⟩ := bnd h
  refine Run.region hL hT [(7, .call [true, false, false, false, false] [.v (.ow 91 (qf r24)), .v (.jk), .v (.jk), .v (.jk), .v (.jk)] [])] (by cbv) ?_ ?_
  · exact (hq Tt (hq (hC (qcB h_r24)) hq0))
  cases h
  refine ⟨_, _, by cbv, ?_, ?_⟩
  · exact LLe.r
  · exact ALe.nil
theorem qDD (self : (List Row) → Int → Int → Int → Query → Option ((List Row))) (hself : ∀ {a0 : List Row} {a1 : Int} {a2 : Int} {a3 : Int} {qFB : Int} {qGB : List Cond} {qHB : Int} {qRB : Bool} {qIB : Int} {qSB : List Int} {qTB : Bool} {qp : Int} {qCB : Int} {r : (List Row)} (h : self a0 a1 a2 a3 (Query.mk qFB qGB qHB qRB qIB qSB qTB qp qCB) = some r), AC Tryz.prog 126 [.v (.ow 91 (rowsOf Row_o a0)), .v (.s (.int .i64 a1)), .v (.s (.int .i64 a2)), .v (.s (.int .i64 a3)), .v (.fn 98 [.ip [.s (.int .i64 qFB), .im false (rowsOf Cond_c qGB), .s (.int .i64 qHB), .s (.bool qRB), .s (.int .i64 qIB), .im false (rowsOf Int_c qSB), .s (.bool qTB), .s (.int .i64 qp), .s (.int .i64 qCB)]])] [.v (.ow 91 (rowsOf Row_o r)), .v (.jk), .v (.jk), .v (.jk), .v (.jk)] []) {a0 : List Row} {a1 : Int} {a2 : Int} {a3 : Int} {qFB : Int} {qGB : List Cond} {qHB : Int} {qRB : Bool} {qIB : Int} {qSB : List Int} {qTB : Bool} {qp : Int} {qCB : Int} {r : (List Row)} (h : qA.b self a0 a1 a2 a3 (Query.mk qFB qGB qHB qRB qIB qSB qTB qp qCB) = some r) : AC Tryz.prog 126 [.v (.ow 91 (rowsOf Row_o a0)), .v (.s (.int .i64 a1)), .v (.s (.int .i64 a2)), .v (.s (.int .i64 a3)), .v (.fn 98 [.ip [.s (.int .i64 qFB), .im false (rowsOf Cond_c qGB), .s (.int .i64 qHB), .s (.bool qRB), .s (.int .i64 qIB), .im false (rowsOf Int_c qSB), .s (.bool qTB), .s (.int .i64 qp), .s (.int .i64 qCB)]])] [.v (.ow 91 (rowsOf Row_o r)), .v (.jk), .v (.jk), .v (.jk), .v (.jk)] [] := by
 unfold qA.b at h
 let qJ := rowsOf Cond_c
 let qB := rowsOf Int_c
 let qf := rowsOf Row_o
 show AC Tryz.prog 126 [.v (.ow 91 (qf a0)), .v (.s (.int .i64 a1)), .v (.s (.int .i64 a2)), .v (.s (.int .i64 a3)), .v (.fn 98 [.ip [.s (.int .i64 qFB), .im false (qJ qGB), .s (.int .i64 qHB), .s (.bool qRB), .s (.int .i64 qIB), .im false (qB qSB), .s (.bool qTB), .s (.int .i64 qp), .s (.int .i64 qCB)]])] _ _
 refine run3 Tryz.func126 (by rfl) (by rfl) (by cbv) ⟨by decide, rfl⟩ ?_
 intro ar cm bo sc sa sx ss sl bs sb ln sr ap up rp fr ge le lt nz mm ma sm fl al ci hL F hP hA hT hM hC
 refine Run.weak ?_ (Weak.fnT 4 (by cbv))
 obtain ⟨K2, h_K2, h⟩ := joinE h
 refine Run.join1 K2 (r := r) (fun (y1 : Unit) => ⟨220, 100000, [(0, .rf 0), (1, .t (.s (.int .i64 a1))), (2, .t (.s (.int .i64 a2))), (3, .t (.s (.int .i64 a3))), (4, .fn 98 [.t (.ip [.s (.int .i64 qFB), .im false (qJ qGB), .s (.int .i64 qHB), .s (.bool qRB), .s (.int .i64 qIB), .im false (qB qSB), .s (.bool qTB), .s (.int .i64 qp), .s (.int .i64 qCB)])])], [(0, .row 0 91 2 (qf a0))]⟩) ?_ ?_
 ·
  skip
  refine Run.seq ?_
  refine Run.region hL hT [] (by cbv) ?_ ?_
  · exact (hq Tt (hq Tt hq0))
  refine Run.cond (by cbv) (hq0) (fun c3 => ?_) (fun c3 => ?_)
  ·
   have h := if_t c3 h
   refine Run.seq ?_
   refine Run.region hL hT [] (by cbv) hq0 ?_
   refine Run.seq ?_
   refine Run.region hL hT [] (by cbv) hq0 ?_
   obtain ⟨K5, h_K5, h⟩ := joinE h
   refine Run.join1 K5 (r := r) (fun (y4 : Int) => ⟨220, 100000, [(0, .rf 0), (1, .t (.s (.int .i64 a1))), (10, .t (.s (.int .i64 y4)))], [(0, .row 0 91 2 (qf a0))]⟩) ?_ ?_
   ·
    skip
    refine Run.block ?_
    refine Run.loop2 (fun (z19 : Int) (z20 : Int) => ⟨220, 100000, [(0, .rf 0), (1, .t (.s (.int .i64 a1))), (4, .fn 98 [.t (.ip [.s (.int .i64 qFB), .im false (qJ qGB), .s (.int .i64 qHB), .s (.bool qRB), .s (.int .i64 qIB), .im false (qB qSB), .s (.bool qTB), .s (.int .i64 qp), .s (.int .i64 qCB)])]), (10, .t (.s (.int .i64 z19))), (11, .t (.s (.int .i64 z20)))], [(0, .row 0 91 2 (qf a0))]⟩) (x0 := a2) (x1 := a3) h (Weak.of _ [(0, 0)] hA (by cbv) ?_) (fun _ _ => rfl) ?_
    · repeat (first | exact hq0 | refine hq (by first | exact Tt | rfl) ?_)
    ·
     intro k z19 z20 h
     rw [qA.l0] at h
     refine Run.seq ?_
     refine Run.seq ?_
     refine Run.region hL hT [] (by cbv) ?_ ?_
     · exact (hq Tt hq0)
     refine Run.cond (by cbv) (hq0) (fun c21 => ?_) (fun c21 => ?_)
     ·
      have h := if_t c21 h
      refine Run.skip ?_
      refine Run.block ?_
      refine Run.seq ?_
      refine Run.region hL hT [] (by cbv) ?_ ?_
      · exact (hq Tt (hq Tt (hq Tt (hq (by decide : (0 : Int) ≤ 1) (hq (by decide : (1 : Int) < 64) hq0)))))
      refine Run.seq ?_
      obtain ⟨⟨qxW, qTT⟩, h_x22, h⟩ := bnd h
      obtain ⟨⟨qyW, qUT⟩, h_x23, h⟩ := bnd h
      obtain ⟨r24, h_r24, h⟩ := bnd h
      refine Run.draw hL hT hM [(4, .el [.s (.int .i64 qxW), .ow 3 (qB qTT)]), (8, .el [.s (.int .i64 qyW), .ow 3 (qB qUT)]), (9, .call [false, false] [.ag [.jk, .jk], .ag [.jk, .jk], .v (.jk)] [.v (.s (.int .i64 r24))])] (by cbv) (by cbv) (by cbv) (by cbv) (by cbv) ?_ ?_
      · exact (hq (qM h_x22) (hq (qb (f := Row_o) h_x22) (hq (qM h_x22) (hq (qb (f := Row_o) h_x22) (hq (qx (f := Row_o) h_x22) (hq (qM h_x23) (hq (qb (f := Row_o) h_x23) (hq (qM h_x23) (hq (qb (f := Row_o) h_x23) (hq (qx (f := Row_o) h_x23) (hq (hC (AC.args (qJE h_r24) (ALe.ag rfl (LLe.c (LLe.cons (LLe.im (RLe.eq (qmB qBD _))) LLe.nil)) (ALe.ag rfl (LLe.c (LLe.cons (LLe.im (RLe.eq (qmB qBD _))) LLe.nil)) (ALe.v LLe.r ALe.nil))))) (hq Tt hq0))))))))))))
      refine Run.cond (by cbv) (hq0) (fun c25 => ?_) (fun c25 => ?_)
      ·
       have h := if_t c25 h
       refine Run.region hL hT [] (by cbv) ?_ ?_
       · exact (hq Tt hq0)
       refine ⟨(ar .add .i64 (ar .or .i64 (ar .shr .u64 (ar .or .u64 (ar .add .i64 z19 z20) 0) 1) 0) 1), z20, h, Weak.of _ [(0, 0)] hA (by cbv) ?_⟩
       repeat (first | exact hq0 | refine hq (by first | exact Tt | rfl) ?_)
      ·
       have h := if_f c25 h
       refine Run.region hL hT [] (by cbv) hq0 ?_
       refine ⟨z19, (ar .or .i64 (ar .shr .u64 (ar .or .u64 (ar .add .i64 z19 z20) 0) 1) 0), h, Weak.of _ [(0, 0)] hA (by cbv) ?_⟩
       repeat (first | exact hq0 | refine hq (by first | exact Tt | rfl) ?_)
     ·
      have h := if_f c21 h
      refine Run.exit ?_
      refine ⟨z19, h, Weak.of _ [(0, 0)] hA (by cbv) ?_⟩
      repeat (first | exact hq0 | refine hq (by first | exact Tt | rfl) ?_)
   ·
    intro y4 h
    rw [h_K5] at h
    refine Run.seq ?_
    refine Run.seq ?_
    refine Run.region hL hT [] (by cbv) hq0 ?_
    refine Run.block ?_
    refine Run.loop2 (fun (z29 : List Row) (z30 : Int) => ⟨220, 100000, [(0, .rf 0), (10, .t (.s (.int .i64 y4))), (13, .t (.s (.int .i64 z30)))], [(0, .row 0 91 2 (qf z29))]⟩) (x0 := a0) (x1 := a1) h (Weak.of _ [(0, 0)] hA (by cbv) ?_) (fun _ _ => rfl) ?_
    · repeat (first | exact hq0 | refine hq (by first | exact Tt | rfl) ?_)
    ·
     intro k z29 z30 h
     rw [qA.l1] at h
     refine Run.seq ?_
     refine Run.seq ?_
     refine Run.region hL hT [] (by cbv) ?_ ?_
     · exact (hq Tt (hq Tt hq0))
     refine Run.cond (by cbv) (hq0) (fun c31 => ?_) (fun c31 => ?_)
     ·
      have h := if_t c31 h
      refine Run.skip ?_
      refine Run.seq ?_
      refine Run.block ?_
      obtain ⟨⟨qxU, qLO⟩, h_x32, h⟩ := bnd h
      obtain ⟨⟨qSP, qLI⟩, h_x33, h⟩ := bnd h
      obtain ⟨u34, h_u34, h⟩ := bnd h
      obtain ⟨l35, h_l35, h⟩ := bnd h
      refine Run.weak ?_ (Weak.take2 (rows := qf z29) (e2 := 3) (r1 := qB qLO) (r2 := qB qLI) hT 0 (ar .add .i64 z30 1) z30 1 107096 1107096 107097 1107097 (by cbv) (by cbv) (by cbv) (by cbv) (by cbv) (by cbv) (qcC h_x32) (qcD Row_o h_x32) ((congrArg (fun q => q[1]?) (qx (f := Row_o) h_x32)).trans rfl) rfl (qcC h_x33) (qcD Row_o h_x33) (ne_t h_u34) ((congrArg (fun q => q[1]?) (qx (f := Row_o) h_x33)).trans rfl) rfl (by cbv) (up (up (qf z29) (ar .add .i64 z30 1) 1 [.jk]) z30 1 [.jk]) rfl)
      refine Run.draw hL hT hM [(9, .lk [.s (.int .i64 qxU), .jk] [(1, 1107096)]), (13, .lk [.s (.int .i64 qSP), .jk] [(1, 1107097)])] (by cbv) (by cbv) (by cbv) (by cbv) (by cbv) ?_ ?_
      · exact (hq Tt (hq Tt (hq (qM h_x32) (hq (sw_lt Row_o h_x32) (hq Tt (hq (qM h_x32) (hq (sw_lt Row_o h_x32) (hq (qFQ Row_o h_x32 h_x33 (ne_t h_u34)) (hq (qM h_x33) (hq (sw_lt Row_o h_x33) (hq Tt (hq (qM h_x33) (hq (sw_lt Row_o h_x33) (hq (qGQ Row_o h_x32 h_x33 (ne_t h_u34)) (hq (qM h_x33) (hq (sw_lt Row_o h_x33) (hq (qM h_x33) (hq (sw_lt Row_o h_x33) (hq (qM h_x32) (hq (qHK Row_o h_x32) (hq (qM h_x32) (hq (qHK Row_o h_x32) hq0))))))))))))))))))))))
      refine Run.row (rows := (up (up (up (up (qf z29) (ar .add .i64 z30 1) 1 [.jk]) z30 1 [.jk]) z30 0 [.s (.int .i64 qxU), .ow 3 (qB qLO)]) (ar .add .i64 z30 1) 0 [.s (.int .i64 qSP), .ow 3 (qB qLI)])) 0 (qf l35) (by cbv) (qcO (f := Row_o) qjI h_x32 h_x33 (ne_t h_u34) (by decide) (.inr ⟨rfl, rfl⟩) h_l35 rfl rfl) ?_
      refine Run.region hL hT [] (by cbv) ?_ ?_
      · exact (hq Tt hq0)
      refine ⟨l35, (ar .add .i64 z30 1), h, Weak.of _ [(0, 0)] hA (by cbv) ?_⟩
      repeat (first | exact hq0 | refine hq (by first | exact Tt | rfl) ?_)
     ·
      have h := if_f c31 h
      refine Run.exit ?_
      refine Run.ret ?_
      cases h
      refine ⟨_, _, by cbv, ?_, ?_⟩
      · exact LLe.r
      · exact ALe.nil
  ·
   have h := if_f c3 h
   refine Run.skip ?_
   refine ⟨(), h, Weak.of _ [(0, 0)] hA (by cbv) ?_⟩
   repeat (first | exact hq0 | refine hq (by first | exact Tt | rfl) ?_)
 ·
  intro y1 h
  rw [h_K2] at h
  obtain ⟨K37, h_K37, h⟩ := joinE h
  refine Run.join1 K37 (r := r) (fun (y36 : Unit) => ⟨220, 100000, [(0, .rf 0), (1, .t (.s (.int .i64 a1))), (2, .t (.s (.int .i64 a2))), (3, .t (.s (.int .i64 a3))), (4, .fn 98 [.t (.ip [.s (.int .i64 qFB), .im false (qJ qGB), .s (.int .i64 qHB), .s (.bool qRB), .s (.int .i64 qIB), .im false (qB qSB), .s (.bool qTB), .s (.int .i64 qp), .s (.int .i64 qCB)])])], [(0, .row 0 91 2 (qf a0))]⟩) ?_ ?_
  ·
   skip
   refine Run.seq ?_
   refine Run.region hL hT [] (by cbv) ?_ ?_
   · exact (hq Tt (hq Tt hq0))
   refine Run.cond (by cbv) (hq0) (fun c38 => ?_) (fun c38 => ?_)
   ·
    have h := if_t c38 h
    refine Run.seq ?_
    refine Run.region hL hT [] (by cbv) hq0 ?_
    refine Run.seq ?_
    refine Run.region hL hT [] (by cbv) hq0 ?_
    obtain ⟨K40, h_K40, h⟩ := joinE h
    refine Run.join1 K40 (r := r) (fun (y39 : Int) => ⟨220, 100000, [(0, .rf 0), (2, .t (.s (.int .i64 a2))), (14, .t (.s (.int .i64 y39)))], [(0, .row 0 91 2 (qf a0))]⟩) ?_ ?_
    ·
     skip
     refine Run.block ?_
     refine Run.loop2 (fun (z54 : Int) (z55 : Int) => ⟨220, 100000, [(0, .rf 0), (2, .t (.s (.int .i64 a2))), (4, .fn 98 [.t (.ip [.s (.int .i64 qFB), .im false (qJ qGB), .s (.int .i64 qHB), .s (.bool qRB), .s (.int .i64 qIB), .im false (qB qSB), .s (.bool qTB), .s (.int .i64 qp), .s (.int .i64 qCB)])]), (14, .t (.s (.int .i64 z54))), (15, .t (.s (.int .i64 z55)))], [(0, .row 0 91 2 (qf a0))]⟩) (x0 := a1) (x1 := a2) h (Weak.of _ [(0, 0)] hA (by cbv) ?_) (fun _ _ => rfl) ?_
     · repeat (first | exact hq0 | refine hq (by first | exact Tt | rfl) ?_)
     ·
      intro k z54 z55 h
      rw [qA.l2] at h
      refine Run.seq ?_
      refine Run.seq ?_
      refine Run.region hL hT [] (by cbv) ?_ ?_
      · exact (hq Tt hq0)
      refine Run.cond (by cbv) (hq0) (fun c56 => ?_) (fun c56 => ?_)
      ·
       have h := if_t c56 h
       refine Run.skip ?_
       refine Run.block ?_
       refine Run.seq ?_
       refine Run.region hL hT [] (by cbv) ?_ ?_
       · exact (hq Tt (hq Tt (hq Tt (hq (by decide : (0 : Int) ≤ 1) (hq (by decide : (1 : Int) < 64) hq0)))))
       refine Run.seq ?_
       obtain ⟨⟨qzW, qVT⟩, h_x57, h⟩ := bnd h
       obtain ⟨⟨qAX, qWT⟩, h_x58, h⟩ := bnd h
       obtain ⟨r59, h_r59, h⟩ := bnd h
       refine Run.draw hL hT hM [(4, .el [.s (.int .i64 qzW), .ow 3 (qB qVT)]), (8, .el [.s (.int .i64 qAX), .ow 3 (qB qWT)]), (9, .call [false, false] [.ag [.jk, .jk], .ag [.jk, .jk], .v (.jk)] [.v (.s (.int .i64 r59))])] (by cbv) (by cbv) (by cbv) (by cbv) (by cbv) ?_ ?_
       · exact (hq (qM h_x57) (hq (qb (f := Row_o) h_x57) (hq (qM h_x57) (hq (qb (f := Row_o) h_x57) (hq (qx (f := Row_o) h_x57) (hq (qM h_x58) (hq (qb (f := Row_o) h_x58) (hq (qM h_x58) (hq (qb (f := Row_o) h_x58) (hq (qx (f := Row_o) h_x58) (hq (hC (AC.args (qJE h_r59) (ALe.ag rfl (LLe.c (LLe.cons (LLe.im (RLe.eq (qmB qBD _))) LLe.nil)) (ALe.ag rfl (LLe.c (LLe.cons (LLe.im (RLe.eq (qmB qBD _))) LLe.nil)) (ALe.v LLe.r ALe.nil))))) (hq Tt hq0))))))))))))
       refine Run.cond (by cbv) (hq0) (fun c60 => ?_) (fun c60 => ?_)
       ·
        have h := if_t c60 h
        refine Run.region hL hT [] (by cbv) ?_ ?_
        · exact (hq Tt hq0)
        refine ⟨(ar .add .i64 (ar .or .i64 (ar .shr .u64 (ar .or .u64 (ar .add .i64 z54 z55) 0) 1) 0) 1), z55, h, Weak.of _ [(0, 0)] hA (by cbv) ?_⟩
        repeat (first | exact hq0 | refine hq (by first | exact Tt | rfl) ?_)
       ·
        have h := if_f c60 h
        refine Run.region hL hT [] (by cbv) hq0 ?_
        refine ⟨z54, (ar .or .i64 (ar .shr .u64 (ar .or .u64 (ar .add .i64 z54 z55) 0) 1) 0), h, Weak.of _ [(0, 0)] hA (by cbv) ?_⟩
        repeat (first | exact hq0 | refine hq (by first | exact Tt | rfl) ?_)
      ·
       have h := if_f c56 h
       refine Run.exit ?_
       refine ⟨z54, h, Weak.of _ [(0, 0)] hA (by cbv) ?_⟩
       repeat (first | exact hq0 | refine hq (by first | exact Tt | rfl) ?_)
    ·
     intro y39 h
     rw [h_K40] at h
     refine Run.seq ?_
     refine Run.seq ?_
     refine Run.region hL hT [] (by cbv) hq0 ?_
     refine Run.block ?_
     refine Run.loop2 (fun (z64 : List Row) (z65 : Int) => ⟨220, 100000, [(0, .rf 0), (14, .t (.s (.int .i64 y39))), (17, .t (.s (.int .i64 z65)))], [(0, .row 0 91 2 (qf z64))]⟩) (x0 := a0) (x1 := a2) h (Weak.of _ [(0, 0)] hA (by cbv) ?_) (fun _ _ => rfl) ?_
     · repeat (first | exact hq0 | refine hq (by first | exact Tt | rfl) ?_)
     ·
      intro k z64 z65 h
      rw [qA.l3] at h
      refine Run.seq ?_
      refine Run.seq ?_
      refine Run.region hL hT [] (by cbv) ?_ ?_
      · exact (hq Tt hq0)
      refine Run.cond (by cbv) (hq0) (fun c66 => ?_) (fun c66 => ?_)
      ·
       have h := if_t c66 h
       refine Run.skip ?_
       refine Run.seq ?_
       refine Run.block ?_
       obtain ⟨⟨qyU, qMO⟩, h_x67, h⟩ := bnd h
       obtain ⟨⟨qzU, qNO⟩, h_x68, h⟩ := bnd h
       obtain ⟨u69, h_u69, h⟩ := bnd h
       obtain ⟨l70, h_l70, h⟩ := bnd h
       refine Run.weak ?_ (Weak.take2 (rows := qf z64) (e2 := 3) (r1 := qB qMO) (r2 := qB qNO) hT 0 (ar .sub .i64 z65 1) z65 1 107096 1107096 107097 1107097 (by cbv) (by cbv) (by cbv) (by cbv) (by cbv) (by cbv) (qcC h_x67) (qcD Row_o h_x67) ((congrArg (fun q => q[1]?) (qx (f := Row_o) h_x67)).trans rfl) rfl (qcC h_x68) (qcD Row_o h_x68) (ne_t h_u69) ((congrArg (fun q => q[1]?) (qx (f := Row_o) h_x68)).trans rfl) rfl (by cbv) (up (up (qf z64) (ar .sub .i64 z65 1) 1 [.jk]) z65 1 [.jk]) rfl)
       refine Run.draw hL hT hM [(9, .lk [.s (.int .i64 qyU), .jk] [(1, 1107096)]), (13, .lk [.s (.int .i64 qzU), .jk] [(1, 1107097)])] (by cbv) (by cbv) (by cbv) (by cbv) (by cbv) ?_ ?_
       · exact (hq Tt (hq Tt (hq (qM h_x67) (hq (sw_lt Row_o h_x67) (hq Tt (hq (qM h_x67) (hq (sw_lt Row_o h_x67) (hq (qFQ Row_o h_x67 h_x68 (ne_t h_u69)) (hq (qM h_x68) (hq (sw_lt Row_o h_x68) (hq Tt (hq (qM h_x68) (hq (sw_lt Row_o h_x68) (hq (qGQ Row_o h_x67 h_x68 (ne_t h_u69)) (hq (qM h_x68) (hq (sw_lt Row_o h_x68) (hq (qM h_x68) (hq (sw_lt Row_o h_x68) (hq (qM h_x67) (hq (qHK Row_o h_x67) (hq (qM h_x67) (hq (qHK Row_o h_x67) hq0))))))))))))))))))))))
       refine Run.row (rows := (up (up (up (up (qf z64) (ar .sub .i64 z65 1) 1 [.jk]) z65 1 [.jk]) z65 0 [.s (.int .i64 qyU), .ow 3 (qB qMO)]) (ar .sub .i64 z65 1) 0 [.s (.int .i64 qzU), .ow 3 (qB qNO)])) 0 (qf l70) (by cbv) (qcO (f := Row_o) qjI h_x67 h_x68 (ne_t h_u69) (by decide) (.inr ⟨rfl, rfl⟩) h_l70 rfl rfl) ?_
       refine Run.region hL hT [] (by cbv) ?_ ?_
       · exact (hq Tt hq0)
       refine ⟨l70, (ar .sub .i64 z65 1), h, Weak.of _ [(0, 0)] hA (by cbv) ?_⟩
       repeat (first | exact hq0 | refine hq (by first | exact Tt | rfl) ?_)
      ·
       have h := if_f c66 h
       refine Run.exit ?_
       refine Run.ret ?_
       cases h
       refine ⟨_, _, by cbv, ?_, ?_⟩
       · exact LLe.r
       · exact ALe.nil
   ·
    have h := if_f c38 h
    refine Run.skip ?_
    refine ⟨(), h, Weak.of _ [(0, 0)] hA (by cbv) ?_⟩
    repeat (first | exact hq0 | refine hq (by first | exact Tt | rfl) ?_)
  ·
   intro y36 h
   rw [h_K37] at h
   refine Run.seq ?_
   refine Run.region hL hT [] (by cbv) ?_ ?_
   · exact (hq Tt (hq Tt (hq Tt (hq (by decide : (0 : Int) ≤ 1) (hq (by decide : (1 : Int) < 64) hq0)))))
   refine Run.seq ?_
   refine Run.region hL hT [] (by cbv) ?_ ?_
   · exact (hq Tt hq0)
   refine Run.seq ?_
   refine Run.region hL hT [] (by cbv) hq0 ?_
   obtain ⟨K75, h_K75, h⟩ := joinE h
   refine Run.join4 K75 (r := r) (fun (y71 : Int) (y72 : Int) (y73 : Int) (y74 : Int) => ⟨220, 100000, [(0, .rf 0), (1, .t (.s (.int .i64 a1))), (2, .t (.s (.int .i64 a2))), (3, .t (.s (.int .i64 a3))), (4, .fn 98 [.t (.ip [.s (.int .i64 qFB), .im false (qJ qGB), .s (.int .i64 qHB), .s (.bool qRB), .s (.int .i64 qIB), .im false (qB qSB), .s (.bool qTB), .s (.int .i64 qp), .s (.int .i64 qCB)])]), (18, .t (.s (.int .i64 y71))), (19, .t (.s (.int .i64 y72))), (20, .t (.s (.int .i64 y73))), (21, .t (.s (.int .i64 y74)))], [(0, .row 0 91 2 (qf a0))]⟩) ?_ ?_
   ·
    skip
    refine Run.seq ?_
    refine Run.region hL hT [] (by cbv) ?_ ?_
    · exact (hq Tt hq0)
    refine Run.cond (by cbv) (hq0) (fun c76 => ?_) (fun c76 => ?_)
    ·
     have h := if_t c76 h
     refine Run.seq ?_
     refine Run.region hL hT [] (by cbv) ?_ ?_
     · exact (hq Tt hq0)
     refine Run.region hL hT [] (by cbv) hq0 ?_
     refine ⟨(ar .or .i64 (ar .shr .u64 (ar .or .u64 (ar .add .i64 a1 a3) 0) 1) 0), (ar .add .i64 (ar .or .i64 (ar .shr .u64 (ar .or .u64 (ar .add .i64 a1 a3) 0) 1) 0) a2), (ar .sub .i64 (ar .add .i64 (ar .or .i64 (ar .shr .u64 (ar .or .u64 (ar .add .i64 a1 a3) 0) 1) 0) a2) a3), (ar .or .i64 (ar .shr .u64 (ar .or .u64 (ar .add .i64 a1 a3) 0) 1) 0), h, Weak.of _ [(0, 0)] hA (by cbv) ?_⟩
     repeat (first | exact hq0 | refine hq (by first | exact Tt | rfl) ?_)
    ·
     have h := if_f c76 h
     refine Run.seq ?_
     refine Run.region hL hT [] (by cbv) hq0 ?_
     refine Run.region hL hT [] (by cbv) hq0 ?_
     refine ⟨(ar .or .i64 (ar .shr .u64 (ar .or .u64 (ar .add .i64 a1 a3) 0) 1) 0), (ar .add .i64 (ar .or .i64 (ar .shr .u64 (ar .or .u64 (ar .add .i64 a1 a3) 0) 1) 0) a2), a1, a2, h, Weak.of _ [(0, 0)] hA (by cbv) ?_⟩
     repeat (first | exact hq0 | refine hq (by first | exact Tt | rfl) ?_)
   ·
    intro y71 y72 y73 y74 h
    rw [h_K75] at h
    refine Run.seq ?_
    refine Run.region hL hT [] (by cbv) ?_ ?_
    · exact (hq Tt hq0)
    obtain ⟨K78, h_K78, h⟩ := joinE h
    refine Run.join1 K78 (r := r) (fun (y77 : Int) => ⟨220, 100000, [(0, .rf 0), (1, .t (.s (.int .i64 a1))), (2, .t (.s (.int .i64 a2))), (3, .t (.s (.int .i64 a3))), (4, .fn 98 [.t (.ip [.s (.int .i64 qFB), .im false (qJ qGB), .s (.int .i64 qHB), .s (.bool qRB), .s (.int .i64 qIB), .im false (qB qSB), .s (.bool qTB), .s (.int .i64 qp), .s (.int .i64 qCB)])]), (18, .t (.s (.int .i64 y71))), (19, .t (.s (.int .i64 y72))), (20, .t (.s (.int .i64 y77)))], [(0, .row 0 91 2 (qf a0))]⟩) ?_ ?_
    ·
     skip
     refine Run.block ?_
     refine Run.loop3 (fun (z97 : Int) (z98 : Int) (z99 : Int) => ⟨220, 100000, [(0, .rf 0), (1, .t (.s (.int .i64 a1))), (2, .t (.s (.int .i64 a2))), (3, .t (.s (.int .i64 a3))), (4, .fn 98 [.t (.ip [.s (.int .i64 qFB), .im false (qJ qGB), .s (.int .i64 qHB), .s (.bool qRB), .s (.int .i64 qIB), .im false (qB qSB), .s (.bool qTB), .s (.int .i64 qp), .s (.int .i64 qCB)])]), (18, .t (.s (.int .i64 y71))), (19, .t (.s (.int .i64 y72))), (20, .t (.s (.int .i64 z97))), (21, .t (.s (.int .i64 z98))), (22, .t (.s (.int .i64 z99)))], [(0, .row 0 91 2 (qf a0))]⟩) (x0 := y73) (x1 := y74) (x2 := (ar .sub .i64 y72 1)) h (Weak.of _ [(0, 0)] hA (by cbv) ?_) (fun _ _ _ => rfl) ?_
     · repeat (first | exact hq0 | refine hq (by first | exact Tt | rfl) ?_)
     ·
      intro k z97 z98 z99 h
      rw [qA.l4] at h
      refine Run.seq ?_
      refine Run.seq ?_
      refine Run.region hL hT [] (by cbv) ?_ ?_
      · exact (hq Tt hq0)
      refine Run.cond (by cbv) (hq0) (fun c100 => ?_) (fun c100 => ?_)
      ·
       have h := if_t c100 h
       refine Run.skip ?_
       refine Run.block ?_
       refine Run.seq ?_
       refine Run.region hL hT [] (by cbv) ?_ ?_
       · exact (hq Tt (hq Tt (hq Tt (hq (by decide : (0 : Int) ≤ 1) (hq (by decide : (1 : Int) < 64) hq0)))))
       refine Run.seq ?_
       obtain ⟨⟨qqV, qgR⟩, qlQ, h⟩ := bnd h
       obtain ⟨⟨qrV, qhR⟩, qmQ, h⟩ := bnd h
       obtain ⟨r103, qlX, h⟩ := bnd h
       refine Run.draw hL hT hM [(6, .el [.s (.int .i64 qqV), .ow 3 (qB qgR)]), (10, .el [.s (.int .i64 qrV), .ow 3 (qB qhR)]), (11, .call [false, false] [.ag [.jk, .jk], .ag [.jk, .jk], .v (.jk)] [.v (.s (.int .i64 r103))])] (by cbv) (by cbv) (by cbv) (by cbv) (by cbv) ?_ ?_
       · exact (hq Tt (hq (qM qlQ) (hq (qb (f := Row_o) qlQ) (hq (qM qlQ) (hq (qb (f := Row_o) qlQ) (hq (qx (f := Row_o) qlQ) (hq (qM qmQ) (hq (qb (f := Row_o) qmQ) (hq (qM qmQ) (hq (qb (f := Row_o) qmQ) (hq (qx (f := Row_o) qmQ) (hq (hC (AC.args (qJE qlX) (ALe.ag rfl (LLe.c (LLe.cons (LLe.im (RLe.eq (qmB qBD _))) LLe.nil)) (ALe.ag rfl (LLe.c (LLe.cons (LLe.im (RLe.eq (qmB qBD _))) LLe.nil)) (ALe.v LLe.r ALe.nil))))) (hq Tt hq0)))))))))))))
       refine Run.cond (by cbv) (hq0) (fun c104 => ?_) (fun c104 => ?_)
       ·
        have h := if_t c104 h
        refine Run.region hL hT [] (by cbv) ?_ ?_
        · exact (hq Tt hq0)
        refine ⟨(ar .add .i64 (ar .or .i64 (ar .shr .u64 (ar .or .u64 (ar .add .i64 z97 z98) 0) 1) 0) 1), z98, z99, h, Weak.of _ [(0, 0)] hA (by cbv) ?_⟩
        repeat (first | exact hq0 | refine hq (by first | exact Tt | rfl) ?_)
       ·
        have h := if_f c104 h
        refine Run.region hL hT [] (by cbv) hq0 ?_
        refine ⟨z97, (ar .or .i64 (ar .shr .u64 (ar .or .u64 (ar .add .i64 z97 z98) 0) 1) 0), z99, h, Weak.of _ [(0, 0)] hA (by cbv) ?_⟩
        repeat (first | exact hq0 | refine hq (by first | exact Tt | rfl) ?_)
      ·
       have h := if_f c100 h
       refine Run.exit ?_
       refine ⟨z97, h, Weak.of _ [(0, 0)] hA (by cbv) ?_⟩
       repeat (first | exact hq0 | refine hq (by first | exact Tt | rfl) ?_)
    ·
     intro y77 h
     rw [h_K78] at h
     refine Run.seq ?_
     refine Run.region hL hT [] (by cbv) ?_ ?_
     · exact (hq Tt hq0)
     obtain ⟨K107, h_K107, h⟩ := joinE h
     refine Run.join2 K107 (r := r) (fun (y105 : List Row) (y106 : Int) => ⟨220, 100000, [(0, .rf 0), (1, .t (.s (.int .i64 a1))), (3, .t (.s (.int .i64 a3))), (4, .fn 98 [.t (.ip [.s (.int .i64 qFB), .im false (qJ qGB), .s (.int .i64 qHB), .s (.bool qRB), .s (.int .i64 qIB), .im false (qB qSB), .s (.bool qTB), .s (.int .i64 qp), .s (.int .i64 qCB)])]), (18, .t (.s (.int .i64 y71))), (20, .t (.s (.int .i64 y77))), (24, .t (.s (.int .i64 y106)))], [(0, .row 0 91 2 (qf y105))]⟩) ?_ ?_
     ·
      skip
      refine Run.seq ?_
      refine Run.region hL hT [] (by cbv) ?_ ?_
      · exact (hq Tt (hq (fun _ => hq0) (hq (fun _ => hq0) (hq (fun g110 => (hq g110 (hq g110 (hq Tt hq0)))) (hq (fun q111 => (hq q111 hq0)) (hq (fun _ => hq0) hq0))))))
      refine Run.cond (by cbv) (hq0) (fun c113 => ?_) (fun c113 => ?_)
      ·
       have h := if_t c113 h
       obtain ⟨r114, qmX, h⟩ := bnd h
       refine Run.region hL hT [(5, .call [true, false, false, false, false] [.v (.ow 91 (qf r114)), .v (.jk), .v (.jk), .v (.jk), .v (.jk)] [])] (by cbv) ?_ ?_
       · exact (hq (hC (qOD qmX)) hq0)
       refine ⟨r114, (ar .sub .i64 y72 y77), h, Weak.of _ [(0, 0)] hA (by cbv) ?_⟩
       repeat (first | exact hq0 | refine hq (by first | exact Tt | rfl) ?_)
      ·
       have h := if_f c113 h
       refine Run.skip ?_
       refine ⟨a0, (ar .sub .i64 y72 y77), h, Weak.of _ [(0, 0)] hA (by cbv) ?_⟩
       repeat (first | exact hq0 | refine hq (by first | exact Tt | rfl) ?_)
     ·
      intro y105 y106 h
      rw [h_K107] at h
      obtain ⟨K116, h_K116, h⟩ := joinE h
      refine Run.join1 K116 (r := r) (fun (y115 : List Row) => ⟨220, 100000, [(0, .rf 0), (3, .t (.s (.int .i64 a3))), (4, .fn 98 [.t (.ip [.s (.int .i64 qFB), .im false (qJ qGB), .s (.int .i64 qHB), .s (.bool qRB), .s (.int .i64 qIB), .im false (qB qSB), .s (.bool qTB), .s (.int .i64 qp), .s (.int .i64 qCB)])]), (18, .t (.s (.int .i64 y71))), (24, .t (.s (.int .i64 y106)))], [(0, .row 0 91 2 (qf y115))]⟩) ?_ ?_
      ·
       skip
       refine Run.seq ?_
       refine Run.region hL hT [] (by cbv) ?_ ?_
       · exact (hq Tt (hq (fun _ => hq0) (hq (fun _ => hq0) (hq (fun g119 => (hq g119 (hq g119 (hq Tt hq0)))) (hq (fun q120 => (hq q120 hq0)) (hq (fun _ => hq0) hq0))))))
       refine Run.cond (by cbv) (hq0) (fun c122 => ?_) (fun c122 => ?_)
       ·
        have h := if_t c122 h
        obtain ⟨r123, qnX, h⟩ := bnd h
        refine Run.region hL hT [(5, .call [true, false, false, false, false] [.v (.ow 91 (qf r123)), .v (.jk), .v (.jk), .v (.jk), .v (.jk)] [])] (by cbv) ?_ ?_
        · exact (hq (hC (hself qnX)) hq0)
        refine ⟨r123, h, Weak.of _ [(0, 0)] hA (by cbv) ?_⟩
        repeat (first | exact hq0 | refine hq (by first | exact Tt | rfl) ?_)
       ·
        have h := if_f c122 h
        refine Run.skip ?_
        refine ⟨y105, h, Weak.of _ [(0, 0)] hA (by cbv) ?_⟩
        repeat (first | exact hq0 | refine hq (by first | exact Tt | rfl) ?_)
      ·
       intro y115 h
       rw [h_K116] at h
       refine Run.seq ?_
       refine Run.region hL hT [] (by cbv) ?_ ?_
       · exact (hq Tt (hq (fun _ => hq0) (hq (fun _ => hq0) (hq (fun g126 => (hq g126 (hq g126 (hq Tt hq0)))) (hq (fun q127 => (hq q127 hq0)) (hq (fun _ => hq0) hq0))))))
       refine Run.cond (by cbv) (hq0) (fun c129 => ?_) (fun c129 => ?_)
       ·
        have h := if_t c129 h
        obtain ⟨r130, qoX, h⟩ := bnd h
        refine Run.region hL hT [(5, .call [true, false, false, false, false] [.v (.ow 91 (qf r130)), .v (.jk), .v (.jk), .v (.jk), .v (.jk)] [])] (by cbv) ?_ ?_
        · exact (hq (hC (hself qoX)) hq0)
        cases h
        refine ⟨_, _, by cbv, ?_, ?_⟩
        · exact LLe.r
        · exact ALe.nil
       ·
        have h := if_f c129 h
        refine Run.skip ?_
        cases h
        refine ⟨_, _, by cbv, ?_, ?_⟩
        · exact LLe.r
        · exact ALe.nil
theorem qAC : ∀ (k : Nat) {a0 : List Row} {a1 : Int} {a2 : Int} {a3 : Int} {qFB : Int} {qGB : List Cond} {qHB : Int} {qRB : Bool} {qIB : Int} {qSB : List Int} {qTB : Bool} {qp : Int} {qCB : Int} {r : (List Row)} (h : qA.g k a0 a1 a2 a3 (Query.mk qFB qGB qHB qRB qIB qSB qTB qp qCB) = some r), AC Tryz.prog 126 [.v (.ow 91 (rowsOf Row_o a0)), .v (.s (.int .i64 a1)), .v (.s (.int .i64 a2)), .v (.s (.int .i64 a3)), .v (.fn 98 [.ip [.s (.int .i64 qFB), .im false (rowsOf Cond_c qGB), .s (.int .i64 qHB), .s (.bool qRB), .s (.int .i64 qIB), .im false (rowsOf Int_c qSB), .s (.bool qTB), .s (.int .i64 qp), .s (.int .i64 qCB)]])] [.v (.ow 91 (rowsOf Row_o r)), .v (.jk), .v (.jk), .v (.jk), .v (.jk)] []
 | 0 => fun h => by cases h
 | k + 1 => fun h => qDD (qA.g k) (qAC k) h
theorem qDC {a0 : List Row} {a1 : Int} {a2 : Int} {a3 : Int} {qFB : Int} {qGB : List Cond} {qHB : Int} {qRB : Bool} {qIB : Int} {qSB : List Int} {qTB : Bool} {qp : Int} {qCB : Int} {r : (List Row)} (h : qA.f a0 a1 a2 a3 (Query.mk qFB qGB qHB qRB qIB qSB qTB qp qCB) = some r) : AC Tryz.prog 126 [.v (.ow 91 (rowsOf Row_o a0)), .v (.s (.int .i64 a1)), .v (.s (.int .i64 a2)), .v (.s (.int .i64 a3)), .v (.fn 98 [.ip [.s (.int .i64 qFB), .im false (rowsOf Cond_c qGB), .s (.int .i64 qHB), .s (.bool qRB), .s (.int .i64 qIB), .im false (rowsOf Int_c qSB), .s (.bool qTB), .s (.int .i64 qp), .s (.int .i64 qCB)]])] [.v (.ow 91 (rowsOf Row_o r)), .v (.jk), .v (.jk), .v (.jk), .v (.jk)] [] := qAC 1000 h
theorem qPD {a0 : List Row} {a1 : Int} {qxD : Int} {qyD : List Cond} {qzD : Int} {qhE : Bool} {qAE : Int} {qiE : List Int} {qjE : Bool} {quC : Int} {qbD : Int} {r : (List Row)} (h : qC.f a0 a1 (Query.mk qxD qyD qzD qhE qAE qiE qjE quC qbD) = some r) : AC Tryz.prog 118 [.v (.ow 91 (rowsOf Row_o a0)), .v (.s (.int .i64 a1)), .v (.fn 98 [.ip [.s (.int .i64 qxD), .im false (rowsOf Cond_c qyD), .s (.int .i64 qzD), .s (.bool qhE), .s (.int .i64 qAE), .im false (rowsOf Int_c qiE), .s (.bool qjE), .s (.int .i64 quC), .s (.int .i64 qbD)]])] [.v (.ow 91 (rowsOf Row_o r)), .v (.jk), .v (.jk)] [] := by
 unfold qC.f at h
 let qJ := rowsOf Cond_c
 let qB := rowsOf Int_c
 let qf := rowsOf Row_o
 show AC Tryz.prog 118 [.v (.ow 91 (qf a0)), .v (.s (.int .i64 a1)), .v (.fn 98 [.ip [.s (.int .i64 qxD), .im false (qJ qyD), .s (.int .i64 qzD), .s (.bool qhE), .s (.int .i64 qAE), .im false (qB qiE), .s (.bool qjE), .s (.int .i64 quC), .s (.int .i64 qbD)]])] _ _
 refine run3 Tryz.func118 (by rfl) (by rfl) (by cbv) ⟨by decide, rfl⟩ ?_
 intro ar cm bo sc sa sx ss sl bs sb ln sr ap up rp fr ge le lt nz mm ma sm fl al ci hL F hP hA hT hM hC
 refine Run.weak ?_ (Weak.fnT 2 (by cbv))
 refine Run.seq ?_
 refine Run.region hL hT [] (by cbv) hq0 ?_
 refine Run.seq ?_
 refine Run.region hL hT [] (by cbv) hq0 ?_
 obtain ⟨K3, h_K3, h⟩ := joinE h
 refine Run.join2 K3 (r := r) (fun (y1 : List Row) (y2 : Int) => ⟨63, 100000, [(0, .rf 0), (1, .t (.s (.int .i64 a1))), (2, .fn 98 [.t (.ip [.s (.int .i64 qxD), .im false (qJ qyD), .s (.int .i64 qzD), .s (.bool qhE), .s (.int .i64 qAE), .im false (qB qiE), .s (.bool qjE), .s (.int .i64 quC), .s (.int .i64 qbD)])]), (6, .t (.s (.int .i64 20))), (7, .t (.s (.int .i64 y2)))], [(0, .row 0 91 2 (qf y1))]⟩) ?_ ?_
 ·
  skip
  refine Run.block ?_
  refine Run.loop3 (fun (z18 : List Row) (z19 : Int) (z20 : Int) => ⟨63, 100000, [(0, .rf 0), (1, .t (.s (.int .i64 a1))), (2, .fn 98 [.t (.ip [.s (.int .i64 qxD), .im false (qJ qyD), .s (.int .i64 qzD), .s (.bool qhE), .s (.int .i64 qAE), .im false (qB qiE), .s (.bool qjE), .s (.int .i64 quC), .s (.int .i64 qbD)])]), (6, .t (.s (.int .i64 20))), (7, .t (.s (.int .i64 z19))), (8, .t (.s (.int .i64 z20)))], [(0, .row 0 91 2 (qf z18))]⟩) (x0 := a0) (x1 := 0) (x2 := 20) h (Weak.of _ [(0, 0)] hA (by cbv) ?_) (fun _ _ _ => rfl) ?_
  · repeat (first | exact hq0 | refine hq (by first | exact Tt | rfl) ?_)
  ·
   intro k z18 z19 z20 h
   rw [qC.l0] at h
   refine Run.seq ?_
   refine Run.seq ?_
   refine Run.region hL hT [] (by cbv) ?_ ?_
   · exact (hq Tt hq0)
   refine Run.cond (by cbv) (hq0) (fun c21 => ?_) (fun c21 => ?_)
   ·
    have h := if_t c21 h
    refine Run.skip ?_
    refine Run.block ?_
    refine Run.seq ?_
    obtain ⟨r22, h_r22, h⟩ := bnd h
    refine Run.region hL hT [(4, .call [true, false, false, false] [.v (.ow 91 (qf r22)), .v (.jk), .v (.jk), .v (.jk)] [])] (by cbv) ?_ ?_
    · exact (hq (hC (qtB h_r22)) hq0)
    refine Run.seq ?_
    refine Run.region hL hT [] (by cbv) hq0 ?_
    refine Run.region hL hT [] (by cbv) ?_ ?_
    · exact (hq Tt hq0)
    refine ⟨r22, z20, (ar .add .i64 z20 20), h, Weak.of _ [(0, 0)] hA (by cbv) ?_⟩
    repeat (first | exact hq0 | refine hq (by first | exact Tt | rfl) ?_)
   ·
    have h := if_f c21 h
    refine Run.exit ?_
    refine ⟨z18, z19, h, Weak.of _ [(0, 0)] hA (by cbv) ?_⟩
    repeat (first | exact hq0 | refine hq (by first | exact Tt | rfl) ?_)
 ·
  intro y1 y2 h
  rw [h_K3] at h
  refine Run.seq ?_
  obtain ⟨r23, h_r23, h⟩ := bnd h
  refine Run.region hL hT [(4, .call [true, false, false, false] [.v (.ow 91 (qf r23)), .v (.jk), .v (.jk), .v (.jk)] [])] (by cbv) ?_ ?_
  · exact (hq (hC (qtB h_r23)) hq0)
  refine Run.block ?_
  refine Run.loop2 (fun (z36 : List Row) (z37 : Int) => ⟨63, 100000, [(0, .rf 0), (1, .t (.s (.int .i64 a1))), (2, .fn 98 [.t (.ip [.s (.int .i64 qxD), .im false (qJ qyD), .s (.int .i64 qzD), .s (.bool qhE), .s (.int .i64 qAE), .im false (qB qiE), .s (.bool qjE), .s (.int .i64 quC), .s (.int .i64 qbD)])]), (6, .t (.s (.int .i64 z37)))], [(0, .row 0 91 2 (qf z36))]⟩) (x0 := r23) (x1 := 20) h (Weak.of _ [(0, 0)] hA (by cbv) ?_) (fun _ _ => rfl) ?_
  · repeat (first | exact hq0 | refine hq (by first | exact Tt | rfl) ?_)
  ·
   intro k z36 z37 h
   rw [qC.l1] at h
   refine Run.seq ?_
   refine Run.seq ?_
   refine Run.region hL hT [] (by cbv) ?_ ?_
   · exact (hq Tt hq0)
   refine Run.cond (by cbv) (hq0) (fun c38 => ?_) (fun c38 => ?_)
   ·
    have h := if_t c38 h
    refine Run.skip ?_
    refine Run.block ?_
    refine Run.seq ?_
    refine Run.region hL hT [] (by cbv) ?_ ?_
    · exact (hq Tt hq0)
    obtain ⟨K41, h_K41, h⟩ := joinE h
    refine Run.join2 K41 (r := r) (fun (y39 : List Row) (y40 : Int) => ⟨63, 100000, [(0, .rf 0), (1, .t (.s (.int .i64 a1))), (2, .fn 98 [.t (.ip [.s (.int .i64 qxD), .im false (qJ qyD), .s (.int .i64 qzD), .s (.bool qhE), .s (.int .i64 qAE), .im false (qB qiE), .s (.bool qjE), .s (.int .i64 quC), .s (.int .i64 qbD)])]), (6, .t (.s (.int .i64 z37))), (7, .t (.s (.int .i64 y40)))], [(0, .row 0 91 2 (qf y39))]⟩) ?_ ?_
    ·
     skip
     refine Run.block ?_
     refine Run.loop3 (fun (z56 : List Row) (z57 : Int) (z58 : Int) => ⟨63, 100000, [(0, .rf 0), (1, .t (.s (.int .i64 a1))), (2, .fn 98 [.t (.ip [.s (.int .i64 qxD), .im false (qJ qyD), .s (.int .i64 qzD), .s (.bool qhE), .s (.int .i64 qAE), .im false (qB qiE), .s (.bool qjE), .s (.int .i64 quC), .s (.int .i64 qbD)])]), (6, .t (.s (.int .i64 z37))), (7, .t (.s (.int .i64 z57))), (8, .t (.s (.int .i64 z58)))], [(0, .row 0 91 2 (qf z56))]⟩) (x0 := z36) (x1 := 0) (x2 := (ar .mul .i64 2 z37)) h (Weak.of _ [(0, 0)] hA (by cbv) ?_) (fun _ _ _ => rfl) ?_
     · repeat (first | exact hq0 | refine hq (by first | exact Tt | rfl) ?_)
     ·
      intro k z56 z57 z58 h
      rw [qC.l2] at h
      refine Run.seq ?_
      refine Run.seq ?_
      refine Run.region hL hT [] (by cbv) ?_ ?_
      · exact (hq Tt hq0)
      refine Run.cond (by cbv) (hq0) (fun c59 => ?_) (fun c59 => ?_)
      ·
       have h := if_t c59 h
       refine Run.skip ?_
       refine Run.block ?_
       refine Run.seq ?_
       obtain ⟨r60, h_r60, h⟩ := bnd h
       refine Run.region hL hT [(7, .call [true, false, false, false, false] [.v (.ow 91 (qf r60)), .v (.jk), .v (.jk), .v (.jk), .v (.jk)] [])] (by cbv) ?_ ?_
       · exact (hq Tt (hq (hC (qDC h_r60)) hq0))
       refine Run.seq ?_
       refine Run.region hL hT [] (by cbv) hq0 ?_
       refine Run.region hL hT [] (by cbv) ?_ ?_
       · exact (hq Tt (hq Tt hq0))
       refine ⟨r60, z58, (ar .add .i64 z58 (ar .mul .i64 2 z37)), h, Weak.of _ [(0, 0)] hA (by cbv) ?_⟩
       repeat (first | exact hq0 | refine hq (by first | exact Tt | rfl) ?_)
      ·
       have h := if_f c59 h
       refine Run.exit ?_
       refine ⟨z56, z57, h, Weak.of _ [(0, 0)] hA (by cbv) ?_⟩
       repeat (first | exact hq0 | refine hq (by first | exact Tt | rfl) ?_)
    ·
     intro y39 y40 h
     rw [h_K41] at h
     refine Run.seq ?_
     refine Run.seq ?_
     refine Run.region hL hT [] (by cbv) ?_ ?_
     · exact (hq Tt hq0)
     refine Run.seq ?_
     refine Run.region hL hT [] (by cbv) ?_ ?_
     · exact (hq Tt hq0)
     refine Run.cond (by cbv) (hq0) (fun c61 => ?_) (fun c61 => ?_)
     ·
      have h := if_t c61 h
      obtain ⟨r62, h_r62, h⟩ := bnd h
      refine Run.region hL hT [(5, .call [true, false, false, false, false] [.v (.ow 91 (qf r62)), .v (.jk), .v (.jk), .v (.jk), .v (.jk)] [])] (by cbv) ?_ ?_
      · exact (hq (hC (qDC h_r62)) hq0)
      refine Run.region hL hT [] (by cbv) ?_ ?_
      · exact (hq Tt hq0)
      refine ⟨r62, (ar .mul .i64 z37 2), h, Weak.of _ [(0, 0)] hA (by cbv) ?_⟩
      repeat (first | exact hq0 | refine hq (by first | exact Tt | rfl) ?_)
     ·
      have h := if_f c61 h
      refine Run.skip ?_
      refine Run.region hL hT [] (by cbv) ?_ ?_
      · exact (hq Tt hq0)
      refine ⟨y39, (ar .mul .i64 z37 2), h, Weak.of _ [(0, 0)] hA (by cbv) ?_⟩
      repeat (first | exact hq0 | refine hq (by first | exact Tt | rfl) ?_)
   ·
    have h := if_f c38 h
    refine Run.exit ?_
    cases h
    refine ⟨_, _, by cbv, ?_, ?_⟩
    · exact LLe.r
    · exact ALe.nil
theorem qHD {a0 : List Row} {qmI : Int} {qnI : List Cond} {qoI : Int} {qnJ : Bool} {qpI : Int} {qoJ : List Int} {qpJ : Bool} {qnG : Int} {qAI : Int} {r : (List Row)} (h : qAB.f a0 (Query.mk qmI qnI qoI qnJ qpI qoJ qpJ qnG qAI) = some r) : AC Tryz.prog 97 [.v (.ow 91 (rowsOf Row_o a0)), .v (.fn 98 [.ip [.s (.int .i64 qmI), .im false (rowsOf Cond_c qnI), .s (.int .i64 qoI), .s (.bool qnJ), .s (.int .i64 qpI), .im false (rowsOf Int_c qoJ), .s (.bool qpJ), .s (.int .i64 qnG), .s (.int .i64 qAI)]])] [.v (.ow 91 (rowsOf Row_o r)), .v (.jk)] [] := by
 unfold qAB.f at h
 let qJ := rowsOf Cond_c
 let qB := rowsOf Int_c
 let qf := rowsOf Row_o
 let qDB := @lenI Row
 show AC Tryz.prog 97 [.v (.ow 91 (qf a0)), .v (.fn 98 [.ip [.s (.int .i64 qmI), .im false (qJ qnI), .s (.int .i64 qoI), .s (.bool qnJ), .s (.int .i64 qpI), .im false (qB qoJ), .s (.bool qpJ), .s (.int .i64 qnG), .s (.int .i64 qAI)]])] _ _
 refine run3 Tryz.func97 (by rfl) (by rfl) (by cbv) ⟨by decide, rfl⟩ ?_
 intro ar cm bo sc sa sx ss sl bs sb ln sr ap up rp fr ge le lt nz mm ma sm fl al ci hL F hP hA hT hM hC
 refine Run.weak ?_ (Weak.fnT 1 (by cbv))
 obtain ⟨r1, h_r1, h⟩ := bnd h
 refine Run.region hL hT [(4, .call [true, false, false] [.v (.ow 91 (qf r1)), .v (.jk), .v (.jk)] [])] (by cbv) ?_ ?_
 · exact (hq (by rw [show ln (qf a0) = qDB a0 from ln_eq Row_o _]; exact (hC (qPD h_r1))) hq0)
 rw [show ln (qf a0) = qDB a0 from ln_eq Row_o _]
 cases h
 refine ⟨_, _, by cbv, ?_, ?_⟩
 · exact LLe.r
 · exact ALe.nil
theorem qdM {qF : List Int} {qV : Int} {qT : List (List Row)} {ql : Int} {qP : List Cond} {qm : Int} {qy : Bool} {qn : Int} {qq : List Int} {qz : Bool} {qN : Int} {qZ : Int} {r : (List Row)} (h : qYC.f (Store.mk (Schema.mk qF) qV qT) (Query.mk ql qP qm qy qn qq qz qN qZ) = some r) : AC Tryz.prog 56 [.ag [.im false (rowsOf Int_c qF), .s (.int .i64 qV), .im false (rowsOf RowS_i qT)], .ag [.s (.int .i64 ql), .im false (rowsOf Cond_c qP), .s (.int .i64 qm), .s (.bool qy), .s (.int .i64 qn), .im false (rowsOf Int_c qq), .s (.bool qz), .s (.int .i64 qN), .s (.int .i64 qZ)]] [.ag [.jk, .jk, .jk], .ag [.jk, .jk, .jk, .jk, .jk, .jk, .jk, .jk, .jk]] [.v (.ow 91 (rowsOf Row_o r))] := by
 unfold qYC.f at h
 let qJ := rowsOf Cond_c
 let qB := rowsOf Int_c
 let qUB := rowsOf RowS_i
 let qMB := rowsOf Row_i
 let qf := rowsOf Row_o
 let qDB := @lenI Row
 show AC Tryz.prog 56 [.ag [.im false (qB qF), .s (.int .i64 qV), .im false (qUB qT)], .ag [.s (.int .i64 ql), .im false (qJ qP), .s (.int .i64 qm), .s (.bool qy), .s (.int .i64 qn), .im false (qB qq), .s (.bool qz), .s (.int .i64 qN), .s (.int .i64 qZ)]] _ _
 refine run3 Tryz.func56 (by rfl) (by rfl) (by cbv) ⟨by decide, rfl⟩ ?_
 intro ar cm bo sc sa sx ss sl bs sb ln sr ap up rp fr ge le lt nz mm ma sm fl al ci hL F hP hA hT hM hC
 refine Run.seq ?_
 refine Run.region hL hT [] (by cbv) hq0 ?_
 refine Run.seq ?_
 refine Run.region hL hT [] (by cbv) hq0 ?_
 refine Run.seq ?_
 refine Run.seq ?_
 obtain ⟨r1, h_r1, h⟩ := bnd h
 obtain ⟨r2, h_r2, h⟩ := bnd h
 refine Run.region hL hT [(1, .call [false] [.ag [.jk, .jk, .jk]] [.v (.s (.bool r1))]), (7, .call [false, false] [.ag [.jk], .ag [.jk, .jk, .jk, .jk, .jk, .jk, .jk, .jk, .jk]] [.v (.s (.bool r2))])] (by cbv) ?_ ?_
 · exact (hq Tt (hq (hC (qJG h_r1)) (hq (fun _ => hq0) (hq (fun g4 => (hq g4 (hq Tt hq0))) (hq (fun g5 => (hq Tt hq0)) (hq (fun g6 => (hq g6 (hq g6 (hq (hC (qKG (gd_t h_r2 g6))) hq0)))) (hq (fun g7 => (hq g7 hq0)) (hq (fun _ => hq0) (hq (fun q9 => (hq (bo_m q9) hq0)) hq0)))))))))
 refine Run.cond (by cbv) (hq0) (fun c10 => ?_) (fun c10 => ?_)
 ·
  have h := if_t c10 h
  refine Run.seq ?_
  refine Run.region hL hT [] (by cbv) hq0 ?_
  refine Run.ret ?_
  cases h
  refine ⟨_, _, by cbv, ?_, ?_⟩
  · exact LLe.r
  · exact (ALe.v LLe.r ALe.nil)
 ·
  have h := if_f c10 h
  refine Run.skip ?_
  obtain ⟨K12, h_K12, h⟩ := joinE h
  refine Run.join1 K12 (r := r) (fun (y11 : List Row) => ⟨44, 100000, [(3, .pt 1 0 0), (5, .rf 2)], [(1, .box 38 [.t (.s (.int .i64 ql)), .t (.im false (qJ qP)), .t (.s (.int .i64 qm)), .t (.s (.bool qy)), .t (.s (.int .i64 qn)), .t (.im false (qB qq)), .t (.s (.bool qz)), .t (.s (.int .i64 qN)), .t (.s (.int .i64 qZ))]), (2, .row 0 91 2 (qf y11))]⟩) ?_ ?_
  ·
   skip
   refine Run.seq ?_
   obtain ⟨x13, h_x13, h⟩ := bnd h
   refine Run.region hL hT [(4, .el [.im false (qMB x13)])] (by cbv) ?_ ?_
   · exact (hq Tt (hq Tt (hq (qM h_x13) (hq (qb (f := RowS_i) h_x13) (hq (qx (f := RowS_i) h_x13) hq0)))))
   rw [show ln (qMB x13) = qDB x13 from ln_eq Row_i _]
   refine Run.block ?_
   refine Run.loop2 (fun (z27 : List Row) (z28 : Int) => ⟨44, 100000, [(3, .pt 1 0 0), (5, .rf 2), (25, .t (.im false (qMB x13))), (26, .t (.s (.int .i64 (qDB x13)))), (27, .t (.s (.int .i64 z28)))], [(1, .box 38 [.t (.s (.int .i64 ql)), .t (.im false (qJ qP)), .t (.s (.int .i64 qm)), .t (.s (.bool qy)), .t (.s (.int .i64 qn)), .t (.im false (qB qq)), .t (.s (.bool qz)), .t (.s (.int .i64 qN)), .t (.s (.int .i64 qZ))]), (2, .row 0 91 2 (qf z27))]⟩) (x0 := []) (x1 := 0) h (Weak.of _ [(1, 1), (2, 4096)] hA (by cbv) ?_) (fun _ _ => rfl) ?_
   · repeat (first | exact hq0 | refine hq (by first | exact Tt | rfl) ?_)
   ·
    intro k z27 z28 h
    rw [qYC.l0] at h
    refine Run.seq ?_
    refine Run.region hL hT [] (by cbv) ?_ ?_
    · exact (hq Tt hq0)
    refine Run.seq ?_
    refine Run.cond (by cbv) (hq0) (fun c29 => ?_) (fun c29 => ?_)
    ·
     have h := if_t c29 h
     refine Run.skip ?_
     refine Run.seq ?_
     refine Run.block ?_
     refine Run.seq ?_
     obtain ⟨⟨qBX, qXT⟩, h_x30, h⟩ := bnd h
     refine Run.region hL hT [(0, .el [.s (.int .i64 qBX), .im false (qB qXT)])] (by cbv) ?_ ?_
     · exact (hq (qM h_x30) (hq (qb (f := Row_i) h_x30) (hq (qx (f := Row_i) h_x30) (hq Tt hq0))))
     refine Run.seq ?_
     obtain ⟨r31, h_r31, h⟩ := bnd h
     refine Run.region hL hT [(2, .call [false, false] [.ag [.jk, .jk, .jk, .jk, .jk, .jk, .jk, .jk, .jk], .ag [.jk, .jk]] [.v (.s (.bool r31))])] (by cbv) ?_ ?_
     · exact (hq Tt (hq Tt (hq (hC (qXM h_r31)) hq0)))
     refine Run.cond (by cbv) (hq0) (fun c32 => ?_) (fun c32 => ?_)
     ·
      have h := if_t c32 h
      obtain ⟨⟨r33v_Id, r33v_Cells⟩, h_r33, h⟩ := bnd h
      obtain ⟨l34, h_l34, h⟩ := bnd h
      obtain ⟨l35, h_l35, h⟩ := bnd h
      refine Run.region hL hT [(2, .call [false] [.ag [.jk, .jk]] [.ag [.s (.int .i64 r33v_Id), .ow 3 (qB r33v_Cells)]])] (by cbv) ?_ ?_
      · exact (hq Tt (hq (hC (qYM h_r33)) (hq (qLE (P := Tryz.prog) (f := Row_o) RLe.r (qvB (f := Row_o) h_l34 (RLe.cons rfl LLe.r RLe.nil)) h_l35) hq0)))
      refine Run.row (rows := (ap (qf z27) ([[.s (.int .i64 r33v_Id), .ow 3 (qB r33v_Cells)]]))) 112292 (qf l35) (by cbv) (qKE (f := Row_o) RLe.r (qvB (f := Row_o) h_l34 (RLe.cons rfl LLe.r RLe.nil)) h_l35) ?_
      refine Run.region hL hT [] (by cbv) ?_ ?_
      · exact (hq Tt hq0)
      refine ⟨l35, (ar .add .i64 z28 1), h, Weak.of _ [(1, 1), (2, 112292)] hA (by cbv) ?_⟩
      repeat (first | exact hq0 | refine hq (by first | exact Tt | rfl) ?_)
     ·
      have h := if_f c32 h
      refine Run.skip ?_
      refine Run.region hL hT [] (by cbv) ?_ ?_
      · exact (hq Tt hq0)
      refine ⟨z27, (ar .add .i64 z28 1), h, Weak.of _ [(1, 1), (2, 2)] hA (by cbv) ?_⟩
      repeat (first | exact hq0 | refine hq (by first | exact Tt | rfl) ?_)
    ·
     have h := if_f c29 h
     refine Run.exit ?_
     refine ⟨z27, h, Weak.of _ [(1, 1), (2, 2)] hA (by cbv) ?_⟩
     repeat (first | exact hq0 | refine hq (by first | exact Tt | rfl) ?_)
  ·
   intro y11 h
   rw [h_K12] at h
   refine Run.seq ?_
   obtain ⟨r36, h_r36, h⟩ := bnd h
   refine Run.region hL hT [(2, .call [true, false] [.v (.ow 91 (qf r36)), .v (.jk)] [])] (by cbv) ?_ ?_
   · exact (hq (hC (qHD h_r36)) hq0)
   refine Run.seq ?_
   refine Run.region hL hT [] (by cbv) hq0 ?_
   refine Run.ret ?_
   cases h
   refine ⟨_, _, by cbv, ?_, ?_⟩
   · exact LLe.r
   · exact (ALe.v LLe.r ALe.nil)
theorem qVN {qF : List Int} {qV : Int} {qT : List (List Row)} {ql : Int} {qP : List Cond} {qm : Int} {qy : Bool} {qn : Int} {qq : List Int} {qz : Bool} {qN : Int} {qZ : Int} {a2 : Int} {r : Int} (h : qgC.f (Store.mk (Schema.mk qF) qV qT) (Query.mk ql qP qm qy qn qq qz qN qZ) a2 = some r) : AC Tryz.prog 57 [.ag [.im false (rowsOf Int_c qF), .s (.int .i64 qV), .im false (rowsOf RowS_i qT)], .ag [.s (.int .i64 ql), .im false (rowsOf Cond_c qP), .s (.int .i64 qm), .s (.bool qy), .s (.int .i64 qn), .im false (rowsOf Int_c qq), .s (.bool qz), .s (.int .i64 qN), .s (.int .i64 qZ)], .v (.s (.int .i64 a2))] [.ag [.jk, .jk, .jk], .ag [.jk, .jk, .jk, .jk, .jk, .jk, .jk, .jk, .jk], .v (.jk)] [.v (.s (.int .i64 r))] := by
 unfold qgC.f at h
 let qJ := rowsOf Cond_c
 let qB := rowsOf Int_c
 let qUB := rowsOf RowS_i
 let qMB := rowsOf Row_i
 let qDB := @lenI Row
 show AC Tryz.prog 57 [.ag [.im false (qB qF), .s (.int .i64 qV), .im false (qUB qT)], .ag [.s (.int .i64 ql), .im false (qJ qP), .s (.int .i64 qm), .s (.bool qy), .s (.int .i64 qn), .im false (qB qq), .s (.bool qz), .s (.int .i64 qN), .s (.int .i64 qZ)], .v (.s (.int .i64 a2))] _ _
 refine run3 Tryz.func57 (by rfl) (by rfl) (by cbv) ⟨by decide, rfl⟩ ?_
 intro ar cm bo sc sa sx ss sl bs sb ln sr ap up rp fr ge le lt nz mm ma sm fl al ci hL F hP hA hT hM hC
 refine Run.seq ?_
 refine Run.region hL hT [] (by cbv) hq0 ?_
 refine Run.seq ?_
 refine Run.seq ?_
 obtain ⟨r1, h_r1, h⟩ := bnd h
 obtain ⟨r2, h_r2, h⟩ := bnd h
 refine Run.region hL hT [(1, .call [false] [.ag [.jk, .jk, .jk]] [.v (.s (.bool r1))]), (7, .call [false, false] [.ag [.jk], .ag [.jk, .jk, .jk, .jk, .jk, .jk, .jk, .jk, .jk]] [.v (.s (.bool r2))])] (by cbv) ?_ ?_
 · exact (hq Tt (hq (hC (qJG h_r1)) (hq (fun _ => hq0) (hq (fun g4 => (hq g4 (hq Tt hq0))) (hq (fun g5 => (hq Tt hq0)) (hq (fun g6 => (hq g6 (hq g6 (hq (hC (qKG (gd_t h_r2 g6))) hq0)))) (hq (fun g7 => (hq g7 hq0)) (hq (fun _ => hq0) (hq (fun q9 => (hq (bo_m q9) hq0)) (hq (fun _ => hq0) (hq (fun g11 => (hq g11 (hq Tt hq0))) (hq (fun g12 => (hq g12 hq0)) (hq (fun _ => hq0) (hq (fun q14 => (hq (bo_m q14) hq0)) hq0))))))))))))))
 refine Run.cond (by cbv) (hq0) (fun c15 => ?_) (fun c15 => ?_)
 ·
  have h := if_t c15 h
  refine Run.seq ?_
  refine Run.region hL hT [] (by cbv) hq0 ?_
  refine Run.ret ?_
  cases h
  refine ⟨_, _, by cbv, ?_, ?_⟩
  · exact LLe.r
  · exact (ALe.v LLe.r ALe.nil)
 ·
  have h := if_f c15 h
  refine Run.skip ?_
  refine Run.seq ?_
  refine Run.region hL hT [] (by cbv) hq0 ?_
  refine Run.seq ?_
  refine Run.seq ?_
  obtain ⟨x16, h_x16, h⟩ := bnd h
  refine Run.region hL hT [(4, .el [.im false (qMB x16)])] (by cbv) ?_ ?_
  · exact (hq Tt (hq Tt (hq (qM h_x16) (hq (qb (f := RowS_i) h_x16) (hq (qx (f := RowS_i) h_x16) hq0)))))
  rw [show ln (qMB x16) = qDB x16 from ln_eq Row_i _]
  refine Run.block ?_
  refine Run.loop2 (fun (z31 : Int) (z32 : Int) => ⟨48, 100000, [(2, .t (.s (.int .i64 a2))), (4, .pt 1 0 0), (7, .t (.s (.int .i64 z31))), (30, .t (.im false (qMB x16))), (31, .t (.s (.int .i64 (qDB x16)))), (32, .t (.s (.int .i64 z32)))], [(1, .box 38 [.t (.s (.int .i64 ql)), .t (.im false (qJ qP)), .t (.s (.int .i64 qm)), .t (.s (.bool qy)), .t (.s (.int .i64 qn)), .t (.im false (qB qq)), .t (.s (.bool qz)), .t (.s (.int .i64 qN)), .t (.s (.int .i64 qZ))])]⟩) (x0 := 0) (x1 := 0) h (Weak.of _ [(1, 1)] hA (by cbv) ?_) (fun _ _ => rfl) ?_
  · repeat (first | exact hq0 | refine hq (by first | exact Tt | rfl) ?_)
  ·
   intro k z31 z32 h
   rw [qgC.l0] at h
   refine Run.seq ?_
   refine Run.region hL hT [] (by cbv) ?_ ?_
   · exact (hq Tt hq0)
   refine Run.seq ?_
   refine Run.cond (by cbv) (hq0) (fun c33 => ?_) (fun c33 => ?_)
   ·
    have h := if_t c33 h
    refine Run.skip ?_
    refine Run.seq ?_
    refine Run.block ?_
    refine Run.seq ?_
    obtain ⟨⟨qCX, qYT⟩, h_x34, h⟩ := bnd h
    refine Run.region hL hT [(0, .el [.s (.int .i64 qCX), .im false (qB qYT)])] (by cbv) ?_ ?_
    · exact (hq (qM h_x34) (hq (qb (f := Row_i) h_x34) (hq (qx (f := Row_i) h_x34) (hq Tt hq0))))
    refine Run.seq ?_
    obtain ⟨x35, h_x35, h⟩ := bnd h
    refine Run.region hL hT [(4, .el [.s (.int .i64 x35)])] (by cbv) ?_ ?_
    · exact (hq Tt (hq Tt (hq (qM h_x35) (hq (qb (f := Int_c) h_x35) (hq (qx (f := Int_c) h_x35) (hq Tt hq0))))))
    refine Run.cond (by cbv) (hq0) (fun c36 => ?_) (fun c36 => ?_)
    ·
     have h := if_t c36 h
     refine Run.region hL hT [] (by cbv) ?_ ?_
     · exact (hq Tt hq0)
     refine Run.region hL hT [] (by cbv) ?_ ?_
     · exact (hq Tt hq0)
     refine ⟨(ar .add .i64 z31 1), (ar .add .i64 z32 1), h, Weak.of _ [(1, 1)] hA (by cbv) ?_⟩
     repeat (first | exact hq0 | refine hq (by first | exact Tt | rfl) ?_)
    ·
     have h := if_f c36 h
     refine Run.skip ?_
     refine Run.region hL hT [] (by cbv) ?_ ?_
     · exact (hq Tt hq0)
     refine ⟨z31, (ar .add .i64 z32 1), h, Weak.of _ [(1, 1)] hA (by cbv) ?_⟩
     repeat (first | exact hq0 | refine hq (by first | exact Tt | rfl) ?_)
   ·
    have h := if_f c33 h
    refine Run.exit ?_
    refine Run.seq ?_
    refine Run.region hL hT [] (by cbv) hq0 ?_
    refine Run.ret ?_
    cases h
    refine ⟨_, _, by cbv, ?_, ?_⟩
    · exact LLe.r
    · exact (ALe.v LLe.r ALe.nil)
theorem qLK {qF : List Int} {qV : Int} {qT : List (List Row)} {ql : Int} {qP : List Cond} {qm : Int} {qy : Bool} {qn : Int} {qq : List Int} {qz : Bool} {qN : Int} {qZ : Int} {r : Json} (h : qND.f (Store.mk (Schema.mk qF) qV qT) (Query.mk ql qP qm qy qn qq qz qN qZ) = some r) : AC Tryz.prog 19 [.ag [.im false (rowsOf Int_c qF), .s (.int .i64 qV), .im false (rowsOf RowS_i qT)], .ag [.s (.int .i64 ql), .im false (rowsOf Cond_c qP), .s (.int .i64 qm), .s (.bool qy), .s (.int .i64 qn), .im false (rowsOf Int_c qq), .s (.bool qz), .s (.int .i64 qN), .s (.int .i64 qZ)]] [.ag [.jk, .jk, .jk], .ag [.jk, .jk, .jk, .jk, .jk, .jk, .jk, .jk, .jk]] [.ag [.s (.int .i64 r.Kind), .s (.int .i64 r.N), .s (.string r.S), .ow 34 (rowsOf qdB r.List_), .ow 9 (rowsOf Str_c r.Names)]] := by
 unfold qND.f at h
 let qJ := rowsOf Cond_c
 let qB := rowsOf Int_c
 let qOB := rowsOf qdB
 let qUB := rowsOf RowS_i
 let qf := rowsOf Row_o
 let qR := rowsOf Str_c
 let qDB := @lenI Row
 show AC Tryz.prog 19 [.ag [.im false (qB qF), .s (.int .i64 qV), .im false (qUB qT)], .ag [.s (.int .i64 ql), .im false (qJ qP), .s (.int .i64 qm), .s (.bool qy), .s (.int .i64 qn), .im false (qB qq), .s (.bool qz), .s (.int .i64 qN), .s (.int .i64 qZ)]] _ _
 refine run3 Tryz.func19 (by rfl) (by rfl) (by cbv) ⟨by decide, rfl⟩ ?_
 intro ar cm bo sc sa sx ss sl bs sb ln sr ap up rp fr ge le lt nz mm ma sm fl al ci hL F hP hA hT hM hC
 refine Run.seq ?_
 refine Run.region hL hT [] (by cbv) hq0 ?_
 refine Run.seq ?_
 refine Run.seq ?_
 obtain ⟨r1, h_r1, h⟩ := bnd h
 obtain ⟨r2, h_r2, h⟩ := bnd h
 refine Run.region hL hT [(1, .call [false] [.ag [.jk, .jk, .jk]] [.v (.s (.bool r1))]), (7, .call [false, false] [.ag [.jk], .ag [.jk, .jk, .jk, .jk, .jk, .jk, .jk, .jk, .jk]] [.v (.s (.bool r2))])] (by cbv) ?_ ?_
 · exact (hq Tt (hq (hC (qJG h_r1)) (hq (fun _ => hq0) (hq (fun g4 => (hq g4 (hq Tt hq0))) (hq (fun g5 => (hq Tt hq0)) (hq (fun g6 => (hq g6 (hq g6 (hq (hC (qKG (gd_t h_r2 g6))) hq0)))) (hq (fun g7 => (hq g7 hq0)) (hq (fun _ => hq0) (hq (fun q9 => (hq (bo_m q9) hq0)) hq0)))))))))
 refine Run.cond (by cbv) (hq0) (fun c10 => ?_) (fun c10 => ?_)
 ·
  have h := if_t c10 h
  refine Run.seq ?_
  refine Run.region hL hT [] (by cbv) ?_ ?_
  · exact (hq Tt hq0)
  refine Run.ret ?_
  cases h
  refine ⟨_, _, by cbv, ?_, ?_⟩
  · exact LLe.r
  · exact (ALe.ag rfl (LLe.c (LLe.c (LLe.c (LLe.cons LLe.nilO (LLe.cons LLe.nilO LLe.nil))))) ALe.nil)
 ·
  have h := if_f c10 h
  refine Run.skip ?_
  refine Run.seq ?_
  obtain ⟨r11, h_r11, h⟩ := bnd h
  refine Run.region hL hT [(2, .call [false, false] [.ag [.jk, .jk, .jk], .ag [.jk, .jk, .jk, .jk, .jk, .jk, .jk, .jk, .jk]] [.v (.ow 91 (qf r11))])] (by cbv) ?_ ?_
  · exact (hq Tt (hq Tt (hq (hC (qdM h_r11)) hq0)))
  refine Run.seq ?_
  refine Run.region hL hT [] (by cbv) hq0 ?_
  obtain ⟨K13, h_K13, h⟩ := joinE h
  refine Run.join1 K13 (r := r) (fun (y12 : List Int) => ⟨43, 100000, [(3, .pt 1 0 0), (4, .pt 2 0 0), (5, .rf 3), (6, .rf 4)], [(1, .box 38 [.t (.s (.int .i64 ql)), .t (.im false (qJ qP)), .t (.s (.int .i64 qm)), .t (.s (.bool qy)), .t (.s (.int .i64 qn)), .t (.im false (qB qq)), .t (.s (.bool qz)), .t (.s (.int .i64 qN)), .t (.s (.int .i64 qZ))]), (2, .box 34 [.t (.s (.int .i64 0)), .t (.s (.int .i64 0)), .t (.s (.string ByteArray.empty)), .t (.s (.slice none 0 0)), .t (.s (.slice none 0 0))]), (3, .row 0 91 2 (qf r11)), (4, .row 0 3 1 (qB y12))]⟩) ?_ ?_
  ·
   skip
   refine Run.seq ?_
   refine Run.region hL hT [] (by cbv) hq0 ?_
   rw [show ln (qf r11) = qDB r11 from ln_eq Row_o _]
   refine Run.block ?_
   refine Run.loop2 (fun (z33 : List Int) (z34 : Int) => ⟨43, 100000, [(2, .pt 1 0 0), (3, .pt 2 0 0), (4, .pt 3 0 0), (5, .rf 4), (6, .rf 5), (24, .rf 4), (25, .t (.s (.int .i64 (qDB r11)))), (26, .t (.s (.int .i64 z34)))], [(1, .box 60 [.t (.im false (qB qF)), .t (.s (.int .i64 qV)), .t (.im false (qUB qT))]), (2, .box 38 [.t (.s (.int .i64 ql)), .t (.im false (qJ qP)), .t (.s (.int .i64 qm)), .t (.s (.bool qy)), .t (.s (.int .i64 qn)), .t (.im false (qB qq)), .t (.s (.bool qz)), .t (.s (.int .i64 qN)), .t (.s (.int .i64 qZ))]), (3, .box 34 [.t (.s (.int .i64 0)), .t (.s (.int .i64 0)), .t (.s (.string ByteArray.empty)), .t (.s (.slice none 0 0)), .t (.s (.slice none 0 0))]), (4, .row 0 91 2 (qf r11)), (5, .row 0 3 1 (qB z33))]⟩) (x0 := []) (x1 := 0) h (Weak.of _ [(1, 0), (2, 1), (3, 2), (4, 8194), (5, 12288)] hA (by cbv) ?_) (fun _ _ => rfl) ?_
   · repeat (first | exact hq0 | refine hq (by first | exact Tt | rfl) ?_)
   ·
    intro k z33 z34 h
    rw [qND.l0] at h
    refine Run.seq ?_
    refine Run.region hL hT [] (by cbv) ?_ ?_
    · exact (hq Tt hq0)
    refine Run.seq ?_
    refine Run.cond (by cbv) (hq0) (fun c35 => ?_) (fun c35 => ?_)
    ·
     have h := if_t c35 h
     refine Run.skip ?_
     refine Run.seq ?_
     refine Run.block ?_
     refine Run.seq ?_
     obtain ⟨⟨qfR, qmJ⟩, h_x36, h⟩ := bnd h
     refine Run.region hL hT [(1, .el [.s (.int .i64 qfR), .ow 3 (qB qmJ)])] (by cbv) ?_ ?_
     · exact (hq (qM h_x36) (hq (qb (f := Row_o) h_x36) (hq (qM h_x36) (hq (qb (f := Row_o) h_x36) (hq (qx (f := Row_o) h_x36) (hq Tt hq0))))))
     obtain ⟨r37, h_r37, h⟩ := bnd h
     obtain ⟨l38, h_l38, h⟩ := bnd h
     obtain ⟨l39, h_l39, h⟩ := bnd h
     refine Run.region hL hT [(5, .call [false, false, false] [.ag [.jk, .jk, .jk], .ag [.jk, .jk, .jk, .jk, .jk, .jk, .jk, .jk, .jk], .v (.jk)] [.v (.s (.int .i64 r37))])] (by cbv) ?_ ?_
     · exact (hq Tt (hq Tt (hq Tt (hq (hC (qVN h_r37)) (hq (qLE (P := Tryz.prog) (f := Int_c) RLe.r (qvB (f := Int_c) h_l38 (RLe.cons rfl LLe.r RLe.nil)) h_l39) hq0)))))
     refine Run.row (rows := (ap (qB z33) ([[.s (.int .i64 r37)]]))) 108199 (qB l39) (by cbv) (qKE (f := Int_c) RLe.r (qvB (f := Int_c) h_l38 (RLe.cons rfl LLe.r RLe.nil)) h_l39) ?_
     refine Run.region hL hT [] (by cbv) ?_ ?_
     · exact (hq Tt hq0)
     refine ⟨l39, (ar .add .i64 z34 1), h, Weak.of _ [(1, 1), (2, 2), (3, 3), (4, 4), (5, 108199)] hA (by cbv) ?_⟩
     repeat (first | exact hq0 | refine hq (by first | exact Tt | rfl) ?_)
    ·
     have h := if_f c35 h
     refine Run.exit ?_
     refine ⟨z33, h, Weak.of _ [(1, 2), (2, 3), (3, 4), (4, 5)] hA (by cbv) ?_⟩
     repeat (first | exact hq0 | refine hq (by first | exact Tt | rfl) ?_)
  ·
   intro y12 h
   rw [h_K13] at h
   refine Run.seq ?_
   obtain ⟨⟨r40v_Kind, r40v_N, r40v_S, r40v_List_, r40v_Names⟩, h_r40, h⟩ := bnd h
   refine Run.region hL hT [(3, .call [false, false, false] [.ag [.jk, .jk, .jk, .jk, .jk, .jk, .jk, .jk, .jk], .v (.jk), .v (.jk)] [.ag [.s (.int .i64 r40v_Kind), .s (.int .i64 r40v_N), .s (.string r40v_S), .ow 34 (qOB r40v_List_), .ow 9 (qR r40v_Names)]])] (by cbv) ?_ ?_
   · exact (hq Tt (hq (hC (AC.args (qWP h_r40) (ALe.ag rfl LLe.r (ALe.v (LLe.im (RLe.eq (qmB qbR _))) (ALe.v (LLe.im (RLe.eq (qmB qBD _))) ALe.nil))))) (hq Tt hq0)))
   refine Run.ret ?_
   cases h
   refine ⟨_, _, by cbv, ?_, ?_⟩
   · exact LLe.r
   · exact (ALe.ag rfl LLe.r ALe.nil)
theorem qoG {a0 : List Int} {a1 : List Int} {r : Bool} (h : qOC.f a0 a1 = some r) : AC Tryz.prog 61 [.v (.im false (rowsOf Int_c a0)), .v (.im false (rowsOf Int_c a1))] [.v (.jk), .v (.jk)] [.v (.s (.bool r))] := by
 unfold qOC.f at h
 let qB := rowsOf Int_c
 let qh := @lenI Int
 show AC Tryz.prog 61 [.v (.im false (qB a0)), .v (.im false (qB a1))] _ _
 refine run3 Tryz.func61 (by rfl) (by rfl) (by cbv) ⟨by decide, rfl⟩ ?_
 intro ar cm bo sc sa sx ss sl bs sb ln sr ap up rp fr ge le lt nz mm ma sm fl al ci hL F hP hA hT hM hC
 refine Run.seq ?_
 refine Run.region hL hT [] (by cbv) hq0 ?_
 refine Run.seq ?_
 refine Run.seq ?_
 refine Run.region hL hT [] (by cbv) ?_ ?_
 · exact (hq Tt hq0)
 rw [show ln (qB a0) = qh a0 from ln_eq Int_c _]
 rw [show ln (qB a1) = qh a1 from ln_eq Int_c _]
 refine Run.cond (by cbv) (hq0) (fun c1 => ?_) (fun c1 => ?_)
 ·
  have h := if_t c1 h
  refine Run.seq ?_
  refine Run.region hL hT [] (by cbv) hq0 ?_
  refine Run.ret ?_
  cases h
  refine ⟨_, _, by cbv, ?_, ?_⟩
  · exact LLe.r
  · exact (ALe.v LLe.r ALe.nil)
 ·
  have h := if_f c1 h
  refine Run.skip ?_
  refine Run.seq ?_
  refine Run.seq ?_
  refine Run.region hL hT [] (by cbv) hq0 ?_
  refine Run.block ?_
  refine Run.loop1 (fun (z5 : Int) => ⟨26, 100000, [(0, .t (.im false (qB a0))), (1, .t (.im false (qB a1))), (5, .t (.s (.int .i64 z5)))], []⟩) (x0 := 0) h (Weak.of _ [] hA (by cbv) ?_) (fun _ => rfl) ?_
  · repeat (first | exact hq0 | refine hq (by first | exact Tt | rfl) ?_)
  ·
   intro k z5 h
   rw [qOC.l0] at h
   refine Run.seq ?_
   refine Run.seq ?_
   refine Run.region hL hT [] (by cbv) ?_ ?_
   · exact (hq Tt hq0)
   rw [show ln (qB a0) = qh a0 from ln_eq Int_c _]
   refine Run.cond (by cbv) (hq0) (fun c6 => ?_) (fun c6 => ?_)
   ·
    have h := if_t c6 h
    refine Run.skip ?_
    refine Run.seq ?_
    refine Run.block ?_
    refine Run.seq ?_
    obtain ⟨x7, h_x7, h⟩ := bnd h
    obtain ⟨x8, h_x8, h⟩ := bnd h
    refine Run.draw hL hT hM [(2, .el [.s (.int .i64 x7)]), (6, .el [.s (.int .i64 x8)])] (by cbv) (by cbv) (by cbv) (by cbv) (by cbv) ?_ ?_
    · exact (hq (qM h_x7) (hq (qb (f := Int_c) h_x7) (hq (qx (f := Int_c) h_x7) (hq (qM h_x8) (hq (qb (f := Int_c) h_x8) (hq (qx (f := Int_c) h_x8) (hq Tt hq0)))))))
    refine Run.cond (by cbv) (hq0) (fun c9 => ?_) (fun c9 => ?_)
    ·
     have h := if_t c9 h
     refine Run.seq ?_
     refine Run.region hL hT [] (by cbv) hq0 ?_
     refine Run.ret ?_
     cases h
     refine ⟨_, _, by cbv, ?_, ?_⟩
     · exact LLe.r
     · exact (ALe.v LLe.r ALe.nil)
    ·
     have h := if_f c9 h
     refine Run.skip ?_
     refine Run.region hL hT [] (by cbv) ?_ ?_
     · exact (hq Tt hq0)
     refine ⟨(ar .add .i64 z5 1), h, Weak.of _ [] hA (by cbv) ?_⟩
     repeat (first | exact hq0 | refine hq (by first | exact Tt | rfl) ?_)
   ·
    have h := if_f c6 h
    refine Run.exit ?_
    refine Run.seq ?_
    refine Run.region hL hT [] (by cbv) hq0 ?_
    refine Run.ret ?_
    cases h
    refine ⟨_, _, by cbv, ?_, ?_⟩
    · exact LLe.r
    · exact (ALe.v LLe.r ALe.nil)
theorem qZK {qO : List Int} {qdP : List Int} {r : Bool} (h : qsE.f (Schema.mk qO) (Schema.mk qdP) = some r) : AC Tryz.prog 58 [.ag [.im false (rowsOf Int_c qO)], .ag [.im false (rowsOf Int_c qdP)]] [.ag [.jk], .ag [.jk]] [.v (.s (.bool r))] := by
 unfold qsE.f at h
 let qB := rowsOf Int_c
 show AC Tryz.prog 58 [.ag [.im false (qB qO)], .ag [.im false (qB qdP)]] _ _
 refine run3 Tryz.func58 (by rfl) (by rfl) (by cbv) ⟨by decide, rfl⟩ ?_
 intro ar cm bo sc sa sx ss sl bs sb ln sr ap up rp fr ge le lt nz mm ma sm fl al ci hL F hP hA hT hM hC
 refine Run.seq ?_
 refine Run.region hL hT [] (by cbv) hq0 ?_
 refine Run.seq ?_
 refine Run.seq ?_
 obtain ⟨r1, h_r1, h⟩ := bnd h
 refine Run.region hL hT [(4, .call [false, false] [.v (.jk), .v (.jk)] [.v (.s (.bool r1))])] (by cbv) ?_ ?_
 · exact (hq Tt (hq Tt (hq (hC (qoG h_r1)) hq0)))
 refine Run.cond (by cbv) (hq0) (fun c2 => ?_) (fun c2 => ?_)
 ·
  have h := if_t c2 h
  refine Run.seq ?_
  refine Run.region hL hT [] (by cbv) hq0 ?_
  refine Run.ret ?_
  cases h
  refine ⟨_, _, by cbv, ?_, ?_⟩
  · exact LLe.r
  · exact (ALe.v LLe.r ALe.nil)
 ·
  have h := if_f c2 h
  refine Run.skip ?_
  refine Run.seq ?_
  refine Run.region hL hT [] (by cbv) hq0 ?_
  refine Run.ret ?_
  cases h
  refine ⟨_, _, by cbv, ?_, ?_⟩
  · exact LLe.r
  · exact (ALe.v LLe.r ALe.nil)
theorem qeP {qCD : Int} {qKB : List Int} {qGC : Int} {qv : List Int} {r : Bool} (h : qBH.f (Row.mk qCD qKB) (Row.mk qGC qv) = some r) : AC Tryz.prog 79 [.ag [.s (.int .i64 qCD), .im false (rowsOf Int_c qKB)], .ag [.s (.int .i64 qGC), .im false (rowsOf Int_c qv)]] [.ag [.jk, .jk], .ag [.jk, .jk]] [.v (.s (.bool r))] := by
 unfold qBH.f at h
 let qB := rowsOf Int_c
 show AC Tryz.prog 79 [.ag [.s (.int .i64 qCD), .im false (qB qKB)], .ag [.s (.int .i64 qGC), .im false (qB qv)]] _ _
 refine run3 Tryz.func79 (by rfl) (by rfl) (by cbv) ⟨by decide, rfl⟩ ?_
 intro ar cm bo sc sa sx ss sl bs sb ln sr ap up rp fr ge le lt nz mm ma sm fl al ci hL F hP hA hT hM hC
 refine Run.seq ?_
 refine Run.region hL hT [] (by cbv) hq0 ?_
 refine Run.seq ?_
 refine Run.seq ?_
 refine Run.region hL hT [] (by cbv) ?_ ?_
 · exact (hq Tt (hq Tt (hq Tt hq0)))
 refine Run.cond (by cbv) (hq0) (fun c1 => ?_) (fun c1 => ?_)
 ·
  have h := if_t c1 h
  refine Run.seq ?_
  refine Run.region hL hT [] (by cbv) hq0 ?_
  refine Run.ret ?_
  cases h
  refine ⟨_, _, by cbv, ?_, ?_⟩
  · exact LLe.r
  · exact (ALe.v LLe.r ALe.nil)
 ·
  have h := if_f c1 h
  refine Run.skip ?_
  refine Run.seq ?_
  refine Run.seq ?_
  obtain ⟨r2, h_r2, h⟩ := bnd h
  refine Run.region hL hT [(4, .call [false, false] [.v (.jk), .v (.jk)] [.v (.s (.bool r2))])] (by cbv) ?_ ?_
  · exact (hq Tt (hq Tt (hq (hC (qoG h_r2)) hq0)))
  refine Run.cond (by cbv) (hq0) (fun c3 => ?_) (fun c3 => ?_)
  ·
   have h := if_t c3 h
   refine Run.seq ?_
   refine Run.region hL hT [] (by cbv) hq0 ?_
   refine Run.ret ?_
   cases h
   refine ⟨_, _, by cbv, ?_, ?_⟩
   · exact LLe.r
   · exact (ALe.v LLe.r ALe.nil)
  ·
   have h := if_f c3 h
   refine Run.skip ?_
   refine Run.seq ?_
   refine Run.region hL hT [] (by cbv) hq0 ?_
   refine Run.ret ?_
   cases h
   refine ⟨_, _, by cbv, ?_, ?_⟩
   · exact LLe.r
   · exact (ALe.v LLe.r ALe.nil)
theorem qWN {a0 : List Row} {a1 : List Row} {r : Bool} (h : qqC.f a0 a1 = some r) : AC Tryz.prog 34 [.v (.im false (rowsOf Row_i a0)), .v (.im false (rowsOf Row_i a1))] [.v (.jk), .v (.jk)] [.v (.s (.bool r))] := by
 unfold qqC.f at h
 let qB := rowsOf Int_c
 let qMB := rowsOf Row_i
 let qDB := @lenI Row
 show AC Tryz.prog 34 [.v (.im false (qMB a0)), .v (.im false (qMB a1))] _ _
 refine run3 Tryz.func34 (by rfl) (by rfl) (by cbv) ⟨by decide, rfl⟩ ?_
 intro ar cm bo sc sa sx ss sl bs sb ln sr ap up rp fr ge le lt nz mm ma sm fl al ci hL F hP hA hT hM hC
 refine Run.seq ?_
 refine Run.region hL hT [] (by cbv) hq0 ?_
 refine Run.seq ?_
 refine Run.seq ?_
 refine Run.region hL hT [] (by cbv) ?_ ?_
 · exact (hq Tt hq0)
 rw [show ln (qMB a0) = qDB a0 from ln_eq Row_i _]
 rw [show ln (qMB a1) = qDB a1 from ln_eq Row_i _]
 refine Run.cond (by cbv) (hq0) (fun c1 => ?_) (fun c1 => ?_)
 ·
  have h := if_t c1 h
  refine Run.seq ?_
  refine Run.region hL hT [] (by cbv) hq0 ?_
  refine Run.ret ?_
  cases h
  refine ⟨_, _, by cbv, ?_, ?_⟩
  · exact LLe.r
  · exact (ALe.v LLe.r ALe.nil)
 ·
  have h := if_f c1 h
  refine Run.skip ?_
  refine Run.seq ?_
  refine Run.seq ?_
  refine Run.region hL hT [] (by cbv) hq0 ?_
  refine Run.block ?_
  refine Run.loop1 (fun (z5 : Int) => ⟨27, 100000, [(0, .t (.im false (qMB a0))), (1, .t (.im false (qMB a1))), (5, .t (.s (.int .i64 z5)))], []⟩) (x0 := 0) h (Weak.of _ [] hA (by cbv) ?_) (fun _ => rfl) ?_
  · repeat (first | exact hq0 | refine hq (by first | exact Tt | rfl) ?_)
  ·
   intro k z5 h
   rw [qqC.l0] at h
   refine Run.seq ?_
   refine Run.seq ?_
   refine Run.region hL hT [] (by cbv) ?_ ?_
   · exact (hq Tt hq0)
   rw [show ln (qMB a0) = qDB a0 from ln_eq Row_i _]
   refine Run.cond (by cbv) (hq0) (fun c6 => ?_) (fun c6 => ?_)
   ·
    have h := if_t c6 h
    refine Run.skip ?_
    refine Run.seq ?_
    refine Run.block ?_
    refine Run.seq ?_
    obtain ⟨⟨qpX, qAV⟩, h_x7, h⟩ := bnd h
    obtain ⟨⟨qBO, qFH⟩, h_x8, h⟩ := bnd h
    obtain ⟨r9, h_r9, h⟩ := bnd h
    refine Run.draw hL hT hM [(2, .el [.s (.int .i64 qpX), .im false (qB qAV)]), (6, .el [.s (.int .i64 qBO), .im false (qB qFH)]), (8, .call [false, false] [.ag [.jk, .jk], .ag [.jk, .jk]] [.v (.s (.bool r9))])] (by cbv) (by cbv) (by cbv) (by cbv) (by cbv) ?_ ?_
    · exact (hq (qM h_x7) (hq (qb (f := Row_i) h_x7) (hq (qx (f := Row_i) h_x7) (hq (qM h_x8) (hq (qb (f := Row_i) h_x8) (hq (qx (f := Row_i) h_x8) (hq (hC (qeP h_r9)) hq0)))))))
    refine Run.cond (by cbv) (hq0) (fun c10 => ?_) (fun c10 => ?_)
    ·
     have h := if_t c10 h
     refine Run.seq ?_
     refine Run.region hL hT [] (by cbv) hq0 ?_
     refine Run.ret ?_
     cases h
     refine ⟨_, _, by cbv, ?_, ?_⟩
     · exact LLe.r
     · exact (ALe.v LLe.r ALe.nil)
    ·
     have h := if_f c10 h
     refine Run.skip ?_
     refine Run.region hL hT [] (by cbv) ?_ ?_
     · exact (hq Tt hq0)
     refine ⟨(ar .add .i64 z5 1), h, Weak.of _ [] hA (by cbv) ?_⟩
     repeat (first | exact hq0 | refine hq (by first | exact Tt | rfl) ?_)
   ·
    have h := if_f c6 h
    refine Run.exit ?_
    refine Run.seq ?_
    refine Run.region hL hT [] (by cbv) hq0 ?_
    refine Run.ret ?_
    cases h
    refine ⟨_, _, by cbv, ?_, ?_⟩
    · exact LLe.r
    · exact (ALe.v LLe.r ALe.nil)
theorem qeM {a0 : List (List Row)} {a1 : List (List Row)} {r : Bool} (h : qZC.f a0 a1 = some r) : AC Tryz.prog 59 [.v (.im false (rowsOf RowS_i a0)), .v (.im false (rowsOf RowS_i a1))] [.v (.jk), .v (.jk)] [.v (.s (.bool r))] := by
 unfold qZC.f at h
 let qUB := rowsOf RowS_i
 let qMB := rowsOf Row_i
 let qFC := @lenI (List Row)
 show AC Tryz.prog 59 [.v (.im false (qUB a0)), .v (.im false (qUB a1))] _ _
 refine run3 Tryz.func59 (by rfl) (by rfl) (by cbv) ⟨by decide, rfl⟩ ?_
 intro ar cm bo sc sa sx ss sl bs sb ln sr ap up rp fr ge le lt nz mm ma sm fl al ci hL F hP hA hT hM hC
 refine Run.seq ?_
 refine Run.region hL hT [] (by cbv) hq0 ?_
 refine Run.seq ?_
 refine Run.seq ?_
 refine Run.region hL hT [] (by cbv) ?_ ?_
 · exact (hq Tt hq0)
 rw [show ln (qUB a0) = qFC a0 from ln_eq RowS_i _]
 rw [show ln (qUB a1) = qFC a1 from ln_eq RowS_i _]
 refine Run.cond (by cbv) (hq0) (fun c1 => ?_) (fun c1 => ?_)
 ·
  have h := if_t c1 h
  refine Run.seq ?_
  refine Run.region hL hT [] (by cbv) hq0 ?_
  refine Run.ret ?_
  cases h
  refine ⟨_, _, by cbv, ?_, ?_⟩
  · exact LLe.r
  · exact (ALe.v LLe.r ALe.nil)
 ·
  have h := if_f c1 h
  refine Run.skip ?_
  refine Run.seq ?_
  refine Run.seq ?_
  refine Run.region hL hT [] (by cbv) hq0 ?_
  refine Run.block ?_
  refine Run.loop1 (fun (z5 : Int) => ⟨27, 100000, [(0, .t (.im false (qUB a0))), (1, .t (.im false (qUB a1))), (5, .t (.s (.int .i64 z5)))], []⟩) (x0 := 0) h (Weak.of _ [] hA (by cbv) ?_) (fun _ => rfl) ?_
  · repeat (first | exact hq0 | refine hq (by first | exact Tt | rfl) ?_)
  ·
   intro k z5 h
   rw [qZC.l0] at h
   refine Run.seq ?_
   refine Run.seq ?_
   refine Run.region hL hT [] (by cbv) ?_ ?_
   · exact (hq Tt hq0)
   rw [show ln (qUB a0) = qFC a0 from ln_eq RowS_i _]
   refine Run.cond (by cbv) (hq0) (fun c6 => ?_) (fun c6 => ?_)
   ·
    have h := if_t c6 h
    refine Run.skip ?_
    refine Run.seq ?_
    refine Run.block ?_
    refine Run.seq ?_
    obtain ⟨x7, h_x7, h⟩ := bnd h
    obtain ⟨x8, h_x8, h⟩ := bnd h
    obtain ⟨r9, h_r9, h⟩ := bnd h
    refine Run.draw hL hT hM [(2, .el [.im false (qMB x7)]), (6, .el [.im false (qMB x8)]), (8, .call [false, false] [.v (.jk), .v (.jk)] [.v (.s (.bool r9))])] (by cbv) (by cbv) (by cbv) (by cbv) (by cbv) ?_ ?_
    · exact (hq (qM h_x7) (hq (qb (f := RowS_i) h_x7) (hq (qx (f := RowS_i) h_x7) (hq (qM h_x8) (hq (qb (f := RowS_i) h_x8) (hq (qx (f := RowS_i) h_x8) (hq (hC (qWN h_r9)) hq0)))))))
    refine Run.cond (by cbv) (hq0) (fun c10 => ?_) (fun c10 => ?_)
    ·
     have h := if_t c10 h
     refine Run.seq ?_
     refine Run.region hL hT [] (by cbv) hq0 ?_
     refine Run.ret ?_
     cases h
     refine ⟨_, _, by cbv, ?_, ?_⟩
     · exact LLe.r
     · exact (ALe.v LLe.r ALe.nil)
    ·
     have h := if_f c10 h
     refine Run.skip ?_
     refine Run.region hL hT [] (by cbv) ?_ ?_
     · exact (hq Tt hq0)
     refine ⟨(ar .add .i64 z5 1), h, Weak.of _ [] hA (by cbv) ?_⟩
     repeat (first | exact hq0 | refine hq (by first | exact Tt | rfl) ?_)
   ·
    have h := if_f c6 h
    refine Run.exit ?_
    refine Run.seq ?_
    refine Run.region hL hT [] (by cbv) hq0 ?_
    refine Run.ret ?_
    cases h
    refine ⟨_, _, by cbv, ?_, ?_⟩
    · exact LLe.r
    · exact (ALe.v LLe.r ALe.nil)
end Go.Proofs.YtgjboegobhafhaaGreatDoor.L
