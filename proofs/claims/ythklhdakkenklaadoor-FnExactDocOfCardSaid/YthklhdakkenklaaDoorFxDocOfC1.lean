/- The contracts of the program's functions. -/
import Derived.Test.YthklhdakkenklaaDoorProg
import Derived.Test.YthklhdakkenklaaDoorFxDocOfC0
import Derived.KernelRfl
namespace Go.Proofs.YthklhdakkenklaaDoor.L
open Go Go.Proofs
set_option linter.unusedVariables false
set_option linter.unusedSimpArgs false
set_option maxRecDepth 8000 in
theorem slices_isNaN_string_ac {a0 : ByteArray} {r : Bool} (h : slices_isNaN_string.f a0 = some r) : AC Tryd.prog 73 [.v (.s (.string a0))] [.v (.jk)] [.v (.s (.bool r))] := by
  unfold slices_isNaN_string.f at h
  let ar := Ls.ar; let cm := Ls.cm; let bo := Ls.bo; let sc := Ls.sc; let sa := Ls.sa; let sx := Ls.sx; let ss := Ls.ss; let sl := Ls.sl; let bs := Ls.bs; let sb := Ls.sb; let ln := Ls.ln; let sr := Ls.sr; let ap := Ls.ap; let up := Ls.up; let rp := Ls.rp; let fr := Ls.fr; let ge := Ls.ge; let le := Ls.le; let lt := Ls.lt; let nz := Ls.nz; let mm := Ls.mm; let ma := Ls.ma; let sm := Ls.sm; let fl := Ls.fl; let al := Ls.al; let ci := Ls.ci
  have hL : (⟨ar, cm, bo, sc, sa, sx, ss, sl, bs, sb, ln, sr, ap, up, rp, fr, ge, le, lt, nz, mm, ma, sm, fl, al, ci⟩ : Lf) = Ls := rfl
  show AC Tryd.prog 73 [.v (.s (.string a0))] _ _
  refine AC.of_run2 tab_ok Tryd.func73 (by rfl) (by rfl) (by cbv) ⟨by decide, rfl⟩ fun F hP hA => ?_
  have hT : TabOk F.P tab := hP ▸ tab_ok
  have hM : F.P.follows .mixedOrders = true := hP ▸ mixed
  have hC : ∀ {f a o r}, AC Tryd.prog f a o r → AC F.P f a o r := fun h => hP ▸ h
  refine Run.seq ?_
  refine Run.region hL hT [] (by cbv) ?_ ?_
  · exact hq0
  refine Run.seq ?_
  refine Run.region hL hT [] (by cbv) ?_ ?_
  · exact hq0
  refine Run.ret ?_
  cases h
  refine ⟨_, _, by cbv, ?_, ?_⟩
  · exact LLe.r
  · exact (ALe.v LLe.r ALe.nil)

set_option maxRecDepth 8000 in
theorem slices_BinarySearch_string_ac {a0 : List ByteArray} {a1 : ByteArray} {r : Int × Bool} (h : slices_BinarySearch_string.f a0 a1 = some r) : AC Tryd.prog 59 [.v (.im false (rowsOf Str_c a0)), .v (.s (.string a1))] [.v (.jk), .v (.jk)] [.v (.s (.int .i64 r.1)), .v (.s (.bool r.2))] := by
  unfold slices_BinarySearch_string.f at h
  let ar := Ls.ar; let cm := Ls.cm; let bo := Ls.bo; let sc := Ls.sc; let sa := Ls.sa; let sx := Ls.sx; let ss := Ls.ss; let sl := Ls.sl; let bs := Ls.bs; let sb := Ls.sb; let ln := Ls.ln; let sr := Ls.sr; let ap := Ls.ap; let up := Ls.up; let rp := Ls.rp; let fr := Ls.fr; let ge := Ls.ge; let le := Ls.le; let lt := Ls.lt; let nz := Ls.nz; let mm := Ls.mm; let ma := Ls.ma; let sm := Ls.sm; let fl := Ls.fl; let al := Ls.al; let ci := Ls.ci
  let eStr_c := rowsOf Str_c
  let lenI_Str := @lenI ByteArray
  have hL : (⟨ar, cm, bo, sc, sa, sx, ss, sl, bs, sb, ln, sr, ap, up, rp, fr, ge, le, lt, nz, mm, ma, sm, fl, al, ci⟩ : Lf) = Ls := rfl
  show AC Tryd.prog 59 [.v (.im false (eStr_c a0)), .v (.s (.string a1))] _ _
  refine AC.of_run2 tab_ok Tryd.func59 (by rfl) (by rfl) (by cbv) ⟨by decide, rfl⟩ fun F hP hA => ?_
  have hT : TabOk F.P tab := hP ▸ tab_ok
  have hM : F.P.follows .mixedOrders = true := hP ▸ mixed
  have hC : ∀ {f a o r}, AC Tryd.prog f a o r → AC F.P f a o r := fun h => hP ▸ h
  refine Run.seq ?_
  refine Run.region hL hT [] (by cbv) ?_ ?_
  · exact hq0
  refine Run.seq ?_
  refine Run.region hL hT [] (by cbv) ?_ ?_
  · exact hq0
  rw [show ln (eStr_c a0) = lenI_Str a0 from ln_eq Str_c _]
  refine Run.seq ?_
  refine Run.region hL hT [] (by cbv) ?_ ?_
  · exact hq0
  obtain ⟨K2, h_K2, h⟩ := joinE h
  refine Run.join1 K2 (r := r) (fun (y1 : Int) => ⟨54, 100000, [(0, .t (.im false (eStr_c a0))), (1, .t (.s (.string a1))), (6, .t (.s (.int .i64 (lenI_Str a0)))), (7, .t (.s (.int .i64 y1)))], []⟩) ?_ ?_
  · skip
    refine Run.block ?_
    refine Run.loop2 (fun (z8 : Int) (z9 : Int) => ⟨54, 100000, [(0, .t (.im false (eStr_c a0))), (1, .t (.s (.string a1))), (6, .t (.s (.int .i64 (lenI_Str a0)))), (7, .t (.s (.int .i64 z8))), (8, .t (.s (.int .i64 z9)))], []⟩) (x0 := 0) (x1 := (lenI_Str a0)) h (Weak.of _ [] hA (by cbv) ?_) (fun _ _ => rfl) ?_
    · repeat (first | exact hq0 | refine hq (by first | exact True.intro | rfl) ?_)
    · intro k z8 z9 h
      rw [slices_BinarySearch_string.l0] at h
      refine Run.seq ?_
      refine Run.seq ?_
      refine Run.region hL hT [] (by cbv) ?_ ?_
      · exact (hq trivial hq0)
      refine Run.cond (by cbv) (hq0) (fun c10 => ?_) (fun c10 => ?_)
      · have h := if_t c10 h
        refine Run.skip ?_
        refine Run.block ?_
        refine Run.seq ?_
        refine Run.region hL hT [] (by cbv) ?_ ?_
        · exact (hq trivial (hq trivial (hq trivial (hq (by decide : (0 : Int) ≤ 1) (hq (by decide : (1 : Int) < 64) hq0)))))
        refine Run.seq ?_
        obtain ⟨x11, h_x11, h⟩ := bnd h
        obtain ⟨r12, h_r12, h⟩ := bnd h
        refine Run.region hL hT [(2, .el [.s (.string x11)]), (5, .call [false, false] [.v (.jk), .v (.jk)] [.v (.s (.bool r12))])] (by cbv) ?_ ?_
        · exact (hq (get_le h_x11) (hq (get_lt (f := Str_c) h_x11) (hq (get_ge (f := Str_c) h_x11) (hq (hC (cmp_Less_string_ac h_r12)) hq0))))
        refine Run.cond (by cbv) (hq0) (fun c13 => ?_) (fun c13 => ?_)
        · have h := if_t c13 h
          refine Run.region hL hT [] (by cbv) ?_ ?_
          · exact (hq trivial hq0)
          refine ⟨(ar .add .i64 (ar .or .i64 (ar .shr .u64 (ar .or .u64 (ar .add .i64 z8 z9) 0) 1) 0) 1), z9, h, Weak.of _ [] hA (by cbv) ?_⟩
          repeat (first | exact hq0 | refine hq (by first | exact True.intro | rfl) ?_)
        · have h := if_f c13 h
          refine Run.region hL hT [] (by cbv) ?_ ?_
          · exact hq0
          refine ⟨z8, (ar .or .i64 (ar .shr .u64 (ar .or .u64 (ar .add .i64 z8 z9) 0) 1) 0), h, Weak.of _ [] hA (by cbv) ?_⟩
          repeat (first | exact hq0 | refine hq (by first | exact True.intro | rfl) ?_)
      · have h := if_f c10 h
        refine Run.exit ?_
        refine ⟨z8, h, Weak.of _ [] hA (by cbv) ?_⟩
        repeat (first | exact hq0 | refine hq (by first | exact True.intro | rfl) ?_)
  · intro y1 h
    rw [h_K2] at h
    refine Run.seq ?_
    obtain ⟨x14, h_x14, h⟩ := bnd h
    obtain ⟨x15, h_x15, h⟩ := bnd h
    obtain ⟨r16, h_r16, h⟩ := bnd h
    obtain ⟨r17, h_r17, h⟩ := bnd h
    refine Run.region hL hT [(7, .el [.s (.string x14)]), (14, .el [.s (.string x15)]), (16, .call [false] [.v (.jk)] [.v (.s (.bool r16))]), (19, .call [false] [.v (.jk)] [.v (.s (.bool r17))])] (by cbv) ?_ ?_
    · exact (hq trivial (hq (fun _ => hq0) (hq (fun _ => hq0) (hq (fun g20 => (hq g20 (hq g20 (hq (get_le (gd_t h_x14 g20)) (hq (get_lt (f := Str_c) (gd_t h_x14 g20)) (hq (get_ge (f := Str_c) (gd_t h_x14 g20)) hq0)))))) (hq (fun g21 => (hq g21 hq0)) (hq (fun _ => hq0) (hq (fun g23 => (hq g23 (hq g23 hq0))) (hq (fun g24 => (hq g24 hq0)) (hq (fun _ => hq0) (hq (fun _ => hq0) (hq (fun g27 => (hq g27 (hq g27 (hq (get_le (gd_t h_x15 g27)) (hq (get_lt (f := Str_c) (gd_t h_x15 g27)) (hq (get_ge (f := Str_c) (gd_t h_x15 g27)) hq0)))))) (hq (fun g28 => (hq g28 hq0)) (hq (fun g29 => (hq g29 (hq (hC (slices_isNaN_string_ac (gd_t h_r16 g29))) hq0))) (hq (fun g30 => (hq g30 hq0)) (hq (fun _ => hq0) (hq (fun g32 => (hq g32 (hq (hC (slices_isNaN_string_ac (gd_t h_r17 g32))) hq0))) (hq (fun g33 => (hq g33 (hq (fun q34 => (hq (bo_a g33 q34) hq0)) (hq (fun _ => hq0) hq0)))) (hq (fun g36 => (hq g36 (hq (fun _ => hq0) (hq (fun q38 => (hq (bo_a g36 (bo_m q38)) hq0)) hq0)))) (hq (fun q39 => (hq q39 hq0)) (hq (fun _ => hq0) hq0))))))))))))))))))))
    refine Run.ret ?_
    cases h
    refine ⟨_, _, by cbv, ?_, ?_⟩
    · exact LLe.r
    · exact (ALe.v LLe.r (ALe.v LLe.r ALe.nil))

set_option maxHeartbeats 4000000 in
set_option maxRecDepth 100000 in
theorem slices_Insert_string_end0 (w : World) (g2 c2 : Nat)
  (v' : Value) (w' : World) (hrun : (Builtin.append_ #[31, 31] 31 #[.slice none 0 0, .slice (some ⟨g2, 0, none⟩) 1 c2]).run Tryd.prog w = .ok v' w') :
  Calls Tryd.prog 60 #[.slice none 0 0, .int .i64 0, .slice (some ⟨g2, 0, none⟩) 1 c2] w fun ex w2 => ex = .returned v' ∧ w2 = w' := by
  go_enter Tryd.func60, Tryd.ntmps60
  go_wp2_with (at_builtin; refine wpList_run rfl (exec_append rfl rfl rfl hrun) ?_)
  all_goals go_ret
  all_goals exact ⟨rfl, rfl⟩

set_option maxHeartbeats 4000000 in
set_option maxRecDepth 100000 in
theorem slices_Insert_string_end (w : World) (g c g2 c2 n : Nat) (hnc : n ≤ c)
  (v' : Value) (w' : World) (hrun : (Builtin.append_ #[31, 31] 31 #[.slice (some ⟨g, 0, none⟩) n c, .slice (some ⟨g2, 0, none⟩) 1 c2]).run Tryd.prog w = .ok v' w') :
  Calls Tryd.prog 60 #[.slice (some ⟨g, 0, none⟩) n c, .int .i64 n, .slice (some ⟨g2, 0, none⟩) 1 c2] w fun ex w2 => ex = .returned v' ∧ w2 = w' := by
  go_enter Tryd.func60, Tryd.ntmps60
  go_wp2_with (at_builtin; refine wpList_run rfl (exec_append rfl rfl rfl hrun) ?_)
  all_goals go_ret
  all_goals exact ⟨rfl, rfl⟩

set_option maxHeartbeats 4000000 in
set_option maxRecDepth 100000 in
theorem slices_Insert_string_in (w : World) (g c g2 c2 n i : Nat) (cur cur2 A B : Array Value) (hi : i < n) (hroom : n + 1 ≤ c) (hc63 : c ≤ maxLen) (hne : g2 ≠ g) (hg : w.heap[g]? = some (.cells cur 9 (0, 0))) (hcs : cur.size = c * 1) (hg2 : w.heap[g2]? = some (.cells cur2 9 (0, 0)))
  (hcp1 : ∀ ty dc sc, (Builtin.copy_ #[31, 31] ty #[.slice (some ⟨g, i + 1, none⟩) (n + 1 - (i + 1)) dc, .slice (some ⟨g, i, none⟩) (n + 1 - i) sc]).run Tryd.prog w.drew = .ok (goInt (n - i : Nat)) (w.drew.setRow g A))
  (hcp2 : ∀ ty dc, (Builtin.copy_ #[31, 31] ty #[.slice (some ⟨g, i, none⟩) (n + 1 - i) dc, .slice (some ⟨g2, 0, none⟩) 1 c2]).run Tryd.prog (w.drew.setRow g A) = .ok (goInt (1 : Nat)) ((w.drew.setRow g A).setRow g B)) :
  Calls Tryd.prog 60 #[.slice (some ⟨g, 0, none⟩) n c, .int .i64 i, .slice (some ⟨g2, 0, none⟩) 1 c2] w fun ex w2 => ex = .returned (.slice (some ⟨g, 0, none⟩) (n + 1) c) ∧ w2 = (w.drew.setRow g A).setRow g B := by
  have mixed := mixed
  have TE : TyOk Tryd.prog 9 _ := tab_ok 9 _ rfl
  have TS : TyOk Tryd.prog 31 _ := tab_ok 31 _ rfl
  obtain ⟨ti, hti, htz, htb, _⟩ := TE.info
  have u92 := TS.isS rfl
  have hz1 : ¬ ((1 : Int) = 0) := by omega
  have hz2 : ¬ ((i : Int) = (n : Int)) := by omega
  have hw1 : IntKind.i64.wrap ((i : Int) + (1 : Int)) = (i : Int) + (1 : Int) := by unfold maxLen at hc63; rw [IntKind.wrap_i64]; omega
  have hw2 : IntKind.i64.wrap ((n : Int) + (1 : Int)) = (n : Int) + (1 : Int) := by unfold maxLen at hc63; rw [IntKind.wrap_i64]; omega
  have hb1 : (0 : Int) ≤ (i : Int) + (1 : Int) := by omega
  have hin : i ≤ n := by omega
  have htn : ((i : Int) + (1 : Int)).toNat = i + 1 := by omega
  have hb2 : ¬ (c = i + 1) := by omega
  have hb3 : (i : Int) ≤ (n : Int) + (1 : Int) := by omega
  have hb4 : ¬ (c = i) := by omega
  have hov : ∀ lb cb o, (callFunc 74 #[.slice (some ⟨g2, 0, none⟩) 1 c2, .slice (some ⟨g, o, none⟩) lb cb]).run Tryd.prog w = .ok (.value (.bool false)) w := fun lb cb o => by
    rw [run_callFunc_extern Tryd.func74 (by kernel_rfl) (by kernel_rfl) (by kernel_rfl) (e := Extern.SlicesOverlaps.overlaps #[31, 31] #[4]) (by kernel_rfl),
      Lib.run_overlaps_apart w 31 4 9 u92 1 (fun w => by simp [sizeOf, typeInfo, hti, htz]) ⟨g2, 0, none⟩ ⟨g, o, none⟩ 1 c2 lb cb hne 9 9 cur2.size cur.size (by simp [World.shape?, hg2]) (by simp [World.shape?, hg]) (by omega) (by simp [World.frozen?, hg2]) (by simp [World.frozen?, hg2])]
    rfl
  go_enter Tryd.func60, Tryd.ntmps60
  go_wp2_with (simp only [hov])
  go_region_law_o (refine step_run rfl (exec_copy rfl (by simp [Act.eval, Act.put]; rfl) (by simp [Act.eval, Act.put]; rfl) (hcp1 _ _ _)) ?_)
  go_wp2_with (at_builtin; refine wpList_run rfl (exec_copy rfl rfl rfl (hcp2 _ _)) ?_)
  go_ret
  exact ⟨rfl, rfl⟩

set_option maxHeartbeats 4000000 in
set_option maxRecDepth 100000 in
theorem slices_Insert_string_grow (w : World) (g c g2 c2 n i G : Nat) (R A B : Array Value) (hi : i < n) (hnc : n ≤ c) (hroom : c < n + 1) (hc63 : n + 1 ≤ maxLen) (hG : n + 1 ≤ G) (hGm : G ≤ maxLen)
  (hrz : ∀ ty, (Builtin.append_ #[31, 3] ty #[.slice (some ⟨g, 0, none⟩) i c, .int .i64 ((n : Int) + 1 - i)]).run Tryd.prog w = .ok (.slice (some ⟨w.heap.size, 0, none⟩) (n + 1) G) (w.drew.alloc (.cells R 9)))
  (hcp2 : ∀ ty dc, (Builtin.copy_ #[31, 31] ty #[.slice (some ⟨w.heap.size, i, none⟩) (n + 1 - i) dc, .slice (some ⟨g2, 0, none⟩) 1 c2]).run Tryd.prog (w.alloc (.cells R 9)).drew = .ok (goInt (1 : Nat)) ((w.alloc (.cells R 9)).drew.setRow w.heap.size A))
  (hcp1 : ∀ ty dc sc, (Builtin.copy_ #[31, 31] ty #[.slice (some ⟨w.heap.size, i + 1, none⟩) (n + 1 - (i + 1)) dc, .slice (some ⟨g, i, none⟩) (n - i) sc]).run Tryd.prog ((w.alloc (.cells R 9)).drew.setRow w.heap.size A).drew = .ok (goInt (n - i : Nat)) (((w.alloc (.cells R 9)).drew.setRow w.heap.size A).drew.setRow w.heap.size B)) :
  Calls Tryd.prog 60 #[.slice (some ⟨g, 0, none⟩) n c, .int .i64 i, .slice (some ⟨g2, 0, none⟩) 1 c2] w fun ex w2 => ex = .returned (.slice (some ⟨w.heap.size, 0, none⟩) (n + 1) G) ∧ w2 = ((w.alloc (.cells R 9)).drew.setRow w.heap.size A).drew.setRow w.heap.size B := by
  have mixed := mixed
  have hz1 : ¬ ((1 : Int) = 0) := by omega
  have hz2 : ¬ ((i : Int) = (n : Int)) := by omega
  have hz3 : (c : Int) < (n : Int) + (1 : Int) := by omega
  have hw1 : IntKind.i64.wrap ((i : Int) + (1 : Int)) = (i : Int) + (1 : Int) := by unfold maxLen at hc63; rw [IntKind.wrap_i64]; omega
  have hw2 : IntKind.i64.wrap ((n : Int) + (1 : Int)) = (n : Int) + (1 : Int) := by unfold maxLen at hc63; rw [IntKind.wrap_i64]; omega
  have hw3 : IntKind.i64.wrap ((n : Int) + (1 : Int) - (i : Int)) = (n : Int) + (1 : Int) - (i : Int) := by unfold maxLen at hc63; rw [IntKind.wrap_i64]; omega
  have hb1 : (0 : Int) ≤ (i : Int) + (1 : Int) := by omega
  have hin : i ≤ n := by omega
  have htn : ((i : Int) + (1 : Int)).toNat = i + 1 := by omega
  have hGi : ¬ (G = i) := by omega
  have hGim : ¬ (G = i + 1) := by omega
  have hci : ¬ (c = i) := by omega
  have hb3 : (i : Int) ≤ (n : Int) := by omega
  go_enter Tryd.func60, Tryd.ntmps60
  go_wp2_with (first
    | (at_builtin; refine wpList_run rfl (exec_append rfl rfl rfl (hrz _)) ?_)
    | (at_builtin; refine wpList_run rfl (exec_copy rfl rfl rfl (hcp2 _ _)) ?_))
  go_region_law_o (refine step_run rfl (exec_copy rfl (by simp [Act.eval, Act.put]; rfl) (by simp [Act.eval, Act.put]; rfl) (hcp1 _ _ _)) ?_)
  go_wp2
  go_ret
  exact ⟨rfl, rfl⟩
theorem slices_Insert_string_roads : Roads Tryd.prog 60 31 9 1 3 where
  end0 := fun w g2 c2 v' w' h => slices_Insert_string_end0 w g2 c2 v' w' h
  end1 := fun w g c g2 c2 n v' w' hnc h => slices_Insert_string_end w g c g2 c2 n hnc v' w' h
  inn := fun w g c g2 c2 n i cur cur2 A B h1 h2 h3 h4 h5 h6 h7 h8 h9 => slices_Insert_string_in w g c g2 c2 n i cur cur2 A B h1 h2 h3 h4 h5 h6 h7 (by simpa using h8) (by simpa using h9)
  grow := fun w g c g2 c2 n i G R A B h1 h2 h3 h4 h5 h6 h7 h8 h9 => slices_Insert_string_grow w g c g2 c2 n i G R A B h1 h2 h3 h4 h5 h6 h7 (by simpa using h8) (by simpa using h9)
theorem slices_Insert_string_ac {a0 a2 : List ByteArray} {a1 : Int} {r : List ByteArray} (h : slices_Insert_string.f a0 a1 a2 = some r) : AC Tryd.prog 60 [.v (.ow 9 (rowsOf Str_c a0)), .v (.s (.int .i64 a1)), .v (.ow 9 (rowsOf Str_c a2))] [.v .jk, .v .jk, .v .jk] [.v (.ow 9 (rowsOf Str_c r))] := by
  unfold slices_Insert_string.f insO at h
  split at h
  · rename_i hc
    obtain ⟨h1, c0, c1, c2, c3⟩ := hc
    obtain ⟨i, rfl⟩ : ∃ k : Nat, a1 = k := ⟨a1.toNat, by omega⟩
    obtain ⟨x, rfl⟩ := List.length_eq_one_iff.1 h1
    simp only [Option.some.injEq] at h
    subst h
    have hr : rowsOf Str_c (a0.take ((i : Nat) : Int).toNat ++ [x] ++ a0.drop ((i : Nat) : Int).toNat) = (rowsOf Str_c a0).take i ++ [Str_c x] ++ (rowsOf Str_c a0).drop i := by simp [rowsOf, List.map_take, List.map_drop]
    rw [hr]
    have hl := rowsOf_len Str_c a0
    simp only [List.length_singleton] at c2 c3
    exact AC.of_ins ⟨_, Tryd.func60, by rfl, by rfl⟩ (cellsOf_ty (tab_ok 9 _ rfl)) (slices_Insert_string_roads.raw (tab_ok 31 _ rfl) rfl (tab_ok 9 _ rfl) (by simp) (underlying_int (tab_ok 3 _ rfl) rfl)) (by omega) (by rw [hl]; show (a0.length + 1) * 16 ≤ _; omega) (by omega)
  · cases h


set_option maxHeartbeats 4000000 in
set_option maxRecDepth 100000 in
theorem slices_Insert_impl_Json_end0 (w : World) (g2 c2 : Nat)
  (v' : Value) (w' : World) (hrun : (Builtin.append_ #[30, 30] 30 #[.slice none 0 0, .slice (some ⟨g2, 0, none⟩) 1 c2]).run Tryd.prog w = .ok v' w') :
  Calls Tryd.prog 61 #[.slice none 0 0, .int .i64 0, .slice (some ⟨g2, 0, none⟩) 1 c2] w fun ex w2 => ex = .returned v' ∧ w2 = w' := by
  go_enter Tryd.func61, Tryd.ntmps61
  go_wp2_with (at_builtin; refine wpList_run rfl (exec_append rfl rfl rfl hrun) ?_)
  all_goals go_ret
  all_goals exact ⟨rfl, rfl⟩

set_option maxHeartbeats 4000000 in
set_option maxRecDepth 100000 in
theorem slices_Insert_impl_Json_end (w : World) (g c g2 c2 n : Nat) (hnc : n ≤ c)
  (v' : Value) (w' : World) (hrun : (Builtin.append_ #[30, 30] 30 #[.slice (some ⟨g, 0, none⟩) n c, .slice (some ⟨g2, 0, none⟩) 1 c2]).run Tryd.prog w = .ok v' w') :
  Calls Tryd.prog 61 #[.slice (some ⟨g, 0, none⟩) n c, .int .i64 n, .slice (some ⟨g2, 0, none⟩) 1 c2] w fun ex w2 => ex = .returned v' ∧ w2 = w' := by
  go_enter Tryd.func61, Tryd.ntmps61
  go_wp2_with (at_builtin; refine wpList_run rfl (exec_append rfl rfl rfl hrun) ?_)
  all_goals go_ret
  all_goals exact ⟨rfl, rfl⟩

set_option maxHeartbeats 4000000 in
set_option maxRecDepth 100000 in
theorem slices_Insert_impl_Json_in (w : World) (g c g2 c2 n i : Nat) (cur cur2 A B : Array Value) (hi : i < n) (hroom : n + 1 ≤ c) (hc63 : c ≤ maxLen) (hne : g2 ≠ g) (hg : w.heap[g]? = some (.cells cur 33 (0, 0))) (hcs : cur.size = c * 5) (hg2 : w.heap[g2]? = some (.cells cur2 33 (0, 0)))
  (hcp1 : ∀ ty dc sc, (Builtin.copy_ #[30, 30] ty #[.slice (some ⟨g, (i + 1) * 5, none⟩) (n + 1 - (i + 1)) dc, .slice (some ⟨g, i * 5, none⟩) (n + 1 - i) sc]).run Tryd.prog w.drew = .ok (goInt (n - i : Nat)) (w.drew.setRow g A))
  (hcp2 : ∀ ty dc, (Builtin.copy_ #[30, 30] ty #[.slice (some ⟨g, i * 5, none⟩) (n + 1 - i) dc, .slice (some ⟨g2, 0, none⟩) 1 c2]).run Tryd.prog (w.drew.setRow g A) = .ok (goInt (1 : Nat)) ((w.drew.setRow g A).setRow g B)) :
  Calls Tryd.prog 61 #[.slice (some ⟨g, 0, none⟩) n c, .int .i64 i, .slice (some ⟨g2, 0, none⟩) 1 c2] w fun ex w2 => ex = .returned (.slice (some ⟨g, 0, none⟩) (n + 1) c) ∧ w2 = (w.drew.setRow g A).setRow g B := by
  have mixed := mixed
  have TE : TyOk Tryd.prog 33 _ := tab_ok 33 _ rfl
  have TS : TyOk Tryd.prog 30 _ := tab_ok 30 _ rfl
  obtain ⟨ti, hti, htz, htb, _⟩ := TE.info
  have u92 := TS.isS rfl
  have hz1 : ¬ ((1 : Int) = 0) := by omega
  have hz2 : ¬ ((i : Int) = (n : Int)) := by omega
  have hw1 : IntKind.i64.wrap ((i : Int) + (1 : Int)) = (i : Int) + (1 : Int) := by unfold maxLen at hc63; rw [IntKind.wrap_i64]; omega
  have hw2 : IntKind.i64.wrap ((n : Int) + (1 : Int)) = (n : Int) + (1 : Int) := by unfold maxLen at hc63; rw [IntKind.wrap_i64]; omega
  have hb1 : (0 : Int) ≤ (i : Int) + (1 : Int) := by omega
  have hin : i ≤ n := by omega
  have htn : ((i : Int) + (1 : Int)).toNat = i + 1 := by omega
  have hb2 : ¬ (c = i + 1) := by omega
  have hb3 : (i : Int) ≤ (n : Int) + (1 : Int) := by omega
  have hb4 : ¬ (c = i) := by omega
  have hov : ∀ lb cb o, (callFunc 76 #[.slice (some ⟨g2, 0, none⟩) 1 c2, .slice (some ⟨g, o, none⟩) lb cb]).run Tryd.prog w = .ok (.value (.bool false)) w := fun lb cb o => by
    rw [run_callFunc_extern Tryd.func76 (by kernel_rfl) (by kernel_rfl) (by kernel_rfl) (e := Extern.SlicesOverlaps.overlaps #[30, 30] #[4]) (by kernel_rfl),
      Lib.run_overlaps_apart w 30 4 33 u92 5 (fun w => by simp [sizeOf, typeInfo, hti, htz]) ⟨g2, 0, none⟩ ⟨g, o, none⟩ 1 c2 lb cb hne 33 33 cur2.size cur.size (by simp [World.shape?, hg2]) (by simp [World.shape?, hg]) (by omega) (by simp [World.frozen?, hg2]) (by simp [World.frozen?, hg2])]
    rfl
  go_enter Tryd.func61, Tryd.ntmps61
  go_wp2_with (simp only [hov])
  go_region_law_o (refine step_run rfl (exec_copy rfl (by simp [Act.eval, Act.put]; rfl) (by simp [Act.eval, Act.put]; rfl) (hcp1 _ _ _)) ?_)
  go_wp2_with (at_builtin; refine wpList_run rfl (exec_copy rfl rfl rfl (hcp2 _ _)) ?_)
  go_ret
  exact ⟨rfl, rfl⟩

set_option maxHeartbeats 4000000 in
set_option maxRecDepth 100000 in
theorem slices_Insert_impl_Json_grow (w : World) (g c g2 c2 n i G : Nat) (R A B : Array Value) (hi : i < n) (hnc : n ≤ c) (hroom : c < n + 1) (hc63 : n + 1 ≤ maxLen) (hG : n + 1 ≤ G) (hGm : G ≤ maxLen)
  (hrz : ∀ ty, (Builtin.append_ #[30, 3] ty #[.slice (some ⟨g, 0, none⟩) i c, .int .i64 ((n : Int) + 1 - i)]).run Tryd.prog w = .ok (.slice (some ⟨w.heap.size, 0, none⟩) (n + 1) G) (w.drew.alloc (.cells R 33)))
  (hcp2 : ∀ ty dc, (Builtin.copy_ #[30, 30] ty #[.slice (some ⟨w.heap.size, i * 5, none⟩) (n + 1 - i) dc, .slice (some ⟨g2, 0, none⟩) 1 c2]).run Tryd.prog (w.alloc (.cells R 33)).drew = .ok (goInt (1 : Nat)) ((w.alloc (.cells R 33)).drew.setRow w.heap.size A))
  (hcp1 : ∀ ty dc sc, (Builtin.copy_ #[30, 30] ty #[.slice (some ⟨w.heap.size, (i + 1) * 5, none⟩) (n + 1 - (i + 1)) dc, .slice (some ⟨g, i * 5, none⟩) (n - i) sc]).run Tryd.prog ((w.alloc (.cells R 33)).drew.setRow w.heap.size A).drew = .ok (goInt (n - i : Nat)) (((w.alloc (.cells R 33)).drew.setRow w.heap.size A).drew.setRow w.heap.size B)) :
  Calls Tryd.prog 61 #[.slice (some ⟨g, 0, none⟩) n c, .int .i64 i, .slice (some ⟨g2, 0, none⟩) 1 c2] w fun ex w2 => ex = .returned (.slice (some ⟨w.heap.size, 0, none⟩) (n + 1) G) ∧ w2 = ((w.alloc (.cells R 33)).drew.setRow w.heap.size A).drew.setRow w.heap.size B := by
  have mixed := mixed
  have hz1 : ¬ ((1 : Int) = 0) := by omega
  have hz2 : ¬ ((i : Int) = (n : Int)) := by omega
  have hz3 : (c : Int) < (n : Int) + (1 : Int) := by omega
  have hw1 : IntKind.i64.wrap ((i : Int) + (1 : Int)) = (i : Int) + (1 : Int) := by unfold maxLen at hc63; rw [IntKind.wrap_i64]; omega
  have hw2 : IntKind.i64.wrap ((n : Int) + (1 : Int)) = (n : Int) + (1 : Int) := by unfold maxLen at hc63; rw [IntKind.wrap_i64]; omega
  have hw3 : IntKind.i64.wrap ((n : Int) + (1 : Int) - (i : Int)) = (n : Int) + (1 : Int) - (i : Int) := by unfold maxLen at hc63; rw [IntKind.wrap_i64]; omega
  have hb1 : (0 : Int) ≤ (i : Int) + (1 : Int) := by omega
  have hin : i ≤ n := by omega
  have htn : ((i : Int) + (1 : Int)).toNat = i + 1 := by omega
  have hGi : ¬ (G = i) := by omega
  have hGim : ¬ (G = i + 1) := by omega
  have hci : ¬ (c = i) := by omega
  have hb3 : (i : Int) ≤ (n : Int) := by omega
  go_enter Tryd.func61, Tryd.ntmps61
  go_wp2_with (first
    | (at_builtin; refine wpList_run rfl (exec_append rfl rfl rfl (hrz _)) ?_)
    | (at_builtin; refine wpList_run rfl (exec_copy rfl rfl rfl (hcp2 _ _)) ?_))
  go_region_law_o (refine step_run rfl (exec_copy rfl (by simp [Act.eval, Act.put]; rfl) (by simp [Act.eval, Act.put]; rfl) (hcp1 _ _ _)) ?_)
  go_wp2
  go_ret
  exact ⟨rfl, rfl⟩
theorem slices_Insert_impl_Json_roads : Roads Tryd.prog 61 30 33 5 3 where
  end0 := fun w g2 c2 v' w' h => slices_Insert_impl_Json_end0 w g2 c2 v' w' h
  end1 := fun w g c g2 c2 n v' w' hnc h => slices_Insert_impl_Json_end w g c g2 c2 n hnc v' w' h
  inn := fun w g c g2 c2 n i cur cur2 A B h1 h2 h3 h4 h5 h6 h7 h8 h9 => slices_Insert_impl_Json_in w g c g2 c2 n i cur cur2 A B h1 h2 h3 h4 h5 h6 h7 h8 h9
  grow := fun w g c g2 c2 n i G R A B h1 h2 h3 h4 h5 h6 h7 h8 h9 => slices_Insert_impl_Json_grow w g c g2 c2 n i G R A B h1 h2 h3 h4 h5 h6 h7 h8 h9
theorem slices_Insert_impl_Json_ac {a0 a2 : List Json} {a1 : Int} {r : List Json} (h : slices_Insert_impl_Json.f a0 a1 a2 = some r) : AC Tryd.prog 61 [.v (.ow 33 (rowsOf Json_o a0)), .v (.s (.int .i64 a1)), .v (.ow 33 (rowsOf Json_o a2))] [.v .jk, .v .jk, .v .jk] [.v (.ow 33 (rowsOf Json_o r))] := by
  unfold slices_Insert_impl_Json.f insO at h
  split at h
  · rename_i hc
    obtain ⟨h1, c0, c1, c2, c3⟩ := hc
    obtain ⟨i, rfl⟩ : ∃ k : Nat, a1 = k := ⟨a1.toNat, by omega⟩
    obtain ⟨x, rfl⟩ := List.length_eq_one_iff.1 h1
    simp only [Option.some.injEq] at h
    subst h
    have hr : rowsOf Json_o (a0.take ((i : Nat) : Int).toNat ++ [x] ++ a0.drop ((i : Nat) : Int).toNat) = (rowsOf Json_o a0).take i ++ [Json_o x] ++ (rowsOf Json_o a0).drop i := by simp [rowsOf, List.map_take, List.map_drop]
    rw [hr]
    have hl := rowsOf_len Json_o a0
    simp only [List.length_singleton] at c2 c3
    exact AC.of_ins ⟨_, Tryd.func61, by rfl, by rfl⟩ (cellsOf_ty (tab_ok 33 _ rfl)) (slices_Insert_impl_Json_roads.raw (tab_ok 30 _ rfl) rfl (tab_ok 33 _ rfl) (by simp) (underlying_int (tab_ok 3 _ rfl) rfl)) (by omega) (by rw [hl]; show (a0.length + 1) * 80 ≤ _; omega) (by omega)
  · cases h


set_option maxRecDepth 8000 in
theorem impl_objOf_ac {a0 : List ByteArray} {a1 : List Int} {r : Json} (h : impl_objOf.f a0 a1 = some r) : AC Tryd.prog 36 [.v (.im false (rowsOf Str_c a0)), .v (.im false (rowsOf Int_c a1))] [.v (.jk), .v (.jk)] [.ag [.s (.int .i64 r.Kind), .s (.int .i64 r.N), .s (.string r.S), .ow 33 (rowsOf Json_o r.List_), .ow 9 (rowsOf Str_c r.Names)]] := by
  unfold impl_objOf.f at h
  let ar := Ls.ar; let cm := Ls.cm; let bo := Ls.bo; let sc := Ls.sc; let sa := Ls.sa; let sx := Ls.sx; let ss := Ls.ss; let sl := Ls.sl; let bs := Ls.bs; let sb := Ls.sb; let ln := Ls.ln; let sr := Ls.sr; let ap := Ls.ap; let up := Ls.up; let rp := Ls.rp; let fr := Ls.fr; let ge := Ls.ge; let le := Ls.le; let lt := Ls.lt; let nz := Ls.nz; let mm := Ls.mm; let ma := Ls.ma; let sm := Ls.sm; let fl := Ls.fl; let al := Ls.al; let ci := Ls.ci
  let eInt_c := rowsOf Int_c
  let eJson_o := rowsOf Json_o
  let eStr_c := rowsOf Str_c
  let lenI_Str := @lenI ByteArray
  have hL : (⟨ar, cm, bo, sc, sa, sx, ss, sl, bs, sb, ln, sr, ap, up, rp, fr, ge, le, lt, nz, mm, ma, sm, fl, al, ci⟩ : Lf) = Ls := rfl
  show AC Tryd.prog 36 [.v (.im false (eStr_c a0)), .v (.im false (eInt_c a1))] _ _
  refine AC.of_run2 tab_ok Tryd.func36 (by rfl) (by rfl) (by cbv) ⟨by decide, rfl⟩ fun F hP hA => ?_
  have hT : TabOk F.P tab := hP ▸ tab_ok
  have hM : F.P.follows .mixedOrders = true := hP ▸ mixed
  have hC : ∀ {f a o r}, AC Tryd.prog f a o r → AC F.P f a o r := fun h => hP ▸ h
  refine Run.seq ?_
  refine Run.region hL hT [] (by cbv) ?_ ?_
  · exact hq0
  refine Run.seq ?_
  refine Run.region hL hT [] (by cbv) ?_ ?_
  · exact (hq trivial hq0)
  refine Run.seq ?_
  refine Run.seq ?_
  refine Run.region hL hT [] (by cbv) ?_ ?_
  · exact hq0
  rw [show ln (eStr_c a0) = lenI_Str a0 from ln_eq Str_c _]
  refine Run.block ?_
  refine Run.loop3 (fun (z23 : List Json) (z24 : List ByteArray) (z25 : Int) => ⟨45, 100000, [(1, .t (.im false (eInt_c a1))), (4, .pt 1 0 0), (5, .pt 2 0 0), (11, .t (.im false (eStr_c a0))), (12, .t (.s (.int .i64 (lenI_Str a0)))), (13, .t (.s (.int .i64 z25)))], [(1, .box 33 [.t (.s (.int .i64 0)), .t (.s (.int .i64 0)), .t (.s (.string ByteArray.empty)), .t (.s (.slice none 0 0)), .t (.s (.slice none 0 0))]), (2, .box 33 [.t (.s (.int .i64 5)), .t (.s (.int .i64 0)), .t (.s (.string ByteArray.empty)), .rf 3, .rf 4]), (3, .row 0 33 5 (eJson_o z23)), (4, .row 0 9 1 (eStr_c z24))]⟩) (x0 := []) (x1 := []) (x2 := 0) h ((Weak.nilB (l := [.t (.s (.int .i64 5)), .t (.s (.int .i64 0)), .t (.s (.string ByteArray.empty))]) hT 4097 3 13288 33 rfl (by cbv) (by cbv) (by cbv)).trans ((Weak.nilB (l := [.t (.s (.int .i64 5)), .t (.s (.int .i64 0)), .t (.s (.string ByteArray.empty)), .rf 13288]) hT 4097 4 13289 9 rfl (by cbv) (by cbv) (by cbv)).trans (Weak.of _ [(1, 0), (2, 4097), (3, 13288), (4, 13289)] hA (by cbv) ?_))) (fun _ _ _ => rfl) ?_
  · repeat (first | exact hq0 | refine hq (by first | exact True.intro | rfl) ?_)
  · intro k z23 z24 z25 h
    rw [impl_objOf.l0] at h
    refine Run.seq ?_
    refine Run.region hL hT [] (by cbv) ?_ ?_
    · exact (hq trivial hq0)
    refine Run.seq ?_
    refine Run.cond (by cbv) (hq0) (fun c26 => ?_) (fun c26 => ?_)
    · have h := if_t c26 h
      refine Run.skip ?_
      refine Run.seq ?_
      refine Run.block ?_
      refine Run.seq ?_
      obtain ⟨x27, h_x27, h⟩ := bnd h
      refine Run.region hL hT [(1, .el [.s (.string x27)])] (by cbv) ?_ ?_
      · exact (hq (get_le h_x27) (hq (get_lt (f := Str_c) h_x27) (hq (get_ge (f := Str_c) h_x27) hq0)))
      refine Run.seq ?_
      obtain ⟨⟨r28v_1, r28v_2⟩, h_r28, h⟩ := bnd h
      refine Run.region hL hT [(3, .call [false, false] [.v (.jk), .v (.jk)] [.v (.s (.int .i64 r28v_1)), .v (.s (.bool r28v_2))])] (by cbv) ?_ ?_
      · exact (hq trivial (hq (hC (AC.args (slices_BinarySearch_string_ac h_r28) (ALe.v (LLe.im (RLe.eq (fr_row Str_c_z _))) (ALe.v LLe.r ALe.nil)))) hq0))
      refine Run.seq ?_
      obtain ⟨l29, h_l29, h⟩ := bnd h
      obtain ⟨r30, h_r30, h⟩ := bnd h
      refine Run.region hL hT [(5, .call [true, false, true] [.v (.jk), .v (.jk), .v (.jk)] [.v (.ow 9 (eStr_c r30))])] (by cbv) ?_ ?_
      · exact (hq trivial (hq (hC (AC.args (slices_Insert_string_ac h_r30) (ALe.v LLe.r (ALe.v LLe.r (ALe.v (LLe.ow (some_le (f := Str_c) h_l29 (RLe.cons rfl LLe.r RLe.nil))) ALe.nil))))) (hq trivial hq0)))
      obtain ⟨x31, h_x31, h⟩ := bnd h
      obtain ⟨l32, h_l32, h⟩ := bnd h
      obtain ⟨r33, h_r33, h⟩ := bnd h
      refine Run.draw hL hT hM [(5, .el [.s (.int .i64 x31)]), (9, .call [true, false, true] [.v (.jk), .v (.jk), .v (.jk)] [.v (.ow 33 (eJson_o r33))])] (by cbv) (by cbv) (by cbv) (by cbv) (by cbv) ?_ ?_
      · exact (hq trivial (hq (get_le h_x31) (hq (get_lt (f := Int_c) h_x31) (hq (get_ge (f := Int_c) h_x31) (hq (hC (AC.args (slices_Insert_impl_Json_ac h_r33) (ALe.v LLe.r (ALe.v LLe.r (ALe.v (LLe.ow (some_leU Json_o_u h_l32 (RLe.cons rfl (LLe.c (LLe.c (LLe.c (LLe.cons LLe.nilO (LLe.cons LLe.nilO LLe.nil))))) RLe.nil))) ALe.nil))))) (hq trivial hq0))))))
      refine Run.region hL hT [] (by cbv) ?_ ?_
      · exact (hq trivial hq0)
      refine ⟨r33, r30, (ar .add .i64 z25 1), h, Weak.of _ [(1, 1), (2, 2), (3, 116393), (4, 112293)] hA (by cbv) ?_⟩
      repeat (first | exact hq0 | refine hq (by first | exact True.intro | rfl) ?_)
    · have h := if_f c26 h
      refine Run.exit ?_
      refine Run.seq ?_
      refine Run.region hL hT [] (by cbv) ?_ ?_
      · exact (hq trivial (hq trivial hq0))
      refine Run.ret ?_
      cases h
      refine ⟨_, _, by cbv, ?_, ?_⟩
      · exact LLe.r
      · exact (ALe.ag rfl LLe.r ALe.nil)

set_option maxRecDepth 8000 in
theorem impl_RowDoc_ac {a0v_Table : Int} {a0v_Where : List Cond} {a0v_Order : Int} {a0v_Down : Bool} {a0v_First : Int} {a0v_Show : List Int} {a0v_Kids : Bool} {a0v_KidTable : Int} {a0v_KidCol : Int} {a1v_Id : Int} {a1v_Cells : List Int} {a2 : Int} {r : Json} (h : impl_RowDoc.f (Query.mk a0v_Table a0v_Where a0v_Order a0v_Down a0v_First a0v_Show a0v_Kids a0v_KidTable a0v_KidCol) (Row.mk a1v_Id a1v_Cells) a2 = some r) : AC Tryd.prog 10 [.ag [.s (.int .i64 a0v_Table), .im false (rowsOf Cond_c a0v_Where), .s (.int .i64 a0v_Order), .s (.bool a0v_Down), .s (.int .i64 a0v_First), .im false (rowsOf Int_c a0v_Show), .s (.bool a0v_Kids), .s (.int .i64 a0v_KidTable), .s (.int .i64 a0v_KidCol)], .ag [.s (.int .i64 a1v_Id), .im false (rowsOf Int_c a1v_Cells)], .v (.s (.int .i64 a2))] [.ag [.jk, .jk, .jk, .jk, .jk, .jk, .jk, .jk, .jk], .ag [.jk, .jk], .v (.jk)] [.ag [.s (.int .i64 r.Kind), .s (.int .i64 r.N), .s (.string r.S), .ow 33 (rowsOf Json_o r.List_), .ow 9 (rowsOf Str_c r.Names)]] := by
  unfold impl_RowDoc.f at h
  let ar := Ls.ar; let cm := Ls.cm; let bo := Ls.bo; let sc := Ls.sc; let sa := Ls.sa; let sx := Ls.sx; let ss := Ls.ss; let sl := Ls.sl; let bs := Ls.bs; let sb := Ls.sb; let ln := Ls.ln; let sr := Ls.sr; let ap := Ls.ap; let up := Ls.up; let rp := Ls.rp; let fr := Ls.fr; let ge := Ls.ge; let le := Ls.le; let lt := Ls.lt; let nz := Ls.nz; let mm := Ls.mm; let ma := Ls.ma; let sm := Ls.sm; let fl := Ls.fl; let al := Ls.al; let ci := Ls.ci
  let eCond_c := rowsOf Cond_c
  let eInt_c := rowsOf Int_c
  let eJson_o := rowsOf Json_o
  let eStr_c := rowsOf Str_c
  let lenI_Int := @lenI Int
  have hL : (⟨ar, cm, bo, sc, sa, sx, ss, sl, bs, sb, ln, sr, ap, up, rp, fr, ge, le, lt, nz, mm, ma, sm, fl, al, ci⟩ : Lf) = Ls := rfl
  show AC Tryd.prog 10 [.ag [.s (.int .i64 a0v_Table), .im false (eCond_c a0v_Where), .s (.int .i64 a0v_Order), .s (.bool a0v_Down), .s (.int .i64 a0v_First), .im false (eInt_c a0v_Show), .s (.bool a0v_Kids), .s (.int .i64 a0v_KidTable), .s (.int .i64 a0v_KidCol)], .ag [.s (.int .i64 a1v_Id), .im false (eInt_c a1v_Cells)], .v (.s (.int .i64 a2))] _ _
  refine AC.of_run2 tab_ok Tryd.func10 (by rfl) (by rfl) (by cbv) ⟨by decide, rfl⟩ fun F hP hA => ?_
  have hT : TabOk F.P tab := hP ▸ tab_ok
  have hM : F.P.follows .mixedOrders = true := hP ▸ mixed
  have hC : ∀ {f a o r}, AC Tryd.prog f a o r → AC F.P f a o r := fun h => hP ▸ h
  refine Run.seq ?_
  refine Run.region hL hT [] (by cbv) ?_ ?_
  · exact hq0
  refine Run.seq ?_
  obtain ⟨l1, h_l1, h⟩ := bnd h
  obtain ⟨l2, h_l2, h⟩ := bnd h
  refine Run.draw hL hT hM [] (by cbv) (by cbv) (by cbv) (by cbv) (by cbv) ?_ ?_
  · exact (hq trivial hq0)
  refine Run.row (rows := [[.s (.string (ByteArray.mk #[105, 100]))]]) 4096 (eStr_c l1) (by cbv) (some_le (f := Str_c) h_l1 (RLe.cons rfl LLe.r RLe.nil)) ?_
  refine Run.row (rows := [[.s (.int .i64 a1v_Id)]]) 4099 (eInt_c l2) (by cbv) (some_le (f := Int_c) h_l2 (RLe.cons rfl LLe.r RLe.nil)) ?_
  obtain ⟨K5, h_K5, h⟩ := joinE h
  refine Run.join2 K5 (r := r) (fun (y3 : List ByteArray) (y4 : List Int) => ⟨55, 100000, [(2, .t (.s (.int .i64 a2))), (3, .pt 1 0 0), (6, .pt 2 0 0), (7, .rf 3), (8, .rf 4)], [(1, .box 37 [.t (.s (.int .i64 a0v_Table)), .t (.im false (eCond_c a0v_Where)), .t (.s (.int .i64 a0v_Order)), .t (.s (.bool a0v_Down)), .t (.s (.int .i64 a0v_First)), .t (.im false (eInt_c a0v_Show)), .t (.s (.bool a0v_Kids)), .t (.s (.int .i64 a0v_KidTable)), .t (.s (.int .i64 a0v_KidCol))]), (2, .box 33 [.t (.s (.int .i64 0)), .t (.s (.int .i64 0)), .t (.s (.string ByteArray.empty)), .t (.s (.slice none 0 0)), .t (.s (.slice none 0 0))]), (3, .row 0 9 1 (eStr_c y3)), (4, .row 0 3 1 (eInt_c y4))]⟩) ?_ ?_
  · skip
    refine Run.seq ?_
    refine Run.region hL hT [] (by cbv) ?_ ?_
    · exact (hq trivial hq0)
    rw [show ln (eInt_c a0v_Show) = lenI_Int a0v_Show from ln_eq Int_c _]
    refine Run.block ?_
    refine Run.loop3 (fun (z26 : List ByteArray) (z27 : List Int) (z28 : Int) => ⟨55, 100000, [(2, .t (.s (.int .i64 a2))), (3, .pt 1 0 0), (4, .pt 2 0 0), (6, .pt 3 0 0), (7, .rf 4), (8, .rf 5), (16, .t (.im false (eInt_c a0v_Show))), (17, .t (.s (.int .i64 (lenI_Int a0v_Show)))), (18, .t (.s (.int .i64 z28)))], [(1, .box 37 [.t (.s (.int .i64 a0v_Table)), .t (.im false (eCond_c a0v_Where)), .t (.s (.int .i64 a0v_Order)), .t (.s (.bool a0v_Down)), .t (.s (.int .i64 a0v_First)), .t (.im false (eInt_c a0v_Show)), .t (.s (.bool a0v_Kids)), .t (.s (.int .i64 a0v_KidTable)), .t (.s (.int .i64 a0v_KidCol))]), (2, .box 39 [.t (.s (.int .i64 a1v_Id)), .t (.im false (eInt_c a1v_Cells))]), (3, .box 33 [.t (.s (.int .i64 0)), .t (.s (.int .i64 0)), .t (.s (.string ByteArray.empty)), .t (.s (.slice none 0 0)), .t (.s (.slice none 0 0))]), (4, .row 0 9 1 (eStr_c z26)), (5, .row 0 3 1 (eInt_c z27))]⟩) (x0 := l1) (x1 := l2) (x2 := 0) h (Weak.of _ [(1, 0), (2, 1), (3, 2), (4, 4096), (5, 4099)] hA (by cbv) ?_) (fun _ _ _ => rfl) ?_
    · repeat (first | exact hq0 | refine hq (by first | exact True.intro | rfl) ?_)
    · intro k z26 z27 z28 h
      rw [impl_RowDoc.l0] at h
      refine Run.seq ?_
      refine Run.region hL hT [] (by cbv) ?_ ?_
      · exact (hq trivial hq0)
      refine Run.seq ?_
      refine Run.cond (by cbv) (hq0) (fun c29 => ?_) (fun c29 => ?_)
      · have h := if_t c29 h
        refine Run.skip ?_
        refine Run.seq ?_
        refine Run.block ?_
        refine Run.seq ?_
        obtain ⟨x30, h_x30, h⟩ := bnd h
        refine Run.region hL hT [(1, .el [.s (.int .i64 x30)])] (by cbv) ?_ ?_
        · exact (hq (get_le h_x30) (hq (get_lt (f := Int_c) h_x30) (hq (get_ge (f := Int_c) h_x30) hq0)))
        refine Run.seq ?_
        refine Run.seq ?_
        obtain ⟨l31, h_l31, h⟩ := bnd h
        obtain ⟨r32, h_r32, h⟩ := bnd h
        refine Run.region hL hT [(5, .call [false, false] [.v (.jk), .v (.jk)] [.v (.s (.bool r32))])] (by cbv) ?_ ?_
        · exact (hq trivial (hq (cut_0 h_l31) (hq (cut_1 h_l31) (hq (cut_2 (f := Int_c) h_l31) (hq (al_row Int_c_n _) (hq (hC (AC.args (slices_Contains_int_ac h_r32) (ALe.v (LLe.im (RLe.eq (cut_sr Int_c h_l31))) (ALe.v LLe.r ALe.nil)))) hq0))))))
        rw [show sr (eInt_c a0v_Show) 0 z28 = eInt_c l31 from cut_sr Int_c h_l31]
        refine Run.cond (by cbv) (hq0) (fun c33 => ?_) (fun c33 => ?_)
        · have h := if_t c33 h
          refine Run.exit ?_
          refine Run.region hL hT [] (by cbv) ?_ ?_
          · exact (hq trivial hq0)
          refine ⟨z26, z27, (ar .add .i64 z28 1), h, Weak.of _ [(1, 1), (2, 2), (3, 3), (4, 4), (5, 5)] hA (by cbv) ?_⟩
          repeat (first | exact hq0 | refine hq (by first | exact True.intro | rfl) ?_)
        · have h := if_f c33 h
          refine Run.skip ?_
          refine Run.seq ?_
          obtain ⟨r34, h_r34, h⟩ := bnd h
          obtain ⟨u35, h_u35, h⟩ := bnd h
          obtain ⟨l36, h_l36, h⟩ := bnd h
          obtain ⟨l37, h_l37, h⟩ := bnd h
          refine Run.region hL hT [(2, .call [false] [.v (.jk)] [.v (.s (.string r34))])] (by cbv) ?_ ?_
          · exact (hq (hC (impl_digits_ac h_r34)) (hq (sm_t h_u35) (hq (app_mb (P := Tryd.prog) (f := Str_c) RLe.r (some_le (f := Str_c) h_l36 (RLe.cons rfl LLe.r RLe.nil)) h_l37) hq0)))
          refine Run.row (rows := (ap (eStr_c z26) ([[.s (.string (sa (ByteArray.mk #[99]) r34))]]))) 112293 (eStr_c l37) (by cbv) (app_le (f := Str_c) RLe.r (some_le (f := Str_c) h_l36 (RLe.cons rfl LLe.r RLe.nil)) h_l37) ?_
          obtain ⟨r38, h_r38, h⟩ := bnd h
          obtain ⟨l39, h_l39, h⟩ := bnd h
          obtain ⟨l40, h_l40, h⟩ := bnd h
          refine Run.region hL hT [(3, .call [false, false] [.ag [.jk, .jk], .v (.jk)] [.v (.s (.int .i64 r38))])] (by cbv) ?_ ?_
          · exact (hq trivial (hq (hC (impl_cellOf_ac h_r38)) (hq (app_mb (P := Tryd.prog) (f := Int_c) RLe.r (some_le (f := Int_c) h_l39 (RLe.cons rfl LLe.r RLe.nil)) h_l40) hq0)))
          refine Run.row (rows := (ap (eInt_c z27) ([[.s (.int .i64 r38)]]))) 116389 (eInt_c l40) (by cbv) (app_le (f := Int_c) RLe.r (some_le (f := Int_c) h_l39 (RLe.cons rfl LLe.r RLe.nil)) h_l40) ?_
          refine Run.region hL hT [] (by cbv) ?_ ?_
          · exact (hq trivial hq0)
          refine ⟨l37, l40, (ar .add .i64 z28 1), h, Weak.of _ [(1, 1), (2, 2), (3, 3), (4, 112293), (5, 116389)] hA (by cbv) ?_⟩
          repeat (first | exact hq0 | refine hq (by first | exact True.intro | rfl) ?_)
      · have h := if_f c29 h
        refine Run.exit ?_
        refine ⟨z26, z27, h, Weak.of _ [(1, 1), (2, 3), (3, 4), (4, 5)] hA (by cbv) ?_⟩
        repeat (first | exact hq0 | refine hq (by first | exact True.intro | rfl) ?_)
  · intro y3 y4 h
    rw [h_K5] at h
    obtain ⟨K43, h_K43, h⟩ := joinE h
    refine Run.join2 K43 (r := r) (fun (y41 : List ByteArray) (y42 : List Int) => ⟨55, 100000, [(6, .pt 1 0 0), (7, .rf 2), (8, .rf 3)], [(1, .box 33 [.t (.s (.int .i64 0)), .t (.s (.int .i64 0)), .t (.s (.string ByteArray.empty)), .t (.s (.slice none 0 0)), .t (.s (.slice none 0 0))]), (2, .row 0 9 1 (eStr_c y41)), (3, .row 0 3 1 (eInt_c y42))]⟩) ?_ ?_
    · skip
      refine Run.seq ?_
      refine Run.region hL hT [] (by cbv) ?_ ?_
      · exact (hq trivial hq0)
      refine Run.cond (by cbv) (hq0) (fun c44 => ?_) (fun c44 => ?_)
      · have h := if_t c44 h
        refine Run.seq ?_
        obtain ⟨l45, h_l45, h⟩ := bnd h
        obtain ⟨l46, h_l46, h⟩ := bnd h
        refine Run.region hL hT [] (by cbv) ?_ ?_
        · exact (hq (app_mb (P := Tryd.prog) (f := Str_c) RLe.r (some_le (f := Str_c) h_l45 (RLe.cons rfl LLe.r RLe.nil)) h_l46) hq0)
        refine Run.row (rows := (ap (eStr_c y3) ([[.s (.string (ByteArray.mk #[107, 105, 100, 115]))]]))) 104098 (eStr_c l46) (by cbv) (app_le (f := Str_c) RLe.r (some_le (f := Str_c) h_l45 (RLe.cons rfl LLe.r RLe.nil)) h_l46) ?_
        obtain ⟨l47, h_l47, h⟩ := bnd h
        obtain ⟨l48, h_l48, h⟩ := bnd h
        refine Run.region hL hT [] (by cbv) ?_ ?_
        · exact (hq (app_mb (P := Tryd.prog) (f := Int_c) RLe.r (some_le (f := Int_c) h_l47 (RLe.cons rfl LLe.r RLe.nil)) h_l48) hq0)
        refine ⟨l46, l48, h, (Weak.row (rows := (ap (eInt_c y4) ([[.s (.int .i64 a2)]]))) 108195 (eInt_c l48) (by cbv) (app_le (f := Int_c) RLe.r (some_le (f := Int_c) h_l47 (RLe.cons rfl LLe.r RLe.nil)) h_l48)).trans (Weak.of _ [(1, 2), (2, 104098), (3, 108195)] hA (by cbv) ?_)⟩
        repeat (first | exact hq0 | refine hq (by first | exact True.intro | rfl) ?_)
      · have h := if_f c44 h
        refine Run.skip ?_
        refine ⟨y3, y4, h, Weak.of _ [(1, 2), (2, 3), (3, 4)] hA (by cbv) ?_⟩
        repeat (first | exact hq0 | refine hq (by first | exact True.intro | rfl) ?_)
    · intro y41 y42 h
      rw [h_K43] at h
      refine Run.seq ?_
      obtain ⟨⟨r49v_Kind, r49v_N, r49v_S, r49v_List_, r49v_Names⟩, h_r49, h⟩ := bnd h
      obtain ⟨⟨r50v_Kind, r50v_N, r50v_S, r50v_List_, r50v_Names⟩, h_r50, h⟩ := bnd h
      refine Run.region hL hT [(2, .call [false, false] [.v (.jk), .v (.jk)] [.ag [.s (.int .i64 r49v_Kind), .s (.int .i64 r49v_N), .s (.string r49v_S), .ow 33 (eJson_o r49v_List_), .ow 9 (eStr_c r49v_Names)]]), (3, .call [true] [.ag [.jk, .jk, .jk, .jk, .jk]] [.ag [.s (.int .i64 r50v_Kind), .s (.int .i64 r50v_N), .s (.string r50v_S), .ow 33 (eJson_o r50v_List_), .ow 9 (eStr_c r50v_Names)]])] (by cbv) ?_ ?_
      · exact (hq (hC (AC.args (impl_objOf_ac h_r49) (ALe.v (LLe.im (RLe.eq (fr_row Str_c_z _))) (ALe.v (LLe.im (RLe.eq (fr_row Int_c_z _))) ALe.nil)))) (hq (hC (impl_orNull_ac h_r50)) (hq trivial hq0)))
      refine Run.ret ?_
      cases h
      refine ⟨_, _, by cbv, ?_, ?_⟩
      · exact LLe.r
      · exact (ALe.ag rfl LLe.r ALe.nil)

set_option maxRecDepth 8000 in
theorem impl_firstOf_ac {a0v_Table : Int} {a0v_Where : List Cond} {a0v_Order : Int} {a0v_Down : Bool} {a0v_First : Int} {a0v_Show : List Int} {a0v_Kids : Bool} {a0v_KidTable : Int} {a0v_KidCol : Int} {a1 : Int} {r : Int} (h : impl_firstOf.f (Query.mk a0v_Table a0v_Where a0v_Order a0v_Down a0v_First a0v_Show a0v_Kids a0v_KidTable a0v_KidCol) a1 = some r) : AC Tryd.prog 66 [.ag [.s (.int .i64 a0v_Table), .im false (rowsOf Cond_c a0v_Where), .s (.int .i64 a0v_Order), .s (.bool a0v_Down), .s (.int .i64 a0v_First), .im false (rowsOf Int_c a0v_Show), .s (.bool a0v_Kids), .s (.int .i64 a0v_KidTable), .s (.int .i64 a0v_KidCol)], .v (.s (.int .i64 a1))] [.ag [.jk, .jk, .jk, .jk, .jk, .jk, .jk, .jk, .jk], .v (.jk)] [.v (.s (.int .i64 r))] := by
  unfold impl_firstOf.f at h
  let ar := Ls.ar; let cm := Ls.cm; let bo := Ls.bo; let sc := Ls.sc; let sa := Ls.sa; let sx := Ls.sx; let ss := Ls.ss; let sl := Ls.sl; let bs := Ls.bs; let sb := Ls.sb; let ln := Ls.ln; let sr := Ls.sr; let ap := Ls.ap; let up := Ls.up; let rp := Ls.rp; let fr := Ls.fr; let ge := Ls.ge; let le := Ls.le; let lt := Ls.lt; let nz := Ls.nz; let mm := Ls.mm; let ma := Ls.ma; let sm := Ls.sm; let fl := Ls.fl; let al := Ls.al; let ci := Ls.ci
  let eCond_c := rowsOf Cond_c
  let eInt_c := rowsOf Int_c
  have hL : (⟨ar, cm, bo, sc, sa, sx, ss, sl, bs, sb, ln, sr, ap, up, rp, fr, ge, le, lt, nz, mm, ma, sm, fl, al, ci⟩ : Lf) = Ls := rfl
  show AC Tryd.prog 66 [.ag [.s (.int .i64 a0v_Table), .im false (eCond_c a0v_Where), .s (.int .i64 a0v_Order), .s (.bool a0v_Down), .s (.int .i64 a0v_First), .im false (eInt_c a0v_Show), .s (.bool a0v_Kids), .s (.int .i64 a0v_KidTable), .s (.int .i64 a0v_KidCol)], .v (.s (.int .i64 a1))] _ _
  refine AC.of_run2 tab_ok Tryd.func66 (by rfl) (by rfl) (by cbv) ⟨by decide, rfl⟩ fun F hP hA => ?_
  have hT : TabOk F.P tab := hP ▸ tab_ok
  have hM : F.P.follows .mixedOrders = true := hP ▸ mixed
  have hC : ∀ {f a o r}, AC Tryd.prog f a o r → AC F.P f a o r := fun h => hP ▸ h
  refine Run.seq ?_
  refine Run.region hL hT [] (by cbv) ?_ ?_
  · exact hq0
  refine Run.seq ?_
  refine Run.seq ?_
  refine Run.region hL hT [] (by cbv) ?_ ?_
  · exact (hq trivial (hq trivial hq0))
  refine Run.cond (by cbv) (hq0) (fun c1 => ?_) (fun c1 => ?_)
  · have h := if_t c1 h
    refine Run.seq ?_
    refine Run.region hL hT [] (by cbv) ?_ ?_
    · exact hq0
    refine Run.ret ?_
    cases h
    refine ⟨_, _, by cbv, ?_, ?_⟩
    · exact LLe.r
    · exact (ALe.v LLe.r ALe.nil)
  · have h := if_f c1 h
    refine Run.skip ?_
    refine Run.seq ?_
    obtain ⟨m2, h_m2, h⟩ := bnd h
    obtain ⟨m3, h_m3, h⟩ := bnd h
    refine Run.region hL hT [(2, .hd [] (.t (.s (.int .i64 m2))) []), (4, .hd [] (.t (.s (.int .i64 m3))) [])] (by cbv) ?_ ?_
    · exact (hq trivial (hq (hand_max h_m2) (hq (hand_min h_m3) hq0)))
    refine Run.ret ?_
    cases h
    refine ⟨_, _, by cbv, ?_, ?_⟩
    · exact LLe.r
    · exact (ALe.v LLe.r ALe.nil)

set_option maxRecDepth 8000 in
theorem impl_rowDocs_ac {a0v_Table : Int} {a0v_Where : List Cond} {a0v_Order : Int} {a0v_Down : Bool} {a0v_First : Int} {a0v_Show : List Int} {a0v_Kids : Bool} {a0v_KidTable : Int} {a0v_KidCol : Int} {a1 : List Row} {a2 : List Int} {r : (List Json)} (h : impl_rowDocs.f (Query.mk a0v_Table a0v_Where a0v_Order a0v_Down a0v_First a0v_Show a0v_Kids a0v_KidTable a0v_KidCol) a1 a2 = some r) : AC Tryd.prog 47 [.ag [.s (.int .i64 a0v_Table), .im false (rowsOf Cond_c a0v_Where), .s (.int .i64 a0v_Order), .s (.bool a0v_Down), .s (.int .i64 a0v_First), .im false (rowsOf Int_c a0v_Show), .s (.bool a0v_Kids), .s (.int .i64 a0v_KidTable), .s (.int .i64 a0v_KidCol)], .v (.im false (rowsOf Row_i a1)), .v (.im false (rowsOf Int_c a2))] [.ag [.jk, .jk, .jk, .jk, .jk, .jk, .jk, .jk, .jk], .v (.jk), .v (.jk)] [.v (.ow 33 (rowsOf Json_o r))] := by
  unfold impl_rowDocs.f at h
  let ar := Ls.ar; let cm := Ls.cm; let bo := Ls.bo; let sc := Ls.sc; let sa := Ls.sa; let sx := Ls.sx; let ss := Ls.ss; let sl := Ls.sl; let bs := Ls.bs; let sb := Ls.sb; let ln := Ls.ln; let sr := Ls.sr; let ap := Ls.ap; let up := Ls.up; let rp := Ls.rp; let fr := Ls.fr; let ge := Ls.ge; let le := Ls.le; let lt := Ls.lt; let nz := Ls.nz; let mm := Ls.mm; let ma := Ls.ma; let sm := Ls.sm; let fl := Ls.fl; let al := Ls.al; let ci := Ls.ci
  let eCond_c := rowsOf Cond_c
  let eInt_c := rowsOf Int_c
  let eJson_o := rowsOf Json_o
  let eRow_i := rowsOf Row_i
  let eStr_c := rowsOf Str_c
  let lenI_Int := @lenI Int
  let lenI_Row := @lenI Row
  have hL : (⟨ar, cm, bo, sc, sa, sx, ss, sl, bs, sb, ln, sr, ap, up, rp, fr, ge, le, lt, nz, mm, ma, sm, fl, al, ci⟩ : Lf) = Ls := rfl
  show AC Tryd.prog 47 [.ag [.s (.int .i64 a0v_Table), .im false (eCond_c a0v_Where), .s (.int .i64 a0v_Order), .s (.bool a0v_Down), .s (.int .i64 a0v_First), .im false (eInt_c a0v_Show), .s (.bool a0v_Kids), .s (.int .i64 a0v_KidTable), .s (.int .i64 a0v_KidCol)], .v (.im false (eRow_i a1)), .v (.im false (eInt_c a2))] _ _
  refine AC.of_run2 tab_ok Tryd.func47 (by rfl) (by rfl) (by cbv) ⟨by decide, rfl⟩ fun F hP hA => ?_
  have hT : TabOk F.P tab := hP ▸ tab_ok
  have hM : F.P.follows .mixedOrders = true := hP ▸ mixed
  have hC : ∀ {f a o r}, AC Tryd.prog f a o r → AC F.P f a o r := fun h => hP ▸ h
  refine Run.seq ?_
  refine Run.region hL hT [] (by cbv) ?_ ?_
  · exact hq0
  refine Run.seq ?_
  refine Run.region hL hT [] (by cbv) ?_ ?_
  · exact hq0
  refine Run.seq ?_
  refine Run.seq ?_
  obtain ⟨r1, h_r1, h⟩ := bnd h
  obtain ⟨l2, h_l2, h⟩ := bnd h
  refine Run.region hL hT [(4, .call [false, false] [.ag [.jk, .jk, .jk, .jk, .jk, .jk, .jk, .jk, .jk], .v (.jk)] [.v (.s (.int .i64 r1))])] (by cbv) ?_ ?_
  · exact (hq trivial (hq (by rw [show ln (eRow_i a1) = lenI_Row a1 from ln_eq Row_i _]; exact (hC (impl_firstOf_ac h_r1))) (hq (cut_0 h_l2) (hq (cut_1 h_l2) (hq (cut_2 (f := Row_i) h_l2) (hq (al_row Row_i_n _) hq0))))))
  rw [show sr (eRow_i a1) 0 r1 = eRow_i l2 from cut_sr Row_i h_l2]
  rw [show ln (eRow_i a1) = lenI_Row a1 from ln_eq Row_i _]
  rw [show ln (eRow_i l2) = lenI_Row l2 from ln_eq Row_i _]
  refine Run.block ?_
  refine Run.loop2 (fun (z17 : List Json) (z18 : Int) => ⟨41, 100000, [(2, .t (.im false (eInt_c a2))), (3, .pt 1 0 0), (7, .rf 2), (17, .t (.im false (eRow_i l2))), (18, .t (.s (.int .i64 (lenI_Row l2)))), (19, .t (.s (.int .i64 z18)))], [(1, .box 37 [.t (.s (.int .i64 a0v_Table)), .t (.im false (eCond_c a0v_Where)), .t (.s (.int .i64 a0v_Order)), .t (.s (.bool a0v_Down)), .t (.s (.int .i64 a0v_First)), .t (.im false (eInt_c a0v_Show)), .t (.s (.bool a0v_Kids)), .t (.s (.int .i64 a0v_KidTable)), .t (.s (.int .i64 a0v_KidCol))]), (2, .row 0 33 5 (eJson_o z17))]⟩) (x0 := []) (x1 := 0) h (Weak.of _ [(1, 0), (2, 4096)] hA (by cbv) ?_) (fun _ _ => rfl) ?_
  · repeat (first | exact hq0 | refine hq (by first | exact True.intro | rfl) ?_)
  · intro k z17 z18 h
    rw [impl_rowDocs.l0] at h
    refine Run.seq ?_
    refine Run.region hL hT [] (by cbv) ?_ ?_
    · exact (hq trivial hq0)
    refine Run.seq ?_
    refine Run.cond (by cbv) (hq0) (fun c19 => ?_) (fun c19 => ?_)
    · have h := if_t c19 h
      refine Run.skip ?_
      refine Run.seq ?_
      refine Run.block ?_
      refine Run.seq ?_
      obtain ⟨⟨x20v_Id, x20v_Cells⟩, h_x20, h⟩ := bnd h
      refine Run.region hL hT [(1, .el [.s (.int .i64 x20v_Id), .im false (eInt_c x20v_Cells)])] (by cbv) ?_ ?_
      · exact (hq (get_le h_x20) (hq (get_lt (f := Row_i) h_x20) (hq (get_ge (f := Row_i) h_x20) (hq trivial hq0))))
      refine Run.seq ?_
      refine Run.region hL hT [] (by cbv) ?_ ?_
      · exact hq0
      obtain ⟨K22, h_K22, h⟩ := joinE h
      refine Run.join1 K22 (r := r) (fun (y21 : Int) => ⟨41, 100000, [(2, .t (.im false (eInt_c a2))), (3, .pt 1 0 0), (7, .rf 2), (9, .pt 3 0 0), (10, .t (.s (.int .i64 y21))), (17, .t (.im false (eRow_i l2))), (18, .t (.s (.int .i64 (lenI_Row l2)))), (19, .t (.s (.int .i64 z18)))], [(1, .box 37 [.t (.s (.int .i64 a0v_Table)), .t (.im false (eCond_c a0v_Where)), .t (.s (.int .i64 a0v_Order)), .t (.s (.bool a0v_Down)), .t (.s (.int .i64 a0v_First)), .t (.im false (eInt_c a0v_Show)), .t (.s (.bool a0v_Kids)), .t (.s (.int .i64 a0v_KidTable)), .t (.s (.int .i64 a0v_KidCol))]), (2, .row 0 33 5 (eJson_o z17)), (3, .box 39 [.t (.s (.int .i64 x20v_Id)), .t (.im false (eInt_c x20v_Cells))])]⟩) ?_ ?_
      · skip
        refine Run.seq ?_
        refine Run.region hL hT [] (by cbv) ?_ ?_
        · exact (hq trivial hq0)
        rw [show ln (eInt_c a2) = lenI_Int a2 from ln_eq Int_c _]
        refine Run.cond (by cbv) (hq0) (fun c23 => ?_) (fun c23 => ?_)
        · have h := if_t c23 h
          obtain ⟨x24, h_x24, h⟩ := bnd h
          refine Run.region hL hT [(2, .el [.s (.int .i64 x24)])] (by cbv) ?_ ?_
          · exact (hq (get_le h_x24) (hq (get_lt (f := Int_c) h_x24) (hq (get_ge (f := Int_c) h_x24) hq0)))
          refine ⟨x24, h, Weak.of _ [(1, 1), (2, 2), (3, 104099)] hA (by cbv) ?_⟩
          repeat (first | exact hq0 | refine hq (by first | exact True.intro | rfl) ?_)
        · have h := if_f c23 h
          refine Run.skip ?_
          refine ⟨0, h, Weak.of _ [(1, 1), (2, 2), (3, 104099)] hA (by cbv) ?_⟩
          repeat (first | exact hq0 | refine hq (by first | exact True.intro | rfl) ?_)
      · intro y21 h
        rw [h_K22] at h
        obtain ⟨⟨r25v_Kind, r25v_N, r25v_S, r25v_List_, r25v_Names⟩, h_r25, h⟩ := bnd h
        obtain ⟨l26, h_l26, h⟩ := bnd h
        obtain ⟨l27, h_l27, h⟩ := bnd h
        refine Run.region hL hT [(4, .call [false, false, false] [.ag [.jk, .jk, .jk, .jk, .jk, .jk, .jk, .jk, .jk], .ag [.jk, .jk], .v (.jk)] [.ag [.s (.int .i64 r25v_Kind), .s (.int .i64 r25v_N), .s (.string r25v_S), .ow 33 (eJson_o r25v_List_), .ow 9 (eStr_c r25v_Names)]])] (by cbv) ?_ ?_
        · exact (hq trivial (hq trivial (hq (hC (impl_RowDoc_ac h_r25)) (hq (app_mb (P := Tryd.prog) (f := Json_o) RLe.r (some_leU Json_o_u h_l26 (RLe.cons rfl LLe.r RLe.nil)) h_l27) hq0))))
        refine Run.row (rows := (ap (eJson_o z17) ([[.s (.int .i64 r25v_Kind), .s (.int .i64 r25v_N), .s (.string r25v_S), .ow 33 (eJson_o r25v_List_), .ow 9 (eStr_c r25v_Names)]]))) 100006 (eJson_o l27) (by cbv) (app_le (f := Json_o) RLe.r (some_leU Json_o_u h_l26 (RLe.cons rfl LLe.r RLe.nil)) h_l27) ?_
        refine Run.region hL hT [] (by cbv) ?_ ?_
        · exact (hq trivial hq0)
        refine ⟨l27, (ar .add .i64 z18 1), h, Weak.of _ [(1, 1), (2, 100006)] hA (by cbv) ?_⟩
        repeat (first | exact hq0 | refine hq (by first | exact True.intro | rfl) ?_)
    · have h := if_f c19 h
      refine Run.exit ?_
      refine Run.seq ?_
      refine Run.region hL hT [] (by cbv) ?_ ?_
      · exact hq0
      refine Run.ret ?_
      cases h
      refine ⟨_, _, by cbv, ?_, ?_⟩
      · exact LLe.r
      · exact (ALe.v LLe.r ALe.nil)

set_option maxRecDepth 8000 in
theorem impl_DocOf_1_ac {a0v_Kind : Int} {a0v_N : Int} {a0v_S : ByteArray} {a0v_List_ : List Json} {a0v_Names : List ByteArray} {r : Bool} (h : impl_DocOf_1.f (Json.mk a0v_Kind a0v_N a0v_S a0v_List_ a0v_Names) = some r) : AC Tryd.prog 49 [.ag [.s (.int .i64 a0v_Kind), .s (.int .i64 a0v_N), .s (.string a0v_S), .im false (rowsOf Json_i a0v_List_), .im false (rowsOf Str_c a0v_Names)]] [.ag [.jk, .jk, .jk, .jk, .jk]] [.v (.s (.bool r))] := by
  unfold impl_DocOf_1.f at h
  let ar := Ls.ar; let cm := Ls.cm; let bo := Ls.bo; let sc := Ls.sc; let sa := Ls.sa; let sx := Ls.sx; let ss := Ls.ss; let sl := Ls.sl; let bs := Ls.bs; let sb := Ls.sb; let ln := Ls.ln; let sr := Ls.sr; let ap := Ls.ap; let up := Ls.up; let rp := Ls.rp; let fr := Ls.fr; let ge := Ls.ge; let le := Ls.le; let lt := Ls.lt; let nz := Ls.nz; let mm := Ls.mm; let ma := Ls.ma; let sm := Ls.sm; let fl := Ls.fl; let al := Ls.al; let ci := Ls.ci
  let eJson_i := rowsOf Json_i
  let eStr_c := rowsOf Str_c
  have hL : (⟨ar, cm, bo, sc, sa, sx, ss, sl, bs, sb, ln, sr, ap, up, rp, fr, ge, le, lt, nz, mm, ma, sm, fl, al, ci⟩ : Lf) = Ls := rfl
  show AC Tryd.prog 49 [.ag [.s (.int .i64 a0v_Kind), .s (.int .i64 a0v_N), .s (.string a0v_S), .im false (eJson_i a0v_List_), .im false (eStr_c a0v_Names)]] _ _
  refine AC.of_run2 tab_ok Tryd.func49 (by rfl) (by rfl) (by cbv) ⟨by decide, rfl⟩ fun F hP hA => ?_
  have hT : TabOk F.P tab := hP ▸ tab_ok
  have hM : F.P.follows .mixedOrders = true := hP ▸ mixed
  have hC : ∀ {f a o r}, AC Tryd.prog f a o r → AC F.P f a o r := fun h => hP ▸ h
  refine Run.seq ?_
  refine Run.region hL hT [] (by cbv) ?_ ?_
  · exact hq0
  refine Run.seq ?_
  refine Run.region hL hT [] (by cbv) ?_ ?_
  · exact (hq trivial (hq trivial hq0))
  refine Run.ret ?_
  cases h
  refine ⟨_, _, by cbv, ?_, ?_⟩
  · exact LLe.r
  · exact (ALe.v LLe.r ALe.nil)

set_option maxRecDepth 8000 in
theorem slices_IndexFunc_impl_Json__impl_DocOf_1_ac {a0 : List Json} {r : Int} (h : slices_IndexFunc_impl_Json__impl_DocOf_1.f a0 = some r) : AC Tryd.prog 67 [.v (.im false (rowsOf Json_i a0)), .v (.fn 49 [])] [.v (.jk), .v (.jk)] [.v (.s (.int .i64 r))] := by
  unfold slices_IndexFunc_impl_Json__impl_DocOf_1.f at h
  let ar := Ls.ar; let cm := Ls.cm; let bo := Ls.bo; let sc := Ls.sc; let sa := Ls.sa; let sx := Ls.sx; let ss := Ls.ss; let sl := Ls.sl; let bs := Ls.bs; let sb := Ls.sb; let ln := Ls.ln; let sr := Ls.sr; let ap := Ls.ap; let up := Ls.up; let rp := Ls.rp; let fr := Ls.fr; let ge := Ls.ge; let le := Ls.le; let lt := Ls.lt; let nz := Ls.nz; let mm := Ls.mm; let ma := Ls.ma; let sm := Ls.sm; let fl := Ls.fl; let al := Ls.al; let ci := Ls.ci
  let eJson_i := rowsOf Json_i
  let eStr_c := rowsOf Str_c
  let lenI_Json := @lenI Json
  have hL : (⟨ar, cm, bo, sc, sa, sx, ss, sl, bs, sb, ln, sr, ap, up, rp, fr, ge, le, lt, nz, mm, ma, sm, fl, al, ci⟩ : Lf) = Ls := rfl
  show AC Tryd.prog 67 [.v (.im false (eJson_i a0)), .v (.fn 49 [])] _ _
  refine AC.of_run2 tab_ok Tryd.func67 (by rfl) (by rfl) (by cbv) ⟨by decide, rfl⟩ fun F hP hA => ?_
  have hT : TabOk F.P tab := hP ▸ tab_ok
  have hM : F.P.follows .mixedOrders = true := hP ▸ mixed
  have hC : ∀ {f a o r}, AC Tryd.prog f a o r → AC F.P f a o r := fun h => hP ▸ h
  refine Run.weak ?_ (Weak.fnT 1 (by cbv))
  refine Run.seq ?_
  refine Run.region hL hT [] (by cbv) ?_ ?_
  · exact hq0
  refine Run.seq ?_
  refine Run.seq ?_
  refine Run.region hL hT [] (by cbv) ?_ ?_
  · exact hq0
  rw [show ln (eJson_i a0) = lenI_Json a0 from ln_eq Json_i _]
  refine Run.block ?_
  refine Run.loop1 (fun (z4 : Int) => ⟨19, 100000, [(0, .t (.im false (eJson_i a0))), (1, .fn 49 []), (7, .t (.s (.int .i64 (lenI_Json a0)))), (8, .t (.s (.int .i64 z4)))], []⟩) (x0 := 0) h (Weak.of _ [] hA (by cbv) ?_) (fun _ => rfl) ?_
  · repeat (first | exact hq0 | refine hq (by first | exact True.intro | rfl) ?_)
  · intro k z4 h
    rw [slices_IndexFunc_impl_Json__impl_DocOf_1.l0] at h
    refine Run.seq ?_
    refine Run.region hL hT [] (by cbv) ?_ ?_
    · exact (hq trivial hq0)
    refine Run.seq ?_
    refine Run.cond (by cbv) (hq0) (fun c5 => ?_) (fun c5 => ?_)
    · have h := if_t c5 h
      refine Run.skip ?_
      refine Run.seq ?_
      refine Run.block ?_
      refine Run.seq ?_
      refine Run.region hL hT [] (by cbv) ?_ ?_
      · exact hq0
      refine Run.seq ?_
      obtain ⟨⟨x6v_Kind, x6v_N, x6v_S, x6v_List_, x6v_Names⟩, h_x6, h⟩ := bnd h
      obtain ⟨r7, h_r7, h⟩ := bnd h
      refine Run.region hL hT [(3, .el [.s (.int .i64 x6v_Kind), .s (.int .i64 x6v_N), .s (.string x6v_S), .im false (eJson_i x6v_List_), .im false (eStr_c x6v_Names)]), (5, .call [false] [.ag [.jk, .jk, .jk, .jk, .jk]] [.v (.s (.bool r7))])] (by cbv) ?_ ?_
      · exact (hq (get_le h_x6) (hq (get_lt (f := Json_i) h_x6) (hq (get_geU Json_i_u h_x6) (hq (hC (impl_DocOf_1_ac h_r7)) hq0))))
      refine Run.cond (by cbv) (hq0) (fun c8 => ?_) (fun c8 => ?_)
      · have h := if_t c8 h
        refine Run.seq ?_
        refine Run.region hL hT [] (by cbv) ?_ ?_
        · exact hq0
        refine Run.ret ?_
        cases h
        refine ⟨_, _, by cbv, ?_, ?_⟩
        · exact LLe.r
        · exact (ALe.v LLe.r ALe.nil)
      · have h := if_f c8 h
        refine Run.skip ?_
        refine Run.region hL hT [] (by cbv) ?_ ?_
        · exact (hq trivial hq0)
        refine ⟨(ar .add .i64 z4 1), h, Weak.of _ [] hA (by cbv) ?_⟩
        repeat (first | exact hq0 | refine hq (by first | exact True.intro | rfl) ?_)
    · have h := if_f c5 h
      refine Run.exit ?_
      refine Run.seq ?_
      refine Run.region hL hT [] (by cbv) ?_ ?_
      · exact hq0
      refine Run.ret ?_
      cases h
      refine ⟨_, _, by cbv, ?_, ?_⟩
      · exact LLe.r
      · exact (ALe.v LLe.r ALe.nil)

set_option maxRecDepth 8000 in
theorem slices_ContainsFunc_impl_Json__impl_DocOf_1_ac {a0 : List Json} {r : Bool} (h : slices_ContainsFunc_impl_Json__impl_DocOf_1.f a0 = some r) : AC Tryd.prog 48 [.v (.im false (rowsOf Json_i a0)), .v (.fn 49 [])] [.v (.jk), .v (.jk)] [.v (.s (.bool r))] := by
  unfold slices_ContainsFunc_impl_Json__impl_DocOf_1.f at h
  let ar := Ls.ar; let cm := Ls.cm; let bo := Ls.bo; let sc := Ls.sc; let sa := Ls.sa; let sx := Ls.sx; let ss := Ls.ss; let sl := Ls.sl; let bs := Ls.bs; let sb := Ls.sb; let ln := Ls.ln; let sr := Ls.sr; let ap := Ls.ap; let up := Ls.up; let rp := Ls.rp; let fr := Ls.fr; let ge := Ls.ge; let le := Ls.le; let lt := Ls.lt; let nz := Ls.nz; let mm := Ls.mm; let ma := Ls.ma; let sm := Ls.sm; let fl := Ls.fl; let al := Ls.al; let ci := Ls.ci
  let eJson_i := rowsOf Json_i
  have hL : (⟨ar, cm, bo, sc, sa, sx, ss, sl, bs, sb, ln, sr, ap, up, rp, fr, ge, le, lt, nz, mm, ma, sm, fl, al, ci⟩ : Lf) = Ls := rfl
  show AC Tryd.prog 48 [.v (.im false (eJson_i a0)), .v (.fn 49 [])] _ _
  refine AC.of_run2 tab_ok Tryd.func48 (by rfl) (by rfl) (by cbv) ⟨by decide, rfl⟩ fun F hP hA => ?_
  have hT : TabOk F.P tab := hP ▸ tab_ok
  have hM : F.P.follows .mixedOrders = true := hP ▸ mixed
  have hC : ∀ {f a o r}, AC Tryd.prog f a o r → AC F.P f a o r := fun h => hP ▸ h
  refine Run.weak ?_ (Weak.fnT 1 (by cbv))
  refine Run.seq ?_
  refine Run.region hL hT [] (by cbv) ?_ ?_
  · exact hq0
  refine Run.seq ?_
  obtain ⟨r1, h_r1, h⟩ := bnd h
  refine Run.region hL hT [(2, .call [false, false] [.v (.jk), .v (.jk)] [.v (.s (.int .i64 r1))])] (by cbv) ?_ ?_
  · exact (hq (hC (slices_IndexFunc_impl_Json__impl_DocOf_1_ac h_r1)) (hq trivial hq0))
  refine Run.ret ?_
  cases h
  refine ⟨_, _, by cbv, ?_, ?_⟩
  · exact LLe.r
  · exact (ALe.v LLe.r ALe.nil)

set_option maxRecDepth 8000 in
theorem impl_DocOf_ac {a0v_Table : Int} {a0v_Where : List Cond} {a0v_Order : Int} {a0v_Down : Bool} {a0v_First : Int} {a0v_Show : List Int} {a0v_Kids : Bool} {a0v_KidTable : Int} {a0v_KidCol : Int} {a1 : List Row} {a2 : List Int} {r : Json} (h : impl_DocOf.f (Query.mk a0v_Table a0v_Where a0v_Order a0v_Down a0v_First a0v_Show a0v_Kids a0v_KidTable a0v_KidCol) a1 a2 = some r) : AC Tryd.prog 22 [.ag [.s (.int .i64 a0v_Table), .im false (rowsOf Cond_c a0v_Where), .s (.int .i64 a0v_Order), .s (.bool a0v_Down), .s (.int .i64 a0v_First), .im false (rowsOf Int_c a0v_Show), .s (.bool a0v_Kids), .s (.int .i64 a0v_KidTable), .s (.int .i64 a0v_KidCol)], .v (.im false (rowsOf Row_i a1)), .v (.im false (rowsOf Int_c a2))] [.ag [.jk, .jk, .jk, .jk, .jk, .jk, .jk, .jk, .jk], .v (.jk), .v (.jk)] [.ag [.s (.int .i64 r.Kind), .s (.int .i64 r.N), .s (.string r.S), .ow 33 (rowsOf Json_o r.List_), .ow 9 (rowsOf Str_c r.Names)]] := by
  unfold impl_DocOf.f at h
  let ar := Ls.ar; let cm := Ls.cm; let bo := Ls.bo; let sc := Ls.sc; let sa := Ls.sa; let sx := Ls.sx; let ss := Ls.ss; let sl := Ls.sl; let bs := Ls.bs; let sb := Ls.sb; let ln := Ls.ln; let sr := Ls.sr; let ap := Ls.ap; let up := Ls.up; let rp := Ls.rp; let fr := Ls.fr; let ge := Ls.ge; let le := Ls.le; let lt := Ls.lt; let nz := Ls.nz; let mm := Ls.mm; let ma := Ls.ma; let sm := Ls.sm; let fl := Ls.fl; let al := Ls.al; let ci := Ls.ci
  let eCond_c := rowsOf Cond_c
  let eInt_c := rowsOf Int_c
  let eJson_o := rowsOf Json_o
  let eRow_i := rowsOf Row_i
  let eStr_c := rowsOf Str_c
  let lenI_Row := @lenI Row
  have hL : (⟨ar, cm, bo, sc, sa, sx, ss, sl, bs, sb, ln, sr, ap, up, rp, fr, ge, le, lt, nz, mm, ma, sm, fl, al, ci⟩ : Lf) = Ls := rfl
  show AC Tryd.prog 22 [.ag [.s (.int .i64 a0v_Table), .im false (eCond_c a0v_Where), .s (.int .i64 a0v_Order), .s (.bool a0v_Down), .s (.int .i64 a0v_First), .im false (eInt_c a0v_Show), .s (.bool a0v_Kids), .s (.int .i64 a0v_KidTable), .s (.int .i64 a0v_KidCol)], .v (.im false (eRow_i a1)), .v (.im false (eInt_c a2))] _ _
  refine AC.of_run2 tab_ok Tryd.func22 (by rfl) (by rfl) (by cbv) ⟨by decide, rfl⟩ fun F hP hA => ?_
  have hT : TabOk F.P tab := hP ▸ tab_ok
  have hM : F.P.follows .mixedOrders = true := hP ▸ mixed
  have hC : ∀ {f a o r}, AC Tryd.prog f a o r → AC F.P f a o r := fun h => hP ▸ h
  refine Run.seq ?_
  refine Run.region hL hT [] (by cbv) ?_ ?_
  · exact hq0
  refine Run.seq ?_
  obtain ⟨r1, h_r1, h⟩ := bnd h
  refine Run.region hL hT [(3, .call [false, false, false] [.ag [.jk, .jk, .jk, .jk, .jk, .jk, .jk, .jk, .jk], .v (.jk), .v (.jk)] [.v (.ow 33 (eJson_o r1))])] (by cbv) ?_ ?_
  · exact (hq trivial (hq (hC (impl_rowDocs_ac h_r1)) hq0))
  refine Run.seq ?_
  refine Run.seq ?_
  obtain ⟨r2, h_r2, h⟩ := bnd h
  refine Run.region hL hT [(1, .call [false, false] [.v (.jk), .v (.jk)] [.v (.s (.bool r2))])] (by cbv) ?_ ?_
  · exact (hq (hC (AC.args (slices_ContainsFunc_impl_Json__impl_DocOf_1_ac h_r2) (ALe.v (LLe.im (RLe.eq (fr_row Json_o_z _))) (ALe.v LLe.r ALe.nil)))) hq0)
  refine Run.cond (by cbv) (hq0) (fun c3 => ?_) (fun c3 => ?_)
  · have h := if_t c3 h
    refine Run.seq ?_
    refine Run.region hL hT [] (by cbv) ?_ ?_
    · exact (hq trivial hq0)
    refine Run.ret ?_
    cases h
    refine ⟨_, _, by cbv, ?_, ?_⟩
    · exact LLe.r
    · exact (ALe.ag rfl (LLe.c (LLe.c (LLe.c (LLe.cons LLe.nilO (LLe.cons LLe.nilO LLe.nil))))) ALe.nil)
  · have h := if_f c3 h
    refine Run.skip ?_
    refine Run.seq ?_
    refine Run.region hL hT [] (by cbv) ?_ ?_
    · exact (hq trivial hq0)
    refine Run.seq ?_
    obtain ⟨l4, h_l4, h⟩ := bnd h
    obtain ⟨l5, h_l5, h⟩ := bnd h
    obtain ⟨⟨r6v_Kind, r6v_N, r6v_S, r6v_List_, r6v_Names⟩, h_r6, h⟩ := bnd h
    refine Run.region hL hT [(7, .call [true] [.ag [.jk, .jk, .jk, .jk, .jk]] [.ag [.s (.int .i64 r6v_Kind), .s (.int .i64 r6v_N), .s (.string r6v_S), .ow 33 (eJson_o r6v_List_), .ow 9 (eStr_c r6v_Names)]])] (by cbv) ?_ ?_
    · exact (hq trivial (hq (hC (AC.args (impl_orNull_ac h_r6) (ALe.ag rfl (LLe.c (LLe.c (LLe.c (LLe.cons (LLe.ow (some_leU Json_o_u h_l5 (RLe.cons rfl (LLe.c (LLe.cons (LLe.eq (congrArg (fun z => [T.s (Value.int .i64 z)]) (ln_eq Row_i _))) (LLe.c (LLe.cons LLe.nilO (LLe.cons LLe.nilO LLe.nil))))) (RLe.cons rfl (LLe.c (LLe.c (LLe.c (LLe.c (LLe.cons LLe.nilO LLe.nil))))) RLe.nil)))) (LLe.cons (LLe.ow (some_le (f := Str_c) h_l4 (RLe.cons rfl LLe.r (RLe.cons rfl LLe.r RLe.nil)))) LLe.nil))))) ALe.nil))) (hq trivial hq0)))
    rw [show ln (eRow_i a1) = lenI_Row a1 from ln_eq Row_i _]
    refine Run.ret ?_
    cases h
    refine ⟨_, _, by cbv, ?_, ?_⟩
    · exact LLe.r
    · exact (ALe.ag rfl LLe.r ALe.nil)

set_option maxRecDepth 8000 in
theorem laws_eqRow_ac {a0v_Id : Int} {a0v_Cells : List Int} {a1v_Id : Int} {a1v_Cells : List Int} {r : Bool} (h : laws_eqRow.f (Row.mk a0v_Id a0v_Cells) (Row.mk a1v_Id a1v_Cells) = some r) : AC Tryd.prog 13 [.ag [.s (.int .i64 a0v_Id), .im false (rowsOf Int_c a0v_Cells)], .ag [.s (.int .i64 a1v_Id), .im false (rowsOf Int_c a1v_Cells)]] [.ag [.jk, .jk], .ag [.jk, .jk]] [.v (.s (.bool r))] := by
  unfold laws_eqRow.f at h
  let ar := Ls.ar; let cm := Ls.cm; let bo := Ls.bo; let sc := Ls.sc; let sa := Ls.sa; let sx := Ls.sx; let ss := Ls.ss; let sl := Ls.sl; let bs := Ls.bs; let sb := Ls.sb; let ln := Ls.ln; let sr := Ls.sr; let ap := Ls.ap; let up := Ls.up; let rp := Ls.rp; let fr := Ls.fr; let ge := Ls.ge; let le := Ls.le; let lt := Ls.lt; let nz := Ls.nz; let mm := Ls.mm; let ma := Ls.ma; let sm := Ls.sm; let fl := Ls.fl; let al := Ls.al; let ci := Ls.ci
  let eInt_c := rowsOf Int_c
  have hL : (⟨ar, cm, bo, sc, sa, sx, ss, sl, bs, sb, ln, sr, ap, up, rp, fr, ge, le, lt, nz, mm, ma, sm, fl, al, ci⟩ : Lf) = Ls := rfl
  show AC Tryd.prog 13 [.ag [.s (.int .i64 a0v_Id), .im false (eInt_c a0v_Cells)], .ag [.s (.int .i64 a1v_Id), .im false (eInt_c a1v_Cells)]] _ _
  refine AC.of_run2 tab_ok Tryd.func13 (by rfl) (by rfl) (by cbv) ⟨by decide, rfl⟩ fun F hP hA => ?_
  have hT : TabOk F.P tab := hP ▸ tab_ok
  have hM : F.P.follows .mixedOrders = true := hP ▸ mixed
  have hC : ∀ {f a o r}, AC Tryd.prog f a o r → AC F.P f a o r := fun h => hP ▸ h
  refine Run.seq ?_
  refine Run.region hL hT [] (by cbv) ?_ ?_
  · exact hq0
  refine Run.seq ?_
  refine Run.seq ?_
  refine Run.region hL hT [] (by cbv) ?_ ?_
  · exact (hq trivial (hq trivial (hq trivial hq0)))
  refine Run.cond (by cbv) (hq0) (fun c1 => ?_) (fun c1 => ?_)
  · have h := if_t c1 h
    refine Run.seq ?_
    refine Run.region hL hT [] (by cbv) ?_ ?_
    · exact hq0
    refine Run.ret ?_
    cases h
    refine ⟨_, _, by cbv, ?_, ?_⟩
    · exact LLe.r
    · exact (ALe.v LLe.r ALe.nil)
  · have h := if_f c1 h
    refine Run.skip ?_
    refine Run.seq ?_
    refine Run.seq ?_
    obtain ⟨r2, h_r2, h⟩ := bnd h
    refine Run.region hL hT [(4, .call [false, false] [.v (.jk), .v (.jk)] [.v (.s (.bool r2))])] (by cbv) ?_ ?_
    · exact (hq trivial (hq trivial (hq (hC (laws_eqIntS_ac h_r2)) hq0)))
    refine Run.cond (by cbv) (hq0) (fun c3 => ?_) (fun c3 => ?_)
    · have h := if_t c3 h
      refine Run.seq ?_
      refine Run.region hL hT [] (by cbv) ?_ ?_
      · exact hq0
      refine Run.ret ?_
      cases h
      refine ⟨_, _, by cbv, ?_, ?_⟩
      · exact LLe.r
      · exact (ALe.v LLe.r ALe.nil)
    · have h := if_f c3 h
      refine Run.skip ?_
      refine Run.seq ?_
      refine Run.region hL hT [] (by cbv) ?_ ?_
      · exact hq0
      refine Run.ret ?_
      cases h
      refine ⟨_, _, by cbv, ?_, ?_⟩
      · exact LLe.r
      · exact (ALe.v LLe.r ALe.nil)

set_option maxRecDepth 8000 in
theorem laws_eqRowS_ac {a0 : List Row} {a1 : List Row} {r : Bool} (h : laws_eqRowS.f a0 a1 = some r) : AC Tryd.prog 23 [.v (.im false (rowsOf Row_i a0)), .v (.im false (rowsOf Row_i a1))] [.v (.jk), .v (.jk)] [.v (.s (.bool r))] := by
  unfold laws_eqRowS.f at h
  let ar := Ls.ar; let cm := Ls.cm; let bo := Ls.bo; let sc := Ls.sc; let sa := Ls.sa; let sx := Ls.sx; let ss := Ls.ss; let sl := Ls.sl; let bs := Ls.bs; let sb := Ls.sb; let ln := Ls.ln; let sr := Ls.sr; let ap := Ls.ap; let up := Ls.up; let rp := Ls.rp; let fr := Ls.fr; let ge := Ls.ge; let le := Ls.le; let lt := Ls.lt; let nz := Ls.nz; let mm := Ls.mm; let ma := Ls.ma; let sm := Ls.sm; let fl := Ls.fl; let al := Ls.al; let ci := Ls.ci
  let eInt_c := rowsOf Int_c
  let eRow_i := rowsOf Row_i
  let lenI_Row := @lenI Row
  have hL : (⟨ar, cm, bo, sc, sa, sx, ss, sl, bs, sb, ln, sr, ap, up, rp, fr, ge, le, lt, nz, mm, ma, sm, fl, al, ci⟩ : Lf) = Ls := rfl
  show AC Tryd.prog 23 [.v (.im false (eRow_i a0)), .v (.im false (eRow_i a1))] _ _
  refine AC.of_run2 tab_ok Tryd.func23 (by rfl) (by rfl) (by cbv) ⟨by decide, rfl⟩ fun F hP hA => ?_
  have hT : TabOk F.P tab := hP ▸ tab_ok
  have hM : F.P.follows .mixedOrders = true := hP ▸ mixed
  have hC : ∀ {f a o r}, AC Tryd.prog f a o r → AC F.P f a o r := fun h => hP ▸ h
  refine Run.seq ?_
  refine Run.region hL hT [] (by cbv) ?_ ?_
  · exact hq0
  refine Run.seq ?_
  refine Run.seq ?_
  refine Run.region hL hT [] (by cbv) ?_ ?_
  · exact (hq trivial hq0)
  rw [show ln (eRow_i a0) = lenI_Row a0 from ln_eq Row_i _]
  rw [show ln (eRow_i a1) = lenI_Row a1 from ln_eq Row_i _]
  refine Run.cond (by cbv) (hq0) (fun c1 => ?_) (fun c1 => ?_)
  · have h := if_t c1 h
    refine Run.seq ?_
    refine Run.region hL hT [] (by cbv) ?_ ?_
    · exact hq0
    refine Run.ret ?_
    cases h
    refine ⟨_, _, by cbv, ?_, ?_⟩
    · exact LLe.r
    · exact (ALe.v LLe.r ALe.nil)
  · have h := if_f c1 h
    refine Run.skip ?_
    refine Run.seq ?_
    refine Run.seq ?_
    refine Run.region hL hT [] (by cbv) ?_ ?_
    · exact hq0
    refine Run.block ?_
    refine Run.loop1 (fun (z5 : Int) => ⟨27, 100000, [(0, .t (.im false (eRow_i a0))), (1, .t (.im false (eRow_i a1))), (5, .t (.s (.int .i64 z5)))], []⟩) (x0 := 0) h (Weak.of _ [] hA (by cbv) ?_) (fun _ => rfl) ?_
    · repeat (first | exact hq0 | refine hq (by first | exact True.intro | rfl) ?_)
    · intro k z5 h
      rw [laws_eqRowS.l0] at h
      refine Run.seq ?_
      refine Run.seq ?_
      refine Run.region hL hT [] (by cbv) ?_ ?_
      · exact (hq trivial hq0)
      rw [show ln (eRow_i a0) = lenI_Row a0 from ln_eq Row_i _]
      refine Run.cond (by cbv) (hq0) (fun c6 => ?_) (fun c6 => ?_)
      · have h := if_t c6 h
        refine Run.skip ?_
        refine Run.seq ?_
        refine Run.block ?_
        refine Run.seq ?_
        obtain ⟨⟨x7v_Id, x7v_Cells⟩, h_x7, h⟩ := bnd h
        obtain ⟨⟨x8v_Id, x8v_Cells⟩, h_x8, h⟩ := bnd h
        obtain ⟨r9, h_r9, h⟩ := bnd h
        refine Run.draw hL hT hM [(2, .el [.s (.int .i64 x7v_Id), .im false (eInt_c x7v_Cells)]), (6, .el [.s (.int .i64 x8v_Id), .im false (eInt_c x8v_Cells)]), (8, .call [false, false] [.ag [.jk, .jk], .ag [.jk, .jk]] [.v (.s (.bool r9))])] (by cbv) (by cbv) (by cbv) (by cbv) (by cbv) ?_ ?_
        · exact (hq (get_le h_x7) (hq (get_lt (f := Row_i) h_x7) (hq (get_ge (f := Row_i) h_x7) (hq (get_le h_x8) (hq (get_lt (f := Row_i) h_x8) (hq (get_ge (f := Row_i) h_x8) (hq (hC (laws_eqRow_ac h_r9)) hq0)))))))
        refine Run.cond (by cbv) (hq0) (fun c10 => ?_) (fun c10 => ?_)
        · have h := if_t c10 h
          refine Run.seq ?_
          refine Run.region hL hT [] (by cbv) ?_ ?_
          · exact hq0
          refine Run.ret ?_
          cases h
          refine ⟨_, _, by cbv, ?_, ?_⟩
          · exact LLe.r
          · exact (ALe.v LLe.r ALe.nil)
        · have h := if_f c10 h
          refine Run.skip ?_
          refine Run.region hL hT [] (by cbv) ?_ ?_
          · exact (hq trivial hq0)
          refine ⟨(ar .add .i64 z5 1), h, Weak.of _ [] hA (by cbv) ?_⟩
          repeat (first | exact hq0 | refine hq (by first | exact True.intro | rfl) ?_)
      · have h := if_f c6 h
        refine Run.exit ?_
        refine Run.seq ?_
        refine Run.region hL hT [] (by cbv) ?_ ?_
        · exact hq0
        refine Run.ret ?_
        cases h
        refine ⟨_, _, by cbv, ?_, ?_⟩
        · exact LLe.r
        · exact (ALe.v LLe.r ALe.nil)

set_option maxRecDepth 8000 in
theorem laws_markRowS_ac {a0 : List Row} {a1 : Int} {r : (List Row) × Int} (h : laws_markRowS.f a0 a1 = some r) : AC Tryd.prog 25 [.v (.ow 39 (rowsOf Row_o a0)), .v (.s (.int .i64 a1))] [.v (.ow 39 (rowsOf Row_o r.1)), .v (.jk)] [.v (.s (.int .i64 r.2))] := by
  unfold laws_markRowS.f at h
  let ar := Ls.ar; let cm := Ls.cm; let bo := Ls.bo; let sc := Ls.sc; let sa := Ls.sa; let sx := Ls.sx; let ss := Ls.ss; let sl := Ls.sl; let bs := Ls.bs; let sb := Ls.sb; let ln := Ls.ln; let sr := Ls.sr; let ap := Ls.ap; let up := Ls.up; let rp := Ls.rp; let fr := Ls.fr; let ge := Ls.ge; let le := Ls.le; let lt := Ls.lt; let nz := Ls.nz; let mm := Ls.mm; let ma := Ls.ma; let sm := Ls.sm; let fl := Ls.fl; let al := Ls.al; let ci := Ls.ci
  let eInt_c := rowsOf Int_c
  let eRow_o := rowsOf Row_o
  let lenI_Row := @lenI Row
  have hL : (⟨ar, cm, bo, sc, sa, sx, ss, sl, bs, sb, ln, sr, ap, up, rp, fr, ge, le, lt, nz, mm, ma, sm, fl, al, ci⟩ : Lf) = Ls := rfl
  show AC Tryd.prog 25 [.v (.ow 39 (eRow_o a0)), .v (.s (.int .i64 a1))] _ _
  refine AC.of_run2 tab_ok Tryd.func25 (by rfl) (by rfl) (by cbv) ⟨by decide, rfl⟩ fun F hP hA => ?_
  have hT : TabOk F.P tab := hP ▸ tab_ok
  have hM : F.P.follows .mixedOrders = true := hP ▸ mixed
  have hC : ∀ {f a o r}, AC Tryd.prog f a o r → AC F.P f a o r := fun h => hP ▸ h
  refine Run.seq ?_
  refine Run.region hL hT [] (by cbv) ?_ ?_
  · exact hq0
  refine Run.seq ?_
  refine Run.seq ?_
  refine Run.region hL hT [] (by cbv) ?_ ?_
  · exact hq0
  refine Run.block ?_
  refine Run.loop3 (fun (z4 : List Row) (z5 : Int) (z6 : Int) => ⟨27, 100000, [(0, .rf 0), (1, .t (.s (.int .i64 z5))), (5, .t (.s (.int .i64 z6)))], [(0, .row 0 39 2 (eRow_o z4))]⟩) (x0 := a0) (x1 := a1) (x2 := 0) h (Weak.of _ [(0, 0)] hA (by cbv) ?_) (fun _ _ _ => rfl) ?_
  · repeat (first | exact hq0 | refine hq (by first | exact True.intro | rfl) ?_)
  · intro k z4 z5 z6 h
    rw [laws_markRowS.l0] at h
    refine Run.seq ?_
    refine Run.seq ?_
    refine Run.region hL hT [] (by cbv) ?_ ?_
    · exact (hq trivial hq0)
    rw [show ln (eRow_o z4) = lenI_Row z4 from ln_eq Row_o _]
    refine Run.cond (by cbv) (hq0) (fun c7 => ?_) (fun c7 => ?_)
    · have h := if_t c7 h
      refine Run.skip ?_
      refine Run.seq ?_
      refine Run.block ?_
      refine Run.seq ?_
      obtain ⟨⟨x8v_Id, x8v_Cells⟩, h_x8, h⟩ := bnd h
      obtain ⟨l9, h_l9, h⟩ := bnd h
      refine Run.region hL hT [] (by cbv) ?_ ?_
      · exact (hq (get_le h_x8) (hq (get_lt (f := Row_o) h_x8) (hq (get_le h_x8) (hq (get_lt (f := Row_o) h_x8) hq0))))
      refine Run.row (rows := (up (eRow_o z4) z6 0 [.s (.int .i64 z5)])) 0 (eRow_o l9) (by cbv) (sto_le (f := Row_o) h_x8 h_l9 rfl LLe.r) ?_
      refine Run.seq ?_
      refine Run.region hL hT [] (by cbv) ?_ ?_
      · exact (hq trivial hq0)
      obtain ⟨⟨x10v_Id, x10v_Cells⟩, h_x10, h⟩ := bnd h
      obtain ⟨⟨r11v_1, r11v_2⟩, h_r11, h⟩ := bnd h
      refine Run.weak ?_ (Weak.take (rows := eRow_o l9) (e2 := 3) (r2 := eInt_c x10v_Cells) hT 0 z6 1 115288 1115288 (by cbv) (by cbv) (by cbv) (get_le' h_x10) (get_lt' Row_o h_x10) ((congrArg (fun q => q[1]?) (get_ge (f := Row_o) h_x10)).trans rfl) rfl (up (eRow_o l9) z6 1 [.jk]) rfl)
      refine Run.region hL hT [(4, .lk [.s (.int .i64 x10v_Id), .jk] [(1, 1115288)]), (6, .call [true, false] [.v (.ow 3 (eInt_c r11v_1)), .v (.jk)] [.v (.s (.int .i64 r11v_2))])] (by cbv) ?_ ?_
      · exact (hq (get_le h_x10) (hq (up_lt Row_o h_x10) (hq trivial (hq (get_le h_x10) (hq (up_lt Row_o h_x10) (hq (up_ge Row_o h_x10) (hq (hC (laws_markIntS_ac h_r11)) hq0)))))))
      obtain ⟨l12, h_l12, h⟩ := bnd h
      refine Run.weak ?_ (Weak.back (rows := (up (eRow_o l9) z6 1 [.jk])) (r2 := eInt_c r11v_1) 0 z6 1 115288 1115288 (by cbv) (by cbv) (by cbv) (by cbv) (get_le' h_x10) (up_lt Row_o h_x10) ((congrArg (fun q => q[1]?) (up_at Row_o h_x10)).trans rfl) (up (up (eRow_o l9) z6 1 [.jk]) z6 1 [.ow 3 (eInt_c r11v_1)]) rfl)
      refine Run.weak ?_ (Weak.row (rows := (up (up (eRow_o l9) z6 1 [.jk]) z6 1 [.ow 3 (eInt_c r11v_1)])) 0 (eRow_o l12) (by cbv) (hole_le (f := Row_o) h_x10 h_l12 (ltn (Row_o_n _) (by decide)) rfl LLe.r))
      refine Run.region hL hT [] (by cbv) ?_ ?_
      · exact (hq trivial hq0)
      refine ⟨l12, r11v_2, (ar .add .i64 z6 1), h, Weak.of _ [(0, 0)] hA (by cbv) ?_⟩
      repeat (first | exact hq0 | refine hq (by first | exact True.intro | rfl) ?_)
    · have h := if_f c7 h
      refine Run.exit ?_
      refine Run.seq ?_
      refine Run.region hL hT [] (by cbv) ?_ ?_
      · exact hq0
      refine Run.ret ?_
      cases h
      refine ⟨_, _, by cbv, ?_, ?_⟩
      · exact LLe.r
      · exact (ALe.v LLe.r ALe.nil)

set_option maxRecDepth 8000 in
theorem laws_szCondS_ac {a0 : List Cond} {a1 : Int} {r : Int} (h : laws_szCondS.f a0 a1 = some r) : AC Tryd.prog 27 [.v (.im false (rowsOf Cond_c a0)), .v (.s (.int .i64 a1))] [.v (.jk), .v (.jk)] [.v (.s (.int .i64 r))] := by
  unfold laws_szCondS.f at h
  let ar := Ls.ar; let cm := Ls.cm; let bo := Ls.bo; let sc := Ls.sc; let sa := Ls.sa; let sx := Ls.sx; let ss := Ls.ss; let sl := Ls.sl; let bs := Ls.bs; let sb := Ls.sb; let ln := Ls.ln; let sr := Ls.sr; let ap := Ls.ap; let up := Ls.up; let rp := Ls.rp; let fr := Ls.fr; let ge := Ls.ge; let le := Ls.le; let lt := Ls.lt; let nz := Ls.nz; let mm := Ls.mm; let ma := Ls.ma; let sm := Ls.sm; let fl := Ls.fl; let al := Ls.al; let ci := Ls.ci
  let eCond_c := rowsOf Cond_c
  let lenI_Cond := @lenI Cond
  have hL : (⟨ar, cm, bo, sc, sa, sx, ss, sl, bs, sb, ln, sr, ap, up, rp, fr, ge, le, lt, nz, mm, ma, sm, fl, al, ci⟩ : Lf) = Ls := rfl
  show AC Tryd.prog 27 [.v (.im false (eCond_c a0)), .v (.s (.int .i64 a1))] _ _
  refine AC.of_run2 tab_ok Tryd.func27 (by rfl) (by rfl) (by cbv) ⟨by decide, rfl⟩ fun F hP hA => ?_
  have hT : TabOk F.P tab := hP ▸ tab_ok
  have hM : F.P.follows .mixedOrders = true := hP ▸ mixed
  have hC : ∀ {f a o r}, AC Tryd.prog f a o r → AC F.P f a o r := fun h => hP ▸ h
  refine Run.seq ?_
  refine Run.region hL hT [] (by cbv) ?_ ?_
  · exact hq0
  refine Run.seq ?_
  refine Run.region hL hT [] (by cbv) ?_ ?_
  · exact (hq trivial hq0)
  rw [show ln (eCond_c a0) = lenI_Cond a0 from ln_eq Cond_c _]
  refine Run.seq ?_
  refine Run.seq ?_
  refine Run.region hL hT [] (by cbv) ?_ ?_
  · exact (hq trivial hq0)
  refine Run.cond (by cbv) (hq0) (fun c1 => ?_) (fun c1 => ?_)
  · have h := if_t c1 h
    refine Run.seq ?_
    refine Run.region hL hT [] (by cbv) ?_ ?_
    · exact hq0
    refine Run.ret ?_
    cases h
    refine ⟨_, _, by cbv, ?_, ?_⟩
    · exact LLe.r
    · exact (ALe.v LLe.r ALe.nil)
  · have h := if_f c1 h
    refine Run.skip ?_
    refine Run.seq ?_
    refine Run.region hL hT [] (by cbv) ?_ ?_
    · exact hq0
    refine Run.ret ?_
    cases h
    refine ⟨_, _, by cbv, ?_, ?_⟩
    · exact LLe.r
    · exact (ALe.v LLe.r ALe.nil)

set_option maxRecDepth 8000 in
theorem laws_szQuery_ac {a0v_Table : Int} {a0v_Where : List Cond} {a0v_Order : Int} {a0v_Down : Bool} {a0v_First : Int} {a0v_Show : List Int} {a0v_Kids : Bool} {a0v_KidTable : Int} {a0v_KidCol : Int} {a1 : Int} {r : Int} (h : laws_szQuery.f (Query.mk a0v_Table a0v_Where a0v_Order a0v_Down a0v_First a0v_Show a0v_Kids a0v_KidTable a0v_KidCol) a1 = some r) : AC Tryd.prog 5 [.ag [.s (.int .i64 a0v_Table), .im false (rowsOf Cond_c a0v_Where), .s (.int .i64 a0v_Order), .s (.bool a0v_Down), .s (.int .i64 a0v_First), .im false (rowsOf Int_c a0v_Show), .s (.bool a0v_Kids), .s (.int .i64 a0v_KidTable), .s (.int .i64 a0v_KidCol)], .v (.s (.int .i64 a1))] [.ag [.jk, .jk, .jk, .jk, .jk, .jk, .jk, .jk, .jk], .v (.jk)] [.v (.s (.int .i64 r))] := by
  unfold laws_szQuery.f at h
  let ar := Ls.ar; let cm := Ls.cm; let bo := Ls.bo; let sc := Ls.sc; let sa := Ls.sa; let sx := Ls.sx; let ss := Ls.ss; let sl := Ls.sl; let bs := Ls.bs; let sb := Ls.sb; let ln := Ls.ln; let sr := Ls.sr; let ap := Ls.ap; let up := Ls.up; let rp := Ls.rp; let fr := Ls.fr; let ge := Ls.ge; let le := Ls.le; let lt := Ls.lt; let nz := Ls.nz; let mm := Ls.mm; let ma := Ls.ma; let sm := Ls.sm; let fl := Ls.fl; let al := Ls.al; let ci := Ls.ci
  let eCond_c := rowsOf Cond_c
  let eInt_c := rowsOf Int_c
  have hL : (⟨ar, cm, bo, sc, sa, sx, ss, sl, bs, sb, ln, sr, ap, up, rp, fr, ge, le, lt, nz, mm, ma, sm, fl, al, ci⟩ : Lf) = Ls := rfl
  show AC Tryd.prog 5 [.ag [.s (.int .i64 a0v_Table), .im false (eCond_c a0v_Where), .s (.int .i64 a0v_Order), .s (.bool a0v_Down), .s (.int .i64 a0v_First), .im false (eInt_c a0v_Show), .s (.bool a0v_Kids), .s (.int .i64 a0v_KidTable), .s (.int .i64 a0v_KidCol)], .v (.s (.int .i64 a1))] _ _
  refine AC.of_run2 tab_ok Tryd.func5 (by rfl) (by rfl) (by cbv) ⟨by decide, rfl⟩ fun F hP hA => ?_
  have hT : TabOk F.P tab := hP ▸ tab_ok
  have hM : F.P.follows .mixedOrders = true := hP ▸ mixed
  have hC : ∀ {f a o r}, AC Tryd.prog f a o r → AC F.P f a o r := fun h => hP ▸ h
  refine Run.seq ?_
  refine Run.region hL hT [] (by cbv) ?_ ?_
  · exact hq0
  refine Run.seq ?_
  obtain ⟨r1, h_r1, h⟩ := bnd h
  refine Run.region hL hT [(3, .call [false, false] [.v (.jk), .v (.jk)] [.v (.s (.int .i64 r1))])] (by cbv) ?_ ?_
  · exact (hq trivial (hq (hC (laws_szCondS_ac h_r1)) hq0))
  refine Run.seq ?_
  refine Run.seq ?_
  refine Run.region hL hT [] (by cbv) ?_ ?_
  · exact (hq trivial hq0)
  refine Run.cond (by cbv) (hq0) (fun c2 => ?_) (fun c2 => ?_)
  · have h := if_t c2 h
    refine Run.seq ?_
    refine Run.region hL hT [] (by cbv) ?_ ?_
    · exact hq0
    refine Run.ret ?_
    cases h
    refine ⟨_, _, by cbv, ?_, ?_⟩
    · exact LLe.r
    · exact (ALe.v LLe.r ALe.nil)
  · have h := if_f c2 h
    refine Run.skip ?_
    refine Run.seq ?_
    obtain ⟨r3, h_r3, h⟩ := bnd h
    refine Run.region hL hT [(3, .call [false, false] [.v (.jk), .v (.jk)] [.v (.s (.int .i64 r3))])] (by cbv) ?_ ?_
    · exact (hq trivial (hq (hC (laws_szIntS_ac h_r3)) hq0))
    refine Run.seq ?_
    refine Run.seq ?_
    refine Run.region hL hT [] (by cbv) ?_ ?_
    · exact (hq trivial hq0)
    refine Run.cond (by cbv) (hq0) (fun c4 => ?_) (fun c4 => ?_)
    · have h := if_t c4 h
      refine Run.seq ?_
      refine Run.region hL hT [] (by cbv) ?_ ?_
      · exact hq0
      refine Run.ret ?_
      cases h
      refine ⟨_, _, by cbv, ?_, ?_⟩
      · exact LLe.r
      · exact (ALe.v LLe.r ALe.nil)
    · have h := if_f c4 h
      refine Run.skip ?_
      refine Run.seq ?_
      refine Run.region hL hT [] (by cbv) ?_ ?_
      · exact hq0
      refine Run.ret ?_
      cases h
      refine ⟨_, _, by cbv, ?_, ?_⟩
      · exact LLe.r
      · exact (ALe.v LLe.r ALe.nil)

set_option maxRecDepth 8000 in
theorem laws_toCond_ac {a0v_Col : Int} {a0v_Op : Int} {a0v_V : Int} {r : Cond} (h : laws_toCond.f (Cond.mk a0v_Col a0v_Op a0v_V) = some r) : AC Tryd.prog 54 [.ag [.s (.int .i64 a0v_Col), .s (.int .i64 a0v_Op), .s (.int .i64 a0v_V)]] [.ag [.jk, .jk, .jk]] [.ag [.s (.int .i64 r.Col), .s (.int .i64 r.Op), .s (.int .i64 r.V)]] := by
  unfold laws_toCond.f at h
  let ar := Ls.ar; let cm := Ls.cm; let bo := Ls.bo; let sc := Ls.sc; let sa := Ls.sa; let sx := Ls.sx; let ss := Ls.ss; let sl := Ls.sl; let bs := Ls.bs; let sb := Ls.sb; let ln := Ls.ln; let sr := Ls.sr; let ap := Ls.ap; let up := Ls.up; let rp := Ls.rp; let fr := Ls.fr; let ge := Ls.ge; let le := Ls.le; let lt := Ls.lt; let nz := Ls.nz; let mm := Ls.mm; let ma := Ls.ma; let sm := Ls.sm; let fl := Ls.fl; let al := Ls.al; let ci := Ls.ci
  have hL : (⟨ar, cm, bo, sc, sa, sx, ss, sl, bs, sb, ln, sr, ap, up, rp, fr, ge, le, lt, nz, mm, ma, sm, fl, al, ci⟩ : Lf) = Ls := rfl
  show AC Tryd.prog 54 [.ag [.s (.int .i64 a0v_Col), .s (.int .i64 a0v_Op), .s (.int .i64 a0v_V)]] _ _
  refine AC.of_run2 tab_ok Tryd.func54 (by rfl) (by rfl) (by cbv) ⟨by decide, rfl⟩ fun F hP hA => ?_
  have hT : TabOk F.P tab := hP ▸ tab_ok
  have hM : F.P.follows .mixedOrders = true := hP ▸ mixed
  have hC : ∀ {f a o r}, AC Tryd.prog f a o r → AC F.P f a o r := fun h => hP ▸ h
  refine Run.seq ?_
  refine Run.region hL hT [] (by cbv) ?_ ?_
  · exact hq0
  refine Run.seq ?_
  refine Run.region hL hT [] (by cbv) ?_ ?_
  · exact hq0
  refine Run.seq ?_
  refine Run.region hL hT [] (by cbv) ?_ ?_
  · exact (hq trivial (hq trivial hq0))
  refine Run.seq ?_
  refine Run.region hL hT [] (by cbv) ?_ ?_
  · exact (hq trivial (hq trivial hq0))
  refine Run.seq ?_
  refine Run.region hL hT [] (by cbv) ?_ ?_
  · exact (hq trivial (hq trivial hq0))
  refine Run.seq ?_
  refine Run.region hL hT [] (by cbv) ?_ ?_
  · exact (hq trivial (hq trivial hq0))
  refine Run.ret ?_
  cases h
  refine ⟨_, _, by cbv, ?_, ?_⟩
  · exact LLe.r
  · exact (ALe.ag rfl LLe.r ALe.nil)

set_option maxRecDepth 8000 in
theorem laws_toCondS_ac {a0 : List Cond} {r : (List Cond)} (h : laws_toCondS.f a0 = some r) : AC Tryd.prog 31 [.v (.im false (rowsOf Cond_c a0))] [.v (.jk)] [.v (.ow 77 (rowsOf Cond_c r))] := by
  unfold laws_toCondS.f at h
  let ar := Ls.ar; let cm := Ls.cm; let bo := Ls.bo; let sc := Ls.sc; let sa := Ls.sa; let sx := Ls.sx; let ss := Ls.ss; let sl := Ls.sl; let bs := Ls.bs; let sb := Ls.sb; let ln := Ls.ln; let sr := Ls.sr; let ap := Ls.ap; let up := Ls.up; let rp := Ls.rp; let fr := Ls.fr; let ge := Ls.ge; let le := Ls.le; let lt := Ls.lt; let nz := Ls.nz; let mm := Ls.mm; let ma := Ls.ma; let sm := Ls.sm; let fl := Ls.fl; let al := Ls.al; let ci := Ls.ci
  let eCond_c := rowsOf Cond_c
  let lenI_Cond := @lenI Cond
  have hL : (⟨ar, cm, bo, sc, sa, sx, ss, sl, bs, sb, ln, sr, ap, up, rp, fr, ge, le, lt, nz, mm, ma, sm, fl, al, ci⟩ : Lf) = Ls := rfl
  show AC Tryd.prog 31 [.v (.im false (eCond_c a0))] _ _
  refine AC.of_run2 tab_ok Tryd.func31 (by rfl) (by rfl) (by cbv) ⟨by decide, rfl⟩ fun F hP hA => ?_
  have hT : TabOk F.P tab := hP ▸ tab_ok
  have hM : F.P.follows .mixedOrders = true := hP ▸ mixed
  have hC : ∀ {f a o r}, AC Tryd.prog f a o r → AC F.P f a o r := fun h => hP ▸ h
  refine Run.seq ?_
  refine Run.region hL hT [] (by cbv) ?_ ?_
  · exact hq0
  refine Run.seq ?_
  obtain ⟨l1, h_l1, h⟩ := bnd h
  refine Run.region hL hT [] (by cbv) ?_ ?_
  · exact (hq trivial (hq (by rw [show ln (eCond_c a0) = lenI_Cond a0 from ln_eq Cond_c _]; exact (mk_0 h_l1)) (hq (by rw [show ln (eCond_c a0) = lenI_Cond a0 from ln_eq Cond_c _]; exact (mk_mm h_l1)) hq0)))
  rw [show ln (eCond_c a0) = lenI_Cond a0 from ln_eq Cond_c _]
  refine Run.row (rows := (rp (lenI_Cond a0) [.s (.int .i64 0), .s (.int .i64 0), .s (.int .i64 0)])) 4098 (eCond_c l1) (by cbv) (mk_le (f := Cond_c) rfl LLe.r h_l1) ?_
  refine Run.seq ?_
  refine Run.seq ?_
  refine Run.region hL hT [] (by cbv) ?_ ?_
  · exact hq0
  refine Run.block ?_
  refine Run.loop2 (fun (z5 : List Cond) (z6 : Int) => ⟨23, 100000, [(0, .t (.im false (eCond_c a0))), (3, .rf 1), (4, .t (.s (.int .i64 z6)))], [(1, .row 0 77 3 (eCond_c z5))]⟩) (x0 := l1) (x1 := 0) h (Weak.of _ [(1, 4098)] hA (by cbv) ?_) (fun _ _ => rfl) ?_
  · repeat (first | exact hq0 | refine hq (by first | exact True.intro | rfl) ?_)
  · intro k z5 z6 h
    rw [laws_toCondS.l0] at h
    refine Run.seq ?_
    refine Run.seq ?_
    refine Run.region hL hT [] (by cbv) ?_ ?_
    · exact (hq trivial hq0)
    rw [show ln (eCond_c a0) = lenI_Cond a0 from ln_eq Cond_c _]
    refine Run.cond (by cbv) (hq0) (fun c7 => ?_) (fun c7 => ?_)
    · have h := if_t c7 h
      refine Run.skip ?_
      refine Run.seq ?_
      refine Run.block ?_
      obtain ⟨⟨x8v_Col, x8v_Op, x8v_V⟩, h_x8, h⟩ := bnd h
      obtain ⟨⟨r9v_Col, r9v_Op, r9v_V⟩, h_r9, h⟩ := bnd h
      obtain ⟨⟨x10v_Col, x10v_Op, x10v_V⟩, h_x10, h⟩ := bnd h
      obtain ⟨l11, h_l11, h⟩ := bnd h
      refine Run.region hL hT [(4, .el [.s (.int .i64 x8v_Col), .s (.int .i64 x8v_Op), .s (.int .i64 x8v_V)]), (6, .call [false] [.ag [.jk, .jk, .jk]] [.ag [.s (.int .i64 r9v_Col), .s (.int .i64 r9v_Op), .s (.int .i64 r9v_V)]])] (by cbv) ?_ ?_
      · exact (hq (get_le h_x8) (hq (get_lt (f := Cond_c) h_x8) (hq (get_ge (f := Cond_c) h_x8) (hq (hC (laws_toCond_ac h_r9)) (hq (get_le h_x10) (hq (get_lt (f := Cond_c) h_x10) (hq (get_le h_x10) (hq (get_lt (f := Cond_c) h_x10) hq0))))))))
      refine Run.row (rows := (up (eCond_c z5) z6 0 [.s (.int .i64 r9v_Col), .s (.int .i64 r9v_Op), .s (.int .i64 r9v_V)])) 1 (eCond_c l11) (by cbv) (sto_le (f := Cond_c) h_x10 h_l11 rfl LLe.r) ?_
      refine Run.region hL hT [] (by cbv) ?_ ?_
      · exact (hq trivial hq0)
      refine ⟨l11, (ar .add .i64 z6 1), h, Weak.of _ [(1, 1)] hA (by cbv) ?_⟩
      repeat (first | exact hq0 | refine hq (by first | exact True.intro | rfl) ?_)
    · have h := if_f c7 h
      refine Run.exit ?_
      refine Run.seq ?_
      refine Run.region hL hT [] (by cbv) ?_ ?_
      · exact hq0
      refine Run.ret ?_
      cases h
      refine ⟨_, _, by cbv, ?_, ?_⟩
      · exact LLe.r
      · exact (ALe.v LLe.r ALe.nil)

set_option maxRecDepth 8000 in
theorem laws_toQuery_ac {a0v_Table : Int} {a0v_Where : List Cond} {a0v_Order : Int} {a0v_Down : Bool} {a0v_First : Int} {a0v_Show : List Int} {a0v_Kids : Bool} {a0v_KidTable : Int} {a0v_KidCol : Int} {r : Query} (h : laws_toQuery.f (Query.mk a0v_Table a0v_Where a0v_Order a0v_Down a0v_First a0v_Show a0v_Kids a0v_KidTable a0v_KidCol) = some r) : AC Tryd.prog 8 [.ag [.s (.int .i64 a0v_Table), .im false (rowsOf Cond_c a0v_Where), .s (.int .i64 a0v_Order), .s (.bool a0v_Down), .s (.int .i64 a0v_First), .im false (rowsOf Int_c a0v_Show), .s (.bool a0v_Kids), .s (.int .i64 a0v_KidTable), .s (.int .i64 a0v_KidCol)]] [.ag [.jk, .jk, .jk, .jk, .jk, .jk, .jk, .jk, .jk]] [.ag [.s (.int .i64 r.Table), .ow 77 (rowsOf Cond_c r.Where), .s (.int .i64 r.Order), .s (.bool r.Down), .s (.int .i64 r.First), .ow 3 (rowsOf Int_c r.Show), .s (.bool r.Kids), .s (.int .i64 r.KidTable), .s (.int .i64 r.KidCol)]] := by
  unfold laws_toQuery.f at h
  let ar := Ls.ar; let cm := Ls.cm; let bo := Ls.bo; let sc := Ls.sc; let sa := Ls.sa; let sx := Ls.sx; let ss := Ls.ss; let sl := Ls.sl; let bs := Ls.bs; let sb := Ls.sb; let ln := Ls.ln; let sr := Ls.sr; let ap := Ls.ap; let up := Ls.up; let rp := Ls.rp; let fr := Ls.fr; let ge := Ls.ge; let le := Ls.le; let lt := Ls.lt; let nz := Ls.nz; let mm := Ls.mm; let ma := Ls.ma; let sm := Ls.sm; let fl := Ls.fl; let al := Ls.al; let ci := Ls.ci
  let eCond_c := rowsOf Cond_c
  let eInt_c := rowsOf Int_c
  have hL : (⟨ar, cm, bo, sc, sa, sx, ss, sl, bs, sb, ln, sr, ap, up, rp, fr, ge, le, lt, nz, mm, ma, sm, fl, al, ci⟩ : Lf) = Ls := rfl
  show AC Tryd.prog 8 [.ag [.s (.int .i64 a0v_Table), .im false (eCond_c a0v_Where), .s (.int .i64 a0v_Order), .s (.bool a0v_Down), .s (.int .i64 a0v_First), .im false (eInt_c a0v_Show), .s (.bool a0v_Kids), .s (.int .i64 a0v_KidTable), .s (.int .i64 a0v_KidCol)]] _ _
  refine AC.of_run2 tab_ok Tryd.func8 (by rfl) (by rfl) (by cbv) ⟨by decide, rfl⟩ fun F hP hA => ?_
  have hT : TabOk F.P tab := hP ▸ tab_ok
  have hM : F.P.follows .mixedOrders = true := hP ▸ mixed
  have hC : ∀ {f a o r}, AC Tryd.prog f a o r → AC F.P f a o r := fun h => hP ▸ h
  refine Run.seq ?_
  refine Run.region hL hT [] (by cbv) ?_ ?_
  · exact hq0
  refine Run.seq ?_
  refine Run.region hL hT [] (by cbv) ?_ ?_
  · exact hq0
  refine Run.seq ?_
  refine Run.region hL hT [] (by cbv) ?_ ?_
  · exact (hq trivial (hq trivial hq0))
  refine Run.seq ?_
  obtain ⟨r1, h_r1, h⟩ := bnd h
  refine Run.region hL hT [(2, .call [false] [.v (.jk)] [.v (.ow 77 (eCond_c r1))])] (by cbv) ?_ ?_
  · exact (hq trivial (hq (hC (laws_toCondS_ac h_r1)) (hq trivial hq0)))
  refine Run.seq ?_
  refine Run.region hL hT [] (by cbv) ?_ ?_
  · exact (hq trivial (hq trivial hq0))
  refine Run.seq ?_
  refine Run.region hL hT [] (by cbv) ?_ ?_
  · exact (hq trivial (hq trivial hq0))
  refine Run.seq ?_
  refine Run.region hL hT [] (by cbv) ?_ ?_
  · exact (hq trivial (hq trivial hq0))
  refine Run.seq ?_
  obtain ⟨r2, h_r2, h⟩ := bnd h
  refine Run.region hL hT [(2, .call [false] [.v (.jk)] [.v (.ow 3 (eInt_c r2))])] (by cbv) ?_ ?_
  · exact (hq trivial (hq (hC (laws_toIntS_ac h_r2)) (hq trivial hq0)))
  refine Run.seq ?_
  refine Run.region hL hT [] (by cbv) ?_ ?_
  · exact (hq trivial (hq trivial hq0))
  refine Run.seq ?_
  refine Run.region hL hT [] (by cbv) ?_ ?_
  · exact (hq trivial (hq trivial hq0))
  refine Run.seq ?_
  refine Run.region hL hT [] (by cbv) ?_ ?_
  · exact (hq trivial (hq trivial hq0))
  refine Run.seq ?_
  refine Run.region hL hT [] (by cbv) ?_ ?_
  · exact (hq trivial (hq trivial hq0))
  refine Run.ret ?_
  cases h
  refine ⟨_, _, by cbv, ?_, ?_⟩
  · exact LLe.r
  · exact (ALe.ag rfl LLe.r ALe.nil)

set_option maxRecDepth 8000 in
theorem laws_FnExactDocOf_ac {a0v_Table : Int} {a0v_Where : List Cond} {a0v_Order : Int} {a0v_Down : Bool} {a0v_First : Int} {a0v_Show : List Int} {a0v_Kids : Bool} {a0v_KidTable : Int} {a0v_KidCol : Int} {a1 : List Row} {a2 : List Int} {r : Bool} (h : laws_FnExactDocOf.f (Query.mk a0v_Table a0v_Where a0v_Order a0v_Down a0v_First a0v_Show a0v_Kids a0v_KidTable a0v_KidCol) a1 a2 = some r) : AC Tryd.prog 4 [.ag [.s (.int .i64 a0v_Table), .im false (rowsOf Cond_c a0v_Where), .s (.int .i64 a0v_Order), .s (.bool a0v_Down), .s (.int .i64 a0v_First), .im false (rowsOf Int_c a0v_Show), .s (.bool a0v_Kids), .s (.int .i64 a0v_KidTable), .s (.int .i64 a0v_KidCol)], .v (.im false (rowsOf Row_i a1)), .v (.im false (rowsOf Int_c a2))] [.ag [.jk, .jk, .jk, .jk, .jk, .jk, .jk, .jk, .jk], .v (.jk), .v (.jk)] [.v (.s (.bool r))] := by
  unfold laws_FnExactDocOf.f at h
  let ar := Ls.ar; let cm := Ls.cm; let bo := Ls.bo; let sc := Ls.sc; let sa := Ls.sa; let sx := Ls.sx; let ss := Ls.ss; let sl := Ls.sl; let bs := Ls.bs; let sb := Ls.sb; let ln := Ls.ln; let sr := Ls.sr; let ap := Ls.ap; let up := Ls.up; let rp := Ls.rp; let fr := Ls.fr; let ge := Ls.ge; let le := Ls.le; let lt := Ls.lt; let nz := Ls.nz; let mm := Ls.mm; let ma := Ls.ma; let sm := Ls.sm; let fl := Ls.fl; let al := Ls.al; let ci := Ls.ci
  let eCond_c := rowsOf Cond_c
  let eInt_c := rowsOf Int_c
  let eJson_i := rowsOf Json_i
  let eJson_k := rowsOf Json_k
  let eJson_o := rowsOf Json_o
  let eRow_i := rowsOf Row_i
  let eRow_o := rowsOf Row_o
  let eStr_c := rowsOf Str_c
  let lenI_Int := @lenI Int
  have hL : (⟨ar, cm, bo, sc, sa, sx, ss, sl, bs, sb, ln, sr, ap, up, rp, fr, ge, le, lt, nz, mm, ma, sm, fl, al, ci⟩ : Lf) = Ls := rfl
  show AC Tryd.prog 4 [.ag [.s (.int .i64 a0v_Table), .im false (eCond_c a0v_Where), .s (.int .i64 a0v_Order), .s (.bool a0v_Down), .s (.int .i64 a0v_First), .im false (eInt_c a0v_Show), .s (.bool a0v_Kids), .s (.int .i64 a0v_KidTable), .s (.int .i64 a0v_KidCol)], .v (.im false (eRow_i a1)), .v (.im false (eInt_c a2))] _ _
  refine AC.of_run2 tab_ok Tryd.func4 (by rfl) (by rfl) (by cbv) ⟨by decide, rfl⟩ fun F hP hA => ?_
  have hT : TabOk F.P tab := hP ▸ tab_ok
  have hM : F.P.follows .mixedOrders = true := hP ▸ mixed
  have hC : ∀ {f a o r}, AC Tryd.prog f a o r → AC F.P f a o r := fun h => hP ▸ h
  refine Run.seq ?_
  refine Run.region hL hT [] (by cbv) ?_ ?_
  · exact hq0
  refine Run.seq ?_
  refine Run.seq ?_
  refine Run.region hL hT [] (by cbv) ?_ ?_
  · exact (hq trivial hq0)
  rw [show ln (eInt_c a2) = lenI_Int a2 from ln_eq Int_c _]
  refine Run.cond (by cbv) (hq0) (fun c1 => ?_) (fun c1 => ?_)
  · have h := if_t c1 h
    refine Run.seq ?_
    refine Run.region hL hT [] (by cbv) ?_ ?_
    · exact hq0
    refine Run.ret ?_
    cases h
    refine ⟨_, _, by cbv, ?_, ?_⟩
    · exact LLe.r
    · exact (ALe.v LLe.r ALe.nil)
  · have h := if_f c1 h
    refine Run.skip ?_
    refine Run.seq ?_
    refine Run.region hL hT [] (by cbv) ?_ ?_
    · exact hq0
    refine Run.seq ?_
    obtain ⟨r2, h_r2, h⟩ := bnd h
    refine Run.region hL hT [(2, .call [false, false] [.ag [.jk, .jk, .jk, .jk, .jk, .jk, .jk, .jk, .jk], .v (.jk)] [.v (.s (.int .i64 r2))])] (by cbv) ?_ ?_
    · exact (hq trivial (hq (hC (laws_szQuery_ac h_r2)) hq0))
    refine Run.seq ?_
    refine Run.seq ?_
    refine Run.region hL hT [] (by cbv) ?_ ?_
    · exact (hq trivial hq0)
    refine Run.cond (by cbv) (hq0) (fun c3 => ?_) (fun c3 => ?_)
    · have h := if_t c3 h
      refine Run.seq ?_
      refine Run.region hL hT [] (by cbv) ?_ ?_
      · exact hq0
      refine Run.ret ?_
      cases h
      refine ⟨_, _, by cbv, ?_, ?_⟩
      · exact LLe.r
      · exact (ALe.v LLe.r ALe.nil)
    · have h := if_f c3 h
      refine Run.skip ?_
      refine Run.seq ?_
      obtain ⟨r4, h_r4, h⟩ := bnd h
      refine Run.region hL hT [(2, .call [false, false] [.v (.jk), .v (.jk)] [.v (.s (.int .i64 r4))])] (by cbv) ?_ ?_
      · exact (hq (hC (laws_szRowS_ac h_r4)) hq0)
      refine Run.seq ?_
      refine Run.seq ?_
      refine Run.region hL hT [] (by cbv) ?_ ?_
      · exact (hq trivial hq0)
      refine Run.cond (by cbv) (hq0) (fun c5 => ?_) (fun c5 => ?_)
      · have h := if_t c5 h
        refine Run.seq ?_
        refine Run.region hL hT [] (by cbv) ?_ ?_
        · exact hq0
        refine Run.ret ?_
        cases h
        refine ⟨_, _, by cbv, ?_, ?_⟩
        · exact LLe.r
        · exact (ALe.v LLe.r ALe.nil)
      · have h := if_f c5 h
        refine Run.skip ?_
        refine Run.seq ?_
        obtain ⟨⟨r6v_Table, r6v_Where, r6v_Order, r6v_Down, r6v_First, r6v_Show, r6v_Kids, r6v_KidTable, r6v_KidCol⟩, h_r6, h⟩ := bnd h
        obtain ⟨r7, h_r7, h⟩ := bnd h
        obtain ⟨r8, h_r8, h⟩ := bnd h
        obtain ⟨⟨r9v_Kind, r9v_N, r9v_S, r9v_List_, r9v_Names⟩, h_r9, h⟩ := bnd h
        refine Run.region hL hT [(1, .call [false] [.ag [.jk, .jk, .jk, .jk, .jk, .jk, .jk, .jk, .jk]] [.ag [.s (.int .i64 r6v_Table), .ow 77 (eCond_c r6v_Where), .s (.int .i64 r6v_Order), .s (.bool r6v_Down), .s (.int .i64 r6v_First), .ow 3 (eInt_c r6v_Show), .s (.bool r6v_Kids), .s (.int .i64 r6v_KidTable), .s (.int .i64 r6v_KidCol)]]), (3, .call [false] [.v (.jk)] [.v (.ow 39 (eRow_o r7))]), (5, .call [false] [.v (.jk)] [.v (.ow 3 (eInt_c r8))]), (6, .call [false, false, false] [.ag [.jk, .jk, .jk, .jk, .jk, .jk, .jk, .jk, .jk], .v (.jk), .v (.jk)] [.ag [.s (.int .i64 r9v_Kind), .s (.int .i64 r9v_N), .s (.string r9v_S), .im true (eJson_k r9v_List_), .im true (eStr_c r9v_Names)]])] (by cbv) ?_ ?_
        · exact (hq trivial (hq (hC (laws_toQuery_ac h_r6)) (hq (hC (laws_toRowS_ac h_r7)) (hq (hC (laws_toIntS_ac h_r8)) (hq (hC (AC.args (spec_DocOf_ac h_r9) (ALe.ag rfl (LLe.c (LLe.cons (LLe.im (RLe.eq (fr_row Cond_c_z _))) (LLe.c (LLe.c (LLe.c (LLe.cons (LLe.im (RLe.eq (fr_row Int_c_z _))) (LLe.c (LLe.c (LLe.c LLe.nil))))))))) (ALe.v (LLe.im (RLe.eq (fr_row Row_o_z _))) (ALe.v (LLe.im (RLe.eq (fr_row Int_c_z _))) ALe.nil))))) (hq trivial hq0))))))
        refine Run.seq ?_
        obtain ⟨⟨r10v_Table, r10v_Where, r10v_Order, r10v_Down, r10v_First, r10v_Show, r10v_Kids, r10v_KidTable, r10v_KidCol⟩, h_r10, h⟩ := bnd h
        refine Run.region hL hT [(1, .call [false] [.ag [.jk, .jk, .jk, .jk, .jk, .jk, .jk, .jk, .jk]] [.ag [.s (.int .i64 r10v_Table), .ow 77 (eCond_c r10v_Where), .s (.int .i64 r10v_Order), .s (.bool r10v_Down), .s (.int .i64 r10v_First), .ow 3 (eInt_c r10v_Show), .s (.bool r10v_Kids), .s (.int .i64 r10v_KidTable), .s (.int .i64 r10v_KidCol)]])] (by cbv) ?_ ?_
        · exact (hq trivial (hq (hC (laws_toQuery_ac h_r10)) (hq trivial hq0)))
        refine Run.seq ?_
        obtain ⟨r11, h_r11, h⟩ := bnd h
        refine Run.region hL hT [(1, .call [false] [.v (.jk)] [.v (.ow 39 (eRow_o r11))])] (by cbv) ?_ ?_
        · exact (hq (hC (laws_toRowS_ac h_r11)) hq0)
        refine Run.seq ?_
        obtain ⟨r12, h_r12, h⟩ := bnd h
        refine Run.region hL hT [(1, .call [false] [.v (.jk)] [.v (.ow 3 (eInt_c r12))])] (by cbv) ?_ ?_
        · exact (hq (hC (laws_toIntS_ac h_r12)) hq0)
        refine Run.seq ?_
        obtain ⟨⟨r13v_Kind, r13v_N, r13v_S, r13v_List_, r13v_Names⟩, h_r13, h⟩ := bnd h
        refine Run.region hL hT [(3, .call [false, false, false] [.ag [.jk, .jk, .jk, .jk, .jk, .jk, .jk, .jk, .jk], .v (.jk), .v (.jk)] [.ag [.s (.int .i64 r13v_Kind), .s (.int .i64 r13v_N), .s (.string r13v_S), .ow 33 (eJson_o r13v_List_), .ow 9 (eStr_c r13v_Names)]])] (by cbv) ?_ ?_
        · exact (hq trivial (hq (hC (AC.args (impl_DocOf_ac h_r13) (ALe.ag rfl (LLe.c (LLe.cons (LLe.im (RLe.eq (fr_row Cond_c_z _))) (LLe.c (LLe.c (LLe.c (LLe.cons (LLe.im (RLe.eq (fr_row Int_c_z _))) (LLe.c (LLe.c (LLe.c LLe.nil))))))))) (ALe.v (LLe.im (RLe.eq (fr_row Row_o_z _))) (ALe.v (LLe.im (RLe.eq (fr_row Int_c_z _))) ALe.nil))))) (hq trivial hq0)))
        refine Run.seq ?_
        refine Run.seq ?_
        obtain ⟨r14, h_r14, h⟩ := bnd h
        refine Run.region hL hT [(2, .call [false, false] [.ag [.jk, .jk, .jk, .jk, .jk], .ag [.jk, .jk, .jk, .jk, .jk]] [.v (.s (.bool r14))])] (by cbv) ?_ ?_
        · exact (hq trivial (hq trivial (hq (hC (AC.args (laws_eqJson_ac h_r14) (ALe.ag rfl (LLe.c (LLe.c (LLe.c (LLe.cons (LLe.im (RLe.eq (fr_row Json_o_z _))) (LLe.cons (LLe.im (RLe.eq (fr_row Str_c_z _))) LLe.nil))))) (ALe.ag rfl (LLe.c (LLe.c (LLe.c (LLe.cons (LLe.im (Json_k_le _)) (LLe.c LLe.nil))))) ALe.nil)))) hq0)))
        refine Run.cond (by cbv) (hq0) (fun c15 => ?_) (fun c15 => ?_)
        · have h := if_t c15 h
          refine Run.seq ?_
          refine Run.region hL hT [] (by cbv) ?_ ?_
          · exact hq0
          refine Run.ret ?_
          cases h
          refine ⟨_, _, by cbv, ?_, ?_⟩
          · exact LLe.r
          · exact (ALe.v LLe.r ALe.nil)
        · have h := if_f c15 h
          refine Run.skip ?_
          refine Run.seq ?_
          refine Run.seq ?_
          obtain ⟨⟨r16v_Table, r16v_Where, r16v_Order, r16v_Down, r16v_First, r16v_Show, r16v_Kids, r16v_KidTable, r16v_KidCol⟩, h_r16, h⟩ := bnd h
          obtain ⟨r17, h_r17, h⟩ := bnd h
          refine Run.draw hL hT hM [(2, .call [false] [.ag [.jk, .jk, .jk, .jk, .jk, .jk, .jk, .jk, .jk]] [.ag [.s (.int .i64 r16v_Table), .ow 77 (eCond_c r16v_Where), .s (.int .i64 r16v_Order), .s (.bool r16v_Down), .s (.int .i64 r16v_First), .ow 3 (eInt_c r16v_Show), .s (.bool r16v_Kids), .s (.int .i64 r16v_KidTable), .s (.int .i64 r16v_KidCol)]]), (3, .call [false, false] [.ag [.jk, .jk, .jk, .jk, .jk, .jk, .jk, .jk, .jk], .ag [.jk, .jk, .jk, .jk, .jk, .jk, .jk, .jk, .jk]] [.v (.s (.bool r17))])] (by cbv) (by cbv) (by cbv) (by cbv) (by cbv) ?_ ?_
          · exact (hq trivial (hq trivial (hq (hC (laws_toQuery_ac h_r16)) (hq (hC (AC.args (laws_eqQuery_ac h_r17) (ALe.ag rfl (LLe.c (LLe.cons (LLe.im (RLe.eq (fr_row Cond_c_z _))) (LLe.c (LLe.c (LLe.c (LLe.cons (LLe.im (RLe.eq (fr_row Int_c_z _))) (LLe.c (LLe.c (LLe.c LLe.nil))))))))) (ALe.ag rfl (LLe.c (LLe.cons (LLe.im (RLe.eq (fr_row Cond_c_z _))) (LLe.c (LLe.c (LLe.c (LLe.cons (LLe.im (RLe.eq (fr_row Int_c_z _))) (LLe.c (LLe.c (LLe.c LLe.nil))))))))) ALe.nil)))) hq0))))
          refine Run.cond (by cbv) (hq0) (fun c18 => ?_) (fun c18 => ?_)
          · have h := if_t c18 h
            refine Run.seq ?_
            refine Run.region hL hT [] (by cbv) ?_ ?_
            · exact hq0
            refine Run.ret ?_
            cases h
            refine ⟨_, _, by cbv, ?_, ?_⟩
            · exact LLe.r
            · exact (ALe.v LLe.r ALe.nil)
          · have h := if_f c18 h
            refine Run.skip ?_
            refine Run.seq ?_
            refine Run.seq ?_
            obtain ⟨r19, h_r19, h⟩ := bnd h
            obtain ⟨r20, h_r20, h⟩ := bnd h
            refine Run.region hL hT [(2, .call [false] [.v (.jk)] [.v (.ow 39 (eRow_o r19))]), (3, .call [false, false] [.v (.jk), .v (.jk)] [.v (.s (.bool r20))])] (by cbv) ?_ ?_
            · exact (hq (hC (laws_toRowS_ac h_r19)) (hq (hC (AC.args (laws_eqRowS_ac h_r20) (ALe.v (LLe.im (RLe.eq (fr_row Row_o_z _))) (ALe.v (LLe.im (RLe.eq (fr_row Row_o_z _))) ALe.nil)))) hq0))
            refine Run.cond (by cbv) (hq0) (fun c21 => ?_) (fun c21 => ?_)
            · have h := if_t c21 h
              refine Run.seq ?_
              refine Run.region hL hT [] (by cbv) ?_ ?_
              · exact hq0
              refine Run.ret ?_
              cases h
              refine ⟨_, _, by cbv, ?_, ?_⟩
              · exact LLe.r
              · exact (ALe.v LLe.r ALe.nil)
            · have h := if_f c21 h
              refine Run.skip ?_
              refine Run.seq ?_
              refine Run.seq ?_
              obtain ⟨r22, h_r22, h⟩ := bnd h
              obtain ⟨r23, h_r23, h⟩ := bnd h
              refine Run.region hL hT [(2, .call [false] [.v (.jk)] [.v (.ow 3 (eInt_c r22))]), (3, .call [false, false] [.v (.jk), .v (.jk)] [.v (.s (.bool r23))])] (by cbv) ?_ ?_
              · exact (hq (hC (laws_toIntS_ac h_r22)) (hq (hC (AC.args (laws_eqIntS_ac h_r23) (ALe.v (LLe.im (RLe.eq (fr_row Int_c_z _))) (ALe.v (LLe.im (RLe.eq (fr_row Int_c_z _))) ALe.nil)))) hq0))
              refine Run.cond (by cbv) (hq0) (fun c24 => ?_) (fun c24 => ?_)
              · have h := if_t c24 h
                refine Run.seq ?_
                refine Run.region hL hT [] (by cbv) ?_ ?_
                · exact hq0
                refine Run.ret ?_
                cases h
                refine ⟨_, _, by cbv, ?_, ?_⟩
                · exact LLe.r
                · exact (ALe.v LLe.r ALe.nil)
              · have h := if_f c24 h
                refine Run.skip ?_
                refine Run.seq ?_
                refine Run.region hL hT [] (by cbv) ?_ ?_
                · exact hq0
                refine Run.seq ?_
                obtain ⟨⟨⟨r25v_1v_Table, r25v_1v_Where, r25v_1v_Order, r25v_1v_Down, r25v_1v_First, r25v_1v_Show, r25v_1v_Kids, r25v_1v_KidTable, r25v_1v_KidCol⟩, r25v_2⟩, h_r25, h⟩ := bnd h
                refine Run.region hL hT [(2, .call [true, false] [.ag [.jk, .ow 77 (eCond_c r25v_1v_Where), .jk, .jk, .jk, .ow 3 (eInt_c r25v_1v_Show), .jk, .jk, .jk], .v (.jk)] [.v (.s (.int .i64 r25v_2))])] (by cbv) ?_ ?_
                · exact (hq trivial (hq (hC (laws_markQuery_ac h_r25)) hq0))
                refine Run.seq ?_
                obtain ⟨⟨r26v_1, r26v_2⟩, h_r26, h⟩ := bnd h
                refine Run.region hL hT [(2, .call [true, false] [.v (.ow 39 (eRow_o r26v_1)), .v (.jk)] [.v (.s (.int .i64 r26v_2))])] (by cbv) ?_ ?_
                · exact (hq (hC (laws_markRowS_ac h_r26)) hq0)
                refine Run.seq ?_
                obtain ⟨⟨r27v_1, r27v_2⟩, h_r27, h⟩ := bnd h
                refine Run.region hL hT [(2, .call [true, false] [.v (.ow 3 (eInt_c r27v_1)), .v (.jk)] [.v (.s (.int .i64 r27v_2))])] (by cbv) ?_ ?_
                · exact (hq (hC (laws_markIntS_ac h_r27)) hq0)
                refine Run.seq ?_
                refine Run.seq ?_
                obtain ⟨r28, h_r28, h⟩ := bnd h
                refine Run.region hL hT [(5, .call [false, false] [.ag [.jk, .jk, .jk, .jk, .jk], .ag [.jk, .jk, .jk, .jk, .jk]] [.v (.s (.bool r28))])] (by cbv) ?_ ?_
                · exact (hq trivial (hq (fun g29 => (hq trivial hq0)) (hq (fun g30 => (hq trivial hq0)) (hq (fun g31 => (hq g31 (hq g31 (hq (hC (AC.args (laws_eqJson_ac (gd_t h_r28 g31)) (ALe.ag rfl (LLe.c (LLe.c (LLe.c (LLe.cons (LLe.im (RLe.eq (fr_row Json_o_z _))) (LLe.cons (LLe.im (RLe.eq (fr_row Str_c_z _))) LLe.nil))))) (ALe.ag rfl (LLe.c (LLe.c (LLe.c (LLe.cons (LLe.im (Json_k_le _)) (LLe.c LLe.nil))))) ALe.nil)))) hq0)))) (hq (fun g32 => (hq g32 hq0)) (hq (fun _ => hq0) (hq (fun q34 => (hq (bo_m q34) hq0)) hq0)))))))
                refine Run.cond (by cbv) (hq0) (fun c35 => ?_) (fun c35 => ?_)
                · have h := if_t c35 h
                  refine Run.seq ?_
                  refine Run.region hL hT [] (by cbv) ?_ ?_
                  · exact hq0
                  refine Run.ret ?_
                  cases h
                  refine ⟨_, _, by cbv, ?_, ?_⟩
                  · exact LLe.r
                  · exact (ALe.v LLe.r ALe.nil)
                · have h := if_f c35 h
                  refine Run.skip ?_
                  refine Run.seq ?_
                  refine Run.region hL hT [] (by cbv) ?_ ?_
                  · exact hq0
                  refine Run.seq ?_
                  obtain ⟨⟨⟨r36v_1v_Kind, r36v_1v_N, r36v_1v_S, r36v_1v_List_, r36v_1v_Names⟩, r36v_2⟩, h_r36, h⟩ := bnd h
                  refine Run.region hL hT [(2, .call [true, false] [.ag [.jk, .jk, .jk, .ow 33 (eJson_o r36v_1v_List_), .ow 9 (eStr_c r36v_1v_Names)], .v (.jk)] [.v (.s (.int .i64 r36v_2))])] (by cbv) ?_ ?_
                  · exact (hq trivial (hq (hC (laws_markJson_ac h_r36)) hq0))
                  refine Run.seq ?_
                  refine Run.region hL hT [] (by cbv) ?_ ?_
                  · exact hq0
                  refine Run.seq ?_
                  obtain ⟨r37, h_r37, h⟩ := bnd h
                  refine Run.region hL hT [(2, .call [false, false] [.ag [.jk, .jk, .jk, .jk, .jk], .v (.jk)] [.v (.s (.int .i64 r37))])] (by cbv) ?_ ?_
                  · exact (hq trivial (hq (hC (AC.args (laws_heldJson_ac h_r37) (ALe.ag rfl (LLe.c (LLe.c (LLe.c (LLe.cons (LLe.im (RLe.eq (fr_row Json_o_z _))) (LLe.cons (LLe.im (RLe.eq (fr_row Str_c_z _))) LLe.nil))))) (ALe.v LLe.r ALe.nil)))) hq0))
                  refine Run.seq ?_
                  refine Run.seq ?_
                  refine Run.region hL hT [] (by cbv) ?_ ?_
                  · exact (hq trivial hq0)
                  refine Run.cond (by cbv) (hq0) (fun c38 => ?_) (fun c38 => ?_)
                  · have h := if_t c38 h
                    refine Run.seq ?_
                    refine Run.region hL hT [] (by cbv) ?_ ?_
                    · exact hq0
                    refine Run.ret ?_
                    cases h
                    refine ⟨_, _, by cbv, ?_, ?_⟩
                    · exact LLe.r
                    · exact (ALe.v LLe.r ALe.nil)
                  · have h := if_f c38 h
                    refine Run.skip ?_
                    refine Run.seq ?_
                    refine Run.seq ?_
                    refine Run.region hL hT [] (by cbv) ?_ ?_
                    · exact (hq trivial hq0)
                    refine Run.cond (by cbv) (hq0) (fun c39 => ?_) (fun c39 => ?_)
                    · have h := if_t c39 h
                      refine Run.seq ?_
                      refine Run.region hL hT [] (by cbv) ?_ ?_
                      · exact hq0
                      refine Run.ret ?_
                      cases h
                      refine ⟨_, _, by cbv, ?_, ?_⟩
                      · exact LLe.r
                      · exact (ALe.v LLe.r ALe.nil)
                    · have h := if_f c39 h
                      refine Run.skip ?_
                      refine Run.seq ?_
                      obtain ⟨⟨r40v_Table, r40v_Where, r40v_Order, r40v_Down, r40v_First, r40v_Show, r40v_Kids, r40v_KidTable, r40v_KidCol⟩, h_r40, h⟩ := bnd h
                      obtain ⟨r41, h_r41, h⟩ := bnd h
                      obtain ⟨r42, h_r42, h⟩ := bnd h
                      obtain ⟨⟨r43v_Kind, r43v_N, r43v_S, r43v_List_, r43v_Names⟩, h_r43, h⟩ := bnd h
                      refine Run.region hL hT [(1, .call [false] [.ag [.jk, .jk, .jk, .jk, .jk, .jk, .jk, .jk, .jk]] [.ag [.s (.int .i64 r40v_Table), .ow 77 (eCond_c r40v_Where), .s (.int .i64 r40v_Order), .s (.bool r40v_Down), .s (.int .i64 r40v_First), .ow 3 (eInt_c r40v_Show), .s (.bool r40v_Kids), .s (.int .i64 r40v_KidTable), .s (.int .i64 r40v_KidCol)]]), (3, .call [false] [.v (.jk)] [.v (.ow 39 (eRow_o r41))]), (5, .call [false] [.v (.jk)] [.v (.ow 3 (eInt_c r42))]), (6, .call [false, false, false] [.ag [.jk, .jk, .jk, .jk, .jk, .jk, .jk, .jk, .jk], .v (.jk), .v (.jk)] [.ag [.s (.int .i64 r43v_Kind), .s (.int .i64 r43v_N), .s (.string r43v_S), .ow 33 (eJson_o r43v_List_), .ow 9 (eStr_c r43v_Names)]])] (by cbv) ?_ ?_
                      · exact (hq trivial (hq (hC (laws_toQuery_ac h_r40)) (hq (hC (laws_toRowS_ac h_r41)) (hq (hC (laws_toIntS_ac h_r42)) (hq (hC (AC.args (impl_DocOf_ac h_r43) (ALe.ag rfl (LLe.c (LLe.cons (LLe.im (RLe.eq (fr_row Cond_c_z _))) (LLe.c (LLe.c (LLe.c (LLe.cons (LLe.im (RLe.eq (fr_row Int_c_z _))) (LLe.c (LLe.c (LLe.c LLe.nil))))))))) (ALe.v (LLe.im (RLe.eq (fr_row Row_o_z _))) (ALe.v (LLe.im (RLe.eq (fr_row Int_c_z _))) ALe.nil))))) (hq trivial hq0))))))
                      refine Run.seq ?_
                      refine Run.seq ?_
                      obtain ⟨r44, h_r44, h⟩ := bnd h
                      refine Run.region hL hT [(2, .call [false, false] [.ag [.jk, .jk, .jk, .jk, .jk], .ag [.jk, .jk, .jk, .jk, .jk]] [.v (.s (.bool r44))])] (by cbv) ?_ ?_
                      · exact (hq trivial (hq trivial (hq (hC (AC.args (laws_eqJson_ac h_r44) (ALe.ag rfl (LLe.c (LLe.c (LLe.c (LLe.cons (LLe.im (RLe.eq (fr_row Json_o_z _))) (LLe.cons (LLe.im (RLe.eq (fr_row Str_c_z _))) LLe.nil))))) (ALe.ag rfl (LLe.c (LLe.c (LLe.c (LLe.cons (LLe.im (Json_k_le _)) (LLe.c LLe.nil))))) ALe.nil)))) hq0)))
                      refine Run.cond (by cbv) (hq0) (fun c45 => ?_) (fun c45 => ?_)
                      · have h := if_t c45 h
                        refine Run.seq ?_
                        refine Run.region hL hT [] (by cbv) ?_ ?_
                        · exact hq0
                        refine Run.ret ?_
                        cases h
                        refine ⟨_, _, by cbv, ?_, ?_⟩
                        · exact LLe.r
                        · exact (ALe.v LLe.r ALe.nil)
                      · have h := if_f c45 h
                        refine Run.skip ?_
                        refine Run.seq ?_
                        refine Run.region hL hT [] (by cbv) ?_ ?_
                        · exact hq0
                        refine Run.seq ?_
                        obtain ⟨r46, h_r46, h⟩ := bnd h
                        refine Run.region hL hT [(2, .call [false, false] [.ag [.jk, .jk, .jk, .jk, .jk], .v (.jk)] [.v (.s (.int .i64 r46))])] (by cbv) ?_ ?_
                        · exact (hq trivial (hq (hC (AC.args (laws_heldJson_ac h_r46) (ALe.ag rfl (LLe.c (LLe.c (LLe.c (LLe.cons (LLe.im (RLe.eq (fr_row Json_o_z _))) (LLe.cons (LLe.im (RLe.eq (fr_row Str_c_z _))) LLe.nil))))) (ALe.v LLe.r ALe.nil)))) hq0))
                        refine Run.seq ?_
                        refine Run.seq ?_
                        refine Run.region hL hT [] (by cbv) ?_ ?_
                        · exact (hq trivial hq0)
                        refine Run.cond (by cbv) (hq0) (fun c47 => ?_) (fun c47 => ?_)
                        · have h := if_t c47 h
                          refine Run.seq ?_
                          refine Run.region hL hT [] (by cbv) ?_ ?_
                          · exact hq0
                          refine Run.ret ?_
                          cases h
                          refine ⟨_, _, by cbv, ?_, ?_⟩
                          · exact LLe.r
                          · exact (ALe.v LLe.r ALe.nil)
                        · have h := if_f c47 h
                          refine Run.skip ?_
                          refine Run.seq ?_
                          refine Run.seq ?_
                          refine Run.region hL hT [] (by cbv) ?_ ?_
                          · exact (hq trivial hq0)
                          refine Run.cond (by cbv) (hq0) (fun c48 => ?_) (fun c48 => ?_)
                          · have h := if_t c48 h
                            refine Run.seq ?_
                            refine Run.region hL hT [] (by cbv) ?_ ?_
                            · exact hq0
                            refine Run.ret ?_
                            cases h
                            refine ⟨_, _, by cbv, ?_, ?_⟩
                            · exact LLe.r
                            · exact (ALe.v LLe.r ALe.nil)
                          · have h := if_f c48 h
                            refine Run.skip ?_
                            refine Run.seq ?_
                            refine Run.region hL hT [] (by cbv) ?_ ?_
                            · exact hq0
                            refine Run.ret ?_
                            cases h
                            refine ⟨_, _, by cbv, ?_, ?_⟩
                            · exact LLe.r
                            · exact (ALe.v LLe.r ALe.nil)


end Go.Proofs.YthklhdakkenklaaDoor.L
