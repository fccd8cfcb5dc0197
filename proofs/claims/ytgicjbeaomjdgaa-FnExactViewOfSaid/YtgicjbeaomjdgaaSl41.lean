/- slices.Insert of one element: the contract, out of what the call does to memory. -/
import Derived.Test.YtgicjbeaomjdgaaSl40
import Derived.Lib.AppendZerosOnto
import Derived.Lib.Overlaps
import Derived.WalkKit
import Derived.Shelf.RegionOpenPlain
import Derived.Lib.Walk
import Derived.Laws.Externs
namespace Go.Proofs.Ytgicjbeaomjdgaa.L
set_option linter.unusedVariables false
set_option linter.unusedSimpArgs false
open Go
variable {P : Program} {w : World}

/-- What the call does: a row, one element more. -/
def InsRaw (P : Program) (f : FuncId) (e sz bt : Nat) : Prop :=
  ∀ (w : World) (v0 v2 : Value) (n i : Nat) (us us2 : List Value), i ≤ n → (n + 1) * bt ≤ 140737488355328 → n + 1 ≤ 140737488355328 → w.ownsRow 0 e sz v0 n us → w.ownsRow 0 e sz v2 1 us2 → (∀ b, v0.ownBlock = some b → v2.ownBlock ≠ some b) →
    (∀ u ∈ us, u.oneCell' = true) → (∀ u ∈ us2, u.oneCell' = true) →
    Calls P f #[v0, .int .i64 i, v2] w fun ex w' => ∃ v', ex = .returned v' ∧ w'.ownsRow 0 e sz v' (n + 1) (us.take (i * sz) ++ us2 ++ us.drop (i * sz)) ∧ Kept w w' (fun b => v0.ownBlock = some b) ∧ ∀ b, v'.ownBlock = some b → v0.ownBlock = some b ∨ w.heap.size ≤ b

theorem AC.of_ins {f e sz bt : Nat} {rows : Rws} {r : List T} {i : Nat} (hx : ∃ fn, P.funcs[f]? = some fn ∧ (fn.name == "runtime.NumGoroutine") = false ∧ fn.body.isNone = false) (hsz : P.cellsOf e = sz) (hraw : InsRaw P f e sz bt) (hi : i ≤ rows.length) (hb : (rows.length + 1) * bt ≤ 140737488355328) (hb2 : rows.length + 1 ≤ 140737488355328) :
    AC P f [.v (.ow e rows), .v (.s (.int .i64 i)), .v (.ow e [r])] [.v .jk, .v .jk, .v .jk] [.v (.ow e (rows.take i ++ [r] ++ rows.drop i))] := by
  refine AC.of0 hx fun w K S φ vs us hKS hS hφ has hc => ?_
  cases has with
  | v has => cases has with
  | v has => cases has with
  | v has =>
  cases has
  simp only [acells, A.cells, List.singleton_append, List.append_nil] at hc
  have hone := hc.one
  rename_i v0 v1 v2
  cases hc with
  | @ow _ _ φ1 φ2 _ _ _ _ _ hs0 us0 ho0 ψ1 hb1 hψ1 hr0 h hd h1 h2 =>
  cases h with
  | s _ h => cases h with
  | @ow _ _ φ3 φ4 _ _ _ _ _ hs2 us2 ho2 ψ2 hb3 hψ2 hr2 h hd2 h3 h4 =>
  cases h
  subst hsz
  generalize hsz : P.cellsOf e = sz at *
  have hne : ∀ b, v0.ownBlock = some b → v2.ownBlock ≠ some b := fun b hb hb' => hd b (hb1 b hb).1 (h3 b (hb3 b hb').1)
  refine (hraw w v0 v2 rows.length i us0 us2 hi hb hb2 ho0 ho2 hne hr0.one hr2.one).mono ?_
  rintro ex w' ⟨v', rfl, hown, hk, hnb⟩
  have hlow : ∀ b, φ b → b < w.heap.size := fun b hb => (hφ b hb).1
  have hsame : ∀ b, b < w.heap.size → v0.ownBlock ≠ some b → w'.heap[b]? = w.heap[b]? := fun b hb hn => hk.block b hb hn
  have hK : ∀ b, K b → w'.heap[b]? = w.heap[b]? := fun b hb => hsame b (hS b (hKS b hb)) fun e => (hφ b (h1 b (hb1 b e).1)).2 (hKS b hb)
  have hψ1' : ∀ b, ψ1 b → w'.heap[b]? = w.heap[b]? := fun b hb => hsame b (hlow b (h1 b (hψ1 b hb))) fun e => (hb1 b e).2 hb
  have hψ2' : ∀ b, ψ2 b → w'.heap[b]? = w.heap[b]? := fun b hb => hsame b (hlow b (h2 b (h3 b (hψ2 b hb)))) fun e => hd b (hb1 b e).1 (h3 b (hψ2 b hb))
  have hr0' := hr0.move hK hK hψ1'
  have hr2' := hr2.move hK hK hψ2'
  have hdψ : Dj ψ1 ψ2 := fun b ha hb => hd b (hψ1 b ha) (h3 b (hψ2 b hb))
  rw [← List.take_append_drop i rows, List.flatten_append] at hr0'
  obtain ⟨ua, ub, φa, φb, hu, ha, hb', hdab, sa, sb⟩ := hr0'.split
  have hla : ua.length = i * sz := by
    rw [ha.len, flatten_len (rows.take i) (fun q hq => hs0 q (List.mem_of_mem_take hq)), List.length_take, Nat.min_eq_left hi]
  have e1 : us0.take (i * sz) = ua := by rw [hu, ← hla]; exact List.take_left' rfl
  have e2 : us0.drop (i * sz) = ub := by rw [hu, ← hla]; exact List.drop_left' rfl
  have hres : CR P w' K K (rows.take i ++ [r] ++ rows.drop i).flatten (us0.take (i * sz) ++ us2 ++ us0.drop (i * sz)) (fun b => ψ1 b ∨ ψ2 b) := by
    rw [e1, e2, List.flatten_append, List.flatten_append]
    refine CR.join (φ1 := fun b => φa b ∨ ψ2 b) (CR.join ha hr2' (fun b h h' => hdψ b (sa b h) h') (fun b h => .inl h) (fun b h => .inr h)) hb' ?_ ?_ (fun b h => .inl (sb b h))
    · rintro b (h | h) h'
      · exact hdab b h h'
      · exact hdψ b (sb b h') h
    · rintro b (h | h)
      · exact .inl (sa b h)
      · exact .inr h
  have hsb : ∀ b, ψ1 b ∨ ψ2 b → φ b := fun b h => h.elim (fun h => h1 b (hψ1 b h)) (fun h => h2 b (h3 b (hψ2 b h)))
  refine ⟨[v'], [v'], fun b => v'.ownBlock = some b ∨ (ψ1 b ∨ ψ2 b), rfl, .v .nil, ?_, ?_, ?_⟩
  · refine .jk (hone _ (by simp)) (.jk (hone _ (by simp)) (.jk (hone _ (by simp)) ?_))
    refine .ow (φ1 := fun b => v'.ownBlock = some b ∨ (ψ1 b ∨ ψ2 b)) (φ2 := no) (fun q hq => ?_) _ (by
      have hl : (rows.take i ++ [r] ++ rows.drop i).length = rows.length + 1 := by simp; omega
      rw [hl, hsz]; exact hown) (fun b => ψ1 b ∨ ψ2 b) (fun b hb => ⟨.inl hb, ?_⟩) (fun b hb => .inr hb) hres .nil (fun _ _ h => h.elim) (fun _ h => h) (fun _ h => h.elim)
    · rw [hsz]
      rcases List.mem_append.1 hq with hq | hq
      · rcases List.mem_append.1 hq with hq | hq
        · exact hs0 q (List.mem_of_mem_take hq)
        · exact hs2 q hq
      · exact hs0 q (List.mem_of_mem_drop hq)
    · rcases hnb b hb with h | h
      · rintro (h' | h')
        · exact (hb1 b h).2 h'
        · exact hd b (hb1 b h).1 (h3 b (hψ2 b h'))
      · intro h'
        have := hlow b (hsb b h')
        omega
  · rintro b (h | h)
    · refine ⟨(hown.lt b h).2, ?_⟩
      rcases hnb b h with h | h
      · exact .inl (h1 b (hb1 b h).1)
      · exact .inr h
    · exact ⟨Nat.lt_of_lt_of_le (hlow b (hsb b h)) hk.size, .inl (hsb b h)⟩
  · exact (Kept.refl w _).trans hk (fun b hb _ => h1 b (hb1 b hb).1)

/-! ### the walk -/
/-- An operation whose run is known. -/
theorem wpList_run {P : Program} {ops : Array Oper} {rest : List Oper} {o : Oper} {a : Act} {w w' : World} {u : Value} {Q : Exit → Act → World → Prop} (hgd : o.guard = none)
    (hr : (execOp a.eval o).run P w = .ok (.value u) w') (h : wpList P ops Q rest (a.put o.dst u) w') : wpList P ops Q (o :: rest) a w :=
  wpList_plain hgd fun _ hK => by
    unfold Oper.wp
    rw [hr]
    exact hK _ _ h

/-- .. and as a step of a region in any order. -/
theorem step_run {P : Program} {ops : Array Oper} {o : Oper} {a : Act} {w w' : World} {u : Value} {K : Act → World → Prop} {Q : Exit → Act → World → Prop} {E : Prop} (hgd : o.guard = none)
    (hr : (execOp a.eval o).run P w = .ok (.value u) w') (hK : K (a.put o.dst u) w') : if Region.wanted o (yielded ops a.tmps) = true then Oper.wp P o a w K Q else E := by
  have hw : Region.wanted o (yielded ops a.tmps) = true := by simp [Region.wanted, hgd]
  rw [if_pos hw]
  unfold Oper.wp
  rw [hr]
  exact hK

theorem exec_copy {P : Program} {w w' : World} {o : Oper} {a : Act} {d s : Operand} {t t' : TypeId} {v u x : Value} (ho : o.op = .call { callee := .builtin .copy, args := #[d, s], argTypes := #[t, t'] }) (hd : a.eval d = v) (hs : a.eval s = u)
    (hr : (Builtin.copy_ #[t, t'] o.type #[v, u]).run P w = .ok x w') : (execOp a.eval o).run P w = .ok (.value x) w' := by
  simp [execOp, ho, resolve, invoke, builtin, hd, hs, hr, Result.andThen]

theorem exec_append {P : Program} {w w' : World} {o : Oper} {a : Act} {d s : Operand} {t t' : TypeId} {v u x : Value} (ho : o.op = .call { callee := .builtin .append, args := #[d, s], argTypes := #[t, t'] }) (hd : a.eval d = v) (hs : a.eval s = u)
    (hr : (Builtin.append_ #[t, t'] o.type #[v, u]).run P w = .ok x w') : (execOp a.eval o).run P w = .ok (.value x) w' := by
  simp [execOp, ho, resolve, invoke, builtin, hd, hs, hr, Result.andThen]

/-- The row's cells behind the first copy, behind the second. -/
def insA (cur us : List Value) (i sz : Nat) : List Value := cur.take ((i + 1) * sz) ++ us.drop (i * sz) ++ cur.drop ((i + 1) * sz + (us.drop (i * sz)).length)
def insB (cur us us2 : List Value) (i sz : Nat) : List Value := (insA cur us i sz).take (i * sz) ++ us2 ++ (insA cur us i sz).drop (i * sz + us2.length)

theorem insA_len {cur us : List Value} {i n sz : Nat} (hul : us.length = n * sz) (hi : i ≤ n) (hc : (n + 1) * sz ≤ cur.length) : (insA cur us i sz).length = cur.length := by
  have m1 : (n + 1) * sz = (i + 1) * sz + (n - i) * sz := by rw [← Nat.add_mul]; congr 1; omega
  have m2 : n * sz = i * sz + (n - i) * sz := by rw [← Nat.add_mul]; congr 1; omega
  simp only [insA, List.length_append, List.length_take, List.length_drop, hul]
  omega
theorem insB_len {cur us us2 : List Value} {i n sz : Nat} (hul : us.length = n * sz) (hi : i ≤ n) (hc : (n + 1) * sz ≤ cur.length) (h2 : us2.length = sz) : (insB cur us us2 i sz).length = cur.length := by
  have hA := insA_len hul hi hc
  have m1 : (n + 1) * sz = i * sz + (n + 1 - i) * sz := by rw [← Nat.add_mul]; congr 1; omega
  have m3 : (n + 1) * sz = (i + 1) * sz + (n - i) * sz := by rw [← Nat.add_mul]; congr 1; omega
  have m4 : (i + 1) * sz = i * sz + sz := Nat.succ_mul i sz
  simp only [insB, List.length_append, List.length_take, List.length_drop, hA, h2]
  omega
theorem insB_take {cur us us2 : List Value} {i n sz : Nat} (hul : us.length = n * sz) (hi : i ≤ n) (hc : (n + 1) * sz ≤ cur.length) (h2 : us2.length = sz) (ht : cur.take (i * sz) = us.take (i * sz)) : (insB cur us us2 i sz).take ((n + 1) * sz) = us.take (i * sz) ++ us2 ++ us.drop (i * sz) := by
  have m3 : (n + 1) * sz = (i + 1) * sz + (n - i) * sz := by rw [← Nat.add_mul]; congr 1; omega
  have m2 : n * sz = i * sz + (n - i) * sz := by rw [← Nat.add_mul]; congr 1; omega
  have m4 : (i + 1) * sz = i * sz + sz := Nat.succ_mul i sz
  have lT : (cur.take ((i + 1) * sz)).length = (i + 1) * sz := by rw [List.length_take]; omega
  have lD : (us.drop (i * sz)).length = (n - i) * sz := by rw [List.length_drop]; omega
  have eA : (insA cur us i sz).take (i * sz) = us.take (i * sz) := by
    unfold insA
    rw [List.append_assoc, List.take_append_of_le_length (by omega), List.take_take, Nat.min_eq_left (by omega), ht]
  have eB : (insA cur us i sz).drop (i * sz + us2.length) = us.drop (i * sz) ++ cur.drop ((i + 1) * sz + (us.drop (i * sz)).length) := by
    unfold insA
    rw [List.append_assoc, List.drop_left' (by rw [lT, h2]; omega)]
  have lt : (us.take (i * sz)).length = i * sz := by rw [List.length_take]; omega
  unfold insB
  rw [eA, eB, ← List.append_assoc, List.take_left']
  simp only [List.length_append, lt, lD, h2]
  omega

theorem ins_cp1 (t e : TypeId) {ti : TypeInfo} {sz : Nat} (ht : P.underlying t = some (.slice e)) (hti : P.info? e = some ti) (hsz : ti.size = sz) {N g o n i k1 k2 : Nat} {cur : Array Value} {us : List Value} (hh : w.heap[N]? = some (.cells cur e (0, 0))) (hul : us.length = n * sz) (hi : i ≤ n) (hc : (n + 1) * sz ≤ cur.size)
    (hA : ∀ j x, us[j]? = some x → w.cell? ⟨g, j, none⟩ = some x) (h1 : ∀ x ∈ us, x.oneCell' = true) (hk1 : k1 = n - i) (hk2 : n - i ≤ k2) (ho : o = i * sz) (o' : Nat) (ho' : o' = (i + 1) * sz) (ty0 : TypeId) (dc sc : Nat) :
    (Builtin.copy_ #[t, t] ty0 #[.slice (some ⟨N, o', none⟩) k1 dc, .slice (some ⟨g, o, none⟩) k2 sc]).run P w = .ok (goInt (n - i : Nat)) (w.setRow N (insA cur.toList us i sz).toArray) := by
  subst ho ho' hk1
  have m2 : n * sz = i * sz + (n - i) * sz := by rw [← Nat.add_mul]; congr 1; omega
  have m3 : (n + 1) * sz = (i + 1) * sz + (n - i) * sz := by rw [← Nat.add_mul]; congr 1; omega
  have lD : (us.drop (i * sz)).length = (n - i) * sz := by rw [List.length_drop]; omega
  have := run_copy_in (P := P) (w := w) t t e ht hti hsz (g := N) (o := (i + 1) * sz) (dl := n - i) (dc := dc) hh (A := some ⟨g, i * sz, none⟩) (m := k2) (c := sc) (k := n - i) (us := us.drop (i * sz)) (Nat.min_eq_right hk2) lD (fun _ => ⟨_, rfl, fun j x hx => by
    rw [List.getElem?_drop] at hx
    rw [Addr.add_lit]
    exact hA _ _ hx⟩) (by rw [lD]; omega) (fun x hx => h1 x (List.mem_of_mem_drop hx)) ty0
  rw [this]; rfl

theorem ins_cp2 (t e : TypeId) {ti : TypeInfo} {sz : Nat} (ht : P.underlying t = some (.slice e)) (hti : P.info? e = some ti) (hsz : ti.size = sz) {N g o k1 : Nat} {cur : Array Value} {us2 : List Value} (hh : w.heap[N]? = some (.cells cur e (0, 0))) (h2 : us2.length = sz) (hc : o + sz ≤ cur.size)
    (hA : ∀ j x, us2[j]? = some x → w.cell? ⟨g, j, none⟩ = some x) (h1 : ∀ x ∈ us2, x.oneCell' = true) (hk1 : 1 ≤ k1) (ty0 : TypeId) (dc sc : Nat) :
    (Builtin.copy_ #[t, t] ty0 #[.slice (some ⟨N, o, none⟩) k1 dc, .slice (some ⟨g, 0, none⟩) 1 sc]).run P w = .ok (goInt (1 : Nat)) (w.setRow N (cur.toList.take o ++ us2 ++ cur.toList.drop (o + us2.length)).toArray) := by
  exact run_copy_in (P := P) (w := w) t t e ht hti hsz (g := N) (o := o) (dl := k1) (dc := dc) hh (A := some ⟨g, 0, none⟩) (m := 1) (c := sc) (k := 1) (us := us2) (Nat.min_eq_left hk1) (by omega) (fun _ => ⟨_, rfl, fun j x hx => by
    rw [Addr.add_lit, Nat.zero_add]
    exact hA _ _ hx⟩) (by rw [h2]; omega) h1 ty0

theorem ins_row {W : World} {N e sz G n i : Nat} {cur us us2 : List Value} (hh : W.heap[N]? = some (.cells (insB cur us us2 i sz).toArray e (0, 0))) (hul : us.length = n * sz) (hi : i ≤ n) (hG : n + 1 ≤ G) (hGm : G ≤ maxLen) (hc : cur.length = G * sz) (h2 : us2.length = sz) (ht : cur.take (i * sz) = us.take (i * sz)) :
    W.ownsRow 0 e sz (.slice (some ⟨N, 0, none⟩) (n + 1) G) (n + 1) (us.take (i * sz) ++ us2 ++ us.drop (i * sz)) := by
  have hm : (n + 1) * sz ≤ cur.length := by rw [hc]; exact Nat.mul_le_mul_right _ hG
  refine ⟨?_, .inr ⟨N, G, _, rfl, Nat.zero_le _, hh, hG, hGm, by simp [insB_len hul hi hm h2, hc], by simpa using insB_take hul hi hm h2 ht⟩⟩
  rw [← insB_take hul hi hm h2 ht, List.length_take, insB_len hul hi hm h2]
  omega

theorem ins_kept (w : World) (g : Nat) (A B : Array Value) {φ : Nat → Prop} (hφ : φ g) : Kept w ((w.drew.setRow g A).setRow g B) φ := by
  refine ⟨rfl, rfl, rfl, by simp, fun b hb hn => ?_⟩
  have hne : b ≠ g := fun e => hn (e ▸ hφ)
  rw [setRow_other _ g b _ hne, setRow_other _ g b _ hne]
  rfl
theorem ins_kept2 (w : World) (o : Obj) (A B : Array Value) (φ : Nat → Prop) : Kept w (((w.drew.alloc o).setRow w.heap.size A).drew.setRow w.heap.size B) φ := by
  refine ⟨rfl, rfl, rfl, by simp, fun b hb hn => ?_⟩
  have hne : b ≠ w.heap.size := by omega
  rw [setRow_other _ _ b _ hne]
  show ((w.drew.alloc o).setRow w.heap.size A).heap[b]? = _
  rw [setRow_other _ _ b _ hne]
  exact (Kept.alloc w.drew o (fun _ => False)).block b hb (fun h => h)

theorem insC_take {R us us2 : List Value} {i n sz : Nat} (hul : us.length = n * sz) (hi : i ≤ n) (hc : (n + 1) * sz ≤ R.length) (h2 : us2.length = sz) (ht : R.take (i * sz) = us.take (i * sz)) :
    (insA (R.take (i * sz) ++ us2 ++ R.drop (i * sz + us2.length)) us i sz).take ((n + 1) * sz) = us.take (i * sz) ++ us2 ++ us.drop (i * sz) := by
  have m1 : (n + 1) * sz = (i + 1) * sz + (n - i) * sz := by rw [← Nat.add_mul]; congr 1; omega
  have m2 : n * sz = i * sz + (n - i) * sz := by rw [← Nat.add_mul]; congr 1; omega
  have m4 : (i + 1) * sz = i * sz + sz := Nat.succ_mul i sz
  have lD : (us.drop (i * sz)).length = (n - i) * sz := by rw [List.length_drop]; omega
  have lR : (R.take (i * sz)).length = i * sz := by rw [List.length_take]; omega
  have e1 : (R.take (i * sz) ++ us2 ++ R.drop (i * sz + us2.length)).take ((i + 1) * sz) = us.take (i * sz) ++ us2 := by
    rw [List.take_left' (by rw [List.length_append, lR, h2]; omega), ht]
  unfold insA
  rw [e1, List.take_left']
  simp only [List.length_append, List.length_take, lD, h2, hul]
  omega
theorem insC_len {R us us2 : List Value} {i n sz : Nat} (hul : us.length = n * sz) (hi : i ≤ n) (hc : (n + 1) * sz ≤ R.length) (h2 : us2.length = sz) : (R.take (i * sz) ++ us2 ++ R.drop (i * sz + us2.length)).length = R.length := by
  have m1 : (n + 1) * sz = (i + 1) * sz + (n - i) * sz := by rw [← Nat.add_mul]; congr 1; omega
  have m4 : (i + 1) * sz = i * sz + sz := Nat.succ_mul i sz
  simp only [List.length_append, List.length_take, List.length_drop, h2]
  omega

theorem ins_row2 {W : World} {N e sz G n i : Nat} {R us us2 : List Value} (hh : W.heap[N]? = some (.cells (insA (R.take (i * sz) ++ us2 ++ R.drop (i * sz + us2.length)) us i sz).toArray e (0, 0))) (hul : us.length = n * sz) (hi : i ≤ n) (hG : n + 1 ≤ G) (hGm : G ≤ maxLen) (hc : R.length = G * sz) (h2 : us2.length = sz) (ht : R.take (i * sz) = us.take (i * sz)) :
    W.ownsRow 0 e sz (.slice (some ⟨N, 0, none⟩) (n + 1) G) (n + 1) (us.take (i * sz) ++ us2 ++ us.drop (i * sz)) := by
  have hm : (n + 1) * sz ≤ R.length := by rw [hc]; exact Nat.mul_le_mul_right _ hG
  have hL := insC_len hul hi hm h2
  have hT := insC_take hul hi hm h2 ht
  have hl : (insA (R.take (i * sz) ++ us2 ++ R.drop (i * sz + us2.length)) us i sz).length = G * sz := by rw [insA_len hul hi (by rw [hL]; exact hm), hL, hc]
  refine ⟨?_, .inr ⟨N, G, _, rfl, Nat.zero_le _, hh, hG, hGm, by simpa using hl, by simpa using hT⟩⟩
  rw [← hT, List.length_take, hl]
  have := Nat.mul_le_mul_right sz hG
  omega

/-- The roads of the walk, each out of the runs of its built-in steps. -/
structure Roads (P : Program) (f t e sz it : Nat) : Prop where
  end0 : ∀ (w : World) (g2 c2 : Nat) (v' : Value) (w' : World), (Builtin.append_ #[t, t] t #[.slice none 0 0, .slice (some ⟨g2, 0, none⟩) 1 c2]).run P w = .ok v' w' →
    Calls P f #[.slice none 0 0, .int .i64 0, .slice (some ⟨g2, 0, none⟩) 1 c2] w fun ex w2 => ex = .returned v' ∧ w2 = w'
  end1 : ∀ (w : World) (g c g2 c2 n : Nat) (v' : Value) (w' : World), n ≤ c → (Builtin.append_ #[t, t] t #[.slice (some ⟨g, 0, none⟩) n c, .slice (some ⟨g2, 0, none⟩) 1 c2]).run P w = .ok v' w' →
    Calls P f #[.slice (some ⟨g, 0, none⟩) n c, .int .i64 n, .slice (some ⟨g2, 0, none⟩) 1 c2] w fun ex w2 => ex = .returned v' ∧ w2 = w'
  inn : ∀ (w : World) (g c g2 c2 n i : Nat) (cur cur2 A B : Array Value), i < n → n + 1 ≤ c → c ≤ maxLen → g2 ≠ g → w.heap[g]? = some (.cells cur e (0, 0)) → cur.size = c * sz → w.heap[g2]? = some (.cells cur2 e (0, 0)) →
    (∀ ty dc sc, (Builtin.copy_ #[t, t] ty #[.slice (some ⟨g, (i + 1) * sz, none⟩) (n + 1 - (i + 1)) dc, .slice (some ⟨g, i * sz, none⟩) (n + 1 - i) sc]).run P w.drew = .ok (goInt (n - i : Nat)) (w.drew.setRow g A)) →
    (∀ ty dc, (Builtin.copy_ #[t, t] ty #[.slice (some ⟨g, i * sz, none⟩) (n + 1 - i) dc, .slice (some ⟨g2, 0, none⟩) 1 c2]).run P (w.drew.setRow g A) = .ok (goInt (1 : Nat)) ((w.drew.setRow g A).setRow g B)) →
    Calls P f #[.slice (some ⟨g, 0, none⟩) n c, .int .i64 i, .slice (some ⟨g2, 0, none⟩) 1 c2] w fun ex w2 => ex = .returned (.slice (some ⟨g, 0, none⟩) (n + 1) c) ∧ w2 = (w.drew.setRow g A).setRow g B
  grow : ∀ (w : World) (g c g2 c2 n i G : Nat) (R A B : Array Value), i < n → n ≤ c → c < n + 1 → n + 1 ≤ maxLen → n + 1 ≤ G → G ≤ maxLen →
    (∀ ty, (Builtin.append_ #[t, it] ty #[.slice (some ⟨g, 0, none⟩) i c, .int .i64 ((n : Int) + 1 - i)]).run P w = .ok (.slice (some ⟨w.heap.size, 0, none⟩) (n + 1) G) (w.drew.alloc (.cells R e))) →
    (∀ ty dc, (Builtin.copy_ #[t, t] ty #[.slice (some ⟨w.heap.size, i * sz, none⟩) (n + 1 - i) dc, .slice (some ⟨g2, 0, none⟩) 1 c2]).run P (w.alloc (.cells R e)).drew = .ok (goInt (1 : Nat)) ((w.alloc (.cells R e)).drew.setRow w.heap.size A)) →
    (∀ ty dc sc, (Builtin.copy_ #[t, t] ty #[.slice (some ⟨w.heap.size, (i + 1) * sz, none⟩) (n + 1 - (i + 1)) dc, .slice (some ⟨g, i * sz, none⟩) (n - i) sc]).run P ((w.alloc (.cells R e)).drew.setRow w.heap.size A).drew = .ok (goInt (n - i : Nat)) (((w.alloc (.cells R e)).drew.setRow w.heap.size A).drew.setRow w.heap.size B)) →
    Calls P f #[.slice (some ⟨g, 0, none⟩) n c, .int .i64 i, .slice (some ⟨g2, 0, none⟩) 1 c2] w fun ex w2 => ex = .returned (.slice (some ⟨w.heap.size, 0, none⟩) (n + 1) G) ∧ w2 = ((w.alloc (.cells R e)).drew.setRow w.heap.size A).drew.setRow w.heap.size B

theorem Roads.raw {f t : Nat} {ty te : Ty} {it : Nat} (hR : Roads P f t ty.elem te.size it) (ht : TyOk P t ty) (hs : ty.isS = true) (hte : TyOk P ty.elem te) (hz : te.zero ≠ []) (h3 : P.underlying it = some (.int .i64)) : InsRaw P f ty.elem te.size te.bytes := by
  intro w v0 v2 n i us us2 hi hb hb2 ho0 ho2 hne h1c h1v
  obtain ⟨ti, hti, htz, htb, hzz⟩ := hte.info
  obtain ⟨z, hz1, hz2⟩ := hzz hz
  have hzs : z.cells.size = te.size := by rw [← Array.length_toList, hz2, hte.zlen hz]
  have hpos := hte.pos
  have hts := ht.isS hs
  generalize he : ty.elem = e at *
  generalize hsz : te.size = sz at *
  rcases ho2.2 with ⟨_, h⟩ | ⟨g2, c2, cur2, rfl, _, hg2, hnc2, hcm2, hcs2, htk2⟩
  · omega
  have hul2 : us2.length = sz := by have := ho2.1; omega
  have hul : us.length = n * sz := ho0.1
  have hcell2 : ∀ j x, us2[j]? = some x → w.cell? ⟨g2, j, none⟩ = some x := fun j x hx => by
    have := ho2.cells (g := g2) rfl j x hx
    rwa [Addr.add_lit, Nat.zero_add] at this
  have hm63 : n + 1 ≤ maxLen := by unfold maxLen; omega
  by_cases hin : i = n
  · subst hin
    obtain ⟨v', w', hrun, hown', hg, _, hblk⟩ := run_append_own_at (P := P) w 0 t t e ti z sz te.bytes hts hti hz1 htz htb hzs hpos v0 i us ho0 ⟨g2, 0, none⟩ 1 c2 us2 (by omega) (fun j x hx => ho2.cells (g := g2) rfl j x hx) h1v hm63 hb (Nat.zero_le _)
    have hT : us.take (i * sz) ++ us2 ++ us.drop (i * sz) = us ++ us2 := by rw [← hul, List.take_length, List.drop_length, List.append_nil]
    have key : Calls P f #[v0, .int .i64 i, .slice (some ⟨g2, 0, none⟩) 1 c2] w fun ex w2 => ex = .returned v' ∧ w2 = w' := by
      rcases ho0.2 with ⟨rfl, rfl⟩ | ⟨g, c, cur, rfl, _, _, hnc, _⟩
      · exact hR.end0 w g2 c2 v' w' hrun
      · exact hR.end1 w g c g2 c2 i v' w' hnc hrun
    refine key.mono ?_
    rintro ex w2 ⟨rfl, rfl⟩
    refine ⟨v', rfl, by rw [hT]; exact hown', ?_, fun b hb => ?_⟩
    · have := Kept.of_grown hg
      exact this
    · rcases hblk with h | h
      · exact .inl (h ▸ hb)
      · rw [h] at hb
        exact .inr (Nat.le_of_eq (Option.some.inj hb))
  have hlt : i < n := by omega
  rcases ho0.2 with ⟨rfl, rfl⟩ | ⟨g, c, cur, rfl, _, hg, hnc, hcm, hcs, htk⟩
  · omega
  have hcell : ∀ j x, us[j]? = some x → w.cell? ⟨g, j, none⟩ = some x := fun j x hx => by
    have := ho0.cells (g := g) rfl j x hx
    rwa [Addr.add_lit, Nat.zero_add] at this
  have hgl : g < w.heap.size := (Array.getElem?_eq_some_iff.1 hg).1
  have hg2l : g2 < w.heap.size := (Array.getElem?_eq_some_iff.1 hg2).1
  have hne' : g2 ≠ g := fun e => hne g rfl (by rw [e]; rfl)
  have m0 : (n + 1) * sz = i * sz + sz + (n - i) * sz := by rw [← Nat.succ_mul, ← Nat.add_mul]; congr 1; omega
  have m2 : n * sz = i * sz + (n - i) * sz := by rw [← Nat.add_mul]; congr 1; omega
  by_cases hroom : n + 1 ≤ c
  · have hcc : (n + 1) * sz ≤ cur.size := by rw [hcs]; exact Nat.mul_le_mul_right _ hroom
    have hA1 : (insA cur.toList us i sz).toArray.size = cur.size := by simpa using insA_len (cur := cur.toList) hul hi (by simpa using hcc)
    refine (hR.inn w g c g2 c2 n i cur cur2 (insA cur.toList us i sz).toArray (insB cur.toList us us2 i sz).toArray hlt hroom hcm hne' hg hcs hg2
      (fun ty0 dc sc => ins_cp1 (w := w.drew) t e hts hti htz hg hul hi hcc hcell h1c (by omega) (by omega) rfl _ rfl ty0 dc sc)
      (fun ty0 dc => ins_cp2 (w := w.drew.setRow g _) t e hts hti htz (setRow_heap w.drew g cur _ e _ hg) hul2 (by rw [hA1]; omega) (fun j x hx => by
        rw [World.cell?_of_block (w := w) (a := ⟨g2, j, none⟩) (setRow_other w.drew g g2 _ hne')]
        exact hcell2 j x hx) h1v (by omega) ty0 dc c2)).mono ?_
    rintro ex w2 ⟨rfl, rfl⟩
    refine ⟨_, rfl, ins_row (cur := cur.toList) (setRow_heap _ g _ _ e _ (setRow_heap w.drew g cur _ e _ hg)) hul hi hroom hcm (by simpa using hcs) hul2 (by rw [← htk, List.take_take, Nat.min_eq_left (by omega)]), ins_kept w g _ _ rfl, fun b hb => .inl hb⟩
  · have hik : i + (n + 1 - i) = n + 1 := by omega
    have hG := grownCap_ge w (n + 1) c e
    have hGm := grownCap_le_maxLen w (n + 1) c e hm63
    have hrz : ∀ ty0, (Builtin.append_ #[t, it] ty0 #[.slice (some ⟨g, 0, none⟩) i c, .int .i64 ((n : Int) + 1 - i)]).run P w = .ok (.slice (some ⟨w.heap.size, 0, none⟩) (n + 1) (grownCap w (n + 1) c e)) (w.drew.alloc (.cells ((us.take (i * sz)).toArray ++ Builtin.zeroCells z.cells (n + 1 - i) ++ Builtin.zeroCells z.cells (grownCap w (n + 1) c e - (n + 1))) e)) := fun ty0 => by
      have h := Lib.run_append_grow_zeros w t it ty0 e ti z .i64 .i64 hts h3 hti hz1 (some ⟨g, 0, none⟩) i c (us.take (i * sz)) (by
        rw [htz]
        exact run_firstCells (w := w.drew) (by rw [List.length_take]; omega) (fun _ => ⟨_, rfl, fun j x hx => by
          rw [List.getElem?_take] at hx
          split at hx
          · rw [Addr.add_lit, Nat.zero_add]; exact hcell j x hx
          · cases hx⟩)) (n + 1 - i) (by omega) (by omega) (by omega) (by unfold maxLen at hm63; omega) (by
            rw [htb]
            have := Nat.mul_le_mul_right te.bytes (show n + 1 - i ≤ n + 1 by omega)
            omega) (by rw [htb, hik]; exact growslice_fits (by omega) hb)
      rw [hik, show ((n + 1 - i : Nat) : Int) = (n : Int) + 1 - i by omega] at h
      exact h
    generalize grownCap w (n + 1) c e = G at *
    generalize hRR : (us.take (i * sz)).toArray ++ Builtin.zeroCells z.cells (n + 1 - i) ++ Builtin.zeroCells z.cells (G - (n + 1)) = R at *
    have lT : (us.take (i * sz)).length = i * sz := by rw [List.length_take]; omega
    have hRs : R.size = G * sz := by
      rw [← hRR]
      simp only [Array.size_append, size_zeroCells, hzs, List.size_toArray, lT]
      rw [← Nat.add_mul, ← Nat.add_mul]; congr 1; omega
    have hRt : R.toList.take (i * sz) = us.take (i * sz) := by
      rw [← hRR]
      simp only [Array.toList_append, List.append_assoc]
      exact List.take_left' lT
    have hRc : (n + 1) * sz ≤ R.size := by rw [hRs]; exact Nat.mul_le_mul_right _ hG
    have hh0 : (w.alloc (.cells R e)).drew.heap[w.heap.size]? = some (.cells R e (0, 0)) := by show (w.heap.push (.cells R e (0, 0)))[w.heap.size]? = _; simp
    have hother : ∀ b, b < w.heap.size → (w.alloc (.cells R e)).drew.heap[b]? = w.heap[b]? := fun b hb => (Kept.alloc w (.cells R e) (fun _ => False)).block b hb (fun h => h)
    have hAs : (R.toList.take (i * sz) ++ us2 ++ R.toList.drop (i * sz + us2.length)).toArray.size = R.size := by simpa using insC_len (R := R.toList) hul hi (by simpa using hRc) hul2
    refine (hR.grow w g c g2 c2 n i G R _ _ hlt hnc (by omega) hm63 hG hGm hrz
      (fun ty0 dc => ins_cp2 (w := (w.alloc (.cells R e)).drew) (N := w.heap.size) t e hts hti htz hh0 hul2 (by omega) (fun j x hx => by
        rw [World.cell?_of_block (w := w) (a := ⟨g2, j, none⟩) (hother g2 hg2l)]
        exact hcell2 j x hx) h1v (by omega) ty0 dc c2)
      (fun ty0 dc sc => ins_cp1 (w := ((w.alloc (.cells R e)).drew.setRow w.heap.size _).drew) (N := w.heap.size) (g := g) t e hts hti htz (setRow_heap _ _ _ _ e _ hh0) hul hi (by rw [hAs]; exact hRc) (fun j x hx => by
        have e2 : ((w.alloc (.cells R e)).drew.setRow w.heap.size (R.toList.take (i * sz) ++ us2 ++ R.toList.drop (i * sz + us2.length)).toArray).drew.heap[g]? = w.heap[g]? := (setRow_other _ _ g _ (by omega)).trans (hother g hgl)
        rw [World.cell?_of_block (w := w) (a := ⟨g, j, none⟩) e2]
        exact hcell j x hx) h1c (by omega) (by omega) rfl _ rfl ty0 dc sc)).mono ?_
    rintro ex w2 ⟨rfl, rfl⟩
    refine ⟨_, rfl, ins_row2 (R := R.toList) (setRow_heap _ _ _ _ e _ (setRow_heap _ _ _ _ e _ hh0)) hul hi hG hGm (by simpa using hRs) hul2 hRt, ?_, fun b hb => .inr (Nat.le_of_eq (Option.some.inj hb))⟩
    exact ins_kept2 w (.cells R e) _ _ _

theorem underlying_int {t : Nat} {ty : Ty} (ht : TyOk P t ty) {k : IntKind} (hk : ty.ik = some k) : P.underlying t = some (.int k) := by
  obtain ⟨d, hd, _, h⟩ := ht.desc
  rw [hd]
  cases d <;> simp_all
end Go.Proofs.Ytgicjbeaomjdgaa.L
