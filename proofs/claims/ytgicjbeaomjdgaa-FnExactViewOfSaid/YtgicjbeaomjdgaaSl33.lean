/- Steps told by hand: rows whose cells are moved about. -/
import Derived.Test.YtgicjbeaomjdgaaSl32
namespace Go.Proofs.Ytgicjbeaomjdgaa.L
set_option linter.unusedVariables false
set_option linter.unusedSimpArgs false
open Go
variable {F : Fr} {σ : St} {a : Act} {w : World} {S : Nat → Prop} {G G' : Gh} {φ : Nat → Nat → Prop} {tab : List (Nat × Ty)}

/-- A row's block is written: what it is then. -/
theorem row_upd (hr : Rel0 F σ a w S G φ) {id ver e sz : Nat} {rows : Rws} (ho : look .dead σ.objs id = .row ver e sz rows) {g cap : Nat} {cur cur' : Array Value} (hβ : G.β id = .slice (some ⟨g, 0, none⟩) rows.length cap) (hh : w.heap[g]? = some (.cells cur e (0, 0)))
    (hnc : rows.length ≤ cap) (hcm : cap ≤ maxLen) (_hcs : cur.size = cap * sz) (hcs' : cur'.size = cap * sz) {rows' : Rws} {us' : List Value} {ds : List Nat} {ψ' : Nat → Prop} (hl : rows'.length = rows.length) (hrs' : ∀ r ∈ rows', r.length = sz) (htk : cur'.toList.take (rows.length * sz) = us')
    (hcr' : CR F.P w F.K F.K rows'.flatten us' ψ') (hψ' : Sub ψ' (fun b => φ id b ∨ Of φ ds b)) (hg : ¬ ψ' g) (hnid : id ∉ ds) :
    ∃ G' φ', Rel0 F ⟨σ.n, σ.nx, σ.env, (id, .row (ver + 1) e sz rows') :: (deads ds ++ σ.objs)⟩ a (w.setRow g cur') S G' φ' ∧ G.le G' := by
  obtain ⟨hid, hsz, hGs, us, hk, hrs, hown, ψ, hψb, hψ, hcr⟩ := hr.row ho
  have hgφ := hψb g (by rw [hβ]; rfl)
  have hsame : ∀ b, b ≠ g → (w.setRow g cur').heap[b]? = w.heap[b]? := fun b hb => setRow_other w g b _ hb
  have hS : ∀ b, S b → (w.setRow g cur').heap[b]? = w.heap[b]? := fun b hb => hsame b (fun e => (hr.own id g hgφ.1).2.1 (e ▸ hb))
  have hkn : G.κ id (ver + 1) = none := by
    cases hx : G.κ id (ver + 1) with
    | none => rfl
    | some x =>
      have := (hr.kd id (ver + 1) x hx).2 _ _ _ _ ho
      omega
  have hbd : rows.length * sz ≤ cap * sz := Nat.mul_le_mul_right _ hnc
  have hown' : (w.setRow g cur').ownsRow 0 e sz (G.β id) rows'.length us' := by
    refine ⟨?_, .inr ⟨g, cap, _, hβ.trans (by rw [hl]), Nat.zero_le _, setRow_heap w g cur _ e _ hh, by rw [hl]; exact hnc, hcm, hcs', by rw [hl]; exact htk⟩⟩
    rw [← htk, hl, List.length_take]
    have : cur'.toList.length = cap * sz := by rw [Array.length_toList, hcs']
    omega
  refine ⟨G.ver id (ver + 1) (rows', us'), _, hr.chg (ds := ds) hid (setRow_kept w g _ _ hgφ.1) (Gh.le_ver hkn) (fun _ h => h) (fun i' v' x hx => ?_) (fun v' x ver' e' sz' rows' hx hoo => ?_) hnid ⟨hid, hsz, hGs, us', by simp [Gh.ver], hrs', hown', ψ', fun b hb => ?_, fun b hb => hψ' b hb, hcr'.move (fun b hb => hS b (hr.KS b hb)) (fun b hb => hS b (hr.KS b hb)) (fun b hb => hsame b (fun e => hg (e ▸ hb)))⟩, Gh.le_ver hkn⟩
  · simp only [Gh.ver] at hx
    split at hx
    · rename_i h; exact .inr h.1
    · exact .inl hx
  · simp only [O.row.injEq] at hoo
    obtain ⟨rfl, _⟩ := hoo
    simp only [Gh.ver] at hx
    split at hx
    · rename_i h; omega
    · have := (hr.kd id v' x hx).2 _ _ _ _ ho
      omega
  · have hb' : b = g := by
      have hb : (G.β id).ownBlock = some b := hb
      rw [hβ] at hb
      exact (Option.some.inj hb).symm
    subst hb'
    exact ⟨.inl hgφ.1, hg⟩

/-- An append that fits. -/
theorem run_append_in {P : Program} (t e : TypeId) {i : TypeInfo} {sz : Nat} (ht : P.underlying t = some (.slice e)) (hi : P.info? e = some i) (hsz : i.size = sz) {g o n cap : Nat} {cur : Array Value} (hh : w.heap[g]? = some (.cells cur e (0, 0))) {A : Option Addr} {m c : Nat} {us : List Value} (hul : us.length = m * sz)
    (hA : 0 < m → ∃ ad, A = some ad ∧ ∀ j x, us[j]? = some x → w.cell? (ad.add j) = some x) (hfit : n + m ≤ cap) (hb : o + n * sz + us.length ≤ cur.size) (h1 : ∀ x ∈ us, x.oneCell' = true) (ty0 : TypeId) :
    (Builtin.append_ #[t, t] ty0 #[.slice (some ⟨g, o, none⟩) n cap, .slice A m c]).run P w = .ok (.slice (some ⟨g, o, none⟩) (n + m) cap) (w.setRow g (cur.toList.take (o + n * sz) ++ us ++ cur.toList.drop (o + n * sz + us.length)).toArray) := by
  have hst := run_storeCells_at P g (o + n * sz) e us 0 cur w hh (by simpa using hb) h1
  have hadd : (⟨g, o, none⟩ : Addr).add (n * sz) = ⟨g, o + n * sz, none⟩ := by unfold Addr.add; split <;> simp_all
  have hl : (Builtin.firstCells sz m (.slice A m c)).run P w = .ok us.toArray w := by
    cases A with
    | none =>
      have hm : m = 0 := by
        rcases Nat.eq_zero_or_pos m with h | h
        · exact h
        · obtain ⟨ad, h, _⟩ := hA h; cases h
      subst hm
      have : us = [] := List.eq_nil_of_length_eq_zero (by simpa using hul)
      subst this
      simp [Builtin.firstCells]
    | some ad =>
      rcases Nat.eq_zero_or_pos m with h | h
      · subst h
        have : us = [] := List.eq_nil_of_length_eq_zero (by simpa using hul)
        subst this
        simp [Builtin.firstCells, loadCells, loadCellsFrom]
      · obtain ⟨ad', e1, e2⟩ := hA h
        cases e1
        have := run_loadCells_list (P := P) w ad us e2
        simp only [Builtin.firstCells, ← hul]
        exact this
  simp [Builtin.append_, run_underlying ht, sizeOf, typeInfo, hi, hsz, Builtin.lenOf, hfit, hl, hadd, hst]

theorem run_firstCells {P : Program} {sz m c : Nat} {A : Option Addr} {us : List Value} {k : Nat} (hul : us.length = k * sz) (hA : 0 < k → ∃ ad, A = some ad ∧ ∀ j x, us[j]? = some x → w.cell? (ad.add j) = some x) : (Builtin.firstCells sz k (.slice A m c)).run P w = .ok us.toArray w := by
  cases A with
  | none =>
    have hm : k = 0 := by
      rcases Nat.eq_zero_or_pos k with h | h
      · exact h
      · obtain ⟨ad, h, _⟩ := hA h; cases h
    subst hm
    have : us = [] := List.eq_nil_of_length_eq_zero (by simpa using hul)
    subst this
    simp [Builtin.firstCells]
  | some ad =>
    rcases Nat.eq_zero_or_pos k with h | h
    · subst h
      have : us = [] := List.eq_nil_of_length_eq_zero (by simpa using hul)
      subst this
      simp [Builtin.firstCells, loadCells, loadCellsFrom]
    · obtain ⟨ad', e1, e2⟩ := hA h
      cases e1
      have := run_loadCells_list (P := P) w ad us e2
      simp only [Builtin.firstCells, ← hul]
      exact this

/-- A copy into a row that is known. -/
theorem run_copy_in {P : Program} (t t' e : TypeId) {i : TypeInfo} {sz : Nat} (ht : P.underlying t = some (.slice e)) (hi : P.info? e = some i) (hsz : i.size = sz) {g o dl dc : Nat} {cur : Array Value} (hh : w.heap[g]? = some (.cells cur e (0, 0))) {A : Option Addr} {m c k : Nat} {us : List Value} (hk : Nat.min m dl = k) (hul : us.length = k * sz)
    (hA : 0 < k → ∃ ad, A = some ad ∧ ∀ j x, us[j]? = some x → w.cell? (ad.add j) = some x) (hb : o + us.length ≤ cur.size) (h1 : ∀ x ∈ us, x.oneCell' = true) (ty0 : TypeId) :
    (Builtin.copy_ #[t, t'] ty0 #[.slice (some ⟨g, o, none⟩) dl dc, .slice A m c]).run P w = .ok (goInt k) (w.setRow g (cur.toList.take o ++ us ++ cur.toList.drop (o + us.length)).toArray) := by
  have hst := run_storeCells_at P g o e us 0 cur w hh (by simpa using hb) h1
  have hl := run_firstCells (P := P) (w := w) (m := m) (c := c) hul hA
  simp [Builtin.copy_, run_underlying ht, sizeOf, typeInfo, hi, hsz, Builtin.lenOf, hk, hl, hst]

/-- Cells laid to zero. -/
theorem run_clear_in {P : Program} (t e : TypeId) {z : Value} {sz : Nat} (ht : P.underlying t = some (.slice e)) (hz : ∀ w, (zeroValue e).run P w = .ok z w) (hzs : z.cells.size = sz) (h1 : ∀ x ∈ z.cells.toList, x.oneCell' = true) {g o n c : Nat} {cur : Array Value} (hh : w.heap[g]? = some (.cells cur e (0, 0))) (hn : 0 < n) (hb : o + n * sz ≤ cur.size) (ty0 : TypeId) :
    (Builtin.clear_ #[t] ty0 #[.slice (some ⟨g, o, none⟩) n c]).run P w = .ok (.tuple #[]) (w.setRow g (cur.toList.take o ++ (Builtin.zeroCells z.cells n).toList ++ cur.toList.drop (o + n * sz)).toArray) := by
  have hl : (Builtin.zeroCells z.cells n).toList.length = n * sz := by simp [Builtin.zeroCells, hzs]
  have h1' : ∀ x ∈ (Builtin.zeroCells z.cells n).toList, x.oneCell' = true := by
    intro x hx
    simp only [Builtin.zeroCells, Array.toList_map, List.mem_map] at hx
    obtain ⟨j, hj, rfl⟩ := hx
    have hj' : j < n * z.cells.size := by simpa using hj
    have : 0 < z.cells.size := by
      rcases Nat.eq_zero_or_pos z.cells.size with h | h
      · rw [h] at hj'; simp at hj'
      · exact h
    have hlt := Nat.mod_lt j this
    rw [getElem!_pos z.cells _ hlt]
    exact h1 _ (by simp)
  have hst := run_storeCells_at P g o e (Builtin.zeroCells z.cells n).toList 0 cur w hh (by rw [hl]; simpa using hb) h1'
  rw [hl] at hst
  obtain ⟨n', rfl⟩ : ∃ n', n = n' + 1 := ⟨n - 1, by omega⟩
  simp [Builtin.clear_, run_underlying ht, hz, hst]
end Go.Proofs.Ytgicjbeaomjdgaa.L
