/- slices.Insert, slices.Delete: what they compute. -/
import Derived.Test.YtcpekllcbimpmaaDoorLib5
import Derived.Lib.AppendZerosOnto
import Derived.Lib.Overlaps
import Derived.WalkKit
import Derived.Shelf.RegionOpenPlain
import Derived.Lib.Walk
import Derived.Laws.Externs
namespace Go.Proofs.YtcpekllcbimpmaaDoor.L
set_option linter.unusedVariables false
set_option linter.unusedSimpArgs false
open Go
def insO {α : Type} (b : Nat) (l : List α) (i : Int) (m : List α) : Option (List α) := if m.length = 1 ∧ 0 ≤ i ∧ i ≤ l.length ∧ ((l.length : Int) + m.length) * b ≤ 140737488355328 ∧ (l.length : Int) + m.length ≤ 140737488355328 then some (l.take i.toNat ++ m ++ l.drop i.toNat) else none
def delO {α : Type} (l : List α) (i j : Int) : Option (List α) := if 0 ≤ i ∧ i ≤ j ∧ j ≤ l.length then some (l.take i.toNat ++ l.drop j.toNat) else none
end Go.Proofs.YtcpekllcbimpmaaDoor.L

namespace Go.Proofs.YtcpekllcbimpmaaDoor.L
set_option linter.unusedVariables false
set_option linter.unusedSimpArgs false
open Go
variable {F : Fr} {σ : St} {a : Act} {w : World} {S : Nat → Prop} {G G' : Gh} {φ : Nat → Nat → Prop} {tab : List (Nat × Ty)}

/-- A row's block is written: what it is then. -/
theorem row_upd (hr : Rel0 F σ a w S G φ) {id ver e sz : Nat} {rows : Rws} (ho : look .dead σ.objs id = .row ver e sz rows) {g cap : Nat} {cur cur' : Array Value} (hβ : G.β id = .slice (some ⟨g, 0, none⟩) rows.length cap) (hh : w.heap[g]? = some (.cells cur e (0, 0)))
    (hnc : rows.length ≤ cap) (hcm : cap ≤ maxLen) (_hcs : cur.size = cap * sz) (hcs' : cur'.size = cap * sz) {rows' : Rws} {us' : List Value} {ds : List Nat} {ψ' : Nat → Prop} (hl : rows'.length = rows.length) (hrs' : ∀ r ∈ rows', r.length = sz) (htk : cur'.toList.take (rows.length * sz) = us')
    (hcr' : CR F.P w F.K F.K rows'.flatten us' ψ') (hψ' : Sub ψ' (fun b => φ id b ∨ Of φ ds b)) (hg : ¬ ψ' g) (hnid : id ∉ ds) :
    ∃ G' φ', Rel0 F ⟨σ.n, σ.nx, σ.env, (id, .row (ver + 1) e sz rows') :: (deads ds ++ σ.objs)⟩ a (w.setRow g cur') S G' φ' ∧ G.le G' := by
  obtain ⟨hid, hsz, hGs, us, hk, hrs, hown, ψ, hψb, hψ, hcr⟩ := hr.row ho
  have hgφ := hψb g (by rw [hβ]; rfl)
  have hsame : ∀ b, b ≠ g → (w.setRow g cur').heap[b]? = w.heap[b]? := fun b hb => setRow_other w g b _ hb
  have hS : ∀ b, S b → (w.setRow g cur').heap[b]? = w.heap[b]? := fun b hb => hsame b (fun e => (hr.own id g hgφ.1).2.1 (e ▸ hb))
  have hkn : G.κ id (ver + 1) = none := by
    cases hx : G.κ id (ver + 1) with
    | none => rfl
    | some x =>
      have := (hr.kd id (ver + 1) x hx).2 _ _ _ _ ho
      omega
  have hbd : rows.length * sz ≤ cap * sz := Nat.mul_le_mul_right _ hnc
  have hown' : (w.setRow g cur').ownsRow 0 e sz (G.β id) rows'.length us' := by
    refine ⟨?_, .inr ⟨g, cap, _, hβ.trans (by rw [hl]), Nat.zero_le _, setRow_heap w g cur _ e _ hh, by rw [hl]; exact hnc, hcm, hcs', by rw [hl]; exact htk⟩⟩
    rw [← htk, hl, List.length_take]
    have : cur'.toList.length = cap * sz := by rw [Array.length_toList, hcs']
    omega
  refine ⟨G.ver id (ver + 1) (rows', us'), _, hr.chg (ds := ds) hid (setRow_kept w g _ _ hgφ.1) (Gh.le_ver hkn) (fun _ h => h) (fun i' v' x hx => ?_) (fun v' x ver' e' sz' rows' hx hoo => ?_) hnid ⟨hid, hsz, hGs, us', by simp [Gh.ver], hrs', hown', ψ', fun b hb => ?_, fun b hb => hψ' b hb, hcr'.move (fun b hb => hS b (hr.KS b hb)) (fun b hb => hS b (hr.KS b hb)) (fun b hb => hsame b (fun e => hg (e ▸ hb)))⟩, Gh.le_ver hkn⟩
  · simp only [Gh.ver] at hx
    split at hx
    · rename_i h; exact .inr h.1
    · exact .inl hx
  · simp only [O.row.injEq] at hoo
    obtain ⟨rfl, _⟩ := hoo
    simp only [Gh.ver] at hx
    split at hx
    · rename_i h; omega
    · have := (hr.kd id v' x hx).2 _ _ _ _ ho
      omega
  · have hb' : b = g := by
      have hb : (G.β id).ownBlock = some b := hb
      rw [hβ] at hb
      exact (Option.some.inj hb).symm
    subst hb'
    exact ⟨.inl hgφ.1, hg⟩

/-- An append that fits. -/
theorem run_append_in {P : Program} (t e : TypeId) {i : TypeInfo} {sz : Nat} (ht : P.underlying t = some (.slice e)) (hi : P.info? e = some i) (hsz : i.size = sz) {g o n cap : Nat} {cur : Array Value} (hh : w.heap[g]? = some (.cells cur e (0, 0))) {A : Option Addr} {m c : Nat} {us : List Value} (hul : us.length = m * sz)
    (hA : 0 < m → ∃ ad, A = some ad ∧ ∀ j x, us[j]? = some x → w.cell? (ad.add j) = some x) (hfit : n + m ≤ cap) (hb : o + n * sz + us.length ≤ cur.size) (h1 : ∀ x ∈ us, x.oneCell' = true) (ty0 : TypeId) :
    (Builtin.append_ #[t, t] ty0 #[.slice (some ⟨g, o, none⟩) n cap, .slice A m c]).run P w = .ok (.slice (some ⟨g, o, none⟩) (n + m) cap) (w.setRow g (cur.toList.take (o + n * sz) ++ us ++ cur.toList.drop (o + n * sz + us.length)).toArray) := by
  have hst := run_storeCells_at P g (o + n * sz) e us 0 cur w hh (by simpa using hb) h1
  have hadd : (⟨g, o, none⟩ : Addr).add (n * sz) = ⟨g, o + n * sz, none⟩ := by unfold Addr.add; split <;> simp_all
  have hl : (Builtin.firstCells sz m (.slice A m c)).run P w = .ok us.toArray w := by
    cases A with
    | none =>
      have hm : m = 0 := by
        rcases Nat.eq_zero_or_pos m with h | h
        · exact h
        · obtain ⟨ad, h, _⟩ := hA h; cases h
      subst hm
      have : us = [] := List.eq_nil_of_length_eq_zero (by simpa using hul)
      subst this
      simp [Builtin.firstCells]
    | some ad =>
      rcases Nat.eq_zero_or_pos m with h | h
      · subst h
        have : us = [] := List.eq_nil_of_length_eq_zero (by simpa using hul)
        subst this
        simp [Builtin.firstCells, loadCells, loadCellsFrom]
      · obtain ⟨ad', e1, e2⟩ := hA h
        cases e1
        have := run_loadCells_list (P := P) w ad us e2
        simp only [Builtin.firstCells, ← hul]
        exact this
  simp [Builtin.append_, run_underlying ht, sizeOf, typeInfo, hi, hsz, Builtin.lenOf, hfit, hl, hadd, hst]

theorem run_firstCells {P : Program} {sz m c : Nat} {A : Option Addr} {us : List Value} {k : Nat} (hul : us.length = k * sz) (hA : 0 < k → ∃ ad, A = some ad ∧ ∀ j x, us[j]? = some x → w.cell? (ad.add j) = some x) : (Builtin.firstCells sz k (.slice A m c)).run P w = .ok us.toArray w := by
  cases A with
  | none =>
    have hm : k = 0 := by
      rcases Nat.eq_zero_or_pos k with h | h
      · exact h
      · obtain ⟨ad, h, _⟩ := hA h; cases h
    subst hm
    have : us = [] := List.eq_nil_of_length_eq_zero (by simpa using hul)
    subst this
    simp [Builtin.firstCells]
  | some ad =>
    rcases Nat.eq_zero_or_pos k with h | h
    · subst h
      have : us = [] := List.eq_nil_of_length_eq_zero (by simpa using hul)
      subst this
      simp [Builtin.firstCells, loadCells, loadCellsFrom]
    · obtain ⟨ad', e1, e2⟩ := hA h
      cases e1
      have := run_loadCells_list (P := P) w ad us e2
      simp only [Builtin.firstCells, ← hul]
      exact this

/-- A copy into a row that is known. -/
theorem run_copy_in {P : Program} (t t' e : TypeId) {i : TypeInfo} {sz : Nat} (ht : P.underlying t = some (.slice e)) (hi : P.info? e = some i) (hsz : i.size = sz) {g o dl dc : Nat} {cur : Array Value} (hh : w.heap[g]? = some (.cells cur e (0, 0))) {A : Option Addr} {m c k : Nat} {us : List Value} (hk : Nat.min m dl = k) (hul : us.length = k * sz)
    (hA : 0 < k → ∃ ad, A = some ad ∧ ∀ j x, us[j]? = some x → w.cell? (ad.add j) = some x) (hb : o + us.length ≤ cur.size) (h1 : ∀ x ∈ us, x.oneCell' = true) (ty0 : TypeId) :
    (Builtin.copy_ #[t, t'] ty0 #[.slice (some ⟨g, o, none⟩) dl dc, .slice A m c]).run P w = .ok (goInt k) (w.setRow g (cur.toList.take o ++ us ++ cur.toList.drop (o + us.length)).toArray) := by
  have hst := run_storeCells_at P g o e us 0 cur w hh (by simpa using hb) h1
  have hl := run_firstCells (P := P) (w := w) (m := m) (c := c) hul hA
  simp [Builtin.copy_, run_underlying ht, sizeOf, typeInfo, hi, hsz, Builtin.lenOf, hk, hl, hst]

/-- Cells laid to zero. -/
theorem run_clear_in {P : Program} (t e : TypeId) {z : Value} {sz : Nat} (ht : P.underlying t = some (.slice e)) (hz : ∀ w, (zeroValue e).run P w = .ok z w) (hzs : z.cells.size = sz) (h1 : ∀ x ∈ z.cells.toList, x.oneCell' = true) {g o n c : Nat} {cur : Array Value} (hh : w.heap[g]? = some (.cells cur e (0, 0))) (hn : 0 < n) (hb : o + n * sz ≤ cur.size) (ty0 : TypeId) :
    (Builtin.clear_ #[t] ty0 #[.slice (some ⟨g, o, none⟩) n c]).run P w = .ok (.tuple #[]) (w.setRow g (cur.toList.take o ++ (Builtin.zeroCells z.cells n).toList ++ cur.toList.drop (o + n * sz)).toArray) := by
  have hl : (Builtin.zeroCells z.cells n).toList.length = n * sz := by simp [Builtin.zeroCells, hzs]
  have h1' : ∀ x ∈ (Builtin.zeroCells z.cells n).toList, x.oneCell' = true := by
    intro x hx
    simp only [Builtin.zeroCells, Array.toList_map, List.mem_map] at hx
    obtain ⟨j, hj, rfl⟩ := hx
    have hj' : j < n * z.cells.size := by simpa using hj
    have : 0 < z.cells.size := by
      rcases Nat.eq_zero_or_pos z.cells.size with h | h
      · rw [h] at hj'; simp at hj'
      · exact h
    have hlt := Nat.mod_lt j this
    rw [getElem!_pos z.cells _ hlt]
    exact h1 _ (by simp)
  have hst := run_storeCells_at P g o e (Builtin.zeroCells z.cells n).toList 0 cur w hh (by rw [hl]; simpa using hb) h1'
  rw [hl] at hst
  obtain ⟨n', rfl⟩ : ∃ n', n = n' + 1 := ⟨n - 1, by omega⟩
  simp [Builtin.clear_, run_underlying ht, hz, hst]
end Go.Proofs.YtcpekllcbimpmaaDoor.L

namespace Go.Proofs.YtcpekllcbimpmaaDoor.L
set_option linter.unusedVariables false
set_option linter.unusedSimpArgs false
open Go
variable {P : Program} {F : Fr} {σ : St} {a : Act} {w : World} {S : Nat → Prop} {G G' : Gh} {φ : Nat → Nat → Prop} {tab : List (Nat × Ty)}

theorem slice_sl2 {P : Program} {t : Nat} {ty te : Ty} (ht : TyOk P t ty) (hs : ty.isS = true) (hte : TyOk P ty.elem te) {A : Option Addr} {len cap : Nat} {l hh : Int} {x y : Option Value} (hx : (x = none ∧ l = 0) ∨ ∃ k, x = some (.int k l)) (hy : (y = none ∧ hh = (len : Int)) ∨ ∃ k, y = some (.int k hh))
    (h0 : 0 ≤ l) (h1 : l ≤ hh) (h2 : hh ≤ (cap : Int)) (_h3 : len ≤ cap) :
    (Instr.sliceAt t (.slice A len cap) x y none).run P w = .ok (.slice (if cap = l.toNat then A else A.map (·.add (l.toNat * te.size))) (hh.toNat - l.toNat) (cap - l.toNat)) w := by
  have hb : ∀ (k : IntKind) (n : Int) (m : Nat) (c : BoundsCode), 0 ≤ n → n ≤ m → (Instr.sliceBound (.int k n) m c).run P w = .ok n.toNat w := by
    intro k n m c h0 h1
    simp [Instr.sliceBound, asIntOf, h0, h1]
  have hbs : (Instr.sliceBounds true len cap x y none).run P w = .ok (l.toNat, hh.toNat, cap) w := by
    rcases hx with ⟨rfl, rfl⟩ | ⟨k, rfl⟩ <;> rcases hy with ⟨rfl, rfl⟩ | ⟨k', rfl⟩
    · simp [Instr.sliceBounds]
    · simp [Instr.sliceBounds, hb k' hh cap _ (by omega) (by omega)]
    · simp [Instr.sliceBounds, hb k l len _ h0 h1]
    · simp [Instr.sliceBounds, hb k' hh cap _ (by omega) (by omega), hb k l hh.toNat _ h0 (by omega)]
  have hd := ht.isS hs
  simp only [Instr.sliceAt, Sem.run_bind, run_underlying hd, Result.andThen_ok, Instr.slice, hbs, run_sizeOf hte, Sem.run_pure]

/-- A part of a part. -/
theorem part_of (hr : Rel0 F σ a w S G φ) {t : Nat} {ty te : Ty} (ht : TyOk F.P t ty) (hs : ty.isS = true) (hte : TyOk F.P ty.elem te) {id ver e sz : Nat} {rows : Rws} (ho : look .dead σ.objs id = .row ver e sz rows) (hsz : sz = te.size) {u : Value} {b0 b1 : Int} (hv : VR F.P w F.K S G (.sb id b0 b1) u) {x y : Option Value} {l hh : Int} (hx : (x = none ∧ l = 0) ∨ ∃ k, x = some (.int k l)) (hy : (y = none ∧ hh = b1 - b0) ∨ ∃ k, y = some (.int k hh))
    (h0 : 0 ≤ l) (h1 : l ≤ hh) (h2 : b0 + hh ≤ Ls.ln rows) :
    ∃ z, (Instr.sliceAt t u x y none).run F.P w = .ok z w ∧ VR F.P w F.K S G (.sb id (b0 + l) (b0 + hh)) z := by
  obtain ⟨hid, _, hGs, us, hk, hrs, hown, ψ, _, _, hcr⟩ := hr.row ho
  simp only [Ls] at h2
  have hm : rows.length ≤ maxLen := by
    rcases hown.2 with ⟨_, hn⟩ | ⟨g, cap, cur, _, _, _, hnc, hcm, _⟩
    · simp only [maxLen]; omega
    · omega
  cases hv with
  | sb hid' g0 g1 gn gm gc gA gb _ =>
    rename_i A n c
    obtain ⟨A', m, cp, hβ, hhm, hcp, hA0⟩ := gb
    have hmr : m = rows.length ∧ m ≤ cp := by
      rcases hown.2 with ⟨h, hn⟩ | ⟨g, cap, cur, h, _, _, hnc, _⟩
      · rw [hβ] at h; cases h; exact ⟨hn.symm, Nat.le_refl _⟩
      · rw [hβ] at h; cases h; exact ⟨rfl, hnc⟩
    refine ⟨_, slice_sl2 ht hs hte hx (by rw [gn]; exact hy) h0 h1 (by omega) gc, ?_⟩
    refine .sb hid (by omega) (by omega) (by omega) (by omega) (by omega) (fun hp => ?_) ⟨_, _, _, hβ, by omega, by omega, fun e => by
      have l0 : l = 0 := by omega
      rw [hA0 (by omega), l0]
      cases A' with
      | none => split <;> rfl
      | some d => split <;> simp [Addr.add]⟩ .nil
    obtain ⟨g, hg, rfl⟩ := gA (by omega)
    refine ⟨g, hg, ?_⟩
    rw [if_neg (by omega), hGs, hsz]
    simp only [Option.map_some, Addr.add_lit, Option.some.injEq, Addr.mk.injEq, true_and, and_true]
    rw [Int.toNat_add g0 h0, Nat.add_mul]
/-- A slice of a part: both ends, one, none. -/
theorem hand_slice {t : Nat} {ty te : Ty} (ht : TyOk P t ty) (hs : ty.isS = true) (hte : TyOk P ty.elem te) {x : Operand} {lo hi : Option Operand} {id ver e sz : Nat} {rows : Rws} (hsz : sz = te.size) {b0 b1 l hh lo' hi' : Int} {vl vh : List V}
    (hl : (lo = none ∧ vl = [] ∧ l = 0) ∨ ∃ y k, lo = some y ∧ vl = [.t (.s (.int k l))]) (hh' : (hi = none ∧ vh = [] ∧ hh = b1 - b0) ∨ ∃ y k, hi = some y ∧ vh = [.t (.s (.int k hh))])
    (h0 : 0 ≤ l) (h1 : l ≤ hh) (h2 : b0 + hh ≤ Ls.ln rows) (e1 : lo' = b0 + l) (e2 : hi' = b0 + hh) :
    HandOk P (.slice t x lo hi none) (.sb id b0 b1 :: (vl ++ vh)) [(id, .row ver e sz rows)] (.sb id lo' hi') [] := by
  subst e1 e2
  intro F σ a w S G φ hP hr hv ho _
  subst hP
  have ho := ho _ (List.mem_singleton.2 rfl)
  have key : ∃ u : Value, VR F.P w F.K S G (.sb id b0 b1) u ∧ a.eval x = u ∧ ((lo.map a.eval = none ∧ l = 0) ∨ ∃ k, lo.map a.eval = some (.int k l)) ∧ ((hi.map a.eval = none ∧ hh = b1 - b0) ∨ ∃ k, hi.map a.eval = some (.int k hh)) := by
    rcases hl with ⟨rfl, rfl, rfl⟩ | ⟨y, k, rfl, rfl⟩ <;> rcases hh' with ⟨rfl, rfl, rfl⟩ | ⟨y', k', rfl, rfl⟩ <;> simp [Op.operands] at hv <;> obtain ⟨u, us, e, g1, g2⟩ := hv.uncons <;> simp only [List.cons.injEq] at e <;> obtain ⟨e, rfl⟩ := e
    · exact ⟨u, g1, e, .inl ⟨rfl, rfl⟩, .inl ⟨rfl, rfl⟩⟩
    · obtain ⟨u', us', e', g3, g4⟩ := g2.uncons
      simp only [List.cons.injEq] at e'
      exact ⟨u, g1, e, .inl ⟨rfl, rfl⟩, .inr ⟨k', by rw [Option.map_some, e'.1, g3.s_inv.1]⟩⟩
    · obtain ⟨u', us', e', g3, g4⟩ := g2.uncons
      simp only [List.cons.injEq] at e'
      exact ⟨u, g1, e, .inr ⟨k, by rw [Option.map_some, e'.1, g3.s_inv.1]⟩, .inl ⟨rfl, rfl⟩⟩
    · obtain ⟨u', us', e', g3, g4⟩ := g2.uncons
      simp only [List.cons.injEq] at e'
      obtain ⟨u2, us2, e2, g5, g6⟩ := (e'.2 ▸ g4 : VRs F.P w F.K S G _ _).uncons
      simp only [List.cons.injEq] at e2
      exact ⟨u, g1, e, .inr ⟨k, by rw [Option.map_some, e'.1, g3.s_inv.1]⟩, .inr ⟨k', by rw [Option.map_some, e2.1, g5.s_inv.1]⟩⟩
  obtain ⟨u, g1, eu, hx, hy⟩ := key
  obtain ⟨z, hz, hvz⟩ := part_of hr ht hs hte ho hsz g1 hx hy h0 h1 h2
  refine ⟨z, w, G, φ, fun o hop => ?_, hr, hvz⟩
  obtain ⟨dst, op, type, pos, after, guard⟩ := o
  simp only at hop
  subst hop
  simp [execOp, eu, hz]
end Go.Proofs.YtcpekllcbimpmaaDoor.L

namespace Go.Proofs.YtcpekllcbimpmaaDoor.L
set_option linter.unusedVariables false
set_option linter.unusedSimpArgs false
open Go
variable {P : Program} {F : Fr} {σ : St} {a : Act} {w : World} {S : Nat → Prop} {G G' : Gh} {φ : Nat → Nat → Prop} {tab : List (Nat × Ty)}

/-- Rows of which a part is gone: the first i, then those from j to h, then nobody's. -/
def delR (rows : Rws) (i j h sz : Nat) : Rws := rows.take i ++ ((rows.take h).drop j ++ List.replicate (rows.length - i - (h - j)) (List.replicate sz .jk))

theorem delR_len {rows : Rws} {i j h sz : Nat} (h1 : i ≤ j) (h2 : j ≤ h) (h3 : h ≤ rows.length) : (delR rows i j h sz).length = rows.length := by
  simp [delR]; omega
theorem delR_row {rows : Rws} {i j h sz : Nat} (hs : ∀ r ∈ rows, r.length = sz) : ∀ r ∈ delR rows i j h sz, r.length = sz := by
  intro r hr
  rcases List.mem_append.1 hr with hr | hr
  · exact hs r (List.mem_of_mem_take hr)
  · rcases List.mem_append.1 hr with hr | hr
    · exact hs r (List.mem_of_mem_take (List.mem_of_mem_drop hr))
    · rw [(List.mem_replicate.1 hr).2]; simp

/-- The cells' relation behind such a move. -/
theorem CR.del {K φ0 : Nat → Prop} {rows : Rws} {us : List Value} {i j h sz : Nat} (hs : ∀ r ∈ rows, r.length = sz) (hc : CR P w K S rows.flatten us φ0) (h1 : i ≤ j) (h2 : j ≤ h) (h3 : h ≤ rows.length) {ux : List Value} (hx : ux.length = (rows.length - i - (h - j)) * sz) (ho : ∀ v ∈ ux, v.oneCell' = true) :
    CR P w K S (delR rows i j h sz).flatten (us.take (i * sz) ++ ((us.take (h * sz)).drop (j * sz) ++ ux)) φ0 := by
  have e : rows = rows.take i ++ ((rows.take j).drop i ++ ((rows.take h).drop j ++ rows.drop h)) := by
    have a1 : (rows.take j).take i = rows.take i := by rw [List.take_take, Nat.min_eq_left h1]
    have a2 : (rows.take h).take j = rows.take j := by rw [List.take_take, Nat.min_eq_left h2]
    have b1 : rows.take i ++ (rows.take j).drop i = rows.take j := by rw [← a1, List.take_append_drop]
    have b2 : rows.take j ++ (rows.take h).drop j = rows.take h := by rw [← a2, List.take_append_drop]
    rw [← List.append_assoc, b1, ← List.append_assoc, b2, List.take_append_drop]
  have hc0 := hc
  rw [e] at hc0
  simp only [List.flatten_append] at hc0
  obtain ⟨uA, u1, φA, φ1, rfl, hA, hr1, d1, sA, s1⟩ := CR.split hc0
  obtain ⟨uM, u2, φM, φ2, rfl, hM, hr2, d2, sM, s2⟩ := CR.split hr1
  obtain ⟨uB, uC, φB, φC, rfl, hB, hC, d3, sB, sC⟩ := CR.split hr2
  have lA : uA.length = i * sz := by rw [hA.len, flatten_len _ (fun r hr => hs r (List.mem_of_mem_take hr)), List.length_take, Nat.min_eq_left (by omega)]
  have lM : uM.length = (j - i) * sz := by rw [hM.len, flatten_len _ (fun r hr => hs r (List.mem_of_mem_take (List.mem_of_mem_drop hr))), List.length_drop, List.length_take, Nat.min_eq_left (by omega)]
  have lB : uB.length = (h - j) * sz := by rw [hB.len, flatten_len _ (fun r hr => hs r (List.mem_of_mem_take (List.mem_of_mem_drop hr))), List.length_drop, List.length_take, Nat.min_eq_left (by omega)]
  have m1 : i * sz + (j - i) * sz = j * sz := by rw [← Nat.add_mul]; congr 1; omega
  have m2 : j * sz + (h - j) * sz = h * sz := by rw [← Nat.add_mul]; congr 1; omega
  have eA : (uA ++ (uM ++ (uB ++ uC))).take (i * sz) = uA := by rw [← lA, List.take_left]
  have eB : ((uA ++ (uM ++ (uB ++ uC))).take (h * sz)).drop (j * sz) = uB := by
    have : uA ++ (uM ++ (uB ++ uC)) = ((uA ++ uM) ++ uB) ++ uC := by simp
    rw [this, List.take_left' (by simp only [List.length_append]; omega), List.drop_left' (by simp only [List.length_append]; omega)]
  rw [eA, eB]
  unfold delR
  rw [List.flatten_append, List.flatten_append, rep_flat, ← hx]
  refine CR.join (φ1 := φA) hA (CR.join (φ1 := φB) (φ := φB) hB (CR.junk ux ho) (fun _ _ h => h.elim) (fun _ h => h) (fun _ h => h.elim)) (fun b h h' => d1 b h (s2 b (sB b h'))) sA (fun b h => s1 b (s2 b (sB b h)))

/-- An append of a row's part to a part ahead of it. -/
theorem hand_append_in {t : Nat} {ty te : Ty} (ht : TyOk P t ty) (hs : ty.isS = true) (hte : TyOk P ty.elem te) {x y : Operand} {id ver : Nat} {rows : Rws} {i j h : Nat} {k' : Int} (h1 : i < j) (h2 : j ≤ h) (h3 : h ≤ rows.length) (hk : k' = ((i + (h - j) : Nat) : Int)) :
    HandOk P (.call { callee := .builtin .append, args := #[x, y], argTypes := #[t, t] }) [.sb id 0 i, .sb id j h] [(id, .row ver ty.elem te.size rows)] (.sb id 0 k') [(id, .row (ver + 1) ty.elem te.size (delR rows i j h te.size))] := by
  subst hk
  intro F σ a w S G φ hP hr hv ho _
  subst hP
  have ho := ho _ (List.mem_singleton.2 rfl)
  obtain ⟨hid, hsz, hGs, us, hk, hrs, hown, ψ, hψb, hψ, hcr⟩ := hr.row ho
  simp [Op.operands, Call.operands] at hv
  obtain ⟨ux, us1, e1, v1, r1⟩ := hv.uncons
  obtain ⟨uy, us2, e2, v2, r2⟩ := r1.uncons
  cases r2
  subst e2
  simp only [List.cons.injEq, and_true] at e1
  obtain ⟨ex, ey⟩ := e1
  obtain ⟨ti, hi, hsz', hby, hzz⟩ := hte.info
  rcases hown.2 with ⟨hβ, hn⟩ | ⟨g, cap, cur, hβ, _, hh, hnc, hcm, hcs, htk⟩
  · omega
  cases v1 with
  | @sb _ _ _ A1 n1 c1 _ _ _ _ _ gn1 gm1 gc1 gA1 gb1 _ =>
  cases v2 with
  | @sb _ _ _ A2 n2 c2 _ _ _ _ _ gn2 gm2 gc2 gA2 gb2 _ =>
    obtain ⟨_, m1, cp1, hb1, hm1, hc1, hA1⟩ := gb1
    obtain ⟨_, m2, cp2, hb2, hm2, hc2, hA2⟩ := gb2
    rw [hβ] at hb1 hb2
    cases hb1
    cases hb2
    have ul : us.length = rows.length * te.size := hcr.len.trans (flatten_len rows hrs)
    have hblk : blk (G.β id) = some g := by rw [hβ]; rfl
    obtain ⟨g1, hg1, rfl⟩ := gA1 (by omega)
    obtain rfl : g1 = g := by rw [hblk] at hg1; exact (Option.some.inj hg1).symm
    have q1 : n1 = i := by omega
    have q2 : n2 = h - j := by omega
    have q3 : c1 = cap := by simpa using hc1
    subst q1 q2 q3
    generalize hS : te.size = sz at *
    have m0 : rows.length * sz = h * sz + (rows.length - h) * sz := by rw [← Nat.add_mul]; congr 1; omega
    have m1 : h * sz = j * sz + (h - j) * sz := by rw [← Nat.add_mul]; congr 1; omega
    have m2 : j * sz = n1 * sz + (j - n1) * sz := by rw [← Nat.add_mul]; congr 1; omega
    have m3 : rows.length * sz ≤ c1 * sz := Nat.mul_le_mul_right _ hnc
    have m4 : (rows.length - n1 - (h - j)) * sz + (n1 * sz + (h - j) * sz) = rows.length * sz := by rw [← Nat.add_mul, ← Nat.add_mul]; congr 1; omega
    let um := (us.take (h * sz)).drop (j * sz)
    have lm : um.length = (h - j) * sz := by
      show ((us.take (h * sz)).drop (j * sz)).length = _
      rw [List.length_drop, List.length_take]; omega
    have hum : ∀ v ∈ um, v.oneCell' = true := fun v hv => hcr.one v (List.mem_of_mem_take (List.mem_of_mem_drop hv))
    have cl : cur.toList.length = c1 * sz := by rw [Array.length_toList, hcs]
    have hrun := run_append_in (P := F.P) (w := w) t ty.elem (ht.isS hs) hi hsz' (g := g1) (o := 0) (n := n1) (cap := c1) hh (A := A2) (m := h - j) (c := c2) (us := um) lm (fun hp => by
      obtain ⟨g2, hg2, rfl⟩ := gA2 (by omega)
      obtain rfl : g2 = g1 := by rw [hblk] at hg2; exact (Option.some.inj hg2).symm
      refine ⟨_, rfl, fun q v hq => ?_⟩
      rw [Addr.add_lit, hGs, Int.toNat_natCast]
      refine own_cell hown hblk ?_
      have hq : ((us.take (h * sz)).drop (j * sz))[q]? = some v := hq
      rw [List.getElem?_drop, List.getElem?_take] at hq
      split at hq
      · exact hq
      · cases hq) (by omega) (by rw [lm, hcs]; omega) hum
    have hnd : id ∉ ([] : List Nat) := by simp
    obtain ⟨G', φ', hr', hle⟩ := row_upd hr ho (g := g1) (cap := c1) (cur := cur) (cur' := (cur.toList.take (0 + n1 * sz) ++ um ++ cur.toList.drop (0 + n1 * sz + um.length)).toArray) hβ hh hnc hcm hcs (by
        simp only [List.size_toArray, List.length_append, List.length_take, List.length_drop, lm, cl]; omega) (rows' := delR rows n1 j h sz) (us' := us.take (n1 * sz) ++ (um ++ us.drop (n1 * sz + um.length))) (ds := []) (ψ' := ψ) (delR_len (by omega) h2 h3) (delR_row hrs) (by
        have l1 : (cur.toList.take (0 + n1 * sz) ++ um).length = n1 * sz + um.length := by rw [List.length_append, List.length_take, cl]; omega
        show ((cur.toList.take (0 + n1 * sz) ++ um) ++ cur.toList.drop (0 + n1 * sz + um.length)).take (rows.length * sz) = _
        rw [List.take_append, List.take_of_length_le (by rw [l1, lm]; omega), l1, ← htk, List.take_take, Nat.min_eq_left (by omega), List.drop_take, Nat.zero_add, List.append_assoc]) (CR.del hrs hcr (by omega) h2 h3 (by rw [List.length_drop, ul, lm]; omega) (fun v hv => hcr.one v (List.mem_of_mem_drop hv))) (fun b hb => .inl (hψ b hb)) (fun hb => (hψb g1 (by rw [hβ]; rfl)).2 hb) hnd
    have z0 : (0 : Int).toNat * G.sz id = 0 := by simp
    rw [z0] at ex
    refine ⟨.slice (some ⟨g1, 0, none⟩) (n1 + (h - j)) c1, _, G', φ', fun o hop => ?_, hr', ?_⟩
    · obtain ⟨dst, op, type, pos, after, guard⟩ := o
      simp only at hop
      subst hop
      simp only [Nat.zero_add] at hrun
      simp [execOp, resolve, invoke, builtin, ex, ey, hrun]
    · exact .sb (hle.dom _ hid) (Int.le_refl 0) (by omega) (by omega) (by omega) (by omega) (fun _ => ⟨g1, by rw [hle.β _ hid]; exact hblk, by simp⟩) ⟨_, _, _, (hle.β _ hid).trans hβ, by omega, by omega, fun _ => rfl⟩ .nil
end Go.Proofs.YtcpekllcbimpmaaDoor.L

namespace Go.Proofs.YtcpekllcbimpmaaDoor.L
set_option linter.unusedVariables false
set_option linter.unusedSimpArgs false
open Go
variable {P : Program} {F : Fr} {σ : St} {a : Act} {w : World} {S : Nat → Prop} {G G' : Gh} {φ : Nat → Nat → Prop} {tab : List (Nat × Ty)}

/-- A part of a row laid to zero: what was behind its beginning is nobody's. -/
theorem hand_clear {t : Nat} {ty te : Ty} (ht : TyOk P t ty) (hs : ty.isS = true) (hte : TyOk P ty.elem te) (hz : te.zero ≠ []) {x : Operand} {id ver : Nat} {rows : Rws} {b0 b1 : Nat} (h1 : b0 < b1) (h2 : b1 ≤ rows.length) :
    HandOk P (.call { callee := .builtin .clear, args := #[x], argTypes := #[t] }) [.sb id b0 b1] [(id, .row ver ty.elem te.size rows)] .u [(id, .row (ver + 1) ty.elem te.size (delR rows b0 rows.length rows.length te.size))] := by
  intro F σ a w S G φ hP hr hv ho _
  subst hP
  have ho := ho _ (List.mem_singleton.2 rfl)
  obtain ⟨hid, hsz, hGs, us, hk, hrs, hown, ψ, hψb, hψ, hcr⟩ := hr.row ho
  simp [Op.operands, Call.operands] at hv
  obtain ⟨ux, us1, e1, v1, r1⟩ := hv.uncons
  cases r1
  simp only [List.cons.injEq, and_true] at e1
  obtain ⟨ti, hi, hsz', hby, hzz⟩ := hte.info
  obtain ⟨z, hz1, hz2⟩ := hzz hz
  have hzs : z.cells.size = te.size := by rw [← Array.length_toList, hz2, hte.zlen hz]
  rcases hown.2 with ⟨hβ, hn⟩ | ⟨g, cap, cur, hβ, _, hh, hnc, hcm, hcs, htk⟩
  · omega
  cases v1 with
  | @sb _ _ _ A1 n1 c1 _ _ _ _ _ gn1 gm1 gc1 gA1 gb1 _ =>
    obtain ⟨_, m1, cp1, hb1, hm1, hc1, hA1⟩ := gb1
    rw [hβ] at hb1
    cases hb1
    have ul : us.length = rows.length * te.size := hcr.len.trans (flatten_len rows hrs)
    have hblk : blk (G.β id) = some g := by rw [hβ]; rfl
    obtain ⟨g1, hg1, rfl⟩ := gA1 (by omega)
    obtain rfl : g1 = g := by rw [hblk] at hg1; exact (Option.some.inj hg1).symm
    have q1 : n1 = b1 - b0 := by omega
    rw [hGs, Int.toNat_natCast] at e1
    generalize hS : te.size = sz at *
    have m0 : rows.length * sz = b1 * sz + (rows.length - b1) * sz := by rw [← Nat.add_mul]; congr 1; omega
    have m1' : b1 * sz = b0 * sz + n1 * sz := by rw [← Nat.add_mul]; congr 1; omega
    have m3 : rows.length * sz ≤ cap * sz := Nat.mul_le_mul_right _ hnc
    have cl : cur.toList.length = cap * sz := by rw [Array.length_toList, hcs]
    have m4 : (rows.length - b0 - (rows.length - rows.length)) * sz + b0 * sz = rows.length * sz := by rw [← Nat.add_mul]; congr 1; omega
    have hzv : ∀ w, (zeroValue ty.elem).run F.P w = .ok z w := fun w => by simp [zeroValue, typeInfo, hi, hz1]
    have zl : (Builtin.zeroCells z.cells n1).toList.length = n1 * sz := by simp [Builtin.zeroCells, hzs]
    have hrun := run_clear_in (P := F.P) (w := w) t ty.elem (ht.isS hs) hzv hzs (fun v hv => hte.zero1 v (hz2 ▸ hv)) (g := g1) (o := b0 * sz) (n := n1) (c := c1) hh (by omega) (by rw [hcs]; omega)
    let cur' := (cur.toList.take (b0 * sz) ++ (Builtin.zeroCells z.cells n1).toList ++ cur.toList.drop (b0 * sz + n1 * sz)).toArray
    have hz1' : ∀ v ∈ (Builtin.zeroCells z.cells n1).toList, v.oneCell' = true := by
      intro x hx
      simp only [Builtin.zeroCells, Array.toList_map, List.mem_map] at hx
      obtain ⟨j, hj, rfl⟩ := hx
      have hj' : j < n1 * z.cells.size := by simpa using hj
      have : 0 < z.cells.size := by
        rcases Nat.eq_zero_or_pos z.cells.size with h | h
        · rw [h] at hj'; simp at hj'
        · exact h
      have hlt := Nat.mod_lt j this
      rw [getElem!_pos z.cells _ hlt]
      exact hte.zero1 _ (hz2 ▸ (by simp))
    obtain ⟨G', φ', hr', hle⟩ := row_upd hr ho (g := g1) (cap := cap) (cur := cur) (cur' := cur') hβ hh hnc hcm hcs (by
        simp only [cur', List.size_toArray, List.length_append, List.length_take, List.length_drop, zl, cl]; omega) (rows' := delR rows b0 rows.length rows.length sz) (us' := us.take (b0 * sz) ++ ((us.take (rows.length * sz)).drop (rows.length * sz) ++ ((Builtin.zeroCells z.cells n1).toList ++ us.drop (b1 * sz)))) (ds := []) (ψ' := ψ) (delR_len (by omega) (Nat.le_refl _) (Nat.le_refl _)) (delR_row hrs) (by
        have l1 : (cur.toList.take (b0 * sz) ++ (Builtin.zeroCells z.cells n1).toList).length = b1 * sz := by rw [List.length_append, List.length_take, cl, zl]; omega
        show ((cur.toList.take (b0 * sz) ++ (Builtin.zeroCells z.cells n1).toList) ++ cur.toList.drop (b0 * sz + n1 * sz)).take (rows.length * sz) = _
        rw [List.drop_eq_nil_of_le (i := rows.length * sz) (by rw [List.length_take]; omega), List.nil_append, List.take_append, List.take_of_length_le (by rw [l1]; omega), l1, ← htk, List.take_take, Nat.min_eq_left (by omega), List.drop_take, ← m1', List.append_assoc])
      (CR.del hrs hcr (by omega) (Nat.le_refl _) (Nat.le_refl _) (by rw [List.length_append, zl, List.length_drop, ul]; omega) (fun v hv => by
        rcases List.mem_append.1 hv with hv | hv
        · exact hz1' v hv
        · exact hcr.one v (List.mem_of_mem_drop hv))) (fun b hb => .inl (hψ b hb)) (fun hb => (hψb g1 (by rw [hβ]; rfl)).2 hb) (by simp)
    refine ⟨.tuple #[], _, G', φ', fun o hop => ?_, hr', .uu .nil⟩
    obtain ⟨dst, op, type, pos, after, guard⟩ := o
    simp only at hop
    subst hop
    simp [execOp, resolve, invoke, builtin, e1, hrun, cur']
end Go.Proofs.YtcpekllcbimpmaaDoor.L

namespace Go.Proofs.YtcpekllcbimpmaaDoor.L
set_option linter.unusedVariables false
set_option linter.unusedSimpArgs false
open Go
variable {P : Program} {F : Fr} {σ : St} {a : Act} {w : World} {S : Nat → Prop} {G G' : Gh} {φ : Nat → Nat → Prop} {tab : List (Nat × Ty)}

/-- A slice with three bounds, of which nothing is kept. -/
theorem hand_slice3 {t : Nat} {ty te : Ty} (ht : TyOk P t ty) (hs : ty.isS = true) (hte : TyOk P ty.elem te) {x lo hi mx : Operand} {id : Nat} {o : O} {b0 b1 l hh m : Int} {k k' k2 : IntKind} (h0 : 0 ≤ l) (h1 : l ≤ hh) (h2 : hh ≤ m) (h3 : m ≤ b1 - b0) :
    HandOk P (.slice t x (some lo) (some hi) (some mx)) [.sb id b0 b1, .t (.s (.int k l)), .t (.s (.int k' hh)), .t (.s (.int k2 m))] [(id, o)] .u [] := by
  intro F σ a w S G φ hP hr hv ho _
  subst hP
  simp [Op.operands] at hv
  obtain ⟨u, us, e, g1, g2⟩ := hv.uncons
  obtain ⟨u2, us2, e2, g3, g4⟩ := g2.uncons
  obtain ⟨u3, us3, e3, g5, g6⟩ := g4.uncons
  obtain ⟨u4, us4, e4, g7, g8⟩ := g6.uncons
  cases g8
  subst e4 
  subst e3
  subst e2
  simp only [List.cons.injEq, and_true] at e
  obtain ⟨e1, e2, e3, e4⟩ := e
  have e2 := e2.trans g3.s_inv.1
  have e3 := e3.trans g5.s_inv.1
  have e4 := e4.trans g7.s_inv.1
  cases g1 with
  | @sb _ _ _ A n c _ _ _ _ _ gn gm gc gA gb _ =>
    have hb : ∀ (k : IntKind) (n : Int) (m : Nat) (c : BoundsCode), 0 ≤ n → n ≤ m → (Instr.sliceBound (.int k n) m c).run F.P w = .ok n.toNat w := by
      intro k n m c h0 h1
      simp [Instr.sliceBound, asIntOf, h0, h1]
    have key : ∃ u, (Instr.sliceAt t (a.eval x) (some (a.eval lo)) (some (a.eval hi)) (some (a.eval mx))).run F.P w = .ok u w := by
      rw [e1, e2, e3, e4]
      simp only [Instr.sliceAt, Sem.run_bind, run_underlying (ht.isS hs), Result.andThen_ok, Instr.slice, Instr.sliceBounds, hb k2 m c _ (by omega) (by omega), hb k' hh m.toNat _ (by omega) (by omega), hb k l hh.toNat _ h0 (by omega), run_sizeOf hte, Sem.run_pure]
      exact ⟨_, rfl⟩
    obtain ⟨u, hu⟩ := key
    refine ⟨u, w, G, φ, fun o hop => ?_, hr, .uu .nil⟩
    obtain ⟨dst, op, type, pos, after, guard⟩ := o
    simp only at hop
    subst hop
    simp [execOp, hu]
end Go.Proofs.YtcpekllcbimpmaaDoor.L

namespace Go.Proofs.YtcpekllcbimpmaaDoor.L
set_option linter.unusedVariables false
set_option linter.unusedSimpArgs false
open Go
variable {F : Fr} {w : World} {S : Nat → Prop} {G G' : Gh} {φ : Nat → Nat → Prop}

/-- The beginning of a row becomes a row of its own. -/
theorem WeakS.shrink {n nx : Nat} {env : List (Nat × V)} {objs : List (Nat × O)} (id nid t : Nat) {ver e sz : Nat} {rows : Rws} {k : Nat} {k' : Int} (ho : look .dead objs id = .row ver e sz rows) (hf : freshB nx objs nid = true) (hv : look .u env t = .sb id 0 k') (ht : nl (t + 1) n = true) (hk : k' = (k : Int)) (rows' : Rws) (hr' : rows.take k = rows') :
    WeakS F ⟨n, nx, env, objs⟩ ⟨n, nx, (t, .rf nid) :: env, (nid, .row 0 e sz rows') :: (id, .dead) :: objs⟩ := by
  subst hk hr'
  rintro a w ⟨S, G, φ, hr⟩
  obtain ⟨hid, hsz, hGs, us, hκ, hrs, hown, ψ, hb, hψ, hcr⟩ := hr.row ho
  have hne : nid ≠ id := by
    rintro rfl
    exact fresh_dom hr hf hid
  have hvt := hv ▸ hr.env t
  have hv2 : VR F.P w F.K S G (.sb id 0 k) (a.tmps.getD t undef) := hvt
  generalize hu : a.tmps.getD t undef = u at hv2
  cases hv2 with
  | @sb _ _ _ A n1 c1 _ _ _ _ _ gn gm gc gA gb _ =>
    obtain ⟨A0, m, cp, hβ, hm, hc, hA⟩ := gb
    obtain rfl := hA rfl
    have q1 : n1 = k := by omega
    have q2 : c1 = cp := by simpa using hc
    subst q1 q2
    have ul : us.length = rows.length * sz := hcr.len.trans (flatten_len rows hrs)
    have key : m = rows.length ∧ w.ownsRow 0 e sz (.slice A n1 c1) (rows.take n1).length (us.take (n1 * sz)) ∧ (∀ b, (Value.slice A n1 c1).ownBlock = some b → (G.β id).ownBlock = some b) := by
      rcases hown.2 with ⟨hβ', hn⟩ | ⟨g, cap, cur, hβ', h0, hh, hnc, hcm, hcs, htk⟩
      · rw [hβ] at hβ'
        cases hβ'
        have : n1 = 0 := by omega
        subst this
        refine ⟨hn.symm, ⟨by simp, .inl ⟨rfl, by simp⟩⟩, fun b hb => by simp [Value.ownBlock] at hb⟩
      · rw [hβ] at hβ'
        cases hβ'
        have hl : (rows.take n1).length = n1 := by rw [List.length_take]; omega
        have hle : n1 * sz ≤ rows.length * sz := Nat.mul_le_mul_right _ (by omega)
        refine ⟨rfl, ⟨by rw [hl, List.length_take]; omega, .inr ⟨g, c1, cur, by rw [hl], h0, hh, by omega, hcm, hcs, by rw [hl, ← htk, List.take_take, Nat.min_eq_left hle]⟩⟩, fun b hb => by rw [hβ]; exact hb⟩
    obtain ⟨hm1, hown', hob⟩ := key
    have hcr' : CR F.P w F.K F.K (rows.take n1).flatten (us.take (n1 * sz)) ψ := by
      rw [take_flatten rows n1 hrs]
      exact hcr.take _
    obtain ⟨G', φ', h1, h2⟩ := row_new hr hf (ds := [id]) (w' := w) (rows := rows.take n1) (v := .slice A n1 c1) (Kept.refl w no) (fun b hb => hb.elim) hsz (fun r hr => hrs r (List.mem_of_mem_take hr)) hown' (ψ := ψ) (fun b h => .inl ⟨⟨id, by simp, (hb b (hob b h)).1⟩, (hb b (hob b h)).2⟩) (fun b h => ⟨id, by simp, hψ b h⟩) hcr' (fun _ _ h => h.elim) (fun d hd => by rw [List.mem_singleton.1 hd]; exact fun e => hne e.symm)
    refine ⟨S, G', φ', ⟨h1.nx, h1.kd, h1.n, h1.KS, h1.Slt, fun t' => ?_, h1.obj, h1.dj, h1.own, h1.kept, h1.defs, h1.anc⟩⟩
    show VR F.P w F.K S G' (look .u ((t, .rf nid) :: env) t') _
    rw [look_cons]
    split
    · rename_i e; subst e; rw [hu]; exact h2
    · exact h1.env t'

theorem Weak.shrink {n nx : Nat} {env : List (Nat × V)} {objs : List (Nat × O)} (id nid t : Nat) {ver e sz : Nat} {rows : Rws} {k : Nat} {k' : Int} (ho : look .dead objs id = .row ver e sz rows) (hf : freshB nx objs nid = true) (hv : look .u env t = .sb id 0 k') (ht : nl (t + 1) n = true) (hk : k' = (k : Int)) (rows' : Rws) (hr' : rows.take k = rows') :
    Weak F ⟨n, nx, env, objs⟩ ⟨n, nx, (t, .rf nid) :: env, (nid, .row 0 e sz rows') :: (id, .dead) :: objs⟩ := Weak.up fun K => WeakS.shrink (F := F.up K) id nid t ho hf hv ht hk rows' hr'

end Go.Proofs.YtcpekllcbimpmaaDoor.L

namespace Go.Proofs.YtcpekllcbimpmaaDoor.L
set_option linter.unusedVariables false
set_option linter.unusedSimpArgs false
open Go
variable {P : Program} {F : Fr} {σ : St} {a : Act} {w : World} {S : Nat → Prop} {G G' : Gh} {φ : Nat → Nat → Prop} {tab : List (Nat × Ty)}

/-- A row's slice with three bounds, of which nothing is kept. -/
theorem hand_slice3r {t : Nat} {ty te : Ty} (ht : TyOk P t ty) (hs : ty.isS = true) (hte : TyOk P ty.elem te) {x lo hi mx : Operand} {id ver e sz : Nat} {rows : Rws} {l hh m : Int} {k k' k2 : IntKind} (h0 : 0 ≤ l) (h1 : l ≤ hh) (h2 : hh ≤ m) (h3 : m ≤ Ls.ln rows) :
    HandOk P (.slice t x (some lo) (some hi) (some mx)) [.rf id, .t (.s (.int k l)), .t (.s (.int k' hh)), .t (.s (.int k2 m))] [(id, .row ver e sz rows)] .u [] := by
  intro F σ a w S G φ hP hr hv ho _
  subst hP
  have ho := ho _ (List.mem_singleton.2 rfl)
  obtain ⟨hid, hsz, hGs, us, hk, hrs, hown, ψ, hψb, hψ, hcr⟩ := hr.row ho
  simp [Op.operands] at hv
  obtain ⟨u, us, e, g1, g2⟩ := hv.uncons
  obtain ⟨u2, us2, e2, g3, g4⟩ := g2.uncons
  obtain ⟨u3, us3, e3, g5, g6⟩ := g4.uncons
  obtain ⟨u4, us4, e4, g7, g8⟩ := g6.uncons
  cases g8
  subst e4 
  subst e3
  subst e2
  simp only [List.cons.injEq, and_true] at e
  obtain ⟨e1, e2, e3, e4⟩ := e
  have e2 := e2.trans g3.s_inv.1
  have e3 := e3.trans g5.s_inv.1
  have e4 := e4.trans g7.s_inv.1
  simp only [Ls] at h3
  have hb : ∀ (k : IntKind) (n : Int) (m : Nat) (c : BoundsCode), 0 ≤ n → n ≤ m → (Instr.sliceBound (.int k n) m c).run F.P w = .ok n.toNat w := by
    intro k n m c h0 h1
    simp [Instr.sliceBound, asIntOf, h0, h1]
  have hu : ∃ A c, u = .slice A rows.length c ∧ rows.length ≤ c := by
    cases g1 with
    | rf _ hu _ _ =>
      subst hu
      rcases hown.2 with ⟨hβ, hn⟩ | ⟨g, cap, cur, hβ, _, _, hnc, _⟩
      · exact ⟨none, 0, by rw [hβ, hn], by omega⟩
      · exact ⟨_, cap, hβ, hnc⟩
  obtain ⟨A, c, rfl, hc⟩ := hu
  have key : ∃ u, (Instr.sliceAt t (a.eval x) (some (a.eval lo)) (some (a.eval hi)) (some (a.eval mx))).run F.P w = .ok u w := by
    rw [e1, e2, e3, e4]
    simp only [Instr.sliceAt, Sem.run_bind, run_underlying (ht.isS hs), Result.andThen_ok, Instr.slice, Instr.sliceBounds, hb k2 m c _ (by omega) (by omega), hb k' hh m.toNat _ (by omega) (by omega), hb k l hh.toNat _ h0 (by omega), run_sizeOf hte, Sem.run_pure]
    exact ⟨_, rfl⟩
  obtain ⟨u, hu⟩ := key
  refine ⟨u, w, G, φ, fun o hop => ?_, hr, .uu .nil⟩
  obtain ⟨dst, op, type, pos, after, guard⟩ := o
  simp only at hop
  subst hop
  simp [execOp, hu]

theorem delR_take {rows : Rws} {i j sz : Nat} (h1 : i ≤ j) (h2 : j ≤ rows.length) : (delR rows i j rows.length sz).take (i + (rows.length - j)) = rows.take i ++ rows.drop j := by
  unfold delR
  rw [List.take_of_length_le (l := rows) (Nat.le_refl _), ← List.append_assoc, List.take_left']
  rw [List.length_append, List.length_take, List.length_drop]; omega
theorem delR_take2 {rows : Rws} {i j sz : Nat} (h1 : i ≤ j) (h2 : j ≤ rows.length) : (delR (delR rows i j rows.length sz) (i + (rows.length - j)) rows.length rows.length sz).take (i + (rows.length - j)) = rows.take i ++ rows.drop j := by
  have hl := delR_len (sz := sz) h1 h2 (Nat.le_refl rows.length)
  rw [← delR_take (sz := sz) h1 h2]
  generalize hD : delR rows i j rows.length sz = D at *
  have hk : i + (rows.length - j) ≤ D.length := by omega
  unfold delR
  rw [List.take_append_of_le_length (by rw [List.length_take]; omega), List.take_take, Nat.min_self]
end Go.Proofs.YtcpekllcbimpmaaDoor.L

namespace Go.Proofs.YtcpekllcbimpmaaDoor.L
set_option linter.unusedVariables false
set_option linter.unusedSimpArgs false
open Go
variable {P : Program} {F : Fr} {σ : St} {a : Act} {w : World} {S : Nat → Prop} {G G' : Gh} {φ : Nat → Nat → Prop} {tab : List (Nat × Ty)}

/-- The length of a part. -/
theorem hand_len {t : Nat} {ty : Ty} (ht : TyOk P t ty) (hs : ty.isS = true) {x : Operand} {id : Nat} {o : O} {b0 b1 n : Int} (hn : n = b1 - b0) :
    HandOk P (.call { callee := .builtin .len, args := #[x], argTypes := #[t] }) [.sb id b0 b1] [(id, o)] (.t (.s (.int .i64 n))) [] := by
  intro F σ a w S G φ hP hr hv ho _
  subst hP
  simp [Op.operands, Call.operands] at hv
  obtain ⟨ux, us1, e1, v1, r1⟩ := hv.uncons
  cases r1
  simp only [List.cons.injEq, and_true] at e1
  cases v1 with
  | @sb _ _ _ A1 n1 c1 _ _ _ _ _ gn1 gm1 gc1 gA1 gb1 _ =>
    obtain rfl : n = (n1 : Int) := hn.trans gn1.symm
    refine ⟨.int .i64 n1, w, G, φ, fun o hop => ?_, hr, .t (.s rfl .nil) .nil⟩
    obtain ⟨dst, op, type, pos, after, guard⟩ := o
    simp only at hop
    subst hop
    simp [execOp, resolve, invoke, builtin, e1, Builtin.len_, Builtin.lenOf, run_underlying (ht.isS hs), goInt]
end Go.Proofs.YtcpekllcbimpmaaDoor.L

namespace Go.Proofs.YtcpekllcbimpmaaDoor.L
set_option linter.unusedVariables false
set_option linter.unusedSimpArgs false
open Go
variable {P : Program} {w : World}

/-- What the call does: a row, one element more. -/
def InsRaw (P : Program) (f : FuncId) (e sz bt : Nat) : Prop :=
  ∀ (w : World) (v0 v2 : Value) (n i : Nat) (us us2 : List Value), i ≤ n → (n + 1) * bt ≤ 140737488355328 → n + 1 ≤ 140737488355328 → w.ownsRow 0 e sz v0 n us → w.ownsRow 0 e sz v2 1 us2 → (∀ b, v0.ownBlock = some b → v2.ownBlock ≠ some b) →
    (∀ u ∈ us, u.oneCell' = true) → (∀ u ∈ us2, u.oneCell' = true) →
    Calls P f #[v0, .int .i64 i, v2] w fun ex w' => ∃ v', ex = .returned v' ∧ w'.ownsRow 0 e sz v' (n + 1) (us.take (i * sz) ++ us2 ++ us.drop (i * sz)) ∧ Kept w w' (fun b => v0.ownBlock = some b) ∧ ∀ b, v'.ownBlock = some b → v0.ownBlock = some b ∨ w.heap.size ≤ b

theorem AC.of_ins {f e sz bt : Nat} {rows : Rws} {r : List T} {i : Nat} (hx : ∃ fn, P.funcs[f]? = some fn ∧ (fn.name == "runtime.NumGoroutine") = false ∧ fn.body.isNone = false) (hsz : P.cellsOf e = sz) (hraw : InsRaw P f e sz bt) (hi : i ≤ rows.length) (hb : (rows.length + 1) * bt ≤ 140737488355328) (hb2 : rows.length + 1 ≤ 140737488355328) :
    AC P f [.v (.ow e rows), .v (.s (.int .i64 i)), .v (.ow e [r])] [.v .jk, .v .jk, .v .jk] [.v (.ow e (rows.take i ++ [r] ++ rows.drop i))] := by
  refine AC.of0 hx fun w K S φ vs us hKS hS hφ _ has hc => ?_
  cases has with
  | v has => cases has with
  | v has => cases has with
  | v has =>
  cases has
  simp only [acells, A.cells, List.singleton_append, List.append_nil] at hc
  have hone := hc.one
  rename_i v0 v1 v2
  cases hc with
  | @ow _ _ φ1 φ2 _ _ _ _ _ hs0 us0 ho0 ψ1 hb1 hψ1 hr0 h hd h1 h2 =>
  cases h with
  | s _ h => cases h with
  | @ow _ _ φ3 φ4 _ _ _ _ _ hs2 us2 ho2 ψ2 hb3 hψ2 hr2 h hd2 h3 h4 =>
  cases h
  subst hsz
  generalize hsz : P.cellsOf e = sz at *
  have hne : ∀ b, v0.ownBlock = some b → v2.ownBlock ≠ some b := fun b hb hb' => hd b (hb1 b hb).1 (h3 b (hb3 b hb').1)
  refine (hraw w v0 v2 rows.length i us0 us2 hi hb hb2 ho0 ho2 hne hr0.one hr2.one).mono ?_
  rintro ex w' ⟨v', rfl, hown, hk, hnb⟩
  have hlow : ∀ b, φ b → b < w.heap.size := fun b hb => (hφ b hb).1
  have hsame : ∀ b, b < w.heap.size → v0.ownBlock ≠ some b → w'.heap[b]? = w.heap[b]? := fun b hb hn => hk.block b hb hn
  have hK : ∀ b, K b → w'.heap[b]? = w.heap[b]? := fun b hb => hsame b (hS b (hKS b hb)) fun e => (hφ b (h1 b (hb1 b e).1)).2 (hKS b hb)
  have hψ1' : ∀ b, ψ1 b → w'.heap[b]? = w.heap[b]? := fun b hb => hsame b (hlow b (h1 b (hψ1 b hb))) fun e => (hb1 b e).2 hb
  have hψ2' : ∀ b, ψ2 b → w'.heap[b]? = w.heap[b]? := fun b hb => hsame b (hlow b (h2 b (h3 b (hψ2 b hb)))) fun e => hd b (hb1 b e).1 (h3 b (hψ2 b hb))
  have hr0' := hr0.move hK hK hψ1'
  have hr2' := hr2.move hK hK hψ2'
  have hdψ : Dj ψ1 ψ2 := fun b ha hb => hd b (hψ1 b ha) (h3 b (hψ2 b hb))
  rw [← List.take_append_drop i rows, List.flatten_append] at hr0'
  obtain ⟨ua, ub, φa, φb, hu, ha, hb', hdab, sa, sb⟩ := hr0'.split
  have hla : ua.length = i * sz := by
    rw [ha.len, flatten_len (rows.take i) (fun q hq => hs0 q (List.mem_of_mem_take hq)), List.length_take, Nat.min_eq_left hi]
  have e1 : us0.take (i * sz) = ua := by rw [hu, ← hla]; exact List.take_left' rfl
  have e2 : us0.drop (i * sz) = ub := by rw [hu, ← hla]; exact List.drop_left' rfl
  have hres : CR P w' K K (rows.take i ++ [r] ++ rows.drop i).flatten (us0.take (i * sz) ++ us2 ++ us0.drop (i * sz)) (fun b => ψ1 b ∨ ψ2 b) := by
    rw [e1, e2, List.flatten_append, List.flatten_append]
    refine CR.join (φ1 := fun b => φa b ∨ ψ2 b) (CR.join ha hr2' (fun b h h' => hdψ b (sa b h) h') (fun b h => .inl h) (fun b h => .inr h)) hb' ?_ ?_ (fun b h => .inl (sb b h))
    · rintro b (h | h) h'
      · exact hdab b h h'
      · exact hdψ b (sb b h') h
    · rintro b (h | h)
      · exact .inl (sa b h)
      · exact .inr h
  have hsb : ∀ b, ψ1 b ∨ ψ2 b → φ b := fun b h => h.elim (fun h => h1 b (hψ1 b h)) (fun h => h2 b (h3 b (hψ2 b h)))
  refine ⟨[v'], [v'], fun b => v'.ownBlock = some b ∨ (ψ1 b ∨ ψ2 b), rfl, .v .nil, ?_, ?_, ?_⟩
  · refine .jk (hone _ (by simp)) (.jk (hone _ (by simp)) (.jk (hone _ (by simp)) ?_))
    refine .ow (φ1 := fun b => v'.ownBlock = some b ∨ (ψ1 b ∨ ψ2 b)) (φ2 := no) (fun q hq => ?_) _ (by
      have hl : (rows.take i ++ [r] ++ rows.drop i).length = rows.length + 1 := by simp; omega
      rw [hl, hsz]; exact hown) (fun b => ψ1 b ∨ ψ2 b) (fun b hb => ⟨.inl hb, ?_⟩) (fun b hb => .inr hb) hres .nil (fun _ _ h => h.elim) (fun _ h => h) (fun _ h => h.elim)
    · rw [hsz]
      rcases List.mem_append.1 hq with hq | hq
      · rcases List.mem_append.1 hq with hq | hq
        · exact hs0 q (List.mem_of_mem_take hq)
        · exact hs2 q hq
      · exact hs0 q (List.mem_of_mem_drop hq)
    · rcases hnb b hb with h | h
      · rintro (h' | h')
        · exact (hb1 b h).2 h'
        · exact hd b (hb1 b h).1 (h3 b (hψ2 b h'))
      · intro h'
        have := hlow b (hsb b h')
        omega
  · rintro b (h | h)
    · refine ⟨(hown.lt b h).2, ?_⟩
      rcases hnb b h with h | h
      · exact .inl (h1 b (hb1 b h).1)
      · exact .inr h
    · exact ⟨Nat.lt_of_lt_of_le (hlow b (hsb b h)) hk.size, .inl (hsb b h)⟩
  · exact (Kept.refl w _).trans hk (fun b hb _ => h1 b (hb1 b hb).1)

/-! ### the walk -/
/-- An operation whose run is known. -/
theorem wpList_run {P : Program} {ops : Array Oper} {rest : List Oper} {o : Oper} {a : Act} {w w' : World} {u : Value} {Q : Exit → Act → World → Prop} (hgd : o.guard = none)
    (hr : (execOp a.eval o).run P w = .ok (.value u) w') (h : wpList P ops Q rest (a.put o.dst u) w') : wpList P ops Q (o :: rest) a w :=
  wpList_plain hgd fun _ hK => by
    unfold Oper.wp
    rw [hr]
    exact hK _ _ h

/-- .. and as a step of a region in any order. -/
theorem step_run {P : Program} {ops : Array Oper} {o : Oper} {a : Act} {w w' : World} {u : Value} {K : Act → World → Prop} {Q : Exit → Act → World → Prop} {E : Prop} (hgd : o.guard = none)
    (hr : (execOp a.eval o).run P w = .ok (.value u) w') (hK : K (a.put o.dst u) w') : if Region.wanted o (yielded ops a.tmps) = true then Oper.wp P o a w K Q else E := by
  have hw : Region.wanted o (yielded ops a.tmps) = true := by simp [Region.wanted, hgd]
  rw [if_pos hw]
  unfold Oper.wp
  rw [hr]
  exact hK

theorem exec_copy {P : Program} {w w' : World} {o : Oper} {a : Act} {d s : Operand} {t t' : TypeId} {v u x : Value} (ho : o.op = .call { callee := .builtin .copy, args := #[d, s], argTypes := #[t, t'] }) (hd : a.eval d = v) (hs : a.eval s = u)
    (hr : (Builtin.copy_ #[t, t'] o.type #[v, u]).run P w = .ok x w') : (execOp a.eval o).run P w = .ok (.value x) w' := by
  simp [execOp, ho, resolve, invoke, builtin, hd, hs, hr, Result.andThen]

theorem exec_append {P : Program} {w w' : World} {o : Oper} {a : Act} {d s : Operand} {t t' : TypeId} {v u x : Value} (ho : o.op = .call { callee := .builtin .append, args := #[d, s], argTypes := #[t, t'] }) (hd : a.eval d = v) (hs : a.eval s = u)
    (hr : (Builtin.append_ #[t, t'] o.type #[v, u]).run P w = .ok x w') : (execOp a.eval o).run P w = .ok (.value x) w' := by
  simp [execOp, ho, resolve, invoke, builtin, hd, hs, hr, Result.andThen]

/-- The row's cells behind the first copy, behind the second. -/
def insA (cur us : List Value) (i sz : Nat) : List Value := cur.take ((i + 1) * sz) ++ us.drop (i * sz) ++ cur.drop ((i + 1) * sz + (us.drop (i * sz)).length)
def insB (cur us us2 : List Value) (i sz : Nat) : List Value := (insA cur us i sz).take (i * sz) ++ us2 ++ (insA cur us i sz).drop (i * sz + us2.length)

theorem insA_len {cur us : List Value} {i n sz : Nat} (hul : us.length = n * sz) (hi : i ≤ n) (hc : (n + 1) * sz ≤ cur.length) : (insA cur us i sz).length = cur.length := by
  have m1 : (n + 1) * sz = (i + 1) * sz + (n - i) * sz := by rw [← Nat.add_mul]; congr 1; omega
  have m2 : n * sz = i * sz + (n - i) * sz := by rw [← Nat.add_mul]; congr 1; omega
  simp only [insA, List.length_append, List.length_take, List.length_drop, hul]
  omega
theorem insB_len {cur us us2 : List Value} {i n sz : Nat} (hul : us.length = n * sz) (hi : i ≤ n) (hc : (n + 1) * sz ≤ cur.length) (h2 : us2.length = sz) : (insB cur us us2 i sz).length = cur.length := by
  have hA := insA_len hul hi hc
  have m1 : (n + 1) * sz = i * sz + (n + 1 - i) * sz := by rw [← Nat.add_mul]; congr 1; omega
  have m3 : (n + 1) * sz = (i + 1) * sz + (n - i) * sz := by rw [← Nat.add_mul]; congr 1; omega
  have m4 : (i + 1) * sz = i * sz + sz := Nat.succ_mul i sz
  simp only [insB, List.length_append, List.length_take, List.length_drop, hA, h2]
  omega
theorem insB_take {cur us us2 : List Value} {i n sz : Nat} (hul : us.length = n * sz) (hi : i ≤ n) (hc : (n + 1) * sz ≤ cur.length) (h2 : us2.length = sz) (ht : cur.take (i * sz) = us.take (i * sz)) : (insB cur us us2 i sz).take ((n + 1) * sz) = us.take (i * sz) ++ us2 ++ us.drop (i * sz) := by
  have m3 : (n + 1) * sz = (i + 1) * sz + (n - i) * sz := by rw [← Nat.add_mul]; congr 1; omega
  have m2 : n * sz = i * sz + (n - i) * sz := by rw [← Nat.add_mul]; congr 1; omega
  have m4 : (i + 1) * sz = i * sz + sz := Nat.succ_mul i sz
  have lT : (cur.take ((i + 1) * sz)).length = (i + 1) * sz := by rw [List.length_take]; omega
  have lD : (us.drop (i * sz)).length = (n - i) * sz := by rw [List.length_drop]; omega
  have eA : (insA cur us i sz).take (i * sz) = us.take (i * sz) := by
    unfold insA
    rw [List.append_assoc, List.take_append_of_le_length (by omega), List.take_take, Nat.min_eq_left (by omega), ht]
  have eB : (insA cur us i sz).drop (i * sz + us2.length) = us.drop (i * sz) ++ cur.drop ((i + 1) * sz + (us.drop (i * sz)).length) := by
    unfold insA
    rw [List.append_assoc, List.drop_left' (by rw [lT, h2]; omega)]
  have lt : (us.take (i * sz)).length = i * sz := by rw [List.length_take]; omega
  unfold insB
  rw [eA, eB, ← List.append_assoc, List.take_left']
  simp only [List.length_append, lt, lD, h2]
  omega

theorem ins_cp1 (t e : TypeId) {ti : TypeInfo} {sz : Nat} (ht : P.underlying t = some (.slice e)) (hti : P.info? e = some ti) (hsz : ti.size = sz) {N g o n i k1 k2 : Nat} {cur : Array Value} {us : List Value} (hh : w.heap[N]? = some (.cells cur e (0, 0))) (hul : us.length = n * sz) (hi : i ≤ n) (hc : (n + 1) * sz ≤ cur.size)
    (hA : ∀ j x, us[j]? = some x → w.cell? ⟨g, j, none⟩ = some x) (h1 : ∀ x ∈ us, x.oneCell' = true) (hk1 : k1 = n - i) (hk2 : n - i ≤ k2) (ho : o = i * sz) (o' : Nat) (ho' : o' = (i + 1) * sz) (ty0 : TypeId) (dc sc : Nat) :
    (Builtin.copy_ #[t, t] ty0 #[.slice (some ⟨N, o', none⟩) k1 dc, .slice (some ⟨g, o, none⟩) k2 sc]).run P w = .ok (goInt (n - i : Nat)) (w.setRow N (insA cur.toList us i sz).toArray) := by
  subst ho ho' hk1
  have m2 : n * sz = i * sz + (n - i) * sz := by rw [← Nat.add_mul]; congr 1; omega
  have m3 : (n + 1) * sz = (i + 1) * sz + (n - i) * sz := by rw [← Nat.add_mul]; congr 1; omega
  have lD : (us.drop (i * sz)).length = (n - i) * sz := by rw [List.length_drop]; omega
  have := run_copy_in (P := P) (w := w) t t e ht hti hsz (g := N) (o := (i + 1) * sz) (dl := n - i) (dc := dc) hh (A := some ⟨g, i * sz, none⟩) (m := k2) (c := sc) (k := n - i) (us := us.drop (i * sz)) (Nat.min_eq_right hk2) lD (fun _ => ⟨_, rfl, fun j x hx => by
    rw [List.getElem?_drop] at hx
    rw [Addr.add_lit]
    exact hA _ _ hx⟩) (by rw [lD]; omega) (fun x hx => h1 x (List.mem_of_mem_drop hx)) ty0
  rw [this]; rfl

theorem ins_cp2 (t e : TypeId) {ti : TypeInfo} {sz : Nat} (ht : P.underlying t = some (.slice e)) (hti : P.info? e = some ti) (hsz : ti.size = sz) {N g o k1 : Nat} {cur : Array Value} {us2 : List Value} (hh : w.heap[N]? = some (.cells cur e (0, 0))) (h2 : us2.length = sz) (hc : o + sz ≤ cur.size)
    (hA : ∀ j x, us2[j]? = some x → w.cell? ⟨g, j, none⟩ = some x) (h1 : ∀ x ∈ us2, x.oneCell' = true) (hk1 : 1 ≤ k1) (ty0 : TypeId) (dc sc : Nat) :
    (Builtin.copy_ #[t, t] ty0 #[.slice (some ⟨N, o, none⟩) k1 dc, .slice (some ⟨g, 0, none⟩) 1 sc]).run P w = .ok (goInt (1 : Nat)) (w.setRow N (cur.toList.take o ++ us2 ++ cur.toList.drop (o + us2.length)).toArray) := by
  exact run_copy_in (P := P) (w := w) t t e ht hti hsz (g := N) (o := o) (dl := k1) (dc := dc) hh (A := some ⟨g, 0, none⟩) (m := 1) (c := sc) (k := 1) (us := us2) (Nat.min_eq_left hk1) (by omega) (fun _ => ⟨_, rfl, fun j x hx => by
    rw [Addr.add_lit, Nat.zero_add]
    exact hA _ _ hx⟩) (by rw [h2]; omega) h1 ty0

theorem ins_row {W : World} {N e sz G n i : Nat} {cur us us2 : List Value} (hh : W.heap[N]? = some (.cells (insB cur us us2 i sz).toArray e (0, 0))) (hul : us.length = n * sz) (hi : i ≤ n) (hG : n + 1 ≤ G) (hGm : G ≤ maxLen) (hc : cur.length = G * sz) (h2 : us2.length = sz) (ht : cur.take (i * sz) = us.take (i * sz)) :
    W.ownsRow 0 e sz (.slice (some ⟨N, 0, none⟩) (n + 1) G) (n + 1) (us.take (i * sz) ++ us2 ++ us.drop (i * sz)) := by
  have hm : (n + 1) * sz ≤ cur.length := by rw [hc]; exact Nat.mul_le_mul_right _ hG
  refine ⟨?_, .inr ⟨N, G, _, rfl, Nat.zero_le _, hh, hG, hGm, by simp [insB_len hul hi hm h2, hc], by simpa using insB_take hul hi hm h2 ht⟩⟩
  rw [← insB_take hul hi hm h2 ht, List.length_take, insB_len hul hi hm h2]
  omega

theorem ins_kept (w : World) (g : Nat) (A B : Array Value) {φ : Nat → Prop} (hφ : φ g) : Kept w ((w.drew.setRow g A).setRow g B) φ := by
  refine ⟨rfl, rfl, rfl, by simp, fun b hb hn => ?_⟩
  have hne : b ≠ g := fun e => hn (e ▸ hφ)
  rw [setRow_other _ g b _ hne, setRow_other _ g b _ hne]
  rfl
theorem ins_kept2 (w : World) (o : Obj) (A B : Array Value) (φ : Nat → Prop) : Kept w (((w.drew.alloc o).setRow w.heap.size A).drew.setRow w.heap.size B) φ := by
  refine ⟨rfl, rfl, rfl, by simp, fun b hb hn => ?_⟩
  have hne : b ≠ w.heap.size := by omega
  rw [setRow_other _ _ b _ hne]
  show ((w.drew.alloc o).setRow w.heap.size A).heap[b]? = _
  rw [setRow_other _ _ b _ hne]
  exact (Kept.alloc w.drew o (fun _ => False)).block b hb (fun h => h)

theorem insC_take {R us us2 : List Value} {i n sz : Nat} (hul : us.length = n * sz) (hi : i ≤ n) (hc : (n + 1) * sz ≤ R.length) (h2 : us2.length = sz) (ht : R.take (i * sz) = us.take (i * sz)) :
    (insA (R.take (i * sz) ++ us2 ++ R.drop (i * sz + us2.length)) us i sz).take ((n + 1) * sz) = us.take (i * sz) ++ us2 ++ us.drop (i * sz) := by
  have m1 : (n + 1) * sz = (i + 1) * sz + (n - i) * sz := by rw [← Nat.add_mul]; congr 1; omega
  have m2 : n * sz = i * sz + (n - i) * sz := by rw [← Nat.add_mul]; congr 1; omega
  have m4 : (i + 1) * sz = i * sz + sz := Nat.succ_mul i sz
  have lD : (us.drop (i * sz)).length = (n - i) * sz := by rw [List.length_drop]; omega
  have lR : (R.take (i * sz)).length = i * sz := by rw [List.length_take]; omega
  have e1 : (R.take (i * sz) ++ us2 ++ R.drop (i * sz + us2.length)).take ((i + 1) * sz) = us.take (i * sz) ++ us2 := by
    rw [List.take_left' (by rw [List.length_append, lR, h2]; omega), ht]
  unfold insA
  rw [e1, List.take_left']
  simp only [List.length_append, List.length_take, lD, h2, hul]
  omega
theorem insC_len {R us us2 : List Value} {i n sz : Nat} (hul : us.length = n * sz) (hi : i ≤ n) (hc : (n + 1) * sz ≤ R.length) (h2 : us2.length = sz) : (R.take (i * sz) ++ us2 ++ R.drop (i * sz + us2.length)).length = R.length := by
  have m1 : (n + 1) * sz = (i + 1) * sz + (n - i) * sz := by rw [← Nat.add_mul]; congr 1; omega
  have m4 : (i + 1) * sz = i * sz + sz := Nat.succ_mul i sz
  simp only [List.length_append, List.length_take, List.length_drop, h2]
  omega

theorem ins_row2 {W : World} {N e sz G n i : Nat} {R us us2 : List Value} (hh : W.heap[N]? = some (.cells (insA (R.take (i * sz) ++ us2 ++ R.drop (i * sz + us2.length)) us i sz).toArray e (0, 0))) (hul : us.length = n * sz) (hi : i ≤ n) (hG : n + 1 ≤ G) (hGm : G ≤ maxLen) (hc : R.length = G * sz) (h2 : us2.length = sz) (ht : R.take (i * sz) = us.take (i * sz)) :
    W.ownsRow 0 e sz (.slice (some ⟨N, 0, none⟩) (n + 1) G) (n + 1) (us.take (i * sz) ++ us2 ++ us.drop (i * sz)) := by
  have hm : (n + 1) * sz ≤ R.length := by rw [hc]; exact Nat.mul_le_mul_right _ hG
  have hL := insC_len hul hi hm h2
  have hT := insC_take hul hi hm h2 ht
  have hl : (insA (R.take (i * sz) ++ us2 ++ R.drop (i * sz + us2.length)) us i sz).length = G * sz := by rw [insA_len hul hi (by rw [hL]; exact hm), hL, hc]
  refine ⟨?_, .inr ⟨N, G, _, rfl, Nat.zero_le _, hh, hG, hGm, by simpa using hl, by simpa using hT⟩⟩
  rw [← hT, List.length_take, hl]
  have := Nat.mul_le_mul_right sz hG
  omega

/-- The roads of the walk, each out of the runs of its built-in steps. -/
structure Roads (P : Program) (f t e sz it : Nat) : Prop where
  end0 : ∀ (w : World) (g2 c2 : Nat) (v' : Value) (w' : World), (Builtin.append_ #[t, t] t #[.slice none 0 0, .slice (some ⟨g2, 0, none⟩) 1 c2]).run P w = .ok v' w' →
    Calls P f #[.slice none 0 0, .int .i64 0, .slice (some ⟨g2, 0, none⟩) 1 c2] w fun ex w2 => ex = .returned v' ∧ w2 = w'
  end1 : ∀ (w : World) (g c g2 c2 n : Nat) (v' : Value) (w' : World), n ≤ c → (Builtin.append_ #[t, t] t #[.slice (some ⟨g, 0, none⟩) n c, .slice (some ⟨g2, 0, none⟩) 1 c2]).run P w = .ok v' w' →
    Calls P f #[.slice (some ⟨g, 0, none⟩) n c, .int .i64 n, .slice (some ⟨g2, 0, none⟩) 1 c2] w fun ex w2 => ex = .returned v' ∧ w2 = w'
  inn : ∀ (w : World) (g c g2 c2 n i : Nat) (cur cur2 A B : Array Value), i < n → n + 1 ≤ c → c ≤ maxLen → g2 ≠ g → w.heap[g]? = some (.cells cur e (0, 0)) → cur.size = c * sz → w.heap[g2]? = some (.cells cur2 e (0, 0)) →
    (∀ ty dc sc, (Builtin.copy_ #[t, t] ty #[.slice (some ⟨g, (i + 1) * sz, none⟩) (n + 1 - (i + 1)) dc, .slice (some ⟨g, i * sz, none⟩) (n + 1 - i) sc]).run P w.drew = .ok (goInt (n - i : Nat)) (w.drew.setRow g A)) →
    (∀ ty dc, (Builtin.copy_ #[t, t] ty #[.slice (some ⟨g, i * sz, none⟩) (n + 1 - i) dc, .slice (some ⟨g2, 0, none⟩) 1 c2]).run P (w.drew.setRow g A) = .ok (goInt (1 : Nat)) ((w.drew.setRow g A).setRow g B)) →
    Calls P f #[.slice (some ⟨g, 0, none⟩) n c, .int .i64 i, .slice (some ⟨g2, 0, none⟩) 1 c2] w fun ex w2 => ex = .returned (.slice (some ⟨g, 0, none⟩) (n + 1) c) ∧ w2 = (w.drew.setRow g A).setRow g B
  grow : ∀ (w : World) (g c g2 c2 n i G : Nat) (R A B : Array Value), i < n → n ≤ c → c < n + 1 → n + 1 ≤ maxLen → n + 1 ≤ G → G ≤ maxLen →
    (∀ ty, (Builtin.append_ #[t, it] ty #[.slice (some ⟨g, 0, none⟩) i c, .int .i64 ((n : Int) + 1 - i)]).run P w = .ok (.slice (some ⟨w.heap.size, 0, none⟩) (n + 1) G) (w.drew.alloc (.cells R e))) →
    (∀ ty dc, (Builtin.copy_ #[t, t] ty #[.slice (some ⟨w.heap.size, i * sz, none⟩) (n + 1 - i) dc, .slice (some ⟨g2, 0, none⟩) 1 c2]).run P (w.alloc (.cells R e)).drew = .ok (goInt (1 : Nat)) ((w.alloc (.cells R e)).drew.setRow w.heap.size A)) →
    (∀ ty dc sc, (Builtin.copy_ #[t, t] ty #[.slice (some ⟨w.heap.size, (i + 1) * sz, none⟩) (n + 1 - (i + 1)) dc, .slice (some ⟨g, i * sz, none⟩) (n - i) sc]).run P ((w.alloc (.cells R e)).drew.setRow w.heap.size A).drew = .ok (goInt (n - i : Nat)) (((w.alloc (.cells R e)).drew.setRow w.heap.size A).drew.setRow w.heap.size B)) →
    Calls P f #[.slice (some ⟨g, 0, none⟩) n c, .int .i64 i, .slice (some ⟨g2, 0, none⟩) 1 c2] w fun ex w2 => ex = .returned (.slice (some ⟨w.heap.size, 0, none⟩) (n + 1) G) ∧ w2 = ((w.alloc (.cells R e)).drew.setRow w.heap.size A).drew.setRow w.heap.size B

theorem Roads.raw {f t : Nat} {ty te : Ty} {it : Nat} (hR : Roads P f t ty.elem te.size it) (ht : TyOk P t ty) (hs : ty.isS = true) (hte : TyOk P ty.elem te) (hz : te.zero ≠ []) (h3 : P.underlying it = some (.int .i64)) : InsRaw P f ty.elem te.size te.bytes := by
  intro w v0 v2 n i us us2 hi hb hb2 ho0 ho2 hne h1c h1v
  obtain ⟨ti, hti, htz, htb, hzz⟩ := hte.info
  obtain ⟨z, hz1, hz2⟩ := hzz hz
  have hzs : z.cells.size = te.size := by rw [← Array.length_toList, hz2, hte.zlen hz]
  have hpos := hte.pos
  have hts := ht.isS hs
  generalize he : ty.elem = e at *
  generalize hsz : te.size = sz at *
  rcases ho2.2 with ⟨_, h⟩ | ⟨g2, c2, cur2, rfl, _, hg2, hnc2, hcm2, hcs2, htk2⟩
  · omega
  have hul2 : us2.length = sz := by have := ho2.1; omega
  have hul : us.length = n * sz := ho0.1
  have hcell2 : ∀ j x, us2[j]? = some x → w.cell? ⟨g2, j, none⟩ = some x := fun j x hx => by
    have := ho2.cells (g := g2) rfl j x hx
    rwa [Addr.add_lit, Nat.zero_add] at this
  have hm63 : n + 1 ≤ maxLen := by unfold maxLen; omega
  by_cases hin : i = n
  · subst hin
    obtain ⟨v', w', hrun, hown', hg, _, hblk⟩ := run_append_own_at (P := P) w 0 t t e ti z sz te.bytes hts hti hz1 htz htb hzs hpos v0 i us ho0 ⟨g2, 0, none⟩ 1 c2 us2 (by omega) (fun j x hx => ho2.cells (g := g2) rfl j x hx) h1v hm63 hb (Nat.zero_le _)
    have hT : us.take (i * sz) ++ us2 ++ us.drop (i * sz) = us ++ us2 := by rw [← hul, List.take_length, List.drop_length, List.append_nil]
    have key : Calls P f #[v0, .int .i64 i, .slice (some ⟨g2, 0, none⟩) 1 c2] w fun ex w2 => ex = .returned v' ∧ w2 = w' := by
      rcases ho0.2 with ⟨rfl, rfl⟩ | ⟨g, c, cur, rfl, _, _, hnc, _⟩
      · exact hR.end0 w g2 c2 v' w' hrun
      · exact hR.end1 w g c g2 c2 i v' w' hnc hrun
    refine key.mono ?_
    rintro ex w2 ⟨rfl, rfl⟩
    refine ⟨v', rfl, by rw [hT]; exact hown', ?_, fun b hb => ?_⟩
    · have := Kept.of_grown hg
      exact this
    · rcases hblk with h | h
      · exact .inl (h ▸ hb)
      · rw [h] at hb
        exact .inr (Nat.le_of_eq (Option.some.inj hb))
  have hlt : i < n := by omega
  rcases ho0.2 with ⟨rfl, rfl⟩ | ⟨g, c, cur, rfl, _, hg, hnc, hcm, hcs, htk⟩
  · omega
  have hcell : ∀ j x, us[j]? = some x → w.cell? ⟨g, j, none⟩ = some x := fun j x hx => by
    have := ho0.cells (g := g) rfl j x hx
    rwa [Addr.add_lit, Nat.zero_add] at this
  have hgl : g < w.heap.size := (Array.getElem?_eq_some_iff.1 hg).1
  have hg2l : g2 < w.heap.size := (Array.getElem?_eq_some_iff.1 hg2).1
  have hne' : g2 ≠ g := fun e => hne g rfl (by rw [e]; rfl)
  have m0 : (n + 1) * sz = i * sz + sz + (n - i) * sz := by rw [← Nat.succ_mul, ← Nat.add_mul]; congr 1; omega
  have m2 : n * sz = i * sz + (n - i) * sz := by rw [← Nat.add_mul]; congr 1; omega
  by_cases hroom : n + 1 ≤ c
  · have hcc : (n + 1) * sz ≤ cur.size := by rw [hcs]; exact Nat.mul_le_mul_right _ hroom
    have hA1 : (insA cur.toList us i sz).toArray.size = cur.size := by simpa using insA_len (cur := cur.toList) hul hi (by simpa using hcc)
    refine (hR.inn w g c g2 c2 n i cur cur2 (insA cur.toList us i sz).toArray (insB cur.toList us us2 i sz).toArray hlt hroom hcm hne' hg hcs hg2
      (fun ty0 dc sc => ins_cp1 (w := w.drew) t e hts hti htz hg hul hi hcc hcell h1c (by omega) (by omega) rfl _ rfl ty0 dc sc)
      (fun ty0 dc => ins_cp2 (w := w.drew.setRow g _) t e hts hti htz (setRow_heap w.drew g cur _ e _ hg) hul2 (by rw [hA1]; omega) (fun j x hx => by
        rw [World.cell?_of_block (w := w) (a := ⟨g2, j, none⟩) (setRow_other w.drew g g2 _ hne')]
        exact hcell2 j x hx) h1v (by omega) ty0 dc c2)).mono ?_
    rintro ex w2 ⟨rfl, rfl⟩
    refine ⟨_, rfl, ins_row (cur := cur.toList) (setRow_heap _ g _ _ e _ (setRow_heap w.drew g cur _ e _ hg)) hul hi hroom hcm (by simpa using hcs) hul2 (by rw [← htk, List.take_take, Nat.min_eq_left (by omega)]), ins_kept w g _ _ rfl, fun b hb => .inl hb⟩
  · have hik : i + (n + 1 - i) = n + 1 := by omega
    have hG := grownCap_ge w (n + 1) c e
    have hGm := grownCap_le_maxLen w (n + 1) c e hm63
    have hrz : ∀ ty0, (Builtin.append_ #[t, it] ty0 #[.slice (some ⟨g, 0, none⟩) i c, .int .i64 ((n : Int) + 1 - i)]).run P w = .ok (.slice (some ⟨w.heap.size, 0, none⟩) (n + 1) (grownCap w (n + 1) c e)) (w.drew.alloc (.cells ((us.take (i * sz)).toArray ++ Builtin.zeroCells z.cells (n + 1 - i) ++ Builtin.zeroCells z.cells (grownCap w (n + 1) c e - (n + 1))) e)) := fun ty0 => by
      have h := Lib.run_append_grow_zeros w t it ty0 e ti z .i64 .i64 hts h3 hti hz1 (some ⟨g, 0, none⟩) i c (us.take (i * sz)) (by
        rw [htz]
        exact run_firstCells (w := w.drew) (by rw [List.length_take]; omega) (fun _ => ⟨_, rfl, fun j x hx => by
          rw [List.getElem?_take] at hx
          split at hx
          · rw [Addr.add_lit, Nat.zero_add]; exact hcell j x hx
          · cases hx⟩)) (n + 1 - i) (by omega) (by omega) (by omega) (by unfold maxLen at hm63; omega) (by
            rw [htb]
            have := Nat.mul_le_mul_right te.bytes (show n + 1 - i ≤ n + 1 by omega)
            omega) (by rw [htb, hik]; exact growslice_fits (by omega) hb)
      rw [hik, show ((n + 1 - i : Nat) : Int) = (n : Int) + 1 - i by omega] at h
      exact h
    generalize grownCap w (n + 1) c e = G at *
    generalize hRR : (us.take (i * sz)).toArray ++ Builtin.zeroCells z.cells (n + 1 - i) ++ Builtin.zeroCells z.cells (G - (n + 1)) = R at *
    have lT : (us.take (i * sz)).length = i * sz := by rw [List.length_take]; omega
    have hRs : R.size = G * sz := by
      rw [← hRR]
      simp only [Array.size_append, size_zeroCells, hzs, List.size_toArray, lT]
      rw [← Nat.add_mul, ← Nat.add_mul]; congr 1; omega
    have hRt : R.toList.take (i * sz) = us.take (i * sz) := by
      rw [← hRR]
      simp only [Array.toList_append, List.append_assoc]
      exact List.take_left' lT
    have hRc : (n + 1) * sz ≤ R.size := by rw [hRs]; exact Nat.mul_le_mul_right _ hG
    have hh0 : (w.alloc (.cells R e)).drew.heap[w.heap.size]? = some (.cells R e (0, 0)) := by show (w.heap.push (.cells R e (0, 0)))[w.heap.size]? = _; simp
    have hother : ∀ b, b < w.heap.size → (w.alloc (.cells R e)).drew.heap[b]? = w.heap[b]? := fun b hb => (Kept.alloc w (.cells R e) (fun _ => False)).block b hb (fun h => h)
    have hAs : (R.toList.take (i * sz) ++ us2 ++ R.toList.drop (i * sz + us2.length)).toArray.size = R.size := by simpa using insC_len (R := R.toList) hul hi (by simpa using hRc) hul2
    refine (hR.grow w g c g2 c2 n i G R _ _ hlt hnc (by omega) hm63 hG hGm hrz
      (fun ty0 dc => ins_cp2 (w := (w.alloc (.cells R e)).drew) (N := w.heap.size) t e hts hti htz hh0 hul2 (by omega) (fun j x hx => by
        rw [World.cell?_of_block (w := w) (a := ⟨g2, j, none⟩) (hother g2 hg2l)]
        exact hcell2 j x hx) h1v (by omega) ty0 dc c2)
      (fun ty0 dc sc => ins_cp1 (w := ((w.alloc (.cells R e)).drew.setRow w.heap.size _).drew) (N := w.heap.size) (g := g) t e hts hti htz (setRow_heap _ _ _ _ e _ hh0) hul hi (by rw [hAs]; exact hRc) (fun j x hx => by
        have e2 : ((w.alloc (.cells R e)).drew.setRow w.heap.size (R.toList.take (i * sz) ++ us2 ++ R.toList.drop (i * sz + us2.length)).toArray).drew.heap[g]? = w.heap[g]? := (setRow_other _ _ g _ (by omega)).trans (hother g hgl)
        rw [World.cell?_of_block (w := w) (a := ⟨g, j, none⟩) e2]
        exact hcell j x hx) h1c (by omega) (by omega) rfl _ rfl ty0 dc sc)).mono ?_
    rintro ex w2 ⟨rfl, rfl⟩
    refine ⟨_, rfl, ins_row2 (R := R.toList) (setRow_heap _ _ _ _ e _ (setRow_heap _ _ _ _ e _ hh0)) hul hi hG hGm (by simpa using hRs) hul2 hRt, ?_, fun b hb => .inr (Nat.le_of_eq (Option.some.inj hb))⟩
    exact ins_kept2 w (.cells R e) _ _ _

theorem underlying_int {t : Nat} {ty : Ty} (ht : TyOk P t ty) {k : IntKind} (hk : ty.ik = some k) : P.underlying t = some (.int k) := by
  obtain ⟨d, hd, _, h⟩ := ht.desc
  rw [hd]
  cases d <;> simp_all
end Go.Proofs.YtcpekllcbimpmaaDoor.L

namespace Go.Proofs.YtcpekllcbimpmaaDoor.L
set_option linter.unusedVariables false
set_option linter.unusedSimpArgs false
open Go
variable {P : Program} {α : Type} {f : α → List T} {l : List α} {i z : Int} {x : α}

/-- The first z elements are nobody's. -/
def jpR (z : Int) (rows : Rws) : Rws := ((rows.take z.toNat).map fun r => r.map fun _ => T.jk) ++ rows.drop z.toNat
def ltO (z : Int) : Option Unit := if z < 9223372036854775807 then some () else none
theorem ltO_t {u : Unit} (h : ltO z = some u) : z < 9223372036854775807 := by unfold ltO at h; split at h; assumption; cases h

theorem jp_0 (rows : Rws) : jpR 0 rows = rows := by simp [jpR]
theorem jp_len (z : Int) (rows : Rws) : (jpR z rows).length = rows.length := by simp [jpR]; omega
theorem jp_ln (z : Int) (l : List α) : Ls.ln (jpR z (rowsOf f l)) = lenI l := ln_eq' (by rw [jp_len, rowsOf_len])
theorem jp_lt (h : getO l i = some x) : Ls.lt i (Ls.ln (jpR z (rowsOf f l))) := by
  rw [jp_ln, ← ln_eq f l]; exact get_lt h
theorem jp_get (h : getO l z = some x) : (jpR z (rowsOf f l))[z.toNat]? = some (f x) := by
  have h1 := rowsOf_at (f := f) (get_pos h).2
  have h2 := get_lt' f h
  have h3 := get_le' h
  have hl : (((rowsOf f l).take z.toNat).map fun r => r.map fun _ => T.jk).length = z.toNat := by rw [List.length_map, List.length_take]; omega
  unfold jpR
  rw [List.getElem?_append_right (by omega), hl, Nat.sub_self, List.getElem?_drop, Nat.add_zero]
  have h4 : (rowsOf f l)[z.toNat]? = some ((rowsOf f l).getD z.toNat []) := by
    rw [List.getD_eq_getElem?_getD, List.getElem?_eq_getElem (by omega)]; rfl
  rw [h4, h1]
theorem jp_ge (h : getO l z = some x) : Ls.ge (jpR z (rowsOf f l)) z = f x := by
  show (jpR z (rowsOf f l)).getD z.toNat [] = f x
  rw [List.getD_eq_getElem?_getD, jp_get h]; rfl
theorem jp_lt' (f : α → List T) (h : getO l z = some x) : z < ((jpR z (rowsOf f l)).length : Int) := jp_lt (f := f) h
theorem jpu_lt {j : Nat} {c : T} (f : α → List T) (h : getO l z = some x) : Ls.lt z (Ls.ln (Ls.up (jpR z (rowsOf f l)) z j [c])) := by
  show z < ((Ls.up (jpR z (rowsOf f l)) z j [c]).length : Int)
  rw [up_len']; exact jp_lt' f h
theorem jpu_ge {j : Nat} {c : T} (f : α → List T) (h : getO l z = some x) : Ls.ge (Ls.up (jpR z (rowsOf f l)) z j [c]) z = (f x).take j ++ [c] ++ (f x).drop (j + 1) := by
  have h2 := jp_lt' f h
  have h3 := get_le' h
  have e : (jpR z (rowsOf f l)).getD z.toNat [] = f x := jp_ge h
  show (List.set _ _ _).getD _ _ = _
  rw [e, List.getD_eq_getElem?_getD, List.getElem?_set_self (by omega)]
  rfl
theorem LLe.jks : ∀ (xs : List T), LLe P xs (xs.map fun _ => T.jk)
  | [] => .nil
  | _ :: xs => LLe.cons .jk (LLe.jks xs)
/-- The next element is taken out. -/
theorem jp_step {u : Unit} {j : Nat} (h : getO l z = some x) (hb : ltO z = some u) (hj : j < (f x).length) : RLe P (Ls.up (jpR z (rowsOf f l)) z j [.jk]) (jpR (Ls.ar .add .i64 z 1) (rowsOf f l)) := by
  have h2 := get_lt' f h
  have h3 := get_le' h
  have h4 := ltO_t hb
  have e : (jpR z (rowsOf f l)).getD z.toNat [] = f x := jp_ge h
  have hg := jp_get (f := f) h
  have hw : Ls.ar .add .i64 z 1 = z + 1 := by show IntKind.i64.wrap (z + 1) = _; rw [IntKind.wrap_i64]; omega
  have h1 := rowsOf_at (f := f) (get_pos h).2
  rw [hw]
  obtain ⟨k, rfl⟩ : ∃ k : Nat, z = k := ⟨z.toNat, by omega⟩
  have hk : k < (rowsOf f l).length := by omega
  have hx : (rowsOf f l)[k]? = some (f x) := by
    rw [List.getD_eq_getElem?_getD, Int.toNat_natCast, List.getElem?_eq_getElem hk, Option.getD_some] at h1
    rw [List.getElem?_eq_getElem hk, h1]
  have hlt : (((rowsOf f l).take k).map fun r => r.map fun _ => T.jk).length = k := by rw [List.length_map, List.length_take]; omega
  show RLe P ((jpR k (rowsOf f l)).set k (((jpR k (rowsOf f l)).getD k []).take j ++ [.jk] ++ ((jpR k (rowsOf f l)).getD k []).drop (j + 1))) (jpR ((k + 1 : Nat) : Int) (rowsOf f l))
  rw [Int.toNat_natCast] at e
  rw [e]
  unfold jpR
  rw [Int.toNat_natCast, Int.toNat_natCast, List.set_append_right _ _ (by omega), hlt, Nat.sub_self, List.drop_eq_getElem_cons hk, List.set_cons_zero, List.take_add_one, hx]
  simp only [Option.toList_some, List.map_append, List.map_cons, List.map_nil, List.append_assoc]
  refine RLe.app RLe.r (RLe.cons ?_ ?_ RLe.r)
  · simp only [List.length_append, List.length_take, List.length_cons, List.length_nil, List.length_drop, List.length_map]; omega
  · have := LLe.jks (P := P) ((f x).take j ++ [.jk] ++ (f x).drop (j + 1))
    have e2 : ((f x).take j ++ [T.jk] ++ (f x).drop (j + 1)).map (fun _ => T.jk) = (f x).map fun _ => T.jk := by
      rw [List.map_const', List.map_const']
      exact congrArg (fun n => List.replicate n T.jk) (by simp only [List.length_append, List.length_take, List.length_cons, List.length_nil, List.length_drop]; omega)
    rw [e2] at this
    simpa using this
theorem cut_srr {lo : Int} {r : List α} (f : α → List T) (h : cutO l lo (lenI l) = some r) : Ls.sr (rowsOf f l) lo (Ls.ln (rowsOf f l)) = rowsOf f r := by rw [ln_eq]; exact cut_sr f h
theorem fr_lit {raw rows : Rws} (h : Ls.fr raw = raw) (le : RLe P raw rows) : LLe P [.im false (Ls.fr raw)] [.im false rows] := by rw [h]; exact LLe.im le
def ci3 (c : Bool) (x y : Int) : Int := if c then x else y
end Go.Proofs.YtcpekllcbimpmaaDoor.L

namespace Go.Proofs.YtcpekllcbimpmaaDoor.L
set_option linter.unusedVariables false
set_option linter.unusedSimpArgs false
open Go
variable {P : Program} {F : Fr} {σ : St} {a : Act} {w : World} {S : Nat → Prop} {G G' : Gh} {φ : Nat → Nat → Prop} {tab : List (Nat × Ty)}

def takeE (tab : List (Nat × Ty)) : Nat → List T → Option (List V × List (Nat × O))
  | _, [] => some ([], [])
  | id, c :: cs => match c with
    | .s v => match takeE tab id cs with
      | some (vs, os) => some (.t (.s v) :: vs, os)
      | none => none
    | .im true r => match takeE tab id cs with
      | some (vs, os) => some (.t (.im true r) :: vs, os)
      | none => none
    | .ow e rows => match getTy tab e with
      | some ty => match takeE tab (id + 256) cs with
        | some (vs, os) => some (.rf id :: vs, os ++ [(id, .row 0 e ty.size rows)])
        | none => none
      | none => none
    | _ => none

theorem takeE_key : ∀ {cs : List T} {id : Nat} {vs : List V} {os : List (Nat × O)}, takeE tab id cs = some (vs, os) → ∀ p ∈ os, id ≤ p.1
  | [], id, vs, os, h, p, hp => by
    simp only [takeE, Option.some.injEq, Prod.mk.injEq] at h
    rw [← h.2] at hp
    simp at hp
  | c :: cs, id, vs, os, h, p, hp => by
    simp only [takeE] at h
    split at h
    · split at h
      · rename_i hrec
        simp only [Option.some.injEq, Prod.mk.injEq] at h
        obtain ⟨rfl, rfl⟩ := h
        exact takeE_key hrec p hp
      · simp at h
    · split at h
      · rename_i hrec
        simp only [Option.some.injEq, Prod.mk.injEq] at h
        obtain ⟨rfl, rfl⟩ := h
        exact takeE_key hrec p hp
      · simp at h
    · split at h
      · split at h
        · rename_i hrec
          simp only [Option.some.injEq, Prod.mk.injEq] at h
          obtain ⟨rfl, rfl⟩ := h
          rcases List.mem_append.1 hp with hp | hp
          · have := takeE_key hrec p hp; omega
          · rw [List.mem_singleton.1 hp]; exact Nat.le_refl _
        · simp at h
      · simp at h
    · simp at h

theorem fresh_cons {nx : Nat} {objs : List (Nat × O)} {k id : Nat} {o : O} (h : freshB nx objs k = true) (hne : k ≠ id) : freshB nx ((id, o) :: objs) k = true := by
  unfold freshB at h ⊢
  have hb : nq k id = false := by
    cases hc : nq k id with
    | false => rfl
    | true => exact absurd (nq_eq hc) hne
  rw [hasKey, hb]
  exact h

theorem takeE_open {nx : Nat} : ∀ {cs : List T} {id : Nat} {objs : List (Nat × O)} {vs : List V} {os : List (Nat × O)}, takeE tab id cs = some (vs, os) → (∀ p ∈ os, freshB nx objs p.1 = true) → ∃ id', openCells tab nx objs id cs = some (vs, os ++ objs, id')
  | [], id, objs, vs, os, h, hf => by
    simp only [takeE, Option.some.injEq, Prod.mk.injEq] at h
    obtain ⟨rfl, rfl⟩ := h
    exact ⟨id, rfl⟩
  | c :: cs, id, objs, vs, os, h, hf => by
    simp only [takeE] at h
    split at h
    · split at h
      · rename_i hrec
        simp only [Option.some.injEq, Prod.mk.injEq] at h
        obtain ⟨rfl, rfl⟩ := h
        obtain ⟨id', e⟩ := takeE_open hrec hf
        exact ⟨id', by simp only [openCells, e]⟩
      · simp at h
    · split at h
      · rename_i hrec
        simp only [Option.some.injEq, Prod.mk.injEq] at h
        obtain ⟨rfl, rfl⟩ := h
        obtain ⟨id', e⟩ := takeE_open hrec hf
        exact ⟨id', by simp only [openCells, e]⟩
      · simp at h
    · rename_i e rows
      split at h
      · rename_i ty hty
        split at h
        · rename_i vs' os' hrec
          simp only [Option.some.injEq, Prod.mk.injEq] at h
          obtain ⟨rfl, rfl⟩ := h
          have hk := takeE_key hrec
          obtain ⟨id', e'⟩ := takeE_open (nx := nx) (objs := (id, .row 0 e ty.size rows) :: objs) hrec (fun p hp => fresh_cons (hf p (List.mem_append_left _ hp)) (by have := hk p hp; omega))
          exact ⟨id', by simp only [openCells, hty, hf (id, _) (List.mem_append_right _ (List.mem_singleton.2 rfl)), e', List.append_assoc, List.singleton_append]⟩
        · simp at h
      · simp at h
    · simp at h

theorem hand_load_take (htab : TabOk P tab) {t : Nat} {ty : Ty} (ht : getTy tab t = some ty) {x : Operand} {id nid ver e sz : Nat} {i : Int} {rows : Rws} {es : List T} {vs : List V} {os os' : List (Nat × O)} {v : V} (hs : ty.size = sz) (hid : nl (id + 1) nid = true) (h0 : Ls.le 0 i) (h1 : Ls.lt i (Ls.ln rows)) (he : Ls.ge rows i = es)
    (hk : takeE tab nid es = some (vs, os)) (hf : fit ty vs = some v) (hos : os' = os ++ [(id, .dead)]) : HandOk P (.load t x) [.pt id i 0] [(id, .row ver e sz rows)] v os' := by
  subst hs hos
  intro F σ a w S G φ hP hr hv ho hfr
  subst hP
  have ho := ho _ (List.mem_singleton.2 rfl)
  obtain ⟨hdom, hsz, hGs, us, hkk, hrs, hown, ψ, hψb, hψ, hcr⟩ := hr.row ho
  simp [Op.operands] at hv
  obtain ⟨u, us1, e1, v1, r1⟩ := hv.uncons
  cases r1
  simp only [List.cons.injEq, and_true] at e1
  have h0 : 0 ≤ i := h0
  have h1 : i < Ls.ln rows := h1
  have hlt : i.toNat < rows.length := by simp only [Ls] at h1; omega
  have hfl := flatten_len rows hrs
  have hul : us.length = rows.length * ty.size := hcr.len.trans hfl
  have hbd : i.toNat * ty.size + ty.size ≤ rows.length * ty.size := by rw [← Nat.succ_mul]; exact Nat.mul_le_mul_right _ hlt
  have hcr' : CR F.P w F.K F.K es ((us.drop (i.toNat * ty.size)).take ty.size) ψ := by
    have h2 := (hcr.drop (i.toNat * ty.size)).take ty.size
    rwa [flatten_at rows i.toNat hrs hlt, ge_eq he] at h2
  have hD := hr.lent (w' := w) (ids := [id]) (by simpa using hdom) (Kept.refl w _)
  have hone : (G.β id).oneCell' = true := by rcases hown.2 with ⟨h, _⟩ | ⟨g, cap, cur, h, _⟩ <;> rw [h] <;> rfl
  have hx : Loose F w S (fun j b => if j ∈ [id] then False else φ j b) ψ := by
    intro b hb
    obtain ⟨a1, a2, a3⟩ := hr.own id b (hψ b hb)
    refine ⟨a1, a2, a3, fun j hj => ?_⟩
    simp only [List.mem_singleton] at hj
    split at hj
    · exact hj
    · rename_i hne
      exact hr.dj j id hne b hj (hψ b hb)
  obtain ⟨G1, φ1, χ1, g1, b1, b2, b3⟩ := back_sound (σ := σ) (objs := σ.objs) (ds := [some id]) (ts := [.jk]) (rest := es) (us := [G.β id]) (us' := (us.drop (i.toNat * ty.size)).take ty.size) (objs' := (id, .dead) :: σ.objs) (by rfl) hD (by simp [idsOf]) ⟨rfl, hdom, trivial⟩ rfl (fun j hj ver e sz rows hro => by
    obtain ⟨_, h1, h2, _⟩ := hr.row hro
    exact ⟨h1, h2⟩) (.jk hone hcr') hx
  have hne : ∀ p ∈ os, p.1 ≠ id := fun p hp => by
    have := takeE_key hk p hp
    have := nl_le hid
    omega
  have hfr' : ∀ p ∈ os, freshB σ.nx ((id, O.dead) :: σ.objs) p.1 = true := fun p hp => by
    rcases hfr p (List.mem_append_left _ hp) with ⟨q, hq, e⟩ | h
    · rw [List.mem_singleton.1 hq] at e; exact absurd e.symm (hne p hp)
    · exact fresh_cons h (hne p hp)
  obtain ⟨id', hop⟩ := takeE_open (nx := σ.nx) hk hfr'
  obtain ⟨G2, φ2, χ2, g2, c1, c2, _, _⟩ := openCells_sound (σ := σ) htab hop b1 (rest := []) (us' := []) hcr'.len (by simpa using b2) b3
  cases v1 with
  | pt hid' hi' hg _ =>
    rename_i g _
    have hrun : (Instr.loadAt t (a.eval x)).run F.P w = .ok (one ty ((us.drop (i.toNat * ty.size)).take ty.size)) w := by
      rw [e1]
      simp only [Instr.loadAt, Instr.sureAddr, Sem.run_bind, Sem.run_pure, Result.andThen_ok]
      refine run_loadVar (htab _ _ ht) (by rw [List.length_take, List.length_drop, hul]; omega) (fun k y hy => ?_)
      rw [List.getElem?_take] at hy
      split at hy
      · rw [List.getElem?_drop] at hy
        rw [hGs]
        exact own_cell hown hg hy
      · cases hy
    refine ⟨_, w, G2, φ2, fun o hop => ?_, by simpa using c1.rel, fit_sound hf c2⟩
    obtain ⟨dst, op, type, pos, after, guard⟩ := o
    simp only at hop
    subst hop
    simp [execOp, hrun]

/-- A literal row, lent. -/
theorem fr_litO {α : Type} {f f' : α → List T} {lit l : List α} {raw : Rws} (h : (some lit : Option (List α)) = some l) (e : raw = rowsOf f lit) (z : Ls.fr (rowsOf f l) = rowsOf f' l) : LLe P [.im false (Ls.fr raw)] [.im false (rowsOf f' l)] := by
  cases h; rw [e, z]; exact LLe.im (RLe.eq rfl)
end Go.Proofs.YtcpekllcbimpmaaDoor.L

namespace Go.Proofs.YtcpekllcbimpmaaDoor.L
set_option linter.unusedVariables false
set_option linter.unusedSimpArgs false
open Go
variable {P : Program} {F : Fr} {σ : St} {a : Act} {w : World} {S : Nat → Prop} {G G' : Gh} {φ : Nat → Nat → Prop} {tab : List (Nat × Ty)}

/-- More blocks may be kept: those of χ, which are no object's any more. -/
theorem Rel0.keep (hr : Rel0 F σ a w S G φ) {χ : Nat → Prop} {φ' : Nat → Nat → Prop} {G' : Gh} {τ : St} (hG : G.le G') (hdom : ∀ i, G'.dom i → G.dom i) (hχ : ∀ b, χ b → ∃ i, φ i b) (hφ : ∀ i b, φ' i b → φ i b ∧ ¬ χ b) (hnx : τ.nx = σ.nx) (hn : τ.n = σ.n) (hk : ∀ i, hasKey σ.objs i = true → hasKey τ.objs i = true)
    (hkd : ∀ i v x, G'.κ i v = some x → G'.dom i ∧ ∀ ver e sz rows, look .dead τ.objs i = .row ver e sz rows → v ≤ ver)
    (henv : ∀ t, VR F.P w (fun b => F.K b ∨ χ b) (fun b => S b ∨ χ b) G' (look .u σ.env t) (a.tmps.getD t undef) → VR F.P w (fun b => F.K b ∨ χ b) (fun b => S b ∨ χ b) G' (look .u τ.env t) (a.tmps.getD t undef))
    (hobj : ∀ i, OR F.P w (fun b => F.K b ∨ χ b) (fun b => S b ∨ χ b) G' (φ' i) i (look .dead τ.objs i)) :
    ∃ K, KLe F K ∧ ∃ S G φ, Rel0 (F.up K) τ a w S G φ := by
  refine ⟨fun b => F.K b ∨ χ b, ⟨fun b h => .inl h, fun b h => h.imp (fun h => h) fun h => ?_⟩, fun b => S b ∨ χ b, G', φ', fun i hi => ?_, hkd, hr.n.trans hn.symm, fun b h => h.imp (hr.KS b) (fun h => h), fun b h => ?_, fun t => henv t (((hr.env t).moreK (fun _ h => .inl h) (fun _ h => .inl h)).move (fun _ _ => rfl) (fun _ _ => rfl) hG), hobj, fun i j hij b h1 h2 => hr.dj i j hij b (hφ i b h1).1 (hφ j b h2).1, fun i b h => ?_, hr.kept, hr.defs, fun i v hi => ⟨hG.dom _ (hr.anc i v hi).1, (hG.β _ (hr.anc i v hi).1).trans (hr.anc i v hi).2⟩⟩
  · obtain ⟨i, hi⟩ := hχ b h; exact (hr.own i b hi).2.2
  · rw [hnx]; exact (hr.nx i (hdom i hi)).imp (fun h => h) (hk i)
  · rcases h with h | h
    · exact hr.Slt b h
    · obtain ⟨i, hi⟩ := hχ b h; exact (hr.own i b hi).1
  · obtain ⟨h1, h2⟩ := hφ i b h
    obtain ⟨p1, p2, p3⟩ := hr.own i b h1
    exact ⟨p1, fun h => h.elim p2 h2, p3⟩

theorem Weak.of_keep {τ : St} (h : ∀ (F' : Fr), F'.P = F.P → F'.anc = F.anc → ∀ a w S G φ, Rel0 F' σ a w S G φ → ∃ K, KLe F' K ∧ ∃ S G φ, Rel0 (F'.up K) τ a w S G φ) : Weak F σ τ := by
  rintro a w ⟨K, hK, S, G, φ, hr⟩
  obtain ⟨K', hK', S', G', φ', hr'⟩ := h (F.up K) rfl rfl a w S G φ hr
  exact ⟨K', hK.trans hK', S', G', φ', hr'⟩

theorem CR.im01 {K S : Nat → Prop} {rows : Rws} {u : Value} (h : CR P w K K [.im false rows] [u] no) : CR P w K S [.im true rows] [u] no := by
  cases h with
  | im0 hn hcc sz hs vs hA hr _ => exact .im1 hn hcc sz hs vs hA hr .nil

/-- An object that is never written again may be kept. -/
theorem Weak.keep {n nx : Nat} {env : List (Nat × V)} {objs : List (Nat × O)} (id : Nat) {ver e sz : Nat} {rows : Rws} (ho : look .dead objs id = .row ver e sz rows) (rows' : Rws) (hrows : Ls.fr rows = rows') :
    Weak F ⟨n, nx, env, objs⟩ ⟨n, nx, frzE id (.im true rows') env, (id, .dead) :: frzO id (.im true rows') objs⟩ := by
  subst hrows
  refine Weak.of_keep fun F _ _ a w S G φ hr => ?_
  have hx : ∀ S', CR F.P w (fun b => F.K b ∨ φ id b) S' [.im true (Ls.fr rows)] [G.β id] no := fun S' => by
    have := ((row_ow hr ho).moreK (K' := fun b => F.K b ∨ φ id b) (fun _ h => .inl h) (S' := fun b => F.K b ∨ φ id b) (fun _ h => .inl h)).lend (S' := fun b => F.K b ∨ φ id b) (fun _ h => h) (fun _ h => h) (fun _ h => .inr h)
    refine CR.im01 ?_
    simpa [fzL, T.fz, Ls] using this
  refine hr.keep (χ := φ id) (φ' := fun i b => if i = id then False else φ i b) (Gh.le.refl G) (fun _ h => h) (fun b h => ⟨id, h⟩) (fun i b h => ?_) rfl rfl (fun i h => (hasKey_cons _ _ _ _).2 (.inr ((look_frzO _ _ _ _).2.trans h))) (fun i v y hy => ⟨(hr.kd i v y hy).1, fun ver' e' sz' r' hl => ?_⟩) (fun t h => ?_) fun i => ?_
  · have h : if i = id then False else φ i b := h
    split at h
    · exact h.elim
    · rename_i hne
      exact ⟨h, fun h' => hr.dj i id hne b h h'⟩
  · rw [look_cons] at hl
    split at hl
    · cases hl
    · rw [(look_frzO _ _ _ _).1] at hl
      cases hq : look .dead objs i with
      | box e2 cs => rw [hq] at hl; cases hl
      | dead => rw [hq] at hl; cases hl
      | row v1 e1 s1 r1 =>
        rw [hq] at hl
        simp only [O.row.injEq] at hl
        have := (hr.kd i v y hy).2 _ _ _ _ hq
        omega
  · show VR F.P w _ _ G (look .u (frzE id (.im true (Ls.fr rows)) env) t) _
    rw [look_frzE]
    have := frz_sound (fun _ h => h) (hx _) h
    simpa [frzL] using this
  · have key : ∀ k : Nat, OR F.P w (fun b => F.K b ∨ φ id b) (fun b => S b ∨ φ id b) G (fun b => if k = id then False else φ k b) k (look .dead ((id, .dead) :: frzO id (.im true (Ls.fr rows)) objs) k) := by
      intro k
      rw [look_cons]
      by_cases hk : k = id
      · rw [if_pos hk]; trivial
      · rw [if_neg hk, (look_frzO _ _ _ _).1]
        have e : (fun b => if k = id then False else φ k b) = φ k := by funext b; rw [if_neg hk]
        rw [e]
        have hok : OR F.P w (fun b => F.K b ∨ φ id b) (fun b => S b ∨ φ id b) G (φ k) k (look .dead objs k) := (hr.obj k).moreK (fun _ h => .inl h) (fun _ h => .inl h)
        cases hq : look .dead objs k with
        | dead => trivial
        | row v1 e1 s1 r1 => rw [hq] at hok; exact hok
        | box e1 cs =>
          rw [hq] at hok
          obtain ⟨h1, g, us, h2, h3, h4, h5⟩ := hok
          exact ⟨h1, g, us, h2, h3, h4, frz_sound (fun _ h => h) (hx _) h5⟩
    exact key i

theorem keep_part (hr : Rel0 F σ a w S G φ) {id ver e sz : Nat} {rows : Rws} (ho : look .dead σ.objs id = .row ver e sz rows) {lo hi : Int} {u : Value} {K' S' S2 : Nat → Prop} (hK : Sub F.K K') (hφ : Sub (φ id) K') (hv : VR F.P w K' S2 G (.sb id lo hi) u) : CR F.P w K' S' [.im true (Ls.sr (Ls.fr rows) lo hi)] [u] no := by
  obtain ⟨hid, hsz, hGs, us, hk, hrs, hown, ψ, hψb, hψ, hcr⟩ := hr.row ho
  cases hv with
  | @sb _ _ _ A n c _ _ _ h0 h1 hn hm hc hA hb _ =>
    obtain ⟨A0, m, cp, hβ, hhm, hcp, hA0⟩ := hb
    have hmr : m = rows.length := by
      rcases hown.2 with ⟨h, hn⟩ | ⟨g, cap, cur, h, _, _, hnc, _⟩
      · rw [hβ] at h; cases h; exact hn.symm
      · rw [hβ] at h; cases h; rfl
    have hcr' : CR F.P w K' K' (fzL rows.flatten) us no := ((hcr.moreK hK (S' := K') hK)).lend (fun _ h => h) (fun _ h => h) (fun b h => hφ b (hψ b h))
    have hrs' : ∀ r ∈ fzR rows, r.length = sz := by
      rw [fzR_map]
      intro r hr
      obtain ⟨q, hq, rfl⟩ := List.mem_map.1 hr
      rw [fzL_len]; exact hrs q hq
    have hl : (Ls.sr (fzR rows) lo hi).length = n := by
      show (((fzR rows).take hi.toNat).drop lo.toNat).length = n
      rw [List.length_drop, List.length_take, fzR_len]; omega
    have hflat : (Ls.sr (fzR rows) lo hi).flatten = ((fzL rows.flatten).take (hi.toNat * sz)).drop (lo.toNat * sz) := by
      show (((fzR rows).take hi.toNat).drop lo.toNat).flatten = _
      rw [drop_flatten _ _ (fun r h => hrs' r (List.mem_of_mem_take h)), take_flatten _ _ hrs', fzR_flatten]
    refine .im1 hl.symm hc sz (fun r h => hrs' r (List.mem_of_mem_take (List.mem_of_mem_drop h))) ((us.take (hi.toNat * sz)).drop (lo.toNat * sz)) (fun hp => ?_) ?_ .nil
    · obtain ⟨g, hg, rfl⟩ := hA (by omega)
      refine ⟨g, _, rfl, hφ _ ?_, fun j y hy => ?_⟩
      · refine (hψb g ?_).1
        rw [hβ] at hg ⊢
        cases A0 with
        | none => simp [blk] at hg
        | some d => simpa [blk, Value.ownBlock] using hg
      · rw [hGs]
        rw [List.getElem?_drop, List.getElem?_take] at hy
        split at hy
        · exact own_cell hown hg hy
        · cases hy
    · show CR F.P w K' K' (Ls.sr (fzR rows) lo hi).flatten _ no
      rw [hflat]
      exact (hcr'.take _).drop _

/-- A part of a row, in a variable's block, told as what may be kept; the row is gone. -/
theorem Weak.keepB {n nx : Nat} {env : List (Nat × V)} {objs : List (Nat × O)} (b id : Nat) {ver e sz eb : Nat} {rows : Rws} {l r : List V} {lo hi : Int} (hb : look .dead objs b = .box eb (l ++ .sb id lo hi :: r)) (ho : look .dead objs id = .row ver e sz rows) (rows' : Rws) (hrows : Ls.sr (Ls.fr rows) lo hi = rows') :
    Weak F ⟨n, nx, env, objs⟩ ⟨n, nx, env, (b, .box eb (l ++ .t (.im true rows') :: r)) :: (id, .dead) :: objs⟩ := by
  subst hrows
  refine Weak.of_keep fun F _ _ a w S G φ hr => ?_
  have hne : b ≠ id := by rintro rfl; rw [ho] at hb; cases hb
  refine hr.keep (χ := φ id) (φ' := fun i b => if i = id then False else φ i b) (Gh.le.refl G) (fun _ h => h) (fun b h => ⟨id, h⟩) (fun i b h => ?_) rfl rfl (fun i h => (hasKey_cons _ _ _ _).2 (.inr ((hasKey_cons _ _ _ _).2 (.inr h)))) (fun i v y hy => ⟨(hr.kd i v y hy).1, fun ver' e' sz' r' hl => ?_⟩) (fun t h => h) fun i => ?_
  · have h : if i = id then False else φ i b := h
    split at h
    · exact h.elim
    · rename_i hne
      exact ⟨h, fun h' => hr.dj i id hne b h h'⟩
  · rw [look_cons, look_cons] at hl
    split at hl
    · cases hl
    · split at hl
      · cases hl
      · exact (hr.kd i v y hy).2 _ _ _ _ hl
  · have key : ∀ k : Nat, OR F.P w (fun b => F.K b ∨ φ id b) (fun b => S b ∨ φ id b) G (fun b => if k = id then False else φ k b) k (look .dead ((b, .box eb (l ++ .t (.im true (Ls.sr (Ls.fr rows) lo hi)) :: r)) :: (id, .dead) :: objs) k) := by
      intro k
      rw [look_cons, look_cons]
      by_cases hkb : k = b
      · subst hkb
        rw [if_pos rfl]
        have e : (fun x => if k = id then False else φ k x) = φ k := by funext x; rw [if_neg hne]
        rw [e]
        have hok : OR F.P w (fun b => F.K b ∨ φ id b) (fun b => S b ∨ φ id b) G (φ k) k (look .dead objs k) := (hr.obj k).moreK (fun _ h => .inl h) (fun _ h => .inl h)
        rw [hb] at hok
        obtain ⟨h1, g, us, h2, h3, h4, h5⟩ := hok
        refine ⟨h1, g, us, h2, h3, h4, ?_⟩
        obtain ⟨ua, ub, rfl, h6, h7⟩ := h5.unappend
        obtain ⟨u, us', rfl, h8, h9⟩ := h7.uncons
        exact h6.append (.cons (.t (keep_part hr ho (fun _ h => .inl h) (fun _ h => .inr h) h8) .nil) h9)
      · rw [if_neg hkb]
        by_cases hk : k = id
        · rw [if_pos hk]; trivial
        · rw [if_neg hk]
          have e : (fun b => if k = id then False else φ k b) = φ k := by funext b; rw [if_neg hk]
          rw [e]
          exact (hr.obj k).moreK (fun _ h => .inl h) (fun _ h => .inl h)
    exact key i

/-- The same, in a temporary. -/
theorem Weak.keepT {n nx : Nat} {env : List (Nat × V)} {objs : List (Nat × O)} (t id : Nat) {ver e sz : Nat} {rows : Rws} {lo hi : Int} (hb : look .u env t = .sb id lo hi) (ho : look .dead objs id = .row ver e sz rows) (rows' : Rws) (hrows : Ls.sr (Ls.fr rows) lo hi = rows') :
    Weak F ⟨n, nx, env, objs⟩ ⟨n, nx, (t, .t (.im true rows')) :: env, (id, .dead) :: objs⟩ := by
  subst hrows
  refine Weak.of_keep fun F _ _ a w S G φ hr => ?_
  refine hr.keep (χ := φ id) (φ' := fun i b => if i = id then False else φ i b) (Gh.le.refl G) (fun _ h => h) (fun b h => ⟨id, h⟩) (fun i b h => ?_) rfl rfl (fun i h => (hasKey_cons _ _ _ _).2 (.inr h)) (fun i v y hy => ⟨(hr.kd i v y hy).1, fun ver' e' sz' r' hl => ?_⟩) (fun t' h => ?_) fun i => ?_
  · have h : if i = id then False else φ i b := h
    split at h
    · exact h.elim
    · rename_i hne
      exact ⟨h, fun h' => hr.dj i id hne b h h'⟩
  · rw [look_cons] at hl
    split at hl
    · cases hl
    · exact (hr.kd i v y hy).2 _ _ _ _ hl
  · show VR F.P w _ _ G (look .u ((t, .t (.im true (Ls.sr (Ls.fr rows) lo hi))) :: env) t') _
    rw [look_cons]
    split
    · rename_i e
      subst e
      have h : VR F.P w (fun b => F.K b ∨ φ id b) (fun b => S b ∨ φ id b) G (look .u env t') (a.tmps.getD t' undef) := h
      rw [hb] at h
      exact .t (keep_part hr ho (fun _ h => .inl h) (fun _ h => .inr h) h) .nil
    · exact h
  · have key : ∀ k : Nat, OR F.P w (fun b => F.K b ∨ φ id b) (fun b => S b ∨ φ id b) G (fun b => if k = id then False else φ k b) k (look .dead ((id, .dead) :: objs) k) := by
      intro k
      rw [look_cons]
      by_cases hk : k = id
      · rw [if_pos hk]; trivial
      · rw [if_neg hk]
        have e : (fun b => if k = id then False else φ k b) = φ k := by funext b; rw [if_neg hk]
        rw [e]
        exact (hr.obj k).moreK (fun _ h => .inl h) (fun _ h => .inl h)
    exact key i

/-! ### rows whose elements' cells may be kept -/
def kpT : T → T
  | .ow _ rows => .im true (fzR rows)
  | .bx _ _ => .jk
  | t => t
def kpL (ts : List T) : List T := ts.map kpT
def kpR (rows : Rws) : Rws := rows.map kpL

theorem CR.kp {K S : Nat → Prop} {ts us φ'} (h : CR P w K S ts us φ') : ∀ {K' S' : Nat → Prop}, Sub K K' → Sub φ' K' → Sub S S' → CR P w K' S' (kpL ts) us no := by
  induction h with
  | nil => intro K' S' _ _ _; exact .nil
  | s h1 _ ih => intro K' S' a b c; exact .s h1 (ih a b c)
  | jk h1 _ ih => intro K' S' a b c; exact .jk h1 (ih a b c)
  | er _ ih => intro K' S' a b c; exact .er (ih a b c)
  | im0 hn hc sz hss vs hA hr _ _ ih => intro K' S' a b c; exact .im0 hn hc sz hss vs (fun hp => let ⟨x, o, e, hb, hx⟩ := hA hp; ⟨x, o, e, c x hb, hx⟩) (hr.moreK a c) (ih a b c)
  | im1 hn hc sz hss vs hA hr _ _ ih => intro K' S' a b c; exact .im1 hn hc sz hss vs (fun hp => let ⟨x, o, e, hb, hx⟩ := hA hp; ⟨x, o, e, a x hb, hx⟩) (hr.moreK a a) (ih a b c)
  | ow hs vs ho ψ hb hψ hr h hd h1 h2 _ ih =>
    intro K' S' a b c
    have h0 := (CR.ow (φ2 := no) hs vs ho ψ hb hψ hr (.nil (S := K')) (fun _ _ h => h.elim) (fun _ h => h) (fun _ h => h.elim) : CR P w K K' [.ow _ _] [_] _)
    have h3 := CR.im01 (S := S') (by simpa [fzL, T.fz] using (h0.moreK a (fun _ h => h)).lend (S' := K') (fun _ h => h) (fun _ h => h) (fun x hx => b x (h1 x hx)))
    exact CR.join (a := [.im true _]) (u1 := [_]) h3 (ih a (fun x hx => b x (h2 x hx)) c) (fun _ h => h.elim) (fun _ h => h) (fun _ h => h)
  | ip vs hS hA hr _ _ ih => intro K' S' a b c; exact .ip vs (fun hp => c _ (hS hp)) hA (hr.moreK a c) (ih a b c)
  | bx vs hg ψ hb hψ hr h hd h1 h2 _ ih => intro K' S' a b c; exact .jk rfl (ih a (fun x hx => b x (h2 x hx)) c)
  | fn vs hr _ _ ih => intro K' S' a b c; exact .fn vs (hr.moreK a c) (ih a b c)

/-- What an object's elements own may be kept; the object itself is as it was. -/
theorem Weak.deep {n nx : Nat} {env : List (Nat × V)} {objs : List (Nat × O)} (id : Nat) {ver e sz : Nat} {rows : Rws} (ho : look .dead objs id = .row ver e sz rows) (rows' : Rws) (hrows : kpR rows = rows') :
    Weak F ⟨n, nx, env, objs⟩ ⟨n, nx, env, (id, .row (ver + 1) e sz rows') :: objs⟩ := by
  subst hrows
  refine Weak.of_keep fun F _ _ a w S G φ hr => ?_
  obtain ⟨hid, hsz, hGs, us, hk, hrs, hown, ψ, hψb, hψ, hcr⟩ := hr.row ho
  have hno : G.κ id (ver + 1) = none := by
    cases hk : G.κ id (ver + 1) with
    | none => rfl
    | some x => have := (hr.kd id (ver + 1) x hk).2 _ _ _ _ ho; omega
  refine hr.keep (χ := ψ) (φ' := fun i b => if i = id then (G.β id).ownBlock = some b else φ i b) (G' := G.ver id (ver + 1) (kpR rows, us)) (Gh.le_ver hno) (fun _ h => h) (fun b h => ⟨id, hψ b h⟩) (fun i b h => ?_) rfl rfl (fun i h => (hasKey_cons _ _ _ _).2 (.inr h)) (fun i v y hy => ?_) (fun t h => h) fun i => ?_
  · have h : if i = id then (G.β id).ownBlock = some b else φ i b := h
    split at h
    · rename_i e; subst e; exact hψb b h
    · rename_i hne
      exact ⟨h, fun h' => hr.dj i id hne b h (hψ b h')⟩
  · simp only [Gh.ver] at hy
    split at hy
    · rename_i he
      refine ⟨by show G.dom i; rw [he.1]; exact hid, fun ver' e' sz' r' hl => ?_⟩
      rw [look_cons, if_pos he.1] at hl
      simp only [O.row.injEq] at hl
      omega
    · obtain ⟨k1, k2⟩ := hr.kd i v y hy
      refine ⟨k1, fun ver' e' sz' r' hl => ?_⟩
      rw [look_cons] at hl
      split at hl
      · rename_i e
        subst e
        simp only [O.row.injEq] at hl
        have := k2 _ _ _ _ ho
        omega
      · exact k2 _ _ _ _ hl
  · have key : ∀ k : Nat, OR F.P w (fun b => F.K b ∨ ψ b) (fun b => S b ∨ ψ b) (G.ver id (ver + 1) (kpR rows, us)) (fun b => if k = id then (G.β id).ownBlock = some b else φ k b) k (look .dead ((id, .row (ver + 1) e sz (kpR rows)) :: objs) k) := by
      intro k
      rw [look_cons]
      by_cases hk : k = id
      · subst hk
        rw [if_pos rfl]
        refine ⟨hid, hsz, hGs, us, by simp [Gh.ver], fun r h => ?_, ?_, no, fun b hb => ⟨by show if k = k then (G.β k).ownBlock = some b else φ k b; rw [if_pos rfl]; exact hb, fun h => h⟩, fun _ h => h.elim, ?_⟩
        · obtain ⟨q, hq, rfl⟩ := List.mem_map.1 h
          rw [kpL, List.length_map]; exact hrs q hq
        · show w.ownsRow 0 e sz (G.β k) (kpR rows).length us
          rw [kpR, List.length_map]; exact hown
        · have := hcr.kp (K' := fun b => F.K b ∨ ψ b) (S' := fun b => F.K b ∨ ψ b) (fun _ h => .inl h) (fun _ h => .inr h) (fun _ h => .inl h)
          rw [show (kpR rows).flatten = kpL rows.flatten by rw [kpR, kpL, List.map_flatten]; rfl]
          exact this
      · rw [if_neg hk]
        have e : (fun b => if k = id then (G.β id).ownBlock = some b else φ k b) = φ k := by funext b; rw [if_neg hk]
        rw [e]
        exact ((hr.obj k).moreK (fun _ h => .inl h) (fun _ h => .inl h)).move (fun _ _ => rfl) (fun _ _ => rfl) (fun _ _ => rfl) (Gh.le_ver hno)
    exact key i

theorem bo_cf {c x : Bool} (h : c = false) : bo3 c x false = false := by subst h; rfl
theorem bo_xf {c x : Bool} (h : x = false) : bo3 c x false = false := by subst h; cases c <;> rfl
theorem kp_row {α : Type} {f g : α → List T} (h : ∀ x, kpL (f x) = g x) (l : List α) : kpR (rowsOf f l) = rowsOf g l := by
  rw [kpR, rowsOf, rowsOf, List.map_map]
  exact List.map_congr_left fun x _ => h x
end Go.Proofs.YtcpekllcbimpmaaDoor.L
