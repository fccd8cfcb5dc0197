/- slices.Insert, slices.Delete: what they compute. -/
import Derived.Test.YtcpekllcbimpmaaGreatDoorFnTextLib5
import Derived.Lib.AppendZerosOnto
import Derived.Lib.Overlaps
import Derived.WalkKit
import Derived.Shelf.RegionOpenPlain
import Derived.Lib.Walk
import Derived.Laws.Externs
namespace Go.Proofs.YtcpekllcbimpmaaGreatDoor.L
set_option linter.unusedVariables false
set_option linter.unusedSimpArgs false
open Go
def insO {α : Type} (b : Nat) (l : List α) (i : Int) (m : List α) : Option (List α) := if m.length = 1 ∧ 0 ≤ i ∧ i ≤ l.length ∧ ((l.length : Int) + m.length) * b ≤ 140737488355328 ∧ (l.length : Int) + m.length ≤ 140737488355328 then some (l.take i.toNat ++ m ++ l.drop i.toNat) else none
def delO {α : Type} (l : List α) (i j : Int) : Option (List α) := if 0 ≤ i ∧ i ≤ j ∧ j ≤ l.length then some (l.take i.toNat ++ l.drop j.toNat) else none
end Go.Proofs.YtcpekllcbimpmaaGreatDoor.L
namespace Go.Proofs.YtcpekllcbimpmaaGreatDoor.L
set_option linter.unusedVariables false
set_option linter.unusedSimpArgs false
open Go
variable {F : Fr} {σ : St} {a : Act} {w : World} {S : Nat → Prop} {G G' : Gh} {φ : Nat → Nat → Prop} {tab : List (Nat × Ty)}
theorem qrF {P : Program} {sz m c : Nat} {A : Option Addr} {us : List Value} {k : Nat} (hul : us.length = k * sz) (hA : 0 < k → ∃ ad, A = some ad ∧ ∀ j x, us[j]? = some x → w.cell? (ad.add j) = some x) : (Builtin.firstCells sz k (.slice A m c)).run P w = .ok us.toArray w := by
 cases A with
 | none =>
  have hm : k = 0 := by
   rcases Nat.eq_zero_or_pos k with h | h
   · exact h
   obtain ⟨ad, h, _⟩ := hA h; cases h
  subst hm
  have : us = [] := List.eq_nil_of_length_eq_zero (by simpa using hul)
  subst this
  simp [Builtin.firstCells]
 | some ad =>
  rcases Nat.eq_zero_or_pos k with h | h
  ·
   subst h
   have : us = [] := List.eq_nil_of_length_eq_zero (by simpa using hul)
   subst this
   simp [Builtin.firstCells, loadCells, loadCellsFrom]
  obtain ⟨ad', e1, e2⟩ := hA h
  cases e1
  have := run_loadCells_list (P := P) w ad us e2
  simp only [Builtin.firstCells, ← hul]
  exact this
theorem qRI {P : Program} (t t' e : TypeId) {i : TypeInfo} {sz : Nat} (ht : P.underlying t = some (.slice e)) (hi : P.info? e = some i) (hsz : i.size = sz) {g o dl dc : Nat} {cur : Array Value} (hh : w.heap[g]? = some (.cells cur e (0, 0))) {A : Option Addr} {m c k : Nat} {us : List Value} (hk : Nat.min m dl = k) (hul : us.length = k * sz)
  (hA : 0 < k → ∃ ad, A = some ad ∧ ∀ j x, us[j]? = some x → w.cell? (ad.add j) = some x) (hb : o + us.length ≤ cur.size) (h1 : ∀ x ∈ us, x.oneCell' = true) (ty0 : TypeId) :
  (Builtin.copy_ #[t, t'] ty0 #[.slice (some ⟨g, o, none⟩) dl dc, .slice A m c]).run P w = .ok (goInt k) (w.setRow g (cur.toList.take o ++ us ++ cur.toList.drop (o + us.length)).toArray) := by
 have hst := run_storeCells_at P g o e us 0 cur w hh (by simpa using hb) h1
 have hl := qrF (P := P) (w := w) (m := m) (c := c) hul hA
 simp [Builtin.copy_, run_underlying ht, sizeOf, typeInfo, hi, hsz, Builtin.lenOf, hk, hl, hst]
end Go.Proofs.YtcpekllcbimpmaaGreatDoor.L
namespace Go.Proofs.YtcpekllcbimpmaaGreatDoor.L
set_option linter.unusedVariables false
set_option linter.unusedSimpArgs false
open Go
variable {P : Program} {F : Fr} {σ : St} {a : Act} {w : World} {S : Nat → Prop} {G G' : Gh} {φ : Nat → Nat → Prop} {tab : List (Nat × Ty)}
end Go.Proofs.YtcpekllcbimpmaaGreatDoor.L
namespace Go.Proofs.YtcpekllcbimpmaaGreatDoor.L
set_option linter.unusedVariables false
set_option linter.unusedSimpArgs false
open Go
variable {P : Program} {F : Fr} {σ : St} {a : Act} {w : World} {S : Nat → Prop} {G G' : Gh} {φ : Nat → Nat → Prop} {tab : List (Nat × Ty)}
def delR (rows : Rws) (i j h sz : Nat) : Rws := rows.take i ++ ((rows.take h).drop j ++ List.replicate (rows.length - i - (h - j)) (List.replicate sz .jk))
end Go.Proofs.YtcpekllcbimpmaaGreatDoor.L
namespace Go.Proofs.YtcpekllcbimpmaaGreatDoor.L
set_option linter.unusedVariables false
set_option linter.unusedSimpArgs false
open Go
variable {P : Program} {F : Fr} {σ : St} {a : Act} {w : World} {S : Nat → Prop} {G G' : Gh} {φ : Nat → Nat → Prop} {tab : List (Nat × Ty)}
end Go.Proofs.YtcpekllcbimpmaaGreatDoor.L
namespace Go.Proofs.YtcpekllcbimpmaaGreatDoor.L
set_option linter.unusedVariables false
set_option linter.unusedSimpArgs false
open Go
variable {P : Program} {F : Fr} {σ : St} {a : Act} {w : World} {S : Nat → Prop} {G G' : Gh} {φ : Nat → Nat → Prop} {tab : List (Nat × Ty)}
end Go.Proofs.YtcpekllcbimpmaaGreatDoor.L
namespace Go.Proofs.YtcpekllcbimpmaaGreatDoor.L
set_option linter.unusedVariables false
set_option linter.unusedSimpArgs false
open Go
variable {F : Fr} {w : World} {S : Nat → Prop} {G G' : Gh} {φ : Nat → Nat → Prop}
end Go.Proofs.YtcpekllcbimpmaaGreatDoor.L
namespace Go.Proofs.YtcpekllcbimpmaaGreatDoor.L
set_option linter.unusedVariables false
set_option linter.unusedSimpArgs false
open Go
variable {P : Program} {F : Fr} {σ : St} {a : Act} {w : World} {S : Nat → Prop} {G G' : Gh} {φ : Nat → Nat → Prop} {tab : List (Nat × Ty)}
end Go.Proofs.YtcpekllcbimpmaaGreatDoor.L
namespace Go.Proofs.YtcpekllcbimpmaaGreatDoor.L
set_option linter.unusedVariables false
set_option linter.unusedSimpArgs false
open Go
variable {P : Program} {F : Fr} {σ : St} {a : Act} {w : World} {S : Nat → Prop} {G G' : Gh} {φ : Nat → Nat → Prop} {tab : List (Nat × Ty)}
end Go.Proofs.YtcpekllcbimpmaaGreatDoor.L
namespace Go.Proofs.YtcpekllcbimpmaaGreatDoor.L
set_option linter.unusedVariables false
set_option linter.unusedSimpArgs false
open Go
variable {P : Program} {w : World}
def InsRaw (P : Program) (f : FuncId) (e sz bt : Nat) : Prop :=
 ∀ (w : World) (v0 v2 : Value) (n i : Nat) (us us2 : List Value), i ≤ n → (n + 1) * bt ≤ 140737488355328 → n + 1 ≤ 140737488355328 → w.ownsRow 0 e sz v0 n us → w.ownsRow 0 e sz v2 1 us2 → (∀ b, v0.ownBlock = some b → v2.ownBlock ≠ some b) →
  (∀ u ∈ us, u.oneCell' = true) → (∀ u ∈ us2, u.oneCell' = true) →
  Calls P f #[v0, .int .i64 i, v2] w fun ex w' => ∃ v', ex = .returned v' ∧ w'.ownsRow 0 e sz v' (n + 1) (us.take (i * sz) ++ us2 ++ us.drop (i * sz)) ∧ Kept w w' (fun b => v0.ownBlock = some b) ∧ ∀ b, v'.ownBlock = some b → v0.ownBlock = some b ∨ w.heap.size ≤ b
def insA (cur us : List Value) (i sz : Nat) : List Value := cur.take ((i + 1) * sz) ++ us.drop (i * sz) ++ cur.drop ((i + 1) * sz + (us.drop (i * sz)).length)
def insB (cur us us2 : List Value) (i sz : Nat) : List Value := (insA cur us i sz).take (i * sz) ++ us2 ++ (insA cur us i sz).drop (i * sz + us2.length)
theorem qPK {cur us : List Value} {i n sz : Nat} (hul : us.length = n * sz) (hi : i ≤ n) (hc : (n + 1) * sz ≤ cur.length) : (insA cur us i sz).length = cur.length := by
 have m1 : (n + 1) * sz = (i + 1) * sz + (n - i) * sz := by rw [← Nat.add_mul]; congr 1; omega
 have m2 : n * sz = i * sz + (n - i) * sz := by rw [← Nat.add_mul]; congr 1; omega
 simp only [insA, List.length_append, List.length_take, List.length_drop, hul]
 omega
theorem qZO {cur us us2 : List Value} {i n sz : Nat} (hul : us.length = n * sz) (hi : i ≤ n) (hc : (n + 1) * sz ≤ cur.length) (h2 : us2.length = sz) : (insB cur us us2 i sz).length = cur.length := by
 have hA := qPK hul hi hc
 have m1 : (n + 1) * sz = i * sz + (n + 1 - i) * sz := by rw [← Nat.add_mul]; congr 1; omega
 have m3 : (n + 1) * sz = (i + 1) * sz + (n - i) * sz := by rw [← Nat.add_mul]; congr 1; omega
 have m4 : (i + 1) * sz = i * sz + sz := Nat.succ_mul i sz
 simp only [insB, List.length_append, List.length_take, List.length_drop, hA, h2]
 omega
theorem qsL {cur us us2 : List Value} {i n sz : Nat} (hul : us.length = n * sz) (hi : i ≤ n) (hc : (n + 1) * sz ≤ cur.length) (h2 : us2.length = sz) (ht : cur.take (i * sz) = us.take (i * sz)) : (insB cur us us2 i sz).take ((n + 1) * sz) = us.take (i * sz) ++ us2 ++ us.drop (i * sz) := by
 have m3 : (n + 1) * sz = (i + 1) * sz + (n - i) * sz := by rw [← Nat.add_mul]; congr 1; omega
 have m2 : n * sz = i * sz + (n - i) * sz := by rw [← Nat.add_mul]; congr 1; omega
 have m4 : (i + 1) * sz = i * sz + sz := Nat.succ_mul i sz
 have lT : (cur.take ((i + 1) * sz)).length = (i + 1) * sz := by rw [List.length_take]; omega
 have lD : (us.drop (i * sz)).length = (n - i) * sz := by rw [List.length_drop]; omega
 have eA : (insA cur us i sz).take (i * sz) = us.take (i * sz) := by
  unfold insA
  rw [List.append_assoc, List.take_append_of_le_length (by omega), List.take_take, Nat.min_eq_left (by omega), ht]
 have eB : (insA cur us i sz).drop (i * sz + us2.length) = us.drop (i * sz) ++ cur.drop ((i + 1) * sz + (us.drop (i * sz)).length) := by
  unfold insA
  rw [List.append_assoc, List.drop_left' (by rw [lT, h2]; omega)]
 have lt : (us.take (i * sz)).length = i * sz := by rw [List.length_take]; omega
 unfold insB
 rw [eA, eB, ← List.append_assoc, List.take_left']
 simp only [List.length_append, lt, lD, h2]
 omega
theorem qNQ (t e : TypeId) {ti : TypeInfo} {sz : Nat} (ht : P.underlying t = some (.slice e)) (hti : P.info? e = some ti) (hsz : ti.size = sz) {N g o n i k1 k2 : Nat} {cur : Array Value} {us : List Value} (hh : w.heap[N]? = some (.cells cur e (0, 0))) (hul : us.length = n * sz) (hi : i ≤ n) (hc : (n + 1) * sz ≤ cur.size)
  (hA : ∀ j x, us[j]? = some x → w.cell? ⟨g, j, none⟩ = some x) (h1 : ∀ x ∈ us, x.oneCell' = true) (hk1 : k1 = n - i) (hk2 : n - i ≤ k2) (ho : o = i * sz) (o' : Nat) (ho' : o' = (i + 1) * sz) (ty0 : TypeId) (dc sc : Nat) :
  (Builtin.copy_ #[t, t] ty0 #[.slice (some ⟨N, o', none⟩) k1 dc, .slice (some ⟨g, o, none⟩) k2 sc]).run P w = .ok (goInt (n - i : Nat)) (w.setRow N (insA cur.toList us i sz).toArray) := by
 subst ho ho' hk1
 have m2 : n * sz = i * sz + (n - i) * sz := by rw [← Nat.add_mul]; congr 1; omega
 have m3 : (n + 1) * sz = (i + 1) * sz + (n - i) * sz := by rw [← Nat.add_mul]; congr 1; omega
 have lD : (us.drop (i * sz)).length = (n - i) * sz := by rw [List.length_drop]; omega
 have := qRI (P := P) (w := w) t t e ht hti hsz (g := N) (o := (i + 1) * sz) (dl := n - i) (dc := dc) hh (A := some ⟨g, i * sz, none⟩) (m := k2) (c := sc) (k := n - i) (us := us.drop (i * sz)) (Nat.min_eq_right hk2) lD (fun _ => ⟨_, rfl, fun j x hx => by
  rw [List.getElem?_drop] at hx
  rw [Addr.add_lit]
  exact hA _ _ hx⟩) (by rw [lD]; omega) (fun x hx => h1 x (List.mem_of_mem_drop hx)) ty0
 rw [this]; rfl
theorem qOQ (t e : TypeId) {ti : TypeInfo} {sz : Nat} (ht : P.underlying t = some (.slice e)) (hti : P.info? e = some ti) (hsz : ti.size = sz) {N g o k1 : Nat} {cur : Array Value} {us2 : List Value} (hh : w.heap[N]? = some (.cells cur e (0, 0))) (h2 : us2.length = sz) (hc : o + sz ≤ cur.size)
  (hA : ∀ j x, us2[j]? = some x → w.cell? ⟨g, j, none⟩ = some x) (h1 : ∀ x ∈ us2, x.oneCell' = true) (hk1 : 1 ≤ k1) (ty0 : TypeId) (dc sc : Nat) :
  (Builtin.copy_ #[t, t] ty0 #[.slice (some ⟨N, o, none⟩) k1 dc, .slice (some ⟨g, 0, none⟩) 1 sc]).run P w = .ok (goInt (1 : Nat)) (w.setRow N (cur.toList.take o ++ us2 ++ cur.toList.drop (o + us2.length)).toArray) := by
 exact qRI (P := P) (w := w) t t e ht hti hsz (g := N) (o := o) (dl := k1) (dc := dc) hh (A := some ⟨g, 0, none⟩) (m := 1) (c := sc) (k := 1) (us := us2) (Nat.min_eq_left hk1) (by omega) (fun _ => ⟨_, rfl, fun j x hx => by
  rw [Addr.add_lit, Nat.zero_add]
  exact hA _ _ hx⟩) (by rw [h2]; omega) h1 ty0
theorem qnT {W : World} {N e sz G n i : Nat} {cur us us2 : List Value} (hh : W.heap[N]? = some (.cells (insB cur us us2 i sz).toArray e (0, 0))) (hul : us.length = n * sz) (hi : i ≤ n) (hG : n + 1 ≤ G) (hGm : G ≤ maxLen) (hc : cur.length = G * sz) (h2 : us2.length = sz) (ht : cur.take (i * sz) = us.take (i * sz)) :
  W.ownsRow 0 e sz (.slice (some ⟨N, 0, none⟩) (n + 1) G) (n + 1) (us.take (i * sz) ++ us2 ++ us.drop (i * sz)) := by
 have hm : (n + 1) * sz ≤ cur.length := by rw [hc]; exact Nat.mul_le_mul_right _ hG
 refine ⟨?_, .inr ⟨N, G, _, rfl, Nat.zero_le _, hh, hG, hGm, by simp [qZO hul hi hm h2, hc], by simpa using qsL hul hi hm h2 ht⟩⟩
 rw [← qsL hul hi hm h2 ht, List.length_take, qZO hul hi hm h2]
 omega
theorem qTS (w : World) (g : Nat) (A B : Array Value) {φ : Nat → Prop} (hφ : φ g) : Kept w ((w.drew.setRow g A).setRow g B) φ := by
 refine ⟨rfl, rfl, rfl, by simp, fun b hb hn => ?_⟩
 have hne : b ≠ g := fun e => hn (e ▸ hφ)
 rw [setRow_other _ g b _ hne, setRow_other _ g b _ hne]
 rfl
theorem qPQ (w : World) (o : Obj) (A B : Array Value) (φ : Nat → Prop) : Kept w (((w.drew.alloc o).setRow w.heap.size A).drew.setRow w.heap.size B) φ := by
 refine ⟨rfl, rfl, rfl, by simp, fun b hb hn => ?_⟩
 have hne : b ≠ w.heap.size := by omega
 rw [setRow_other _ _ b _ hne]
 show ((w.drew.alloc o).setRow w.heap.size A).heap[b]? = _
 rw [setRow_other _ _ b _ hne]
 exact (Kept.alloc w.drew o (fun _ => False)).block b hb (fun h => h)
theorem qQQ {R us us2 : List Value} {i n sz : Nat} (hul : us.length = n * sz) (hi : i ≤ n) (hc : (n + 1) * sz ≤ R.length) (h2 : us2.length = sz) (ht : R.take (i * sz) = us.take (i * sz)) :
  (insA (R.take (i * sz) ++ us2 ++ R.drop (i * sz + us2.length)) us i sz).take ((n + 1) * sz) = us.take (i * sz) ++ us2 ++ us.drop (i * sz) := by
 have m1 : (n + 1) * sz = (i + 1) * sz + (n - i) * sz := by rw [← Nat.add_mul]; congr 1; omega
 have m2 : n * sz = i * sz + (n - i) * sz := by rw [← Nat.add_mul]; congr 1; omega
 have m4 : (i + 1) * sz = i * sz + sz := Nat.succ_mul i sz
 have lD : (us.drop (i * sz)).length = (n - i) * sz := by rw [List.length_drop]; omega
 have lR : (R.take (i * sz)).length = i * sz := by rw [List.length_take]; omega
 have e1 : (R.take (i * sz) ++ us2 ++ R.drop (i * sz + us2.length)).take ((i + 1) * sz) = us.take (i * sz) ++ us2 := by
  rw [List.take_left' (by rw [List.length_append, lR, h2]; omega), ht]
 unfold insA
 rw [e1, List.take_left']
 simp only [List.length_append, List.length_take, lD, h2, hul]
 omega
theorem qaO {R us us2 : List Value} {i n sz : Nat} (hul : us.length = n * sz) (hi : i ≤ n) (hc : (n + 1) * sz ≤ R.length) (h2 : us2.length = sz) : (R.take (i * sz) ++ us2 ++ R.drop (i * sz + us2.length)).length = R.length := by
 have m1 : (n + 1) * sz = (i + 1) * sz + (n - i) * sz := by rw [← Nat.add_mul]; congr 1; omega
 have m4 : (i + 1) * sz = i * sz + sz := Nat.succ_mul i sz
 simp only [List.length_append, List.length_take, List.length_drop, h2]
 omega
theorem qUS {W : World} {N e sz G n i : Nat} {R us us2 : List Value} (hh : W.heap[N]? = some (.cells (insA (R.take (i * sz) ++ us2 ++ R.drop (i * sz + us2.length)) us i sz).toArray e (0, 0))) (hul : us.length = n * sz) (hi : i ≤ n) (hG : n + 1 ≤ G) (hGm : G ≤ maxLen) (hc : R.length = G * sz) (h2 : us2.length = sz) (ht : R.take (i * sz) = us.take (i * sz)) :
  W.ownsRow 0 e sz (.slice (some ⟨N, 0, none⟩) (n + 1) G) (n + 1) (us.take (i * sz) ++ us2 ++ us.drop (i * sz)) := by
 have hm : (n + 1) * sz ≤ R.length := by rw [hc]; exact Nat.mul_le_mul_right _ hG
 have hL := qaO hul hi hm h2
 have hT := qQQ hul hi hm h2 ht
 have hl : (insA (R.take (i * sz) ++ us2 ++ R.drop (i * sz + us2.length)) us i sz).length = G * sz := by rw [qPK hul hi (by rw [hL]; exact hm), hL, hc]
 refine ⟨?_, .inr ⟨N, G, _, rfl, Nat.zero_le _, hh, hG, hGm, by simpa using hl, by simpa using hT⟩⟩
 rw [← hT, List.length_take, hl]
 have := Nat.mul_le_mul_right sz hG
 omega
structure Roads (P : Program) (f t e sz it : Nat) : Prop where
 end0 : ∀ (w : World) (g2 c2 : Nat) (v' : Value) (w' : World), (Builtin.append_ #[t, t] t #[.slice none 0 0, .slice (some ⟨g2, 0, none⟩) 1 c2]).run P w = .ok v' w' →
  Calls P f #[.slice none 0 0, .int .i64 0, .slice (some ⟨g2, 0, none⟩) 1 c2] w fun ex w2 => ex = .returned v' ∧ w2 = w'
 end1 : ∀ (w : World) (g c g2 c2 n : Nat) (v' : Value) (w' : World), n ≤ c → (Builtin.append_ #[t, t] t #[.slice (some ⟨g, 0, none⟩) n c, .slice (some ⟨g2, 0, none⟩) 1 c2]).run P w = .ok v' w' →
  Calls P f #[.slice (some ⟨g, 0, none⟩) n c, .int .i64 n, .slice (some ⟨g2, 0, none⟩) 1 c2] w fun ex w2 => ex = .returned v' ∧ w2 = w'
 inn : ∀ (w : World) (g c g2 c2 n i : Nat) (cur cur2 A B : Array Value), i < n → n + 1 ≤ c → c ≤ maxLen → g2 ≠ g → w.heap[g]? = some (.cells cur e (0, 0)) → cur.size = c * sz → w.heap[g2]? = some (.cells cur2 e (0, 0)) →
  (∀ ty dc sc, (Builtin.copy_ #[t, t] ty #[.slice (some ⟨g, (i + 1) * sz, none⟩) (n + 1 - (i + 1)) dc, .slice (some ⟨g, i * sz, none⟩) (n + 1 - i) sc]).run P w.drew = .ok (goInt (n - i : Nat)) (w.drew.setRow g A)) →
  (∀ ty dc, (Builtin.copy_ #[t, t] ty #[.slice (some ⟨g, i * sz, none⟩) (n + 1 - i) dc, .slice (some ⟨g2, 0, none⟩) 1 c2]).run P (w.drew.setRow g A) = .ok (goInt (1 : Nat)) ((w.drew.setRow g A).setRow g B)) →
  Calls P f #[.slice (some ⟨g, 0, none⟩) n c, .int .i64 i, .slice (some ⟨g2, 0, none⟩) 1 c2] w fun ex w2 => ex = .returned (.slice (some ⟨g, 0, none⟩) (n + 1) c) ∧ w2 = (w.drew.setRow g A).setRow g B
 grow : ∀ (w : World) (g c g2 c2 n i G : Nat) (R A B : Array Value), i < n → n ≤ c → c < n + 1 → n + 1 ≤ maxLen → n + 1 ≤ G → G ≤ maxLen →
  (∀ ty, (Builtin.append_ #[t, it] ty #[.slice (some ⟨g, 0, none⟩) i c, .int .i64 ((n : Int) + 1 - i)]).run P w = .ok (.slice (some ⟨w.heap.size, 0, none⟩) (n + 1) G) (w.drew.alloc (.cells R e))) →
  (∀ ty dc, (Builtin.copy_ #[t, t] ty #[.slice (some ⟨w.heap.size, i * sz, none⟩) (n + 1 - i) dc, .slice (some ⟨g2, 0, none⟩) 1 c2]).run P (w.alloc (.cells R e)).drew = .ok (goInt (1 : Nat)) ((w.alloc (.cells R e)).drew.setRow w.heap.size A)) →
  (∀ ty dc sc, (Builtin.copy_ #[t, t] ty #[.slice (some ⟨w.heap.size, (i + 1) * sz, none⟩) (n + 1 - (i + 1)) dc, .slice (some ⟨g, i * sz, none⟩) (n - i) sc]).run P ((w.alloc (.cells R e)).drew.setRow w.heap.size A).drew = .ok (goInt (n - i : Nat)) (((w.alloc (.cells R e)).drew.setRow w.heap.size A).drew.setRow w.heap.size B)) →
  Calls P f #[.slice (some ⟨g, 0, none⟩) n c, .int .i64 i, .slice (some ⟨g2, 0, none⟩) 1 c2] w fun ex w2 => ex = .returned (.slice (some ⟨w.heap.size, 0, none⟩) (n + 1) G) ∧ w2 = ((w.alloc (.cells R e)).drew.setRow w.heap.size A).drew.setRow w.heap.size B
theorem Roads.raw {f t : Nat} {ty te : Ty} {it : Nat} (hR : Roads P f t ty.elem te.size it) (ht : TyOk P t ty) (hs : ty.isS = true) (hte : TyOk P ty.elem te) (hz : te.zero ≠ []) (h3 : P.underlying it = some (.int .i64)) : InsRaw P f ty.elem te.size te.bytes := by
 intro w v0 v2 n i us us2 hi hb hb2 ho0 ho2 hne h1c h1v
 obtain ⟨ti, hti, htz, htb, hzz⟩ := hte.info
 obtain ⟨z, hz1, hz2⟩ := hzz hz
 have hzs : z.cells.size = te.size := by rw [← Array.length_toList, hz2, hte.zlen hz]
 have hpos := hte.pos
 have hts := ht.isS hs
 generalize he : ty.elem = e at *
 generalize hsz : te.size = sz at *
 rcases ho2.2 with ⟨_, h⟩ | ⟨g2, c2, cur2, rfl, _, hg2, hnc2, hcm2, hcs2, htk2⟩
 · omega
 have hul2 : us2.length = sz := by have := ho2.1; omega
 have hul : us.length = n * sz := ho0.1
 have hcell2 : ∀ j x, us2[j]? = some x → w.cell? ⟨g2, j, none⟩ = some x := fun j x hx => by
  have := ho2.cells (g := g2) rfl j x hx
  rwa [Addr.add_lit, Nat.zero_add] at this
 have hm63 : n + 1 ≤ maxLen := by unfold maxLen; omega
 by_cases hin : i = n
 ·
  subst hin
  obtain ⟨v', w', hrun, hown', hg, _, hblk⟩ := run_append_own_at (P := P) w 0 t t e ti z sz te.bytes hts hti hz1 htz htb hzs hpos v0 i us ho0 ⟨g2, 0, none⟩ 1 c2 us2 (by omega) (fun j x hx => ho2.cells (g := g2) rfl j x hx) h1v hm63 hb (Nat.zero_le _)
  have hT : us.take (i * sz) ++ us2 ++ us.drop (i * sz) = us ++ us2 := by rw [← hul, List.take_length, List.drop_length, List.append_nil]
  have key : Calls P f #[v0, .int .i64 i, .slice (some ⟨g2, 0, none⟩) 1 c2] w fun ex w2 => ex = .returned v' ∧ w2 = w' := by
   rcases ho0.2 with ⟨rfl, rfl⟩ | ⟨g, c, cur, rfl, _, _, hnc, _⟩
   · exact hR.end0 w g2 c2 v' w' hrun
   exact hR.end1 w g c g2 c2 i v' w' hnc hrun
  refine key.mono ?_
  rintro ex w2 ⟨rfl, rfl⟩
  refine ⟨v', rfl, by rw [hT]; exact hown', ?_, fun b hb => ?_⟩
  ·
   have := Kept.of_grown hg
   exact this
  rcases hblk with h | h
  · exact .inl (h ▸ hb)
  rw [h] at hb
  exact .inr (Nat.le_of_eq (Option.some.inj hb))
 have hlt : i < n := by omega
 rcases ho0.2 with ⟨rfl, rfl⟩ | ⟨g, c, cur, rfl, _, hg, hnc, hcm, hcs, htk⟩
 · omega
 have hcell : ∀ j x, us[j]? = some x → w.cell? ⟨g, j, none⟩ = some x := fun j x hx => by
  have := ho0.cells (g := g) rfl j x hx
  rwa [Addr.add_lit, Nat.zero_add] at this
 have hgl : g < w.heap.size := (Array.getElem?_eq_some_iff.1 hg).1
 have hg2l : g2 < w.heap.size := (Array.getElem?_eq_some_iff.1 hg2).1
 have hne' : g2 ≠ g := fun e => hne g rfl (by rw [e]; rfl)
 have m0 : (n + 1) * sz = i * sz + sz + (n - i) * sz := by rw [← Nat.succ_mul, ← Nat.add_mul]; congr 1; omega
 have m2 : n * sz = i * sz + (n - i) * sz := by rw [← Nat.add_mul]; congr 1; omega
 by_cases hroom : n + 1 ≤ c
 ·
  have hcc : (n + 1) * sz ≤ cur.size := by rw [hcs]; exact Nat.mul_le_mul_right _ hroom
  have hA1 : (insA cur.toList us i sz).toArray.size = cur.size := by simpa using qPK (cur := cur.toList) hul hi (by simpa using hcc)
  refine (hR.inn w g c g2 c2 n i cur cur2 (insA cur.toList us i sz).toArray (insB cur.toList us us2 i sz).toArray hlt hroom hcm hne' hg hcs hg2
   (fun ty0 dc sc => qNQ (w := w.drew) t e hts hti htz hg hul hi hcc hcell h1c (by omega) (by omega) rfl _ rfl ty0 dc sc)
   (fun ty0 dc => qOQ (w := w.drew.setRow g _) t e hts hti htz (setRow_heap w.drew g cur _ e _ hg) hul2 (by rw [hA1]; omega) (fun j x hx => by
    rw [World.cell?_of_block (w := w) (a := ⟨g2, j, none⟩) (setRow_other w.drew g g2 _ hne')]
    exact hcell2 j x hx) h1v (by omega) ty0 dc c2)).mono ?_
  rintro ex w2 ⟨rfl, rfl⟩
  refine ⟨_, rfl, qnT (cur := cur.toList) (setRow_heap _ g _ _ e _ (setRow_heap w.drew g cur _ e _ hg)) hul hi hroom hcm (by simpa using hcs) hul2 (by rw [← htk, List.take_take, Nat.min_eq_left (by omega)]), qTS w g _ _ rfl, fun b hb => .inl hb⟩
 have hik : i + (n + 1 - i) = n + 1 := by omega
 have hG := grownCap_ge w (n + 1) c e
 have hGm := grownCap_le_maxLen w (n + 1) c e hm63
 have hrz : ∀ ty0, (Builtin.append_ #[t, it] ty0 #[.slice (some ⟨g, 0, none⟩) i c, .int .i64 ((n : Int) + 1 - i)]).run P w = .ok (.slice (some ⟨w.heap.size, 0, none⟩) (n + 1) (grownCap w (n + 1) c e)) (w.drew.alloc (.cells ((us.take (i * sz)).toArray ++ Builtin.zeroCells z.cells (n + 1 - i) ++ Builtin.zeroCells z.cells (grownCap w (n + 1) c e - (n + 1))) e)) := fun ty0 => by
  have h := Lib.run_append_grow_zeros w t it ty0 e ti z .i64 .i64 hts h3 hti hz1 (some ⟨g, 0, none⟩) i c (us.take (i * sz)) (by
   rw [htz]
   exact qrF (w := w.drew) (by rw [List.length_take]; omega) (fun _ => ⟨_, rfl, fun j x hx => by
    rw [List.getElem?_take] at hx
    split at hx
    · rw [Addr.add_lit, Nat.zero_add]; exact hcell j x hx
    cases hx⟩)) (n + 1 - i) (by omega) (by omega) (by omega) (by unfold maxLen at hm63; omega) (by
    rw [htb]
    have := Nat.mul_le_mul_right te.bytes (show n + 1 - i ≤ n + 1 by omega)
    omega) (by rw [htb, hik]; exact growslice_fits (by omega) hb)
  rw [hik, show ((n + 1 - i : Nat) : Int) = (n : Int) + 1 - i by omega] at h
  exact h
 generalize grownCap w (n + 1) c e = G at *
 generalize hRR : (us.take (i * sz)).toArray ++ Builtin.zeroCells z.cells (n + 1 - i) ++ Builtin.zeroCells z.cells (G - (n + 1)) = R at *
 have lT : (us.take (i * sz)).length = i * sz := by rw [List.length_take]; omega
 have hRs : R.size = G * sz := by
  rw [← hRR]
  simp only [Array.size_append, size_zeroCells, hzs, List.size_toArray, lT]
  rw [← Nat.add_mul, ← Nat.add_mul]; congr 1; omega
 have hRt : R.toList.take (i * sz) = us.take (i * sz) := by
  rw [← hRR]
  simp only [Array.toList_append, List.append_assoc]
  exact List.take_left' lT
 have hRc : (n + 1) * sz ≤ R.size := by rw [hRs]; exact Nat.mul_le_mul_right _ hG
 have hh0 : (w.alloc (.cells R e)).drew.heap[w.heap.size]? = some (.cells R e (0, 0)) := by show (w.heap.push (.cells R e (0, 0)))[w.heap.size]? = _; simp
 have hother : ∀ b, b < w.heap.size → (w.alloc (.cells R e)).drew.heap[b]? = w.heap[b]? := fun b hb => (Kept.alloc w (.cells R e) (fun _ => False)).block b hb (fun h => h)
 have hAs : (R.toList.take (i * sz) ++ us2 ++ R.toList.drop (i * sz + us2.length)).toArray.size = R.size := by simpa using qaO (R := R.toList) hul hi (by simpa using hRc) hul2
 refine (hR.grow w g c g2 c2 n i G R _ _ hlt hnc (by omega) hm63 hG hGm hrz
  (fun ty0 dc => qOQ (w := (w.alloc (.cells R e)).drew) (N := w.heap.size) t e hts hti htz hh0 hul2 (by omega) (fun j x hx => by
   rw [World.cell?_of_block (w := w) (a := ⟨g2, j, none⟩) (hother g2 hg2l)]
   exact hcell2 j x hx) h1v (by omega) ty0 dc c2)
  (fun ty0 dc sc => qNQ (w := ((w.alloc (.cells R e)).drew.setRow w.heap.size _).drew) (N := w.heap.size) (g := g) t e hts hti htz (setRow_heap _ _ _ _ e _ hh0) hul hi (by rw [hAs]; exact hRc) (fun j x hx => by
   have e2 : ((w.alloc (.cells R e)).drew.setRow w.heap.size (R.toList.take (i * sz) ++ us2 ++ R.toList.drop (i * sz + us2.length)).toArray).drew.heap[g]? = w.heap[g]? := (setRow_other _ _ g _ (by omega)).trans (hother g hgl)
   rw [World.cell?_of_block (w := w) (a := ⟨g, j, none⟩) e2]
   exact hcell j x hx) h1c (by omega) (by omega) rfl _ rfl ty0 dc sc)).mono ?_
 rintro ex w2 ⟨rfl, rfl⟩
 refine ⟨_, rfl, qUS (R := R.toList) (setRow_heap _ _ _ _ e _ (setRow_heap _ _ _ _ e _ hh0)) hul hi hG hGm (by simpa using hRs) hul2 hRt, ?_, fun b hb => .inr (Nat.le_of_eq (Option.some.inj hb))⟩
 exact qPQ w (.cells R e) _ _ _
end Go.Proofs.YtcpekllcbimpmaaGreatDoor.L
namespace Go.Proofs.YtcpekllcbimpmaaGreatDoor.L
set_option linter.unusedVariables false
set_option linter.unusedSimpArgs false
open Go
variable {P : Program} {α : Type} {f : α → List T} {l : List α} {i z : Int} {x : α}
def jpR (z : Int) (rows : Rws) : Rws := ((rows.take z.toNat).map fun r => r.map fun _ => T.jk) ++ rows.drop z.toNat
def ltO (z : Int) : Option Unit := if z < 9223372036854775807 then some () else none
theorem LLe.jks : ∀ (xs : List T), LLe P xs (xs.map fun _ => T.jk)
 | [] => .nil
 | _ :: xs => LLe.cons .jk (LLe.jks xs)
theorem qXG {raw rows : Rws} (h : Ls.fr raw = raw) (le : RLe P raw rows) : LLe P [.im false (Ls.fr raw)] [.im false rows] := by rw [h]; exact LLe.im le
def ci3 (c : Bool) (x y : Int) : Int := if c then x else y
end Go.Proofs.YtcpekllcbimpmaaGreatDoor.L
namespace Go.Proofs.YtcpekllcbimpmaaGreatDoor.L
set_option linter.unusedVariables false
set_option linter.unusedSimpArgs false
open Go
variable {P : Program} {F : Fr} {σ : St} {a : Act} {w : World} {S : Nat → Prop} {G G' : Gh} {φ : Nat → Nat → Prop} {tab : List (Nat × Ty)}
def takeE (tab : List (Nat × Ty)) : Nat → List T → Option (List V × List (Nat × O))
 | _, [] => some ([], [])
 | id, c :: cs => match c with
  | .s v => match takeE tab id cs with
   | some (vs, os) => some (.t (.s v) :: vs, os)
   | none => none
  | .im true r => match takeE tab id cs with
   | some (vs, os) => some (.t (.im true r) :: vs, os)
   | none => none
  | .ow e rows => match getTy tab e with
   | some ty => match takeE tab (id + 256) cs with
    | some (vs, os) => some (.rf id :: vs, os ++ [(id, .row 0 e ty.size rows)])
    | none => none
   | none => none
  | _ => none
end Go.Proofs.YtcpekllcbimpmaaGreatDoor.L
namespace Go.Proofs.YtcpekllcbimpmaaGreatDoor.L
set_option linter.unusedVariables false
set_option linter.unusedSimpArgs false
open Go
variable {P : Program} {F : Fr} {σ : St} {a : Act} {w : World} {S : Nat → Prop} {G G' : Gh} {φ : Nat → Nat → Prop} {tab : List (Nat × Ty)}
theorem Rel0.keep (hr : Rel0 F σ a w S G φ) {χ : Nat → Prop} {φ' : Nat → Nat → Prop} {G' : Gh} {τ : St} (hG : G.le G') (hdom : ∀ i, G'.dom i → G.dom i) (hχ : ∀ b, χ b → ∃ i, φ i b) (hφ : ∀ i b, φ' i b → φ i b ∧ ¬ χ b) (hnx : τ.nx = σ.nx) (hn : τ.n = σ.n) (hk : ∀ i, hasKey σ.objs i = true → hasKey τ.objs i = true)
  (hkd : ∀ i v x, G'.κ i v = some x → G'.dom i ∧ ∀ ver e sz rows, look .dead τ.objs i = .row ver e sz rows → v ≤ ver)
  (henv : ∀ t, VR F.P w (fun b => F.K b ∨ χ b) (fun b => S b ∨ χ b) G' (look .u σ.env t) (a.tmps.getD t undef) → VR F.P w (fun b => F.K b ∨ χ b) (fun b => S b ∨ χ b) G' (look .u τ.env t) (a.tmps.getD t undef))
  (hobj : ∀ i, OR F.P w (fun b => F.K b ∨ χ b) (fun b => S b ∨ χ b) G' (φ' i) i (look .dead τ.objs i)) :
  ∃ K, KLe F K ∧ ∃ S G φ, Rel0 (F.up K) τ a w S G φ := by
 refine ⟨fun b => F.K b ∨ χ b, ⟨fun b h => .inl h, fun b h => h.imp (fun h => h) fun h => ?_⟩, fun b => S b ∨ χ b, G', φ', fun i hi => ?_, hkd, hr.n.trans hn.symm, fun b h => h.imp (hr.KS b) (fun h => h), fun b h => ?_, fun t => henv t (((hr.env t).moreK (fun _ h => .inl h) (fun _ h => .inl h)).move (fun _ _ => rfl) (fun _ _ => rfl) hG), hobj, fun i j hij b h1 h2 => hr.dj i j hij b (hφ i b h1).1 (hφ j b h2).1, fun i b h => ?_, hr.kept, hr.defs, fun i v hi => ⟨hG.dom _ (hr.anc i v hi).1, (hG.β _ (hr.anc i v hi).1).trans (hr.anc i v hi).2⟩⟩
 · obtain ⟨i, hi⟩ := hχ b h; exact (hr.own i b hi).2.2
 · rw [hnx]; exact (hr.nx i (hdom i hi)).imp (fun h => h) (hk i)
 ·
  rcases h with h | h
  · exact hr.Slt b h
  · obtain ⟨i, hi⟩ := hχ b h; exact (hr.own i b hi).1
 ·
  obtain ⟨h1, h2⟩ := hφ i b h
  obtain ⟨p1, p2, p3⟩ := hr.own i b h1
  exact ⟨p1, fun h => h.elim p2 h2, p3⟩
theorem Weak.of_keep {τ : St} (h : ∀ (F' : Fr), F'.P = F.P → F'.anc = F.anc → ∀ a w S G φ, Rel0 F' σ a w S G φ → ∃ K, KLe F' K ∧ ∃ S G φ, Rel0 (F'.up K) τ a w S G φ) : Weak F σ τ := by
 rintro a w ⟨K, hK, S, G, φ, hr⟩
 obtain ⟨K', hK', S', G', φ', hr'⟩ := h (F.up K) rfl rfl a w S G φ hr
 exact ⟨K', hK.trans hK', S', G', φ', hr'⟩
theorem CR.im01 {K S : Nat → Prop} {rows : Rws} {u : Value} (h : CR P w K K [.im false rows] [u] no) : CR P w K S [.im true rows] [u] no := by
 cases h with
 | im0 hn hcc sz hs vs hA hr _ => exact .im1 hn hcc sz hs vs hA hr .nil
theorem Weak.keep {n nx : Nat} {env : List (Nat × V)} {objs : List (Nat × O)} (id : Nat) {ver e sz : Nat} {rows : Rws} (ho : look .dead objs id = .row ver e sz rows) (rows' : Rws) (hrows : Ls.fr rows = rows') :
  Weak F ⟨n, nx, env, objs⟩ ⟨n, nx, frzE id (.im true rows') env, (id, .dead) :: frzO id (.im true rows') objs⟩ := by
 subst hrows
 refine Weak.of_keep fun F _ _ a w S G φ hr => ?_
 have hx : ∀ S', CR F.P w (fun b => F.K b ∨ φ id b) S' [.im true (Ls.fr rows)] [G.β id] no := fun S' => by
  have := ((qcJ hr ho).moreK (K' := fun b => F.K b ∨ φ id b) (fun _ h => .inl h) (S' := fun b => F.K b ∨ φ id b) (fun _ h => .inl h)).lend (S' := fun b => F.K b ∨ φ id b) (fun _ h => h) (fun _ h => h) (fun _ h => .inr h)
  refine CR.im01 ?_
  simpa [fzL, T.fz, Ls] using this
 refine hr.keep (χ := φ id) (φ' := fun i b => if i = id then False else φ i b) (Gh.le.refl G) (fun _ h => h) (fun b h => ⟨id, h⟩) (fun i b h => ?_) rfl rfl (fun i h => (qY _ _ _ _).2 (.inr ((qlD _ _ _ _).2.trans h))) (fun i v y hy => ⟨(hr.kd i v y hy).1, fun ver' e' sz' r' hl => ?_⟩) (fun t h => ?_) fun i => ?_
 ·
  have h : if i = id then False else φ i b := h
  split at h
  · exact h.elim
  ·
   rename_i hne
   exact ⟨h, fun h' => hr.dj i id hne b h h'⟩
 ·
  rw [qL] at hl
  split at hl
  · cases hl
  ·
   rw [(qlD _ _ _ _).1] at hl
   cases hq : look .dead objs i with
   | box e2 cs => rw [hq] at hl; cases hl
   | dead => rw [hq] at hl; cases hl
   | row v1 e1 s1 r1 =>
    rw [hq] at hl
    simp only [O.row.injEq] at hl
    have := (hr.kd i v y hy).2 _ _ _ _ hq
    omega
 ·
  show VR F.P w _ _ G (look .u (frzE id (.im true (Ls.fr rows)) env) t) _
  rw [qQI]
  have := qWG (fun _ h => h) (hx _) h
  simpa [frzL] using this
 ·
  have key : ∀ k : Nat, OR F.P w (fun b => F.K b ∨ φ id b) (fun b => S b ∨ φ id b) G (fun b => if k = id then False else φ k b) k (look .dead ((id, .dead) :: frzO id (.im true (Ls.fr rows)) objs) k) := by
   intro k
   rw [qL]
   by_cases hk : k = id
   · rw [if_pos hk]; trivial
   rw [if_neg hk, (qlD _ _ _ _).1]
   have e : (fun b => if k = id then False else φ k b) = φ k := by funext b; rw [if_neg hk]
   rw [e]
   have hok : OR F.P w (fun b => F.K b ∨ φ id b) (fun b => S b ∨ φ id b) G (φ k) k (look .dead objs k) := (hr.obj k).moreK (fun _ h => .inl h) (fun _ h => .inl h)
   cases hq : look .dead objs k with
   | dead => trivial
   | row v1 e1 s1 r1 => rw [hq] at hok; exact hok
   | box e1 cs =>
    rw [hq] at hok
    obtain ⟨h1, g, us, h2, h3, h4, h5⟩ := hok
    exact ⟨h1, g, us, h2, h3, h4, qWG (fun _ h => h) (hx _) h5⟩
  exact key i
def kpT : T → T
 | .ow _ rows => .im true (fzR rows)
 | .bx _ _ => .jk
 | t => t
def kpL (ts : List T) : List T := ts.map kpT
def kpR (rows : Rws) : Rws := rows.map kpL
theorem CR.kp {K S : Nat → Prop} {ts us φ'} (h : CR P w K S ts us φ') : ∀ {K' S' : Nat → Prop}, Sub K K' → Sub φ' K' → Sub S S' → CR P w K' S' (kpL ts) us no := by
 induction h with
 | nil => intro K' S' _ _ _; exact .nil
 | s h1 _ ih => intro K' S' a b c; exact .s h1 (ih a b c)
 | jk h1 _ ih => intro K' S' a b c; exact .jk h1 (ih a b c)
 | er _ ih => intro K' S' a b c; exact .er (ih a b c)
 | im0 hn hc sz hss vs hA hr _ _ ih => intro K' S' a b c; exact .im0 hn hc sz hss vs (fun hp => let ⟨x, o, e, hb, hx⟩ := hA hp; ⟨x, o, e, c x hb, hx⟩) (hr.moreK a c) (ih a b c)
 | im1 hn hc sz hss vs hA hr _ _ ih => intro K' S' a b c; exact .im1 hn hc sz hss vs (fun hp => let ⟨x, o, e, hb, hx⟩ := hA hp; ⟨x, o, e, a x hb, hx⟩) (hr.moreK a a) (ih a b c)
 | ow hs vs ho ψ hb hψ hr h hd h1 h2 _ ih =>
  intro K' S' a b c
  have h0 := (CR.ow (φ2 := no) hs vs ho ψ hb hψ hr (.nil (S := K')) (fun _ _ h => h.elim) (fun _ h => h) (fun _ h => h.elim) : CR P w K K' [.ow _ _] [_] _)
  have h3 := CR.im01 (S := S') (by simpa [fzL, T.fz] using (h0.moreK a (fun _ h => h)).lend (S' := K') (fun _ h => h) (fun _ h => h) (fun x hx => b x (h1 x hx)))
  exact CR.join (a := [.im true _]) (u1 := [_]) h3 (ih a (fun x hx => b x (h2 x hx)) c) (fun _ h => h.elim) (fun _ h => h) (fun _ h => h)
 | ip vs hS hA hr _ _ ih => intro K' S' a b c; exact .ip vs (fun hp => c _ (hS hp)) hA (hr.moreK a c) (ih a b c)
 | bx vs hg ψ hb hψ hr h hd h1 h2 _ ih => intro K' S' a b c; exact .jk rfl (ih a (fun x hx => b x (h2 x hx)) c)
 | fn vs hr _ _ ih => intro K' S' a b c; exact .fn vs (hr.moreK a c) (ih a b c)
theorem Weak.deep {n nx : Nat} {env : List (Nat × V)} {objs : List (Nat × O)} (id : Nat) {ver e sz : Nat} {rows : Rws} (ho : look .dead objs id = .row ver e sz rows) (rows' : Rws) (hrows : kpR rows = rows') :
  Weak F ⟨n, nx, env, objs⟩ ⟨n, nx, env, (id, .row (ver + 1) e sz rows') :: objs⟩ := by
 subst hrows
 refine Weak.of_keep fun F _ _ a w S G φ hr => ?_
 obtain ⟨hid, hsz, hGs, us, hk, hrs, hown, ψ, hψb, hψ, hcr⟩ := hr.row ho
 have hno : G.κ id (ver + 1) = none := by
  cases hk : G.κ id (ver + 1) with
  | none => rfl
  | some x => have := (hr.kd id (ver + 1) x hk).2 _ _ _ _ ho; omega
 refine hr.keep (χ := ψ) (φ' := fun i b => if i = id then (G.β id).ownBlock = some b else φ i b) (G' := G.ver id (ver + 1) (kpR rows, us)) (Gh.le_ver hno) (fun _ h => h) (fun b h => ⟨id, hψ b h⟩) (fun i b h => ?_) rfl rfl (fun i h => (qY _ _ _ _).2 (.inr h)) (fun i v y hy => ?_) (fun t h => h) fun i => ?_
 ·
  have h : if i = id then (G.β id).ownBlock = some b else φ i b := h
  split at h
  · rename_i e; subst e; exact hψb b h
  ·
   rename_i hne
   exact ⟨h, fun h' => hr.dj i id hne b h (hψ b h')⟩
 ·
  simp only [Gh.ver] at hy
  split at hy
  ·
   rename_i he
   refine ⟨by show G.dom i; rw [he.1]; exact hid, fun ver' e' sz' r' hl => ?_⟩
   rw [qL, if_pos he.1] at hl
   simp only [O.row.injEq] at hl
   omega
  ·
   obtain ⟨k1, k2⟩ := hr.kd i v y hy
   refine ⟨k1, fun ver' e' sz' r' hl => ?_⟩
   rw [qL] at hl
   split at hl
   ·
    rename_i e
    subst e
    simp only [O.row.injEq] at hl
    have := k2 _ _ _ _ ho
    omega
   exact k2 _ _ _ _ hl
 ·
  have key : ∀ k : Nat, OR F.P w (fun b => F.K b ∨ ψ b) (fun b => S b ∨ ψ b) (G.ver id (ver + 1) (kpR rows, us)) (fun b => if k = id then (G.β id).ownBlock = some b else φ k b) k (look .dead ((id, .row (ver + 1) e sz (kpR rows)) :: objs) k) := by
   intro k
   rw [qL]
   by_cases hk : k = id
   ·
    subst hk
    rw [if_pos rfl]
    refine ⟨hid, hsz, hGs, us, by simp [Gh.ver], fun r h => ?_, ?_, no, fun b hb => ⟨by show if k = k then (G.β k).ownBlock = some b else φ k b; rw [if_pos rfl]; exact hb, fun h => h⟩, fun _ h => h.elim, ?_⟩
    ·
     obtain ⟨q, hq, rfl⟩ := List.mem_map.1 h
     rw [kpL, List.length_map]; exact hrs q hq
    ·
     show w.ownsRow 0 e sz (G.β k) (kpR rows).length us
     rw [kpR, List.length_map]; exact hown
    have := hcr.kp (K' := fun b => F.K b ∨ ψ b) (S' := fun b => F.K b ∨ ψ b) (fun _ h => .inl h) (fun _ h => .inr h) (fun _ h => .inl h)
    rw [show (kpR rows).flatten = kpL rows.flatten by rw [kpR, kpL, List.map_flatten]; rfl]
    exact this
   rw [if_neg hk]
   have e : (fun b => if k = id then (G.β id).ownBlock = some b else φ k b) = φ k := by funext b; rw [if_neg hk]
   rw [e]
   exact ((hr.obj k).moreK (fun _ h => .inl h) (fun _ h => .inl h)).move (fun _ _ => rfl) (fun _ _ => rfl) (fun _ _ => rfl) (Gh.le_ver hno)
  exact key i
end Go.Proofs.YtcpekllcbimpmaaGreatDoor.L