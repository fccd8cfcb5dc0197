/- What an abstract state says of a frame and a world. -/
import Derived.Test.YtgicjbeaomjdgaaSl1
namespace Go.Proofs.Ytgicjbeaomjdgaa.L
set_option linter.unusedVariables false
set_option linter.unusedSimpArgs false
open Go

def hasKey {α : Type} : List (Nat × α) → Nat → Bool
  | [], _ => false
  | (k, _) :: r, n => bif nq n k then true else hasKey r n

/-- What the objects are in memory: each one's value (a slice or a pointer), its elements' size, and of each of its states the cells. -/
structure Gh where
  dom : Nat → Prop
  β : Nat → Value
  sz : Nat → Nat
  κ : Nat → Nat → Option (Rws × List Value)

structure Gh.le (G G' : Gh) : Prop where
  dom : ∀ i, G.dom i → G'.dom i
  β : ∀ i, G.dom i → G'.β i = G.β i
  sz : ∀ i, G.dom i → G'.sz i = G.sz i
  κ : ∀ i v x, G.κ i v = some x → G'.κ i v = some x

theorem Gh.le.refl (G : Gh) : G.le G := ⟨fun _ h => h, fun _ _ => rfl, fun _ _ => rfl, fun _ _ _ h => h⟩

def blk : Value → Option Nat
  | .slice (some a) _ _ => some a.block
  | .pointer (some a) => some a.block
  | _ => none

inductive VRs (P : Program) (w : World) (K S : Nat → Prop) (G : Gh) : List V → List Value → Prop
  | nil : VRs P w K S G [] []
  | t {x u vs us} (hx : CR P w K S [x] [u] no) (h : VRs P w K S G vs us) : VRs P w K S G (.t x :: vs) (u :: us)
  | rf {id u vs us} (hi : G.dom id) (hu : u = G.β id) (h1 : u.oneCell' = true) (h : VRs P w K S G vs us) : VRs P w K S G (.rf id :: vs) (u :: us)
  | sb {id lo hi A} {n c : Nat} {vs us} (hid : G.dom id) (h0 : 0 ≤ lo) (h1 : lo ≤ hi) (hn : (n : Int) = hi - lo) (hm : n ≤ maxLen) (hc : n ≤ c) (hA : 0 < c → ∃ g, blk (G.β id) = some g ∧ A = some ⟨g, lo.toNat * G.sz id, none⟩)
      (hb : ∃ A0 m cp, G.β id = .slice A0 m cp ∧ hi ≤ (m : Int) ∧ lo.toNat + c = cp ∧ (lo = 0 → A = A0)) (h : VRs P w K S G vs us) : VRs P w K S G (.sb id lo hi :: vs) (.slice A n c :: us)
  | np {id ver i j e rows u vs us} (hid : G.dom id) (hi : 0 ≤ i) (rows0 us0) (hk : G.κ id ver = some (rows0, us0)) (hj : j < G.sz id) (hr : (rows0.getD i.toNat [])[j]? = some (.ow e rows)) (hl : i.toNat < rows0.length) (hu : us0[i.toNat * G.sz id + j]? = some u) (hsl : ∃ A c, u = .slice A rows.length c)
      (h : VRs P w K S G vs us) : VRs P w K S G (.np id ver i j e rows :: vs) (u :: us)
  | pt {id i j g vs us} (hid : G.dom id) (hi : 0 ≤ i) (hg : blk (G.β id) = some g) (h : VRs P w K S G vs us) : VRs P w K S G (.pt id i j :: vs) (.pointer (some ⟨g, i.toNat * G.sz id + j, none⟩) :: us)
  | ag {cs us' vs us} (hc : VRs P w K S G cs us') (h : VRs P w K S G vs us) : VRs P w K S G (.ag cs :: vs) (.agg us'.toArray :: us)
  | tu {cs us' vs us} (hc : VRs P w K S G cs us') (h : VRs P w K S G vs us) : VRs P w K S G (.tu cs :: vs) (.tuple us'.toArray :: us)
  | fn {f cs us' vs us} (hc : VRs P w K S G cs us') (h : VRs P w K S G vs us) : VRs P w K S G (.fn f cs :: vs) (.func (.func f) #[] us'.toArray :: us)
  | cd0 {v vs us} (h : VRs P w K S G vs us) : VRs P w K S G (.cd false v :: vs) (undef :: us)
  | cd1 {v u vs us} (hv : VRs P w K S G [v] [u]) (h : VRs P w K S G vs us) : VRs P w K S G (.cd true v :: vs) (u :: us)
  | uu {u vs us} (h : VRs P w K S G vs us) : VRs P w K S G (.u :: vs) (u :: us)
  | hl {id ver i j id2 u vs us} (hid : G.dom id) (hd2 : G.dom id2) (hi : 0 ≤ i) (rows0 us0) (hk : G.κ id ver = some (rows0, us0)) (hu : us0[i.toNat * G.sz id + j]? = some (G.β id2)) (h : VRs P w K S G vs us) : VRs P w K S G (.hl id ver i j id2 :: vs) (u :: us)

abbrev VR (P : Program) (w : World) (K S : Nat → Prop) (G : Gh) (v : V) (u : Value) : Prop := VRs P w K S G [v] [u]

variable {P : Program} {w w' : World} {K S : Nat → Prop} {G G' : Gh}

theorem VRs.move {vs us} (h : VRs P w K S G vs us) (hK : ∀ b, K b → w'.heap[b]? = w.heap[b]?) (hS : ∀ b, S b → w'.heap[b]? = w.heap[b]?) (hG : G.le G') : VRs P w' K S G' vs us := by
  induction h with
  | nil => exact .nil
  | t hx _ ih => exact .t (hx.move hK hS (fun _ h => h.elim)) ih
  | rf hi hu h1 _ ih => exact .rf (hG.dom _ hi) (by rw [hG.β _ hi]; exact hu) h1 ih
  | sb hid h0 h1 hn hm hc hA hb _ ih => exact .sb (hG.dom _ hid) h0 h1 hn hm hc (fun hp => by rw [hG.β _ hid, hG.sz _ hid]; exact hA hp) (by rw [hG.β _ hid]; exact hb) ih
  | np hid hi r0 u0 hk hj hr hl hu hsl _ ih => exact .np (hG.dom _ hid) hi r0 u0 (hG.κ _ _ _ hk) (by rw [hG.sz _ hid]; exact hj) hr hl (by rw [hG.sz _ hid]; exact hu) hsl ih
  | pt hid hi hg _ ih => rw [← hG.sz _ hid]; exact .pt (hG.dom _ hid) hi (by rw [hG.β _ hid]; exact hg) ih
  | ag _ _ ihc ih => exact .ag ihc ih
  | tu _ _ ihc ih => exact .tu ihc ih
  | fn _ _ ihc ih => exact .fn ihc ih
  | cd0 _ ih => exact .cd0 ih
  | cd1 _ _ ihv ih => exact .cd1 ihv ih
  | uu _ ih => exact .uu ih
  | hl hid hd2 hi r0 u0 hk hu _ ih => exact .hl (hG.dom _ hid) (hG.dom _ hd2) hi r0 u0 (hG.κ _ _ _ hk) (by rw [hG.sz _ hid, hG.β _ hd2]; exact hu) ih

theorem VRs.moreK {K' S' : Nat → Prop} {vs us} (hk : Sub K K') (hs : Sub S S') (h : VRs P w K S G vs us) : VRs P w K' S' G vs us := by
  induction h with
  | nil => exact .nil
  | t hx _ ih => exact .t (hx.moreK hk hs) ih
  | rf hi hu h1 _ ih => exact .rf hi hu h1 ih
  | sb hid h0 h1 hn hm hc hA hb _ ih => exact .sb hid h0 h1 hn hm hc hA hb ih
  | np hid hi r0 u0 hk hj hr hl hu hsl _ ih => exact .np hid hi r0 u0 hk hj hr hl hu hsl ih
  | pt hid hi hg _ ih => exact .pt hid hi hg ih
  | ag _ _ ihc ih => exact .ag ihc ih
  | tu _ _ ihc ih => exact .tu ihc ih
  | fn _ _ ihc ih => exact .fn ihc ih
  | cd0 _ ih => exact .cd0 ih
  | cd1 _ _ ihv ih => exact .cd1 ihv ih
  | uu _ ih => exact .uu ih
  | hl hid hd2 hi r0 u0 hk hu _ ih => exact .hl hid hd2 hi r0 u0 hk hu ih

theorem VRs.len {vs us} (h : VRs P w K S G vs us) : us.length = vs.length := by
  induction h <;> simp_all

theorem VR.any (u : Value) : VR P w K S G .u u := .uu .nil

theorem VRs.cons {v vs u us} (h : VR P w K S G v u) (h' : VRs P w K S G vs us) : VRs P w K S G (v :: vs) (u :: us) := by
  cases h with
  | t hx _ => exact .t hx h'
  | rf hi hu h1 _ => exact .rf hi hu h1 h'
  | sb hid h0 h1 hn hm hc hA hb _ => exact .sb hid h0 h1 hn hm hc hA hb h'
  | np hid hi r0 u0 hk hj hr hl hu hsl _ => exact .np hid hi r0 u0 hk hj hr hl hu hsl h'
  | pt hid hi hg _ => exact .pt hid hi hg h'
  | ag hc _ => exact .ag hc h'
  | tu hc _ => exact .tu hc h'
  | fn hc _ => exact .fn hc h'
  | cd0 _ => exact .cd0 h'
  | cd1 hv _ => exact .cd1 hv h'
  | uu _ => exact .uu h'
  | hl hid hd2 hi r0 u0 hk hu _ => exact .hl hid hd2 hi r0 u0 hk hu h'

theorem VRs.uncons {v vs l} (h : VRs P w K S G (v :: vs) l) : ∃ u us, l = u :: us ∧ VR P w K S G v u ∧ VRs P w K S G vs us := by
  cases h with
  | t hx h => exact ⟨_, _, rfl, .t hx .nil, h⟩
  | rf hi hu h1 h => exact ⟨_, _, rfl, .rf hi hu h1 .nil, h⟩
  | sb hid h0 h1 hn hm hc hA hb h => exact ⟨_, _, rfl, .sb hid h0 h1 hn hm hc hA hb .nil, h⟩
  | np hid hi r0 u0 hk hj hr hl hu hsl h => exact ⟨_, _, rfl, .np hid hi r0 u0 hk hj hr hl hu hsl .nil, h⟩
  | pt hid hi hg h => exact ⟨_, _, rfl, .pt hid hi hg .nil, h⟩
  | ag hc h => exact ⟨_, _, rfl, .ag hc .nil, h⟩
  | tu hc h => exact ⟨_, _, rfl, .tu hc .nil, h⟩
  | fn hc h => exact ⟨_, _, rfl, .fn hc .nil, h⟩
  | cd0 h => exact ⟨_, _, rfl, .cd0 .nil, h⟩
  | cd1 hv h => exact ⟨_, _, rfl, .cd1 hv .nil, h⟩
  | uu h => exact ⟨_, _, rfl, .uu .nil, h⟩
  | hl hid hd2 hi r0 u0 hk hu h => exact ⟨_, _, rfl, .hl hid hd2 hi r0 u0 hk hu .nil, h⟩

theorem VRs.nth {vs : List V} {us : List Value} (h : VRs P w K S G vs us) : ∀ {i : Nat} {v : V}, vs[i]? = some v → ∃ u, us[i]? = some u ∧ VR P w K S G v u := by
  induction vs generalizing us with
  | nil => intro i v hv; simp at hv
  | cons a r ih =>
    intro i v hv
    obtain ⟨u, us, rfl, h1, h2⟩ := h.uncons
    cases i with
    | zero => simp at hv; subst hv; exact ⟨u, rfl, h1⟩
    | succ i => simpa using ih h2 (by simpa using hv)

theorem VRs.append {a b : List V} {ua ub} (h : VRs P w K S G a ua) (h' : VRs P w K S G b ub) : VRs P w K S G (a ++ b) (ua ++ ub) := by
  induction a generalizing ua with
  | nil => cases h; exact h'
  | cons x r ih => obtain ⟨u, us, rfl, h1, h2⟩ := h.uncons; exact .cons h1 (ih h2)

theorem VRs.unappend {a b : List V} {l} (h : VRs P w K S G (a ++ b) l) : ∃ ua ub, l = ua ++ ub ∧ VRs P w K S G a ua ∧ VRs P w K S G b ub := by
  induction a generalizing l with
  | nil => exact ⟨[], l, rfl, .nil, h⟩
  | cons x r ih =>
    obtain ⟨u, us, rfl, h1, h2⟩ := VRs.uncons h
    obtain ⟨ua, ub, rfl, h3, h4⟩ := ih h2
    exact ⟨u :: ua, ub, rfl, .cons h1 h3, h4⟩

/-- Trees that own nothing are values. -/
theorem VRs.of_CR {ts us} (h : CR P w K S ts us no) : VRs P w K S G (ts.map .t) us := by
  induction ts generalizing us with
  | nil => cases h; exact .nil
  | cons t ts ih =>
    obtain ⟨u1, u2, φ1, φ2, rfl, ha, hb, _, s1, s2⟩ := CR.split (a := [t]) h
    have hl := ha.len
    match u1, hl with
    | [u], _ => exact .t (ha.mono s1) (ih (hb.mono s2))

/-- An object in memory; φ: the blocks that it owns are among it. -/
def OR (P : Program) (w : World) (K S : Nat → Prop) (G : Gh) (φ : Nat → Prop) (id : Nat) : O → Prop
  | .row ver e sz rows => G.dom id ∧ sz = P.cellsOf e ∧ G.sz id = sz ∧ ∃ us, G.κ id ver = some (rows, us) ∧ (∀ r ∈ rows, r.length = sz) ∧ w.ownsRow 0 e sz (G.β id) rows.length us ∧
      ∃ ψ : Nat → Prop, (∀ b, (G.β id).ownBlock = some b → φ b ∧ ¬ ψ b) ∧ Sub ψ φ ∧ CR P w K K rows.flatten us ψ
  | .box e cs => G.dom id ∧ ∃ g us, G.β id = .pointer (some ⟨g, 0, none⟩) ∧ w.heap[g]? = some (.cells us.toArray e (0, 0)) ∧ φ g ∧ VRs P w K S G cs us
  | .dead => True

theorem OR.move {φ id o} (h : OR P w K S G φ id o) (hK : ∀ b, K b → w'.heap[b]? = w.heap[b]?) (hS : ∀ b, S b → w'.heap[b]? = w.heap[b]?) (hφ : ∀ b, φ b → w'.heap[b]? = w.heap[b]?) (hG : G.le G') : OR P w' K S G' φ id o := by
  cases o with
  | row ver e sz rows =>
    obtain ⟨hi, h1, h2, us, h3, h4, ⟨hl, ho⟩, ψ, h6, h7, h8⟩ := h
    refine ⟨hG.dom _ hi, h1, by rw [hG.sz _ hi]; exact h2, us, hG.κ _ _ _ h3, h4, ⟨hl, ?_⟩, ψ, by rw [hG.β _ hi]; exact h6, h7, h8.move hK hK (fun b hb => hφ b (h7 b hb))⟩
    rw [hG.β _ hi]
    rcases ho with hn | ⟨g, cap, cur, hv, h0, hg, r⟩
    · exact .inl hn
    · exact .inr ⟨g, cap, cur, hv, h0, by rw [hφ g (h6 g (by rw [hv]; simp [Value.ownBlock])).1]; exact hg, r⟩
  | box e cs =>
    obtain ⟨hi, g, us, h1, h2, h3, h4⟩ := h
    exact ⟨hG.dom _ hi, g, us, by rw [hG.β _ hi]; exact h1, by rw [hφ g h3]; exact h2, h3, h4.move hK hS hG⟩
  | dead => trivial

theorem OR.moreK {K' S' : Nat → Prop} {φ id o} (hk : Sub K K') (hs : Sub S S') (h : OR P w K S G φ id o) : OR P w K' S' G φ id o := by
  cases o with
  | row ver e sz rows =>
    obtain ⟨hi, h1, h2, us, h3, h4, h5, ψ, h6, h7, h8⟩ := h
    exact ⟨hi, h1, h2, us, h3, h4, h5, ψ, h6, h7, h8.moreK hk hk⟩
  | box e cs =>
    obtain ⟨hi, g, us, h1, h2, h3, h4⟩ := h
    exact ⟨hi, g, us, h1, h2, h3, h4.moreK hk hs⟩
  | dead => trivial

/-- Of what was there nothing has turned but in blocks of φ. -/
structure Kept (w w' : World) (φ : Nat → Prop) : Prop where
  os : w'.os = w.os
  tape : w'.tape = w.tape
  output : w'.output = w.output
  size : w.heap.size ≤ w'.heap.size
  block : ∀ b, b < w.heap.size → ¬ φ b → w'.heap[b]? = w.heap[b]?

theorem Kept.refl (w : World) (φ : Nat → Prop) : Kept w w φ := ⟨rfl, rfl, rfl, Nat.le_refl _, fun _ _ _ => rfl⟩
theorem Kept.trans {a b c : World} {φ φ' : Nat → Prop} (h : Kept a b φ) (k : Kept b c φ') (hs : ∀ x, φ' x → x < a.heap.size → φ x) : Kept a c φ :=
  ⟨k.os.trans h.os, k.tape.trans h.tape, k.output.trans h.output, Nat.le_trans h.size k.size, fun i hi hn => (k.block i (Nat.lt_of_lt_of_le hi h.size) (fun hx => hn (hs i hx hi))).trans (h.block i hi hn)⟩
theorem Kept.drew {a w : World} {φ : Nat → Prop} (h : Kept a w φ) : Kept a w.drew φ := ⟨h.os, h.tape, h.output, h.size, h.block⟩
theorem Kept.of_grown {w w' : World} {row : Option Nat} (h : w.grownBy w' row) : Kept w w' (fun b => row = some b) := ⟨h.os, h.tape, h.output, h.size, fun b hb hn => h.block b hb (fun e => hn e.symm)⟩
theorem Kept.alloc (w : World) (o : Obj) (φ : Nat → Prop) : Kept w (w.alloc o) φ := ⟨rfl, rfl, rfl, by simp, fun b hb _ => heap_alloc_old w o b hb⟩

/-- The frame of a call: the world in which it began, the blocks that it was lent, those that may be kept. -/
structure Fr where
  P : Program
  w0 : World
  φ0 : Nat → Prop
  K : Nat → Prop
  anc : Nat → Option Value

structure Rel0 (F : Fr) (σ : St) (a : Act) (w : World) (S : Nat → Prop) (G : Gh) (φ : Nat → Nat → Prop) : Prop where
  nx : ∀ i, G.dom i → i < σ.nx ∨ hasKey σ.objs i = true
  kd : ∀ i v x, G.κ i v = some x → G.dom i ∧ ∀ ver e sz rows, look .dead σ.objs i = .row ver e sz rows → v ≤ ver
  n : a.tmps.size = σ.n
  KS : Sub F.K S
  Slt : ∀ b, S b → b < w.heap.size
  env : ∀ t, VR F.P w F.K S G (look .u σ.env t) (a.tmps.getD t undef)
  obj : ∀ id, OR F.P w F.K S G (φ id) id (look .dead σ.objs id)
  dj : ∀ i j, i ≠ j → Dj (φ i) (φ j)
  own : ∀ i b, φ i b → b < w.heap.size ∧ ¬ S b ∧ (F.w0.heap.size ≤ b ∨ F.φ0 b)
  kept : Kept F.w0 w F.φ0
  defs : a.defers = []
  anc : ∀ i v, F.anc i = some v → G.dom i ∧ G.β i = v

/-- The frame, with other blocks that may be kept. -/
abbrev Fr.up (F : Fr) (K : Nat → Prop) : Fr := ⟨F.P, F.w0, F.φ0, K, F.anc⟩
def KLe (F : Fr) (K : Nat → Prop) : Prop := Sub F.K K ∧ ∀ b, K b → F.K b ∨ F.w0.heap.size ≤ b ∨ F.φ0 b
theorem KLe.refl (F : Fr) : KLe F F.K := ⟨fun _ h => h, fun _ h => .inl h⟩
theorem KLe.trans {F : Fr} {K K' : Nat → Prop} (h : KLe F K) (h' : KLe (F.up K) K') : KLe F K' := ⟨fun b hb => h'.1 b (h.1 b hb), fun b hb => (h'.2 b hb).elim (h.2 b) .inr⟩
def Rel (F : Fr) (σ : St) (a : Act) (w : World) : Prop := ∃ K, KLe F K ∧ ∃ S G φ, Rel0 (F.up K) σ a w S G φ
theorem Rel0.rel {F : Fr} {σ a w S G φ} (h : Rel0 F σ a w S G φ) : Rel F σ a w := ⟨F.K, KLe.refl F, S, G, φ, h⟩

theorem Rel0.drew {F σ a w S G φ} (h : Rel0 F σ a w S G φ) : Rel0 F σ a w.drew S G φ := by
  refine ⟨h.nx, h.kd, h.n, h.KS, h.Slt, fun t => (h.env t).move (w' := w.drew) (fun _ _ => rfl) (fun _ _ => rfl) (Gh.le.refl _), fun i => (h.obj i).move (w' := w.drew) (fun _ _ => rfl) (fun _ _ => rfl) (fun _ _ => rfl) (Gh.le.refl _), h.dj, h.own, h.kept.drew, h.defs, h.anc⟩

def St.put (σ : St) (d : Nat) (v : V) (os : List (Nat × O)) : St := ⟨σ.n, σ.nx, (d, v) :: σ.env, os ++ σ.objs⟩

theorem look_cons {α : Type} (d : α) (k : Nat) (x : α) (r : List (Nat × α)) (n : Nat) : look d ((k, x) :: r) n = if n = k then x else look d r n := by
  by_cases h : n = k
  · subst h; simp [look, nq_self]
  · have hb : nq n k = false := by
      cases hc : nq n k with
      | false => rfl
      | true => exact absurd (nq_eq hc) h
    rw [if_neg h, look, hb]; rfl

theorem getD_put {a : Act} {d t : Nat} {v : Value} (hd : d < a.tmps.size) : (a.put (some d) v).tmps.getD t undef = if t = d then v else a.tmps.getD t undef := by
  simp only [Act.put, Array.getD_eq_getD_getElem?, Array.getElem?_setIfInBounds]
  by_cases h : d = t
  · subst h; simp [hd]
  · rw [if_neg h, if_neg (fun e => h e.symm)]

/-- A temporary is written, memory stays. -/
theorem Rel0.set {F σ a w S G φ} (h : Rel0 F σ a w S G φ) {d : Nat} {v : V} {u : Value} (hd : d < σ.n) (hv : VR F.P w F.K S G v u) : Rel0 F (σ.put d v []) (a.put (some d) u) w S G φ := by
  refine ⟨h.nx, h.kd, by simpa [Act.put, St.put] using h.n, h.KS, h.Slt, fun t => ?_, h.obj, h.dj, h.own, h.kept, by simpa [Act.put] using h.defs, h.anc⟩
  rw [getD_put (by rw [h.n]; exact hd)]
  show VR F.P w F.K S G (look .u ((d, v) :: σ.env) t) _
  rw [look_cons]
  split
  · exact hv
  · exact h.env t

/-- The blocks of S, and what an untouched object owns, are as they were, where only blocks outside have turned. -/
theorem Rel0.step {F σ a w S G φ} (h : Rel0 F σ a w S G φ) {w' : World} {G' : Gh} {φ' : Nat → Nat → Prop} {τ : Nat → Prop} (hk : Kept w w' τ) (hG : G.le G') (σ' : St) (hn : σ'.n = σ.n) (hnx : ∀ i, G'.dom i → i < σ'.nx ∨ hasKey σ'.objs i = true) (henv : σ'.env = σ.env)
    (hkd : ∀ i v x, G'.κ i v = some x → G'.dom i ∧ ∀ ver e sz rows, look .dead σ'.objs i = .row ver e sz rows → v ≤ ver)
    (hτ : ∀ b, τ b → b < w.heap.size → ¬ S b ∧ (F.w0.heap.size ≤ b ∨ F.φ0 b))
    (hobj : ∀ i, (look .dead σ'.objs i = look .dead σ.objs i ∧ φ' i = φ i ∧ ∀ b, φ i b → ¬ τ b) ∨ OR F.P w' F.K S G' (φ' i) i (look .dead σ'.objs i))
    (hdj : ∀ i j, i ≠ j → Dj (φ' i) (φ' j)) (hown : ∀ i b, φ' i b → φ i b ∨ (b < w'.heap.size ∧ ¬ S b ∧ (F.w0.heap.size ≤ b ∨ F.φ0 b))) : Rel0 F σ' a w' S G' φ' := by
  have hS : ∀ b, S b → w'.heap[b]? = w.heap[b]? := fun b hb => hk.block b (h.Slt b hb) (fun ht => (hτ b ht (h.Slt b hb)).1 hb)
  have hK : ∀ b, F.K b → w'.heap[b]? = w.heap[b]? := fun b hb => hS b (h.KS b hb)
  refine ⟨hnx, hkd, h.n.trans hn.symm, h.KS, fun b hb => Nat.lt_of_lt_of_le (h.Slt b hb) hk.size, fun t => by rw [henv]; exact (h.env t).move hK hS hG, fun i => ?_, hdj, fun i b hb => ?_, h.kept.trans hk (fun b hb hlt => ?_), h.defs, fun i v hi => ⟨hG.dom _ (h.anc i v hi).1, (hG.β _ (h.anc i v hi).1).trans (h.anc i v hi).2⟩⟩
  · rcases hobj i with ⟨e1, e2, e3⟩ | ho
    · rw [e1, e2]; exact (h.obj i).move hK hS (fun b hb => hk.block b (h.own i b hb).1 (e3 b hb)) hG
    · exact ho
  · rcases hown i b hb with hb | hb
    · exact ⟨Nat.lt_of_lt_of_le (h.own i b hb).1 hk.size, (h.own i b hb).2⟩
    · exact hb
  · rcases (hτ b hb (Nat.lt_of_lt_of_le hlt h.kept.size)).2 with hx | hx
    · omega
    · exact hx

theorem look_append {α : Type} (d : α) (l r : List (Nat × α)) (n : Nat) : look d (l ++ r) n = if hasKey l n then look d l n else look d r n := by
  induction l with
  | nil => simp [hasKey]
  | cons p l ih =>
    obtain ⟨k, x⟩ := p
    rw [List.cons_append, look_cons, look_cons, ih]
    by_cases h : n = k
    · subst h; simp [hasKey, nq_self]
    · have hb : nq n k = false := by
        cases hc : nq n k with
        | false => rfl
        | true => exact absurd (nq_eq hc) h
      simp [hasKey, hb, h]

theorem hasKey_cons {α : Type} (k : Nat) (x : α) (r : List (Nat × α)) (n : Nat) : hasKey ((k, x) :: r) n = true ↔ n = k ∨ hasKey r n = true := by
  by_cases h : n = k
  · subst h; simp [hasKey, nq_self]
  · have hb : nq n k = false := by
      cases hc : nq n k with
      | false => rfl
      | true => exact absurd (nq_eq hc) h
    simp [hasKey, hb, h]
theorem hasKey_append {α : Type} (l r : List (Nat × α)) (n : Nat) : hasKey (l ++ r) n = true ↔ hasKey l n = true ∨ hasKey r n = true := by
  induction l with
  | nil => simp [hasKey]
  | cons p l ih => obtain ⟨k, x⟩ := p; rw [List.cons_append, hasKey_cons, hasKey_cons, ih, or_assoc]

theorem hasKey_deads (ds : List Nat) (n : Nat) : hasKey (deads ds) n = true ↔ n ∈ ds := by
  induction ds with
  | nil => simp [deads, hasKey]
  | cons d r ih => rw [deads, hasKey_cons, ih, List.mem_cons]
theorem look_deads (ds : List Nat) (n : Nat) : look O.dead (deads ds) n = .dead := by
  induction ds with
  | nil => rfl
  | cons d r ih => rw [deads, look_cons]; split <;> simp_all

theorem nodupB_iff : ∀ ds : List Nat, nodupB ds = true → ds.Nodup
  | [], _ => .nil
  | d :: r, h => by
    have mem : ∀ l : List Nat, nodupB.memB d l = false → d ∉ l := by
      intro l
      induction l with
      | nil => simp
      | cons x l ih =>
        intro h
        simp only [nodupB.memB] at h
        cases hb : nq d x with
        | true => simp [hb] at h
        | false =>
          rw [hb] at h
          intro hm
          rcases List.mem_cons.1 hm with rfl | hm
          · simp [nq_self] at hb
          · exact ih h hm
    simp only [nodupB] at h
    split at h
    · simp at h
    · rename_i hm
      exact List.nodup_cons.2 ⟨mem r hm, nodupB_iff r h⟩

/-- A new object: what the ghost says of it. -/
def Gh.add (G : Gh) (id : Nat) (v : Value) (sz : Nat) (k : Option (Rws × List Value)) : Gh where
  dom i := G.dom i ∨ i = id
  β i := if i = id then v else G.β i
  sz i := if i = id then sz else G.sz i
  κ i j := if i = id then (if j = 0 then k else none) else G.κ i j

theorem Gh.le_add {G : Gh} {id : Nat} (hid : ¬ G.dom id) (hk : ∀ v x, G.κ id v = some x → G.dom id) (v sz k) : G.le (G.add id v sz k) := by
  have ne : ∀ {i}, G.dom i → i ≠ id := by
    rintro i h rfl
    exact hid h
  refine ⟨fun i h => .inl h, fun i h => ?_, fun i h => ?_, fun i j x h => ?_⟩
  · simp only [Gh.add]; rw [if_neg (ne h)]
  · simp only [Gh.add]; rw [if_neg (ne h)]
  · simp only [Gh.add]
    rw [if_neg (by rintro rfl; exact hid (hk j x h))]
    exact h

/-- A NEW OBJECT, made of new blocks and of what the objects ds had. -/
theorem Rel0.new {F σ a w S G φ} (h : Rel0 F σ a w S G φ) {w' : World} {τ : Nat → Prop} (hk : Kept w w' τ) {id : Nat} (hid : ¬ G.dom id) {ds : List Nat} {v : Value} {sz : Nat} {k : Option (Rws × List Value)} {o : O}
    (hτ : ∀ b, τ b → ∃ d ∈ ds, φ d b)
    (ho : OR F.P w' F.K S (G.add id v sz k) (fun b => (∃ d ∈ ds, φ d b) ∨ (w.heap.size ≤ b ∧ b < w'.heap.size)) id o) (hfr : ∀ d ∈ ds, d ≠ id) :
    Rel0 F ⟨σ.n, σ.nx, σ.env, (id, o) :: (deads ds ++ σ.objs)⟩ a w' S (G.add id v sz k) (fun i b => if i = id then (∃ d ∈ ds, φ d b) ∨ (w.heap.size ≤ b ∧ b < w'.heap.size) else if i ∈ ds then False else φ i b) := by
  have hle := Gh.le_add hid (fun v x hx => (h.kd id v x hx).1) v sz k
  have hlk : ∀ i, look O.dead ((id, o) :: (deads ds ++ σ.objs)) i = if i = id then o else if i ∈ ds then .dead else look .dead σ.objs i := by
    intro i
    rw [look_cons, look_append, look_deads]
    by_cases hi : i = id
    · simp [hi]
    · rw [if_neg hi, if_neg hi]
      by_cases hd : i ∈ ds
      · rw [if_pos hd, if_pos ((hasKey_deads ds i).2 hd)]
      · rw [if_neg hd, if_neg (fun e => hd ((hasKey_deads ds i).1 e))]
  have hnew : ∀ i b, φ i b → ¬ w.heap.size ≤ b := fun i b hb => by have := (h.own i b hb).1; omega
  refine h.step hk hle _ rfl (fun i hi => ?_) rfl (fun i j x hx => ?_) (fun b hb hlt => ?_) (fun i => ?_) (fun i j hij => ?_) (fun i b hb => ?_)
  · rcases hi with hi | rfl
    · rcases h.nx i hi with hi | hi
      · exact .inl hi
      · exact .inr ((hasKey_cons _ _ _ _).2 (.inr ((hasKey_append _ _ _).2 (.inr hi))))
    · exact .inr ((hasKey_cons _ _ _ _).2 (.inl rfl))
  · simp only [Gh.add] at hx
    by_cases hi : i = id
    · subst hi
      rw [if_pos rfl] at hx
      split at hx
      · rename_i hj
        refine ⟨.inr rfl, fun ver e sz rows hl => ?_⟩
        omega
      · simp at hx
    · rw [if_neg hi] at hx
      obtain ⟨h1, h2⟩ := h.kd i j x hx
      refine ⟨.inl h1, fun ver e sz rows hl => ?_⟩
      rw [hlk, if_neg hi] at hl
      split at hl
      · simp at hl
      · exact h2 _ _ _ _ hl
  · obtain ⟨d, _, hb⟩ := hτ b hb
    exact (h.own d b hb).2
  · rw [hlk]
    by_cases hi : i = id
    · right
      rw [if_pos hi]
      subst hi
      simpa using ho
    · rw [if_neg hi]
      by_cases hd : i ∈ ds
      · right; rw [if_pos hd]; trivial
      · left
        rw [if_neg hd]
        refine ⟨rfl, by funext b; simp [hd, hi], fun b hb ht => ?_⟩
        obtain ⟨d, hdm, hb'⟩ := hτ b ht
        exact h.dj i d (fun e => hd (e ▸ hdm)) b hb hb'
  · intro b hb hb'
    by_cases hi : i = id
    · rw [if_pos hi] at hb
      rw [if_neg (fun e => hij (hi.trans e.symm))] at hb'
      split at hb'
      · exact hb'
      · rename_i hjd
        rcases hb with ⟨d, hd, hb⟩ | hb
        · exact h.dj d j (fun e => hjd (e ▸ hd)) b hb hb'
        · exact hnew j b hb' hb.1
    · rw [if_neg hi] at hb
      split at hb
      · exact hb
      · rename_i hid'
        by_cases hj : j = id
        · rw [if_pos hj] at hb'
          rcases hb' with ⟨d, hd, hb'⟩ | hb'
          · exact h.dj i d (fun e => hid' (e ▸ hd)) b hb hb'
          · exact hnew i b hb hb'.1
        · rw [if_neg hj] at hb'
          split at hb'
          · exact hb'
          · exact h.dj i j hij b hb hb'
  · by_cases hi : i = id
    · rw [if_pos hi] at hb
      rcases hb with ⟨d, hd, hb⟩ | hb
      · have := h.own d b hb
        exact .inr ⟨Nat.lt_of_lt_of_le this.1 hk.size, this.2⟩
      · refine .inr ⟨hb.2, fun hs => by have := h.Slt b hs; omega, .inl (Nat.le_trans h.kept.size hb.1)⟩
    · rw [if_neg hi] at hb
      split at hb
      · exact hb.elim
      · exact .inl hb

end Go.Proofs.Ytgicjbeaomjdgaa.L
