/- A region whose order is drawn, 3: any order does what the text's order does. -/
import Derived.Test.YtgicjbeaomjdgaaSl23
import Derived.Orders
namespace Go.Proofs.Ytgicjbeaomjdgaa.L
set_option linter.unusedVariables false
set_option linter.unusedSimpArgs false
open Go

variable {F : Fr} {σ σ' : St} {a : Act} {w : World} {tab : List (Nat × Ty)} {P : Program}

/-- What the checks give. -/
structure Drawn (P : Program) (tab : List (Nat × Ty)) (ops : List Oper) (sups : List (Nat × Sup)) (σ : St) (pm : List Nat) (ents : List Ent) : Prop where
  cert : certB pm 0 ops = true
  pairs : pairsB pm ents 0 ents = true
  steps : stepsAt P Ls tab ops sups σ pm ents 0 ops = somes ents
  ps : AllP (allPs ents)

variable {ops : List Oper} {sups : List (Nat × Sup)} {pm : List Nat} {ents : List Ent}

theorem Drawn.lt (h : Drawn P tab ops sups σ pm ents) : ∀ (i : Nat) o, ops[i]? = some o → ∀ b, Nat.testBit (nthD pm i) b = true → b < i := by
  intro i
  induction i using Nat.strongRecOn with
  | _ i ih =>
    intro o ho b hb
    obtain ⟨h1, h2⟩ := certB_at h.cert i o ho
    rw [Nat.zero_add] at h1 h2
    rw [h1] at hb
    obtain ⟨e, he, hbe, hor⟩ := maskOf_bit hb
    have hlt := edgesB_lt h2 e he hbe
    rcases hor with rfl | hor
    · exact hlt
    · have hlen : e.on < ops.length := Nat.lt_trans hlt (List.getElem?_eq_some_iff.1 ho).1
      have := ih e.on hlt ops[e.on] (List.getElem?_eq_getElem hlen) b hor
      omega

/-- Ahead of what has run, all has run. -/
def Closed (pm : List Nat) (X : Nat → Bool) : Prop := ∀ j, X j = true → ∀ p, Nat.testBit (nthD pm j) p = true → X p = true

theorem apartB_of {i j : Nat} (h1 : i ≠ j) (h2 : Nat.testBit (nthD pm i) j = false) (h3 : Nat.testBit (nthD pm j) i = false) : apartB pm i j = true := by
  unfold apartB
  have : nq i j = false := by
    cases hq : nq i j with
    | false => rfl
    | true => exact absurd (nq_eq hq) h1
  rw [this, h2, h3]

/-- What may be masked of the state at hand. -/
theorem mask_le (h : Drawn P tab ops sups σ pm ents) {X : Nat → Bool} {i : Nat} {o : Oper} (ho : ops[i]? = some o) (hX : X i = false) (hc : Closed pm X) (hP : ∀ p, Nat.testBit (nthD pm i) p = true → X p = true) : SLe (maskAt σ pm ents i) (σ.cut X ents) := by
  have hlen := (stepsAt_at h.steps).2
  have agree : ∀ {f : Ent → List (Nat × V)} {α : Type} {g : Ent → List (Nat × α)} (t : Nat), (∀ k e, ents[k]? = some e → apartB pm i (0 + k) = true → hasKey (g e) t = false) → ∀ k e, ents[k]? = some e → hasKey (g e) t = true → Nat.testBit (nthD pm i) (0 + k) = X (0 + k) := by
    intro f α g t hU k e hk ht
    rw [Nat.zero_add]
    have hlt : k < ops.length := by rw [← hlen]; exact (List.getElem?_eq_some_iff.1 hk).1
    by_cases hki : k = i
    · subst hki
      rw [hX]
      cases hb : Nat.testBit (nthD pm k) k with
      | false => rfl
      | true => exact absurd (h.lt k o ho k hb) (Nat.lt_irrefl _)
    · cases h2 : Nat.testBit (nthD pm i) k with
      | true => exact (hP k h2).symm
      | false =>
        cases h3 : Nat.testBit (nthD pm k) i with
        | false =>
          have := hU k e hk (by rw [Nat.zero_add]; exact apartB_of (fun e => hki e.symm) h2 h3)
          rw [this] at ht
          simp at ht
        | true =>
          cases hx : X k with
          | false => rfl
          | true => have := hc k hx i h3; rw [hX] at this; simp at this
  refine ⟨rfl, rfl, fun t => ?_, fun t => ?_, fun t ht => ?_⟩
  · show look .u (cut maskE _ 0 ents ++ _) t = .u ∨ look .u (cut Ent.env X 0 ents ++ σ.env) t = look .u (cut maskE _ 0 ents ++ _) t
    rw [look_append (l := cut maskE _ 0 ents)]
    cases hk : hasKey (cut maskE (fun j => apartB pm i j) 0 ents) t with
    | true => exact .inl (by simp [look_mask])
    | false =>
      refine .inr ?_
      have hU := hasKey_cut (f := Ent.env) (fun e => hasKey_maskE e t) 0 ents hk
      have := cut_agree V.u Ent.env (X := fun j => Nat.testBit (nthD pm i) j) (Y := X) (t := t) 0 ents (agree (f := Ent.env) t hU)
      simp only [look_append, this.1, this.2, Bool.false_eq_true, if_false]
  · show look .dead (cut maskO _ 0 ents ++ _) t = .dead ∨ look .dead (cut Ent.os X 0 ents ++ σ.objs) t = look .dead (cut maskO _ 0 ents ++ _) t
    rw [look_append (l := cut maskO _ 0 ents)]
    cases hk : hasKey (cut maskO (fun j => apartB pm i j) 0 ents) t with
    | true => exact .inl (by simp [look_maskO])
    | false =>
      refine .inr ?_
      have hU := hasKey_cut (f := Ent.os) (fun e => hasKey_deadK e.os t) 0 ents hk
      have := cut_agree O.dead Ent.os (X := fun j => Nat.testBit (nthD pm i) j) (Y := X) (t := t) 0 ents (agree (f := Ent.env) t hU)
      simp only [look_append, this.1, this.2, Bool.false_eq_true, if_false]
  · show hasKey (cut maskO _ 0 ents ++ _) t = true
    have ht : hasKey (cut Ent.os X 0 ents ++ σ.objs) t = true := ht
    rw [hasKey_app] at ht ⊢
    cases hk : hasKey (cut maskO (fun j => apartB pm i j) 0 ents) t with
    | true => simp
    | false =>
      have hU := hasKey_cut (f := Ent.os) (fun e => hasKey_deadK e.os t) 0 ents hk
      have := cut_agree O.dead Ent.os (X := fun j => Nat.testBit (nthD pm i) j) (Y := X) (t := t) 0 ents (agree (f := Ent.env) t hU)
      rw [hasKey_app, this.2]
      simpa using ht

theorem cut_more (h : Drawn P tab ops sups σ pm ents) {X : Nat → Bool} {i : Nat} {o : Oper} {en : Ent} (ho : ops[i]? = some o) (hen : ents[i]? = some en) (hX : X i = false) (hc : Closed pm X) {a : Act} {w : World} (hr : Rel F ((σ.cut X ents).upd en.d en.v en.os) a w) : Rel F (σ.cut (fun k => k == i || X k) ents) a w := by
  have hp : ∀ k e, ents[k]? = some e → i < 0 + k → X (0 + k) = true → disjB en.env e.env = true ∧ disjB en.os e.os = true := by
    intro k e hk hlt hx
    rw [Nat.zero_add] at hlt hx
    refine pairRow_at (by simpa using pairsB_at h.pairs i en hen) k e hk ?_
    rw [Nat.zero_add]
    refine apartB_of (by omega) ?_ ?_
    · cases hb : Nat.testBit (nthD pm i) k with
      | false => rfl
      | true => exact absurd (h.lt i o ho k hb) (by omega)
    · cases hb : Nat.testBit (nthD pm k) i with
      | false => rfl
      | true => have := hc k hx i hb; rw [hX] at this; simp at this
  have flip : ∀ {x y : Bool}, (x = true → y = false) → (y = true → x = false) := by
    intro x y hxy hy
    cases x with
    | false => rfl
    | true => rw [hxy rfl] at hy; simp at hy
  have hE : ∀ t, look V.u (cut Ent.env (fun k => k == i || X k) 0 ents) t = (if hasKey en.env t = true then look .u en.env t else look .u (cut Ent.env X 0 ents) t) ∧ hasKey (cut Ent.env (fun k => k == i || X k) 0 ents) t = (hasKey en.env t || hasKey (cut Ent.env X 0 ents) t) := fun t => cut_ins V.u Ent.env (t := t) hX 0 ents (Nat.zero_le _) (by simpa using hen) (fun k e hk hlt hx => flip (disjB_at (hp k e hk hlt hx).1 t))
  have hO : ∀ t, look O.dead (cut Ent.os (fun k => k == i || X k) 0 ents) t = (if hasKey en.os t = true then look .dead en.os t else look .dead (cut Ent.os X 0 ents) t) ∧ hasKey (cut Ent.os (fun k => k == i || X k) 0 ents) t = (hasKey en.os t || hasKey (cut Ent.os X 0 ents) t) := fun t => cut_ins O.dead Ent.os (t := t) hX 0 ents (Nat.zero_le _) (by simpa using hen) (fun k e hk hlt hx => flip (disjB_at (hp k e hk hlt hx).2 t))
  have henv : ((σ.cut X ents).upd en.d en.v en.os).env = en.env ++ (cut Ent.env X 0 ents ++ σ.env) := by
    unfold St.upd Ent.env St.cut
    cases en.d <;> rfl
  refine Rel.congr hr rfl rfl (fun t => ?_) (fun t => ?_) (fun t ht => ?_)
  · rw [henv]
    show look .u (cut Ent.env _ 0 ents ++ σ.env) t = _
    rw [look_append, (hE t).1, (hE t).2, look_append, look_append]
    cases hasKey en.env t <;> simp
  · show look .dead (cut Ent.os _ 0 ents ++ σ.objs) t = look .dead (en.os ++ (cut Ent.os X 0 ents ++ σ.objs)) t
    rw [look_append, (hO t).1, (hO t).2, look_append, look_append]
    cases hasKey en.os t <;> simp
  · show hasKey (cut Ent.os _ 0 ents ++ σ.objs) t = true
    have ht : hasKey (en.os ++ (cut Ent.os X 0 ents ++ σ.objs)) t = true := ht
    rw [hasKey_app, hasKey_app] at ht
    rw [hasKey_app, (hO t).2, Bool.or_assoc]
    exact ht

def unl (n : Nat) (listed : Array Bool) : Nat := ((List.range n).filter fun k => !listed.getD k false).length

theorem filter_lt {α : Type} {p q : α → Bool} : ∀ {l : List α}, (∀ x ∈ l, q x = true → p x = true) → (∃ x ∈ l, p x = true ∧ q x = false) → (l.filter q).length < (l.filter p).length
  | [], _, ⟨x, h, _⟩ => by simp at h
  | y :: l, h, ⟨x, hx, h1, h2⟩ => by
    have hle : ∀ {l : List α}, (∀ x ∈ l, q x = true → p x = true) → (l.filter q).length ≤ (l.filter p).length := by
      intro l
      induction l with
      | nil => intro _; simp
      | cons z l ih =>
        intro hz
        have := ih (fun x hx => hz x (List.mem_cons_of_mem _ hx))
        cases hq : q z with
        | true => simp [hq, hz z (by simp) hq]; exact this
        | false => cases hp : p z <;> simp [hq, hp] <;> omega
    rcases List.mem_cons.1 hx with rfl | hx
    · simp only [List.filter_cons, h1, h2, if_true, Bool.false_eq_true, if_false, List.length_cons]
      have := hle (l := l) (fun x hx => h x (List.mem_cons_of_mem _ hx))
      omega
    · have ih := filter_lt (l := l) (fun x hx => h x (List.mem_cons_of_mem _ hx)) ⟨x, hx, h1, h2⟩
      cases hq : q y with
      | true => simp [hq, h y (by simp) hq]; exact ih
      | false => cases hp : p y <;> simp [hq, hp] <;> omega

/-- ANY ORDER. -/
theorem draw_any (ht : TabOk F.P tab) (h : Drawn F.P tab ops sups σ pm ents) {Q : Exit → Act → World → Prop} (hq : ∀ a w, Rel F (σ.cut (fun _ => true) ents) a w → Q .normal a w) :
    ∀ (fuel : Nat) (listed : Array Bool) (a : Act) (w : World), listed.size = ops.length → unl ops.length listed ≤ fuel → Closed pm (fun k => listed.getD k false) → Rel F (σ.cut (fun k => listed.getD k false) ents) a w → wpAny F.P .any ops.toArray Q fuel listed a w := by
  have hlen := (stepsAt_at h.steps).2
  have done : ∀ (listed : Array Bool) (a : Act) (w : World), listed.size = ops.length → Rel F (σ.cut (fun k => listed.getD k false) ents) a w → Region.ready .any ops.toArray listed = [] → Q .normal a w := by
    intro listed a w hsz hr hnil
    have all : ∀ k, k < ops.length → listed.getD k false = true := by
      intro k
      induction k using Nat.strongRecOn with
      | _ k ih =>
        intro hk
        cases hl : listed.getD k false with
        | true => rfl
        | false =>
          have : k ∈ Region.ready .any ops.toArray listed := by
            rw [mem_ready]
            refine ⟨?_, ops[k], by simp [hk], fun e he hb => ?_⟩
            · have hk' : k < listed.size := by omega
              simp [Array.getD_eq_getD_getElem?, hk'] at hl ⊢
              exact hl
            · rw [bindsB_eq] at hb
              have := edgesB_lt (certB_at h.cert k ops[k] (List.getElem?_eq_getElem hk)).2 e (by simpa using he) hb
              rw [Nat.zero_add] at this
              exact ih e.on this (by omega)
          rw [hnil] at this
          simp at this
    refine hq a w (Rel.congr hr rfl rfl (fun t => ?_) (fun t => ?_) (fun t htt => ?_))
    · have := cut_agree V.u Ent.env (X := fun _ => true) (Y := fun k => listed.getD k false) (t := t) 0 ents (fun k e hk _ => by
        have := (List.getElem?_eq_some_iff.1 hk).1
        rw [Nat.zero_add]; exact (all k (by omega)).symm)
      show look .u (cut Ent.env _ 0 ents ++ σ.env) t = look .u (cut Ent.env _ 0 ents ++ σ.env) t
      rw [look_append, look_append, this.1, this.2]
    · have := cut_agree O.dead Ent.os (X := fun _ => true) (Y := fun k => listed.getD k false) (t := t) 0 ents (fun k e hk _ => by
        have := (List.getElem?_eq_some_iff.1 hk).1
        rw [Nat.zero_add]; exact (all k (by omega)).symm)
      show look .dead (cut Ent.os _ 0 ents ++ σ.objs) t = look .dead (cut Ent.os _ 0 ents ++ σ.objs) t
      rw [look_append, look_append, this.1, this.2]
    · have := cut_agree O.dead Ent.os (X := fun _ => true) (Y := fun k => listed.getD k false) (t := t) 0 ents (fun k e hk _ => by
        have := (List.getElem?_eq_some_iff.1 hk).1
        rw [Nat.zero_add]; exact (all k (by omega)).symm)
      show hasKey (cut Ent.os _ 0 ents ++ σ.objs) t = true
      have htt : hasKey (cut Ent.os _ 0 ents ++ σ.objs) t = true := htt
      rw [hasKey_app] at htt ⊢
      rw [this.2]
      exact htt
  intro fuel
  induction fuel with
  | zero =>
    intro listed a w hsz hf hc hr
    have hnil : Region.ready .any ops.toArray listed = [] := by
      refine List.eq_nil_iff_forall_not_mem.2 fun i hi => ?_
      obtain ⟨h0, o, ho, _⟩ := mem_ready.1 hi
      have hi' : i < ops.length := by
        have := (Array.getElem?_eq_some_iff.1 ho).1
        simpa using this
      have : i ∈ (List.range ops.length).filter fun k => !listed.getD k false := by
        refine List.mem_filter.2 ⟨List.mem_range.2 hi', ?_⟩
        have hk' : i < listed.size := by omega
        simp [Array.getD_eq_getD_getElem?, hk'] at h0 ⊢
        exact h0
      unfold unl at hf
      have h1 := List.length_pos_of_mem this
      omega
    exact ⟨hnil, done listed a w hsz hr hnil⟩
  | succ fuel ih =>
    intro listed a w hsz hf hc hr
    refine ⟨done listed a w hsz hr, fun i hi => ?_⟩
    obtain ⟨h0, o, ho, hall⟩ := mem_ready.1 hi
    have ho' : ops[i]? = some o := by simpa using ho
    have hi' : i < ops.length := (List.getElem?_eq_some_iff.1 ho').1
    have hk' : i < listed.size := by omega
    have hXi : listed.getD i false = false := by
      simp [Array.getD_eq_getD_getElem?, hk'] at h0 ⊢
      exact h0
    have hP : ∀ p, Nat.testBit (nthD pm i) p = true → listed.getD p false = true := by
      intro p hp
      obtain ⟨h1, _⟩ := certB_at h.cert i o ho'
      rw [Nat.zero_add] at h1
      rw [h1] at hp
      obtain ⟨e, he, hb, hor⟩ := maskOf_bit hp
      have := hall e (by simpa using he) (by rw [bindsB_eq]; exact hb)
      rcases hor with rfl | hor
      · exact this
      · exact hc e.on this p hor
    obtain ⟨en, hen, hst⟩ := (stepsAt_at h.steps).1 i o ho'
    rw [Nat.zero_add] at hst
    have hpe := allPs_at h.ps i en hen
    unfold stepAt at hst
    split at hst
    · simp at hst
    · rename_i hok
      split at hst
      · simp at hst
      · rename_i ps v os hstep
        simp only [Option.some.injEq] at hst
        subst hst
        have hle := mask_le h ho' hXi hc hP
        have hstep' := stepR_le hle hok hstep
        obtain ⟨K, hK, S, G, φ, hr⟩ := hr
        unfold wpOp
        rw [ho]
        try simp only
        have hset : (fun k => (listed.setIfInBounds i true).getD k false) = fun k => k == i || listed.getD k false := by
          funext k
          by_cases e : k = i
          · subst e; simp [hk']
          · rw [getD_set_ne false (fun e' => e e'.symm)]
            have : (k == i) = false := by simp [e]
            rw [this, Bool.false_or]
        have key := stepR_sound (F := F.up K) (next := wpAny F.P .any ops.toArray Q fuel (listed.setIfInBounds i true)) (Q := Q) hr ht hstep' hpe fun K' S' a' w' G' φ' hk h1 => by
          refine ih _ a' w' (by simpa using hsz) ?_ ?_ ?_
          · have : unl ops.length (listed.setIfInBounds i true) < unl ops.length listed := by
              refine filter_lt (fun k _ hkq => ?_) ⟨i, List.mem_range.2 hi', by simp only [hXi]; rfl, by simp [hk']⟩
              have := congrFun hset k
              try simp only at this
              rw [this] at hkq
              cases hx : listed.getD k false with
              | false => rfl
              | true => rw [hx] at hkq; simp at hkq
            omega
          · rw [hset]
            intro j hj p hp
            rw [Bool.or_eq_true] at hj ⊢
            rcases hj with hj | hj
            · have : j = i := by simpa using hj
              subst this
              exact .inr (hP p hp)
            · exact .inr (hc j hj p hp)
          · rw [hset]
            exact cut_more h ho' hen hXi hc ⟨K', hK.trans hk, S', G', φ', h1⟩
        split
        · rename_i hw
          rw [if_pos hw] at key
          exact .inl key
        · rename_i hw
          rw [if_neg hw] at key
          exact key

theorem cut_none {α : Type} (f : Ent → List (Nat × α)) : ∀ (i : Nat) (ents : List Ent), cut f (fun _ => false) i ents = []
  | _, [] => rfl
  | i, e :: r => by simp [cut, cut_none f (i + 1) r]

theorem Run.draw {L : Lf} (hL : L = Ls) (ht : TabOk F.P tab) (hm : F.P.follows .mixedOrders = true) (sups : List (Nat × Sup)) {id : Nat} {ops : List Oper} {Q : Exit → St → Prop} {pm : List Nat} {ents : List Ent} (_h0 : clos [] ops = pm) (h1 : collect F.P L tab ops sups 0 ops σ = some ents)
    (h2 : certB pm 0 ops = true) (h3 : pairsB pm ents 0 ents = true) (h4 : stepsAt F.P L tab ops sups σ pm ents 0 ops = somes ents) (hp : AllP (allPs ents)) (hq : Q .normal (σ.fin ents)) : Run F σ (.region id ops.toArray true) Q := by
  subst hL
  have hd : Drawn F.P tab ops sups σ pm ents := ⟨h2, h3, h4, hp⟩
  have hfin : ∀ a w, Rel F (σ.cut (fun _ => true) ents) a w → ∃ σ', Q .normal σ' ∧ Rel F σ' a w := by
    intro a w hr
    refine ⟨σ.fin ents, hq, ?_⟩
    have : Rel F (σ.cut (fun _ => true) ents).bump a w := Rel.bump hr
    unfold St.fin
    rw [finE_eq Ent.env 0, finE_eq Ent.os 0]
    exact this
  intro a w hr
  refine wp_region_any hm (draw_any ht hd hfin _ _ _ _ (by simp) ?_ (fun j hj => ?_) ?_)
  · have : ∀ l : List Nat, (l.filter fun k => !(Array.replicate ops.toArray.size false).getD k false).length ≤ l.length := fun l => List.length_filter_le _ _
    have := this (List.range ops.length)
    simpa [unl] using this
  · exfalso
    simp [Array.getD_eq_getD_getElem?, Array.getElem?_replicate] at hj
    split at hj <;> simp at hj
  · obtain ⟨K, hK, S, G, φ, hr⟩ := hr
    have hX : (fun k => (Array.replicate ops.toArray.size false).getD k false) = fun _ => false := by
      funext k
      simp [Array.getD_eq_getD_getElem?, Array.getElem?_replicate]
      split <;> rfl
    rw [hX]
    have e : σ.cut (fun _ => false) ents = σ := by
      unfold St.cut
      rw [cut_none, cut_none]
      rfl
    rw [e]
    exact ⟨K, hK, S, G, φ, hr.drew⟩

end Go.Proofs.Ytgicjbeaomjdgaa.L
