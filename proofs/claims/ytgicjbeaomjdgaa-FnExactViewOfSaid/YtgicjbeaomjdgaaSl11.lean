/- Calls are sound. -/
import Derived.Test.YtgicjbeaomjdgaaSl10
namespace Go.Proofs.Ytgicjbeaomjdgaa.L
set_option linter.unusedVariables false
set_option linter.unusedSimpArgs false
open Go

variable {F : Fr} {σ : St} {a : Act} {w : World} {S : Nat → Prop} {G : Gh} {φ : Nat → Nat → Prop} {tab : List (Nat × Ty)}

/-- A state of which some objects (D) are away. -/
structure RelD (F : Fr) (σ : St) (a : Act) (w : World) (S : Nat → Prop) (G : Gh) (φ : Nat → Nat → Prop) (D : List Nat) : Prop where
  nx : ∀ i, G.dom i → i < σ.nx ∨ hasKey σ.objs i = true
  kd : ∀ i v x, G.κ i v = some x → G.dom i ∧ ∀ ver e sz rows, look .dead σ.objs i = .row ver e sz rows → v ≤ ver
  n : a.tmps.size = σ.n
  KS : Sub F.K S
  Slt : ∀ b, S b → b < w.heap.size
  env : ∀ t, VR F.P w F.K S G (look .u σ.env t) (a.tmps.getD t undef)
  obj : ∀ id, id ∉ D → OR F.P w F.K S G (φ id) id (look .dead σ.objs id)
  dj : ∀ i j, i ≠ j → Dj (φ i) (φ j)
  own : ∀ i b, φ i b → b < w.heap.size ∧ ¬ S b ∧ (F.w0.heap.size ≤ b ∨ F.φ0 b)
  kept : Kept F.w0 w F.φ0
  defs : a.defers = []
  anc : ∀ i v, F.anc i = some v → G.dom i ∧ G.β i = v
  dom : ∀ i ∈ D, G.dom i
  away : ∀ i ∈ D, ∀ b, ¬ φ i b

theorem RelD.rel (h : RelD F σ a w S G φ []) : Rel0 F σ a w S G φ := ⟨h.nx, h.kd, h.n, h.KS, h.Slt, h.env, fun i => h.obj i (by simp), h.dj, h.own, h.kept, h.defs, h.anc⟩

/-- More blocks that may be kept. -/
theorem RelD.up {D : List Nat} {K : Nat → Prop} (h : RelD F σ a w S G φ D) (hk : Sub F.K K) (hl : ∀ b, K b → b < w.heap.size) (hn : ∀ i b, φ i b → ¬ K b) : RelD (F.up K) σ a w (fun b => S b ∨ K b) G φ D :=
  ⟨h.nx, h.kd, h.n, fun _ hb => .inr hb, fun b hb => hb.elim (h.Slt b) (hl b), fun t => (h.env t).moreK hk (fun _ hb => .inl hb), fun i hi => (h.obj i hi).moreK hk (fun _ hb => .inl hb), h.dj, fun i b hb => ⟨(h.own i b hb).1, fun hs => hs.elim (h.own i b hb).2.1 (hn i b hb), (h.own i b hb).2.2⟩, h.kept, h.defs, h.anc, h.dom, h.away⟩

/-- What has come and is no object's yet. -/
def Loose (F : Fr) (w : World) (S : Nat → Prop) (φ : Nat → Nat → Prop) (χ : Nat → Prop) : Prop := ∀ b, χ b → b < w.heap.size ∧ ¬ S b ∧ (F.w0.heap.size ≤ b ∨ F.φ0 b) ∧ ∀ i, ¬ φ i b

/-- Behind a call: the objects that were lent are away. -/
theorem Rel0.lent (h : Rel0 F σ a w S G φ) {w' : World} {ids : List Nat} (hids : ∀ i ∈ ids, G.dom i) (hk : Kept w w' (Of φ ids)) : RelD F σ a w' S G (fun i b => if i ∈ ids then False else φ i b) ids := by
  have hS : ∀ b, S b → w'.heap[b]? = w.heap[b]? := fun b hb => hk.block b (h.Slt b hb) (fun ⟨d, _, hd⟩ => (h.own d b hd).2.1 hb)
  have hK : ∀ b, F.K b → w'.heap[b]? = w.heap[b]? := fun b hb => hS b (h.KS b hb)
  refine ⟨h.nx, h.kd, h.n, h.KS, fun b hb => Nat.lt_of_lt_of_le (h.Slt b hb) hk.size, fun t => (h.env t).move hK hS (Gh.le.refl G), fun i hi => ?_, fun i j hij b hb hb' => ?_, fun i b hb => ?_, h.kept.trans hk (fun b ⟨d, _, hd⟩ hlt => ?_), h.defs, h.anc, hids, fun i hi b hb => ?_⟩
  · have e : (fun b => if i ∈ ids then False else φ i b) = φ i := by funext b; rw [if_neg hi]
    rw [e]
    exact (h.obj i).move hK hS (fun b hb => hk.block b (h.own i b hb).1 (fun ⟨d, hd, hd'⟩ => h.dj i d (fun e => hi (e ▸ hd)) b hb hd')) (Gh.le.refl G)
  · split at hb
    · exact hb
    · split at hb'
      · exact hb'
      · exact h.dj i j hij b hb hb'
  · split at hb
    · exact hb.elim
    · exact ⟨Nat.lt_of_lt_of_le (h.own i b hb).1 hk.size, (h.own i b hb).2⟩
  · rcases (h.own d b hd).2.2 with hx | hx
    · omega
    · exact hx
  · simp [hi] at hb

/-- An object comes (back). -/
theorem RelD.adopt {D : List Nat} {id : Nat} {G' : Gh} {o : O} {χ : Nat → Prop} (h : RelD F σ a w S G φ D) (hφ : ∀ b, ¬ φ id b) (hG : G.le G') (hdom : ∀ i, G'.dom i → G.dom i ∨ i = id) (hdid : G'.dom id)
    (hkd : ∀ i v x, G'.κ i v = some x → G.κ i v = some x ∨ i = id) (hkd' : ∀ v x ver e sz rows, G'.κ id v = some x → o = .row ver e sz rows → v ≤ ver)
    (hχ : Loose F w S φ χ) (ho : OR F.P w F.K S G' χ id o) :
    RelD F ⟨σ.n, σ.nx, σ.env, (id, o) :: σ.objs⟩ a w S G' (fun i b => if i = id then χ b else φ i b) (D.filter (· ≠ id)) := by
  have hlk : ∀ i, look O.dead ((id, o) :: σ.objs) i = if i = id then o else look .dead σ.objs i := fun i => look_cons _ _ _ _ _
  refine ⟨fun i hi => ?_, fun i j x hx => ?_, h.n, h.KS, h.Slt, fun t => (h.env t).move (fun _ _ => rfl) (fun _ _ => rfl) hG, fun i hi => ?_, fun i j hij b hb hb' => ?_, fun i b hb => ?_, h.kept, h.defs, fun i v hi => ⟨hG.dom _ (h.anc i v hi).1, (hG.β _ (h.anc i v hi).1).trans (h.anc i v hi).2⟩, fun i hi => ?_, fun i hi b hb => ?_⟩
  · rcases hdom i hi with hi | rfl
    · exact (h.nx i hi).imp (fun h => h) (fun hi => (hasKey_cons _ _ _ _).2 (.inr hi))
    · exact .inr ((hasKey_cons _ _ _ _).2 (.inl rfl))
  · by_cases hi : i = id
    · subst hi
      refine ⟨hdid, fun ver e sz rows hl => ?_⟩
      rw [hlk, if_pos rfl] at hl
      exact hkd' j x ver e sz rows hx hl
    · obtain ⟨h1, h2⟩ := h.kd i j x ((hkd i j x hx).resolve_right hi)
      refine ⟨hG.dom _ h1, fun ver e sz rows hl => ?_⟩
      rw [hlk, if_neg hi] at hl
      exact h2 _ _ _ _ hl
  · rw [hlk]
    by_cases hid : i = id
    · subst hid
      simpa using ho
    · rw [if_neg hid]
      have e : (fun b => if i = id then χ b else φ i b) = φ i := by funext b; rw [if_neg hid]
      rw [e]
      exact (h.obj i (fun hm => hi (List.mem_filter.2 ⟨hm, by simpa using hid⟩))).move (fun _ _ => rfl) (fun _ _ => rfl) (fun _ _ => rfl) hG
  · split at hb
    · rw [if_neg (by rename_i e; exact fun e' => hij (e.trans e'.symm))] at hb'
      exact (hχ b hb).2.2.2 j hb'
    · split at hb'
      · exact (hχ b hb').2.2.2 i hb
      · exact h.dj i j hij b hb hb'
  · split at hb
    · exact ⟨(hχ b hb).1, (hχ b hb).2.1, (hχ b hb).2.2.1⟩
    · exact h.own i b hb
  · have := List.mem_filter.1 hi
    exact hG.dom _ (h.dom i this.1)
  · have := List.mem_filter.1 hi
    rw [if_neg (by simpa using this.2)] at hb
    exact h.away i this.1 b hb

theorem Loose.less {χ χ' : Nat → Prop} (h : Loose F w S φ χ) (hs : Sub χ' χ) : Loose F w S φ χ' := fun b hb => h b (hs b hb)

theorem Loose.past {χ χ' : Nat → Prop} {id : Nat} (h : Loose F w S φ χ) (hd : Dj χ' χ) : Loose F w S (fun i b => if i = id then χ' b else φ i b) χ := by
  intro b hb
  obtain ⟨h1, h2, h3, h4⟩ := h b hb
  refine ⟨h1, h2, h3, fun i hi => ?_⟩
  have hi : if i = id then χ' b else φ i b := hi
  split at hi
  · exact hd b hi hb
  · exact h4 i hi

theorem plainV_sound {P : Program} {K : Nat → Prop} : ∀ {cs : List T} {vs : List V} {us : List Value} {φ : Nat → Prop}, plainV cs = some vs → CR P w K K cs us φ → Sub K S → VRs P w K S G vs us
  | [], vs, us, φ, h, hc, _ => by
    simp only [plainV, Option.some.injEq] at h
    subst h
    cases hc
    exact .nil
  | c :: cs, vs, us, φ, h, hc, hK => by
    simp only [plainV] at h
    split at h
    · simp at h
    · rename_i vs' hvs
      obtain ⟨u1, u2, φ1, φ2, rfl, h1, h2, _, _, _⟩ := CR.split (a := [c]) hc
      have ih := plainV_sound hvs h2 hK
      cases c with
      | s v =>
        simp only [Option.some.injEq] at h
        subst h
        cases h1 with
        | s h1 h => cases h; exact .t (.s h1 .nil) ih
      | im k r =>
        cases k with
        | false => simp at h
        | true =>
          simp only [Option.some.injEq] at h
          subst h
          cases h1 with
          | im1 hn hcc sz hs vs hA hr h => cases h; exact .t (.im1 hn hcc sz hs vs hA hr .nil) ih
      | _ => simp at h

/-- One cell's own part. -/
theorem CR.uncons {P : Program} {K S : Nat → Prop} {t : T} {ts : List T} {us : List Value} {φ : Nat → Prop} (h : CR P w K S (t :: ts) us φ) : ∃ u us' φ1 φ2, us = u :: us' ∧ CR P w K S [t] [u] φ1 ∧ CR P w K S ts us' φ2 ∧ Dj φ1 φ2 ∧ Sub φ1 φ ∧ Sub φ2 φ := by
  obtain ⟨u1, u2, φ1, φ2, rfl, h1, h2, hd, s1, s2⟩ := CR.split (a := [t]) h
  have hl := h1.len
  match u1, hl with
  | [u], _ => exact ⟨u, u2, φ1, φ2, rfl, h1, h2, hd, s1, s2⟩

def AlignB (G : Gh) : List (Option Nat) → List Value → Prop
  | [], [] => True
  | none :: ds, _ :: us => AlignB G ds us
  | some id :: ds, u :: us => u = G.β id ∧ G.dom id ∧ AlignB G ds us
  | _, _ => False

theorem AlignB.le {G G' : Gh} (hG : G.le G') : ∀ {ds us}, AlignB G ds us → AlignB G' ds us
  | [], [], _ => trivial
  | none :: ds, _ :: us, h => AlignB.le hG (ds := ds) (us := us) h
  | some id :: ds, u :: us, h => ⟨by rw [hG.β _ h.2.1]; exact h.1, hG.dom _ h.2.1, AlignB.le hG h.2.2⟩

theorem AlignB.len {G : Gh} : ∀ {ds us}, AlignB G ds us → us.length = ds.length
  | [], [], _ => rfl
  | none :: ds, _ :: us, h => by simp [AlignB.len (ds := ds) (us := us) h]
  | some id :: ds, u :: us, h => by simp [AlignB.len h.2.2]

theorem κ_none {D : List Nat} (h : RelD F σ a w S G φ D) {id ver e sz rows} (ho : look .dead σ.objs id = .row ver e sz rows) : G.κ id (ver + 1) = none := by
  cases hx : G.κ id (ver + 1) with
  | none => rfl
  | some x =>
    have := (h.kd id (ver + 1) x hx).2 _ _ _ _ ho
    omega

theorem idsOf_cons (id : Nat) (ds : List (Option Nat)) : idsOf (some id :: ds) = id :: idsOf ds := rfl

theorem back_sound : ∀ {ds : List (Option Nat)} {ts rest : List T} {us us' : List Value} {objs objs' : List (Nat × O)} {G : Gh} {φ : Nat → Nat → Prop} {χ : Nat → Prop}, back objs ds ts = some objs' → RelD F ⟨σ.n, σ.nx, σ.env, objs⟩ a w S G φ (idsOf ds) → (idsOf ds).Nodup → AlignB G ds us → ts.length = ds.length →
    (∀ i ∈ idsOf ds, ∀ ver e sz rows, look .dead objs i = .row ver e sz rows → sz = F.P.cellsOf e ∧ G.sz i = sz) → CR F.P w F.K F.K (ts ++ rest) (us ++ us') χ → Loose F w S φ χ →
    ∃ G' φ' χ', G.le G' ∧ RelD F ⟨σ.n, σ.nx, σ.env, objs'⟩ a w S G' φ' [] ∧ CR F.P w F.K F.K rest us' χ' ∧ Loose F w S φ' χ'
  | [], ts, rest, us, us', objs, objs', G, φ, χ, h, hr, _, hal, hl, _, hc, hx => by
    simp only [back, Option.some.injEq] at h
    subst h
    have hus : us = [] := List.eq_nil_of_length_eq_zero hal.len
    have hts : ts = [] := List.eq_nil_of_length_eq_zero hl
    subst hus hts
    exact ⟨G, φ, χ, Gh.le.refl G, hr, hc, hx⟩
  | none :: ds, [], rest, us, us', objs, objs', G, φ, χ, h, hr, hn, hal, hl, hsz, hc, hx => by simp at hl
  | none :: ds, t :: ts, rest, us, us', objs, objs', G, φ, χ, h, hr, hn, hal, hl, hsz, hc, hx => by
    match us, hal with
    | u :: us, hal =>
      simp only [back] at h
      rw [List.cons_append, List.cons_append] at hc
      obtain ⟨u', us2, φ1, φ2, he, _, h2, _, _, s2⟩ := hc.uncons
      simp only [List.cons.injEq] at he
      obtain ⟨rfl, rfl⟩ := he
      exact back_sound h hr hn hal (by simpa using hl) hsz h2 (hx.less s2)
  | some id :: ds, [], rest, us, us', objs, objs', G, φ, χ, h, hr, hn, hal, hl, hsz, hc, hx => by simp at hl
  | some id :: ds, t :: ts, rest, us, us', objs, objs', G, φ, χ, h, hr, hn, hal, hl, hsz, hc, hx => by
    match us, hal with
    | u :: us, hal =>
      obtain ⟨hu, hdid, hal⟩ := hal
      rw [idsOf_cons] at hr hn hsz
      obtain ⟨hnid, hn'⟩ := List.nodup_cons.1 hn
      rw [List.cons_append, List.cons_append] at hc
      obtain ⟨u', us2, φ1, φ2, he, h1, h2, hd12, s1, s2⟩ := hc.uncons
      simp only [List.cons.injEq] at he
      obtain ⟨rfl, rfl⟩ := he
      have hfil : (id :: idsOf ds).filter (· ≠ id) = idsOf ds := by
        rw [List.filter_cons]
        simp only [ne_eq, not_true_eq_false, decide_false, Bool.false_eq_true, if_false]
        refine List.filter_eq_self.2 (fun x hx => ?_)
        have : x ≠ id := by rintro rfl; exact hnid hx
        simpa using this
      have hφ : ∀ b, ¬ φ id b := hr.away id (by simp)
      -- the rest, behind this one
      have go : ∀ {o : O} {G' : Gh} {χ1 : Nat → Prop}, back ((id, o) :: objs) ds ts = some objs' → G.le G' → (∀ i, G'.dom i → G.dom i ∨ i = id) → (∀ i v x, G'.κ i v = some x → G.κ i v = some x ∨ i = id) → (∀ v x ver e sz rows, G'.κ id v = some x → o = .row ver e sz rows → v ≤ ver) → Sub χ1 χ → Dj χ1 φ2 → (∀ i, G'.sz i = G.sz i) → OR F.P w F.K S G' χ1 id o →
          ∃ G' φ' χ', G.le G' ∧ RelD F ⟨σ.n, σ.nx, σ.env, objs'⟩ a w S G' φ' [] ∧ CR F.P w F.K F.K rest us' χ' ∧ Loose F w S φ' χ' := by
        intro o G' χ1 hb hG hdom hkd hkd' hs hd hsz' ho
        have hr' := hr.adopt hφ hG hdom (hG.dom _ hdid) hkd hkd' (hx.less hs) ho
        rw [hfil] at hr'
        obtain ⟨G2, φ2', χ2, hG2, a1, a2, a3⟩ := back_sound hb hr' hn' (hal.le hG) (by simpa using hl) (fun i hi ver e sz rows hl => by
          have hne : i ≠ id := by rintro rfl; exact hnid hi
          rw [look_cons, if_neg hne] at hl
          rw [hsz']
          exact hsz i (by simp [hi]) ver e sz rows hl) h2 ((hx.less s2).past hd)
        exact ⟨G2, φ2', χ2, ⟨fun i h => hG2.dom i (hG.dom i h), fun i h => (hG2.β i (hG.dom i h)).trans (hG.β i h), fun i h => (hG2.sz i (hG.dom i h)).trans (hG.sz i h), fun i v x h => hG2.κ i v x (hG.κ i v x h)⟩, a1, a2, a3⟩
      simp only [back] at h
      split at h
      · rename_i e' rows' ver e sz rows ho
        split at h
        · rename_i hb
          obtain rfl := beq_true hb
          obtain ⟨hsz1, hsz2⟩ := hsz id (by simp) _ _ _ _ ho
          cases h1 with
          | ow hs vs hown ψ hbb hψ hcr hnil hd0 s3 s4 =>
            have hkn := κ_none hr ho
            have hkd : ∀ v x, (G.ver id (ver + 1) (rows', vs)).κ id v = some x → v ≤ ver + 1 := by
              intro v x hx'
              simp only [Gh.ver] at hx'
              split at hx'
              · rename_i h; omega
              · have := (hr.kd id v x hx').2 _ _ _ _ ho
                omega
            refine go (G' := G.ver id (ver + 1) (rows', vs)) h (Gh.le_ver hkn) (fun _ h => .inl h) (fun i v x hx' => ?_) (fun v x ver' e' sz' rows'' hx' hoo => ?_) (χ1 := φ1) s1 hd12 (fun _ => rfl) ?_
            · simp only [Gh.ver] at hx'
              split at hx'
              · rename_i h; exact .inr h.1
              · exact .inl hx'
            · simp only [O.row.injEq] at hoo
              obtain ⟨rfl, _⟩ := hoo
              exact hkd v x hx'
            · refine ⟨hdid, hsz1, hsz2, vs, by simp [Gh.ver], by rw [hsz1]; exact hs, ?_, ψ, fun b hb => ?_, fun b hb => s3 b (hψ b hb), hcr⟩
              · rw [hsz1]
                show w.ownsRow 0 _ _ (G.β id) _ _
                rw [← hu]
                exact hown
              · have hb : (G.β id).ownBlock = some b := hb
                rw [← hu] at hb
                exact ⟨s3 b (hbb b hb).1, (hbb b hb).2⟩
        · simp at h
      · refine go h (Gh.le.refl G) (fun _ h => .inl h) (fun _ _ _ h => .inl h) (by simp) (χ1 := no) (fun _ h => h.elim) (fun _ h => h.elim) (fun _ => rfl) ?_
        trivial
      · rename_i e' cs e cs0 ho
        split at h
        · rename_i vs hb hpl
          obtain rfl := beq_true hb
          cases h1 with
          | bx vs' hg ψ hbb hψ hcr hnil hd0 s3 s4 =>
            refine go h (Gh.le.refl G) (fun _ h => .inl h) (fun _ _ _ h => .inl h) (by simp) (χ1 := φ1) s1 hd12 (fun _ => rfl) ?_
            exact ⟨hdid, _, vs', hu.symm, hg, s3 _ hbb.1, plainV_sound hpl hcr hr.KS⟩
        · simp at h
      · simp at h

theorem Gh.le.trans {A B C : Gh} (h : A.le B) (k : B.le C) : A.le C := ⟨fun i x => k.dom i (h.dom i x), fun i x => (k.β i (h.dom i x)).trans (h.β i x), fun i x => (k.sz i (h.dom i x)).trans (h.sz i x), fun i v x y => k.κ i v x (h.κ i v x y)⟩

theorem fresh_domD {D : List Nat} (hr : RelD F σ a w S G φ D) {id : Nat} (h : freshB σ.nx σ.objs id = true) : ¬ G.dom id := by
  intro hd
  unfold freshB at h
  cases hb : nl σ.nx id with
  | false => simp [hb] at h
  | true =>
    have hle := ble_true hb
    rcases hr.nx id hd with h1 | h1
    · omega
    · simp [hb, h1] at h

/-- A new object of what has come. -/
theorem RelD.come (hr : RelD F σ a w S G φ []) {id : Nat} (hf : freshB σ.nx σ.objs id = true) {v : Value} {sz : Nat} {k : Option (Rws × List Value)} {o : O} {χ χ1 : Nat → Prop} (hx : Loose F w S φ χ) (hs : Sub χ1 χ) {χ2 : Nat → Prop} (hd : Dj χ1 χ2) (hs2 : Sub χ2 χ) (ho : OR F.P w F.K S (G.add id v sz k) χ1 id o) :
    ∃ φ', G.le (G.add id v sz k) ∧ RelD F ⟨σ.n, σ.nx, σ.env, (id, o) :: σ.objs⟩ a w S (G.add id v sz k) φ' [] ∧ Loose F w S φ' χ2 := by
  have hid := fresh_domD hr hf
  have hle := Gh.le_add hid (fun v x hx => (hr.kd id v x hx).1) v sz k
  -- an unknown object owns nothing: make it so
  have hr0 : RelD F σ a w S G (fun i b => if i = id then False else φ i b) [] := by
    refine ⟨hr.nx, hr.kd, hr.n, hr.KS, hr.Slt, hr.env, fun i hi => ?_, fun i j hij b hb hb' => ?_, fun i b hb => ?_, hr.kept, hr.defs, hr.anc, by simp, by simp⟩
    · by_cases hii : i = id
      · subst hii
        have := hr.obj i hi
        cases hlk : look O.dead σ.objs i with
        | dead => trivial
        | row ver e sz rows => rw [hlk] at this; exact (hid this.1).elim
        | box e cs => rw [hlk] at this; exact (hid this.1).elim
      · have e : (fun b => if i = id then False else φ i b) = φ i := by funext b; rw [if_neg hii]
        rw [e]
        exact hr.obj i hi
    · have hb : if i = id then False else φ i b := hb
      have hb' : if j = id then False else φ j b := hb'
      split at hb
      · exact hb
      · split at hb'
        · exact hb'
        · exact hr.dj i j hij b hb hb'
    · have hb : if i = id then False else φ i b := hb
      split at hb
      · exact hb.elim
      · exact hr.own i b hb
  have hx0 : Loose F w S (fun i b => if i = id then False else φ i b) χ := fun b hb => by
    obtain ⟨h1, h2, h3, h4⟩ := hx b hb
    refine ⟨h1, h2, h3, fun i hi => ?_⟩
    have hi : if i = id then False else φ i b := hi
    split at hi
    · exact hi
    · exact h4 i hi
  have hkd : ∀ v' x, (G.add id v sz k).κ id v' = some x → v' = 0 := by
    intro v' x hx'
    simp only [Gh.add, if_true] at hx'
    split at hx'
    · assumption
    · simp at hx'
  have h := hr0.adopt (id := id) (G' := G.add id v sz k) (o := o) (χ := χ1) (fun b hb => by simp at hb) hle (fun i h => h) (.inr rfl) (fun i v' x hx' => by
    by_cases hi : i = id
    · exact .inr hi
    · simp only [Gh.add, if_neg hi] at hx'
      exact .inl hx') (fun v' x ver e sz' rows hx' _ => by have := hkd v' x hx'; omega) (hx0.less hs) ho
  exact ⟨_, hle, h, (hx0.less hs2).past hd⟩

theorem openCells_sound (ht : TabOk F.P tab) : ∀ {cs rest : List T} {objs objs' : List (Nat × O)} {id id' : Nat} {vs : List V} {us us' : List Value} {G : Gh} {φ : Nat → Nat → Prop} {χ : Nat → Prop}, openCells tab σ.nx objs id cs = some (vs, objs', id') → RelD F ⟨σ.n, σ.nx, σ.env, objs⟩ a w S G φ [] → us.length = cs.length →
    CR F.P w F.K F.K (cs ++ rest) (us ++ us') χ → Loose F w S φ χ →
    ∃ G' φ' χ', G.le G' ∧ RelD F ⟨σ.n, σ.nx, σ.env, objs'⟩ a w S G' φ' [] ∧ VRs F.P w F.K S G' vs us ∧ CR F.P w F.K F.K rest us' χ' ∧ Loose F w S φ' χ'
  | [], rest, objs, objs', id, id', vs, us, us', G, φ, χ, h, hr, hl, hc, hx => by
    simp only [openCells, Option.some.injEq, Prod.mk.injEq] at h
    obtain ⟨rfl, rfl, _⟩ := h
    obtain rfl : us = [] := List.eq_nil_of_length_eq_zero hl
    exact ⟨G, φ, χ, Gh.le.refl G, hr, .nil, hc, hx⟩
  | c :: cs, rest, objs, objs', id, id', vs, [], us', G, φ, χ, h, hr, hl, hc, hx => by simp at hl
  | c :: cs, rest, objs, objs', id, id', vs, u :: us, us', G, φ, χ, h, hr, hl, hc, hx => by
    rw [List.cons_append, List.cons_append] at hc
    obtain ⟨u', us2, φ1, φ2, he, h1, h2, hd12, s1, s2⟩ := hc.uncons
    simp only [List.cons.injEq] at he
    obtain ⟨rfl, rfl⟩ := he
    have hl' : us.length = cs.length := by simpa using hl
    -- a cell that is no object
    have plain : ∀ {v : V} {vs' : List V}, openCells tab σ.nx objs id cs = some (vs', objs', id') → (∀ G', VR F.P w F.K S G' v u) → vs = v :: vs' → ∃ G' φ' χ', G.le G' ∧ RelD F ⟨σ.n, σ.nx, σ.env, objs'⟩ a w S G' φ' [] ∧ VRs F.P w F.K S G' vs (u :: us) ∧ CR F.P w F.K F.K rest us' χ' ∧ Loose F w S φ' χ' := by
      intro v vs' hrec hv hvs
      obtain ⟨G', φ', χ', a1, a2, a3, a4, a5⟩ := openCells_sound ht hrec hr hl' h2 (hx.less s2)
      exact ⟨G', φ', χ', a1, a2, by rw [hvs]; exact .cons (hv G') a3, a4, a5⟩
    simp only [openCells] at h
    cases c with
    | s v =>
      simp only at h
      split at h
      · rename_i vs' os i' hrec
        simp only [Option.some.injEq, Prod.mk.injEq] at h
        obtain ⟨rfl, rfl, rfl⟩ := h
        refine plain hrec (fun G' => ?_) rfl
        cases h1 with
        | s h1 _ => exact VR.s h1
      · simp at h
    | er =>
      simp only at h
      split at h
      · rename_i vs' os i' hrec
        simp only [Option.some.injEq, Prod.mk.injEq] at h
        obtain ⟨rfl, rfl, rfl⟩ := h
        refine plain hrec (fun G' => ?_) rfl
        cases h1 with
        | er _ => exact .t (.er .nil) .nil
      · simp at h
    | im k r =>
      cases k with
      | false => simp at h
      | true =>
        simp only at h
        split at h
        · rename_i vs' os i' hrec
          simp only [Option.some.injEq, Prod.mk.injEq] at h
          obtain ⟨rfl, rfl, rfl⟩ := h
          refine plain hrec (fun G' => ?_) rfl
          cases h1 with
          | im1 hn hcc sz hs vs hA hr' _ => exact .t (.im1 hn hcc sz hs vs hA hr' .nil) .nil
        · simp at h
    | ow e rows =>
      simp only at h
      split at h
      · rename_i ty hty hf
        split at h
        · rename_i vs' os i' hrec
          simp only [Option.some.injEq, Prod.mk.injEq] at h
          obtain ⟨rfl, rfl, rfl⟩ := h
          have hce := cellsOf_ty (ht _ _ hty)
          cases h1 with
          | ow hs vs hown ψ hbb hψ hcr hnil hd0 s3 s4 =>
            have h1v : u.oneCell' = true := by rcases hown.2 with ⟨rfl, _⟩ | ⟨g, cap, cur, rfl, _⟩ <;> rfl
            obtain ⟨φ', hle, hr', hx'⟩ := hr.come (id := id) hf (v := u) (sz := ty.size) (k := some (rows, vs)) (o := .row 0 e ty.size rows) hx s1 hd12 s2 ⟨.inr rfl, hce.symm, by simp [Gh.add], vs, by simp [Gh.add], by rw [← hce]; exact hs, by rw [← hce]; simpa [Gh.add] using hown, ψ, fun b hb => by
              have hb : u.ownBlock = some b := by simpa [Gh.add] using hb
              exact ⟨s3 b (hbb b hb).1, (hbb b hb).2⟩, fun b hb => s3 b (hψ b hb), hcr⟩
            obtain ⟨G', φ'', χ', a1, a2, a3, a4, a5⟩ := openCells_sound ht hrec hr' hl' h2 hx'
            refine ⟨G', φ'', χ', hle.trans a1, a2, .cons (.rf (a1.dom _ (.inr rfl)) ?_ h1v .nil) a3, a4, a5⟩
            rw [a1.β id (.inr rfl)]
            simp [Gh.add]
        · simp at h
      · simp at h
    | bx e xs =>
      simp only at h
      split at h
      · rename_i us0 hpl hf
        split at h
        · rename_i vs' os i' hrec
          simp only [Option.some.injEq, Prod.mk.injEq] at h
          obtain ⟨rfl, rfl, rfl⟩ := h
          cases h1 with
          | @bx _ _ _ _ _ _ g _ _ vs hg ψ hbb hψ hcr hnil hd0 s3 s4 =>
            obtain ⟨φ', hle, hr', hx'⟩ := hr.come (id := id) hf (v := .pointer (some ⟨g, 0, none⟩)) (sz := 0) (k := none) (o := .box e us0) hx s1 hd12 s2 ⟨.inr rfl, g, vs, by simp [Gh.add], hg, s3 _ hbb.1, plainV_sound hpl hcr hr.KS⟩
            obtain ⟨G', φ'', χ', a1, a2, a3, a4, a5⟩ := openCells_sound ht hrec hr' hl' h2 hx'
            refine ⟨G', φ'', χ', hle.trans a1, a2, .cons ?_ a3, a4, a5⟩
            have hp : VR F.P w F.K S G' (.pt id 0 0) (.pointer (some ⟨g, (0 : Int).toNat * G'.sz id + 0, none⟩)) := .pt (a1.dom _ (.inr rfl)) (Int.le_refl _) (by rw [a1.β id (.inr rfl)]; simp [Gh.add, blk]) .nil
            simpa using hp
        · simp at h
      · simp at h
    | _ => simp at h

theorem openRes_sound (ht : TabOk F.P tab) : ∀ {res : List A} {rs us : List Value} {objs objs' : List (Nat × O)} {id : Nat} {vs : List V} {G : Gh} {φ : Nat → Nat → Prop} {χ : Nat → Prop}, openRes tab σ.nx objs id res = some (vs, objs') → RelD F ⟨σ.n, σ.nx, σ.env, objs⟩ a w S G φ [] → AS res rs us →
    CR F.P w F.K F.K (acells res) us χ → Loose F w S φ χ →
    ∃ G' φ', G.le G' ∧ RelD F ⟨σ.n, σ.nx, σ.env, objs'⟩ a w S G' φ' [] ∧ VRs F.P w F.K S G' vs rs
  | [], rs, us, objs, objs', id, vs, G, φ, χ, h, hr, has, hc, hx => by
    simp only [openRes, Option.some.injEq, Prod.mk.injEq] at h
    obtain ⟨rfl, rfl⟩ := h
    cases has
    exact ⟨G, φ, Gh.le.refl G, hr, .nil⟩
  | .v x :: r, rs, us, objs, objs', id, vs, G, φ, χ, h, hr, has, hc, hx => by
    simp only [openRes] at h
    cases has with
    | v has =>
      rename_i u as us
      split at h
      · rename_i v os i' hcs
        split at h
        · rename_i vs' os' hrec
          simp only [Option.some.injEq, Prod.mk.injEq] at h
          obtain ⟨rfl, rfl⟩ := h
          obtain ⟨G', φ', χ', a1, a2, a3, a4, a5⟩ := openCells_sound ht (us := [u]) hcs hr rfl hc hx
          obtain ⟨G2, φ2, b1, b2, b3⟩ := openRes_sound ht hrec a2 has a4 a5
          exact ⟨G2, φ2, a1.trans b1, b2, .cons (a3.move (fun _ _ => rfl) (fun _ _ => rfl) b1) b3⟩
        · simp at h
      · simp at h
  | .ag xs :: r, rs, us, objs, objs', id, vs, G, φ, χ, h, hr, has, hc, hx => by
    simp only [openRes] at h
    cases has with
    | ag hl has =>
      rename_i us0 as us
      split at h
      · rename_i cs os i' hcs
        split at h
        · rename_i vs' os' hrec
          simp only [Option.some.injEq, Prod.mk.injEq] at h
          obtain ⟨rfl, rfl⟩ := h
          obtain ⟨G', φ', χ', a1, a2, a3, a4, a5⟩ := openCells_sound ht (us := us0) hcs hr hl hc hx
          obtain ⟨G2, φ2, b1, b2, b3⟩ := openRes_sound ht hrec a2 has a4 a5
          exact ⟨G2, φ2, a1.trans b1, b2, .cons (.ag (a3.move (fun _ _ => rfl) (fun _ _ => rfl) b1) .nil) b3⟩
        · simp at h
      · simp at h

end Go.Proofs.Ytgicjbeaomjdgaa.L
