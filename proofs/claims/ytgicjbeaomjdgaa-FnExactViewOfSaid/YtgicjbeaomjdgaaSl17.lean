/- Forgetting, and other names for the objects. -/
import Derived.Test.YtgicjbeaomjdgaaSl16
namespace Go.Proofs.Ytgicjbeaomjdgaa.L
set_option linter.unusedVariables false
set_option linter.unusedSimpArgs false
open Go

variable {F : Fr} {σ τ : St} {a : Act} {w : World} {S : Nat → Prop} {G : Gh} {φ : Nat → Nat → Prop} {tab : List (Nat × Ty)}

/-- The versions of an object there and here. -/
def vers (ρ : List (Nat × Nat)) (τo σo : List (Nat × O)) (i : Nat) : Option (Nat × Nat) :=
  match getN ρ i with
  | none => none
  | some j => match look .dead τo i, look .dead σo j with
    | .row x _ _ _, .row y _ _ _ => some (x, y)
    | _, _ => none
where getN : List (Nat × Nat) → Nat → Option Nat
  | [], _ => none
  | (k, x) :: r, n => bif nq n k then some x else getN r n

/-- A value of the new state, told with the old state's names. -/
def pullV (ρ : List (Nat × Nat)) (τo σo : List (Nat × O)) : Nat → V → Option V
  | _, .t x => some (.t x)
  | _, .u => some .u
  | _, .rf i => match vers.getN ρ i with
    | some j => some (.rf j)
    | none => none
  | _, .sb i lo hi => match vers.getN ρ i with
    | some j => some (.sb j lo hi)
    | none => none
  | _, .np i ver k c e rows => match vers.getN ρ i, vers ρ τo σo i with
    | some j, some (x, y) => match nq ver x with
      | true => some (.np j y k c e rows)
      | false => none
    | _, _ => none
  | _, .pt i k c => match vers.getN ρ i with
    | some j => some (.pt j k c)
    | none => none
  | n + 1, .ag cs => match pullL n cs with
    | some l => some (.ag l)
    | none => none
  | n + 1, .tu cs => match pullL n cs with
    | some l => some (.tu l)
    | none => none
  | n + 1, .fn f cs => match pullL n cs with
    | some l => some (.fn f l)
    | none => none
  | _, _ => none
where pullL : Nat → List V → Option (List V)
  | _, [] => some []
  | 0, _ => none
  | n + 1, c :: cs => match pullV ρ τo σo n c with
    | none => none
    | some x => match pullL n cs with
      | none => none
      | some xs => some (x :: xs)

/-- What is asked of the variables. -/
def weakE (ρ : List (Nat × Nat)) (τo σo : List (Nat × O)) (σe : List (Nat × V)) : List (Nat × V) → Option (List Prop)
  | [] => some []
  | (t, v) :: r => match weakE ρ τo σo σe r with
    | none => none
    | some ps => match v with
      | .u => some ps
      | v => match pullV ρ τo σo 100 v with
        | some v' => some ((v' = look .u σe t) :: ps)
        | none => none

def weakO (ρ : List (Nat × Nat)) (τo σo : List (Nat × O)) : List (Nat × O) → Option (List Prop)
  | [] => some []
  | (i, o) :: r => match weakO ρ τo σo r with
    | none => none
    | some ps => match o with
      | .dead => some ps
      | .row _ e sz rows => match vers.getN ρ i with
        | some j => match look .dead σo j with
          | .row _ e' sz' rows' => match nq e e', nq sz sz' with
            | true, true => some ((rows = rows') :: ps)
            | _, _ => none
          | _ => none
        | none => none
      | .box e cs => match vers.getN ρ i with
        | some j => match look .dead σo j, pullV.pullL ρ τo σo 100 cs with
          | .box e' cs', some cs'' => match nq e e' with
            | true => some ((cs'' = cs') :: ps)
            | false => none
          | _, _ => none
        | none => none

def fixB (ρ : List (Nat × Nat)) : List Nat → Bool
  | [] => true
  | i :: r => match vers.getN ρ i with
    | some j => match nq i j with
      | true => fixB ρ r
      | false => false
    | none => false

def knownB (nx : Nat) (τo : List (Nat × O)) : List (Nat × Nat) → Bool
  | [] => true
  | (i, _) :: r => match nl (i + 1) nx, hasKey τo i with
    | false, false => false
    | _, _ => knownB nx τo r

def sndL : List (Nat × Nat) → List Nat
  | [] => []
  | (_, j) :: r => j :: sndL r

/-- What is asked when σ is to be seen as τ; ρ: the new names and the old ones; A: the names that must stand. -/
def weakP (A : List Nat) (ρ : List (Nat × Nat)) (σ τ : St) : Option (List Prop) :=
  match nq σ.n τ.n, nodupB (sndL ρ), fixB ρ A, knownB τ.nx τ.objs ρ with
  | true, true, true, true => match weakE ρ τ.objs σ.objs σ.env τ.env, weakO ρ τ.objs σ.objs τ.objs with
    | some p, some q => some (p ++ q)
    | _, _ => none
  | _, _, _, _ => none

abbrev gN := vers.getN

def Gh.pull (G : Gh) (ρ : List (Nat × Nat)) (τo σo : List (Nat × O)) : Gh where
  dom i := ∃ j, gN ρ i = some j ∧ G.dom j
  β i := G.β ((gN ρ i).getD 0)
  sz i := G.sz ((gN ρ i).getD 0)
  κ i v := match gN ρ i with
    | none => none
    | some j => match vers ρ τo σo i with
      | none => none
      | some (x, y) => if v = x then G.κ j y else none

theorem gN_mem : ∀ {ρ : List (Nat × Nat)} {i j}, gN ρ i = some j → (i, j) ∈ ρ
  | [], i, j, h => by simp [gN, vers.getN] at h
  | (k, x) :: r, i, j, h => by
    simp only [gN, vers.getN] at h
    cases hb : nq i k with
    | true =>
      rw [hb] at h
      simp only [cond_true, Option.some.injEq] at h
      rw [nq_eq hb, h]
      exact List.mem_cons_self
    | false =>
      rw [hb] at h
      exact List.mem_cons_of_mem _ (gN_mem h)

theorem sndL_eq : ∀ ρ : List (Nat × Nat), sndL ρ = ρ.map (·.2)
  | [] => rfl
  | (_, _) :: r => by simp [sndL, sndL_eq r]

theorem snd_inj : ∀ {r : List (Nat × Nat)} {i i' j : Nat}, (r.map (·.2)).Nodup → (i, j) ∈ r → (i', j) ∈ r → i = i'
  | [], _, _, _, _, h, _ => by simp at h
  | p :: r, i, i', j, hn, m1, m2 => by
    rw [List.map_cons, List.nodup_cons] at hn
    have mem : ∀ {k}, (k, j) ∈ r → j ∈ r.map (·.2) := fun h => List.mem_map.2 ⟨_, h, rfl⟩
    rcases List.mem_cons.1 m1 with e1 | m1
    · rcases List.mem_cons.1 m2 with e2 | m2
      · rw [← e1] at e2; exact (Prod.mk.inj e2).1.symm
      · exact absurd (mem m2) (by rw [← e1] at hn; exact hn.1)
    · rcases List.mem_cons.1 m2 with e2 | m2
      · exact absurd (mem m1) (by rw [← e2] at hn; exact hn.1)
      · exact snd_inj hn.2 m1 m2

theorem gN_inj {ρ : List (Nat × Nat)} (hn : (sndL ρ).Nodup) {i i' j : Nat} (h : gN ρ i = some j) (h' : gN ρ i' = some j) : i = i' := by
  rw [sndL_eq] at hn
  exact snd_inj hn (gN_mem h) (gN_mem h')

mutual
theorem pullV_sound {P : Program} {K : Nat → Prop} {ρ : List (Nat × Nat)} {τo σo : List (Nat × O)} : ∀ (n : Nat) {v v' : V} {u : Value}, pullV ρ τo σo n v = some v' → VR P w K S G v' u → VR P w K S (G.pull ρ τo σo) v u
  | n, v, v', u, h, hv => by
    have hβ : ∀ {i j}, gN ρ i = some j → (G.pull ρ τo σo).β i = G.β j := fun h => by simp [Gh.pull, h]
    have hsz : ∀ {i j}, gN ρ i = some j → (G.pull ρ τo σo).sz i = G.sz j := fun h => by simp [Gh.pull, h]
    unfold pullV at h
    split at h
    · simp only [Option.some.injEq] at h; subst h; cases hv with | t hx _ => exact .t hx .nil
    · exact .any u
    · split at h
      · rename_i j hj
        simp only [Option.some.injEq] at h
        subst h
        cases hv with | rf hd hu h1 _ => exact .rf ⟨j, hj, hd⟩ (by rw [hβ hj]; exact hu) h1 .nil
      · simp at h
    · split at h
      · rename_i j hj
        simp only [Option.some.injEq] at h
        subst h
        cases hv with | sb hd h0 h1 hn hm hc hA hb _ => exact .sb ⟨j, hj, hd⟩ h0 h1 hn hm hc (by rw [hβ hj, hsz hj]; exact hA) (by rw [hβ hj]; exact hb) .nil
      · simp at h
    · split at h
      · rename_i j x y hj hvv
        split at h
        · rename_i hb
          obtain rfl := beq_true hb
          simp only [Option.some.injEq] at h
          subst h
          cases hv with
          | np hd hi rows0 us0 hk hj' hrw hl hu hsl _ =>
            refine .np ⟨j, hj, hd⟩ hi rows0 us0 (by
              simp only [Gh.pull]
              rw [show gN ρ _ = some j from hj, hvv]
              simpa using hk) (by rw [hsz hj]; exact hj') hrw hl (by rw [hsz hj]; exact hu) hsl .nil
        · simp at h
      · simp at h
    · split at h
      · rename_i j hj
        simp only [Option.some.injEq] at h
        subst h
        cases hv with
        | pt hd hi hg _ =>
          rw [← hsz hj]
          exact .pt ⟨j, hj, hd⟩ hi (by rw [hβ hj]; exact hg) .nil
      · simp at h
    · split at h
      · rename_i l hl
        simp only [Option.some.injEq] at h
        subst h
        cases hv with | ag hc _ => exact .ag (pullL_sound _ hl hc) .nil
      · simp at h
    · split at h
      · rename_i l hl
        simp only [Option.some.injEq] at h
        subst h
        cases hv with | tu hc _ => exact .tu (pullL_sound _ hl hc) .nil
      · simp at h
    · split at h
      · rename_i l hl
        simp only [Option.some.injEq] at h
        subst h
        cases hv with | fn hc _ => exact .fn (pullL_sound _ hl hc) .nil
      · simp at h
    · simp at h
theorem pullL_sound {P : Program} {K : Nat → Prop} {ρ : List (Nat × Nat)} {τo σo : List (Nat × O)} : ∀ (n : Nat) {vs vs' : List V} {us : List Value}, pullV.pullL ρ τo σo n vs = some vs' → VRs P w K S G vs' us → VRs P w K S (G.pull ρ τo σo) vs us
  | n, [], vs', us, h, hv => by
    simp only [pullV.pullL, Option.some.injEq] at h
    subst h
    cases hv
    exact .nil
  | 0, c :: cs, vs', us, h, hv => by simp [pullV.pullL] at h
  | n + 1, c :: cs, vs', us, h, hv => by
    simp only [pullV.pullL] at h
    split at h
    · simp at h
    · rename_i x hx
      split at h
      · simp at h
      · rename_i xs hxs
        simp only [Option.some.injEq] at h
        subst h
        obtain ⟨u, us, rfl, h1, h2⟩ := hv.uncons
        exact .cons (pullV_sound n hx h1) (pullL_sound n hxs h2)
end

theorem weakE_sound {P : Program} {K : Nat → Prop} {ρ : List (Nat × Nat)} {τo σo : List (Nat × O)} {σe : List (Nat × V)} {tmps : Nat → Value} (hr : ∀ t, VR P w K S G (look .u σe t) (tmps t)) : ∀ {τe : List (Nat × V)} {ps : List Prop}, weakE ρ τo σo σe τe = some ps → AllP ps → ∀ t, VR P w K S (G.pull ρ τo σo) (look .u τe t) (tmps t)
  | [], ps, _, _, t => .any _
  | (k, v) :: r, ps, h, hp, t => by
    simp only [weakE] at h
    split at h
    · simp at h
    · rename_i ps' hrec
      rw [look_cons]
      split at h
      · simp only [Option.some.injEq] at h
        subst h
        split
        · exact .any _
        · exact weakE_sound hr hrec hp t
      · split at h
        · rename_i v' hv'
          simp only [Option.some.injEq] at h
          subst h
          split
          · rename_i e
            subst e
            refine pullV_sound _ hv' ?_
            rw [hp.1]
            exact hr t
          · exact weakE_sound hr hrec hp.2 t
        · simp at h

theorem OR_pull {P : Program} {K : Nat → Prop} {ρ : List (Nat × Nat)} {τo σo : List (Nat × O)} (hobj : ∀ j, OR P w K S G (φ j) j (look .dead σo j)) : ∀ {l : List (Nat × O)} {ps : List Prop}, weakO ρ τo σo l = some ps → AllP ps → ∀ i, look O.dead l i = look O.dead τo i → OR P w K S (G.pull ρ τo σo) (fun b => match gN ρ i with | some j => φ j b | none => False) i (look .dead l i)
  | [], ps, h, hp, i, he => trivial
  | (k, o) :: r, ps, h, hp, i, he => by
    simp only [weakO] at h
    split at h
    · simp at h
    · rename_i ps' hrec
      rw [look_cons] at he ⊢
      have rest : AllP ps' → i ≠ k → OR P w K S (G.pull ρ τo σo) (fun b => match gN ρ i with | some j => φ j b | none => False) i (look .dead r i) := fun hp' hne => OR_pull hobj hrec hp' i (by rw [if_neg hne] at he; exact he)
      split at h
      · simp only [Option.some.injEq] at h
        subst h
        by_cases e : i = k
        · rw [if_pos e]; trivial
        · rw [if_neg e]; exact rest hp e
      · rename_i ver e sz rows
        split at h
        · rename_i j hj
          split at h
          · rename_i ver' e' sz' rows' ho
            split at h
            · rename_i hb1 hb2
              obtain rfl := beq_true hb1
              obtain rfl := beq_true hb2
              simp only [Option.some.injEq] at h
              subst h
              obtain ⟨rfl, hp⟩ := hp
              by_cases e : i = k
              · subst e
                rw [if_pos rfl] at he ⊢
                have := hobj j
                rw [ho] at this
                obtain ⟨hd, h1, h2, us, hk, h3, h4, ψ, h5, h6, h7⟩ := this
                have hβ : (G.pull ρ τo σo).β i = G.β j := by simp [Gh.pull, show gN ρ i = some j from hj]
                refine ⟨⟨j, hj, hd⟩, h1, by simpa [Gh.pull, show gN ρ i = some j from hj] using h2, us, ?_, h3, by rw [hβ]; exact h4, ψ, ?_, ?_, h7⟩
                · have hvv : vers ρ τo σo i = some (ver, ver') := by
                    unfold vers
                    rw [hj, ← he]
                    simp only
                    rw [ho]
                  simp only [Gh.pull]
                  rw [show gN ρ i = some j from hj, hvv]
                  simpa using hk
                · intro b hb
                  rw [hβ] at hb
                  rw [show gN ρ i = some j from hj]
                  exact h5 b hb
                · intro b hb
                  rw [show gN ρ i = some j from hj]
                  exact h6 b hb
              · rw [if_neg e]; exact rest hp e
            · simp at h
          · simp at h
        · simp at h
      · rename_i e cs
        split at h
        · rename_i j hj
          split at h
          · rename_i e' cs' cs'' ho hcs
            split at h
            · rename_i hb1
              obtain rfl := beq_true hb1
              simp only [Option.some.injEq] at h
              subst h
              obtain ⟨rfl, hp⟩ := hp
              by_cases e : i = k
              · subst e
                rw [if_pos rfl]
                have := hobj j
                rw [ho] at this
                obtain ⟨hd, g, us, h1, h2, h3, h4⟩ := this
                have hβ : (G.pull ρ τo σo).β i = G.β j := by simp [Gh.pull, show gN ρ i = some j from hj]
                exact ⟨⟨j, hj, hd⟩, g, us, by rw [hβ]; exact h1, h2, by rw [show gN ρ i = some j from hj]; exact h3, pullL_sound _ hcs h4⟩
              · rw [if_neg e]; exact rest hp e
            · simp at h
          · simp at h
        · simp at h

theorem fixB_sound : ∀ {ρ : List (Nat × Nat)} {A : List Nat}, fixB ρ A = true → ∀ i ∈ A, gN ρ i = some i
  | ρ, [], _, i, hi => by simp at hi
  | ρ, k :: r, h, i, hi => by
    simp only [fixB] at h
    split at h
    · rename_i j hj
      split at h
      · rename_i hb
        obtain rfl := beq_true hb
        rcases List.mem_cons.1 hi with rfl | hi
        · exact hj
        · exact fixB_sound h i hi
      · simp at h
    · simp at h

theorem knownB_sound {nx : Nat} {τo : List (Nat × O)} : ∀ {ρ : List (Nat × Nat)}, knownB nx τo ρ = true → ∀ i j, (i, j) ∈ ρ → i < nx ∨ hasKey τo i = true
  | [], _, i, j, h => by simp at h
  | (k, x) :: r, hk, i, j, h => by
    simp only [knownB] at hk
    split at hk
    · simp at hk
    · rename_i hne
      rcases List.mem_cons.1 h with e | h
      · obtain ⟨rfl, rfl⟩ := Prod.mk.inj e
        cases h1 : nl (i + 1) nx with
        | true => exact .inl (ble_true h1)
        | false =>
          cases h2 : hasKey τo i with
          | true => exact .inr rfl
          | false => exact (hne h1 h2).elim
      · exact knownB_sound hk i j h

theorem WeakS.of (A : List Nat) (ρ : List (Nat × Nat)) (hA : ∀ i v, F.anc i = some v → i ∈ A) {ps : List Prop} (h : weakP A ρ σ τ = some ps) (hp : AllP ps) : WeakS F σ τ := by
  rintro a w ⟨S, G, φ, hr⟩
  unfold weakP at h
  split at h
  · rename_i hn hnd hfix hkn
    split at h
    · rename_i p q hpe hpo
      simp only [Option.some.injEq] at h
      subst h
      rw [AllP_append] at hp
      have hnd := nodupB_iff _ hnd
      refine ⟨S, G.pull ρ τ.objs σ.objs, fun i b => match gN ρ i with | some j => φ j b | none => False, ?_, ?_, ?_, hr.KS, hr.Slt, fun t => weakE_sound (fun t => hr.env t) hpe hp.1 t, fun i => OR_pull hr.obj hpo hp.2 i rfl, ?_, ?_, hr.kept, hr.defs, ?_⟩
      · rintro i ⟨j, hj, _⟩
        exact knownB_sound hkn i j (gN_mem hj)
      · intro i v x hx
        simp only [Gh.pull] at hx
        split at hx
        · simp at hx
        · rename_i j hj
          split at hx
          · simp at hx
          · rename_i x' y' hv
            split at hx
            · rename_i hc
              refine ⟨⟨j, hj, (hr.kd j y' x hx).1⟩, fun ver e sz rows ho => ?_⟩
              unfold vers at hv
              rw [show vers.getN ρ i = some j from hj, ho] at hv
              simp only at hv
              split at hv
              · rename_i heq _
                simp only [O.row.injEq] at heq
                simp only [Option.some.injEq, Prod.mk.injEq] at hv
                omega
              · simp at hv
            · simp at hx
      · rw [hr.n]; exact beq_true hn
      · intro i i' hne b hb hb'
        cases hi : gN ρ i with
        | none => rw [hi] at hb; exact hb
        | some j =>
          cases hi' : gN ρ i' with
          | none => rw [hi'] at hb'; exact hb'
          | some j' =>
            rw [hi] at hb
            rw [hi'] at hb'
            refine hr.dj j j' ?_ b hb hb'
            rintro rfl
            exact hne (gN_inj hnd hi hi')
      · intro i b hb
        cases hi : gN ρ i with
        | none => rw [hi] at hb; exact hb.elim
        | some j => rw [hi] at hb; exact hr.own j b hb
      · intro i v hv
        obtain ⟨h1, h2⟩ := hr.anc i v hv
        have := fixB_sound hfix i (hA i v hv)
        exact ⟨⟨i, this, h1⟩, by simp [Gh.pull, this, h2]⟩
    · simp at h
  · simp at h

theorem Weak.of (A : List Nat) (ρ : List (Nat × Nat)) (hA : ∀ i v, F.anc i = some v → i ∈ A) {ps : List Prop} (h : weakP A ρ σ τ = some ps) (hp : AllP ps) : Weak F σ τ := Weak.up fun K => WeakS.of (F := F.up K) A ρ hA h hp

end Go.Proofs.Ytgicjbeaomjdgaa.L
