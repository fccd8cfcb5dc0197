/- A region whose order is drawn, 2. -/
import Derived.Test.YtgicjbeaomjdgaaSl22
namespace Go.Proofs.Ytgicjbeaomjdgaa.L
set_option linter.unusedVariables false
set_option linter.unusedSimpArgs false
open Go

variable {F : Fr} {σ σ' : St} {a : Act} {w : World} {S : Nat → Prop} {G : Gh} {φ : Nat → Nat → Prop} {tab : List (Nat × Ty)} {L : Lf} {P : Program}

def bindsB (e : Edge) : Bool := match e.ground with
  | .textOnly _ => false
  | .gcOnly _ => false
  | _ => true

theorem bindsB_eq (e : Edge) : Region.binds .any e = bindsB e := by
  unfold Region.binds bindsB
  cases e.ground <;> rfl

def nthD : List Nat → Nat → Nat
  | [], _ => 0
  | x :: _, 0 => x
  | _ :: r, n + 1 => nthD r n

/-- The operations ahead, as bits. -/
def maskOf (pm : List Nat) : List Edge → Nat
  | [] => 0
  | e :: r => match bindsB e with
    | true => (2 ^ e.on) ||| nthD pm e.on ||| maskOf pm r
    | false => maskOf pm r

def clos : List Nat → List Oper → List Nat
  | acc, [] => acc
  | acc, o :: r => clos (acc ++ [maskOf acc o.after.toList]) r

def edgesB (i : Nat) : List Edge → Bool
  | [] => true
  | e :: r => match bindsB e, nl (e.on + 1) i with
    | true, false => false
    | _, _ => edgesB i r

def certB (pm : List Nat) : Nat → List Oper → Bool
  | _, [] => true
  | i, o :: r => match nq (nthD pm i) (maskOf pm o.after.toList), edgesB i o.after.toList with
    | true, true => certB pm (i + 1) r
    | _, _ => false

def apartB (pm : List Nat) (i j : Nat) : Bool :=
  match nq i j, Nat.testBit (nthD pm i) j, Nat.testBit (nthD pm j) i with
  | false, false, false => true
  | _, _, _ => false

def disjB {α β : Type} : List (Nat × α) → List (Nat × β) → Bool
  | [], _ => true
  | (k, _) :: r, l => match hasKey l k with
    | true => false
    | false => disjB r l

def pairRow (pm : List Nat) (i : Nat) (en : Ent) : Nat → List Ent → Bool
  | _, [] => true
  | j, e :: r => match apartB pm i j with
    | false => pairRow pm i en (j + 1) r
    | true => match disjB en.env e.env, disjB en.os e.os with
      | true, true => pairRow pm i en (j + 1) r
      | _, _ => false

def pairsB (pm : List Nat) (all : List Ent) : Nat → List Ent → Bool
  | _, [] => true
  | i, e :: r => match pairRow pm i e 0 all with
    | true => pairsB pm all (i + 1) r
    | false => false

def collect (P : Program) (L : Lf) (tab : List (Nat × Ty)) (ops : List Oper) (sups : List (Nat × Sup)) : Nat → List Oper → St → Option (List Ent)
  | _, [], _ => some []
  | i, o :: r, σ => match stepR P L tab σ (σ.nx + i) ops o (supOf sups i) with
    | none => none
    | some (ps, v, os) => match collect P L tab ops sups (i + 1) r (σ.upd o.dst v os) with
      | some l => some (⟨o.dst, ps, v, os⟩ :: l)
      | none => none

def maskAt (σ : St) (pm : List Nat) (ents : List Ent) (i : Nat) : St :=
  σ.mask (fun j => Nat.testBit (nthD pm i) j) (fun j => apartB pm i j) ents

def stepAt (P : Program) (L : Lf) (tab : List (Nat × Ty)) (ops : List Oper) (sups : List (Nat × Sup)) (σ : St) (pm : List Nat) (ents : List Ent) (i : Nat) (o : Oper) : Option Ent :=
  match okU (maskAt σ pm ents i).env o.op with
  | false => none
  | true => match stepR P L tab (maskAt σ pm ents i) (σ.nx + i) ops o (supOf sups i) with
    | none => none
    | some (ps, v, os) => some ⟨o.dst, ps, v, os⟩

def stepsAt (P : Program) (L : Lf) (tab : List (Nat × Ty)) (ops : List Oper) (sups : List (Nat × Sup)) (σ : St) (pm : List Nat) (ents : List Ent) : Nat → List Oper → List (Option Ent)
  | _, [] => []
  | i, o :: r => stepAt P L tab ops sups σ pm ents i o :: stepsAt P L tab ops sups σ pm ents (i + 1) r

def somes : List Ent → List (Option Ent)
  | [] => []
  | e :: r => some e :: somes r

def allPs : List Ent → List Prop
  | [] => []
  | e :: r => e.ps ++ allPs r

def finE {α : Type} (f : Ent → List (Nat × α)) : List Ent → List (Nat × α) → List (Nat × α)
  | [], l => l
  | e :: r, l => finE f r (f e ++ l)

def St.fin (σ : St) (ents : List Ent) : St := ⟨σ.n, σ.nx + 4096, finE Ent.env ents σ.env, finE Ent.os ents σ.objs⟩

/-! ### what the checks say -/

theorem nthD_eq : ∀ (l : List Nat) (i : Nat), nthD l i = l.getD i 0
  | [], i => by simp [nthD]
  | x :: _, 0 => rfl
  | _ :: r, n + 1 => by simp [nthD, nthD_eq r n]

theorem maskOf_bit {pm : List Nat} : ∀ {es : List Edge} {b : Nat}, Nat.testBit (maskOf pm es) b = true → ∃ e ∈ es, bindsB e = true ∧ (b = e.on ∨ Nat.testBit (nthD pm e.on) b = true)
  | [], b, h => by simp [maskOf] at h
  | e :: r, b, h => by
    simp only [maskOf] at h
    split at h
    · rename_i hb
      simp only [Nat.testBit_or, Bool.or_eq_true, Nat.testBit_two_pow, decide_eq_true_eq] at h
      rcases h with (h | h) | h
      · exact ⟨e, by simp, hb, .inl h.symm⟩
      · exact ⟨e, by simp, hb, .inr h⟩
      · obtain ⟨e', h1, h2⟩ := maskOf_bit h
        exact ⟨e', by simp [h1], h2⟩
    · obtain ⟨e', h1, h2⟩ := maskOf_bit h
      exact ⟨e', by simp [h1], h2⟩

theorem edgesB_lt {i : Nat} : ∀ {es : List Edge}, edgesB i es = true → ∀ e ∈ es, bindsB e = true → e.on < i
  | [], _, e, h, _ => by simp at h
  | e0 :: r, hb, e, h, hbe => by
    simp only [edgesB] at hb
    split at hb
    · simp at hb
    · rename_i hne
      rcases List.mem_cons.1 h with rfl | h
      · cases hx : nl (e.on + 1) i with
        | true => exact nl_le hx
        | false => exact (hne hbe hx).elim
      · exact edgesB_lt hb e h hbe

theorem certB_at {pm : List Nat} : ∀ {i : Nat} {l : List Oper}, certB pm i l = true → ∀ k o, l[k]? = some o → nthD pm (i + k) = maskOf pm o.after.toList ∧ edgesB (i + k) o.after.toList = true
  | i, [], _, k, o, h => by simp at h
  | i, o0 :: r, hc, k, o, h => by
    simp only [certB] at hc
    split at hc
    · rename_i h1 h2
      cases k with
      | zero =>
        simp only [List.getElem?_cons_zero, Option.some.injEq] at h
        subst h
        exact ⟨nq_eq h1, h2⟩
      | succ k =>
        have := certB_at hc k o (by simpa using h)
        rwa [show i + 1 + k = i + (k + 1) by omega] at this
    · simp at hc

theorem disjB_at {α β : Type} : ∀ {l : List (Nat × α)} {l' : List (Nat × β)}, disjB l l' = true → ∀ t, hasKey l t = true → hasKey l' t = false
  | [], l', _, t, h => by simp [hasKey] at h
  | (k, x) :: r, l', hd, t, h => by
    simp only [disjB] at hd
    split at hd
    · simp at hd
    · rename_i hk
      rcases (hasKey_cons k x r t).1 h with rfl | h
      · exact hk
      · exact disjB_at hd t h

theorem pairRow_at {pm : List Nat} {i : Nat} {en : Ent} : ∀ {j : Nat} {l : List Ent}, pairRow pm i en j l = true → ∀ k e, l[k]? = some e → apartB pm i (j + k) = true → disjB en.env e.env = true ∧ disjB en.os e.os = true
  | j, [], _, k, e, h, _ => by simp at h
  | j, e0 :: r, hp, k, e, h, ha => by
    simp only [pairRow] at hp
    have rest : pairRow pm i en (j + 1) r = true → ∀ k e, r[k]? = some e → apartB pm i (j + 1 + k) = true → disjB en.env e.env = true ∧ disjB en.os e.os = true := fun h => pairRow_at h
    cases k with
    | zero =>
      simp only [List.getElem?_cons_zero, Option.some.injEq] at h
      subst h
      rw [Nat.add_zero] at ha
      rw [ha] at hp
      simp only at hp
      split at hp
      · rename_i h1 h2; exact ⟨h1, h2⟩
      · simp at hp
    | succ k =>
      have hr : pairRow pm i en (j + 1) r = true := by
        split at hp
        · exact hp
        · split at hp
          · exact hp
          · simp at hp
      exact rest hr k e (by simpa using h) (by rwa [show j + 1 + k = j + (k + 1) by omega])

theorem pairsB_at {pm : List Nat} {all : List Ent} : ∀ {i : Nat} {l : List Ent}, pairsB pm all i l = true → ∀ k e, l[k]? = some e → pairRow pm (i + k) e 0 all = true
  | i, [], _, k, e, h => by simp at h
  | i, e0 :: r, hp, k, e, h => by
    simp only [pairsB] at hp
    split at hp
    · rename_i h1
      cases k with
      | zero =>
        simp only [List.getElem?_cons_zero, Option.some.injEq] at h
        subst h
        exact h1
      | succ k =>
        have := pairsB_at hp k e (by simpa using h)
        rwa [show i + 1 + k = i + (k + 1) by omega] at this
    · simp at hp

theorem stepsAt_at {ops : List Oper} {sups : List (Nat × Sup)} {pm : List Nat} {ents : List Ent} : ∀ {i : Nat} {l : List Oper} {r : List Ent}, stepsAt P L tab ops sups σ pm ents i l = somes r → (∀ k o, l[k]? = some o → ∃ e, r[k]? = some e ∧ stepAt P L tab ops sups σ pm ents (i + k) o = some e) ∧ r.length = l.length
  | i, [], [], _ => ⟨fun k o h => by simp at h, rfl⟩
  | i, [], _ :: _, h => by simp [stepsAt, somes] at h
  | i, _ :: _, [], h => by simp [stepsAt, somes] at h
  | i, o0 :: l, e0 :: r, h => by
    simp only [stepsAt, somes, List.cons.injEq] at h
    obtain ⟨h1, h2⟩ := stepsAt_at h.2
    refine ⟨fun k o hk => ?_, by simp [h2]⟩
    cases k with
    | zero =>
      simp only [List.getElem?_cons_zero, Option.some.injEq] at hk
      subst hk
      exact ⟨e0, rfl, h.1⟩
    | succ k =>
      obtain ⟨e, h3, h4⟩ := h1 k o (by simpa using hk)
      exact ⟨e, by simpa using h3, by rwa [show i + 1 + k = i + (k + 1) by omega] at h4⟩

theorem allPs_at : ∀ {l : List Ent}, AllP (allPs l) → ∀ (k : Nat) e, l[k]? = some e → AllP e.ps
  | [], _, k, e, h => by simp at h
  | e0 :: r, hp, k, e, h => by
    simp only [allPs] at hp
    rw [AllP_append] at hp
    cases k with
    | zero =>
      simp only [List.getElem?_cons_zero, Option.some.injEq] at h
      subst h
      exact hp.1
    | succ k => exact allPs_at hp.2 k e (by simpa using h)

theorem finE_eq {α : Type} (f : Ent → List (Nat × α)) : ∀ (i : Nat) (ents : List Ent) (l : List (Nat × α)), finE f ents l = cut f (fun _ => true) i ents ++ l
  | _, [], l => rfl
  | i, e :: r, l => by
    simp only [finE, cut]
    rw [finE_eq f (i + 1) r]
    simp

theorem look_mask : ∀ (U : Nat → Bool) (i : Nat) (ents : List Ent) (t : Nat), look V.u (cut maskE U i ents) t = .u
  | U, i, [], t => rfl
  | U, i, e :: r, t => by
    simp only [cut, look_append]
    rw [look_mask U (i + 1) r t]
    cases U i with
    | false => simp [look]
    | true =>
      have : look V.u (maskE e) t = .u := by
        unfold maskE
        split
        · rw [look_cons]; simp [look]
        · rfl
      simp [this]

theorem look_deadK : ∀ (l : List (Nat × O)) (t : Nat), look O.dead (deadK l) t = .dead
  | [], t => rfl
  | (k, _) :: r, t => by simp only [deadK]; rw [look_cons, look_deadK r t]; simp

theorem hasKey_deadK : ∀ (l : List (Nat × O)) (t : Nat), hasKey (deadK l) t = hasKey l t
  | [], t => rfl
  | (k, _) :: r, t => by simp only [deadK, hasKey, hasKey_deadK r t]

theorem look_maskO : ∀ (U : Nat → Bool) (i : Nat) (ents : List Ent) (t : Nat), look O.dead (cut maskO U i ents) t = .dead
  | U, i, [], t => rfl
  | U, i, e :: r, t => by
    simp only [cut, look_append]
    rw [look_maskO U (i + 1) r t]
    cases U i with
    | false => simp [look]
    | true => simp [maskO, look_deadK]

theorem hasKey_cut {α β : Type} {f : Ent → List (Nat × α)} {g : Ent → List (Nat × β)} {t : Nat} (hfg : ∀ e, hasKey (g e) t = hasKey (f e) t) {U : Nat → Bool} : ∀ (i : Nat) (ents : List Ent), hasKey (cut g U i ents) t = false → ∀ k e, ents[k]? = some e → U (i + k) = true → hasKey (f e) t = false
  | i, [], _, k, e, h, _ => by simp at h
  | i, e0 :: r, hh, k, e, h, hu => by
    simp only [cut, hasKey_app, Bool.or_eq_false_iff] at hh
    cases k with
    | zero =>
      simp only [List.getElem?_cons_zero, Option.some.injEq] at h
      subst h
      rw [Nat.add_zero] at hu
      rw [hu] at hh
      rw [← hfg]
      exact hh.2
    | succ k => exact hasKey_cut hfg (i + 1) r hh.1 k e (by simpa using h) (by rwa [show i + 1 + k = i + (k + 1) by omega])

theorem hasKey_maskE (e : Ent) (t : Nat) : hasKey (maskE e) t = hasKey e.env t := by
  unfold maskE Ent.env
  split <;> rfl

theorem Rel.congr (h : Rel F σ a w) (hn : σ'.n = σ.n) (hx : σ'.nx = σ.nx) (he : ∀ t, look .u σ'.env t = look .u σ.env t) (ho : ∀ i, look .dead σ'.objs i = look .dead σ.objs i) (hk : ∀ i, hasKey σ.objs i = true → hasKey σ'.objs i = true) : Rel F σ' a w := by
  obtain ⟨K, hK, S, G, φ, h⟩ := h
  exact ⟨K, hK, S, G, φ, fun i hi => by rw [hx]; exact (h.nx i hi).imp id (hk i), fun i v x hv => ⟨(h.kd i v x hv).1, fun ver e sz rows hr => (h.kd i v x hv).2 ver e sz rows (by rw [← ho]; exact hr)⟩, by rw [hn]; exact h.n, h.KS, h.Slt, fun t => by rw [he]; exact h.env t, fun i => by rw [ho]; exact h.obj i, h.dj, h.own, h.kept, h.defs, h.anc⟩

end Go.Proofs.Ytgicjbeaomjdgaa.L
