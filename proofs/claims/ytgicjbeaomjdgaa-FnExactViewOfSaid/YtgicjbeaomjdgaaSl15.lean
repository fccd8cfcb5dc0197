/- Code: rules; a function's entry and end. -/
import Derived.Test.YtgicjbeaomjdgaaSl14
namespace Go.Proofs.Ytgicjbeaomjdgaa.L
set_option linter.unusedVariables false
set_option linter.unusedSimpArgs false
open Go

variable {F : Fr} {σ : St} {a : Act} {w : World} {S : Nat → Prop} {G : Gh} {φ : Nat → Nat → Prop} {tab : List (Nat × Ty)}

def Run (F : Fr) (σ : St) (c : Code) (Q : Exit → St → Prop) : Prop := ∀ a w, Rel F σ a w → c.wp F.P (fun e a w => ∃ σ', Q e σ' ∧ Rel F σ' a w) a w

def Weak (F : Fr) (σ τ : St) : Prop := ∀ a w, Rel F σ a w → Rel F τ a w
def RelS (F : Fr) (σ : St) (a : Act) (w : World) : Prop := ∃ S G φ, Rel0 F σ a w S G φ
/-- The same, where no more blocks may be kept behind than before. -/
def WeakS (F : Fr) (σ τ : St) : Prop := ∀ a w, RelS F σ a w → RelS F τ a w
theorem Weak.up {τ : St} (h : ∀ K, WeakS (F.up K) σ τ) : Weak F σ τ := fun a w ⟨K, hK, hr⟩ => ⟨K, hK, h K a w hr⟩

variable {Q Q' : Exit → St → Prop} {x y c : Code}

theorem Run.weak {τ : St} (h : Run F τ c Q) (hw : Weak F σ τ) : Run F σ c Q := fun a w hr => h a w (hw a w hr)

theorem Run.mono (h : Run F σ c Q) (hq : ∀ e σ, Q e σ → Q' e σ) : Run F σ c Q' :=
  fun a w hr => Code.wp_mono (fun _ _ _ ⟨σ', h1, h2⟩ => ⟨σ', hq _ _ h1, h2⟩) (h a w hr)

def thenQ (N : St → Prop) (Q : Exit → St → Prop) : Exit → St → Prop
  | .normal, σ => N σ
  | e, σ => Q e σ

theorem Run.seq (h : Run F σ x (thenQ (fun σ' => Run F σ' y Q) Q)) : Run F σ (.seq x y) Q := by
  intro a w hr
  refine wp_seq (Code.wp_mono (fun e a' w' hq => ?_) (h a w hr))
  obtain ⟨σ', h1, h2⟩ := hq
  cases e with
  | normal => exact h1 a' w' h2
  | _ => exact ⟨σ', h1, h2⟩

theorem Run.skip (h : Q .normal σ) : Run F σ .skip Q := fun _ _ hr => wp_skip ⟨σ, h, hr⟩
theorem Run.ret (h : Q .ret σ) : Run F σ .ret Q := fun _ _ hr => wp_ret ⟨σ, h, hr⟩
theorem Run.exit {id : Nat} (h : Q (.exit id) σ) : Run F σ (.exit id) Q := fun _ _ hr => wp_exit ⟨σ, h, hr⟩

def blockQ (id : Nat) (Q : Exit → St → Prop) : Exit → St → Prop
  | .exit id', σ => if id' = id then Q .normal σ else Q (.exit id') σ
  | e, σ => Q e σ

theorem Run.block {id : Nat} (h : Run F σ c (blockQ id Q)) : Run F σ (.block id c) Q := by
  intro a w hr
  refine wp_block (Code.wp_mono (fun e a' w' hq => ?_) (h a w hr))
  obtain ⟨σ', h1, h2⟩ := hq
  cases e with
  | exit id' =>
    simp only [Exit.inBlock]
    simp only [blockQ] at h1
    split
    · rename_i e; rw [if_pos e] at h1; exact ⟨σ', h1, h2⟩
    · rename_i e; rw [if_neg e] at h1; exact ⟨σ', h1, h2⟩
  | _ => exact ⟨σ', h1, h2⟩

theorem Run.cond {k : Operand} {b : Bool} {ps : List Prop} (hc : strip (ev σ.env k) = (ps, .t (.s (.bool b)))) (hp : AllP ps) (ht : b = true → Run F σ x Q) (hf : b = false → Run F σ y Q) : Run F σ (.cond k x y) Q := by
  rintro a w ⟨K, hK, S, G, φ, hr⟩
  have hk : ∀ v, k = .const v → v.oneCell' = true := by
    rintro v rfl
    simp only [ev, strip] at hc
    simp only [Prod.mk.injEq, V.t.injEq, T.s.injEq] at hc
    rw [hc.2]
    rfl
  have hv := got hr hk hc hp
  have e : a.eval k = .bool b := by
    generalize a.eval k = u at hv
    cases hv with | t h _ => cases h; rfl
  exact wp_cond_split e (fun h => ht h a w ⟨K, hK, S, G, φ, hr⟩) (fun h => hf h a w ⟨K, hK, S, G, φ, hr⟩)

theorem wp_loop_fam {P : Program} {α : Type} {c : Code} {Q : Exit → Act → World → Prop} (I : α → Act → World → Prop) (μ : α → Nat) {x0 : α} {a : Act} {w : World} (h₀ : I x0 a w)
    (round : ∀ x a w, I x a w → c.wp P (Exit.then (fun a' w' => ∃ y, μ y < μ x ∧ I y a' w') Q) a w) : (Code.loop c).wp P Q a w := by
  intro b k cs
  have key : ∀ n x a w, μ x = n → I x a w → ∃ e a' w', Q e a' w' ∧ Arrives P (lone (b.at a (.code c :: .inLoop c :: k)) cs w) b k cs e a' w' := by
    intro n
    induction n using Nat.strongRecOn with
    | _ n ih =>
      intro x a w hn hI
      obtain ⟨e, a₁, w₁, hq, harr⟩ := round x a w hI b (.inLoop c :: k) cs
      cases e with
      | normal =>
        obtain ⟨y, hlt, hI₁⟩ := hq
        obtain ⟨e₂, a₂, w₂, hq₂, harr₂⟩ := ih (μ y) (hn ▸ hlt) y a₁ w₁ rfl hI₁
        exact ⟨e₂, a₂, w₂, hq₂, .of_steps (Steps.trans harr (.one step_inLoop)) harr₂⟩
      | exit id => exact ⟨_, a₁, w₁, hq, .pass (x := .inLoop c) rfl (fun _ _ => .inl (by simp)) harr⟩
      | goto l => exact ⟨_, a₁, w₁, hq, .pass (x := .inLoop c) rfl (fun _ _ => .inl (by simp)) harr⟩
      | ret => exact ⟨_, a₁, w₁, hq, .pass (x := .inLoop c) rfl (fun _ _ => .inl (by simp)) harr⟩
      | panic ch => exact ⟨_, a₁, w₁, hq, .pass (x := .inLoop c) rfl (fun _ _ => .inl (by simp)) harr⟩
      | outgrown => exact ⟨_, a₁, w₁, hq, .pass (x := .inLoop c) rfl (fun _ _ => .inl (by simp)) harr⟩
  obtain ⟨e, a', w', hq, harr⟩ := key _ x0 a w rfl h₀
  exact ⟨e, a', w', hq, .of_steps (.one step_loop) harr⟩

/-- A loop: I x is the state at its head, where R x; μ falls. -/
theorem Run.loop {α : Type} (I : α → St) (R : α → Prop) (μ : α → Nat) (x0 : α) (h0 : Weak F σ (I x0)) (hR : R x0)
    (round : ∀ x, R x → Run F (I x) c (thenQ (fun σ' => ∃ y, μ y < μ x ∧ R y ∧ Weak F σ' (I y)) Q)) : Run F σ (.loop c) Q := by
  intro a w hr
  refine wp_loop_fam (fun x a w => R x ∧ Rel F (I x) a w) μ (x0 := x0) ⟨hR, h0 a w hr⟩ fun x a w ⟨hx, hI⟩ => ?_
  refine Code.wp_mono (fun e a' w' hq => ?_) (round x hx a w hI)
  obtain ⟨σ', h1, h2⟩ := hq
  cases e with
  | normal =>
    obtain ⟨y, hlt, hy, hw⟩ := h1
    exact ⟨y, hlt, hy, hw _ _ h2⟩
  | _ => exact ⟨σ', h1, h2⟩

theorem Rel.bump (h : Rel F σ a w) : Rel F σ.bump a w := by
  obtain ⟨K, hK, S, G, φ, h⟩ := h
  exact ⟨K, hK, S, G, φ, fun i hi => (h.nx i hi).imp (fun h => Nat.lt_of_lt_of_le h (Nat.le_add_right _ _)) id, h.kd, h.n, h.KS, h.Slt, h.env, h.obj, h.dj, h.own, h.kept, h.defs, h.anc⟩

theorem Run.region {L : Lf} (hL : L = Ls) (ht : TabOk F.P tab) (sups : List (Nat × Sup)) {id : Nat} {ops : List Oper} {ps : List Prop} {σ' : St} (h : runL F.P L tab ops sups 0 ops σ = .ok ps σ') (hp : AllP ps) (hq : Q .normal σ'.bump) : Run F σ (.region id ops.toArray false) Q := by
  subst hL
  rintro a w ⟨K, hK, S, G, φ, hr⟩
  exact wp_region_list (by simpa using runL_sound (F := F.up K) ht h hp hr fun K' S' a' w' G' φ' hk h1 => ⟨σ'.bump, hq, Rel.bump ⟨K', hK.trans hk, S', G', φ', h1⟩⟩)

/-! ### the entry -/

/-- The arguments' cells, as values here; what has come to be written: objects. -/
def openA (tab : List (Nat × Ty)) (nx : Nat) : List (Nat × O) → Nat → List T → Option (List V × List (Nat × O) × Nat × List (Option Nat))
  | objs, id, [] => some ([], objs, id, [])
  | objs, id, c :: cs => match c with
    | .ow e rows => match getTy tab e, freshB nx objs id with
      | some ty, true => match openA tab nx ((id, .row 0 e ty.size rows) :: objs) (id + 1) cs with
        | some (vs, os, id', ds) => some (.rf id :: vs, os, id', some id :: ds)
        | none => none
      | _, _ => none
    | .bx e xs => match plainV xs, freshB nx objs id with
      | some us, true => match openA tab nx ((id, .box e us) :: objs) (id + 1) cs with
        | some (vs, os, id', ds) => some (.pt id 0 0 :: vs, os, id', some id :: ds)
        | none => none
      | _, _ => none
    | c => match openA tab nx objs id cs with
      | some (vs, os, id', ds) => some ((match c with | .jk => .u | c => .t c) :: vs, os, id', none :: ds)
      | none => none

/-- The values' cells, put together as the arguments are. -/
def regroup : List A → List V → Option (List V)
  | [], [] => some []
  | .v _ :: r, x :: vs => match regroup r vs with
    | some l => some (x :: l)
    | none => none
  | .ag xs :: r, vs => match regroup r (dropN (lenN xs) vs) with
    | some l => some (.ag (takeN (lenN xs) vs) :: l)
    | none => none
  | _, _ => none

def numb : Nat → List V → List (Nat × V)
  | _, [] => []
  | k, v :: r => (k, v) :: numb (k + 1) r

/-- The state at a function's entry; the objects behind the arguments' cells. -/
def entry (tab : List (Nat × Ty)) (n : Nat) (args : List A) : Option (St × List (Option Nat)) :=
  match openA tab 0 [] 0 (acells args) with
  | some (vs, os, id, ds) => match regroup args vs with
    | some l => match nl (lenN l) n with
      | true => some (⟨n, id, numb 0 l, os⟩, ds)
      | false => none
    | none => none
  | none => none

/-! ### the end -/

def resV (tab : List (Nat × Ty)) (σ : St) : ResultVar → Option V
  | .tmp t => match strip (look .u σ.env t) with
    | ([], v) => some v
    | _ => none
  | .cell t ty => match look .u σ.env t, getTy tab ty with
    | .pt id 0 0, some ty => match look .dead σ.objs id with
      | .box _ cs => match nl ty.size (lenN cs) with
        | true => fit ty (takeN ty.size cs)
        | false => none
      | _ => none
    | _, _ => none

def resVs (tab : List (Nat × Ty)) (σ : St) : List ResultVar → Option (List V)
  | [] => some []
  | r :: rs => match resV tab σ r with
    | none => none
    | some v => match resVs tab σ rs with
      | none => none
      | some vs => some (v :: vs)

def outC (objs : List (Nat × O)) : List (Option Nat) → Option (List T × List Nat)
  | [] => some ([], [])
  | none :: ds => match outC objs ds with
    | some (ts, l) => some (.jk :: ts, l)
    | none => none
  | some id :: ds => match outC objs ds with
    | none => none
    | some (ts, l) => match look .dead objs id with
      | .row _ e _ rows => some (.ow e rows :: ts, id :: l)
      | .box e cs => match plainT cs with
        | some xs => some (.bx e xs :: ts, id :: l)
        | none => none
      | .dead => some (.jk :: ts, l)

def trues : List V → List Bool
  | [] => []
  | _ :: r => true :: trues r

/-- What comes out: the arguments' cells, the results. -/
def finish (tab : List (Nat × Ty)) (rs : List ResultVar) (ds : List (Option Nat)) (σ : St) : Option (List T × List A) :=
  match resVs tab σ rs with
  | none => none
  | some vs => match outC σ.objs ds with
    | none => none
    | some (ts, l) => match argAll Ls σ.objs σ.objs (trues vs) vs with
      | none => none
      | some (as, ds') => match nodupB (l ++ idsOf ds') with
        | true => some (ts, as)
        | false => none

end Go.Proofs.Ytgicjbeaomjdgaa.L
