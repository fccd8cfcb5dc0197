/- A region whose order is drawn. -/
import Derived.Test.YtgicjbeaomjdgaaSl21
namespace Go.Proofs.Ytgicjbeaomjdgaa.L
set_option linter.unusedVariables false
set_option linter.unusedSimpArgs false
open Go

variable {F : Fr} {σ σ' : St} {a : Act} {w : World} {S : Nat → Prop} {G : Gh} {φ : Nat → Nat → Prop} {tab : List (Nat × Ty)} {L : Lf} {P : Program}

def okU (e : List (Nat × V)) (op : Op) : Bool := op.operands.toList.all fun x => match ev e x with
  | .u => false
  | _ => true

theorem gate_le {e e' : List (Nat × V)} (h : ELe e e') {t : Nat} {want b : Bool} (hq : gate L e t want = some b) : gate L e' t want = some b := by
  unfold gate at *
  rcases h t with h | h
  · rw [h] at hq; simp at hq
  · rw [h]; exact hq

theorem handObs_le {o o' : List (Nat × O)} (h : OLe o o') : ∀ {ids : List Nat} {obs}, handObs o ids = some obs → handObs o' ids = some obs
  | [], _, hq => hq
  | i :: r, obs, hq => by
    simp only [handObs] at hq ⊢
    split at hq
    · simp at hq
    · rename_i q hr
      rw [handObs_le h hr]
      rcases h.1 i with hd | hd
      · rw [hd] at hq; simp at hq
      · try simp only
        rw [hd]; exact hq

theorem keysB_le {nx : Nat} {o o' : List (Nat × O)} (h : OLe o o') {ids : List Nat} : ∀ {os : List (Nat × O)}, keysB nx o ids os = true → keysB nx o' ids os = true
  | [], _ => rfl
  | (k, x) :: r, hq => by
    simp only [keysB] at hq ⊢
    split at hq
    · exact keysB_le h hq
    · split at hq
      · rename_i hf; rw [fresh_le h hf]; exact keysB_le h hq
      · simp at hq

theorem evs_same {e e' : List (Nat × V)} : ∀ {xs : List Operand}, (∀ x ∈ xs, ev e' x = ev e x) → evs e' xs = evs e xs
  | [], _ => rfl
  | x :: r, h => by
    simp only [evs]
    rw [h x (by simp), evs_same (fun y hy => h y (by simp [hy]))]

theorem stepH_le (h : SLe σ σ') {op : Op} {ids : List Nat} {v : V} {os : List (Nat × O)} (hs : Same σ.env σ'.env op) {r} (hq : stepH P σ op ids v os = some r) : stepH P σ' op ids v os = some r := by
  unfold stepH at *
  rw [evs_same (e := σ.env) (fun x hx => hs x (Array.mem_toList_iff.1 hx))]
  split at hq
  · rename_i h1 h2 h3
    rw [handObs_le h.objs h1, h.nx, keysB_le h.objs h2, h3]
    exact hq
  · simp at hq

theorem stepW_le (h : SLe σ σ') {op : Op} {id : Nat} {sup : Option Sup} (hs : Same σ.env σ'.env op) {r} (hq : stepW P L tab σ id op sup = some r) : stepW P L tab σ' id op sup = some r := by
  unfold stepW at *
  split at hq
  · exact stepH_le h hs hq
  split at hq
  · split at hq
    · rename_i h1
      rw [stepQ_le h hs h1]; exact hq
    · simp at hq
  · split at hq
    · rename_i hf
      rw [h.nx, fresh_le h.objs hf]
      exact stepA_le h hs hq
    · simp at hq
  · split at hq
    · rename_i h1
      rw [stepS_le h hs h1]; exact hq
    · simp at hq
  · split at hq
    · rename_i c
      split at hq
      · rename_i ps v objs hc
        obtain ⟨δ, hδ⟩ := stepC_ext hc
        subst hδ
        rw [delta_eq] at hq
        try simp only
        rw [stepC_le h hs hc]
        try simp only
        rw [delta_eq]
        exact hq
      · simp at hq
    · simp at hq

theorem okU_same {e e' : List (Nat × V)} (h : ELe e e') {op : Op} (hk : okU e op = true) : Same e e' op := by
  intro x hx
  have := List.all_eq_true.1 hk x (Array.mem_toList_iff.2 hx)
  refine (ev_le h x).resolve_left fun hu => ?_
  rw [hu] at this
  simp at this

theorem condO_le {o o' : List (Nat × O)} (h : OLe o o') {b : Bool} : ∀ {os : List (Nat × O)} {q}, condO L b o os = some q → condO L b o' os = some q
  | [], _, hq => hq
  | (id, x) :: r, q, hq => by
    simp only [condO] at hq ⊢
    split at hq
    · rename_i ps1 os1 e cs e' cs0 h1 hlk
      rcases h.1 id with hd | hd
      · rw [hd] at hlk; simp at hlk
      · rw [condO_le h h1, hd, hlk]
        exact hq
    · simp at hq

theorem stepGd_le (h : SLe σ σ') {o : Oper} {id : Nat} {b : Bool} {sup : Option Sup} (hs : Same σ.env σ'.env o.op) {r} (hq : stepGd P L tab σ id o b sup = some r) : stepGd P L tab σ' id o b sup = some r := by
  unfold stepGd at *
  split at hq
  · exact hq
  · split at hq
    · rename_i hw
      simp only [stepW_le h hs hw]
      exact hq
    · simp at hq
  · split at hq
    · rename_i hw
      simp only [stepW_le h hs hw]
      exact hq
    · simp at hq
  · rename_i n1 n2 n3
    split at hq
    · rename_i hw
      split at hq
      · rename_i hco
        simp only [stepW_le h hs hw, condO_le h.objs hco]
        exact hq
      · simp at hq
    · simp at hq

theorem stepO_le (h : SLe σ σ') {ops : List Oper} {o : Oper} {id : Nat} {sup : Option Sup} (hk : okU σ.env o.op = true) {r} (hq : stepO P L tab σ id ops o sup = some r) : stepO P L tab σ' id ops o sup = some r := by
  have hs := okU_same h.env hk
  unfold stepO at *
  rw [h.n]
  split at hq
  · rename_i h1 h2
    try simp only [h1, h2]
    split at hq
    · exact stepW_le h hs hq
    · split at hq
      · simp at hq
      · rename_i hog
        try simp only [hog]
        split at hq
        · simp at hq
        · rename_i hd
          try simp only [hd]
          split at hq
          · simp at hq
          · rename_i hg
            rw [gate_le h.env hg]
            try simp only
            exact stepGd_le h hs hq
  · simp at hq

theorem linkCells_le {e e' : List (Nat × V)} (h : ELe e e') {id ver : Nat} {i : Int} : ∀ {cs : List T} {j : Nat} {ls : List (Nat × Nat)} {r}, linkCells e id ver i j cs ls = some r → linkCells e' id ver i j cs ls = some r
  | [], j, ls, r, hq => hq
  | c :: cs, j, ls, r, hq => by
    simp only [linkCells] at hq ⊢
    split at hq
    · simp at hq
    · rename_i ps vs hrec
      rw [linkCells_le h hrec]
      try simp only
      cases c with
      | jk =>
        simp only at hq ⊢
        rcases h (look 0 ls j) with hu | he
        · rw [hu] at hq; simp at hq
        · rw [he]; exact hq
      | _ => exact hq

theorem stepK_le (h : SLe σ σ') {o : Oper} {es : List T} {ls : List (Nat × Nat)} (hk : okU σ.env o.op = true) {r} (hq : stepK L tab σ o es ls = some r) : stepK L tab σ' o es ls = some r := by
  have hs := okU_same h.env hk
  unfold stepK at *
  rw [h.n]
  split at hq
  · rename_i h1 h2 h3
    try simp only [h1, h2, h3]
    split at hq
    · rename_i t x hop
      try simp only [hop]
      rw [hs x (by rw [hop]; simp [Op.operands])]
      split at hq
      · rename_i ty px id i j hty hxs
        try simp only [hty, hxs]
        split at hq
        · rename_i ver e sz rows ho
          have hl : look .dead σ'.objs id = look .dead σ.objs id := look_le h.objs (by rw [ho]; simp)
          rw [hl, ho]
          try simp only
          split at hq
          · rename_i qs cs hle hcs
            simp only [hle, linkCells_le h.env hcs]
            exact hq
          · simp at hq
        · simp at hq
      · simp at hq
    · simp at hq
  · simp at hq

theorem stepR_le (h : SLe σ σ') {ops : List Oper} {o : Oper} {id : Nat} {sup : Option Sup} (hk : okU σ.env o.op = true) {r} (hq : stepR P L tab σ id ops o sup = some r) : stepR P L tab σ' id ops o sup = some r := by
  unfold stepR at *
  split at hq
  · exact stepK_le h hk hq
  · exact stepO_le h hk hq

/-! ### what a region's operations have done, of which some have run -/

structure Ent where
  d : Option Nat
  ps : List Prop
  v : V
  os : List (Nat × O)

def Ent.env (en : Ent) : List (Nat × V) := match en.d with
  | some d => [(d, en.v)]
  | none => []

def cut {α : Type} (f : Ent → List (Nat × α)) (X : Nat → Bool) : Nat → List Ent → List (Nat × α)
  | _, [] => []
  | i, en :: r => cut f X (i + 1) r ++ (match X i with | true => f en | false => [])

def St.cut (σ : St) (X : Nat → Bool) (ents : List Ent) : St :=
  ⟨σ.n, σ.nx, Go.Proofs.Ytgicjbeaomjdgaa.L.cut Ent.env X 0 ents ++ σ.env, Go.Proofs.Ytgicjbeaomjdgaa.L.cut Ent.os X 0 ents ++ σ.objs⟩

def maskE (en : Ent) : List (Nat × V) := match en.d with
  | some d => [(d, .u)]
  | none => []

def deadK : List (Nat × O) → List (Nat × O)
  | [] => []
  | (k, _) :: r => (k, .dead) :: deadK r

def maskO (en : Ent) : List (Nat × O) := deadK en.os

def St.mask (σ : St) (X U : Nat → Bool) (ents : List Ent) : St :=
  ⟨σ.n, σ.nx, Go.Proofs.Ytgicjbeaomjdgaa.L.cut maskE U 0 ents ++ (Go.Proofs.Ytgicjbeaomjdgaa.L.cut Ent.env X 0 ents ++ σ.env), Go.Proofs.Ytgicjbeaomjdgaa.L.cut maskO U 0 ents ++ (Go.Proofs.Ytgicjbeaomjdgaa.L.cut Ent.os X 0 ents ++ σ.objs)⟩

theorem cut_agree {α : Type} (d : α) (f : Ent → List (Nat × α)) {X Y : Nat → Bool} {t : Nat} : ∀ (i : Nat) (ents : List Ent), (∀ k en, ents[k]? = some en → hasKey (f en) t = true → X (i + k) = Y (i + k)) → look d (cut f X i ents) t = look d (cut f Y i ents) t ∧ hasKey (cut f X i ents) t = hasKey (cut f Y i ents) t
  | i, [], _ => ⟨rfl, rfl⟩
  | i, en :: r, h => by
    obtain ⟨h1, h2⟩ := cut_agree d f (X := X) (Y := Y) (t := t) (i + 1) r (fun k e hk ht => by have := h (k + 1) e (by simpa using hk) ht; rwa [show i + (k + 1) = i + 1 + k by omega] at this)
    have hh : ∀ (l l' : List (Nat × α)), hasKey (l ++ l') t = (hasKey l t || hasKey l' t) := fun l l' => by
      rw [Bool.eq_iff_iff, hasKey_append, Bool.or_eq_true]
    simp only [cut, look_append, hh, h1, h2]
    cases hk : hasKey (f en) t with
    | true =>
      have := h 0 en rfl hk
      rw [Nat.add_zero] at this
      rw [this]
      exact ⟨rfl, rfl⟩
    | false =>
      have hn : ∀ b : Bool, look d (match b with | true => f en | false => []) t = d ∧ hasKey (match b with | true => f en | false => []) t = false := by
        intro b
        cases b with
        | false => exact ⟨rfl, rfl⟩
        | true =>
          refine ⟨?_, hk⟩
          have : ∀ l : List (Nat × α), hasKey l t = false → look d l t = d := by
            intro l
            induction l with
            | nil => intro _; rfl
            | cons p l ih =>
              obtain ⟨k, x⟩ := p
              intro hl
              rw [look_cons]
              have h1 : ¬ (t = k ∨ hasKey l t = true) := fun hx => by rw [(hasKey_cons k x l t).2 hx] at hl; simp at hl
              rw [if_neg (fun e => h1 (.inl e))]
              exact ih (by cases hl' : hasKey l t with | false => rfl | true => exact absurd (.inr hl') h1)
          exact this _ hk
      rw [(hn (X i)).1, (hn (X i)).2, (hn (Y i)).1, (hn (Y i)).2]
      exact ⟨rfl, rfl⟩

theorem look_none {α : Type} (d : α) {t : Nat} : ∀ l : List (Nat × α), hasKey l t = false → look d l t = d
  | [], _ => rfl
  | (k, x) :: l, hl => by
    rw [look_cons]
    have h1 : ¬ (t = k ∨ hasKey l t = true) := fun hx => by rw [(hasKey_cons k x l t).2 hx] at hl; simp at hl
    rw [if_neg (fun e => h1 (.inl e))]
    exact look_none d l (by cases hl' : hasKey l t with | false => rfl | true => exact absurd (.inr hl') h1)

theorem hasKey_app {α : Type} (l l' : List (Nat × α)) (t : Nat) : hasKey (l ++ l') t = (hasKey l t || hasKey l' t) := by
  rw [Bool.eq_iff_iff, hasKey_append, Bool.or_eq_true]

/-- One operation more. -/
theorem cut_ins {α : Type} (d : α) (f : Ent → List (Nat × α)) {X : Nat → Bool} {m : Nat} {em : Ent} {t : Nat} (hm : X m = false) : ∀ (i : Nat) (ents : List Ent), i ≤ m → ents[m - i]? = some em → (∀ k en, ents[k]? = some en → m < i + k → X (i + k) = true → hasKey (f en) t = true → hasKey (f em) t = false) →
    look d (cut f (fun k => k == m || X k) i ents) t = (if hasKey (f em) t = true then look d (f em) t else look d (cut f X i ents) t) ∧ hasKey (cut f (fun k => k == m || X k) i ents) t = (hasKey (f em) t || hasKey (cut f X i ents) t)
  | i, [], _, h, _ => by simp at h
  | i, en :: r, hi, hem, h => by
    by_cases e : i = m
    · subst e
      rw [Nat.sub_self] at hem
      simp only [List.getElem?_cons_zero, Option.some.injEq] at hem
      subst hem
      obtain ⟨h1, h2⟩ := cut_agree d f (X := fun k => k == i || X k) (Y := X) (t := t) (i + 1) r (fun k e _ _ => by
        have : (i + 1 + k == i) = false := by rw [beq_eq_false_iff_ne]; omega
        simp [this])
      simp only [cut, look_append, hasKey_app, h1, h2, hm, BEq.rfl, Bool.true_or]
      have hk2 : hasKey (f en) t = true → hasKey (cut f X (i + 1) r) t = false := by
        intro hk
        have : ∀ (j : Nat) (r : List Ent), (∀ k e, r[k]? = some e → X (j + k) = true → hasKey (f e) t = false) → hasKey (cut f X j r) t = false := by
          intro j r
          induction r generalizing j with
          | nil => intro _; rfl
          | cons e r ih =>
            intro hr
            simp only [cut, hasKey_app]
            rw [ih (j + 1) (fun k e' hk' hx => hr (k + 1) e' (by simpa using hk') (by rw [show j + (k + 1) = j + 1 + k by omega]; exact hx))]
            cases hx : X j with
            | false => rfl
            | true => simpa using hr 0 e rfl hx
        refine this _ _ fun k e hk' hx => ?_
        cases hke : hasKey (f e) t with
        | false => rfl
        | true =>
          have := h (k + 1) e (by simpa using hk') (by omega) (by rw [show i + (k + 1) = i + 1 + k by omega]; exact hx) hke
          rw [this] at hk
          simp at hk
      cases hk : hasKey (f en) t with
      | true => simp [hk2 hk]
      | false =>
        rw [look_none d _ hk]
        have : hasKey ([] : List (Nat × α)) t = false := rfl
        have h0 : look d ([] : List (Nat × α)) t = d := rfl
        simp [this, h0]
    · have hi' : i + 1 ≤ m := by omega
      obtain ⟨h1, h2⟩ := cut_ins d f (t := t) hm (i + 1) r hi' (by rw [show m - i = (m - (i + 1)) + 1 by omega] at hem; simpa using hem) (fun k e hk hlt hx hke => h (k + 1) e (by simpa using hk) (by omega) (by rw [show i + (k + 1) = i + 1 + k by omega]; exact hx) hke)
      have hb : (i == m) = false := by simp [e]
      simp only [cut, look_append, hasKey_app, h1, h2, hb, Bool.false_or]
      cases hasKey (f em) t <;> simp

end Go.Proofs.Ytgicjbeaomjdgaa.L
