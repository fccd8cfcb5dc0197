/- Monotone steps, 2. -/
import Derived.Test.YtgicjbeaomjdgaaSl19
namespace Go.Proofs.Ytgicjbeaomjdgaa.L
set_option linter.unusedVariables false
set_option linter.unusedSimpArgs false
open Go

variable {tab : List (Nat × Ty)} {L : Lf} {e e' : List (Nat × V)} {o o' : List (Nat × O)} {σ σ' : St} {P : Program}

theorem evs_eq : ∀ {xs : List Operand}, (∀ x ∈ xs, ev e' x = ev e x) → evs e' xs = evs e xs
  | [], _ => rfl
  | x :: r, h => by simp only [evs, h x (by simp), evs_eq (fun y hy => h y (List.mem_cons_of_mem _ hy))]

theorem fillParts_eq {offs : List (Nat × Nat)} : ∀ {ps : List (Nat × Operand)} {cs : List V}, (∀ p ∈ ps, ev e' p.2 = ev e p.2) → fillParts e' offs ps cs = fillParts e offs ps cs
  | [], _, _ => rfl
  | (i, x) :: r, cs, h => by
    simp only [fillParts, h (i, x) (by simp)]
    have hr : ∀ cs, fillParts e' offs r cs = fillParts e offs r cs := fun cs => fillParts_eq (fun p hp => h p (List.mem_cons_of_mem _ hp))
    simp only [hr]

theorem look_le (ho : OLe o o') {i : Nat} (h : look O.dead o i ≠ .dead) : look O.dead o' i = look .dead o i := (ho.1 i).resolve_left h

theorem sinkCell_le (ho : OLe o o') {c : V} {r} (h : sinkCell o c = some r) : sinkCell o' c = some r := by
  unfold sinkCell at *
  split at h <;> try exact h
  rename_i id
  rcases ho.1 id with hd | hd
  · rw [hd] at h; simp at h
  · try simp only
    rw [hd]; exact h

theorem sinkCells_le (ho : OLe o o') : ∀ {cs : List V} {r}, sinkCells o cs = some r → sinkCells o' cs = some r
  | [], _, h => h
  | c :: cs, r, h => by
    simp only [sinkCells] at h ⊢
    split at h
    · simp at h
    · rename_i x d hx
      rw [sinkCell_le ho hx]
      split at h
      · simp at h
      · rename_i hxs
        simp only [sinkCells_le ho hxs]
        exact h

theorem litRows_le (ho : OLe o o') {size : Nat} : ∀ {n : Nat} {ps : List (Nat × Operand)} {r}, (∀ p ∈ ps, ev e' p.2 = ev e p.2) → litRows o e size n ps = some r → litRows o' e' size n ps = some r
  | n, [], r, _, h => h
  | n, (i, x) :: ps, r, hx, h => by
    simp only [litRows] at h ⊢
    rw [hx (i, x) (by simp)]
    split at h
    · simp at h
    · rename_i hn
      split at h
      · simp at h
      · rename_i hc
        try simp only [hc]
        split at h
        · simp at h
        · rename_i hl
          try simp only [hl]
          split at h
          · simp at h
          · rename_i hs
            simp only [sinkCells_le ho hs]
            split at h
            · simp at h
            · rename_i hrec
              simp only [litRows_le ho (fun p hp => hx p (List.mem_cons_of_mem _ hp)) hrec]
              exact h

theorem target_le (ho : OLe o o') {t : Nat} {v : V} {r} (h : target o t v = some r) : target o' t v = some r := by
  unfold target at *
  split at h <;> try exact h
  rename_i id
  rcases ho.1 id with hd | hd
  · rw [hd] at h; simp at h
  · try simp only
    rw [hd]; exact h

theorem source_le (ho : OLe o o') {t : Nat} {v : V} {r} (h : source L o t v = some r) : source L o' t v = some r := by
  unfold source at *
  split at h <;> try exact h
  · rename_i id
    rcases ho.1 id with hd | hd
    · rw [hd] at h; simp at h
    · try simp only
      rw [hd]; exact h
  · rename_i id _ _
    rcases ho.1 id with hd | hd
    · rw [hd] at h; simp at h
    · try simp only
      rw [hd]; exact h

theorem sourceM_le (ho : OLe o o') {t : Nat} {v : V} {r} (h : sourceM L o t v = some r) : sourceM L o' t v = some r := by
  unfold sourceM at *
  split at h <;> try exact h
  rename_i id _ _
  rcases ho.1 id with hd | hd
  · rw [hd] at h; simp at h
  · try simp only
    rw [hd]; exact h

theorem plainT_same {cs : List V} {r} (h : plainT cs = some r) : plainT cs = some r := h

mutual
theorem lendCell_le (ho : OLe o o') : ∀ (n : Nat) {v : V} {r}, lendCell L o n v = some r → lendCell L o' n v = some r
  | n, v, r, h => by
    unfold lendCell at h
    split at h
    all_goals first
      | (rename_i id
         rcases ho.1 id with hd | hd
         · rw [hd] at h; simp at h
         · unfold lendCell; (try simp only); rw [hd]; exact h)
      | (rename_i id _ _
         rcases ho.1 id with hd | hd
         · rw [hd] at h; simp at h
         · unfold lendCell; (try simp only); rw [hd]; exact h)
      | (rename_i id _ _ _ _ _
         rcases ho.1 id with hd | hd
         · rw [hd] at h; simp at h
         · unfold lendCell; (try simp only); rw [hd]; exact h)
      | (unfold lendCell; exact h)
      | (rename_i m id j
         rcases ho.1 id with hd | hd
         · rw [hd] at h; simp at h
         · unfold lendCell; (try simp only); rw [hd]
           split at h
           · (try simp only)
             split at h
             · rename_i hl
               rw [lendAll_le ho _ hl]
               exact h
             · simp at h
           · simp at h)
      | (rename_i m f cs
         unfold lendCell; (try simp only)
         split at h
         · rename_i hl
           rw [lendAll_le ho _ hl]
           exact h
         · simp at h)
      | (simp at h)
theorem lendAll_le (ho : OLe o o') : ∀ (n : Nat) {vs : List V} {r}, lendCell.lendAll L o n vs = some r → lendCell.lendAll L o' n vs = some r
  | n, [], r, h => by simpa only [lendCell.lendAll] using h
  | 0, c :: cs, r, h => by simp [lendCell.lendAll] at h
  | n + 1, c :: cs, r, h => by
    simp only [lendCell.lendAll] at h ⊢
    split at h
    · simp at h
    · rename_i hx
      rw [lendCell_le ho n hx]
      split at h
      · simp at h
      · rename_i hxs
        simp only [lendAll_le ho n hxs]
        exact h
end

theorem ownCell_le (ho : OLe o o') {v : V} {r} (h : ownCell o v = some r) : ownCell o' v = some r := by
  unfold ownCell at *
  split at h <;> try exact h
  rename_i id
  rcases ho.1 id with hd | hd
  · rw [hd] at h; simp at h
  · try simp only
    rw [hd]; exact h

theorem ownCells_le (ho : OLe o o') : ∀ {vs : List V} {r}, ownCells o vs = some r → ownCells o' vs = some r
  | [], _, h => h
  | c :: cs, r, h => by
    simp only [ownCells] at h ⊢
    split at h
    · simp at h
    · rename_i hx
      rw [ownCell_le ho hx]
      split at h
      · simp at h
      · rename_i hxs
        simp only [ownCells_le ho hxs]
        exact h

theorem argOne_le {b b' : List (Nat × O)} (ho : OLe o o') (hb : OLe b b') {own : Bool} {v : V} {r} (h : argOne L o b own v = some r) : argOne L o' b' own v = some r := by
  unfold argOne at *
  cases own with
  | false =>
    simp only at h ⊢
    split at h
    · try simp only
      split at h
      · rename_i hl
        rw [lendAll_le hb _ hl]; exact h
      · simp at h
    · rename_i hne
      split at h
      · rename_i hl
        rw [lendCell_le hb _ hl]; exact h
      · simp at h
  | true =>
    simp only at h ⊢
    split at h
    · try simp only
      split at h
      · rename_i hl
        rw [ownCells_le ho hl]; exact h
      · simp at h
    · rename_i id
      try simp only
      rcases ho.1 id with hd | hd
      · rw [hd] at h; simp at h
      · rw [hd]; exact h
    · rename_i hne1 hne2
      split at h
      · rename_i hl
        rw [ownCell_le ho hl]; exact h
      · simp at h

theorem argAll_le {b b' : List (Nat × O)} (ho : OLe o o') (hb : OLe b b') : ∀ {os : List Bool} {vs : List V} {r}, argAll L o b os vs = some r → argAll L o' b' os vs = some r
  | [], [], _, h => h
  | [], _ :: _, _, h => by simp [argAll] at h
  | _ :: _, [], _, h => by simp [argAll] at h
  | x :: os, v :: vs, r, h => by
    simp only [argAll] at h ⊢
    split at h
    · simp at h
    · rename_i hx
      rw [argOne_le ho hb hx]
      split at h
      · simp at h
      · rename_i hxs
        simp only [argAll_le ho hb hxs]
        exact h

theorem OLe.app (ho : OLe o o') (δ : List (Nat × O)) : OLe (δ ++ o) (δ ++ o') := by
  refine ⟨fun i => ?_, fun i h => ?_⟩
  · rw [look_append, look_append]
    split
    · exact .inr rfl
    · exact ho.1 i
  · rw [hasKey_append] at *
    exact h.imp id (ho.2 i)

theorem OLe.cons (ho : OLe o o') (p : Nat × O) : OLe (p :: o) (p :: o') := ho.app [p]

theorem back_le : ∀ {ds : List (Option Nat)} {ts : List T} {o o' δ : List (Nat × O)}, OLe o o' → back o ds ts = some (δ ++ o) → back o' ds ts = some (δ ++ o')
  | [], ts, o, o', δ, ho, h => by
    simp only [back, Option.some.injEq] at h ⊢
    have : δ = [] := by
      have := congrArg List.length h
      simpa using this
    subst this
    rfl
  | none :: ds, [], o, o', δ, ho, h => by simp [back] at h
  | some _ :: ds, [], o, o', δ, ho, h => by simp [back] at h
  | none :: ds, t :: ts, o, o', δ, ho, h => by
    simp only [back] at h ⊢
    exact back_le (ds := ds) (ts := ts) ho h
  | some id :: ds, t :: ts, o, o', δ, ho, h => by
    have ext : ∀ {p : Nat × O}, back (p :: o) ds ts = some (δ ++ o) → back (p :: o') ds ts = some (δ ++ o') := by
      intro p hp
      obtain ⟨δ', hδ⟩ := back_ext hp
      have e : δ = δ' ++ [p] := by
        have : δ ++ o = (δ' ++ [p]) ++ o := by rw [hδ]; simp
        exact List.append_cancel_right this
      subst e
      have := back_le (δ := δ') (ho.cons p) (by rw [hp]; simp)
      rw [this]; simp
    simp only [back] at h ⊢
    split at h
    · rename_i e' rows' ver e sz rows hl
      have hl' := look_le ho (i := id) (by rw [hl]; simp)
      rw [hl', hl]
      try simp only
      split at h
      · exact ext h
      · simp at h
    · exact ext h
    · rename_i e' cs e cs' hl
      have hl' := look_le ho (i := id) (by rw [hl]; simp)
      rw [hl', hl]
      try simp only
      split at h
      · exact ext h
      · simp at h
    · simp at h

theorem fresh_le {nx : Nat} (ho : OLe o o') {id : Nat} (h : freshB nx o id = true) : freshB nx o' id = true := by
  unfold freshB at *
  cases hb : nl nx id with
  | false => simp [hb] at h
  | true =>
    rw [hb] at h
    simp only [cond_true] at h ⊢
    cases hk : hasKey o' id with
    | false => rfl
    | true => rw [ho.2 id hk] at h; simp at h

end Go.Proofs.Ytgicjbeaomjdgaa.L
