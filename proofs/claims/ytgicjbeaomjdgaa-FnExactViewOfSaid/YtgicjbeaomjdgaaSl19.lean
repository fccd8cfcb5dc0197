/- A step that succeeds where less is known succeeds alike where more is known. -/
import Derived.Test.YtgicjbeaomjdgaaSl18
namespace Go.Proofs.Ytgicjbeaomjdgaa.L
set_option linter.unusedVariables false
set_option linter.unusedSimpArgs false
open Go

variable {tab : List (Nat × Ty)} {L : Lf} {e e' : List (Nat × V)} {o o' : List (Nat × O)} {σ σ' : St} {P : Program}

def ELe (e e' : List (Nat × V)) : Prop := ∀ t, look .u e t = .u ∨ look .u e' t = look .u e t
def OLe (o o' : List (Nat × O)) : Prop := (∀ i, look O.dead o i = .dead ∨ look O.dead o' i = look .dead o i) ∧ ∀ i, hasKey o' i = true → hasKey o i = true

theorem ev_le (h : ELe e e') (x : Operand) : ev e x = .u ∨ ev e' x = ev e x := by
  cases x with
  | tmp t => exact h t
  | _ => exact .inr rfl

theorem strip_le (h : ELe e e') (x : Operand) : strip (ev e x) = ([], .u) ∨ strip (ev e' x) = strip (ev e x) := by
  rcases ev_le h x with h | h
  · exact .inl (by rw [h]; rfl)
  · exact .inr (by rw [h])

theorem qPick_le (h : ELe e e') {c a b : Operand} {r} (hq : qPick L e c a b = some r) : qPick L e' c a b = some r := by
  unfold qPick at *
  rcases strip_le h c with hc | hc
  · simp [hc] at hq
  rcases strip_le h a with ha | ha
  · rw [ha] at hq; split at hq <;> simp [pickV] at hq
  rcases strip_le h b with hb | hb
  · rw [hb] at hq
    split at hq
    · simp only at hq
      split at hq
      · rename_i h1; unfold pickV at h1; split at h1 <;> first | contradiction | simp at h1
      · simp at hq
    · simp at hq
  rw [hc, ha, hb]
  exact hq

theorem qBin_le (h : ELe e e') {op : BinOp} {xt : Nat} {x y : Operand} {r} (hq : qBin L tab e op xt x y = some r) : qBin L tab e' op xt x y = some r := by
  unfold qBin at *
  rcases strip_le h x with hc | hc
  · simp [hc] at hq
  rcases strip_le h y with ha | ha
  · rw [ha] at hq; split at hq <;> simp_all
  rw [hc, ha]
  exact hq

theorem qUn_le (h : ELe e e') {op : UnOp} {x : Operand} {r} (hq : qUn L e op x = some r) : qUn L e' op x = some r := by
  unfold qUn at *
  rcases strip_le h x with hc | hc
  · simp [hc] at hq
  rw [hc]
  exact hq

theorem qField_le (h : ELe e e') {t f : Nat} {x : Operand} {r} (hq : qField tab e t x f = some r) : qField tab e' t x f = some r := by
  unfold qField at *
  rcases strip_le h x with hc | hc
  · rw [hc] at hq; split at hq <;> (try split at hq) <;> simp at hq
  rw [hc]
  exact hq

theorem qIndex_le (h : ELe e e') {t : Nat} {x i : Operand} {r} (hq : qIndex L tab e t x i = some r) : qIndex L tab e' t x i = some r := by
  unfold qIndex at *
  rcases strip_le h x with hc | hc
  · rw [hc] at hq; split at hq <;> (try split at hq) <;> simp_all
  rcases strip_le h i with hd | hd
  · rw [hd] at hq; split at hq <;> (try split at hq) <;> simp_all
  rw [hc, hd]
  exact hq

theorem qExtract_le (h : ELe e e') {x : Operand} {k : Nat} {r} (hq : qExtract e x k = some r) : qExtract e' x k = some r := by
  unfold qExtract at *
  rcases strip_le h x with hc | hc
  · simp [hc] at hq
  rw [hc]
  exact hq

theorem qNil_le (h : ELe e e') {x : Operand} {r} (hq : qNil e x = some r) : qNil e' x = some r := by
  unfold qNil at *
  rcases strip_le h x with hc | hc
  · simp [hc] at hq
  rw [hc]
  exact hq

theorem qConv_le (h : ELe e e') {s d : Nat} {x : Operand} {r} (hq : qConv L tab e s d x = some r) : qConv L tab e' s d x = some r := by
  unfold qConv at *
  rcases strip_le h x with hc | hc
  · rw [hc] at hq; split at hq <;> (try split at hq) <;> simp_all
  rw [hc]
  exact hq

theorem qLoad_le (h : ELe σ.env σ'.env) (ho : OLe σ.objs σ'.objs) {t : Nat} {x : Operand} {sup : Option Sup} {r} (hq : qLoad L tab σ t x sup = some r) : qLoad L tab σ' t x sup = some r := by
  unfold qLoad at *
  rcases strip_le h x with hc | hc
  · rw [hc] at hq; split at hq <;> simp at hq
  rw [hc]
  split at hq
  · rename_i ty hty
    try simp only [hty]
    split at hq
    · exact hq
    · rename_i px id i j hs
      try simp only
      rcases ho.1 id with hd | hd
      · rw [hd] at hq; simp at hq
      · rw [hd]; exact hq
    · simp at hq
  · simp at hq

theorem qIndexA_le (h : ELe σ.env σ'.env) (ho : OLe σ.objs σ'.objs) {t : Nat} {x i : Operand} {sup : Option Sup} {r} (hq : qIndexA L tab σ t x i sup = some r) : qIndexA L tab σ' t x i sup = some r := by
  unfold qIndexA at *
  rcases strip_le h i with hd | hd
  · rw [hd] at hq; split at hq <;> simp_all
  rcases strip_le h x with hc | hc
  · rw [hc] at hq; split at hq <;> simp at hq
  rw [hc, hd]
  split at hq
  · rename_i h1 h2
    try simp only [h1, h2]
    split at hq
    · exact hq
    · rename_i px id hs
      try simp only
      rcases ho.1 id with hd | hd
      · rw [hd] at hq; simp at hq
      · rw [hd]; exact hq
    · simp at hq
  · simp at hq

theorem lenV_le (ho : OLe o o') {v : V} {n : Int} (hq : lenV L o v = some n) : lenV L o' v = some n := by
  unfold lenV at *
  split at hq <;> try exact hq
  rename_i id
  try simp only
  rcases ho.1 id with hd | hd
  · rw [hd] at hq; simp at hq
  · rw [hd]; exact hq

theorem qLen_le (h : ELe σ.env σ'.env) (ho : OLe σ.objs σ'.objs) {args : List Operand} {ts : List Nat} {r} (hq : qLen L tab σ args ts = some r) : qLen L tab σ' args ts = some r := by
  unfold qLen at *
  split at hq
  · rename_i x t
    try simp only
    rcases strip_le h x with hc | hc
    · rw [hc] at hq; cases hg : getTy tab t <;> simp [hg, lenV] at hq
    rw [hc]
    split at hq
    · rename_i h1 h2
      try simp only [h1, h2]
      cases hl : lenV L σ.objs _ with
      | none => rw [hl] at hq; simp at hq
      | some n => rw [lenV_le ho hl]; rw [hl] at hq; exact hq
    · simp at hq
  · simp at hq

theorem low_le (h : ELe e e') {x : Option Operand} {r} (hq : lowOf e x = some r) : lowOf e' x = some r := by
  unfold lowOf at *
  split at hq
  · exact hq
  · rename_i x
    try simp only
    rcases strip_le h x with hc | hc
    · simp [hc] at hq
    rw [hc]; exact hq

theorem high_le (h : ELe e e') {x : Option Operand} {d : Int} {r} (hq : highOf e x d = some r) : highOf e' x d = some r := by
  unfold highOf at *
  split at hq
  · exact hq
  · rename_i x
    try simp only
    rcases strip_le h x with hc | hc
    · simp [hc] at hq
    rw [hc]; exact hq

theorem qSlice_le (h : ELe σ.env σ'.env) (ho : OLe σ.objs σ'.objs) {t : Nat} {x : Operand} {lo hi : Option Operand} {r} (hq : qSlice L tab σ t x lo hi = some r) : qSlice L tab σ' t x lo hi = some r := by
  unfold qSlice at *
  rcases strip_le h x with hc | hc
  · rw [hc] at hq; cases hg : getTy tab t <;> cases hl : lowOf σ.env lo <;> simp [hg, hl] at hq
  rw [hc]
  cases hlo : lowOf σ.env lo with
  | none => rw [hlo] at hq; split at hq <;> simp_all
  | some pl =>
    rw [hlo] at hq
    rw [low_le h hlo]
    have hh : ∀ {d r}, highOf σ.env hi d = some r → highOf σ'.env hi d = some r := fun hx => high_le h hx
    split at hq
    · rename_i h1 h2 h3
      try simp only [h1, h2, h3]
      split at hq
      · try simp only
        cases hx : highOf σ.env hi _ with
        | none => rw [hx] at hq; split at hq <;> simp_all
        | some pr => rw [hx] at hq; rw [hh hx]; exact hq
      · try simp only
        cases hx : highOf σ.env hi _ with
        | none => rw [hx] at hq; split at hq <;> simp_all
        | some pr => rw [hx] at hq; rw [hh hx]; exact hq
      · rename_i id
        try simp only
        rcases ho.1 id with hd | hd
        · rw [hd] at hq; simp at hq
        · rw [hd]
          split at hq
          · try simp only
            cases hx : highOf σ.env hi _ with
            | none => rw [hx] at hq; split at hq <;> simp_all
            | some pr => rw [hx] at hq; rw [hh hx]; exact hq
          · simp at hq
      · simp at hq
    · simp at hq

end Go.Proofs.Ytgicjbeaomjdgaa.L
