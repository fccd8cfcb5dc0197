/- Words for functions' proofs: leaves as variables, data as trees. -/
import Derived.Test.YtkpoiinkmodlnaaSl26
namespace Go.Proofs.Ytkpoiinkmodlnaa.L
set_option linter.unusedVariables false
set_option linter.unusedSimpArgs false
open Go

/-- The leaves, as variables, and what they are. -/
structure LfOk (ar : BinOp → IntKind → Int → Int → Int) (cm : BinOp → Int → Int → Bool) (bo : Bool → Bool → Bool → Bool) (sc : BinOp → ByteArray → ByteArray → Bool) (sa : ByteArray → ByteArray → ByteArray) (sx : ByteArray → Int → Int) (ss : ByteArray → Int → Int → ByteArray) (sl : ByteArray → Int) (bs : Rws → ByteArray) (sb : ByteArray → Rws) (ln : Rws → Int) (sr : Rws → Int → Int → Rws) (ap : Rws → Rws → Rws) (up : Rws → Int → Nat → List T → Rws) (rp : Int → List T → Rws) (fr : Rws → Rws) (ge : Rws → Int → List T) (le : Int → Int → Prop) (lt : Int → Int → Prop) (nz : Int → Prop) (mm : Int → Nat → Prop) (ma : Rws → Rws → Nat → Prop) (sm : ByteArray → ByteArray → Prop) (fl : Nat → Rws → Prop) (al : Nat → Rws → Prop) : Prop where
  hL : (⟨ar, cm, bo, sc, sa, sx, ss, sl, bs, sb, ln, sr, ap, up, rp, fr, ge, le, lt, nz, mm, ma, sm, fl, al⟩ : Lf) = Ls
  add : ∀ k x y, ar .add k x y = k.wrap (x + y)
  sub : ∀ k x y, ar .sub k x y = k.wrap (x - y)
  mul : ∀ k x y, ar .mul k x y = k.wrap (x * y)
  quo : ∀ k x y, ar .quo k x y = k.wrap (x.tdiv y)
  rem : ∀ k x y, ar .rem k x y = x.tmod y
  cvt : ∀ k x y, ar .or k x y = k.wrap x
  eql : ∀ x y, cm .eql x y = decide (x = y)
  neq : ∀ x y, cm .neq x y = decide (x ≠ y)
  lss : ∀ x y, cm .lss x y = decide (x < y)
  leq : ∀ x y, cm .leq x y = decide (x ≤ y)
  gtr : ∀ x y, cm .gtr x y = decide (y < x)
  geq : ∀ x y, cm .geq x y = decide (y ≤ x)
  bo_ : ∀ c x y, bo c x y = if c then x else y
  ln_ : ∀ r, ln r = (r.length : Int)
  sr_ : ∀ r x y, sr r x y = (r.take y.toNat).drop x.toNat
  ap_ : ∀ a b, ap a b = a ++ b
  up_ : ∀ rows i j cs, up rows i j cs = rows.set i.toNat ((rows.getD i.toNat []).take j ++ cs ++ (rows.getD i.toNat []).drop (j + cs.length))
  rp_ : ∀ n z, rp n z = List.replicate n.toNat z
  fr_ : ∀ r, fr r = fzR r
  ge_ : ∀ r i, ge r i = r.getD i.toNat []
  le_ : ∀ x y, le x y = (x ≤ y)
  lt_ : ∀ x y, lt x y = (x < y)
  nz_ : ∀ x, nz x = (x ≠ 0)
  mm_ : ∀ n b, mm n b = (n * (b : Int) ≤ 140737488355328 ∧ n ≤ 140737488355328)
  ma_ : ∀ x y b, ma x y b = (((x.length : Int) + y.length) * (b : Int) ≤ 140737488355328 ∧ (x.length : Int) + y.length ≤ 140737488355328)
  fl_ : ∀ n r, fl n r = Flat n r
  al_ : ∀ n rows, al n rows = ∀ r ∈ rows, r.length = n

theorem LfOk.ls : LfOk Ls.ar Ls.cm Ls.bo Ls.sc Ls.sa Ls.sx Ls.ss Ls.sl Ls.bs Ls.sb Ls.ln Ls.sr Ls.ap Ls.up Ls.rp Ls.fr Ls.ge Ls.le Ls.lt Ls.nz Ls.mm Ls.ma Ls.sm Ls.fl Ls.al := by
  constructor <;> intros <;> rfl

theorem intro_L {p : Prop} (h : ∀ ar cm bo sc sa sx ss sl bs sb ln sr ap up rp fr ge le lt nz mm ma sm fl al, LfOk ar cm bo sc sa sx ss sl bs sb ln sr ap up rp fr ge le lt nz mm ma sm fl al → p) : p :=
  h _ _ _ _ _ _ _ _ _ _ _ _ _ _ _ _ _ _ _ _ _ _ _ _ _ LfOk.ls

theorem wrap64 {x : Int} (h : -9223372036854775808 ≤ x ∧ x ≤ 9223372036854775807) : IntKind.i64.wrap x = x := by
  rw [IntKind.wrap_i64]
  omega

/-- Join two ways. -/
theorem Run.seq_to {F : Fr} {σ τ : St} {x y : Code} {Q : Exit → St → Prop} (hy : Run F τ y Q) (h : Run F σ x (thenQ (fun σ' => Weak F σ' τ) Q)) : Run F σ (.seq x y) Q :=
  Run.seq (h.mono fun e σ' he => by
    cases e with
    | normal => exact hy.weak he
    | _ => exact he)

/-- Rows of whatever. -/
def rowsOf {α : Type} (f : α → List T) (l : List α) : Rws := l.map f
theorem rowsOf_len {α : Type} (f : α → List T) (l : List α) : (rowsOf f l).length = l.length := by simp [rowsOf]
theorem rowsOf_row {α : Type} {f : α → List T} {n : Nat} (h : ∀ x, (f x).length = n) (l : List α) : ∀ r ∈ rowsOf f l, r.length = n := by
  intro r hr
  obtain ⟨x, _, rfl⟩ := List.mem_map.1 hr
  exact h x
theorem rowsOf_at {α : Type} {f : α → List T} {l : List α} {i : Nat} {x : α} (h : l[i]? = some x) : (rowsOf f l).getD i [] = f x := by
  simp [rowsOf, List.getD_eq_getElem?_getD, h]

def ints (l : List Int) : Rws := l.map fun n => [.s (.int .i64 n)]

theorem ints_len (l : List Int) : (ints l).length = l.length := by simp [ints]
theorem ints_row (l : List Int) : ∀ r ∈ ints l, r.length = 1 := by
  intro r hr
  obtain ⟨n, _, rfl⟩ := List.mem_map.1 hr
  rfl
theorem ints_at {l : List Int} {i : Nat} {x : Int} (h : l[i]? = some x) : (ints l).getD i [] = [.s (.int .i64 x)] := by
  simp [ints, List.getD_eq_getElem?_getD, h]

theorem at_some {α : Type} {l : List α} {i : Nat} (h : i < l.length) : ∃ x, l[i]? = some x := ⟨l[i], by simp [h]⟩

/-- Rows that are filled from the left. -/
def filled (new old : Rws) (i : Nat) : Rws := new.take i ++ old.drop i

theorem filled_len {new old : Rws} (h : new.length = old.length) (i : Nat) : (filled new old i).length = old.length := by
  simp [filled]
  omega

theorem filled_zero (new old : Rws) : filled new old 0 = old := by simp [filled]
theorem filled_all {new old : Rws} (h : new.length = old.length) {i : Nat} (hi : old.length ≤ i) : filled new old i = new := by
  rw [filled, List.take_of_length_le (by omega), List.drop_eq_nil_of_le hi]
  simp

theorem filled_next {new old : Rws} (h : new.length = old.length) {i : Nat} (hi : i < old.length) {r : List T} (hr : new.getD i [] = r) : (filled new old i).set i r = filled new old (i + 1) := by
  have hi' : i < new.length := by omega
  apply List.ext_getElem?
  intro j
  rw [List.getElem?_set]
  simp only [filled, List.getElem?_append, List.length_take, List.getElem?_take, List.getElem?_drop, List.length_append, List.length_drop]
  have hr' : new[i]? = some r := by
    rw [List.getD_eq_getElem?_getD, List.getElem?_eq_getElem hi'] at hr
    rw [List.getElem?_eq_getElem hi']
    simpa using hr
  by_cases e : i = j
  · subst e
    rw [if_pos rfl, if_pos (by omega), if_pos (by omega), if_pos (by omega), hr']
  · rw [if_neg e]
    by_cases hl : j < i
    · rw [if_pos (by omega), if_pos (by omega), if_pos (by omega), if_pos (by omega)]
    · rw [if_neg (by omega), if_neg (by omega)]
      congr 1
      omega

theorem set_whole {rows : Rws} {i : Nat} {cs : List T} (h : (rows.getD i []).length = cs.length) : rows.set i ((rows.getD i []).take 0 ++ cs ++ (rows.getD i []).drop (0 + cs.length)) = rows.set i cs := by
  rw [List.take_zero, List.nil_append, Nat.zero_add, ← h, List.drop_length, List.append_nil]

theorem getD_len {rows : Rws} {n i : Nat} (h : ∀ r ∈ rows, r.length = n) (hi : i < rows.length) : (rows.getD i []).length = n := by
  rw [List.getD_eq_getElem?_getD, List.getElem?_eq_getElem hi]
  exact h _ (List.getElem_mem hi)

theorem filled_row {new old : Rws} {n i : Nat} (h : ∀ r ∈ new, r.length = n) (h' : ∀ r ∈ old, r.length = n) : ∀ r ∈ filled new old i, r.length = n := by
  intro r hr
  rcases List.mem_append.1 hr with hr | hr
  · exact h r (List.mem_of_mem_take hr)
  · exact h' r (List.mem_of_mem_drop hr)

theorem rep_row {n k : Nat} {z : List T} (h : z.length = n) : ∀ r ∈ List.replicate k z, r.length = n := by
  intro r hr
  rw [(List.mem_replicate.1 hr).2]
  exact h

/-- The next row laid. -/
theorem filled_up {new old : Rws} {n i : Nat} {cs : List T} (h1 : ∀ r ∈ new, r.length = n) (h2 : ∀ r ∈ old, r.length = n) (hl : new.length = old.length) (hi : i < old.length) (hr : new.getD i [] = cs) (hc : cs.length = n) :
    (filled new old i).set i (((filled new old i).getD i []).take 0 ++ cs ++ ((filled new old i).getD i []).drop (0 + cs.length)) = filled new old (i + 1) := by
  rw [set_whole (by rw [getD_len (filled_row h1 h2) (by rw [filled_len hl]; exact hi), hc]), filled_next hl hi hr]

end Go.Proofs.Ytkpoiinkmodlnaa.L
