/- Words for functions' proofs: leaves as variables, data as trees. -/
import Derived.Test.YtgicjbeaomjdgaaSl26
namespace Go.Proofs.Ytgicjbeaomjdgaa.L
set_option linter.unusedVariables false
set_option linter.unusedSimpArgs false
open Go

theorem wrap64 {x : Int} (h : -9223372036854775808 ≤ x ∧ x ≤ 9223372036854775807) : IntKind.i64.wrap x = x := by
  rw [IntKind.wrap_i64]
  omega

/-- Join two ways. -/
theorem Run.seq_to {F : Fr} {σ τ : St} {x y : Code} {Q : Exit → St → Prop} (hy : Run F τ y Q) (h : Run F σ x (thenQ (fun σ' => Weak F σ' τ) Q)) : Run F σ (.seq x y) Q :=
  Run.seq (h.mono fun e σ' he => by
    cases e with
    | normal => exact hy.weak he
    | _ => exact he)

/-- Rows of whatever. -/
def rowsOf {α : Type} (f : α → List T) (l : List α) : Rws := l.map f
theorem rowsOf_len {α : Type} (f : α → List T) (l : List α) : (rowsOf f l).length = l.length := by simp [rowsOf]
theorem rowsOf_row {α : Type} {f : α → List T} {n : Nat} (h : ∀ x, (f x).length = n) (l : List α) : ∀ r ∈ rowsOf f l, r.length = n := by
  intro r hr
  obtain ⟨x, _, rfl⟩ := List.mem_map.1 hr
  exact h x
theorem rowsOf_at {α : Type} {f : α → List T} {l : List α} {i : Nat} {x : α} (h : l[i]? = some x) : (rowsOf f l).getD i [] = f x := by
  simp [rowsOf, List.getD_eq_getElem?_getD, h]

def ints (l : List Int) : Rws := l.map fun n => [.s (.int .i64 n)]

theorem ints_len (l : List Int) : (ints l).length = l.length := by simp [ints]
theorem ints_row (l : List Int) : ∀ r ∈ ints l, r.length = 1 := by
  intro r hr
  obtain ⟨n, _, rfl⟩ := List.mem_map.1 hr
  rfl
theorem ints_at {l : List Int} {i : Nat} {x : Int} (h : l[i]? = some x) : (ints l).getD i [] = [.s (.int .i64 x)] := by
  simp [ints, List.getD_eq_getElem?_getD, h]

theorem at_some {α : Type} {l : List α} {i : Nat} (h : i < l.length) : ∃ x, l[i]? = some x := ⟨l[i], by simp [h]⟩

/-- Rows that are filled from the left. -/
def filled (new old : Rws) (i : Nat) : Rws := new.take i ++ old.drop i

theorem filled_len {new old : Rws} (h : new.length = old.length) (i : Nat) : (filled new old i).length = old.length := by
  simp [filled]
  omega

theorem filled_zero (new old : Rws) : filled new old 0 = old := by simp [filled]
theorem filled_all {new old : Rws} (h : new.length = old.length) {i : Nat} (hi : old.length ≤ i) : filled new old i = new := by
  rw [filled, List.take_of_length_le (by omega), List.drop_eq_nil_of_le hi]
  simp

theorem filled_next {new old : Rws} (h : new.length = old.length) {i : Nat} (hi : i < old.length) {r : List T} (hr : new.getD i [] = r) : (filled new old i).set i r = filled new old (i + 1) := by
  have hi' : i < new.length := by omega
  apply List.ext_getElem?
  intro j
  rw [List.getElem?_set]
  simp only [filled, List.getElem?_append, List.length_take, List.getElem?_take, List.getElem?_drop, List.length_append, List.length_drop]
  have hr' : new[i]? = some r := by
    rw [List.getD_eq_getElem?_getD, List.getElem?_eq_getElem hi'] at hr
    rw [List.getElem?_eq_getElem hi']
    simpa using hr
  by_cases e : i = j
  · subst e
    rw [if_pos rfl, if_pos (by omega), if_pos (by omega), if_pos (by omega), hr']
  · rw [if_neg e]
    by_cases hl : j < i
    · rw [if_pos (by omega), if_pos (by omega), if_pos (by omega), if_pos (by omega)]
    · rw [if_neg (by omega), if_neg (by omega)]
      congr 1
      omega

theorem set_whole {rows : Rws} {i : Nat} {cs : List T} (h : (rows.getD i []).length = cs.length) : rows.set i ((rows.getD i []).take 0 ++ cs ++ (rows.getD i []).drop (0 + cs.length)) = rows.set i cs := by
  rw [List.take_zero, List.nil_append, Nat.zero_add, ← h, List.drop_length, List.append_nil]

theorem getD_len {rows : Rws} {n i : Nat} (h : ∀ r ∈ rows, r.length = n) (hi : i < rows.length) : (rows.getD i []).length = n := by
  rw [List.getD_eq_getElem?_getD, List.getElem?_eq_getElem hi]
  exact h _ (List.getElem_mem hi)

theorem filled_row {new old : Rws} {n i : Nat} (h : ∀ r ∈ new, r.length = n) (h' : ∀ r ∈ old, r.length = n) : ∀ r ∈ filled new old i, r.length = n := by
  intro r hr
  rcases List.mem_append.1 hr with hr | hr
  · exact h r (List.mem_of_mem_take hr)
  · exact h' r (List.mem_of_mem_drop hr)

theorem rep_row {n k : Nat} {z : List T} (h : z.length = n) : ∀ r ∈ List.replicate k z, r.length = n := by
  intro r hr
  rw [(List.mem_replicate.1 hr).2]
  exact h

/-- The next row laid. -/
theorem filled_up {new old : Rws} {n i : Nat} {cs : List T} (h1 : ∀ r ∈ new, r.length = n) (h2 : ∀ r ∈ old, r.length = n) (hl : new.length = old.length) (hi : i < old.length) (hr : new.getD i [] = cs) (hc : cs.length = n) :
    (filled new old i).set i (((filled new old i).getD i []).take 0 ++ cs ++ ((filled new old i).getD i []).drop (0 + cs.length)) = filled new old (i + 1) := by
  rw [set_whole (by rw [getD_len (filled_row h1 h2) (by rw [filled_len hl]; exact hi), hc]), filled_next hl hi hr]

end Go.Proofs.Ytgicjbeaomjdgaa.L
