/- Words for the plain part: what the pure operations give; loops. -/
import Derived.Test.YtcpekllcbimpmaaGreatDoorFnTextLib5
namespace Go.Proofs.YtcpekllcbimpmaaGreatDoor.L
open Go
theorem qxG (c x : Bool) : bo3 c x false = (c && x) := by cases c <;> rfl
theorem qSQ (c y : Bool) : bo3 c true y = (c || y) := by cases c <;> rfl
theorem qSD (c : Bool) : bo3 c false true = !c := by cases c <;> rfl
theorem qdO {α : Type} (b : Bool) (x y : α) : (bif b then x else y) = if b = true then x else y := by cases b <;> rfl
theorem qIB {x : Int} (h : -9223372036854775808 ≤ x ∧ x ≤ 9223372036854775807) : w64 x = x := wrap64 h
theorem qq {i : Nat} (h : i < 9223372036854775807) : w64 ((i : Int) + 1) = ((i + 1 : Nat) : Int) := by rw [qIB (by omega)]; rfl
theorem qt {α : Type} (l : List α) : lenI l = (l.length : Int) := rfl
theorem qrB {α : Type} (l : List α) (i : Nat) : getO l (i : Int) = l[i]? := by unfold getO; rw [if_pos (by omega), Int.toNat_natCast]
theorem qQK {α : Type} {l : List α} {i : Int} (h : 0 ≤ i) : getO l i = l[i.toNat]? := by unfold getO; rw [if_pos h]
theorem gd_of {α : Type} [Inhabited α] (b : Bool) (x : α) : gd b (some x) = some (bif b then x else default) := by cases b <;> rfl
theorem qeB {α : Type} {b : Nat} {l m : List α} (h : ((l.length : Int) + m.length) * b ≤ 140737488355328 ∧ (l.length : Int) + m.length ≤ 140737488355328) : appO b l m = some (l ++ m) := by unfold appO; rw [if_pos h]
theorem qPU {α : Type} {b : Nat} {n : Int} {z : α} (h : 0 ≤ n ∧ n * b ≤ 140737488355328 ∧ n ≤ 140737488355328) : mkO b n z = some (List.replicate n.toNat z) := by unfold mkO; rw [if_pos h]
theorem qHB {α : Type} [Inhabited α] (e : Option α) : gd true e = e := rfl
theorem qRK {α : Type} [Inhabited α] (e : Option α) : gd false e = some default := rfl
def allFrom {α : Type} (p : Nat → α → Bool) (l : List α) (i : Nat) : Bool := ((l.zipIdx).drop i).all fun q => p q.2 q.1
theorem qfN {α : Type} {p : Nat → α → Bool} {l : List α} {i : Nat} (h : l.length ≤ i) : allFrom p l i = true := by
 unfold allFrom; rw [List.drop_eq_nil_of_le (by simpa using h)]; rfl
theorem quL {α : Type} {p : Nat → α → Bool} {l : List α} {i : Nat} {x : α} (h : l[i]? = some x) : allFrom p l i = (p i x && allFrom p l (i + 1)) := by
 unfold allFrom
 obtain ⟨hi, rfl⟩ := List.getElem?_eq_some_iff.1 h
 rw [List.drop_eq_getElem_cons (by simpa using hi), List.all_cons]
 simp
theorem qvL {α : Type} {q : α → Bool} {l : List α} : allFrom (fun _ => q) l 0 = l.all q := by
 unfold allFrom
 rw [List.drop_zero]
 rw [Bool.eq_iff_iff, List.all_eq_true, List.all_eq_true]
 constructor
 ·
  intro h x hx
  obtain ⟨i, hi, rfl⟩ := List.mem_iff_getElem.1 hx
  have := h (l[i], i) (by rw [List.mem_iff_getElem]; exact ⟨i, by simpa using hi, by simp⟩)
  exact this
 rintro h ⟨x, i⟩ hx
 exact h x (List.fst_mem_of_mem_zipIdx hx)
theorem qSI {α : Type} {p : Nat → α → Bool} {l : List α} : allFrom p l 0 = true ↔ ∀ i x, l[i]? = some x → p i x = true := by
 unfold allFrom
 rw [List.drop_zero, List.all_eq_true]
 constructor
 ·
  intro h i x hx
  obtain ⟨hi, rfl⟩ := List.getElem?_eq_some_iff.1 hx
  exact h (l[i], i) (by rw [List.mem_iff_getElem]; exact ⟨i, by simpa using hi, by simp⟩)
 rintro h ⟨x, i⟩ hx
 rw [List.mem_iff_getElem] at hx
 obtain ⟨j, hj, e⟩ := hx
 simp only [List.getElem_zipIdx, Nat.zero_add, Prod.mk.injEq] at e
 obtain ⟨rfl, rfl⟩ := e
 exact h j _ (List.getElem?_eq_getElem _)
theorem at_lt {α : Type} {l : List α} {i : Nat} {x : α} (h : l[i]? = some x) : i < l.length := (List.getElem?_eq_some_iff.1 h).1
theorem qZG {R α : Type} {f : Nat → Int → Option R} {l : List α} (p : Nat → α → Bool) (a b : Option R) (h0 : ∀ k (i : Nat) x, l[i]? = some x → f (k + 1) i = bif p i x then f k ((i + 1 : Nat) : Int) else a) (h1 : ∀ k (i : Nat), i = l.length → f (k + 1) i = b) :
  ∀ (k i : Nat), i ≤ l.length → l.length < i + k → f k i = bif allFrom p l i then b else a
 | 0, i, h, h' => by omega
 | k + 1, i, h, h' => by
  by_cases hi : i < l.length
  ·
   have hx : l[i]? = some l[i] := List.getElem?_eq_getElem hi
   rw [h0 k i _ hx, quL hx]
   cases p i l[i] with
   | true => rw [Bool.true_and]; exact qZG p a b h0 h1 k (i + 1) (by omega) (by omega)
   | false => rfl
  rw [h1 k i (by omega), qfN (by omega)]; rfl
theorem qVS {α : Type} {l m : List α} (hl : l.length = m.length) : (l = m) ↔ ∀ (i : Nat) x y, l[i]? = some x → m[i]? = some y → x = y := by
 constructor
 ·
  rintro rfl i x y hx hy
  rw [hx] at hy
  exact Option.some.inj hy
 intro h
 apply List.ext_getElem? 
 intro i
 by_cases hi : i < l.length
 ·
  rw [List.getElem?_eq_getElem hi, List.getElem?_eq_getElem (by omega)]
  exact congrArg some (h i _ _ (List.getElem?_eq_getElem hi) (List.getElem?_eq_getElem (by omega)))
 rw [List.getElem?_eq_none (by omega), List.getElem?_eq_none (by omega)]
theorem qoT {R α : Type} [DecidableEq α] {f : Nat → Int → Option R} {l m : List α} (hlm : l.length = m.length) (a b : Option R) (h0 : ∀ k (i : Nat) x y, l[i]? = some x → m[i]? = some y → f (k + 1) i = bif decide (x = y) then f k ((i + 1 : Nat) : Int) else a) (h1 : ∀ k (i : Nat), i = l.length → f (k + 1) i = b) (k : Nat) (hk : l.length < k) :
  f k (0 : Int) = bif decide (l = m) then b else a := by
 have key := qZG (f := f) (l := l) (fun i x => decide (m[i]? = some x)) a b (fun k i x hx => by
  have hm : m[i]? = some (m[i]'(by have := at_lt hx; omega)) := List.getElem?_eq_getElem _
  rw [h0 k i x _ hx hm, hm]
  simp only [Option.some.injEq, eq_comm]) h1 k 0 (by omega) (by omega)
 rw [show ((0 : Nat) : Int) = 0 from rfl] at key
 rw [key]
 have e : allFrom (fun i x => decide (m[i]? = some x)) l 0 = decide (l = m) := by
  rw [Bool.eq_iff_iff, qSI, decide_eq_true_iff, qVS hlm]
  constructor
  ·
   intro h i x y hx hy
   have := of_decide_eq_true (h i x hx)
   rw [hy] at this
   exact (Option.some.inj this).symm
  ·
   intro h i x hx
   have hi : i < m.length := by have := at_lt hx; omega
   have hm : m[i]? = some m[i] := List.getElem?_eq_getElem hi
   have e := h i x _ hx hm
   rw [hm, ← e]
   exact decide_eq_true rfl
 rw [e]
theorem qsJ {α : Type} {s : α → Int} (hs : ∀ x, 0 ≤ s x) : ∀ l : List α, 0 ≤ (l.map s).sum
 | [] => by simp
 | x :: l => by have := qsJ hs l; have := hs x; simp only [List.map_cons, List.sum_cons]; omega
theorem qTQ {α : Type} {s : α → Int} (hs : ∀ x, 0 ≤ s x) : ∀ {l : List α} {x : α}, x ∈ l → s x ≤ (l.map s).sum
 | y :: l, x, h => by
  have p1 := qsJ hs l
  have p2 := hs y
  rw [List.map_cons, List.sum_cons]
  rcases List.mem_cons.1 h with rfl | h
  · omega
  have := qTQ hs h
  omega
inductive HdL {α : Type} (Hd : α → Int → Int → Prop) : List α → Int → Int → Prop
 | nil {q} : HdL Hd [] q q
 | cons {x l q q1 q2} (h : Hd x q q1) (t : HdL Hd l q1 q2) : HdL Hd (x :: l) q q2
theorem bo3_F (x y : Bool) : bo3 false x y = y := rfl
theorem bo3_T (x y : Bool) : bo3 true x y = x := rfl
theorem qv {α β : Type} {o : Option α} {x : α} (h : o = some x) (f : α → Option β) : o.bind f = f x := by rw [h]; rfl
theorem qP {κ R : Type} (K : κ) (f : κ → Option R) : joinK K f = f K := rfl
end Go.Proofs.YtcpekllcbimpmaaGreatDoor.L