/- Words for the plain part: what the pure operations give; loops. -/
import Derived.Test.YtbhleignjmcdiaaGreatDoorFnViewsLib5
namespace Go.Proofs.YtbhleignjmcdiaaGreatDoor.L
open Go
theorem qTE (c x : Bool) : bo3 c x false = (c && x) := by cases c <;> rfl
theorem qRS (c y : Bool) : bo3 c true y = (c || y) := by cases c <;> rfl
theorem qsC (c : Bool) : bo3 c false true = !c := by cases c <;> rfl
theorem qWa (c y : Bool) : bo3 c (!y) y = (c != y) := by cases c <;> cases y <;> rfl
theorem qrc (x : Bool) : bo3 x (bo3 x false true) x = false := by cases x <;> rfl
theorem qnO {α : Type} (b : Bool) (x y : α) : (bif b then x else y) = if b = true then x else y := by cases b <;> rfl
theorem qfB {x : Int} (h : -9223372036854775808 ≤ x ∧ x ≤ 9223372036854775807) : w64 x = x := wrap64 h
theorem qv {i : Nat} (h : i < 9223372036854775807) : w64 ((i : Int) + 1) = ((i + 1 : Nat) : Int) := by rw [qfB (by omega)]; rfl
theorem qF {α : Type} (l : List α) : lenI l = (l.length : Int) := rfl
theorem qd {α : Type} (l : List α) (i : Nat) : getO l (i : Int) = l[i]? := by unfold getO; rw [if_pos (by omega), Int.toNat_natCast]
theorem qPP {α : Type} (l : List α) : getO l 0 = l[0]? := qd l 0
theorem qPM {α : Type} {l : List α} {i : Int} (h : 0 ≤ i) : getO l i = l[i.toNat]? := by unfold getO; rw [if_pos h]
theorem qoL {α : Type} [Inhabited α] {l : List α} {i : Int} (h : 0 ≤ i ∧ i < l.length) : getO l i = some (l.getD i.toNat default) := by
 rw [qPM h.1, zgD]; rw [zgE (by omega)]; rfl
theorem qPF {l : List Int} {i : Int} (h : 0 ≤ i ∧ i ≤ (l.length : Int) - 1) : getO l i = some (l.getD i.toNat 0) := qoL (by omega)
theorem gd_of {α : Type} [Inhabited α] (b : Bool) (x : α) : gd b (some x) = some (bif b then x else default) := by cases b <;> rfl
theorem qoO {α : Type} (l : List α) (i : Nat) (x : α) : setI l (i : Int) x = l.set i x := by unfold setI; rw [Int.toNat_natCast]
theorem qWC {α : Type} {b : Nat} {l m : List α} (h : ((l.length : Int) + m.length) * b ≤ 140737488355328 ∧ (l.length : Int) + m.length ≤ 140737488355328) : appO b l m = some (l ++ m) := by unfold appO; rw [if_pos h]
theorem qmf {α : Type} {b : Nat} {n : Int} {z : α} (h : 0 ≤ n ∧ n * b ≤ 140737488355328 ∧ n ≤ 140737488355328) : mkO b n z = some (List.replicate n.toNat z) := by unfold mkO; rw [if_pos h]
theorem qQP {α : Type} {l : List α} {lo hi : Int} (h : 0 ≤ lo ∧ lo ≤ hi ∧ hi ≤ l.length) : cutO l lo hi = some ((l.take hi.toNat).drop lo.toNat) := by unfold cutO; rw [if_pos h]
theorem qTC {α : Type} [Inhabited α] (e : Option α) : gd true e = e := rfl
theorem qxE {α : Type} [Inhabited α] (e : Option α) : gd false e = some default := rfl
theorem qXa {α : Type} [Inhabited α] (b : Bool) {e : Option α} {x : α} (h : b = true → e = some x) : gd b e = some (bif b then x else default) := by
 cases b with
 | true => rw [qTC, h rfl]; rfl
 | false => rfl
def allFrom {α : Type} (p : Nat → α → Bool) (l : List α) (i : Nat) : Bool := ((l.zipIdx).drop i).all fun q => p q.2 q.1
theorem qqW {α : Type} {p : Nat → α → Bool} {l : List α} {i : Nat} (h : l.length ≤ i) : allFrom p l i = true := by
 unfold allFrom; rw [List.drop_eq_nil_of_le (by simpa using h)]; rfl
theorem qJV {α : Type} {p : Nat → α → Bool} {l : List α} {i : Nat} {x : α} (h : l[i]? = some x) : allFrom p l i = (p i x && allFrom p l (i + 1)) := by
 unfold allFrom; obtain ⟨hi, rfl⟩ := List.getElem?_eq_some_iff.1 h; rw [List.drop_eq_getElem_cons (by simpa using hi), List.all_cons]; simp
theorem qIE {α : Type} {q : α → Bool} {l : List α} : allFrom (fun _ => q) l 0 = l.all q := by
 unfold allFrom; rw [List.drop_zero]; rw [Bool.eq_iff_iff, List.all_eq_true, List.all_eq_true]; constructor
 ·
  intro h x hx; obtain ⟨i, hi, rfl⟩ := List.mem_iff_getElem.1 hx; have := h (l[i], i) (by rw [List.mem_iff_getElem]; exact ⟨i, by simpa using hi, by simp⟩); exact this
 rintro h ⟨x, i⟩ hx; exact h x (List.fst_mem_of_mem_zipIdx hx)
theorem qbE {α : Type} {p : Nat → α → Bool} {l : List α} : allFrom p l 0 = true ↔ ∀ i x, l[i]? = some x → p i x = true := by
 unfold allFrom; rw [List.drop_zero, List.all_eq_true]; constructor
 ·
  intro h i x hx; obtain ⟨hi, rfl⟩ := List.getElem?_eq_some_iff.1 hx; exact h (l[i], i) (by rw [List.mem_iff_getElem]; exact ⟨i, by simpa using hi, by simp⟩)
 rintro h ⟨x, i⟩ hx; rw [List.mem_iff_getElem] at hx; obtain ⟨j, hj, e⟩ := hx; simp only [List.getElem_zipIdx, Nat.zero_add, zpI] at e; obtain ⟨rfl, rfl⟩ := e; exact h j _ (zgE _)
theorem at_lt {α : Type} {l : List α} {i : Nat} {x : α} (h : l[i]? = some x) : i < l.length := (List.getElem?_eq_some_iff.1 h).1
theorem qOD {R α : Type} {f : Nat → Int → Option R} {l : List α} (p : Nat → α → Bool) (a b : Option R) (h0 : ∀ k (i : Nat) x, l[i]? = some x → f (k + 1) i = bif p i x then f k ((i + 1 : Nat) : Int) else a) (h1 : ∀ k (i : Nat), i = l.length → f (k + 1) i = b) :
  ∀ (k i : Nat), i ≤ l.length → l.length < i + k → f k i = bif allFrom p l i then b else a
 | 0, i, h, h' => by omega
 | k + 1, i, h, h' => by
  by_cases hi : i < l.length
  ·
   have hx : l[i]? = some l[i] := zgE hi; rw [h0 k i _ hx, qJV hx]
   cases p i l[i] with
   | true => rw [Bool.true_and]; exact qOD p a b h0 h1 k (i + 1) (by omega) (by omega)
   | false => rfl
  rw [h1 k i (by omega), qqW (by omega)]; rfl
theorem qsc {α : Type} {l m : List α} (hl : l.length = m.length) : (l = m) ↔ ∀ (i : Nat) x y, l[i]? = some x → m[i]? = some y → x = y := by
 constructor
 ·
  rintro rfl i x y hx hy; rw [hx] at hy; exact Option.some.inj hy
 intro h; apply List.ext_getElem?; intro i
 by_cases hi : i < l.length
 ·
  rw [zgE hi, zgE (by omega)]; exact congrArg some (h i _ _ (zgE hi) (zgE (by omega)))
 rw [List.getElem?_eq_none (by omega), List.getElem?_eq_none (by omega)]
theorem qNK {R α : Type} [DecidableEq α] {f : Nat → Int → Option R} {l m : List α} (hlm : l.length = m.length) (a b : Option R) (h0 : ∀ k (i : Nat) x y, l[i]? = some x → m[i]? = some y → f (k + 1) i = bif decide (x = y) then f k ((i + 1 : Nat) : Int) else a) (h1 : ∀ k (i : Nat), i = l.length → f (k + 1) i = b) (k : Nat) (hk : l.length < k) :
  f k (0 : Int) = bif decide (l = m) then b else a := by
 have key := qOD (f := f) (l := l) (fun i x => decide (m[i]? = some x)) a b (fun k i x hx => by
  have hm : m[i]? = some (m[i]'(by have := at_lt hx; omega)) := zgE _; rw [h0 k i x _ hx hm, hm]
  simp only [zoI, eq_comm]) h1 k 0 (by omega) (by omega)
 rw [show ((0 : Nat) : Int) = 0 from rfl] at key; rw [key]
 have e : allFrom (fun i x => decide (m[i]? = some x)) l 0 = decide (l = m) := by
  rw [Bool.eq_iff_iff, qbE, decide_eq_true_iff, qsc hlm]; constructor
  ·
   intro h i x y hx hy; have := of_decide_eq_true (h i x hx); rw [hy] at this; exact (Option.some.inj this).symm
  ·
   intro h i x hx
   have hi : i < m.length := by have := at_lt hx; omega
   have hm : m[i]? = some m[i] := zgE hi; have e := h i x _ hx hm; rw [hm, ← e]; exact zdT rfl
 rw [e]
theorem qUE {α : Type} {s : α → Int} (hs : ∀ x, 0 ≤ s x) : ∀ l : List α, 0 ≤ (l.map s).sum
 | [] => by simp
 | x :: l => by have := qUE hs l; have := hs x; simp only [List.map_cons, List.sum_cons]; omega
theorem qfJ {α : Type} {s : α → Int} (hs : ∀ x, 0 ≤ s x) : ∀ {l : List α} {x : α}, x ∈ l → s x ≤ (l.map s).sum
 | y :: l, x, h => by
  have p1 := qUE hs l; have p2 := hs y; rw [List.map_cons, List.sum_cons]
  rcases List.mem_cons.1 h with rfl | h
  · omega
  have := qfJ hs h; omega
theorem qQM {α : Type} [Inhabited α] {l : List α} {i : Nat} {x : α} {r : Bool} (hx : l[i]? = some x) (hl : i < 9223372036854775807) : gd (bo3 r (decide (0 < (i : Int))) false) (getO l (w64 ((i : Int) - 1))) = some (bif bo3 r (decide (0 < (i : Int))) false then l.getD (i - 1) default else default) := by
 refine qXa _ fun h => ?_; have h0 := of_decide_eq_true (bo_r h); have hi := at_lt hx; rw [qfB (by omega), show ((i : Int) - 1) = ((i - 1 : Nat) : Int) by omega, qd, zgD, zgE (by omega)]; rfl
theorem qDG {α : Type} {l : List α} {i : Nat} {x : α} (h : l[i]? = some x) : l.take (i + 1) = l.take i ++ [x] := by rw [List.take_add_one, h]; rfl
theorem qKV {R α : Type} {f : Nat → List α → Int → Option R} {l : List α} (b : List α → Option R) (h0 : ∀ k (i : Nat) x, l[i]? = some x → f (k + 1) (l.take i) i = f k (l.take i ++ [x]) ((i + 1 : Nat) : Int)) (h1 : ∀ k s (i : Nat), i = l.length → f (k + 1) s i = b s) :
  ∀ (k i : Nat), i ≤ l.length → l.length < i + k → f k (l.take i) i = b l
 | 0, i, h, h' => by omega
 | k + 1, i, h, h' => by
  by_cases hi : i < l.length
  ·
   have hx : l[i]? = some l[i] := zgE hi; rw [h0 k i _ hx, ← qDG hx]; exact qKV b h0 h1 k (i + 1) (by omega) (by omega)
  rw [h1 k _ i (by omega), List.take_of_length_le (by omega)]
inductive HdL {α : Type} (Hd : α → Int → Int → Prop) : List α → Int → Int → Prop
 | nil {q} : HdL Hd [] q q
 | cons {x l q q1 q2} (h : Hd x q q1) (t : HdL Hd l q1 q2) : HdL Hd (x :: l) q q2
theorem bo3_F (x y : Bool) : bo3 false x y = y := rfl
theorem bo3_T (x y : Bool) : bo3 true x y = x := rfl
theorem qPT {c : Prop} [Decidable c] {α : Type} {x y : α} : (if c then some x else some y) = some (if c then x else y) := by split <;> rfl
theorem qGB {α β : Type} {o : Option α} {x : α} (h : o = some x) (f : α → Option β) : o.bind f = f x := by rw [h]; rfl
theorem qCD {κ R : Type} (K : κ) (f : κ → Option R) : joinK K f = f K := rfl
end Go.Proofs.YtbhleignjmcdiaaGreatDoor.L