/- Words for the plain part: what the pure operations give; loops. -/
import Derived.Test.YtcpekllcbimpmaaDoorLib5
namespace Go.Proofs.YtcpekllcbimpmaaDoor.L
open Go

theorem bo3_and (c x : Bool) : bo3 c x false = (c && x) := by cases c <;> rfl
theorem bo3_or (c y : Bool) : bo3 c true y = (c || y) := by cases c <;> rfl
theorem bo3_not (c : Bool) : bo3 c false true = !c := by cases c <;> rfl
theorem bo3_xor (c y : Bool) : bo3 c (!y) y = (c != y) := by cases c <;> cases y <;> rfl
theorem bo3_iff (c y : Bool) : bo3 c y (!y) = (c == y) := by cases c <;> cases y <;> rfl
theorem bo3_self (x : Bool) : bo3 x (bo3 x false true) x = false := by cases x <;> rfl
theorem bo3_tt : bo3 true false true = false := rfl
theorem cond_ite {α : Type} (b : Bool) (x y : α) : (bif b then x else y) = if b = true then x else y := by cases b <;> rfl
theorem w64_id {x : Int} (h : -9223372036854775808 ≤ x ∧ x ≤ 9223372036854775807) : w64 x = x := wrap64 h
theorem w64_succ {i : Nat} (h : i < 9223372036854775807) : w64 ((i : Int) + 1) = ((i + 1 : Nat) : Int) := by rw [w64_id (by omega)]; rfl
theorem lenI_eq {α : Type} (l : List α) : lenI l = (l.length : Int) := rfl
theorem fuel_len (n : Nat) : ((n : Int) - 0).toNat + 1 = n + 1 := by omega
theorem getO_nat {α : Type} (l : List α) (i : Nat) : getO l (i : Int) = l[i]? := by unfold getO; rw [if_pos (by omega), Int.toNat_natCast]
theorem getO_zero {α : Type} (l : List α) : getO l 0 = l[0]? := getO_nat l 0
theorem getO_pos {α : Type} {l : List α} {i : Int} (h : 0 ≤ i) : getO l i = l[i.toNat]? := by unfold getO; rw [if_pos h]
theorem getO_in {α : Type} [Inhabited α] {l : List α} {i : Int} (h : 0 ≤ i ∧ i < l.length) : getO l i = some (l.getD i.toNat default) := by
  rw [getO_pos h.1, List.getD_eq_getElem?_getD]
  rw [List.getElem?_eq_getElem (by omega)]
  rfl
theorem getO_Int {l : List Int} {i : Int} (h : 0 ≤ i ∧ i ≤ (l.length : Int) - 1) : getO l i = some (l.getD i.toNat 0) := getO_in (by omega)
theorem gd_of {α : Type} [Inhabited α] (b : Bool) (x : α) : gd b (some x) = some (bif b then x else default) := by cases b <;> rfl
theorem setI_nat {α : Type} (l : List α) (i : Nat) (x : α) : setI l (i : Int) x = l.set i x := by unfold setI; rw [Int.toNat_natCast]
theorem appO_ok {α : Type} {b : Nat} {l m : List α} (h : ((l.length : Int) + m.length) * b ≤ 140737488355328 ∧ (l.length : Int) + m.length ≤ 140737488355328) : appO b l m = some (l ++ m) := by unfold appO; rw [if_pos h]
theorem mkO_ok {α : Type} {b : Nat} {n : Int} {z : α} (h : 0 ≤ n ∧ n * b ≤ 140737488355328 ∧ n ≤ 140737488355328) : mkO b n z = some (List.replicate n.toNat z) := by unfold mkO; rw [if_pos h]
theorem cutO_ok {α : Type} {l : List α} {lo hi : Int} (h : 0 ≤ lo ∧ lo ≤ hi ∧ hi ≤ l.length) : cutO l lo hi = some ((l.take hi.toNat).drop lo.toNat) := by unfold cutO; rw [if_pos h]
theorem gd_true {α : Type} [Inhabited α] (e : Option α) : gd true e = e := rfl
theorem gd_false {α : Type} [Inhabited α] (e : Option α) : gd false e = some default := rfl
theorem gd_some {α : Type} [Inhabited α] (b : Bool) {e : Option α} {x : α} (h : b = true → e = some x) : gd b e = some (bif b then x else default) := by
  cases b with
  | true => rw [gd_true, h rfl]; rfl
  | false => rfl

/-! ### loops over a list, from an index on -/
/-- Whether all elements from i on pass. -/
def allFrom {α : Type} (p : Nat → α → Bool) (l : List α) (i : Nat) : Bool := ((l.zipIdx).drop i).all fun q => p q.2 q.1
theorem allFrom_end {α : Type} {p : Nat → α → Bool} {l : List α} {i : Nat} (h : l.length ≤ i) : allFrom p l i = true := by
  unfold allFrom; rw [List.drop_eq_nil_of_le (by simpa using h)]; rfl
theorem allFrom_step {α : Type} {p : Nat → α → Bool} {l : List α} {i : Nat} {x : α} (h : l[i]? = some x) : allFrom p l i = (p i x && allFrom p l (i + 1)) := by
  unfold allFrom
  obtain ⟨hi, rfl⟩ := List.getElem?_eq_some_iff.1 h
  rw [List.drop_eq_getElem_cons (by simpa using hi), List.all_cons]
  simp
theorem allFrom_zero {α : Type} {q : α → Bool} {l : List α} : allFrom (fun _ => q) l 0 = l.all q := by
  unfold allFrom
  rw [List.drop_zero]
  rw [Bool.eq_iff_iff, List.all_eq_true, List.all_eq_true]
  constructor
  · intro h x hx
    obtain ⟨i, hi, rfl⟩ := List.mem_iff_getElem.1 hx
    have := h (l[i], i) (by rw [List.mem_iff_getElem]; exact ⟨i, by simpa using hi, by simp⟩)
    exact this
  · rintro h ⟨x, i⟩ hx
    exact h x (List.fst_mem_of_mem_zipIdx hx)
theorem allFrom_iff {α : Type} {p : Nat → α → Bool} {l : List α} : allFrom p l 0 = true ↔ ∀ i x, l[i]? = some x → p i x = true := by
  unfold allFrom
  rw [List.drop_zero, List.all_eq_true]
  constructor
  · intro h i x hx
    obtain ⟨hi, rfl⟩ := List.getElem?_eq_some_iff.1 hx
    exact h (l[i], i) (by rw [List.mem_iff_getElem]; exact ⟨i, by simpa using hi, by simp⟩)
  · rintro h ⟨x, i⟩ hx
    rw [List.mem_iff_getElem] at hx
    obtain ⟨j, hj, e⟩ := hx
    simp only [List.getElem_zipIdx, Nat.zero_add, Prod.mk.injEq] at e
    obtain ⟨rfl, rfl⟩ := e
    exact h j _ (List.getElem?_eq_getElem _)

theorem at_lt {α : Type} {l : List α} {i : Nat} {x : α} (h : l[i]? = some x) : i < l.length := (List.getElem?_eq_some_iff.1 h).1

theorem loop_all {R α : Type} {f : Nat → Int → Option R} {l : List α} (p : Nat → α → Bool) (a b : Option R) (h0 : ∀ k (i : Nat) x, l[i]? = some x → f (k + 1) i = bif p i x then f k ((i + 1 : Nat) : Int) else a) (h1 : ∀ k (i : Nat), i = l.length → f (k + 1) i = b) :
    ∀ (k i : Nat), i ≤ l.length → l.length < i + k → f k i = bif allFrom p l i then b else a
  | 0, i, h, h' => by omega
  | k + 1, i, h, h' => by
    by_cases hi : i < l.length
    · have hx : l[i]? = some l[i] := List.getElem?_eq_getElem hi
      rw [h0 k i _ hx, allFrom_step hx]
      cases p i l[i] with
      | true => rw [Bool.true_and]; exact loop_all p a b h0 h1 k (i + 1) (by omega) (by omega)
      | false => rfl
    · rw [h1 k i (by omega), allFrom_end (by omega)]; rfl

/-- With a state that is carried along. -/
theorem loop_fold {R α β : Type} {f : Nat → β → Int → Option R} {l : List α} (g : Nat → β → α → β) (b : β → Option R) (h0 : ∀ k (i : Nat) s x, l[i]? = some x → f (k + 1) s i = f k (g i s x) ((i + 1 : Nat) : Int)) (h1 : ∀ k s (i : Nat), i = l.length → f (k + 1) s i = b s) :
    ∀ (k i : Nat) (s : β), i ≤ l.length → l.length < i + k → f k s i = b (((l.zipIdx).drop i).foldl (fun s q => g q.2 s q.1) s)
  | 0, i, s, h, h' => by omega
  | k + 1, i, s, h, h' => by
    by_cases hi : i < l.length
    · have hx : l[i]? = some l[i] := List.getElem?_eq_getElem hi
      rw [h0 k i s _ hx, loop_fold g b h0 h1 k (i + 1) _ (by omega) (by omega)]
      rw [List.drop_eq_getElem_cons (i := i) (by simpa using hi), List.foldl_cons]
      simp
    · rw [h1 k s i (by omega), List.drop_eq_nil_of_le (by simp; omega)]; rfl

/-- A loop with a promise: what holds of index and state at the head, leads to the end's. -/
theorem loop_inv {R β : Type} {f : Nat → β → Option R} (I : Nat → β → Prop) {n : Nat} {b : Option R} (h0 : ∀ k (i : Nat) s, i < n → I i s → f (k + 1) s = b ∨ ∃ s', f (k + 1) s = f k s' ∧ I (i + 1) s') (h1 : ∀ k s, I n s → f (k + 1) s = b) :
    ∀ (k i : Nat) (s : β), i ≤ n → n < i + k → I i s → f k s = b
  | 0, i, s, h, h', _ => by omega
  | k + 1, i, s, h, h', hI => by
    by_cases hi : i < n
    · rcases h0 k i s hi hI with h | ⟨s', h, hI'⟩
      · exact h
      · rw [h]; exact loop_inv I h0 h1 k (i + 1) s' (by omega) (by omega) hI'
    · have : i = n := by omega
      subst this
      exact h1 k s hI

/-- A list that is filled from the left. -/
theorem loop_fill {R α : Type} {f : Nat → List α → Int → Option R} {l : List α} (b : List α → Option R) (h0 : ∀ k (i : Nat) s x y, l[i]? = some x → s[i]? = some y → f (k + 1) s i = f k (s.set i x) ((i + 1 : Nat) : Int)) (h1 : ∀ k s (i : Nat), i = l.length → f (k + 1) s i = b s) :
    ∀ (k i : Nat) (s : List α), i ≤ l.length → l.length < i + k → s.length = l.length → s.take i = l.take i → f k s i = b l
  | 0, i, s, h, h', _, _ => by omega
  | k + 1, i, s, h, h', hl, ht => by
    by_cases hi : i < l.length
    · rw [h0 k i s l[i] s[i] (List.getElem?_eq_getElem hi) (List.getElem?_eq_getElem (by omega))]
      refine loop_fill b h0 h1 k (i + 1) _ (by omega) (by omega) (by simpa using hl) ?_
      rw [List.take_add_one, List.take_add_one, List.take_set_of_le (Nat.le_refl i), ht]
      rw [List.getElem?_set, if_pos rfl, if_pos (by omega), List.getElem?_eq_getElem hi]
    · rw [h1 k s i (by omega)]
      congr 1
      rw [← List.take_of_length_le (l := s) (i := i) (by omega), ht, List.take_of_length_le (by omega)]

theorem eq_of_at {α : Type} {l m : List α} (hl : l.length = m.length) : (l = m) ↔ ∀ (i : Nat) x y, l[i]? = some x → m[i]? = some y → x = y := by
  constructor
  · rintro rfl i x y hx hy
    rw [hx] at hy
    exact Option.some.inj hy
  · intro h
    apply List.ext_getElem? 
    intro i
    by_cases hi : i < l.length
    · rw [List.getElem?_eq_getElem hi, List.getElem?_eq_getElem (by omega)]
      exact congrArg some (h i _ _ (List.getElem?_eq_getElem hi) (List.getElem?_eq_getElem (by omega)))
    · rw [List.getElem?_eq_none (by omega), List.getElem?_eq_none (by omega)]

/-- Two lists of one length, compared place by place. -/
theorem loop_eq {R α : Type} [DecidableEq α] {f : Nat → Int → Option R} {l m : List α} (hlm : l.length = m.length) (a b : Option R) (h0 : ∀ k (i : Nat) x y, l[i]? = some x → m[i]? = some y → f (k + 1) i = bif decide (x = y) then f k ((i + 1 : Nat) : Int) else a) (h1 : ∀ k (i : Nat), i = l.length → f (k + 1) i = b) (k : Nat) (hk : l.length < k) :
    f k (0 : Int) = bif decide (l = m) then b else a := by
  have key := loop_all (f := f) (l := l) (fun i x => decide (m[i]? = some x)) a b (fun k i x hx => by
    have hm : m[i]? = some (m[i]'(by have := at_lt hx; omega)) := List.getElem?_eq_getElem _
    rw [h0 k i x _ hx hm, hm]
    simp only [Option.some.injEq, eq_comm]) h1 k 0 (by omega) (by omega)
  rw [show ((0 : Nat) : Int) = 0 from rfl] at key
  rw [key]
  have e : allFrom (fun i x => decide (m[i]? = some x)) l 0 = decide (l = m) := by
    rw [Bool.eq_iff_iff, allFrom_iff, decide_eq_true_iff, eq_of_at hlm]
    constructor
    · intro h i x y hx hy
      have := of_decide_eq_true (h i x hx)
      rw [hy] at this
      exact (Option.some.inj this).symm
    · intro h i x hx
      have hi : i < m.length := by have := at_lt hx; omega
      have hm : m[i]? = some m[i] := List.getElem?_eq_getElem hi
      have e := h i x _ hx hm
      rw [hm, ← e]
      exact decide_eq_true rfl
  rw [e]

theorem sum_nonneg {α : Type} {s : α → Int} (hs : ∀ x, 0 ≤ s x) : ∀ l : List α, 0 ≤ (l.map s).sum
  | [] => by simp
  | x :: l => by have := sum_nonneg hs l; have := hs x; simp only [List.map_cons, List.sum_cons]; omega

theorem sum_mem {α : Type} {s : α → Int} (hs : ∀ x, 0 ≤ s x) : ∀ {l : List α} {x : α}, x ∈ l → s x ≤ (l.map s).sum
  | y :: l, x, h => by
    have p1 := sum_nonneg hs l
    have p2 := hs y
    rw [List.map_cons, List.sum_cons]
    rcases List.mem_cons.1 h with rfl | h
    · omega
    · have := sum_mem hs h
      omega

/-- What is left of a measure. -/
theorem loop_sz {α : Type} {f : Nat → Int → Int → Option Int} {l : List α} (s : α → Int) (hs : ∀ x, 0 ≤ s x) (h0 : ∀ k (i : Nat) acc x, l[i]? = some x → 0 ≤ acc → acc ≤ 1048576 → f (k + 1) acc i = if acc < s x then some (-1) else f k (acc - s x) ((i + 1 : Nat) : Int))
    (h1 : ∀ k acc (i : Nat), i = l.length → f (k + 1) acc i = some acc) : ∀ (k i : Nat) (acc : Int), i ≤ l.length → l.length < i + k → 0 ≤ acc → acc ≤ 1048576 → f k acc i = some (if acc < ((l.drop i).map s).sum then -1 else acc - ((l.drop i).map s).sum)
  | 0, i, acc, h, h', _, _ => by omega
  | k + 1, i, acc, h, h', ha, hb => by
    by_cases hi : i < l.length
    · have hx : l[i]? = some l[i] := List.getElem?_eq_getElem hi
      rw [h0 k i acc _ hx ha hb, List.drop_eq_getElem_cons hi, List.map_cons, List.sum_cons]
      have p1 := hs l[i]
      have p2 := sum_nonneg hs (l.drop (i + 1))
      by_cases hc : acc < s l[i]
      · rw [if_pos hc, if_pos (by omega)]
      · rw [if_neg hc, loop_sz s hs h0 h1 k (i + 1) _ (by omega) (by omega) (by omega) (by omega)]
        by_cases hd : acc - s l[i] < ((l.drop (i + 1)).map s).sum
        · rw [if_pos hd, if_pos (by omega)]
        · rw [if_neg hd, if_neg (by omega)]
          congr 1
          omega
    · rw [h1 k acc i (by omega), List.drop_eq_nil_of_le (by omega)]
      simp
      omega

theorem prev_step {α : Type} [Inhabited α] {l : List α} {i : Nat} {x : α} {r : Bool} (hx : l[i]? = some x) (hl : i < 9223372036854775807) : gd (bo3 r (decide (0 < (i : Int))) false) (getO l (w64 ((i : Int) - 1))) = some (bif bo3 r (decide (0 < (i : Int))) false then l.getD (i - 1) default else default) := by
  refine gd_some _ fun h => ?_
  have h0 := of_decide_eq_true (bo_r h)
  have hi := at_lt hx
  rw [w64_id (by omega), show ((i : Int) - 1) = ((i - 1 : Nat) : Int) by omega, getO_nat, List.getD_eq_getElem?_getD, List.getElem?_eq_getElem (by omega)]
  rfl
theorem take_snoc {α : Type} {l : List α} {i : Nat} {x : α} (h : l[i]? = some x) : l.take (i + 1) = l.take i ++ [x] := by rw [List.take_add_one, h]; rfl

/-- A list that is copied. -/
theorem loop_copy {R α : Type} {f : Nat → List α → Int → Option R} {l : List α} (b : List α → Option R) (h0 : ∀ k (i : Nat) x, l[i]? = some x → f (k + 1) (l.take i) i = f k (l.take i ++ [x]) ((i + 1 : Nat) : Int)) (h1 : ∀ k s (i : Nat), i = l.length → f (k + 1) s i = b s) :
    ∀ (k i : Nat), i ≤ l.length → l.length < i + k → f k (l.take i) i = b l
  | 0, i, h, h' => by omega
  | k + 1, i, h, h' => by
    by_cases hi : i < l.length
    · have hx : l[i]? = some l[i] := List.getElem?_eq_getElem hi
      rw [h0 k i _ hx, ← take_snoc hx]
      exact loop_copy b h0 h1 k (i + 1) (by omega) (by omega)
    · rw [h1 k _ i (by omega), List.take_of_length_le (by omega)]

/-- With a state: what the rest of the list makes of it. -/
theorem loop_rest {R α β : Type} {f : Nat → β → Int → Option R} {l : List α} (F : β → List α → Option R) (h0 : ∀ k (i : Nat) s x, l[i]? = some x → (∀ s', f k s' ((i + 1 : Nat) : Int) = F s' (l.drop (i + 1))) → f (k + 1) s i = F s (x :: l.drop (i + 1))) (h1 : ∀ k s (i : Nat), i = l.length → f (k + 1) s i = F s []) :
    ∀ (k i : Nat) (s : β), i ≤ l.length → l.length < i + k → f k s i = F s (l.drop i)
  | 0, i, s, h, h' => by omega
  | k + 1, i, s, h, h' => by
    by_cases hi : i < l.length
    · rw [List.drop_eq_getElem_cons hi]
      exact h0 k i s _ (List.getElem?_eq_getElem hi) (fun s' => loop_rest F h0 h1 k (i + 1) s' (by omega) (by omega))
    · rw [h1 k s i (by omega), List.drop_eq_nil_of_le (by omega)]

/-! ### marks -/
/-- Elements that are held from one number to another. -/
inductive HdL {α : Type} (Hd : α → Int → Int → Prop) : List α → Int → Int → Prop
  | nil {q} : HdL Hd [] q q
  | cons {x l q q1 q2} (h : Hd x q q1) (t : HdL Hd l q1 q2) : HdL Hd (x :: l) q q2

theorem setI_setI {α : Type} (l : List α) (i : Int) (a b : α) : setI (setI l i a) i b = setI l i b := by unfold setI; rw [List.set_set]

theorem sum_c {α : Type} (s : α → Int) : ∀ l : List α, (l.map fun x => 16 * (1 + s x)).sum = 16 * ((l.length : Int) + (l.map s).sum)
  | [] => by simp
  | x :: l => by
    have := sum_c s l
    simp only [List.map_cons, List.sum_cons, List.length_cons] at this ⊢
    omega
theorem sum_0 {α : Type} : ∀ l : List α, (l.map fun _ => (16 : Int) * (1 + 0)).sum = 16 * (l.length : Int)
  | [] => by simp
  | x :: l => by
    have := sum_0 l
    simp only [List.map_cons, List.sum_cons, List.length_cons] at this ⊢
    omega
theorem bo3_F (x y : Bool) : bo3 false x y = y := rfl
theorem bo3_T (x y : Bool) : bo3 true x y = x := rfl

theorem loop_mark {α : Type} {fm : Nat → List α → Int → Int → Option (List α × Int)} (n : Nat) (B : Int) (c : α → Int) (Hd : α → Int → Int → Prop) (hc : ∀ x, 0 ≤ c x)
    (h0 : ∀ k (i : Nat) s x q, s.length = n → s[i]? = some x → 0 ≤ q → q + c x ≤ B → ∃ x' q', fm (k + 1) s q i = fm k (s.set i x') q' ((i + 1 : Nat) : Int) ∧ q ≤ q' ∧ q' ≤ q + c x ∧ Hd x' q q')
    (h1 : ∀ k s q (i : Nat), i = s.length → fm (k + 1) s q i = some (s, q)) :
    ∀ (k i : Nat) (s : List α) (q : Int), s.length = n → i ≤ s.length → s.length < i + k → 0 ≤ q → q + ((s.drop i).map c).sum ≤ B →
      ∃ s' q', fm k s q i = some (s', q') ∧ s'.length = s.length ∧ s'.take i = s.take i ∧ q ≤ q' ∧ q' ≤ q + ((s.drop i).map c).sum ∧ HdL Hd (s'.drop i) q q'
  | 0, i, s, q, _, h, h', _, _ => by omega
  | k + 1, i, s, q, hn, h, h', hq, hB => by
    by_cases hi : i < s.length
    · have hx : s[i]? = some s[i] := List.getElem?_eq_getElem hi
      rw [List.drop_eq_getElem_cons hi, List.map_cons, List.sum_cons] at hB
      have p := sum_nonneg hc (s.drop (i + 1))
      obtain ⟨x', q1, e1, e2, e3, e4⟩ := h0 k i s _ q hn hx hq (by omega)
      obtain ⟨s', q2, f1, f2, f3, f4, f5, f6⟩ := loop_mark n B c Hd hc h0 h1 k (i + 1) (s.set i x') q1 (by simpa using hn) (by simp; omega) (by simp; omega) (by omega) (by
        rw [List.drop_set_of_lt (by omega)]; omega)
      rw [List.drop_set_of_lt (by omega)] at f5
      have hl : s'.length = s.length := by rw [f2]; simp
      have hx' : s'[i]? = some x' := by
        have : (s'.take (i + 1))[i]? = ((s.set i x').take (i + 1))[i]? := by rw [f3]
        rw [List.getElem?_take, if_pos (by omega), List.getElem?_take, if_pos (by omega), List.getElem?_set, if_pos rfl, if_pos hi] at this
        exact this
      refine ⟨s', q2, by rw [e1, f1], hl, ?_, by omega, ?_, ?_⟩
      · have : (s'.take (i + 1)).take i = ((s.set i x').take (i + 1)).take i := by rw [f3]
        rw [List.take_take, List.take_take, Nat.min_eq_left (by omega), List.take_set_of_le (Nat.le_refl i)] at this
        exact this
      · rw [List.drop_eq_getElem_cons hi, List.map_cons, List.sum_cons]; omega
      · have hi' : i < s'.length := by omega
        rw [List.drop_eq_getElem_cons hi', show s'[i] = x' from by rw [List.getElem?_eq_getElem hi'] at hx'; exact Option.some.inj hx']
        exact .cons e4 f6
    · refine ⟨s, q, h1 k s q i (by omega), rfl, rfl, Int.le_refl _, ?_, ?_⟩
      · rw [List.drop_eq_nil_of_le (by omega)]; simp
      · rw [List.drop_eq_nil_of_le (by omega)]; exact .nil

theorem loop_held {α : Type} {fh : Nat → Int → Int → Option Int} {l : List α} (Hd : α → Int → Int → Prop) (hmono : ∀ x q q', Hd x q q' → q ≤ q')
    (h0 : ∀ k (i : Nat) x q q', l[i]? = some x → Hd x q q' → 0 ≤ q → q' ≤ 4611686018427387904 → fh (k + 1) q i = fh k q' ((i + 1 : Nat) : Int)) (h1 : ∀ k q (i : Nat), i = l.length → fh (k + 1) q i = some q) :
    ∀ (k i : Nat) (q q' : Int), i ≤ l.length → l.length < i + k → 0 ≤ q → q' ≤ 4611686018427387904 → HdL Hd (l.drop i) q q' → fh k q i = some q'
  | 0, i, q, q', h, h', _, _, _ => by omega
  | k + 1, i, q, q', h, h', hq, hB, hd => by
    have mono : ∀ {m : List α} {a b : Int}, HdL Hd m a b → a ≤ b := by
      intro m a b hm
      induction hm with
      | nil => exact Int.le_refl _
      | cons h _ ih => exact Int.le_trans (hmono _ _ _ h) ih
    by_cases hi : i < l.length
    · rw [List.drop_eq_getElem_cons hi] at hd
      cases hd with
      | cons h1' t =>
        have m1 := hmono _ _ _ h1'
        have m2 := mono t
        rw [h0 k i _ q _ (List.getElem?_eq_getElem hi) h1' hq (by omega)]
        exact loop_held Hd hmono h0 h1 k (i + 1) _ q' (by omega) (by omega) (by omega) hB t
    · rw [List.drop_eq_nil_of_le (by omega)] at hd
      cases hd
      exact h1 k q i (by omega)

theorem some_if {c : Prop} [Decidable c] {α : Type} {x y : α} : (if c then some x else some y) = some (if c then x else y) := by split <;> rfl

theorem bnd_some {α β : Type} {o : Option α} {x : α} (h : o = some x) (f : α → Option β) : o.bind f = f x := by rw [h]; rfl
theorem joinK_eq {κ R : Type} (K : κ) (f : κ → Option R) : joinK K f = f K := rfl
theorem sc_nes (x : ByteArray) : Ls.sc .neq x x = false := by simp [Ls]
end Go.Proofs.YtcpekllcbimpmaaDoor.L
