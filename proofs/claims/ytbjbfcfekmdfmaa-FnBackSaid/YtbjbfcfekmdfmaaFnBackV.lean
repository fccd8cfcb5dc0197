/- What the pure functions give. -/
import Derived.Test.YtbjbfcfekmdfmaaPv0
import Derived.Test.YtbjbfcfekmdfmaaFnBackU
namespace Go.Proofs.Ytbjbfcfekmdfmaa.L
open Go
set_option linter.unusedVariables false
set_option linter.unusedSimpArgs false
def sz_IntS (l : List Int) : Int := l.length
def IntS_b (l : List Int) : Prop := l.length ≤ 9223372036854775807
theorem sz_IntS_0 (l : List Int) : 0 ≤ sz_IntS l := by unfold sz_IntS; omega
def IntS_r (l : List Int) : Prop := ∀ x ∈ l, (-9223372036854775808 ≤ x ∧ x ≤ 9223372036854775807)
theorem laws_sameInts_eq (a b : List Int) (ha : a.length ≤ 9223372036854775807) (hb : b.length ≤ 9223372036854775807) : laws_sameInts.f a b = some (decide (a = b)) := by
  unfold laws_sameInts.f
  rw [lenI_eq, lenI_eq]
  by_cases hl : a.length = b.length
  · rw [decide_eq_false (by omega), cond_false]
    have key : ∀ (k i : Nat), i ≤ a.length → a.length < i + k → laws_sameInts.l0 a b k i = some (decide (a.drop i = b.drop i)) := by
      intro k
      induction k with
      | zero => intro i h1 h2; omega
      | succ k ih =>
        intro i h1 h2
        rw [laws_sameInts.l0, lenI_eq]
        by_cases hi : i < a.length
        · rw [decide_eq_true (by omega), cond_true, getO_nat, List.getElem?_eq_getElem hi, Option.bind_some, getO_nat, List.getElem?_eq_getElem (by omega), Option.bind_some, w64_succ (by omega)]
          have e1 : a.drop i = a[i] :: a.drop (i + 1) := List.drop_eq_getElem_cons hi
          have e2 : b.drop i = b[i] :: b.drop (i + 1) := List.drop_eq_getElem_cons (by omega)
          rw [e1, e2]
          by_cases e : a[i] = b[i]
          · rw [decide_eq_false (by simpa using e), cond_false, ih (i + 1) (by omega) (by omega), e]
            exact congrArg some (decide_eq_decide.2 ⟨fun h => by rw [h], fun h => (List.cons.inj h).2⟩)
          · rw [decide_eq_true (by simpa using e), cond_true, decide_eq_false (fun h => e (List.cons.inj h).1)]
        · rw [decide_eq_false (by omega), cond_false, List.drop_eq_nil_of_le (by omega), List.drop_eq_nil_of_le (by omega)]
          rfl
    have := key (((a.length : Int) - 0).toNat + 1) 0 (by omega) (by omega)
    simpa using this
  · rw [decide_eq_true (by omega), cond_true, decide_eq_false (fun e => hl (by rw [e]))]

def schemaB (s : Schema) : Bool := s.Cols.all (fun n => decide (1 ≤ n ∧ n ≤ 4)) && decide (1 ≤ (s.Cols.length : Int) ∧ (s.Cols.length : Int) ≤ 3)

def sz_Schema (x : Schema) : Int := sz_IntS x.Cols
def Schema_b (x : Schema) : Prop := IntS_b x.Cols
theorem sz_Schema_0 (x : Schema) : 0 ≤ sz_Schema x := by unfold sz_Schema; exact by have := sz_IntS_0 x.Cols;  omega
def Schema_r (x : Schema) : Prop := IntS_r x.Cols
def sz_Row (x : Row) : Int := sz_IntS x.Cells
def Row_b (x : Row) : Prop := IntS_b x.Cells
theorem sz_Row_0 (x : Row) : 0 ≤ sz_Row x := by unfold sz_Row; exact by have := sz_IntS_0 x.Cells;  omega
def Row_r (x : Row) : Prop := (-9223372036854775808 ≤ x.Id ∧ x.Id ≤ 9223372036854775807) ∧ IntS_r x.Cells
def sz_RowS (l : List Row) : Int := l.length + (l.map sz_Row).sum
def RowS_b (l : List Row) : Prop := l.length ≤ 9223372036854775807 ∧ ∀ x ∈ l, Row_b x
theorem sz_RowS_0 (l : List Row) : 0 ≤ sz_RowS l := by have := sum_nonneg sz_Row_0 l; unfold sz_RowS; omega
def RowS_r (l : List Row) : Prop := ∀ x ∈ l, Row_r x
def rowB (s : Schema) (t : Int) (r : Row) : Bool :=
  schemaB s && decide (0 ≤ t ∧ t ≤ (s.Cols.length : Int) - 1) && decide (1 ≤ r.Id ∧ r.Id ≤ 999) && decide ((r.Cells.length : Int) = s.Cols.getD t.toNat 0) && r.Cells.all fun n => decide (-1000000000 ≤ n ∧ n ≤ 1000000000)
def rowsB (s : Schema) (t : Int) (rows : List Row) : Bool :=
  allFrom (fun i r => rowB s t r && !(decide (0 < i) && decide (r.Id ≤ (rows.getD (i - 1) default).Id))) rows 0 && (schemaB s && decide (0 ≤ t ∧ t ≤ (s.Cols.length : Int) - 1) && decide (rows.length ≤ 24))
theorem schema_len {s : Schema} (h : schemaB s = true) : s.Cols.length ≤ 3 := by
  unfold schemaB at h
  rw [Bool.and_eq_true] at h
  have := of_decide_eq_true h.2
  omega
theorem rows_row {s : Schema} {t : Int} {rows : List Row} (h : rowsB s t rows = true) {i : Nat} {r : Row} (hr : rows[i]? = some r) : rowB s t r = true := by
  unfold rowsB at h
  rw [Bool.and_eq_true] at h
  have := allFrom_iff.1 h.1 i r hr
  rw [Bool.and_eq_true] at this
  exact this.1
theorem rows_len {s : Schema} {t : Int} {rows : List Row} (h : rowsB s t rows = true) : rows.length ≤ 24 := by
  unfold rowsB at h
  simp only [Bool.and_eq_true, decide_eq_true_eq] at h
  exact h.2.2
theorem row_cells {s : Schema} {t : Int} {r : Row} (h : rowB s t r = true) : (r.Cells.length : Int) = s.Cols.getD t.toNat 0 := by
  unfold rowB at h
  simp only [Bool.and_eq_true, decide_eq_true_eq] at h
  exact h.1.2

def sz_RowSS (l : List (List Row)) : Int := l.length + (l.map sz_RowS).sum
def RowSS_b (l : List (List Row)) : Prop := l.length ≤ 9223372036854775807 ∧ ∀ x ∈ l, RowS_b x
theorem sz_RowSS_0 (l : List (List Row)) : 0 ≤ sz_RowSS l := by have := sum_nonneg sz_RowS_0 l; unfold sz_RowSS; omega
def RowSS_r (l : List (List Row)) : Prop := ∀ x ∈ l, RowS_r x
def sz_Store (x : Store) : Int := sz_Schema x.Schema + sz_RowSS x.Tables
def Store_b (x : Store) : Prop := Schema_b x.Schema ∧ RowSS_b x.Tables
theorem sz_Store_0 (x : Store) : 0 ≤ sz_Store x := by unfold sz_Store; exact by have := sz_Schema_0 x.Schema; have := sz_RowSS_0 x.Tables;  omega
def Store_r (x : Store) : Prop := Schema_r x.Schema ∧ (-9223372036854775808 ≤ x.Version ∧ x.Version ≤ 9223372036854775807) ∧ RowSS_r x.Tables
def storeB (s : Store) : Bool :=
  schemaB s.Schema && decide (0 ≤ s.Version ∧ s.Version ≤ 100000) && decide (s.Tables.length = s.Schema.Cols.length) && allFrom (fun i rows => rowsB s.Schema (i : Int) rows) s.Tables 0
theorem store_table {s : Store} (h : storeB s = true) {i : Nat} {rows : List Row} (hr : s.Tables[i]? = some rows) : rowsB s.Schema i rows = true := by
  unfold storeB at h
  rw [Bool.and_eq_true] at h
  exact allFrom_iff.1 h.2 i rows hr
theorem store_len {s : Store} (h : storeB s = true) : s.Tables.length = s.Schema.Cols.length ∧ schemaB s.Schema = true := by
  unfold storeB at h
  simp only [Bool.and_eq_true, decide_eq_true_eq] at h
  exact ⟨h.1.2, h.1.1.1⟩

def rowAtF : List Row → Int → Int → Int
  | [], _, _ => -1
  | r :: l, id, i => if r.Id = id then i else rowAtF l id (i + 1)

theorem row_len {r : Row} {B : Int} (h : sz_Row r ≤ B) : (r.Cells.length : Int) ≤ B := by unfold sz_Row sz_IntS at h; exact h

def isId (id : Int) (r : Row) : Bool := decide (r.Id = id)
def isGt (id : Int) (r : Row) : Bool := decide (id < r.Id)
def idxI (p : Row → Bool) (l : List Row) : Int := if l.findIdx p < l.length then (l.findIdx p : Int) else -1
def rowDropF (l : List Row) (id : Int) : List Row := l.eraseIdx (l.findIdx (isId id))
def rowPutF (l : List Row) (r : Row) : List Row := if l.findIdx (isId r.Id) < l.length then l.set (l.findIdx (isId r.Id)) r else l.take (l.findIdx (isGt r.Id)) ++ [r] ++ l.drop (l.findIdx (isGt r.Id))
theorem rowAtF_idx : ∀ (l : List Row) (id i : Int), rowAtF l id i = if l.findIdx (isId id) < l.length then i + (l.findIdx (isId id) : Int) else -1
  | [], _, _ => rfl
  | r :: l, id, i => by
    rw [rowAtF, rowAtF_idx l id (i + 1), List.findIdx_cons]
    by_cases e : r.Id = id
    · rw [if_pos e, isId, decide_eq_true e]; simp
    · rw [if_neg e, isId, decide_eq_false e]
      simp only [cond_false, List.length_cons]
      by_cases h : l.findIdx (isId id) < l.length
      · rw [if_pos h, if_pos (by omega)]; omega
      · rw [if_neg h, if_neg (by omega)]
theorem rowAt_0 (l : List Row) (id : Int) : rowAtF l id 0 = idxI (isId id) l := by
  rw [rowAtF_idx, idxI]
  split
  · omega
  · rfl
theorem idxI_nn {p : Row → Bool} {l : List Row} : 0 ≤ idxI p l ↔ l.findIdx p < l.length := by
  unfold idxI
  split
  · simp_all
  · simp_all
theorem idxI_pos {p : Row → Bool} {l : List Row} (h : l.findIdx p < l.length) : idxI p l = (l.findIdx p : Int) := if_pos h
theorem idxI_neg {p : Row → Bool} {l : List Row} (h : ¬ l.findIdx p < l.length) : idxI p l = -1 := if_neg h
theorem sum_append {α : Type} (s : α → Int) (a b : List α) : ((a ++ b).map s).sum = (a.map s).sum + (b.map s).sum := by rw [List.map_append, List.sum_append]
theorem sum_take_drop {α : Type} (s : α → Int) (l : List α) (k : Nat) : (l.map s).sum = ((l.take k).map s).sum + ((l.drop k).map s).sum := by rw [← sum_append, List.take_append_drop]
theorem sum_set {α : Type} {s : α → Int} (hs : ∀ x, 0 ≤ s x) (x : α) : ∀ (l : List α) (i : Nat), ((l.set i x).map s).sum ≤ (l.map s).sum + s x
  | [], i => by simp [hs x]
  | a :: l, 0 => by simp only [List.set_cons_zero, List.map_cons, List.sum_cons]; have := hs a; omega
  | a :: l, i + 1 => by simp only [List.set_cons_succ, List.map_cons, List.sum_cons]; have := sum_set hs x l i; omega
theorem sum_erase {α : Type} {s : α → Int} (hs : ∀ x, 0 ≤ s x) : ∀ (l : List α) (i : Nat), ((l.eraseIdx i).map s).sum ≤ (l.map s).sum
  | [], i => by simp
  | a :: l, 0 => by simp only [List.eraseIdx_cons_zero, List.map_cons, List.sum_cons]; have := hs a; omega
  | a :: l, i + 1 => by simp only [List.eraseIdx_cons_succ, List.map_cons, List.sum_cons]; have := sum_erase hs l i; omega
theorem rowDrop_len (l : List Row) (id : Int) : (rowDropF l id).length ≤ l.length := by unfold rowDropF; rw [List.length_eraseIdx]; split <;> omega
theorem rowDrop_sz (l : List Row) (id : Int) : sz_RowS (rowDropF l id) ≤ sz_RowS l := by
  have h1 := rowDrop_len l id
  have h2 := sum_erase sz_Row_0 l (l.findIdx (isId id))
  unfold sz_RowS
  unfold rowDropF at *
  omega
theorem rowPut_len (l : List Row) (r : Row) : (rowPutF l r).length ≤ l.length + 1 := by
  unfold rowPutF
  split
  · rw [List.length_set]; omega
  · simp; omega
theorem rowPut_sz (l : List Row) (r : Row) : sz_RowS (rowPutF l r) ≤ sz_RowS l + 1 + sz_Row r := by
  have h1 := rowPut_len l r
  unfold sz_RowS
  have h2 : ((rowPutF l r).map sz_Row).sum ≤ (l.map sz_Row).sum + sz_Row r := by
    unfold rowPutF
    split
    · exact sum_set sz_Row_0 r l _
    · rw [sum_append, sum_append, sum_take_drop sz_Row l (l.findIdx (isGt r.Id))]
      simp
      omega
  omega
theorem mem_rowDrop {l : List Row} {id : Int} {x : Row} (h : x ∈ rowDropF l id) : x ∈ l := List.mem_of_mem_eraseIdx h
theorem mem_rowPut {l : List Row} {r x : Row} (h : x ∈ rowPutF l r) : x = r ∨ x ∈ l := by
  unfold rowPutF at h
  split at h
  · rcases List.mem_or_eq_of_mem_set h with h | h
    · exact .inr h
    · exact .inl h
  · rcases List.mem_append.1 h with h | h
    · rcases List.mem_append.1 h with h | h
      · exact .inr (List.mem_of_mem_take h)
      · exact .inl (List.mem_singleton.1 h)
    · exact .inr (List.mem_of_mem_drop h)
theorem rowDrop_b {l : List Row} (h : RowS_b l) (id : Int) : RowS_b (rowDropF l id) := ⟨by have := rowDrop_len l id; have := h.1; omega, fun x hx => h.2 x (mem_rowDrop hx)⟩
theorem rowPut_b {l : List Row} (h : RowS_b l) (hl : l.length < 9223372036854775807) {r : Row} (hr : Row_b r) : RowS_b (rowPutF l r) := ⟨by have := rowPut_len l r; omega, fun x hx => by
  rcases mem_rowPut hx with rfl | hx
  · exact hr
  · exact h.2 x hx⟩
theorem findIdx_take {α : Type} (p : α → Bool) (l : List α) {i : Nat} {x : α} (hx : l[i]? = some x) : (l.take (i + 1)).findIdx p = if (l.take i).findIdx p < i then (l.take i).findIdx p else if p x then i else i + 1 := by
  have hi := at_lt hx
  have hl : (l.take i).length = i := by rw [List.length_take]; omega
  rw [take_snoc hx, List.findIdx_append, hl]
  by_cases h : (l.take i).findIdx p < i
  · rw [if_pos h, if_pos h]
  · rw [if_neg h, if_neg h]
    cases hp : p x <;> simp [List.findIdx_cons, hp] <;> omega

theorem rowS_of_sz {l : List Row} (h : sz_RowS l ≤ 9223372036854775807) : RowS_b l := by
  unfold sz_RowS at h
  have p := sum_nonneg sz_Row_0 l
  exact ⟨by omega, fun x hx => by
    have := sum_mem sz_Row_0 hx
    have h2 : sz_Row x ≤ 9223372036854775807 := by omega
    unfold sz_Row sz_IntS at h2
    unfold Row_b IntS_b
    omega⟩
theorem store_of_sz {s : Store} (h : sz_Store s ≤ 9223372036854775807) : Store_b s := by
  unfold sz_Store sz_RowSS at h
  have p1 := sz_Schema_0 s.Schema
  have p2 := sum_nonneg sz_RowS_0 s.Tables
  refine ⟨?_, by omega, fun x hx => rowS_of_sz (by have := sum_mem sz_RowS_0 hx; omega)⟩
  have h2 : sz_Schema s.Schema ≤ 9223372036854775807 := by omega
  unfold sz_Schema sz_IntS at h2
  unfold Schema_b IntS_b
  omega
theorem sum_le {α : Type} {s : α → Int} {B : Int} : ∀ {l : List α}, (∀ x ∈ l, s x ≤ B) → (l.map s).sum ≤ l.length * B
  | [], _ => by simp
  | x :: l, h => by
    have h1 := h x (List.mem_cons_self ..)
    have h2 := sum_le (l := l) fun y hy => h y (List.mem_cons_of_mem _ hy)
    simp only [List.map_cons, List.sum_cons, List.length_cons]
    rw [show ((l.length + 1 : Nat) : Int) * B = l.length * B + B by rw [Int.natCast_add, Int.add_mul]; simp]
    omega
theorem rowB_sz {s : Schema} {t : Int} {r : Row} (h : rowB s t r = true) : sz_Row r ≤ 4 := by
  have hc := row_cells h
  unfold rowB at h
  simp only [Bool.and_eq_true, decide_eq_true_eq] at h
  obtain ⟨⟨⟨⟨hs, ht⟩, _⟩, _⟩, _⟩ := h
  unfold schemaB at hs
  rw [Bool.and_eq_true, List.all_eq_true] at hs
  have hlt : t.toNat < s.Cols.length := by omega
  have := of_decide_eq_true (hs.1 _ (List.getElem_mem hlt))
  rw [List.getD_eq_getElem?_getD, List.getElem?_eq_getElem hlt, Option.getD_some] at hc
  unfold sz_Row sz_IntS
  omega
theorem rowsB_sz {s : Schema} {t : Int} {rows : List Row} (h : rowsB s t rows = true) : sz_RowS rows ≤ 120 := by
  have hl := rows_len h
  have := sum_le (s := sz_Row) (B := 4) (l := rows) fun x hx => by
    obtain ⟨i, hi⟩ := List.getElem?_of_mem hx
    exact rowB_sz (rows_row h hi)
  unfold sz_RowS
  omega
theorem store_small {s : Store} (h : storeB s = true) : Store_b s ∧ sz_Store s ≤ 1000 := by
  have hz : sz_Store s ≤ 1000 := by
    obtain ⟨hl, hs⟩ := store_len h
    have h3 := schema_len hs
    have := sum_le (s := sz_RowS) (B := 120) (l := s.Tables) fun x hx => by
      obtain ⟨i, hi⟩ := List.getElem?_of_mem hx
      exact rowsB_sz (store_table h hi)
    unfold sz_Store sz_RowSS sz_Schema sz_IntS
    omega
  exact ⟨store_of_sz (by omega), hz⟩

theorem laws_sameStore_l1 (a b : Store) (t : Nat) (x y : List Row) (hx : a.Tables[t]? = some x) (hy : b.Tables[t]? = some y) (hl : x.length = y.length) (bx : ∀ r ∈ x, Row_b r) (by_ : ∀ r ∈ y, Row_b r) (K : Unit → Option Bool) : ∀ (k i : Nat), i ≤ x.length → x.length < i + k → x.length < 9223372036854775807 →
    laws_sameStore.l1 a b t K k i = bif decide (x.drop i = y.drop i) then K () else some false := by
  intro k
  induction k with
  | zero => intro i h1 h2; omega
  | succ k ih =>
    intro i h1 h2 h3
    rw [laws_sameStore.l1, getO_nat, hx, Option.bind_some, lenI_eq]
    by_cases hi : i < x.length
    · rw [decide_eq_true (by omega), cond_true, getO_nat, List.getElem?_eq_getElem hi, Option.bind_some, getO_nat, hy, Option.bind_some, getO_nat, List.getElem?_eq_getElem (by omega), Option.bind_some, w64_succ (by omega)]
      have e1 : x.drop i = x[i] :: x.drop (i + 1) := List.drop_eq_getElem_cons hi
      have e2 : y.drop i = y[i] :: y.drop (i + 1) := List.drop_eq_getElem_cons (by omega)
      have p1 := bx _ (List.getElem_mem hi)
      have p2 := by_ _ (List.getElem_mem (show i < y.length by omega))
      rw [e1, e2]
      generalize x[i] = r1 at *
      generalize y[i] = r2 at *
      by_cases c : r1.Id = r2.Id
      · rw [decide_eq_false (by simpa using c), show bo3 false false true = true from rfl, gd_true, laws_sameInts_eq _ _ p1 p2, Option.bind_some]
        by_cases c2 : r1.Cells = r2.Cells
        · rw [decide_eq_true c2, show bo3 false true (bo3 true false true) = false from rfl, cond_false, ih (i + 1) (by omega) (by omega) h3]
          have er : r1 = r2 := by cases r1; cases r2; simp_all
          rw [er]
          congr 1
          exact decide_eq_decide.2 ⟨fun h => by rw [h], fun h => (List.cons.inj h).2⟩
        · rw [decide_eq_false c2, show bo3 false true (bo3 false false true) = true from rfl, cond_true, decide_eq_false (fun h => c2 (by rw [(List.cons.inj h).1])), cond_false]
      · rw [decide_eq_true (by simpa using c), show bo3 true false true = false from rfl, gd_false, Option.bind_some, decide_eq_false (p := r1 :: _ = _) (fun h => c (by rw [(List.cons.inj h).1])), cond_false]
        rfl
    · rw [decide_eq_false (by omega), cond_false, List.drop_eq_nil_of_le (by omega), List.drop_eq_nil_of_le (by omega)]
      rfl
theorem laws_sameStore_l0 (a b : Store) (hl : a.Tables.length = b.Tables.length) (ha : RowSS_b a.Tables) (hb : RowSS_b b.Tables) (hs : ∀ t ∈ a.Tables, t.length ≤ 999) : ∀ (k i : Nat), i ≤ a.Tables.length → a.Tables.length < i + k → a.Tables.length < 9223372036854775807 →
    laws_sameStore.l0 a b k i = some (decide (a.Tables.drop i = b.Tables.drop i)) := by
  intro k
  induction k with
  | zero => intro i h1 h2; omega
  | succ k ih =>
    intro i h1 h2 h3
    rw [laws_sameStore.l0, lenI_eq]
    by_cases hi : i < a.Tables.length
    · have hx : a.Tables[i]? = some a.Tables[i] := List.getElem?_eq_getElem hi
      have hy : b.Tables[i]? = some b.Tables[i] := List.getElem?_eq_getElem (by omega)
      have e1 : a.Tables.drop i = a.Tables[i] :: a.Tables.drop (i + 1) := List.drop_eq_getElem_cons hi
      have e2 : b.Tables.drop i = b.Tables[i] :: b.Tables.drop (i + 1) := List.drop_eq_getElem_cons (by omega)
      have p1 := ha.2 _ (List.getElem_mem hi)
      have p2 := hb.2 _ (List.getElem_mem (show i < b.Tables.length by omega))
      have p3 := hs _ (List.getElem_mem hi)
      rw [e1, e2]
      generalize a.Tables[i] = x at *
      generalize b.Tables[i] = y at *
      rw [decide_eq_true (by omega), cond_true, joinK_eq, getO_nat, hx, Option.bind_some, getO_nat, hy, Option.bind_some, lenI_eq, lenI_eq]
      by_cases c : x.length = y.length
      · have := laws_sameStore_l1 a b i x y hx hy c p1.2 p2.2 (fun _ => laws_sameStore.l0 a b k (w64 ((i : Int) + 1))) 1000 0 (by omega) (by omega) (by omega)
        rw [decide_eq_false (by omega), cond_false]
        refine (show _ = _ from this).trans ?_
        rw [List.drop_zero, List.drop_zero, w64_succ (by omega), ih (i + 1) (by omega) (by omega) h3]
        by_cases c2 : x = y
        · rw [decide_eq_true c2, cond_true, c2]
          exact congrArg some (decide_eq_decide.2 ⟨fun h => by rw [h], fun h => (List.cons.inj h).2⟩)
        · rw [decide_eq_false c2, cond_false, decide_eq_false (fun h => c2 (List.cons.inj h).1)]
      · rw [decide_eq_true (by omega), cond_true, decide_eq_false (fun h => c (by rw [(List.cons.inj h).1]))]
    · rw [decide_eq_false (by omega), cond_false, List.drop_eq_nil_of_le (by omega), List.drop_eq_nil_of_le (by omega)]
      rfl
theorem laws_sameStore_eq (a b : Store) (ha : Store_b a) (hb : Store_b b) (hl : a.Tables.length < 9223372036854775807) (hs : ∀ t ∈ a.Tables, t.length ≤ 999) : laws_sameStore.f a b = some (decide (a = b)) := by
  unfold laws_sameStore.f
  rw [lenI_eq, lenI_eq]
  by_cases c1 : a.Version = b.Version
  · by_cases c2 : a.Tables.length = b.Tables.length
    · rw [decide_eq_false (by simpa using c1), decide_eq_false (p := (a.Tables.length : Int) ≠ _) (by omega), show bo3 (bo3 false true false) false true = true from rfl, gd_true, laws_sameInts_eq _ _ ha.1 hb.1, Option.bind_some]
      by_cases c3 : a.Schema.Cols = b.Schema.Cols
      · rw [decide_eq_true c3, show bo3 (bo3 false true false) true (bo3 true false true) = false from rfl, cond_false]
        have := laws_sameStore_l0 a b c2 ha.2 hb.2 hs (((a.Tables.length : Int) - 0).toNat + 1) 0 (by omega) (by omega) hl
        refine (show _ = _ from this).trans ?_
        rw [List.drop_zero, List.drop_zero]
        refine congrArg some (decide_eq_decide.2 ⟨fun h => ?_, fun h => by rw [h]⟩)
        cases a with | mk sa va ta => cases b with | mk sb vb tb => cases sa; cases sb; simp_all
      · rw [decide_eq_false c3, show bo3 (bo3 false true false) true (bo3 false false true) = true from rfl, cond_true, decide_eq_false (fun h => c3 (by rw [h]))]
    · rw [decide_eq_false (by simpa using c1), decide_eq_true (p := (a.Tables.length : Int) ≠ _) (by omega), show bo3 (bo3 false true true) false true = false from rfl, gd_false, Option.bind_some, decide_eq_false (p := a = b) (fun h => c2 (by rw [h]))]
      rfl
  · rw [decide_eq_true (by simpa using c1), decide_eq_false (p := a = b) (fun h => c1 (by rw [h]))]
    cases decide ((a.Tables.length : Int) ≠ b.Tables.length) <;> rfl
theorem sameStore_ok {a b : Store} (h : storeB a = true) (hb : Store_b b) : laws_sameStore.f a b = some (decide (a = b)) := by
  obtain ⟨h1, h2⟩ := store_small h
  have h3 := (store_len h).1
  have h4 := schema_len (store_len h).2
  refine laws_sameStore_eq a b h1 hb (by omega) fun t ht => ?_
  obtain ⟨i, hi⟩ := List.getElem?_of_mem ht
  have := rows_len (store_table h hi)
  omega

theorem impl_within_eq (x y z : Int) : impl_within.f x y z = some (decide (y ≤ x ∧ x ≤ z)) := by
  unfold impl_within.f
  rw [bo3_and, Bool.decide_and]

theorem impl_SchemaOk_eq (s : Schema) (h : Schema_b s) : impl_SchemaOk.f s = some (schemaB s) := by
  have hl : s.Cols.length ≤ 9223372036854775807 := h
  unfold impl_SchemaOk.f joinK
  refine (loop_all (f := impl_SchemaOk.l0 s _) (l := s.Cols) (fun _ n => decide (1 ≤ n ∧ n ≤ 4)) (some false) (some (decide (1 ≤ (s.Cols.length : Int) ∧ (s.Cols.length : Int) ≤ 3))) (fun k i x hx => ?_) (fun k i hi => ?_) _ 0 (by omega) (by (try simp only [lenI_eq]); omega)).trans ?_
  · have hi := at_lt hx
    rw [impl_SchemaOk.l0, lenI_eq, decide_eq_true (by omega), cond_true, getO_nat, hx, Option.bind_some, impl_within_eq, Option.bind_some, bo3_not, w64_succ (by omega)]
    cases decide (1 ≤ x ∧ x ≤ 4) <;> rfl
  · rw [impl_SchemaOk.l0, lenI_eq, decide_eq_false (by omega), cond_false, impl_within_eq, Option.bind_some]
  · rw [allFrom_zero, schemaB]
    cases s.Cols.all fun n => decide (1 ≤ n ∧ n ≤ 4) <;> rfl

theorem impl_isVersion_eq (v : Int) : impl_isVersion.f v = some (decide (0 ≤ v ∧ v ≤ 100000)) := by
  unfold impl_isVersion.f
  rw [impl_within_eq, Option.bind_some]

theorem impl_hasTable_eq (s : Schema) (t : Int) (h : Schema_b s) : impl_hasTable.f s t = some (decide (0 ≤ t ∧ t ≤ (s.Cols.length : Int) - 1)) := by
  have hl : s.Cols.length ≤ 9223372036854775807 := h
  unfold impl_hasTable.f
  rw [lenI_eq, w64_id (by omega), impl_within_eq, Option.bind_some]

theorem impl_isNum_eq (n : Int) : impl_isNum.f n = some (decide (-1000000000 ≤ n ∧ n ≤ 1000000000)) := by
  unfold impl_isNum.f
  rw [impl_within_eq, Option.bind_some]

theorem impl_RowOk_eq (s : Schema) (t : Int) (r : Row) (hs : Schema_b s) (hr : Row_b r) : impl_RowOk.f s t r = some (rowB s t r) := by
  have hrl : r.Cells.length ≤ 9223372036854775807 := hr
  unfold impl_RowOk.f rowB
  simp only [joinK]
  refine (loop_all (f := impl_RowOk.l0 r _) (l := r.Cells) (fun _ n => decide (-1000000000 ≤ n ∧ n ≤ 1000000000)) (some false) (some (schemaB s && decide (0 ≤ t ∧ t ≤ (s.Cols.length : Int) - 1) && decide (1 ≤ r.Id ∧ r.Id ≤ 999) && decide ((r.Cells.length : Int) = s.Cols.getD t.toNat 0))) (fun k i x hx => ?_) (fun k i hi => ?_) _ 0 (by omega) (by (try simp only [lenI_eq]); omega)).trans ?_
  · have hi := at_lt hx
    rw [impl_RowOk.l0, lenI_eq, decide_eq_true (by omega), cond_true, getO_nat, hx, Option.bind_some, impl_isNum_eq, Option.bind_some, bo3_not, w64_succ (by omega)]
    cases decide (-1000000000 ≤ x ∧ x ≤ 1000000000) <;> rfl
  · rw [impl_RowOk.l0, lenI_eq, decide_eq_false (by omega), cond_false, impl_SchemaOk_eq _ hs, Option.bind_some, impl_hasTable_eq _ _ hs, impl_within_eq]
    cases schemaB s with
    | false => rfl
    | true =>
      by_cases d : 0 ≤ t ∧ t ≤ (s.Cols.length : Int) - 1
      case neg => rw [decide_eq_false d]; rfl
      rw [decide_eq_true d, getO_Int d]
      simp only [bo3_F, bo3_T, gd_true, Option.bind_some, Bool.true_and, gd_of, cond_true]
      by_cases d3 : (r.Cells.length : Int) = s.Cols.getD t.toNat 0
      · simp [d3, bo3]
      · simp [d3, bo3]; exact Bool.and_comm _ _
  · rw [allFrom_zero]
    cases r.Cells.all fun n => decide (-1000000000 ≤ n ∧ n ≤ 1000000000) <;> simp

theorem impl_RowsOk_eq (s : Schema) (t : Int) (rows : List Row) (hs : Schema_b s) (hr : RowS_b rows) : impl_RowsOk.f s t rows = some (rowsB s t rows) := by
  have hl : s.Cols.length ≤ 9223372036854775807 := hs
  obtain ⟨hrl, hr2⟩ := hr
  unfold impl_RowsOk.f rowsB
  simp only [joinK]
  refine (loop_all (f := impl_RowsOk.l0 s t rows _) (l := rows) (fun i r => rowB s t r && !(decide (0 < i) && decide (r.Id ≤ (rows.getD (i - 1) default).Id))) (some false) (some (schemaB s && decide (0 ≤ t ∧ t ≤ (s.Cols.length : Int) - 1) && decide (rows.length ≤ 24))) (fun k i x hx => ?_) (fun k i hi => ?_) _ 0 (by omega) (by (try simp only [lenI_eq]); omega)).trans ?_
  · have hi := at_lt hx
    rw [impl_RowsOk.l0, lenI_eq, decide_eq_true (by omega), cond_true, getO_nat, hx, Option.bind_some, impl_RowOk_eq _ _ _ hs (hr2 x (List.mem_of_getElem? hx)), Option.bind_some, prev_step hx (by omega), Option.bind_some, w64_succ (by omega)]
    rw [show decide (0 < (i : Int)) = decide (0 < i) from by simp]
    cases rowB s t x <;> cases decide (0 < i) <;> (try rfl)
    simp only [bo3_F, bo3_T, Bool.true_and, cond_true]
    by_cases e : x.Id ≤ (rows.getD (i - 1) default).Id
    · simp [e]
    · simp [e]
  · rw [impl_RowsOk.l0, lenI_eq, decide_eq_false (by omega), cond_false, impl_SchemaOk_eq _ hs, Option.bind_some]
    first | rw [impl_hasTable_eq _ _ hs] | rw [lenI_eq s.Cols, w64_id (by omega), spec_l1In_eq]
    have e24 : decide ((rows.length : Int) ≤ 24) = decide (rows.length ≤ 24) := by rw [decide_eq_decide]; omega
    simp only [lenI_eq, e24]
    generalize decide (0 ≤ t ∧ t ≤ (s.Cols.length : Int) - 1) = b1
    generalize decide (rows.length ≤ 24) = b2
    cases schemaB s <;> cases b1 <;> cases b2 <;> rfl
  · cases allFrom (fun i r => rowB s t r && !(decide (0 < i) && decide (r.Id ≤ (rows.getD (i - 1) default).Id))) rows 0 <;> rfl

theorem impl_version (v : Int) : impl_isVersion.f v = some (decide (0 ≤ v ∧ v ≤ 100000)) := impl_isVersion_eq v

theorem impl_StoreOk_eq (s : Store) (hb : Store_b s) : impl_StoreOk.f s = some (storeB s) := by
  obtain ⟨hs, ht, ht2⟩ := hb
  have hl : s.Schema.Cols.length ≤ 9223372036854775807 := hs
  unfold impl_StoreOk.f storeB
  rw [impl_SchemaOk_eq _ hs, Option.bind_some, impl_version]
  cases schemaB s.Schema with
  | false => rfl
  | true =>
    by_cases d : 0 ≤ s.Version ∧ s.Version ≤ 100000
    case neg => rw [decide_eq_false d]; rfl
    rw [decide_eq_true d]
    by_cases d2 : s.Tables.length = s.Schema.Cols.length
    case neg =>
      rw [show decide (lenI s.Tables ≠ lenI s.Schema.Cols) = true from decide_eq_true (by simp only [lenI_eq]; omega), decide_eq_false d2]
      rfl
    rw [show decide (lenI s.Tables ≠ lenI s.Schema.Cols) = false from decide_eq_false (by simp only [lenI_eq]; omega), decide_eq_true d2]
    simp only [bo3_F, bo3_T, gd_true, Option.bind_some, Bool.true_and, cond_false]
    refine (loop_all (f := impl_StoreOk.l0 s) (l := s.Tables) (fun i rows => rowsB s.Schema (i : Int) rows) (some false) (some true) (fun k i x hx => ?_) (fun k i hi => ?_) _ 0 (by omega) (by (try simp only [lenI_eq]); omega)).trans ?_
    · have hi := at_lt hx
      rw [impl_StoreOk.l0, lenI_eq, decide_eq_true (by omega), cond_true, getO_nat, hx, Option.bind_some, impl_RowsOk_eq _ _ _ hs (ht2 x (List.mem_of_getElem? hx)), Option.bind_some, bo3_not, w64_succ (by omega)]
      cases rowsB s.Schema i x <;> rfl
    · rw [impl_StoreOk.l0, lenI_eq, decide_eq_false (by omega), cond_false]
    · cases allFrom (fun i rows => rowsB s.Schema (i : Int) rows) s.Tables 0 <;> rfl

/-- A cursor that is right. -/
def CI (b : List Int) (i : Int) : Prop := 0 ≤ i ∧ i ≤ b.length ∧ (b.length : Int) ≤ 1048576
theorem and_le (x : Int) (m : Nat) (hm : m < 9223372036854775808) : 0 ≤ Ls.ar .and .i64 x m ∧ Ls.ar .and .i64 x m ≤ m := by
  show 0 ≤ IntKind.i64.wrap _ ∧ IntKind.i64.wrap _ ≤ _
  have h : (BitVec.ofInt IntKind.i64.bits x &&& BitVec.ofInt IntKind.i64.bits m).toNat ≤ m := by
    rw [BitVec.toNat_and]
    refine Nat.le_trans Nat.and_le_right ?_
    rw [BitVec.toNat_ofInt]
    have : ((m : Int) % (2 ^ IntKind.i64.bits : Nat)).toNat = m := by
      rw [Int.emod_eq_of_lt (by omega) (by show (m : Int) < ((2 ^ 64 : Nat) : Int); omega)]
      omega
    omega
  rw [IntKind.wrap_i64]
  omega
theorem l1Byte_ok {b : List Int} {i : Int} (h : Int) (hc : CI b i) : ∃ i' h' x, spec_l1Byte.f (l1Cur.mk b i h) = some (l1Cur.mk b i' h', x) ∧ CI b i' ∧ 0 ≤ x ∧ x ≤ 255 := by
  obtain ⟨h0, h1, h2⟩ := hc
  unfold spec_l1Byte.f
  dsimp only
  by_cases hi : i < (b.length : Int)
  · rw [lenI_eq, decide_eq_true hi, cond_true, getO_pos h0, List.getElem?_eq_getElem (by omega), Option.bind_some]
    exact ⟨_, _, _, rfl, ⟨by rw [w64_id (by omega)]; omega, by rw [w64_id (by omega)]; omega, h2⟩, and_le _ 255 (by omega)⟩
  · rw [lenI_eq, decide_eq_false hi, cond_false]
    exact ⟨_, _, _, rfl, ⟨h0, h1, h2⟩, and_le _ 255 (by omega)⟩
theorem tmod_lt {x n : Int} (hx : 0 ≤ x) (hn : 0 < n) : 0 ≤ Int.tmod x n ∧ Int.tmod x n < n := ⟨Int.tmod_nonneg _ hx, Int.tmod_lt_of_pos _ hn⟩
theorem l1Below_ok {b : List Int} {i : Int} (h : Int) (n : Int) (hc : CI b i) : ∃ i' h' x, spec_l1Below.f (l1Cur.mk b i h) n = some (l1Cur.mk b i' h', x) ∧ CI b i' ∧ 0 ≤ x ∧ (0 < n → x < n) ∧ (n ≤ 0 → x = 0) := by
  unfold spec_l1Below.f
  by_cases h0 : n ≤ 0
  · rw [decide_eq_true h0, cond_true]
    exact ⟨_, _, _, rfl, hc, by omega, fun _ => by omega, fun _ => rfl⟩
  have hz : nzO n = some () := by unfold nzO; rw [if_pos (by omega)]
  rw [decide_eq_false h0, cond_false]
  obtain ⟨i1, h1, x1, e1, k1, l1, u1⟩ := l1Byte_ok h hc
  by_cases hn : n ≤ 256
  · rw [decide_eq_true hn, cond_true, e1, Option.bind_some, hz, Option.bind_some]
    have := tmod_lt (n := n) l1 (by omega)
    exact ⟨_, _, _, rfl, k1, this.1, fun _ => this.2, fun _ => by omega⟩
  · obtain ⟨i2, h2, x2, e2, k2, l2, u2⟩ := l1Byte_ok h1 k1
    obtain ⟨i3, h3, x3, e3, k3, l3, u3⟩ := l1Byte_ok h2 k2
    obtain ⟨i4, h4, x4, e4, k4, l4, u4⟩ := l1Byte_ok h3 k3
    rw [decide_eq_false hn, cond_false, e1, Option.bind_some]
    dsimp only
    rw [e2, Option.bind_some]
    dsimp only
    rw [e3, Option.bind_some]
    dsimp only
    rw [e4, Option.bind_some, hz, Option.bind_some]
    dsimp only
    rw [w64_id (x := x1 * 16777216) (by omega), w64_id (x := x2 * 65536) (by omega), w64_id (x := x3 * 256) (by omega), w64_id (x := x1 * 16777216 + x2 * 65536) (by omega), w64_id (x := x1 * 16777216 + x2 * 65536 + x3 * 256) (by omega), w64_id (by omega)]
    have := tmod_lt (n := n) (show 0 ≤ x1 * 16777216 + x2 * 65536 + x3 * 256 + x4 by omega) (by omega)
    exact ⟨_, _, _, rfl, k4, this.1, fun _ => this.2, fun _ => by omega⟩
theorem l1New_ok (l : List Int) (hl : (l.length : Int) ≤ 1048576) : ∃ h, spec_l1New.f l = some (l1Cur.mk l 0 h) ∧ CI l 0 := by
  have key : ∀ (k i : Nat) (h : Int), i ≤ l.length → l.length < i + k → ∃ h', spec_l1New.l0 l k h i = some (l1Cur.mk l 0 h') := by
    intro k
    induction k with
    | zero => intro i h h1 h2; omega
    | succ k ih =>
      intro i h h1 h2
      rw [spec_l1New.l0]
      by_cases c : bo3 (decide ((i : Int) < lenI l)) (decide ((i : Int) < 4000)) false = true
      · have hi : i < l.length := by
          rw [bo3_and, Bool.and_eq_true] at c
          have := of_decide_eq_true c.1
          rw [lenI_eq] at this
          omega
        rw [c, cond_true, getO_nat, List.getElem?_eq_getElem hi, Option.bind_some, w64_succ (by omega)]
        exact ih (i + 1) _ (by omega) (by omega)
      · rw [Bool.not_eq_true] at c
        rw [c, cond_false]
        exact ⟨_, rfl⟩
  unfold spec_l1New.f
  obtain ⟨h, e⟩ := key (((lenI l) - 0).toNat + 1) 0 (w64 (17333 + lenI l)) (by omega) (by rw [lenI_eq]; omega)
  exact ⟨h, e, by omega, by omega, hl⟩




theorem l1PickInt_ok {b : List Int} {i : Int} (h : Int) {l : List Int} (hl : l ≠ []) (hc : CI b i) : ∃ i' h' x, spec_l1PickInt.f (l1Cur.mk b i h) l = some (l1Cur.mk b i' h', x) ∧ CI b i' ∧ x ∈ l := by
  unfold spec_l1PickInt.f
  obtain ⟨i1, h1, x1, e1, k1, l1, u1, _⟩ := l1Below_ok h (lenI l) hc
  have hp : 0 < l.length := by cases l with | nil => exact absurd rfl hl | cons x l => simp
  rw [lenI_eq] at u1
  have hx := u1 (by omega)
  have hlt : x1.toNat < l.length := by omega
  rw [e1, Option.bind_some, getO_pos l1, List.getElem?_eq_getElem hlt, Option.bind_some]
  exact ⟨_, _, _, rfl, k1, List.getElem_mem hlt⟩

/-- A schema that is not too great. -/
def SB (s : Schema) : Prop := s.Cols.length ≤ 6 ∧ ∀ x ∈ s.Cols, -1 ≤ x ∧ x ≤ 5
theorem SB.b {s : Schema} (h : SB s) : Schema_b s := by unfold Schema_b IntS_b; have := h.1; omega
theorem snoc_all {α : Type} {p : α → Prop} {l : List α} {x : α} (h : ∀ y ∈ l, p y) (hx : p x) : ∀ y ∈ l ++ [x], p y := fun y hy => by
  rcases List.mem_append.1 hy with hy | hy
  · exact h y hy
  · rw [List.mem_singleton.1 hy]; exact hx

theorem l6DrawSchema_l0 (a : l1Cur) : ∀ (k i : Nat) (ci h : Int) (l : List Int), CI a.b ci → l.length = i → i ≤ 3 → 4 ≤ i + k → (∀ x ∈ l, 1 ≤ x ∧ x ≤ 4) →
    ∃ ci' h' l', spec_l6DrawSchema.l0 a k ci h l i = some (l1Cur.mk a.b ci' h', Schema.mk l') ∧ CI a.b ci' ∧ (i < 1 ∨ 1 ≤ i) ∧ l'.length ≤ 3 ∧ i ≤ l'.length ∧ 1 ≤ l'.length ∧ ∀ x ∈ l', 1 ≤ x ∧ x ≤ 4 := by
  intro k
  induction k with
  | zero => intro i ci h l hc hl h1 h2; omega
  | succ k ih =>
    intro i ci h l hc hl h1 h2 hx
    obtain ⟨c1, h1', x1, e1, k1, l1, u1, _⟩ := l1Below_ok h 3 hc
    have hx3 := u1 (by omega)
    rw [spec_l6DrawSchema.l0, e1, Option.bind_some]
    dsimp only
    rw [w64_id (by omega)]
    by_cases c : (i : Int) < 1 + x1
    · obtain ⟨c2, h2', x2, e2, k2, l2, u2, _⟩ := l1Below_ok h1' 4 k1
      have hx4 := u2 (by omega)
      rw [decide_eq_true c, cond_true, e2, Option.bind_some]
      dsimp only
      rw [w64_id (by omega), Option.bind_some, appO_ok (by simp only [List.length_cons, List.length_nil]; omega), Option.bind_some, w64_succ (by omega)]
      obtain ⟨ci', h', l', q1, q2, q3, q4, q5, q6, q7⟩ := ih (i + 1) c2 h2' (l ++ [1 + x2]) k2 (by simp [hl]) (by omega) (by omega) (snoc_all hx (by omega))
      exact ⟨ci', h', l', q1, q2, by omega, q4, by omega, q6, q7⟩
    · rw [decide_eq_false c, cond_false]
      exact ⟨_, _, _, rfl, k1, by omega, by omega, by omega, by omega, hx⟩
theorem l6DrawSchema_ok {b : List Int} {i : Int} (h : Int) (hc : CI b i) : ∃ i' h' s, spec_l6DrawSchema.f (l1Cur.mk b i h) = some (l1Cur.mk b i' h', s) ∧ CI b i' ∧ s.Cols.length ≤ 3 ∧ 1 ≤ s.Cols.length ∧ ∀ x ∈ s.Cols, 1 ≤ x ∧ x ≤ 4 := by
  unfold spec_l6DrawSchema.f
  obtain ⟨ci', h', l', q1, q2, q3, q4, q5, q6, q7⟩ := l6DrawSchema_l0 (l1Cur.mk b i h) 1000 0 i h [] hc rfl (by omega) (by omega) (by simp)
  exact ⟨_, _, _, q1, q2, q4, q6, q7⟩

theorem l6DrawBad_ok {b : List Int} {i : Int} (h : Int) (hc : CI b i) : ∃ i' h' s, spec_l6DrawBad.f (l1Cur.mk b i h) = some (l1Cur.mk b i' h', s) ∧ CI b i' ∧ SB s := by
  unfold spec_l6DrawBad.f
  obtain ⟨i1, h1, s, e1, k1, s1, s2, s3⟩ := l6DrawSchema_ok h hc
  obtain ⟨i2, h2, x2, e2, k2, _⟩ := l1Below_ok h1 12 k1
  rw [e1, Option.bind_some]
  dsimp only
  rw [e2, Option.bind_some]
  dsimp only
  by_cases c0 : x2 = 0
  · rw [decide_eq_true c0, cond_true, Option.bind_some, appO_ok (by simp only [List.length_cons, List.length_nil]; omega), Option.bind_some]
    refine ⟨_, _, _, rfl, k2, by simp; omega, fun x hx => ?_⟩
    rcases List.mem_append.1 hx with hx | hx
    · have := s3 x hx; omega
    · simp at hx; omega
  rw [decide_eq_false c0, cond_false]
  by_cases c1 : x2 = 1
  · obtain ⟨i3, h3, x3, e3, k3, m3⟩ := l1PickInt_ok (l := [0, 5, -1]) h2 (by simp) k2
    rw [decide_eq_true c1, cond_true, Option.bind_some, e3, Option.bind_some]
    have hg : getO s.Cols 0 = some s.Cols[0] := by rw [getO_zero, List.getElem?_eq_getElem (by omega)]
    rw [hg, Option.bind_some, Option.bind_some]
    refine ⟨_, _, _, rfl, k3, by unfold setI; rw [List.length_set]; omega, fun x hx => ?_⟩
    rcases List.mem_or_eq_of_mem_set hx with hx | rfl
    · have := s3 x hx; omega
    · simp at m3; omega
  rw [decide_eq_false c1, cond_false]
  by_cases c2 : x2 = 2
  · rw [decide_eq_true c2, cond_true]
    exact ⟨_, _, _, rfl, k2, by simp, by simp⟩
  rw [decide_eq_false c2, cond_false]
  exact ⟨_, _, _, rfl, k2, by omega, fun x hx => by have := s3 x hx; omega⟩

theorem spec_l1In_eq (x y z : Int) : spec_l1In.f x y z = some (decide (y ≤ x ∧ x ≤ z)) := by
  unfold spec_l1In.f
  rw [bo3_and, Bool.decide_and]

theorem spec_SchemaOk_eq (s : Schema) (h : Schema_b s) : spec_SchemaOk.f s = some (schemaB s) := by
  have hl : s.Cols.length ≤ 9223372036854775807 := h
  unfold spec_SchemaOk.f joinK
  refine (loop_all (f := spec_SchemaOk.l0 s _) (l := s.Cols) (fun _ n => decide (1 ≤ n ∧ n ≤ 4)) (some false) (some (decide (1 ≤ (s.Cols.length : Int) ∧ (s.Cols.length : Int) ≤ 3))) (fun k i x hx => ?_) (fun k i hi => ?_) _ 0 (by omega) (by (try simp only [lenI_eq]); omega)).trans ?_
  · have hi := at_lt hx
    rw [spec_SchemaOk.l0, lenI_eq, decide_eq_true (by omega), cond_true, getO_nat, hx, Option.bind_some, spec_l1In_eq, Option.bind_some, bo3_not, w64_succ (by omega)]
    cases decide (1 ≤ x ∧ x ≤ 4) <;> rfl
  · rw [spec_SchemaOk.l0, lenI_eq, decide_eq_false (by omega), cond_false, spec_l1In_eq, Option.bind_some]
  · rw [allFrom_zero, schemaB]
    cases s.Cols.all fun n => decide (1 ≤ n ∧ n ≤ 4) <;> rfl

theorem spec_l7Schema_eq (s : Schema) (h : sz_Schema s ≤ 1099511627776) : spec_l7Schema.f s = some s := by
  have : (s.Cols.length : Int) ≤ 1099511627776 := by unfold sz_Schema sz_IntS at h; exact h
  unfold spec_l7Schema.f
  rw [appO_ok (by simp only [List.length_nil]; omega), Option.bind_some, List.nil_append]

def noStore : Store := ⟨⟨[]⟩, 0, []⟩
def tableB (s : Schema) (t : Int) : Bool := decide (0 ≤ t ∧ t ≤ (s.Cols.length : Int) - 1)
def tableOf (s : Store) (t : Int) : List Row := s.Tables.getD t.toNat []
def setTable (s : Store) (t : Int) (rows : List Row) : Store := ⟨s.Schema, s.Version, s.Tables.set t.toNat rows⟩
theorem table_rows {s : Store} (hs : storeB s = true) {t : Nat} (ht : t < s.Tables.length) : rowsB s.Schema t (tableOf s t) = true := by
  unfold tableOf
  rw [Int.toNat_natCast, List.getD_eq_getElem?_getD, List.getElem?_eq_getElem ht, Option.getD_some]
  exact store_table hs (List.getElem?_eq_getElem ht)
theorem setTable_b {s : Store} (bs : Store_b s) (t : Int) {rows : List Row} (h : RowS_b rows) : Store_b (setTable s t rows) := by
  refine ⟨bs.1, by unfold setTable; simpa using bs.2.1, fun x hx => ?_⟩
  rcases List.mem_or_eq_of_mem_set hx with hx | rfl
  · exact bs.2.2 x hx
  · exact h
theorem setTable_sz (s : Store) (t : Int) (rows : List Row) : sz_Store (setTable s t rows) ≤ sz_Store s + sz_RowS rows := by
  unfold sz_Store sz_RowSS setTable
  have := sum_set sz_RowS_0 rows s.Tables t.toNat
  simp only [List.length_set]
  omega
theorem tableOf_b {s : Store} (bs : Store_b s) (t : Int) : RowS_b (tableOf s t) := by
  unfold tableOf
  rw [List.getD_eq_getElem?_getD]
  cases h : s.Tables[t.toNat]? with
  | none => exact ⟨by simp, by simp⟩
  | some x => exact bs.2.2 x (List.mem_of_getElem? h)
theorem tableOf_sz (s : Store) (t : Int) : sz_RowS (tableOf s t) ≤ sz_Store s := by
  unfold tableOf sz_Store sz_RowSS
  have p1 := sz_Schema_0 s.Schema
  have p2 := sum_nonneg sz_RowS_0 s.Tables
  rw [List.getD_eq_getElem?_getD]
  cases h : s.Tables[t.toNat]? with
  | none => simp [sz_RowS]; omega
  | some x => have := sum_mem sz_RowS_0 (List.mem_of_getElem? h); simp only [Option.getD_some]; omega
theorem row_getD {rows : List Row} (h : RowS_b rows) (i : Nat) : Row_b (rows.getD i ⟨0, []⟩) ∧ sz_Row (rows.getD i ⟨0, []⟩) ≤ sz_RowS rows := by
  rw [List.getD_eq_getElem?_getD]
  have p := sum_nonneg sz_Row_0 rows
  unfold sz_RowS
  cases hx : rows[i]? with
  | none => exact ⟨by simp [Row_b, IntS_b], by simp [sz_Row, sz_IntS]; omega⟩
  | some x => have := sum_mem sz_Row_0 (List.mem_of_getElem? hx); exact ⟨h.2 x (List.mem_of_getElem? hx), by simp only [Option.getD_some]; omega⟩
theorem noStore_b : Store_b noStore ∧ sz_Store noStore = 0 := ⟨⟨by simp [Schema_b, IntS_b, noStore], by simp [noStore], by simp [noStore]⟩, by simp [sz_Store, sz_Schema, sz_IntS, sz_RowSS, noStore]⟩

theorem spec_StoreNew_eq (s : Schema) (hb : Schema_b s) (hz : sz_Schema s ≤ 1099511627776) : spec_StoreNew.f s = some (if schemaB s = true then (⟨s, 0, List.replicate s.Cols.length []⟩, true) else (noStore, false)) := by
  unfold spec_StoreNew.f
  rw [spec_SchemaOk_eq _ hb, Option.bind_some]
  cases hs : schemaB s with
  | false => rfl
  | true =>
    have := schema_len hs
    rw [show bo3 true false true = false from rfl, cond_false, if_pos rfl, spec_l7Schema_eq _ hz, Option.bind_some, lenI_eq, mkO_ok (by omega), Option.bind_some, Int.toNat_natCast]

theorem l6DrawRow_l0 (a : l1Cur) (n : Int) (hn : n ≤ 5) (id : Int) : ∀ (k i : Nat) (ci h : Int) (l : List Int), CI a.b ci → l.length = i → (i : Int) ≤ n ∨ i = 0 → 0 < k → n < i + k → (∀ x ∈ l, 0 ≤ x ∧ x ≤ 5) →
    ∃ ci' h' l', spec_l6DrawRow.l0 a n k ci h id l i = some (l1Cur.mk a.b ci' h', Row.mk id l') ∧ CI a.b ci' ∧ ((l'.length : Int) = n ∨ n < 0 ∧ l'.length = 0) ∧ ∀ x ∈ l', 0 ≤ x ∧ x ≤ 5 := by
  intro k
  induction k with
  | zero => intro i ci h l hc hl h0 h1 h2; omega
  | succ k ih =>
    intro i ci h l hc hl h0 h1 h2 hx
    rw [spec_l6DrawRow.l0]
    by_cases c : (i : Int) < n
    · obtain ⟨c2, h2', x2, e2, k2, l2, u2, _⟩ := l1Below_ok h 6 hc
      have hx4 := u2 (by omega)
      rw [decide_eq_true c, cond_true, e2, Option.bind_some]
      dsimp only
      rw [Option.bind_some, appO_ok (by simp only [List.length_cons, List.length_nil]; omega), Option.bind_some, w64_succ (by omega)]
      exact ih (i + 1) c2 h2' (l ++ [x2]) k2 (by simp [hl]) (by omega) (by omega) (by omega) (snoc_all hx (by omega))
    · rw [decide_eq_false c, cond_false]
      exact ⟨_, _, _, rfl, hc, by omega, hx⟩
theorem l6DrawRow_ok {b : List Int} {i : Int} (h : Int) (n : Int) (hn : n ≤ 5) (hc : CI b i) : ∃ i' h' r, spec_l6DrawRow.f (l1Cur.mk b i h) n = some (l1Cur.mk b i' h', r) ∧ CI b i' ∧ 1 ≤ r.Id ∧ r.Id ≤ 12 ∧ ((r.Cells.length : Int) = n ∨ n < 0 ∧ r.Cells.length = 0) ∧ ∀ x ∈ r.Cells, 0 ≤ x ∧ x ≤ 5 := by
  unfold spec_l6DrawRow.f
  obtain ⟨i1, h1, x1, e1, k1, l1, u1, _⟩ := l1Below_ok h 12 hc
  have := u1 (by omega)
  rw [e1, Option.bind_some]
  dsimp only
  rw [w64_id (by omega)]
  obtain ⟨ci', h', l', q1, q2, q3, q4⟩ := l6DrawRow_l0 (l1Cur.mk b i h) n hn (1 + x1) ((n - 0).toNat + 1) 0 i1 h1 [] k1 rfl (by omega) (by omega) (by omega) (by simp)
  exact ⟨_, _, _, q1, q2, by dsimp only; omega, by dsimp only; omega, q3, q4⟩

theorem spec_RowAt_eq (l : List Row) (id : Int) (h : l.length ≤ 9223372036854775807) : spec_RowAt.f l id = some (rowAtF l id 0) := by
  have key : ∀ (k i : Nat), i ≤ l.length → l.length < i + k → spec_RowAt.l0 l id k i = some (rowAtF (l.drop i) id i) := by
    intro k
    induction k with
    | zero => intro i h h'; omega
    | succ k ih =>
      intro i h h'
      by_cases hi : i < l.length
      · have hx : l[i]? = some l[i] := List.getElem?_eq_getElem hi
        rw [spec_RowAt.l0, lenI_eq, decide_eq_true (by omega), cond_true, getO_nat, hx, Option.bind_some, List.drop_eq_getElem_cons hi, rowAtF, w64_succ (by omega)]
        by_cases e : (l[i]).Id = id
        · rw [decide_eq_true e, cond_true, if_pos e]
        · rw [decide_eq_false e, cond_false, if_neg e]
          exact ih (i + 1) (by omega) (by omega)
      · rw [spec_RowAt.l0, lenI_eq, decide_eq_false (by omega), cond_false, List.drop_eq_nil_of_le (by omega), rowAtF]
  have := key (((lenI l) - 0).toNat + 1) 0 (by omega) (by simp only [lenI_eq]; omega)
  rw [List.drop_zero] at this
  exact this

theorem spec_l6Copy_eq (r : Row) (h : sz_Row r ≤ 1099511627776) : spec_l6Copy.f r = some r := by
  have := row_len h
  unfold spec_l6Copy.f
  rw [appO_ok (by simp only [List.length_nil]; omega), Option.bind_some, List.nil_append]

theorem spec_RowDrop_eq (l : List Row) (id : Int) (h : sz_RowS l ≤ 1099511627776) : spec_RowDrop.f l id = some (rowDropF l id) := by
  unfold sz_RowS at h
  have p := sum_nonneg sz_Row_0 l
  unfold spec_RowDrop.f
  rw [spec_RowAt_eq _ _ (by omega), Option.bind_some, rowAt_0]
  generalize hd : l.findIdx (isId id) = d
  have key : ∀ (k i : Nat), i ≤ l.length → l.length < i + k → spec_RowDrop.l0 l (idxI (isId id) l) k ((l.take i).eraseIdx d) i = some (rowDropF l id) := by
    intro k
    induction k with
    | zero => intro i h h'; omega
    | succ k ih =>
      intro i h0 h'
      by_cases hi : i < l.length
      · have hx : l[i]? = some l[i] := List.getElem?_eq_getElem hi
        have hm := sum_mem sz_Row_0 (List.mem_of_getElem? hx)
        have ht : (l.take i).length = i := by rw [List.length_take]; omega
        rw [spec_RowDrop.l0, lenI_eq, decide_eq_true (by omega), cond_true]
        have hs := ih (i + 1) (by omega) (by omega)
        rw [take_snoc hx] at hs
        by_cases e : d = i
        · have ei : idxI (isId id) l = (i : Int) := by rw [idxI_pos (by omega), hd, e]
          rw [ei] at hs ⊢
          rw [decide_eq_false (by omega), cond_false, w64_succ (by omega)]
          rw [e] at hs ⊢
          rw [List.eraseIdx_of_length_le (by omega)]
          rw [List.eraseIdx_append_of_length_le (by omega), ht] at hs
          simpa using hs
        · have ei : ¬ (i : Int) = idxI (isId id) l := by
            unfold idxI; split <;> omega
          rw [decide_eq_true ei, cond_true, getO_nat, hx, Option.bind_some, spec_l6Copy_eq _ (by omega), Option.bind_some, Option.bind_some, appO_ok (by
            have : ((l.take i).eraseIdx d).length ≤ i := by rw [List.length_eraseIdx]; split <;> omega
            simp only [List.length_cons, List.length_nil]; omega), Option.bind_some, w64_succ (by omega)]
          by_cases e2 : d < i
          · rw [List.eraseIdx_append_of_lt_length (by omega)] at hs
            exact hs
          · rw [List.eraseIdx_of_length_le (by simp; omega)] at hs
            rw [List.eraseIdx_of_length_le (by omega)]
            exact hs
      · rw [spec_RowDrop.l0, lenI_eq, decide_eq_false (by omega), cond_false, List.take_of_length_le (by omega), ← hd]
        rfl
  have := key (((lenI l) - 0).toNat + 1) 0 (by omega) (by simp only [lenI_eq]; omega)
  rw [List.take_zero, List.eraseIdx_nil] at this
  exact this

theorem spec_RowPut_l0 (r : Row) (l : List Row) (K : Int → Option (List Row)) (hl : l.length < 9223372036854775807) : ∀ (k i : Nat) (at_ : Int), i ≤ l.length → i < k → spec_RowPut.l0 r l K k at_ ((i : Int) - 1) = K (if (l.take i).findIdx (isGt r.Id) < i then ((l.take i).findIdx (isGt r.Id) : Int) else at_) := by
  intro k
  induction k with
  | zero => intro i at_ h h'; omega
  | succ k ih =>
    intro i at_ h h'
    cases i with
    | zero => rw [spec_RowPut.l0, decide_eq_false (by omega), cond_false, if_neg (by omega)]
    | succ i =>
      have hx : l[i]? = some l[i] := List.getElem?_eq_getElem (by omega)
      have e1 : ((i + 1 : Nat) : Int) - 1 = (i : Int) := by omega
      rw [spec_RowPut.l0, e1, decide_eq_true (by omega), cond_true, getO_nat, hx, Option.bind_some, w64_id (by omega), ih i _ (by omega) (by omega), ih i _ (by omega) (by omega), findIdx_take _ _ hx]
      by_cases c : (l.take i).findIdx (isGt r.Id) < i
      · simp only [if_pos c]
        rw [if_pos (by omega)]
        cases decide (r.Id < l[i].Id) <;> rfl
      · simp only [if_neg c]
        rw [isGt]
        cases hc : decide (r.Id < l[i].Id)
        · simp
        · simp
theorem spec_RowPut_eq (l : List Row) (r : Row) (h : sz_RowS l ≤ 1099511627776) (hr : sz_Row r ≤ 1099511627776) : spec_RowPut.f l r = some (rowPutF l r) := by
  have hz := rowDrop_sz l r.Id
  have hdl := rowDrop_len l r.Id
  have h' := h
  unfold sz_RowS at h'
  have p := sum_nonneg sz_Row_0 l
  have cut : ∀ (y : Nat), y ≤ (rowDropF l r.Id).length → ((cutO (rowDropF l r.Id) 0 (y : Int)).bind fun l17 => (appO 32 [] l17).bind fun l18 => (spec_l6Copy.f r).bind fun r19 => (some [r19]).bind fun l20 => (appO 32 l18 l20).bind fun l21 => (cutO (rowDropF l r.Id) (y : Int) (lenI (rowDropF l r.Id))).bind fun l22 => (appO 32 l21 l22).bind fun l23 => some l23) = some ((rowDropF l r.Id).take y ++ [r] ++ (rowDropF l r.Id).drop y) := by
    intro y hy
    rw [cutO_ok ⟨by omega, by omega, by omega⟩, Option.bind_some, appO_ok (by simp; omega), Option.bind_some, spec_l6Copy_eq _ hr, Option.bind_some, Option.bind_some, appO_ok (by simp; omega), Option.bind_some, lenI_eq, cutO_ok ⟨by omega, by omega, by omega⟩, Option.bind_some, appO_ok (by simp; omega), Option.bind_some]
    simp
  unfold spec_RowPut.f
  rw [spec_RowDrop_eq _ _ h, Option.bind_some]
  simp only [joinK]
  rw [spec_RowAt_eq _ _ (by omega), Option.bind_some, rowAt_0]
  unfold rowPutF
  by_cases c : l.findIdx (isId r.Id) < l.length
  · rw [if_pos c, idxI_pos c, decide_eq_true (by omega), cond_true, Option.bind_some]
    rw [cut _ (by unfold rowDropF; rw [List.length_eraseIdx]; split <;> omega)]
    rw [List.set_eq_take_append_cons_drop, if_pos c]
    unfold rowDropF
    rw [List.eraseIdx_eq_take_drop_succ]
    have hl : (l.take (l.findIdx (isId r.Id))).length = l.findIdx (isId r.Id) := by rw [List.length_take]; omega
    rw [List.take_left' hl, List.drop_left' hl]
    simp
  · have hd : rowDropF l r.Id = l := by unfold rowDropF; exact List.eraseIdx_of_length_le (by omega)
    rw [hd] at cut
    rw [if_neg c, idxI_neg c, decide_eq_false (by omega), cond_false, hd, lenI_eq, w64_id (by omega), spec_RowPut_l0 r l _ (by omega) _ _ _ (Nat.le_refl _) (by omega), List.take_length]
    have hle := List.findIdx_le_length (xs := l) (p := isGt r.Id)
    split
    · rw [lenI_eq] at cut
      exact cut _ hle
    · rename_i hn
      rw [lenI_eq] at cut
      have e : l.findIdx (isGt r.Id) = l.length := by omega
      rw [e]
      exact cut _ (Nat.le_refl _)

def sz_Change (x : Change) : Int := sz_Row x.Old + sz_Row x.New
def Change_b (x : Change) : Prop := Row_b x.Old ∧ Row_b x.New
theorem sz_Change_0 (x : Change) : 0 ≤ sz_Change x := by unfold sz_Change; exact by have := sz_Row_0 x.Old; have := sz_Row_0 x.New;  omega
def Change_r (x : Change) : Prop := (-9223372036854775808 ≤ x.Table ∧ x.Table ≤ 9223372036854775807) ∧ Row_r x.Old ∧ Row_r x.New
def noChange : Change := ⟨0, false, false, ⟨0, []⟩, ⟨0, []⟩⟩
theorem noChange_b : Change_b noChange ∧ sz_Change noChange = 0 := ⟨⟨by simp [Row_b, IntS_b, noChange], by simp [Row_b, IntS_b, noChange]⟩, by simp [sz_Change, sz_Row, sz_IntS, noChange]⟩

def sz_Mut (x : Mut) : Int := sz_Row x.Row
def Mut_b (x : Mut) : Prop := Row_b x.Row
theorem sz_Mut_0 (x : Mut) : 0 ≤ sz_Mut x := by unfold sz_Mut; exact by have := sz_Row_0 x.Row;  omega
def Mut_r (x : Mut) : Prop := (-9223372036854775808 ≤ x.Kind ∧ x.Kind ≤ 9223372036854775807) ∧ (-9223372036854775808 ≤ x.Table ∧ x.Table ≤ 9223372036854775807) ∧ Row_r x.Row
def mutB (s : Schema) (m : Mut) : Bool :=
  bif decide (m.Kind = 3) then schemaB s && tableB s m.Table && decide (1 ≤ m.Row.Id ∧ m.Row.Id ≤ 999) && decide (m.Row.Cells.length = 0)
  else decide (1 ≤ m.Kind ∧ m.Kind ≤ 2) && rowB s m.Table m.Row
def mutStep (s : Store) (m : Mut) : Store × Change × Bool :=
  let rows := tableOf s m.Table
  let i := rows.findIdx (isId m.Row.Id)
  if (decide (i < rows.length) == decide (m.Kind = 1)) = true ∨ m.Kind = 1 ∧ rows.length = 24 then (s, noChange, false)
  else (setTable s m.Table (if m.Kind = 3 then rowDropF rows m.Row.Id else rowPutF rows m.Row), ⟨m.Table, decide (m.Kind ≠ 1), decide (m.Kind ≠ 3), if m.Kind = 1 then ⟨0, []⟩ else rows.getD i ⟨0, []⟩, if m.Kind = 3 then ⟨0, []⟩ else m.Row⟩, true)
def mutDoF (s : Store) (m : Mut) : Store × Change × Bool := if storeB s = true then (if mutB s.Schema m = true then mutStep s m else (s, noChange, false)) else (noStore, noChange, false)
theorem mut_table {s : Store} {m : Mut} (hs : storeB s = true) (hm : mutB s.Schema m = true) : 0 ≤ m.Table ∧ m.Table.toNat < s.Tables.length ∧ (m.Kind = 1 ∨ m.Kind = 2 ∨ m.Kind = 3) := by
  have hl := (store_len hs).1
  have h : (0 ≤ m.Table ∧ m.Table ≤ (s.Schema.Cols.length : Int) - 1) ∧ (m.Kind = 1 ∨ m.Kind = 2 ∨ m.Kind = 3) := by
    unfold mutB at hm
    by_cases e : m.Kind = 3
    · rw [decide_eq_true e, cond_true] at hm
      simp only [Bool.and_eq_true] at hm
      exact ⟨of_decide_eq_true hm.1.1.2, .inr (.inr e)⟩
    · rw [decide_eq_false e, cond_false] at hm
      unfold rowB at hm
      simp only [Bool.and_eq_true, decide_eq_true_eq] at hm
      exact ⟨hm.2.1.1.1.2, by omega⟩
  exact ⟨h.1.1, by omega, h.2⟩

theorem mutDo_b (s : Store) (m : Mut) (bs : Store_b s) (bm : Mut_b m) : Store_b (mutDoF s m).1 ∧ sz_Store (mutDoF s m).1 ≤ 2 * sz_Store s + sz_Mut m + 1 ∧ Change_b (mutDoF s m).2.1 ∧ sz_Change (mutDoF s m).2.1 ≤ sz_Store s + sz_Mut m := by
  have q1 := sz_Store_0 s
  have q2 := sz_Mut_0 m
  have z1 := noChange_b
  have z2 := noStore_b
  unfold mutDoF
  by_cases hs : storeB s = true
  · rw [if_pos hs]
    by_cases hm : mutB s.Schema m = true
    · rw [if_pos hm]
      unfold mutStep
      dsimp only
      have tb := tableOf_b bs m.Table
      have tz := tableOf_sz s m.Table
      have bm' : Row_b m.Row := bm
      have hm1 : sz_Mut m = sz_Row m.Row := rfl
      split
      · exact ⟨bs, by dsimp only; omega, z1.1, by rw [z1.2]; omega⟩
      · dsimp only
        have rl : (tableOf s m.Table).length ≤ 24 := by
          obtain ⟨h0, h1, _⟩ := mut_table hs hm
          have := table_rows hs h1
          rw [Int.toNat_of_nonneg h0] at this
          exact rows_len this
        have rb : RowS_b (if m.Kind = 3 then rowDropF (tableOf s m.Table) m.Row.Id else rowPutF (tableOf s m.Table) m.Row) := by
          split
          · exact rowDrop_b tb _
          · exact rowPut_b tb (by omega) bm'
        have rz : sz_RowS (if m.Kind = 3 then rowDropF (tableOf s m.Table) m.Row.Id else rowPutF (tableOf s m.Table) m.Row) ≤ sz_Store s + 1 + sz_Mut m := by
          split
          · have := rowDrop_sz (tableOf s m.Table) m.Row.Id; omega
          · have := rowPut_sz (tableOf s m.Table) m.Row; omega
        have zz := setTable_sz s m.Table (if m.Kind = 3 then rowDropF (tableOf s m.Table) m.Row.Id else rowPutF (tableOf s m.Table) m.Row)
        obtain ⟨gb, gz⟩ := row_getD tb ((tableOf s m.Table).findIdx (isId m.Row.Id))
        have g0 := sz_Row_0 m.Row
        have nb : Row_b ⟨0, []⟩ ∧ sz_Row ⟨0, []⟩ = 0 := ⟨by simp [Row_b, IntS_b], by simp [sz_Row, sz_IntS]⟩
        refine ⟨setTable_b bs _ rb, by omega, ⟨?_, ?_⟩, ?_⟩
        · dsimp only; split
          · exact nb.1
          · exact gb
        · dsimp only; split
          · exact nb.1
          · exact bm'
        · unfold sz_Change
          dsimp only
          by_cases k1 : m.Kind = 1
          · rw [if_pos k1, if_neg (show ¬ m.Kind = 3 by omega), nb.2]; omega
          · rw [if_neg k1]
            split <;> omega
    · rw [if_neg hm]
      exact ⟨bs, by dsimp only; omega, z1.1, by dsimp only; rw [z1.2]; omega⟩
  · rw [if_neg hs]
    exact ⟨z2.1, by dsimp only; rw [z2.2]; omega, z1.1, by dsimp only; rw [z1.2]; omega⟩

def sz_MutS (l : List Mut) : Int := l.length + (l.map sz_Mut).sum
def MutS_b (l : List Mut) : Prop := l.length ≤ 9223372036854775807 ∧ ∀ x ∈ l, Mut_b x
theorem sz_MutS_0 (l : List Mut) : 0 ≤ sz_MutS l := by have := sum_nonneg sz_Mut_0 l; unfold sz_MutS; omega
def MutS_r (l : List Mut) : Prop := ∀ x ∈ l, Mut_r x
def sz_ChangeS (l : List Change) : Int := l.length + (l.map sz_Change).sum
def ChangeS_b (l : List Change) : Prop := l.length ≤ 9223372036854775807 ∧ ∀ x ∈ l, Change_b x
theorem sz_ChangeS_0 (l : List Change) : 0 ≤ sz_ChangeS l := by have := sum_nonneg sz_Change_0 l; unfold sz_ChangeS; omega
def ChangeS_r (l : List Change) : Prop := ∀ x ∈ l, Change_r x
def runMuts : Store → List Change → List Mut → Option (Store × List Change)
  | s, acc, [] => some (s, acc)
  | s, acc, m :: l => if (mutDoF s m).2.2 = true then runMuts (mutDoF s m).1 (acc ++ [(mutDoF s m).2.1]) l else none
def batchF (s : Store) (l : List Mut) : Store × List Change × Bool :=
  if storeB s = true then (if (1 ≤ (l.length : Int) ∧ (l.length : Int) ≤ 5) ∧ s.Version ≠ 100000 then (match runMuts s [] l with
    | some (t, cs) => (⟨t.Schema, s.Version + 1, t.Tables⟩, cs, true)
    | none => (s, [], false)) else (s, [], false)) else (noStore, [], false)
theorem mutDo_ok {s : Store} {m : Mut} (h : (mutDoF s m).2.2 = true) : storeB s = true ∧ mutB s.Schema m = true ∧ mutDoF s m = mutStep s m ∧ (mutDoF s m).1.Version = s.Version ∧ (mutDoF s m).1.Schema = s.Schema := by
  unfold mutDoF at *
  by_cases hs : storeB s = true
  · rw [if_pos hs] at *
    by_cases hm : mutB s.Schema m = true
    · rw [if_pos hm] at *
      refine ⟨hs, hm, rfl, ?_⟩
      unfold mutStep at *
      dsimp only at *
      split at h
      · simp at h
      · rename_i c
        rw [if_neg c]
        exact ⟨rfl, rfl⟩
    · rw [if_neg hm] at h
      simp at h
  · rw [if_neg hs] at h
    simp at h
/-- What a batch's way holds: bounded, of the first store's version. -/
def BInv (v : Int) (s : Store) (acc : List Change) (n : Nat) : Prop := Store_b s ∧ sz_Store s ≤ 4000000 ∧ s.Version = v ∧ acc.length = n ∧ sz_ChangeS acc ≤ n * 6000000 ∧ ChangeS_b acc
theorem BInv.step {v : Int} {s : Store} {acc : List Change} {n : Nat} (h : BInv v s acc n) {m : Mut} (bm : Mut_b m) (hz : sz_Mut m ≤ 1048576) (hn : n < 100000) (hok : (mutDoF s m).2.2 = true) : BInv v (mutDoF s m).1 (acc ++ [(mutDoF s m).2.1]) (n + 1) := by
  obtain ⟨h1, h2, h3, h4, h5, h6⟩ := h
  obtain ⟨k1, k2, k3, k4, k5⟩ := mutDo_ok hok
  obtain ⟨b1, b2, b3, b4⟩ := mutDo_b s m h1 bm
  have sm := (store_small k1).2
  refine ⟨b1, by omega, k4.trans h3, by simp [h4], ?_, ⟨by simp; omega, fun x hx => ?_⟩⟩
  · unfold sz_ChangeS at *
    rw [sum_append]
    simp only [List.length_append, List.length_cons, List.length_nil, List.map_cons, List.map_nil, List.sum_cons, List.sum_nil]
    rw [show ((n + 1 : Nat) : Int) * 6000000 = n * 6000000 + 6000000 by omega]
    omega
  · rcases List.mem_append.1 hx with hx | hx
    · exact h6.2 x hx
    · rw [List.mem_singleton.1 hx]; exact b3
theorem runMuts_inv {v : Int} : ∀ {l : List Mut} {s : Store} {acc : List Change} {n : Nat} {t : Store} {cs : List Change}, BInv v s acc n → (∀ m ∈ l, Mut_b m ∧ sz_Mut m ≤ 1048576) → n + l.length < 100000 → runMuts s acc l = some (t, cs) → BInv v t cs (n + l.length)
  | [], s, acc, n, t, cs, h, _, _, he => by
    rw [runMuts] at he
    cases he
    exact h
  | m :: l, s, acc, n, t, cs, h, hm, hn, he => by
    rw [runMuts] at he
    split at he
    · rename_i hok
      have hl : n + (m :: l).length = n + 1 + l.length := by simp only [List.length_cons]; omega
      rw [hl]
      have hn' : n + 1 + l.length < 100000 := by rw [← hl]; exact hn
      exact runMuts_inv (h.step (hm m (List.mem_cons_self ..)).1 (hm m (List.mem_cons_self ..)).2 (by omega) hok) (fun x hx => hm x (List.mem_cons_of_mem _ hx)) hn' he
    · cases he

theorem row_eq (a b : Row) : decide (a = b) = (decide (a.Id = b.Id) && decide (a.Cells = b.Cells)) := by
  cases a; cases b
  rw [Bool.eq_iff_iff]
  simp

def zeroB (r : Row) : Bool := decide (r.Id = 0) && decide (r.Cells.length = 0)
def hasId (rows : List Row) (id : Int) : Bool := decide (rows.findIdx (isId id) < rows.length)
def thereB (rows : List Row) (r : Row) : Bool := decide (rows[rows.findIdx (isId r.Id)]? = some r)
/-- The rows behind a change, if it can be made. -/
def turnRows (rows : List Row) (c : Change) : List Row := let r1 := if c.Had = true then rowDropF rows c.Old.Id else rows; if c.Has = true then rowPutF r1 c.New else r1
def turnB (s : Store) (c : Change) : Bool :=
  tableB s.Schema c.Table && (!c.Had || thereB (tableOf s c.Table) c.Old) && (!c.Has || !hasId (if c.Had = true then rowDropF (tableOf s c.Table) c.Old.Id else tableOf s c.Table) c.New.Id)
def turnF (s : Store) (c : Change) : Store := setTable s c.Table (turnRows (tableOf s c.Table) c)
def fitsB (c : Change) : Bool := (c.Had || c.Has) && (c.Had || zeroB c.Old) && (c.Has || zeroB c.New)
def stepB (s : Store) (c : Change) : Bool := fitsB c && turnB s c && storeB (turnF s c)
def runCh : Store → List Change → Option Store
  | s, [] => some s
  | s, c :: l => if stepB s c = true then runCh (turnF s c) l else none
def forwardF (s : Store) (l : List Change) : Store × Bool :=
  if storeB s = true ∧ (1 ≤ (l.length : Int) ∧ (l.length : Int) ≤ 5) ∧ s.Version ≠ 100000 then (match runCh s l with
    | some t => (⟨t.Schema, s.Version + 1, t.Tables⟩, true)
    | none => (noStore, false)) else (noStore, false)
theorem storeB_version {s : Store} (v : Int) (h : storeB s = true) : storeB ⟨s.Schema, v, s.Tables⟩ = decide (0 ≤ v ∧ v ≤ 100000) := by
  unfold storeB at *
  simp only [Bool.and_eq_true] at h
  obtain ⟨⟨⟨h1, h2⟩, h3⟩, h4⟩ := h
  simp only [h1, h3, h4, Bool.true_and, Bool.and_true]
theorem store_v {s : Store} (h : storeB s = true) : 0 ≤ s.Version ∧ s.Version ≤ 100000 := by
  unfold storeB at h
  simp only [Bool.and_eq_true, decide_eq_true_eq] at h
  exact h.1.1.2
theorem tableB_iff {s : Store} (hs : storeB s = true) {t : Int} : tableB s.Schema t = true ↔ 0 ≤ t ∧ t.toNat < s.Tables.length := by
  have := (store_len hs).1
  unfold tableB
  rw [decide_eq_true_eq]
  omega
theorem table_get {s : Store} {t : Int} (h : t.toNat < s.Tables.length) : s.Tables[t.toNat]? = some (tableOf s t) := by unfold tableOf; rw [List.getD_eq_getElem?_getD, List.getElem?_eq_getElem h]; rfl
theorem findIdx_isId {rows : List Row} {id : Int} (h : rows.findIdx (isId id) < rows.length) : (rows[rows.findIdx (isId id)]).Id = id := by
  have := List.findIdx_getElem (w := h)
  exact of_decide_eq_true this
theorem there_has {rows : List Row} {r : Row} (h : thereB rows r = true) : rows.findIdx (isId r.Id) < rows.length ∧ r ∈ rows := by
  unfold thereB at h
  rw [decide_eq_true_eq] at h
  exact ⟨at_lt h, List.mem_of_getElem? h⟩
theorem turn_b {s : Store} (hs : storeB s = true) {c : Change} (hc : sz_Change c ≤ 1048576) : Store_b (turnF s c) ∧ sz_Store (turnF s c) ≤ 2000000 ∧ (turnF s c).Version = s.Version ∧ (turnF s c).Schema = s.Schema := by
  obtain ⟨hb, hz⟩ := store_small hs
  have hz1 := tableOf_sz s c.Table
  have z2 := setTable_sz s c.Table (turnRows (tableOf s c.Table) c)
  have z3 : sz_RowS (turnRows (tableOf s c.Table) c) ≤ 1000 + 1 + 1048576 := by
    have n1 := sz_Row_0 c.Old
    have n2 := sz_Row_0 c.New
    unfold sz_Change at hc
    unfold turnRows
    dsimp only
    have d := rowDrop_sz (tableOf s c.Table) c.Old.Id
    split
    · split
      · have := rowPut_sz (rowDropF (tableOf s c.Table) c.Old.Id) c.New; omega
      · have := rowPut_sz (tableOf s c.Table) c.New; omega
    · split <;> omega
  unfold turnF
  have hq : sz_Store (setTable s c.Table (turnRows (tableOf s c.Table) c)) ≤ 2000000 := by omega
  exact ⟨store_of_sz (by omega), hq, rfl, rfl⟩
theorem idx_RowAt {rows : List Row} {id : Int} : decide (0 ≤ idxI (isId id) rows) = hasId rows id := decide_eq_decide.2 idxI_nn
theorem mem_set_self {α : Type} {l : List α} {i : Nat} {x : α} (h : i < l.length) : (l.set i x)[i]? = some x := by rw [List.getElem?_set_self h]
theorem put_mem (l : List Row) (r : Row) : r ∈ rowPutF l r := by
  unfold rowPutF
  split
  · rename_i h; exact List.mem_of_getElem? (mem_set_self h)
  · simp
/-- If the store behind is right, so is the row that came. -/
theorem turn_row {s : Store} (hs : storeB s = true) {c : Change} (ht : tableB s.Schema c.Table = true) (h : storeB (turnF s c) = true) (hh : c.Has = true) : rowB s.Schema c.Table c.New = true := by
  obtain ⟨h0, h1⟩ := (tableB_iff hs).1 ht
  have hg : (turnF s c).Tables[c.Table.toNat]? = some (turnRows (tableOf s c.Table) c) := mem_set_self h1
  have hr := store_table h hg
  have hm : c.New ∈ turnRows (tableOf s c.Table) c := by
    unfold turnRows
    dsimp only
    rw [if_pos hh]
    exact put_mem _ _
  obtain ⟨i, hi⟩ := List.getElem?_of_mem hm
  have := rows_row hr hi
  rw [Int.toNat_of_nonneg h0] at this
  exact this
theorem there_row {s : Store} (hs : storeB s = true) {t : Int} (ht : tableB s.Schema t = true) {r : Row} (h : thereB (tableOf s t) r = true) : rowB s.Schema t r = true := by
  obtain ⟨h0, h1⟩ := (tableB_iff hs).1 ht
  have hr := table_rows hs h1
  rw [Int.toNat_of_nonneg h0] at hr
  obtain ⟨i, hi⟩ := List.getElem?_of_mem (there_has h).2
  exact rows_row hr hi

/-- Rows in order of their Ids. -/
def UpR (l : List Row) : Prop := l.Pairwise fun a b => a.Id < b.Id
theorem UpR_ids {l : List Row} : UpR l ↔ (l.map Row.Id).Pairwise (· < ·) := by
  unfold UpR; rw [List.pairwise_map]
theorem up_find {l : List Row} {i : Nat} {x : Row} (p : Row → Bool) (hx : l[i]? = some x) (h : p x = true) : l.findIdx p ≤ i := by
  rcases Nat.lt_or_ge i (l.findIdx p) with hlt | hge
  · have := List.not_of_lt_findIdx hlt
    have e := (List.getElem?_eq_some_iff.1 hx).2
    rw [e, h] at this
    cases this
  · exact hge
theorem up_put {l : List Row} (h : UpR l) (r : Row) : UpR (rowPutF l r) := by
  unfold rowPutF
  split
  · rename_i hi
    rw [UpR_ids, List.map_set]
    have e := findIdx_isId hi
    generalize l.findIdx (isId r.Id) = k at hi e
    have hl : k < (l.map Row.Id).length := by rw [List.length_map]; exact hi
    have e2 : (l.map Row.Id)[k] = r.Id := by rw [List.getElem_map]; exact e
    rw [← e2, List.set_getElem_self]
    exact UpR_ids.1 h
  · rename_i hi
    have hle := List.findIdx_le_length (xs := l) (p := isGt r.Id)
    have hne : ∀ x ∈ l, x.Id ≠ r.Id := fun x hx e => by
      obtain ⟨i, hi'⟩ := List.getElem?_of_mem hx
      have := up_find (isId r.Id) hi' (by unfold isId; exact decide_eq_true e)
      have := at_lt hi'
      omega
    have h1 : ∀ x ∈ l.take (l.findIdx (isGt r.Id)), x.Id < r.Id := fun x hx => by
      obtain ⟨i, hi'⟩ := List.getElem?_of_mem hx
      rw [List.getElem?_take] at hi'
      split at hi'
      · rename_i hlt
        have := List.not_of_lt_findIdx hlt
        rw [(List.getElem?_eq_some_iff.1 hi').2] at this
        have := of_decide_eq_false this
        have := hne x (List.mem_of_getElem? hi')
        omega
      · cases hi'
    have h2 : ∀ x ∈ l.drop (l.findIdx (isGt r.Id)), r.Id < x.Id := fun x hx => by
      obtain ⟨i, hi'⟩ := List.getElem?_of_mem hx
      rw [List.getElem?_drop] at hi'
      have hlt := at_lt hi'
      have hk : l.findIdx (isGt r.Id) < l.length := by omega
      have hg : r.Id < (l[l.findIdx (isGt r.Id)]).Id := of_decide_eq_true (List.findIdx_getElem (w := hk))
      rcases Nat.eq_zero_or_pos i with rfl | hp
      · have e := (List.getElem?_eq_some_iff.1 hi').2
        rw [← e]; simpa using hg
      · have := List.pairwise_iff_getElem.1 h (l.findIdx (isGt r.Id)) (l.findIdx (isGt r.Id) + i) hk hlt (by omega)
        rw [(List.getElem?_eq_some_iff.1 hi').2] at this
        omega
    unfold UpR at *
    rw [List.append_assoc, List.pairwise_append, List.pairwise_append]
    refine ⟨h.sublist (List.take_sublist _ _), ⟨List.pairwise_singleton _ _, h.sublist (List.drop_sublist _ _), fun a ha b hb => ?_⟩, fun a ha b hb => ?_⟩
    · rw [List.mem_singleton.1 ha]; exact h2 b hb
    · rcases List.mem_append.1 hb with hb | hb
      · rw [List.mem_singleton.1 hb]; exact h1 a ha
      · have := h1 a ha; have := h2 b hb; omega
/-- A drawn row, drawn rows. -/
def DRw (n : Int) (r : Row) : Prop := 1 ≤ r.Id ∧ r.Id ≤ 12 ∧ (r.Cells.length : Int) = n ∧ ∀ x ∈ r.Cells, 0 ≤ x ∧ x ≤ 5
def DRs (n : Int) (l : List Row) : Prop := UpR l ∧ ∀ r ∈ l, DRw n r
theorem DRs.put {n : Int} {l : List Row} (h : DRs n l) {r : Row} (hr : DRw n r) : DRs n (rowPutF l r) := ⟨up_put h.1 r, fun x hx => by
  rcases mem_rowPut hx with rfl | hx
  · exact hr
  · exact h.2 x hx⟩
theorem DRs.sz {n : Int} {l : List Row} (hn : n ≤ 5) (h : DRs n l) {k : Nat} (hk : l.length ≤ k) : sz_RowS l ≤ k * 6 := by
  have := sum_le (s := sz_Row) (B := 5) (l := l) fun x hx => by
    have := (h.2 x hx).2.2.1
    unfold sz_Row sz_IntS; omega
  unfold sz_RowS; omega
theorem DRw.sz {n : Int} {r : Row} (hn : n ≤ 5) (h : DRw n r) : sz_Row r ≤ 5 := by
  have := h.2.2.1
  unfold sz_Row sz_IntS; omega
theorem up_rowsB {s : Schema} {t : Int} {l : List Row} (hs : schemaB s = true) (ht : 0 ≤ t ∧ t ≤ (s.Cols.length : Int) - 1) (hl : l.length ≤ 24) (hu : UpR l) (hr : ∀ r ∈ l, rowB s t r = true) : rowsB s t l = true := by
  unfold rowsB
  rw [hs, decide_eq_true ht, decide_eq_true hl]
  simp only [Bool.and_true]
  rw [allFrom_iff]
  intro i x hx
  rw [hr x (List.mem_of_getElem? hx), Bool.true_and, Bool.not_eq_true', ← Bool.not_eq_true]
  intro h
  simp only [Bool.and_eq_true, decide_eq_true_eq] at h
  obtain ⟨h0, h1⟩ := h
  have hlt := at_lt hx
  have := List.pairwise_iff_getElem.1 hu (i - 1) i (by omega) hlt (by omega)
  rw [(List.getElem?_eq_some_iff.1 hx).2] at this
  rw [List.getD_eq_getElem?_getD, List.getElem?_eq_getElem (by omega), Option.getD_some] at h1
  omega
theorem DRw.rowB {s : Schema} {t : Nat} {r : Row} (hs : schemaB s = true) (ht : t < s.Cols.length) (h : DRw (s.Cols.getD t 0) r) : rowB s t r = true := by
  unfold Go.Proofs.Ytbjbfcfekmdfmaa.L.rowB
  rw [hs, decide_eq_true (by omega), decide_eq_true (by have := h.1; have := h.2.1; omega), decide_eq_true (by rw [Int.toNat_natCast]; exact h.2.2.1)]
  simp only [Bool.true_and]
  rw [List.all_eq_true]
  intro x hx
  exact decide_eq_true (by have := h.2.2.2 x hx; omega)
/-- A store as drawn. -/
structure DSt (s : Store) : Prop where
  ok : storeB s = true
  v : 0 ≤ s.Version ∧ s.Version ≤ 4
  rows : ∀ t rows, s.Tables[t]? = some rows → rows.length ≤ 8 ∧ DRs (s.Schema.Cols.getD t 0) rows
theorem schema_SB {s : Schema} (h : schemaB s = true) : SB s := by
  unfold schemaB at h
  rw [Bool.and_eq_true, List.all_eq_true, decide_eq_true_eq] at h
  exact ⟨by omega, fun x hx => by have := of_decide_eq_true (h.1 x hx); omega⟩
theorem DSt.SB {s : Store} (h : DSt s) : SB s.Schema := schema_SB (store_len h.ok).2

theorem l6DrawRows_l0 (a : l1Cur) (n : Int) (hn : 0 ≤ n ∧ n ≤ 5) : ∀ (k i : Nat) (ci h : Int) (l : List Row), CI a.b ci → l.length ≤ i → i ≤ 8 → 9 ≤ i + k → DRs n l →
    ∃ ci' h' l', spec_l6DrawRows.l0 a n k ci h l i = some (l1Cur.mk a.b ci' h', l') ∧ CI a.b ci' ∧ l'.length ≤ 8 ∧ DRs n l' := by
  intro k
  induction k with
  | zero => intro i ci h l hc hl h1 h2; omega
  | succ k ih =>
    intro i ci h l hc hl h1 h2 hd
    obtain ⟨c1, h1', x1, e1, k1, l1, u1, _⟩ := l1Below_ok h 9 hc
    have hx3 := u1 (by omega)
    rw [spec_l6DrawRows.l0, e1, Option.bind_some]
    dsimp only
    by_cases c : (i : Int) < x1
    · obtain ⟨c2, h2', r, e2, k2, r1, r2, r3, r4⟩ := l6DrawRow_ok h1' n hn.2 k1
      have hr : DRw n r := ⟨r1, r2, by omega, r4⟩
      have := hd.sz hn.2 (k := 8) (by omega)
      have := hr.sz hn.2
      rw [decide_eq_true c, cond_true, e2, Option.bind_some]
      dsimp only
      rw [spec_RowPut_eq _ _ (by omega) (by omega), Option.bind_some, w64_succ (by omega)]
      have := rowPut_len l r
      exact ih (i + 1) c2 h2' _ k2 (by omega) (by omega) (by omega) (hd.put hr)
    · rw [decide_eq_false c, cond_false]
      exact ⟨_, _, _, rfl, k1, by omega, hd⟩
theorem l6DrawRows_ok {b : List Int} {i : Int} (h : Int) (n : Int) (hn : 0 ≤ n ∧ n ≤ 5) (hc : CI b i) : ∃ i' h' l, spec_l6DrawRows.f (l1Cur.mk b i h) n = some (l1Cur.mk b i' h', l) ∧ CI b i' ∧ l.length ≤ 8 ∧ DRs n l := by
  unfold spec_l6DrawRows.f
  exact l6DrawRows_l0 (l1Cur.mk b i h) n hn 1000 0 i h [] hc (by simp) (by omega) (by omega) ⟨List.Pairwise.nil, by simp⟩

theorem l7DrawRight_l0 (a : l1Cur) (s : Schema) (v : Int) (ts : List (List Row)) (ok : Bool) (hs : schemaB s = true) : ∀ (k i : Nat) (ci h : Int) (l : List (List Row)), CI a.b ci → l.length = s.Cols.length → i ≤ l.length → l.length < i + k → (∀ t rows, t < i → l[t]? = some rows → rows.length ≤ 8 ∧ DRs (s.Cols.getD t 0) rows) →
    ∃ ci' h' l', (∀ K, spec_l7DrawRight.l0 a (⟨s, v, ts⟩, ok) K k ci h l i = K ci' h' l') ∧ CI a.b ci' ∧ l'.length = s.Cols.length ∧ ∀ t rows, l'[t]? = some rows → rows.length ≤ 8 ∧ DRs (s.Cols.getD t 0) rows := by
  intro k
  induction k with
  | zero => intro i ci h l hc hl h1 h2; omega
  | succ k ih =>
    intro i ci h l hc hl h1 h2 hd
    have h3 := schema_len hs
    by_cases c : i < l.length
    · have hi : i < s.Cols.length := by omega
      have hcol : 1 ≤ s.Cols[i] ∧ s.Cols[i] ≤ 4 := by
        unfold schemaB at hs
        rw [Bool.and_eq_true, List.all_eq_true] at hs
        exact of_decide_eq_true (hs.1 _ (List.getElem_mem hi))
      have hg : s.Cols.getD i 0 = s.Cols[i] := by rw [List.getD_eq_getElem?_getD, List.getElem?_eq_getElem hi]; rfl
      obtain ⟨c1, h1', rows, e1, k1, r1, r2⟩ := l6DrawRows_ok h s.Cols[i] (by omega) hc
      obtain ⟨ci', h', l', q1, q2, q3, q4⟩ := ih (i + 1) c1 h1' (l.set i rows) k1 (by rw [List.length_set]; exact hl) (by rw [List.length_set]; omega) (by rw [List.length_set]; omega) (fun t q ht hq => by
        by_cases e : t = i
        · subst e
          rw [List.getElem?_set_self (by omega)] at hq
          cases hq
          rw [hg]; exact ⟨r1, r2⟩
        · rw [List.getElem?_set_ne (fun e' => e e'.symm)] at hq
          exact hd t q (by omega) hq)
      refine ⟨ci', h', l', fun K => ?_, q2, q3, q4⟩
      rw [spec_l7DrawRight.l0, lenI_eq, decide_eq_true (by omega), cond_true]
      dsimp only
      rw [getO_nat, List.getElem?_eq_getElem hi, Option.bind_some, e1, Option.bind_some, getO_nat, List.getElem?_eq_getElem c, Option.bind_some, Option.bind_some, setI_nat, w64_succ (by omega)]
      exact q1 K
    · refine ⟨ci, h, l, fun K => ?_, hc, hl, fun t rows hq => hd t rows (by have := at_lt hq; omega) hq⟩
      rw [spec_l7DrawRight.l0, lenI_eq, decide_eq_false (by omega), cond_false]
theorem l7DrawRight_ok {b : List Int} {i : Int} (h : Int) (hc : CI b i) : ∃ i' h' s, spec_l7DrawRight.f (l1Cur.mk b i h) = some (l1Cur.mk b i' h', s) ∧ CI b i' ∧ DSt s := by
  unfold spec_l7DrawRight.f
  obtain ⟨c1, h1, s, e1, k1, l1, l2, l3⟩ := l6DrawSchema_ok h hc
  have hs : schemaB s = true := by
    unfold schemaB
    rw [decide_eq_true (by omega), Bool.and_true, List.all_eq_true]
    exact fun x hx => decide_eq_true (l3 x hx)
  rw [e1, Option.bind_some]
  dsimp only
  rw [spec_StoreNew_eq s (by unfold Schema_b IntS_b; omega) (by unfold sz_Schema sz_IntS; omega), if_pos hs, Option.bind_some, joinK_eq]
  dsimp only
  obtain ⟨c2, h2, l, e2, k2, m1, m2⟩ := l7DrawRight_l0 (l1Cur.mk b i h) s 0 (List.replicate s.Cols.length []) true hs (((lenI (List.replicate s.Cols.length ([] : List Row))) - 0).toNat + 1) 0 c1 h1 (List.replicate s.Cols.length []) k1 (by simp) (by omega) (by rw [lenI_eq]; simp) (fun t rows ht => by omega)
  rw [show ((0 : Nat) : Int) = 0 from rfl] at e2
  rw [e2]
  obtain ⟨c3, h3, x3, e3, k3, l3', u3, _⟩ := l1Below_ok h2 5 k2
  have := u3 (by omega)
  dsimp only at e3 ⊢
  rw [e3, Option.bind_some]
  refine ⟨_, _, _, rfl, k3, ?_, ⟨l3', by dsimp only; omega⟩, m2⟩
  unfold storeB
  dsimp only
  rw [hs, decide_eq_true (by omega), decide_eq_true m1]
  simp only [Bool.true_and]
  rw [allFrom_iff]
  intro t rows ht
  obtain ⟨p1, p2⟩ := m2 t rows ht
  have hlt := at_lt ht
  exact up_rowsB hs (by omega) (by omega) p2.1 fun r hr => (p2.2 r hr).rowB hs (by omega)

/-- A store, drawn somehow. -/
structure DSx (s : Store) : Prop where
  sb : SB s.Schema
  sz : sz_Store s ≤ 2100
  v : (0 ≤ s.Version ∧ s.Version ≤ 4) ∨ s.Version = -1 ∨ s.Version = 100000 ∨ s.Version = 100001
theorem DSx.b {s : Store} (h : DSx s) : Store_b s := store_of_sz (by have := h.sz; omega)
theorem sz_drop (l : List (List Row)) (n : Nat) : sz_RowSS (l.drop n) ≤ sz_RowSS l := by
  have h := sum_take_drop sz_RowS l n
  have p := sum_nonneg sz_RowS_0 (l.take n)
  unfold sz_RowSS
  rw [List.length_drop]
  omega
theorem l7Draw_ok {b : List Int} {i : Int} (h : Int) (hc : CI b i) : ∃ i' h' s, spec_l7Draw.f (l1Cur.mk b i h) = some (l1Cur.mk b i' h', s) ∧ CI b i' ∧ DSx s := by
  unfold spec_l7Draw.f
  obtain ⟨c1, h1, s, e1, k1, d1⟩ := l7DrawRight_ok h hc
  obtain ⟨s1, s2⟩ := store_small d1.ok
  have hlen := (store_len d1.ok).1
  have hpos : 0 < s.Tables.length := by
    have := (store_len d1.ok).2
    unfold schemaB at this
    rw [Bool.and_eq_true, decide_eq_true_eq] at this
    omega
  rw [bnd_some e1]
  dsimp only
  obtain ⟨c2, h2, x2, e2, k2, _⟩ := l1Below_ok h1 25 k1
  rw [bnd_some e2]
  dsimp only
  by_cases q0 : x2 = 0
  · obtain ⟨c3, h3, x3, e3, k3, m3⟩ := l1PickInt_ok (l := [-1, 100000, 100001]) h2 (by simp) k2
    rw [decide_eq_true q0, cond_true, Option.bind_some, bnd_some e3]
    simp only [List.mem_cons, List.not_mem_nil, or_false] at m3
    exact ⟨_, _, _, rfl, k3, d1.SB, by unfold sz_Store at *; dsimp only; omega, .inr m3⟩
  rw [decide_eq_false q0, cond_false]
  by_cases q1 : x2 = 1
  · have := sz_drop s.Tables 1
    rw [decide_eq_true q1, cond_true, lenI_eq, cutO_ok ⟨by omega, by omega, by omega⟩, Option.bind_some, show (s.Tables.take ((s.Tables.length : Int)).toNat).drop (1 : Int).toNat = s.Tables.drop 1 by rw [Int.toNat_natCast, List.take_length]; rfl]
    exact ⟨_, _, _, rfl, k2, d1.SB, by unfold sz_Store at *; dsimp only; omega, .inl d1.v⟩
  rw [decide_eq_false q1, cond_false]
  by_cases q2 : x2 = 2
  · obtain ⟨c3, h3, r, e3, k3, _, _, r3, _⟩ := l6DrawRow_ok h2 2 (by omega) k2
    have hz : sz_RowS (s.Tables[0] ++ [r]) ≤ sz_RowS s.Tables[0] + 3 := by
      unfold sz_RowS
      rw [sum_append]
      simp only [List.length_append, List.length_cons, List.length_nil, List.map_cons, List.map_nil, List.sum_cons, List.sum_nil]
      unfold sz_Row sz_IntS
      omega
    have hr0 := (d1.rows 0 _ (List.getElem?_eq_getElem hpos)).1
    have hm := sum_mem sz_RowS_0 (List.getElem_mem hpos)
    have hset := sum_set sz_RowS_0 (s.Tables[0] ++ [r]) s.Tables 0
    rw [decide_eq_true q2, cond_true, show (0 : Int) = ((0 : Nat) : Int) from rfl, getO_nat, List.getElem?_eq_getElem hpos, Option.bind_some, bnd_some e3]
    dsimp only
    rw [Option.bind_some, appO_ok (by simp only [List.length_cons, List.length_nil]; omega), Option.bind_some, Option.bind_some, setI_nat]
    refine ⟨_, _, _, rfl, k3, d1.SB, ?_, .inl d1.v⟩
    unfold sz_Store sz_RowSS at *
    dsimp only
    rw [List.length_set]
    have n0 := sz_RowS_0 s.Tables[0]
    have n1 := sz_Schema_0 s.Schema
    omega
  rw [decide_eq_false q2, cond_false]
  by_cases q3 : x2 = 3
  · obtain ⟨c3, h3, s', e3, k3, b3⟩ := l6DrawBad_ok h2 k2
    rw [decide_eq_true q3, cond_true, bnd_some e3]
    refine ⟨_, _, _, rfl, k3, b3, ?_, .inl d1.v⟩
    have := b3.1
    have := sz_Schema_0 s.Schema
    unfold sz_Store at *
    unfold sz_Schema sz_IntS at *
    dsimp only
    omega
  rw [decide_eq_false q3, cond_false]
  exact ⟨_, _, _, rfl, k2, d1.SB, by omega, .inl d1.v⟩

theorem spec_RowOk_eq (s : Schema) (t : Int) (r : Row) (hs : Schema_b s) (hr : Row_b r) : spec_RowOk.f s t r = some (rowB s t r) := by
  have hl : s.Cols.length ≤ 9223372036854775807 := hs
  have hrl : r.Cells.length ≤ 9223372036854775807 := hr
  unfold spec_RowOk.f rowB
  rw [spec_SchemaOk_eq _ hs, Option.bind_some, lenI_eq, w64_id (by omega), spec_l1In_eq, spec_l1In_eq]
  cases schemaB s with
  | false => rfl
  | true =>
    by_cases d : 0 ≤ t ∧ t ≤ (s.Cols.length : Int) - 1
    case neg => rw [decide_eq_false d]; rfl
    rw [decide_eq_true d, getO_Int d]
    by_cases d2 : 1 ≤ r.Id ∧ r.Id ≤ 999
    case neg => rw [decide_eq_false d2]; rfl
    rw [decide_eq_true d2]
    simp only [bo3_F, bo3_T, gd_true, Option.bind_some, Bool.true_and]
    by_cases d3 : (r.Cells.length : Int) = s.Cols.getD t.toNat 0
    case neg => rw [show decide (lenI r.Cells ≠ s.Cols.getD t.toNat 0) = true from decide_eq_true d3, decide_eq_false d3]; rfl
    rw [show decide (lenI r.Cells ≠ s.Cols.getD t.toNat 0) = false from decide_eq_false (fun h => h d3), decide_eq_true d3, cond_false, Bool.true_and]
    refine (loop_all (f := spec_RowOk.l0 r) (l := r.Cells) (fun _ n => decide (-1000000000 ≤ n ∧ n ≤ 1000000000)) (some false) (some true) (fun k i x hx => ?_) (fun k i hi => ?_) _ 0 (by omega) (by (try simp only [lenI_eq]); omega)).trans ?_
    · have hi := at_lt hx
      rw [spec_RowOk.l0, lenI_eq, decide_eq_true (by omega), cond_true, getO_nat, hx, Option.bind_some, spec_l1In_eq, Option.bind_some, bo3_not, w64_succ (by omega)]
      cases decide (-1000000000 ≤ x ∧ x ≤ 1000000000) <;> rfl
    · rw [spec_RowOk.l0, lenI_eq, decide_eq_false (by omega), cond_false]
    · rw [allFrom_zero]
      cases r.Cells.all fun n => decide (-1000000000 ≤ n ∧ n ≤ 1000000000) <;> rfl

theorem spec_RowsOk_eq (s : Schema) (t : Int) (rows : List Row) (hs : Schema_b s) (hr : RowS_b rows) : spec_RowsOk.f s t rows = some (rowsB s t rows) := by
  have hl : s.Cols.length ≤ 9223372036854775807 := hs
  obtain ⟨hrl, hr2⟩ := hr
  unfold spec_RowsOk.f rowsB
  simp only [joinK]
  refine (loop_all (f := spec_RowsOk.l0 s t rows _) (l := rows) (fun i r => rowB s t r && !(decide (0 < i) && decide (r.Id ≤ (rows.getD (i - 1) default).Id))) (some false) (some (schemaB s && decide (0 ≤ t ∧ t ≤ (s.Cols.length : Int) - 1) && decide (rows.length ≤ 24))) (fun k i x hx => ?_) (fun k i hi => ?_) _ 0 (by omega) (by (try simp only [lenI_eq]); omega)).trans ?_
  · have hi := at_lt hx
    rw [spec_RowsOk.l0, lenI_eq, decide_eq_true (by omega), cond_true, getO_nat, hx, Option.bind_some, spec_RowOk_eq _ _ _ hs (hr2 x (List.mem_of_getElem? hx)), Option.bind_some, prev_step hx (by omega), Option.bind_some, w64_succ (by omega)]
    rw [show decide (0 < (i : Int)) = decide (0 < i) from by simp]
    cases rowB s t x <;> cases decide (0 < i) <;> (try rfl)
    simp only [bo3_F, bo3_T, Bool.true_and, cond_true]
    by_cases e : x.Id ≤ (rows.getD (i - 1) default).Id
    · simp [e]
    · simp [e]
  · rw [spec_RowsOk.l0, lenI_eq, decide_eq_false (by omega), cond_false, spec_SchemaOk_eq _ hs, Option.bind_some]
    first | rw [impl_hasTable_eq _ _ hs] | rw [lenI_eq s.Cols, w64_id (by omega), spec_l1In_eq]
    have e24 : decide ((rows.length : Int) ≤ 24) = decide (rows.length ≤ 24) := by rw [decide_eq_decide]; omega
    simp only [lenI_eq, e24]
    generalize decide (0 ≤ t ∧ t ≤ (s.Cols.length : Int) - 1) = b1
    generalize decide (rows.length ≤ 24) = b2
    cases schemaB s <;> cases b1 <;> cases b2 <;> rfl
  · cases allFrom (fun i r => rowB s t r && !(decide (0 < i) && decide (r.Id ≤ (rows.getD (i - 1) default).Id))) rows 0 <;> rfl

theorem spec_version (v : Int) : spec_l1In.f v 0 100000 = some (decide (0 ≤ v ∧ v ≤ 100000)) := spec_l1In_eq _ _ _

theorem spec_StoreOk_eq (s : Store) (hb : Store_b s) : spec_StoreOk.f s = some (storeB s) := by
  obtain ⟨hs, ht, ht2⟩ := hb
  have hl : s.Schema.Cols.length ≤ 9223372036854775807 := hs
  unfold spec_StoreOk.f storeB
  rw [spec_SchemaOk_eq _ hs, Option.bind_some, spec_version]
  cases schemaB s.Schema with
  | false => rfl
  | true =>
    by_cases d : 0 ≤ s.Version ∧ s.Version ≤ 100000
    case neg => rw [decide_eq_false d]; rfl
    rw [decide_eq_true d]
    by_cases d2 : s.Tables.length = s.Schema.Cols.length
    case neg =>
      rw [show decide (lenI s.Tables ≠ lenI s.Schema.Cols) = true from decide_eq_true (by simp only [lenI_eq]; omega), decide_eq_false d2]
      rfl
    rw [show decide (lenI s.Tables ≠ lenI s.Schema.Cols) = false from decide_eq_false (by simp only [lenI_eq]; omega), decide_eq_true d2]
    simp only [bo3_F, bo3_T, gd_true, Option.bind_some, Bool.true_and, cond_false]
    refine (loop_all (f := spec_StoreOk.l0 s) (l := s.Tables) (fun i rows => rowsB s.Schema (i : Int) rows) (some false) (some true) (fun k i x hx => ?_) (fun k i hi => ?_) _ 0 (by omega) (by (try simp only [lenI_eq]); omega)).trans ?_
    · have hi := at_lt hx
      rw [spec_StoreOk.l0, lenI_eq, decide_eq_true (by omega), cond_true, getO_nat, hx, Option.bind_some, spec_RowsOk_eq _ _ _ hs (ht2 x (List.mem_of_getElem? hx)), Option.bind_some, bo3_not, w64_succ (by omega)]
      cases rowsB s.Schema i x <;> rfl
    · rw [spec_StoreOk.l0, lenI_eq, decide_eq_false (by omega), cond_false]
    · cases allFrom (fun i rows => rowsB s.Schema (i : Int) rows) s.Tables 0 <;> rfl

theorem spec_l6Rows_eq (l : List Row) (h : sz_RowS l ≤ 1099511627776) : spec_l6Rows.f l = some l := by
  unfold sz_RowS at h
  have p := sum_nonneg sz_Row_0 l
  unfold spec_l6Rows.f
  refine loop_copy (f := spec_l6Rows.l0 l) (l := l) some (fun k i x hx => ?_) (fun k s i hi => ?_) _ 0 (by omega) (by (try simp only [lenI_eq]); omega)
  · have hi := at_lt hx
    have hm := sum_mem sz_Row_0 (List.mem_of_getElem? hx)
    rw [spec_l6Rows.l0, lenI_eq, decide_eq_true (by omega), cond_true, getO_nat, hx, Option.bind_some, spec_l6Copy_eq x (by omega), Option.bind_some, Option.bind_some, appO_ok (by simp only [List.length_take, List.length_cons, List.length_nil]; omega), Option.bind_some, w64_succ (by omega)]
  · rw [spec_l6Rows.l0, lenI_eq, decide_eq_false (by omega), cond_false]

theorem spec_l7Copy_eq (s : Store) (h : sz_Store s ≤ 1099511627776) : spec_l7Copy.f s = some s := by
  unfold sz_Store sz_RowSS at h
  have p1 := sz_Schema_0 s.Schema
  have p2 := sum_nonneg sz_RowS_0 s.Tables
  unfold spec_l7Copy.f
  rw [spec_l7Schema_eq _ (by omega), Option.bind_some]
  refine loop_copy (f := spec_l7Copy.l0 s s.Schema) (l := s.Tables) (fun t => some ⟨s.Schema, s.Version, t⟩) (fun k i x hx => ?_) (fun k t i hi => ?_) _ 0 (by omega) (by (try simp only [lenI_eq]); omega)
  · have hi := at_lt hx
    have hm := sum_mem sz_RowS_0 (List.mem_of_getElem? hx)
    rw [spec_l7Copy.l0, lenI_eq, decide_eq_true (by omega), cond_true, getO_nat, hx, Option.bind_some, spec_l6Rows_eq x (by omega), Option.bind_some, Option.bind_some, appO_ok (by simp only [List.length_take, List.length_cons, List.length_nil]; omega), Option.bind_some, w64_succ (by omega)]
  · rw [spec_l7Copy.l0, lenI_eq, decide_eq_false (by omega), cond_false]

theorem spec_MutOk_eq (s : Schema) (m : Mut) (hs : Schema_b s) (hm : Mut_b m) : spec_MutOk.f s m = some (mutB s m) := by
  have hl : s.Cols.length ≤ 9223372036854775807 := hs
  unfold spec_MutOk.f mutB
  by_cases e : m.Kind = 3
  · rw [decide_eq_true e, cond_true, cond_true, spec_SchemaOk_eq _ hs, Option.bind_some, spec_l1In_eq, spec_l1In_eq, lenI_eq, lenI_eq, w64_id (by omega), gd_of, Option.bind_some, gd_of, Option.bind_some]
    have e2 : decide ((m.Row.Cells.length : Int) = 0) = decide (m.Row.Cells.length = 0) := by congr 1; apply propext; omega
    rw [e2]
    unfold tableB
    cases schemaB s <;> cases decide (0 ≤ m.Table ∧ m.Table ≤ (s.Cols.length : Int) - 1) <;> cases decide (1 ≤ m.Row.Id ∧ m.Row.Id ≤ 999) <;> cases decide (m.Row.Cells.length = 0) <;> rfl
  · rw [decide_eq_false e, cond_false, cond_false, spec_l1In_eq, Option.bind_some, spec_RowOk_eq _ _ _ hs hm, gd_of, Option.bind_some]
    cases decide (1 ≤ m.Kind ∧ m.Kind ≤ 2) <;> cases rowB s m.Table m.Row <;> rfl

theorem spec_l7Do_eq (s : Store) (m : Mut) (hs : storeB s = true) (hm : mutB s.Schema m = true) (hz : sz_Store s ≤ 1099511627776) (hz2 : sz_Mut m ≤ 1099511627776) : spec_l7Do.f s m = some (mutStep s m) := by
  obtain ⟨h0, h1, h2⟩ := mut_table hs hm
  have hz' := hz
  unfold sz_Store sz_RowSS at hz'
  unfold sz_Mut at hz2
  have p1 := sz_Schema_0 s.Schema
  have hx : s.Tables[m.Table.toNat]? = some (tableOf s m.Table) := by unfold tableOf; rw [List.getD_eq_getElem?_getD, List.getElem?_eq_getElem h1]; rfl
  have hm' := sum_mem sz_RowS_0 (List.mem_of_getElem? hx)
  have hzr : sz_RowS (tableOf s m.Table) ≤ 1099511627776 := by omega
  have hzr' := hzr
  unfold sz_RowS at hzr'
  have p2 := sum_nonneg sz_Row_0 (tableOf s m.Table)
  unfold spec_l7Do.f mutStep setTable
  rw [getO_pos h0, hx, Option.bind_some, spec_RowAt_eq _ _ (by omega), Option.bind_some, rowAt_0, lenI_eq]
  generalize tableOf s m.Table = rows at *
  have e24 : decide ((rows.length : Int) = 24) = decide (rows.length = 24) := by congr 1; apply propext; omega
  have hset : ∀ v, (some (setI s.Tables m.Table v)) = some (s.Tables.set m.Table.toNat v) := fun v => rfl
  rw [e24]
  simp only [spec_l6Copy_eq _ hz2, spec_RowPut_eq _ _ hzr hz2, spec_RowDrop_eq _ _ hzr, Option.bind_some, hset]
  by_cases c : rows.findIdx (isId m.Row.Id) < rows.length
  · have hg : rows[rows.findIdx (isId m.Row.Id)]? = some (rows.getD (rows.findIdx (isId m.Row.Id)) ⟨0, []⟩) := by rw [List.getD_eq_getElem?_getD, List.getElem?_eq_getElem c]; rfl
    have hm2 := sum_mem sz_Row_0 (List.mem_of_getElem? hg)
    rw [idxI_pos c, decide_eq_true (show (0 : Int) ≤ (rows.findIdx (isId m.Row.Id) : Int) by omega), getO_nat, hg]
    simp only [Option.bind_some, spec_l6Copy_eq _ (show sz_Row (rows.getD (rows.findIdx (isId m.Row.Id)) ⟨0, []⟩) ≤ 1099511627776 by omega)]
    rcases h2 with h2 | h2 | h2 <;> simp [h2, c, bo3_F, bo3_T, noChange]
  · rw [idxI_neg c]
    rcases h2 with h2 | h2 | h2
    · by_cases d : rows.length = 24 <;> simp [h2, c, d, bo3_F, bo3_T, noChange]
    · simp [h2, c, bo3_F, bo3_T, noChange]
    · simp [h2, c, bo3_F, bo3_T, noChange]

theorem spec_MutDo_eq (s : Store) (m : Mut) (bs : Store_b s) (bm : Mut_b m) (hz : sz_Store s ≤ 1099511627776) (hz2 : sz_Mut m ≤ 1099511627776) : spec_MutDo.f s m = some (mutDoF s m) := by
  unfold spec_MutDo.f mutDoF
  rw [spec_StoreOk_eq _ bs, Option.bind_some, bo3_not]
  cases hs : storeB s with
  | false => rfl
  | true =>
    rw [spec_MutOk_eq _ _ bs.1 bm, Option.bind_some, bo3_not]
    cases hm : mutB s.Schema m with
    | false => rw [spec_l7Copy_eq _ hz]; rfl
    | true =>
      rw [spec_l7Copy_eq _ hz]
      simp only [Bool.not_true, cond_false, if_true, Option.bind_some, spec_l7Do_eq _ _ hs hm hz hz2, bo3_not]
      unfold mutStep
      dsimp only
      split <;> rfl

theorem l1Once_ok {b : List Int} {i : Int} (h : Int) (n : Int) (hc : CI b i) : ∃ i' h' x, spec_l1Once.f (l1Cur.mk b i h) n = some (l1Cur.mk b i' h', x) ∧ CI b i' := by
  unfold spec_l1Once.f
  obtain ⟨i1, h1, x1, e1, k1, _⟩ := l1Below_ok h n hc
  rw [e1, Option.bind_some]
  exact ⟨_, _, _, rfl, k1⟩

theorem spec_l1Max_eq (x y : Int) : spec_l1Max.f x y = some (max x y) := by
  unfold spec_l1Max.f
  by_cases h : y < x
  · rw [decide_eq_true h, cond_true, show max x y = x by omega]
  · rw [decide_eq_false h, cond_false, show max x y = y by omega]

/-- What a drawn change is, at most. -/
def MB (m : Mut) : Prop := m.Row.Cells.length ≤ 5
theorem MB.b {m : Mut} (h : MB m) : Mut_b m ∧ sz_Mut m ≤ 5 := by
  unfold MB at h
  exact ⟨by unfold Mut_b Row_b IntS_b; omega, by unfold sz_Mut sz_Row sz_IntS; omega⟩
theorem l7DrawMut_end (b : List Int) (t y16 y17 y18 y15 : Int) (l : List Int) (hl : l.length ≤ 5) (hc : CI b y15) : ∃ i' h' m, ((spec_l1Below.f (l1Cur.mk b y15 y16) 25).bind fun r43 =>
  bif (decide (r43.2 = 0)) then (
  (spec_l1Below.f (l1Cur.mk b r43.1.i r43.1.h) 5).bind fun r45 =>
  some ((l1Cur.mk b r45.1.i r45.1.h), (Mut.mk r45.2 t (Row.mk y18 l))))
  else (
  bif (decide (r43.2 = 1)) then (
  (spec_l1Below.f (l1Cur.mk b r43.1.i r43.1.h) 5).bind fun r47 =>
  some ((l1Cur.mk b r47.1.i r47.1.h), (Mut.mk y17 (w64 (r47.2 - 1)) (Row.mk y18 l))))
  else (
  bif (decide (r43.2 = 2)) then (
  (some [0, 999, 1000]).bind fun l49 =>
  (spec_l1PickInt.f (l1Cur.mk b r43.1.i r43.1.h) l49).bind fun r50 =>
  some ((l1Cur.mk b r50.1.i r50.1.h), (Mut.mk y17 t (Row.mk r50.2 l))))
  else (
  some ((l1Cur.mk b r43.1.i r43.1.h), (Mut.mk y17 t (Row.mk y18 l))))))) = some (l1Cur.mk b i' h', m) ∧ CI b i' ∧ MB m := by
  obtain ⟨c1, h1, x1, e1, k1, _⟩ := l1Below_ok y16 25 hc
  rw [e1, Option.bind_some]
  dsimp only
  by_cases q0 : x1 = 0
  · obtain ⟨c2, h2, x2, e2, k2, _⟩ := l1Below_ok h1 5 k1
    rw [decide_eq_true q0, cond_true, e2, Option.bind_some]
    exact ⟨_, _, _, rfl, k2, hl⟩
  rw [decide_eq_false q0, cond_false]
  by_cases q1 : x1 = 1
  · obtain ⟨c2, h2, x2, e2, k2, _⟩ := l1Below_ok h1 5 k1
    rw [decide_eq_true q1, cond_true, e2, Option.bind_some]
    exact ⟨_, _, _, rfl, k2, hl⟩
  rw [decide_eq_false q1, cond_false]
  by_cases q2 : x1 = 2
  · obtain ⟨c2, h2, x2, e2, k2, _⟩ := l1PickInt_ok (l := [0, 999, 1000]) h1 (by simp) k1
    rw [decide_eq_true q2, cond_true, Option.bind_some, e2, Option.bind_some]
    exact ⟨_, _, _, rfl, k2, hl⟩
  rw [decide_eq_false q2, cond_false]
  exact ⟨_, _, _, rfl, k1, hl⟩
theorem l7DrawMut_ok {b : List Int} {i : Int} (h : Int) (s : Store) (hs : SB s.Schema) (hc : CI b i) : ∃ i' h' m, spec_l7DrawMut.f (l1Cur.mk b i h) s = some (l1Cur.mk b i' h', m) ∧ CI b i' ∧ MB m := by
  unfold spec_l7DrawMut.f
  rw [bnd_some (spec_l1Max_eq _ _)]
  obtain ⟨c1, h1, x1, e1, k1, l1, _⟩ := l1Below_ok h (max (lenI s.Tables) 1) hc
  rw [bnd_some e1]
  dsimp only
  by_cases q : bo3 (decide ((lenI s.Tables) ≤ x1)) true (decide ((lenI s.Schema.Cols) ≤ x1)) = true
  · rw [q, cond_true]
    exact ⟨_, _, _, rfl, k1, by simp [MB]⟩
  rw [Bool.not_eq_true] at q
  rw [q, cond_false]
  rw [bo3_or, Bool.or_eq_false_iff, decide_eq_false_iff_not, decide_eq_false_iff_not, lenI_eq, lenI_eq] at q
  have ht : x1.toNat < s.Tables.length := by omega
  have hcl : x1.toNat < s.Schema.Cols.length := by omega
  have hcol := hs.2 _ (List.getElem_mem hcl)
  obtain ⟨c2, h2, x2, e2, k2, l2, u2, _⟩ := l1Below_ok h1 3 k1
  obtain ⟨c3, h3, r, e3, k3, r1, r2, r3, r4⟩ := l6DrawRow_ok h2 s.Schema.Cols[x1.toNat] (by omega) k2
  have hrl : r.Cells.length ≤ 5 := by omega
  rw [bnd_some e2]
  dsimp only
  rw [getO_pos l1, List.getElem?_eq_getElem hcl, Option.bind_some, bnd_some e3]
  dsimp only
  rw [joinK_eq]
  have key : ∀ (y15 y16 y17 y18 : Int), CI b y15 → ∃ i' h' m, (joinK (fun (y40 : List Int) =>
    (spec_l1Below.f (l1Cur.mk b y15 y16) 25).bind fun r43 =>
    bif (decide (r43.2 = 0)) then (
    (spec_l1Below.f (l1Cur.mk b r43.1.i r43.1.h) 5).bind fun r45 =>
    some ((l1Cur.mk b r45.1.i r45.1.h), (Mut.mk r45.2 x1 (Row.mk y18 y40))))
    else (
    bif (decide (r43.2 = 1)) then (
    (spec_l1Below.f (l1Cur.mk b r43.1.i r43.1.h) 5).bind fun r47 =>
    some ((l1Cur.mk b r47.1.i r47.1.h), (Mut.mk y17 (w64 (r47.2 - 1)) (Row.mk y18 y40))))
    else (
    bif (decide (r43.2 = 2)) then (
    (some [0, 999, 1000]).bind fun l49 =>
    (spec_l1PickInt.f (l1Cur.mk b r43.1.i r43.1.h) l49).bind fun r50 =>
    some ((l1Cur.mk b r50.1.i r50.1.h), (Mut.mk y17 x1 (Row.mk r50.2 y40))))
    else (
    some ((l1Cur.mk b r43.1.i r43.1.h), (Mut.mk y17 x1 (Row.mk y18 y40))))))) (fun K41 =>
    bif (decide (y17 = 3)) then (
    K41 [])
    else (
    K41 r.Cells))) = some (l1Cur.mk b i' h', m) ∧ CI b i' ∧ MB m := by
    intro y15 y16 y17 y18 hy
    rw [joinK_eq]
    cases decide (y17 = 3) with
    | true => exact l7DrawMut_end b x1 y16 y17 y18 y15 [] (by simp) hy
    | false => exact l7DrawMut_end b x1 y16 y17 y18 y15 r.Cells hrl hy
  generalize hd : decide ((w64 (1 + x2)) ≠ 1) = d
  have hg : ∃ x20, gd d (getO s.Tables x1) = some x20 ∧ (d = true → s.Tables[x1.toNat] = x20) := by
    cases d with
    | true => rw [gd_true, getO_pos l1, List.getElem?_eq_getElem ht]; exact ⟨_, rfl, fun _ => rfl⟩
    | false => exact ⟨_, gd_false _, fun h => by cases h⟩
  obtain ⟨x20, e20, hx20⟩ := hg
  rw [bnd_some e20]
  generalize hd2 : bo3 d (decide (0 < lenI x20)) false = d2
  cases d2 with
  | false =>
    rw [gd_false, Option.bind_some]
    rw [bo3_F, cond_false]
    exact key _ _ _ _ k3
  | true =>
    rw [bo3_and, Bool.and_eq_true, decide_eq_true_eq] at hd2
    obtain ⟨c4, h4, x4, e4, k4⟩ := l1Once_ok h3 9 k3
    rw [gd_true, bnd_some e4]
    dsimp only
    cases x4 with
    | true => exact key _ _ _ _ k4
    | false =>
      have e := hx20 hd2.1
      rw [show bo3 true (bo3 false false true) false = true from rfl, cond_true, getO_pos l1, List.getElem?_eq_getElem ht, Option.bind_some, e]
      obtain ⟨c5, h5, x5, e5, k5, l5, u5, _⟩ := l1Below_ok h4 (lenI x20) k4
      have := u5 hd2.2
      have ct : ∀ x y : Int, ci3 true x y = x := fun _ _ => rfl
      simp only [ct]
      rw [bnd_some e5]
      dsimp only
      rw [getO_pos l5, List.getElem?_eq_getElem (by rw [lenI_eq] at this; omega), Option.bind_some]
      exact key _ _ _ _ k5

/-- What comes of a batch: a few changes of rows that are right. -/
def CB (c : Change) : Prop := c.Old.Cells.length ≤ 4 ∧ c.New.Cells.length ≤ 4
theorem CB.b {c : Change} (h : CB c) : Change_b c ∧ sz_Change c ≤ 8 := by
  obtain ⟨h1, h2⟩ := h
  exact ⟨⟨by unfold Row_b IntS_b; omega, by unfold Row_b IntS_b; omega⟩, by unfold sz_Change sz_Row sz_IntS; omega⟩
theorem CBs {l : List Change} {k : Nat} (hl : l.length ≤ k) (h : ∀ c ∈ l, CB c) : sz_ChangeS l ≤ 9 * k ∧ ∀ c ∈ l, Change_b c := by
  have := sum_le (s := sz_Change) (B := 8) (l := l) fun x hx => (h x hx).b.2
  exact ⟨by unfold sz_ChangeS; omega, fun x hx => (h x hx).b.1⟩
theorem mutDo_CB {s : Store} {m : Mut} (h : (mutDoF s m).2.2 = true) : CB (mutDoF s m).2.1 := by
  obtain ⟨h1, h2, h3, _⟩ := mutDo_ok h
  obtain ⟨t1, t2, t3⟩ := mut_table h1 h2
  rw [h3] at h ⊢
  unfold mutStep at *
  dsimp only at *
  split at h
  · simp at h
  · rename_i c
    rw [if_neg c]
    have hrow : ∀ i, ((tableOf s m.Table).getD i ⟨0, []⟩).Cells.length ≤ 4 := fun i => by
      rw [List.getD_eq_getElem?_getD]
      cases hx : (tableOf s m.Table)[i]? with
      | none => simp
      | some r =>
        have := rowB_sz (rows_row (table_rows h1 t2) (i := i) (r := r) (by rw [Int.toNat_of_nonneg t1]; exact hx))
        unfold sz_Row sz_IntS at this
        simp only [Option.getD_some]; omega
    refine ⟨?_, ?_⟩
    · dsimp only
      split
      · simp
      · exact hrow _
    · dsimp only
      split
      · simp
      · rename_i hk
        unfold mutB at h2
        rw [decide_eq_false hk, cond_false, Bool.and_eq_true] at h2
        have := rowB_sz h2.2
        unfold sz_Row sz_IntS at this
        omega
theorem runMuts_CB : ∀ {l : List Mut} {s : Store} {acc : List Change} {t : Store} {cs : List Change}, (∀ c ∈ acc, CB c) → runMuts s acc l = some (t, cs) → cs.length = acc.length + l.length ∧ ∀ c ∈ cs, CB c
  | [], s, acc, t, cs, h, he => by rw [runMuts] at he; cases he; exact ⟨rfl, h⟩
  | m :: l, s, acc, t, cs, h, he => by
    rw [runMuts] at he
    split at he
    · rename_i hok
      obtain ⟨h1, h2⟩ := runMuts_CB (snoc_all h (mutDo_CB hok)) he
      exact ⟨by rw [h1]; simp; omega, h2⟩
    · cases he
theorem batch_CB (s : Store) (l : List Mut) : (batchF s l).2.1.length ≤ l.length ∧ ∀ c ∈ (batchF s l).2.1, CB c := by
  unfold batchF
  split
  · split
    · cases hr : runMuts s [] l with
      | none => simp
      | some q =>
        obtain ⟨t, cs⟩ := q
        obtain ⟨h1, h2⟩ := runMuts_CB (by simp) hr
        exact ⟨by dsimp only; rw [h1]; simp, h2⟩
    · simp
  · simp

theorem mutDo_CB' (s : Store) (m : Mut) : CB (mutDoF s m).2.1 := by
  cases h : (mutDoF s m).2.2 with
  | true => exact mutDo_CB h
  | false =>
    have e : (mutDoF s m).2.1 = noChange := by
      unfold mutDoF at *
      split at h
      · split at h
        · unfold mutStep at *
          dsimp only at *
          split at h
          · simp_all
          · simp at h
        · simp_all
      · simp_all
    rw [e]
    simp [CB, noChange]
theorem DrawBack_ok (code : List Int) (hl : (code.length : Int) ≤ 1048576) : ∃ s c, spec_DrawBack.f code = some (s, c) ∧ Store_b s ∧ sz_Store s ≤ 5000 ∧ CB c := by
  unfold spec_DrawBack.f
  obtain ⟨h0, e0, k0⟩ := l1New_ok code hl
  rw [bnd_some e0]
  obtain ⟨i1, h1, s, e1, k1, d1⟩ := l7Draw_ok h0 k0
  have hz := d1.sz
  rw [bnd_some e1]
  dsimp only
  obtain ⟨i2, h2, m, e2, k2, mb⟩ := l7DrawMut_ok h1 s d1.sb k1
  obtain ⟨bm, zm⟩ := mb.b
  have hcb := mutDo_CB' s m
  obtain ⟨p1, p2, _⟩ := mutDo_b s m d1.b bm
  rw [bnd_some e2]
  dsimp only
  rw [bnd_some (spec_MutDo_eq s m d1.b bm (by omega) (by omega))]
  have n0 := sz_Store_0 s
  cases hok : (mutDoF s m).2.2 with
  | false =>
    rw [gd_false, Option.bind_some]
    exact ⟨_, _, rfl, d1.b, by omega, hcb⟩
  | true =>
    obtain ⟨i3, h3, x3, e3, k3⟩ := l1Once_ok h2 6 k2
    rw [gd_true, bnd_some e3]
    cases x3 with
    | true => exact ⟨_, _, rfl, d1.b, by omega, hcb⟩
    | false => exact ⟨_, _, rfl, p1, by omega, hcb⟩

theorem impl_copyInts_eq (l : List Int) (h : (l.length : Int) ≤ 1099511627776) : impl_copyInts.f l = some l := by
  unfold impl_copyInts.f
  rw [appO_ok (by simp only [List.length_nil]; omega), Option.bind_some, List.nil_append]

theorem impl_copyRow_eq (r : Row) (h : sz_Row r ≤ 1099511627776) : impl_copyRow.f r = some r := by
  unfold impl_copyRow.f
  rw [impl_copyInts_eq _ (row_len h), Option.bind_some]

theorem impl_copyRows_eq (l : List Row) (h : sz_RowS l ≤ 1099511627776) : impl_copyRows.f l = some l := by
  unfold sz_RowS at h
  have p := sum_nonneg sz_Row_0 l
  unfold impl_copyRows.f
  refine loop_copy (f := impl_copyRows.l0 l) (l := l) some (fun k i x hx => ?_) (fun k s i hi => ?_) _ 0 (by omega) (by (try simp only [lenI_eq]); omega)
  · have hi := at_lt hx
    have hm := sum_mem sz_Row_0 (List.mem_of_getElem? hx)
    rw [impl_copyRows.l0, lenI_eq, decide_eq_true (by omega), cond_true, getO_nat, hx, Option.bind_some, impl_copyRow_eq x (by omega), Option.bind_some, Option.bind_some, appO_ok (by simp only [List.length_take, List.length_cons, List.length_nil]; omega), Option.bind_some, w64_succ (by omega)]
  · rw [impl_copyRows.l0, lenI_eq, decide_eq_false (by omega), cond_false]

theorem impl_copyStore_eq (s : Store) (h : sz_Store s ≤ 1099511627776) : impl_copyStore.f s = some s := by
  unfold sz_Store sz_RowSS at h
  have p1 := sz_Schema_0 s.Schema
  have p2 := sum_nonneg sz_RowS_0 s.Tables
  unfold impl_copyStore.f
  rw [impl_copyInts_eq _ (by unfold sz_Schema sz_IntS at p1 h; omega), Option.bind_some]
  refine loop_copy (f := impl_copyStore.l0 s s.Schema.Cols) (l := s.Tables) (fun t => some ⟨s.Schema, s.Version, t⟩) (fun k i x hx => ?_) (fun k t i hi => ?_) _ 0 (by omega) (by (try simp only [lenI_eq]); omega)
  · have hi := at_lt hx
    have hm := sum_mem sz_RowS_0 (List.mem_of_getElem? hx)
    rw [impl_copyStore.l0, lenI_eq, decide_eq_true (by omega), cond_true, getO_nat, hx, Option.bind_some, impl_copyRows_eq x (by omega), Option.bind_some, Option.bind_some, appO_ok (by simp only [List.length_take, List.length_cons, List.length_nil]; omega), Option.bind_some, w64_succ (by omega)]
  · rw [impl_copyStore.l0, lenI_eq, decide_eq_false (by omega), cond_false]



theorem slices_IndexFunc_impl_Row__impl_RowAt_1_eq (l : List Row) (id : Int) (h : l.length ≤ 9223372036854775807) : slices_IndexFunc_impl_Row__impl_RowAt_1.f l id = some (rowAtF l id 0) := by
  have key : ∀ (k i : Nat), i ≤ l.length → l.length < i + k → slices_IndexFunc_impl_Row__impl_RowAt_1.l0 l id k i = some (rowAtF (l.drop i) id i) := by
    intro k
    induction k with
    | zero => intro i h h'; omega
    | succ k ih =>
      intro i h h'
      by_cases hi : i < l.length
      · have hx : l[i]? = some l[i] := List.getElem?_eq_getElem hi
        rw [slices_IndexFunc_impl_Row__impl_RowAt_1.l0, lenI_eq, decide_eq_true (by omega), cond_true, getO_nat, hx, Option.bind_some, impl_RowAt_1.f, Option.bind_some, List.drop_eq_getElem_cons hi, rowAtF, w64_succ (by omega)]
        by_cases e : (l[i]).Id = id
        · rw [decide_eq_true e, cond_true, if_pos e]
        · rw [decide_eq_false e, cond_false, if_neg e]
          exact ih (i + 1) (by omega) (by omega)
      · rw [slices_IndexFunc_impl_Row__impl_RowAt_1.l0, lenI_eq, decide_eq_false (by omega), cond_false, List.drop_eq_nil_of_le (by omega), rowAtF]
  have := key (((lenI l) - 0).toNat + 1) 0 (by omega) (by simp only [lenI_eq]; omega)
  rw [List.drop_zero] at this
  exact this

theorem impl_RowAt_eq (l : List Row) (id : Int) (h : l.length ≤ 9223372036854775807) : impl_RowAt.f l id = some (rowAtF l id 0) := by
  unfold impl_RowAt.f
  rw [slices_IndexFunc_impl_Row__impl_RowAt_1_eq l id h, Option.bind_some]

theorem slices_Equal_int_eq (a b : List Int) (ha : IntS_b a) (hb : IntS_b b) : slices_Equal_int.f a b = some (decide (a = b)) := by
  unfold IntS_b at ha hb
  unfold slices_Equal_int.f
  by_cases hl : a.length = b.length
  · rw [decide_eq_false (by simp only [lenI_eq]; omega), cond_false]
    refine (loop_eq (f := slices_Equal_int.l0 a b) hl (some false) (some true) (fun k i x y hx hy => ?_) (fun k i hi => ?_) _ (by simp only [lenI_eq]; omega)).trans ?_
    · have hi := at_lt hx
      rw [slices_Equal_int.l0, lenI_eq, decide_eq_true (by omega), cond_true, getO_nat, hx, Option.bind_some, getO_nat, hy, Option.bind_some, w64_succ (by omega)]
      by_cases c : x = y
      · simp [c]
      · simp [c]
    · rw [slices_Equal_int.l0, lenI_eq, decide_eq_false (by omega), cond_false]
    · cases decide (a = b) <;> rfl
  · rw [decide_eq_true (by simp only [lenI_eq]; omega), cond_true, decide_eq_false (fun e => hl (by rw [e]))]

theorem impl_RowSame_eq (a b : Row) (ha : Row_b a) (hb : Row_b b) : impl_RowSame.f a b = some (decide (a = b)) := by
  unfold impl_RowSame.f
  simp only [slices_Equal_int_eq _ _ ha hb, gd_of, Option.bind_some, row_eq]
  cases decide (a.Id = b.Id) <;> cases decide (a.Cells = b.Cells) <;> rfl



theorem impl_RowDrop_eq (l : List Row) (id : Int) (h : sz_RowS l ≤ 1099511627776) : impl_RowDrop.f l id = some (rowDropF l id) := by
  have h' := h
  unfold sz_RowS at h'
  have p := sum_nonneg sz_Row_0 l
  unfold impl_RowDrop.f
  rw [impl_copyRows_eq _ h, Option.bind_some, impl_RowAt_eq _ _ (by omega), Option.bind_some, rowAt_0]
  by_cases c : l.findIdx (isId id) < l.length
  · rw [idxI_pos c, decide_eq_true (by omega), cond_true, slices_Delete_impl_Row.f, delO, w64_succ (by omega), if_pos ⟨by omega, by omega, by omega⟩, Option.bind_some]
    unfold rowDropF
    rw [List.eraseIdx_eq_take_drop_succ, Int.toNat_natCast, Int.toNat_natCast]
  · rw [idxI_neg c, decide_eq_false (by omega), cond_false]
    unfold rowDropF
    rw [List.eraseIdx_of_length_le (by omega)]





theorem slices_IndexFunc_impl_Row__impl_RowPut_1_eq (l : List Row) (r : Row) (h : l.length ≤ 9223372036854775807) : slices_IndexFunc_impl_Row__impl_RowPut_1.f l r = some (idxI (isGt r.Id) l) := by
  have key : ∀ (k i : Nat), i ≤ l.length → l.length < i + k → ¬ (l.take i).findIdx (isGt r.Id) < i → slices_IndexFunc_impl_Row__impl_RowPut_1.l0 l r k i = some (idxI (isGt r.Id) l) := by
    intro k
    induction k with
    | zero => intro i h h'; omega
    | succ k ih =>
      intro i h0 h' hn
      by_cases hi : i < l.length
      · have hx : l[i]? = some l[i] := List.getElem?_eq_getElem hi
        have hf := findIdx_take (isGt r.Id) l hx
        rw [if_neg hn] at hf
        rw [slices_IndexFunc_impl_Row__impl_RowPut_1.l0, lenI_eq, decide_eq_true (by omega), cond_true, getO_nat, hx, Option.bind_some, impl_RowPut_1.f, Option.bind_some, w64_succ (by omega)]
        cases e : decide (r.Id < l[i].Id) with
        | true =>
          have e' : isGt r.Id l[i] = true := e
          rw [if_pos e'] at hf
          have hl : (l.take (i + 1)).length = i + 1 := by rw [List.length_take]; omega
          have : l.findIdx (isGt r.Id) = i := by
            conv => lhs; rw [← List.take_append_drop (i + 1) l]
            rw [List.findIdx_append, hf, hl, if_pos (by omega)]
          rw [cond_true, idxI_pos (by omega), this]
        | false =>
          have e' : ¬ isGt r.Id l[i] = true := by rw [isGt, e]; simp
          rw [if_neg e'] at hf
          rw [cond_false]
          exact ih (i + 1) (by omega) (by omega) (by omega)
      · rw [List.take_of_length_le (by omega)] at hn
        rw [slices_IndexFunc_impl_Row__impl_RowPut_1.l0, lenI_eq, decide_eq_false (by omega), cond_false, idxI_neg (by omega)]
  exact key (((lenI l) - 0).toNat + 1) 0 (by omega) (by simp only [lenI_eq]; omega) (by omega)

theorem impl_RowPut_eq (l : List Row) (r : Row) (h : sz_RowS l ≤ 1099511627776) (hr : sz_Row r ≤ 1099511627776) : impl_RowPut.f l r = some (rowPutF l r) := by
  have h' := h
  unfold sz_RowS at h'
  have p := sum_nonneg sz_Row_0 l
  unfold impl_RowPut.f
  rw [impl_copyRows_eq _ h, Option.bind_some, impl_RowAt_eq _ _ (by omega), Option.bind_some, rowAt_0]
  unfold rowPutF
  by_cases c : l.findIdx (isId r.Id) < l.length
  · rw [if_pos c, idxI_pos c, decide_eq_true (by omega), cond_true, impl_copyRow_eq _ hr, Option.bind_some, getO_nat, List.getElem?_eq_getElem c, Option.bind_some, Option.bind_some, setI_nat]
  · rw [if_neg c, idxI_neg c, decide_eq_false (by omega), cond_false, slices_IndexFunc_impl_Row__impl_RowPut_1_eq _ _ (by omega), Option.bind_some]
    simp only [joinK]
    have ins : ∀ y : Nat, y ≤ l.length → ((impl_copyRow.f r).bind fun r11 => (some [r11]).bind fun l12 => (slices_Insert_impl_Row.f l (y : Int) l12).bind fun r13 => some r13) = some (l.take y ++ [r] ++ l.drop y) := by
      intro y hy
      rw [impl_copyRow_eq _ hr, Option.bind_some, Option.bind_some, slices_Insert_impl_Row.f, insO, if_pos ⟨rfl, by omega, by omega, by simp; omega, by simp; omega⟩, Option.bind_some, Int.toNat_natCast]
    by_cases d : l.findIdx (isGt r.Id) < l.length
    · rw [idxI_pos d, decide_eq_false (by omega), cond_false]
      exact ins _ (by omega)
    · have hle := List.findIdx_le_length (xs := l) (p := isGt r.Id)
      have e : l.findIdx (isGt r.Id) = l.length := by omega
      rw [idxI_neg d, decide_eq_true (by omega), cond_true, lenI_eq, e]
      exact ins _ (Nat.le_refl _)

theorem impl_swapped_eq (s : Store) (c : Change) (hs : storeB s = true) (hb : Change_b c) (hz : sz_Change c ≤ 1048576) : ∃ t, impl_swapped.f s c.Table c.Had c.Old c.Has c.New = some (t, turnB s c && storeB (turnF s c)) ∧ ((turnB s c && storeB (turnF s c)) = true → t = turnF s c) := by
  have sb := store_small hs
  have hl := sb.1.2.1
  have n1 := sz_Row_0 c.Old
  have n2 := sz_Row_0 c.New
  have tz := tableOf_sz s c.Table
  have tb := tableOf_b sb.1 c.Table
  have dz := rowDrop_sz (tableOf s c.Table) c.Old.Id
  have db := rowDrop_b tb c.Old.Id
  have so := impl_StoreOk_eq _ (turn_b hs hz).1
  unfold sz_Change at hz
  unfold impl_swapped.f turnB
  rw [impl_copyStore_eq _ (by omega), Option.bind_some, impl_hasTable_eq _ _ sb.1.1, Option.bind_some]
  by_cases ht : tableB s.Schema c.Table = true
  · obtain ⟨h0, h1⟩ := (tableB_iff hs).1 ht
    have hset : ∀ v, (some (setI s.Tables c.Table v)) = some (s.Tables.set c.Table.toNat v) := fun v => rfl
    have ht' := ht
    unfold tableB at ht'
    rw [ht', ht, getO_pos h0, table_get h1]
    simp only [bo3_T, bo3_F, Option.bind_some, hset, impl_RowDrop_eq _ _ (show sz_RowS (tableOf s c.Table) ≤ 1099511627776 by omega), impl_RowAt_eq _ _ db.1, impl_RowAt_eq _ _ tb.1, rowAt_0, idx_RowAt, impl_RowPut_eq (tableOf s c.Table) c.New (by omega) (by omega), impl_RowPut_eq (rowDropF (tableOf s c.Table) c.Old.Id) c.New (by omega) (by omega)]
    have hso : impl_StoreOk.f (Store.mk s.Schema s.Version (s.Tables.set c.Table.toNat (turnRows (tableOf s c.Table) c))) = some (storeB (turnF s c)) := so
    have hte : Store.mk s.Schema s.Version (s.Tables.set c.Table.toNat (turnRows (tableOf s c.Table) c)) = turnF s c := rfl
    cases hHad : c.Had with
    | false =>
      cases hHas : c.Has with
      | false =>
        have e : turnRows (tableOf s c.Table) c = tableOf s c.Table := by unfold turnRows; simp [hHad, hHas]
        rw [e] at hso hte
        simp only [cond_false, so, hte, Option.bind_some]
        exact ⟨_, rfl, fun _ => rfl⟩
      | true =>
        have e : turnRows (tableOf s c.Table) c = rowPutF (tableOf s c.Table) c.New := by unfold turnRows; simp [hHad, hHas]
        rw [e] at hso hte
        simp only [cond_false, cond_true, so, hte, Option.bind_some, Bool.not_false, Bool.not_true, Bool.true_or, Bool.false_or, Bool.and_true, Bool.true_and, if_false, Bool.false_eq_true]
        cases hasId (tableOf s c.Table) c.New.Id with
        | true => exact ⟨_, rfl, fun h => by simp at h⟩
        | false => exact ⟨_, rfl, fun _ => rfl⟩
    | true =>
      have hg : (gd (bo3 (decide (idxI (isId c.Old.Id) (tableOf s c.Table) < 0)) false true) (getO (tableOf s c.Table) (idxI (isId c.Old.Id) (tableOf s c.Table)))).bind (fun x7 => (gd (bo3 (decide (idxI (isId c.Old.Id) (tableOf s c.Table) < 0)) false true) (impl_RowSame.f x7 c.Old)).bind fun r8 => some (bo3 (decide (idxI (isId c.Old.Id) (tableOf s c.Table) < 0)) true (bo3 r8 false true))) = some (!thereB (tableOf s c.Table) c.Old) := by
        unfold thereB
        by_cases c1 : (tableOf s c.Table).findIdx (isId c.Old.Id) < (tableOf s c.Table).length
        · rw [idxI_pos c1, decide_eq_false (by omega), bo3_F, gd_true, getO_nat, List.getElem?_eq_getElem c1, Option.bind_some, gd_true, impl_RowSame_eq _ _ (tb.2 _ (List.getElem_mem c1)) hb.1, Option.bind_some, bo3_F, bo3_not]
          simp
        · rw [idxI_neg c1, decide_eq_true (by omega), bo3_T, gd_false, Option.bind_some, gd_false, Option.bind_some, bo3_T, List.getElem?_eq_none (by omega)]
          simp
      have hbind : ∀ {β : Type} (K : Bool → Option β), ((gd (bo3 (decide (idxI (isId c.Old.Id) (tableOf s c.Table) < 0)) false true) (getO (tableOf s c.Table) (idxI (isId c.Old.Id) (tableOf s c.Table)))).bind fun x7 => (gd (bo3 (decide (idxI (isId c.Old.Id) (tableOf s c.Table) < 0)) false true) (impl_RowSame.f x7 c.Old)).bind fun r8 => K (bo3 (decide (idxI (isId c.Old.Id) (tableOf s c.Table) < 0)) true (bo3 r8 false true))) = K (!thereB (tableOf s c.Table) c.Old) := fun K => by
        have := congrArg (fun o => o.bind K) hg
        simpa only [Option.bind_assoc, Option.bind_some] using this
      simp only [cond_true, Bool.not_false, Bool.not_true, Bool.true_or, Bool.false_or, Bool.and_true, Bool.true_and, if_true]
      refine (?_ : ∃ t, _ = _ ∧ _)
      have hK := hbind (fun b => bif b then some ((Store.mk (Schema.mk []) 0 []), false) else bif c.Has then (bif hasId (rowDropF (tableOf s c.Table) c.Old.Id) c.New.Id then some ((Store.mk (Schema.mk []) 0 []), false) else (impl_StoreOk.f (Store.mk s.Schema s.Version (s.Tables.set c.Table.toNat (rowPutF (rowDropF (tableOf s c.Table) c.Old.Id) c.New)))).bind fun r25 => some ((Store.mk s.Schema s.Version (s.Tables.set c.Table.toNat (rowPutF (rowDropF (tableOf s c.Table) c.Old.Id) c.New))), r25)) else (impl_StoreOk.f (Store.mk s.Schema s.Version (s.Tables.set c.Table.toNat (rowDropF (tableOf s c.Table) c.Old.Id)))).bind fun r27 => some ((Store.mk s.Schema s.Version (s.Tables.set c.Table.toNat (rowDropF (tableOf s c.Table) c.Old.Id))), r27))
      rw [hK]
      cases thereB (tableOf s c.Table) c.Old with
      | false => exact ⟨_, rfl, fun h => by simp at h⟩
      | true =>
        cases hHas : c.Has with
        | false =>
          have e : turnRows (tableOf s c.Table) c = rowDropF (tableOf s c.Table) c.Old.Id := by unfold turnRows; simp [hHad, hHas]
          rw [e] at hso hte
          simp only [Bool.not_true, cond_false, so, hte, Option.bind_some]
          exact ⟨_, rfl, fun _ => rfl⟩
        | true =>
          have e : turnRows (tableOf s c.Table) c = rowPutF (rowDropF (tableOf s c.Table) c.Old.Id) c.New := by unfold turnRows; simp [hHad, hHas]
          rw [e] at hso hte
          simp only [Bool.not_true, cond_false, cond_true, so, hte, Option.bind_some]
          cases hasId (rowDropF (tableOf s c.Table) c.Old.Id) c.New.Id with
          | true => exact ⟨_, rfl, fun h => by simp at h⟩
          | false => exact ⟨_, rfl, fun _ => rfl⟩
  · have hf : tableB s.Schema c.Table = false := by simpa using ht
    have hf' := hf
    unfold tableB at hf'
    rw [hf', hf]
    exact ⟨_, rfl, fun h => by simp at h⟩

/-- A store is what its rows are. -/
theorem up_mem_eq : ∀ {a b : List Row}, UpR a → UpR b → (∀ x, x ∈ a ↔ x ∈ b) → a = b
  | [], [], _, _, _ => rfl
  | [], y :: b, _, _, h => by have := (h y).2 (List.mem_cons_self ..); simp at this
  | x :: a, [], _, _, h => by have := (h x).1 (List.mem_cons_self ..); simp at this
  | x :: a, y :: b, ha, hb, h => by
    obtain ⟨h1, h2⟩ := List.pairwise_cons.1 ha
    obtain ⟨k1, k2⟩ := List.pairwise_cons.1 hb
    have e : x = y := by
      rcases List.mem_cons.1 ((h x).1 (List.mem_cons_self ..)) with e | m
      · exact e
      · rcases List.mem_cons.1 ((h y).2 (List.mem_cons_self ..)) with e | m'
        · exact e.symm
        · have := k1 x m; have := h1 y m'; omega
    subst e
    rw [up_mem_eq h2 k2 fun z => ⟨fun m => by
      rcases List.mem_cons.1 ((h z).1 (List.mem_cons_of_mem _ m)) with e | m'
      · have := h1 z m; rw [e] at this; omega
      · exact m', fun m => by
      rcases List.mem_cons.1 ((h z).2 (List.mem_cons_of_mem _ m)) with e | m'
      · have := k1 z m; rw [e] at this; omega
      · exact m'⟩]
theorem up_inj {l : List Row} (h : UpR l) {x y : Row} (hx : x ∈ l) (hy : y ∈ l) (e : x.Id = y.Id) : x = y := by
  obtain ⟨i, hi⟩ := List.getElem?_of_mem hx
  obtain ⟨j, hj⟩ := List.getElem?_of_mem hy
  have hil := at_lt hi
  have hjl := at_lt hj
  rcases Nat.lt_trichotomy i j with h' | h' | h'
  · have := List.pairwise_iff_getElem.1 h i j hil hjl h'
    rw [(List.getElem?_eq_some_iff.1 hi).2, (List.getElem?_eq_some_iff.1 hj).2] at this
    omega
  · subst h'; rw [hi] at hj; exact Option.some.inj hj
  · have := List.pairwise_iff_getElem.1 h j i hjl hil h'
    rw [(List.getElem?_eq_some_iff.1 hi).2, (List.getElem?_eq_some_iff.1 hj).2] at this
    omega
theorem up_drop {l : List Row} (h : UpR l) (id : Int) : UpR (rowDropF l id) := h.sublist (List.eraseIdx_sublist ..)
theorem mem_drop_iff {l : List Row} (h : UpR l) {id : Int} {x : Row} : x ∈ rowDropF l id ↔ x ∈ l ∧ x.Id ≠ id := by
  unfold rowDropF
  constructor
  · intro hx
    refine ⟨List.mem_of_mem_eraseIdx hx, fun e => ?_⟩
    obtain ⟨i, hne, hi⟩ := List.mem_eraseIdx_iff_getElem?.1 hx
    have hlt : l.findIdx (isId id) ≤ i := up_find _ hi (decide_eq_true e)
    have hil := at_lt hi
    have hk : l.findIdx (isId id) < l.length := by omega
    have e2 := findIdx_isId hk
    have := List.pairwise_iff_getElem.1 h _ _ hk hil (by omega)
    rw [(List.getElem?_eq_some_iff.1 hi).2] at this
    omega
  · rintro ⟨hx, hne⟩
    obtain ⟨i, hi⟩ := List.getElem?_of_mem hx
    refine List.mem_eraseIdx_iff_getElem?.2 ⟨i, fun e => ?_, hi⟩
    subst e
    have hk := at_lt hi
    have := findIdx_isId hk
    rw [(List.getElem?_eq_some_iff.1 hi).2] at this
    exact hne this
theorem mem_put_iff {l : List Row} {r x : Row} (hn : hasId l r.Id = false) : x ∈ rowPutF l r ↔ x = r ∨ x ∈ l := by
  refine ⟨mem_rowPut, ?_⟩
  unfold hasId at hn
  have := of_decide_eq_false hn
  unfold rowPutF
  rw [if_neg this]
  rintro (rfl | hx)
  · exact List.mem_append_left _ (List.mem_append_right _ (List.mem_singleton.2 rfl))
  · rw [← List.take_append_drop (l.findIdx (isGt r.Id)) l] at hx
    rcases List.mem_append.1 hx with hx | hx
    · exact List.mem_append_left _ (List.mem_append_left _ hx)
    · exact List.mem_append_right _ hx
theorem hasId_iff {l : List Row} {id : Int} : hasId l id = true ↔ ∃ x ∈ l, x.Id = id := by
  unfold hasId
  rw [decide_eq_true_eq, List.findIdx_lt_length]
  exact ⟨fun ⟨x, h, e⟩ => ⟨x, h, of_decide_eq_true e⟩, fun ⟨x, h, e⟩ => ⟨x, h, decide_eq_true e⟩⟩
theorem hasId_false {l : List Row} {id : Int} : hasId l id = false ↔ ∀ x ∈ l, x.Id ≠ id := by
  rw [← Bool.not_eq_true, hasId_iff]
  exact ⟨fun h x hx e => h ⟨x, hx, e⟩, fun h ⟨x, hx, e⟩ => h x hx e⟩
theorem there_iff {l : List Row} (h : UpR l) {r : Row} : thereB l r = true ↔ r ∈ l := by
  refine ⟨fun hr => (there_has hr).2, fun hr => ?_⟩
  unfold thereB
  rw [decide_eq_true_eq]
  have hk : l.findIdx (isId r.Id) < l.length := List.findIdx_lt_length.2 ⟨r, hr, decide_eq_true rfl⟩
  rw [List.getElem?_eq_getElem hk]
  exact congrArg some (up_inj h (List.getElem_mem hk) hr (findIdx_isId hk))
/-- The change that takes one back. -/
def flip (c : Change) : Change := ⟨c.Table, c.Has, c.Had, c.New, c.Old⟩
theorem up_turn {l : List Row} (h : UpR l) (c : Change) : UpR (turnRows l c) := by
  unfold turnRows
  dsimp only
  split
  · split
    · exact up_put (up_drop h _) _
    · exact up_put h _
  · split
    · exact up_drop h _
    · exact h
theorem up_of_rowsB {s : Schema} {t : Int} {l : List Row} (h : rowsB s t l = true) : UpR l := by
  unfold UpR
  rw [List.pairwise_iff_getElem]
  have hs : ∀ i (hi : i + 1 < l.length), l[i].Id < l[i + 1].Id := fun i hi => by
    unfold rowsB at h
    rw [Bool.and_eq_true] at h
    have := allFrom_iff.1 h.1 (i + 1) _ (List.getElem?_eq_getElem hi)
    rw [Bool.and_eq_true, Bool.not_eq_true', ← Bool.not_eq_true] at this
    have h2 := this.2
    simp only [Bool.and_eq_true, decide_eq_true_eq, Nat.add_sub_cancel] at h2
    rw [List.getD_eq_getElem?_getD, List.getElem?_eq_getElem (by omega), Option.getD_some] at h2
    omega
  intro i j hi hj hij
  obtain ⟨k, rfl⟩ : ∃ k, j = i + 1 + k := ⟨j - i - 1, by omega⟩
  clear hij
  induction k with
  | zero => exact hs i hj
  | succ k ih =>
    have h1 := ih (by omega)
    have h2 := hs (i + 1 + k) (by omega)
    have e : i + 1 + (k + 1) = i + 1 + k + 1 := by omega
    simp only [e]
    omega
/-- Taken back and made again the rows are as they were. -/
theorem turn_back {l : List Row} (h : UpR l) (c : Change) (hN : c.Has = true → c.New ∈ l) (hO : c.Had = true → hasId (if c.Has = true then rowDropF l c.New.Id else l) c.Old.Id = false) : turnRows (turnRows l (flip c)) c = l := by
  refine up_mem_eq (up_turn (up_turn h _) _) h fun x => ?_
  unfold turnRows flip
  dsimp only
  cases hh : c.Has with
  | true =>
    have hN := hN hh
    have hd := up_drop h c.New.Id
    simp only [if_true]
    cases hd' : c.Had with
    | true =>
      have hO := hO hd'
      rw [hh, if_pos rfl] at hO
      simp only [if_true]
      have hp := up_put hd c.Old
      have hfree : hasId (rowDropF (rowPutF (rowDropF l c.New.Id) c.Old) c.Old.Id) c.New.Id = false := hasId_false.2 fun y hy => by
        obtain ⟨y1, y2⟩ := (mem_drop_iff hp).1 hy
        rcases (mem_put_iff hO).1 y1 with rfl | y1
        · exact absurd rfl y2
        · exact ((mem_drop_iff h).1 y1).2
      rw [mem_put_iff hfree, mem_drop_iff hp, mem_put_iff hO, mem_drop_iff h]
      constructor
      · rintro (rfl | ⟨rfl | ⟨h1, _⟩, h2⟩)
        · exact hN
        · exact absurd rfl h2
        · exact h1
      · intro hx
        by_cases e : x.Id = c.New.Id
        · exact .inl (up_inj h hx hN e)
        · exact .inr ⟨.inr ⟨hx, e⟩, hasId_false.1 hO x ((mem_drop_iff h).2 ⟨hx, e⟩)⟩
    | false =>
      simp only [Bool.false_eq_true, if_false]
      have hfree : hasId (rowDropF l c.New.Id) c.New.Id = false := hasId_false.2 fun y hy => ((mem_drop_iff h).1 hy).2
      rw [mem_put_iff hfree, mem_drop_iff h]
      constructor
      · rintro (rfl | ⟨h1, _⟩)
        · exact hN
        · exact h1
      · intro hx
        by_cases e : x.Id = c.New.Id
        · exact .inl (up_inj h hx hN e)
        · exact .inr ⟨hx, e⟩
  | false =>
    simp only [Bool.false_eq_true, if_false]
    cases hd' : c.Had with
    | true =>
      have hO := hO hd'
      rw [hh, if_neg (by simp)] at hO
      simp only [if_true]
      rw [mem_drop_iff (up_put h c.Old), mem_put_iff hO]
      constructor
      · rintro ⟨rfl | h1, h2⟩
        · exact absurd rfl h2
        · exact h1
      · exact fun hx => ⟨.inr hx, hasId_false.1 hO x hx⟩
    | false => simp

def backF (s : Store) (c : Change) : Store × Bool := if storeB s = true then (if (turnB s (flip c) && storeB (turnF s (flip c))) = true then (turnF s (flip c), true) else (s, false)) else (noStore, false)
theorem flip_b {c : Change} (h : Change_b c) : Change_b (flip c) ∧ sz_Change (flip c) = sz_Change c := ⟨⟨h.2, h.1⟩, by unfold sz_Change flip; dsimp only; omega⟩
theorem back_parts {s : Store} {c : Change} (h : (backF s c).2 = true) : storeB s = true ∧ turnB s (flip c) = true ∧ storeB (turnF s (flip c)) = true ∧ (backF s c).1 = turnF s (flip c) := by
  unfold backF at *
  by_cases h1 : storeB s = true
  · rw [if_pos h1] at h ⊢
    by_cases h2 : (turnB s (flip c) && storeB (turnF s (flip c))) = true
    · rw [if_pos h2] at h ⊢
      rw [Bool.and_eq_true] at h2
      exact ⟨h1, h2.1, h2.2, rfl⟩
    · rw [if_neg h2] at h; cases h
  · rw [if_neg h1] at h; cases h
theorem rowB_pos {s : Schema} {t : Int} {r : Row} (h : rowB s t r = true) : 0 < r.Cells.length := by
  have hc := row_cells h
  unfold rowB at h
  simp only [Bool.and_eq_true, decide_eq_true_eq] at h
  obtain ⟨⟨⟨⟨hs, ht⟩, _⟩, _⟩, _⟩ := h
  unfold schemaB at hs
  rw [Bool.and_eq_true, List.all_eq_true] at hs
  have hlt : t.toNat < s.Cols.length := by omega
  have := of_decide_eq_true (hs.1 _ (List.getElem_mem hlt))
  rw [List.getD_eq_getElem?_getD, List.getElem?_eq_getElem hlt, Option.getD_some] at hc
  omega
theorem back_rows {s : Store} {c : Change} (h : (backF s c).2 = true) : (c.Had = true → 0 < c.Old.Cells.length) ∧ (c.Has = true → 0 < c.New.Cells.length) := by
  obtain ⟨h1, h2, h3, _⟩ := back_parts h
  have h2' := h2
  unfold turnB at h2'
  simp only [Bool.and_eq_true] at h2'
  obtain ⟨⟨ht, hN⟩, _⟩ := h2'
  have hN : (!c.Has || thereB (tableOf s c.Table) c.New) = true := hN
  refine ⟨fun e => rowB_pos (turn_row h1 (c := flip c) ht h3 e), fun e => ?_⟩
  rw [e] at hN
  exact rowB_pos (there_row h1 (t := c.Table) ht (r := c.New) (by simpa using hN))
theorem back_again {s : Store} {c : Change} (h : (backF s c).2 = true) : (turnF (backF s c).1 c).Tables = s.Tables ∧ (backF s c).1.Schema = s.Schema := by
  obtain ⟨h1, h2, h3, h4⟩ := back_parts h
  rw [h4]
  refine ⟨?_, rfl⟩
  unfold turnB at h2
  simp only [Bool.and_eq_true] at h2
  obtain ⟨⟨ht, hN⟩, hO⟩ := h2
  have ht : tableB s.Schema c.Table = true := ht
  have hN : (!c.Has || thereB (tableOf s c.Table) c.New) = true := hN
  have hO : (!c.Had || !hasId (if c.Has = true then rowDropF (tableOf s c.Table) c.New.Id else tableOf s c.Table) c.Old.Id) = true := hO
  obtain ⟨t0, t1⟩ := (tableB_iff h1).1 ht
  have hup := up_of_rowsB (table_rows h1 t1)
  rw [Int.toNat_of_nonneg t0] at hup
  have htab : tableOf (turnF s (flip c)) c.Table = turnRows (tableOf s c.Table) (flip c) := by
    show ((s.Tables.set c.Table.toNat _).getD c.Table.toNat []) = _
    rw [List.getD_eq_getElem?_getD, List.getElem?_set_self t1]
    rfl
  have hb := turn_back hup c (fun e => by
    rw [e] at hN
    exact (there_has (by simpa using hN)).2) (fun e => by
    rw [e] at hO
    simpa using hO)
  show (s.Tables.set c.Table.toNat _).set c.Table.toNat (turnRows (tableOf (turnF s (flip c)) c.Table) c) = s.Tables
  rw [htab, hb, List.set_set]
  unfold tableOf
  rw [List.getD_eq_getElem?_getD, List.getElem?_eq_getElem t1, Option.getD_some, List.set_getElem_self]

theorem impl_Back_eq (s : Store) (c : Change) (bs : Store_b s) (hz : sz_Store s ≤ 1099511627776) (hb : Change_b c) (hc : sz_Change c ≤ 1048576) : impl_Back.f s c = some (backF s c) := by
  unfold impl_Back.f backF
  rw [bnd_some (impl_StoreOk_eq s bs)]
  cases h : storeB s with
  | false => rfl
  | true =>
    obtain ⟨b2, z2⟩ := flip_b hb
    obtain ⟨t, e, ht⟩ := impl_swapped_eq s (flip c) h b2 (by omega)
    have e' : impl_swapped.f s c.Table c.Has c.New c.Had c.Old = some (t, turnB s (flip c) && storeB (turnF s (flip c))) := e
    rw [show bo3 true false true = false from rfl, cond_false, bnd_some e', if_pos rfl]
    cases hq : (turnB s (flip c) && storeB (turnF s (flip c))) with
    | true =>
      rw [ht hq]
      rfl
    | false =>
      rw [show bo3 (t, false).2 false true = true from rfl, cond_true, bnd_some (impl_copyStore_eq s hz)]
      rfl

theorem spec_RowSame_eq (a b : Row) (ha : Row_b a) (hb : Row_b b) : spec_RowSame.f a b = some (decide (a = b)) := by
  have h1 : a.Cells.length ≤ 9223372036854775807 := ha
  unfold spec_RowSame.f
  rw [row_eq]
  by_cases c : a.Id = b.Id
  case neg => simp [c, bo3]
  by_cases hl : a.Cells.length = b.Cells.length
  case neg => rw [decide_eq_true (show lenI a.Cells ≠ lenI b.Cells by simp only [lenI_eq]; omega), bo3_or, Bool.or_true, cond_true, decide_eq_false (show ¬ a.Cells = b.Cells from fun e => hl (by rw [e])), Bool.and_false]
  rw [decide_eq_false (show ¬ lenI a.Cells ≠ lenI b.Cells by simp only [lenI_eq]; omega), decide_eq_false (show ¬ a.Id ≠ b.Id from fun e => e c), show bo3 false true false = false from rfl, cond_false, decide_eq_true c, Bool.true_and]
  refine (loop_eq (f := spec_RowSame.l0 a b) hl (some false) (some true) (fun k i x y hx hy => ?_) (fun k i hi => ?_) _ (by simp only [lenI_eq]; omega)).trans ?_
  · have hi := at_lt hx
    rw [spec_RowSame.l0, lenI_eq, decide_eq_true (by omega), cond_true, getO_nat, hx, Option.bind_some, getO_nat, hy, Option.bind_some, w64_succ (by omega)]
    by_cases c : x = y
    · simp [c]
    · simp [c]
  · rw [spec_RowSame.l0, lenI_eq, decide_eq_false (by omega), cond_false]
  · cases decide (a.Cells = b.Cells) <;> rfl

theorem spec_l7There_eq (s : Store) (t : Int) (r : Row) (hs : storeB s = true) (ht : tableB s.Schema t = true) (hr : Row_b r) : spec_l7There.f s t r = some (thereB (tableOf s t) r) := by
  obtain ⟨h0, h1⟩ := (tableB_iff hs).1 ht
  have hb := (store_small hs).1
  have hl := hb.2.1
  have hb2 := tableOf_b hb t
  unfold spec_l7There.f thereB
  rw [spec_l1In_eq, Option.bind_some, lenI_eq, w64_id (by omega), decide_eq_true (by omega), bo3_not, Bool.not_true, cond_false, getO_pos h0, table_get h1, Option.bind_some, spec_RowAt_eq _ _ hb2.1, Option.bind_some, rowAt_0, idx_RowAt, hasId]
  by_cases c : (tableOf s t).findIdx (isId r.Id) < (tableOf s t).length
  · rw [decide_eq_true c, gd_true, idxI_pos c, getO_nat, List.getElem?_eq_getElem c, Option.bind_some, gd_true, spec_RowSame_eq _ _ (hb2.2 _ (List.getElem_mem c)) hr, Option.bind_some, bo3_T]
    simp
  · rw [decide_eq_false c, gd_false, Option.bind_some, gd_false, Option.bind_some, bo3_F, List.getElem?_eq_none (by omega)]
    simp

theorem spec_l7Turn_eq (s : Store) (c : Change) (hs : storeB s = true) (hb : Change_b c) (hz : sz_Change c ≤ 1048576) : spec_l7Turn.f s c = some (if turnB s c = true then (turnF s c, true) else (s, false)) := by
  have sb := store_small hs
  have hl := sb.1.2.1
  have n1 := sz_Row_0 c.Old
  have n2 := sz_Row_0 c.New
  have tz := tableOf_sz s c.Table
  have tb := tableOf_b sb.1 c.Table
  have dz := rowDrop_sz (tableOf s c.Table) c.Old.Id
  have db := rowDrop_b tb c.Old.Id
  unfold sz_Change at hz
  unfold spec_l7Turn.f turnB
  rw [spec_l1In_eq, Option.bind_some, lenI_eq, w64_id (by omega)]
  by_cases ht : tableB s.Schema c.Table = true
  · obtain ⟨h0, h1⟩ := (tableB_iff hs).1 ht
    have hset : ∀ v, (some (setI s.Tables c.Table v)) = some (s.Tables.set c.Table.toNat v) := fun v => rfl
    rw [ht, decide_eq_true (by omega), spec_l7There_eq _ _ _ hs ht hb.1, getO_pos h0, table_get h1]
    simp only [bo3_T, bo3_F, Option.bind_some, hset, spec_RowDrop_eq _ _ (show sz_RowS (tableOf s c.Table) ≤ 1099511627776 by omega), spec_RowAt_eq _ _ db.1, spec_RowAt_eq _ _ tb.1, rowAt_0, idx_RowAt, spec_RowPut_eq (tableOf s c.Table) c.New (by omega) (by omega), spec_RowPut_eq (rowDropF (tableOf s c.Table) c.Old.Id) c.New (by omega) (by omega)]
    unfold turnF turnRows setTable
    cases c.Had with
    | false =>
      cases c.Has with
      | false => rfl
      | true =>
        simp only [bo3_F, gd_false, Option.bind_some, cond_false, cond_true, Bool.not_false, Bool.not_true, Bool.true_or, Bool.false_or, Bool.and_true, Bool.true_and, if_true, if_false, Bool.false_eq_true]
        cases hasId (tableOf s c.Table) c.New.Id <;> rfl
    | true =>
      simp only [bo3_T, gd_true, Option.bind_some, cond_false, cond_true, Bool.not_false, Bool.not_true, Bool.true_or, Bool.false_or, Bool.and_true, Bool.true_and, if_true, if_false, Bool.false_eq_true]
      cases thereB (tableOf s c.Table) c.Old with
      | false => rfl
      | true =>
        cases c.Has with
        | false => rfl
        | true =>
          simp only [bo3_T, bo3_F, Option.bind_some, cond_false, cond_true, Bool.not_false, Bool.not_true, Bool.true_or, Bool.false_or, Bool.and_true, Bool.true_and, if_true, if_false, Bool.false_eq_true]
          cases hasId (rowDropF (tableOf s c.Table) c.Old.Id) c.New.Id <;> rfl
  · have hf : tableB s.Schema c.Table = false := by simpa using ht
    have := mt (tableB_iff hs).2 ht
    rw [hf, decide_eq_false (by omega)]
    rfl

theorem spec_Back_eq (s : Store) (c : Change) (bs : Store_b s) (hz : sz_Store s ≤ 1099511627776) (hb : Change_b c) (hc : sz_Change c ≤ 1048576) : spec_Back.f s c = some (backF s c) := by
  unfold spec_Back.f backF
  rw [bnd_some (spec_StoreOk_eq s bs)]
  cases h : storeB s with
  | false => rfl
  | true =>
    obtain ⟨b2, z2⟩ := flip_b hb
    have e := spec_l7Turn_eq s (flip c) h b2 (by omega)
    have e' : spec_l7Turn.f s (Change.mk c.Table c.Has c.Had c.New c.Old) = some (if turnB s (flip c) = true then (turnF s (flip c), true) else (s, false)) := e
    rw [show bo3 true false true = false from rfl, cond_false, bnd_some (spec_l7Copy_eq s hz), bnd_some e', if_pos rfl]
    have fb := (turn_b h (c := flip c) (by omega)).1
    cases hq : turnB s (flip c) with
    | true =>
      rw [if_pos rfl]
      dsimp only
      rw [show bo3 (bo3 true false true) false true = true from rfl, gd_true, bnd_some (spec_StoreOk_eq _ fb)]
      cases hq2 : storeB (turnF s (flip c)) with
      | true => rfl
      | false =>
        rw [show bo3 (bo3 true false true) true (bo3 false false true) = true from rfl, cond_true, bnd_some (spec_l7Copy_eq s hz)]
        rfl
    | false =>
      rw [if_neg (by simp)]
      dsimp only
      rw [show bo3 (bo3 false false true) false true = false from rfl, gd_false, Option.bind_some, show ∀ x, bo3 (bo3 false false true) true x = true from fun _ => rfl, cond_true, bnd_some (spec_l7Copy_eq s hz)]
      rfl

theorem DrawStoreNew_ok (code : List Int) (hl : (code.length : Int) ≤ 1048576) : ∃ s, spec_DrawStoreNew.f code = some s ∧ SB s := by
  unfold spec_DrawStoreNew.f
  obtain ⟨h0, e0, k0⟩ := l1New_ok code hl
  rw [bnd_some e0]
  obtain ⟨i1, h1, s, e1, k1, d1⟩ := l6DrawBad_ok h0 k0
  rw [bnd_some e1]
  exact ⟨_, rfl, d1⟩

theorem storeB_new (s : Schema) : storeB ⟨s, 0, List.replicate s.Cols.length []⟩ = schemaB s := by
  unfold storeB
  dsimp only
  rw [List.length_replicate, decide_eq_true rfl, decide_eq_true (by omega)]
  cases hs : schemaB s with
  | false => rfl
  | true =>
    simp only [Bool.and_true, Bool.true_and]
    rw [allFrom_iff]
    intro i x hx
    rw [List.getElem?_replicate] at hx
    split at hx
    · rename_i hi
      cases hx
      unfold rowsB
      rw [hs, decide_eq_true (by omega)]
      rfl
    · cases hx
theorem impl_StoreNew_eq (s : Schema) (hb : s.Cols.length ≤ 1000) : impl_StoreNew.f s = some (if schemaB s = true then (⟨s, 0, List.replicate s.Cols.length []⟩, true) else (noStore, false)) := by
  unfold impl_StoreNew.f
  have sb : Store_b ⟨s, 0, List.replicate s.Cols.length []⟩ := ⟨by unfold Schema_b IntS_b; dsimp only; omega, by dsimp only; rw [List.length_replicate]; omega, fun x hx => by rw [(List.mem_replicate.1 hx).2]; simp [RowS_b]⟩
  rw [bnd_some (impl_copyInts_eq _ (by omega)), lenI_eq, mkO_ok (by omega), Option.bind_some, Int.toNat_natCast, show Schema.mk s.Cols = s from rfl, bnd_some (impl_StoreOk_eq _ sb), storeB_new]
  cases schemaB s <;> rfl

theorem laws_big_eq (l : List Int) : laws_big.f l = some (decide (1048576 < (l.length : Int))) := by unfold laws_big.f; rw [lenI_eq]

theorem impl_noRow_eq (r : Row) : impl_noRow.f r = some (zeroB r) := by
  unfold impl_noRow.f zeroB
  rw [bo3_and, show decide (lenI r.Cells = 0) = decide (r.Cells.length = 0) from decide_eq_decide.2 (by rw [lenI_eq]; omega)]

theorem impl_changeFits_eq (s : Schema) (c : Change) (hs : Schema_b s) (hb : Change_b c) : impl_changeFits.f s c = some (fitsB c && tableB s c.Table && (!c.Had || rowB s c.Table c.Old) && (!c.Has || rowB s c.Table c.New)) := by
  unfold impl_changeFits.f fitsB tableB
  rw [impl_RowOk_eq _ _ _ hs hb.1, impl_RowOk_eq _ _ _ hs hb.2, impl_noRow_eq, impl_noRow_eq, impl_hasTable_eq _ _ hs]
  simp only [gd_of, Option.bind_some]
  cases c.Had <;> cases c.Has <;> cases rowB s c.Table c.Old <;> cases rowB s c.Table c.New <;> cases zeroB c.Old <;> cases zeroB c.New <;> cases decide (0 ≤ c.Table ∧ c.Table ≤ (s.Cols.length : Int) - 1) <;> rfl

theorem impl_Forward_l0 (s : Store) (l : List Change) (bs : Schema_b s.Schema) (hv : 0 ≤ s.Version ∧ s.Version ≤ 100000) (hl : l.length ≤ 5) (hc : ∀ c ∈ l, Change_b c ∧ sz_Change c ≤ 1048576) : ∀ (k i : Nat) (o : Store), i ≤ l.length → l.length < i + k → storeB o = true → o.Schema = s.Schema → o.Version = s.Version →
    impl_Forward.l0 s l k o.Schema.Cols o.Version o.Tables i = (match runCh o (l.drop i) with
      | some t => some (⟨t.Schema, s.Version + 1, t.Tables⟩, true)
      | none => some (noStore, false)) := by
  intro k
  induction k with
  | zero => intro i o h h'; omega
  | succ k ih =>
    intro i o h h' hs he hve
    by_cases hi : i < l.length
    · have hx : l[i]? = some l[i] := List.getElem?_eq_getElem hi
      obtain ⟨m1, m2⟩ := hc _ (List.getElem_mem hi)
      have eo : (Store.mk (Schema.mk o.Schema.Cols) o.Version o.Tables) = o := rfl
      obtain ⟨t, hsw, hst⟩ := impl_swapped_eq o l[i] hs m1 m2
      rw [impl_Forward.l0, lenI_eq, decide_eq_true (by omega), cond_true, getO_nat, hx, Option.bind_some, eo, w64_succ (by omega), List.drop_eq_getElem_cons hi, runCh, impl_changeFits_eq _ _ bs m1, Option.bind_some, hsw, stepB, bo3_not]
      generalize hcc : l[i] = c at *
      cases hS : turnB o c && storeB (turnF o c) with
      | true =>
        rw [hS] at hst
        obtain rfl := hst rfl
        rw [Bool.and_eq_true] at hS
        obtain ⟨h1, h2⟩ := hS
        obtain ⟨q1, q2, q3, q4⟩ := turn_b hs m2
        have ht : tableB o.Schema c.Table = true := by
          unfold turnB at h1
          simp only [Bool.and_eq_true] at h1
          exact h1.1.1
        have hO : (!c.Had || rowB o.Schema c.Table c.Old) = true := by
          unfold turnB at h1
          simp only [Bool.and_eq_true] at h1
          cases hH : c.Had with
          | false => rfl
          | true =>
            have := h1.1.2
            rw [hH] at this
            simp only [Bool.not_true, Bool.false_or] at this ⊢
            exact there_row hs ht this
        have hN : (!c.Has || rowB o.Schema c.Table c.New) = true := by
          cases hH : c.Has with
          | false => rfl
          | true =>
            simp only [Bool.not_true, Bool.false_or]
            exact turn_row hs ht h2 hH
        rw [← he, ht, hO, hN, h1, h2]
        cases fitsB c with
        | false => rfl
        | true =>
          simp only [Bool.and_true, Bool.not_true, cond_false, if_true, Option.bind_some]
          exact ih (i + 1) _ (by omega) (by omega) h2 (q4.trans he) (q3.trans hve)
      | false =>
        have : (fitsB c && turnB o c && storeB (turnF o c)) = false := by rw [Bool.and_assoc, hS, Bool.and_false]
        rw [this]
        cases (fitsB c && tableB s.Schema c.Table && (!c.Had || rowB s.Schema c.Table c.Old) && (!c.Has || rowB s.Schema c.Table c.New)) <;> rfl
    · rw [impl_Forward.l0, lenI_eq, decide_eq_false (by omega), cond_false, List.drop_eq_nil_of_le (by omega), runCh, hve, w64_id (by omega)]
theorem impl_Forward_eq (s : Store) (l : List Change) (bs : Store_b s) (hz : sz_Store s ≤ 1099511627776) (hc : ∀ c ∈ l, Change_b c ∧ sz_Change c ≤ 1048576) (hll : (l.length : Int) ≤ 9223372036854775807) : impl_Forward.f s l = some (forwardF s l) := by
  unfold impl_Forward.f forwardF
  rw [impl_StoreOk_eq _ bs, Option.bind_some, bo3_not, impl_within_eq, gd_of, Option.bind_some, impl_copyStore_eq _ hz, Option.bind_some, lenI_eq]
  cases hs : storeB s with
  | false => rfl
  | true =>
    have hv := store_v hs
    by_cases c : 1 ≤ (l.length : Int) ∧ (l.length : Int) ≤ 5
    · rw [decide_eq_true c]
      by_cases d : s.Version = 100000
      · rw [decide_eq_true d, if_neg (fun e => e.2.2 d)]; rfl
      · rw [decide_eq_false d, if_pos ⟨rfl, c, d⟩]
        simp only [Bool.not_true, Bool.not_false, cond_true, bo3_F, cond_false, bo3_not]
        have := impl_Forward_l0 s l bs.1 hv (by omega) hc (((l.length : Int) - 0).toNat + 1) 0 s (by omega) (by omega) hs rfl rfl
        rw [List.drop_zero] at this
        refine this.trans ?_
        cases runCh s l <;> rfl
    · rw [decide_eq_false c, if_neg (fun e => c e.2.1)]
      rfl

theorem runCh_inv : ∀ {l : List Change} {s t : Store}, (∀ c ∈ l, sz_Change c ≤ 1048576) → storeB s = true → runCh s l = some t → storeB t = true ∧ t.Version = s.Version ∧ t.Schema = s.Schema
  | [], s, t, _, h, he => by rw [runCh] at he; cases he; exact ⟨h, rfl, rfl⟩
  | c :: l, s, t, hc, h, he => by
    rw [runCh] at he
    split at he
    · rename_i hb
      obtain ⟨q1, q2, q3, q4⟩ := turn_b h (hc c (List.mem_cons_self ..))
      unfold stepB at hb
      rw [Bool.and_eq_true] at hb
      obtain ⟨p1, p2, p3⟩ := runCh_inv (fun x hx => hc x (List.mem_cons_of_mem _ hx)) hb.2 he
      exact ⟨p1, p2.trans q3, p3.trans q4⟩
    · cases he
theorem forward_b (s : Store) (l : List Change) (hc : ∀ c ∈ l, sz_Change c ≤ 1048576) : Store_b (forwardF s l).1 ∧ sz_Store (forwardF s l).1 ≤ 1000 := by
  have zs := noStore_b
  unfold forwardF
  split
  · rename_i h
    split
    · rename_i t he
      obtain ⟨q1, q2, q3⟩ := runCh_inv hc h.1 he
      have tb := store_small q1
      have e : sz_Store ⟨t.Schema, s.Version + 1, t.Tables⟩ = sz_Store t := rfl
      exact ⟨⟨tb.1.1, tb.1.2⟩, by dsimp only; omega⟩
    · exact ⟨zs.1, by dsimp only; omega⟩
  · exact ⟨zs.1, by dsimp only; omega⟩
theorem changes_each {l : List Change} (b1 : ChangeS_b l) (z1 : sz_ChangeS l ≤ 1048576) : ∀ c ∈ l, Change_b c ∧ sz_Change c ≤ 1048576 := fun c hc => by
  have p := sum_nonneg sz_Change_0 l
  unfold sz_ChangeS at z1
  have := sum_mem sz_Change_0 hc
  exact ⟨b1.2 c hc, by omega⟩

theorem forward_ok {s : Store} {l : List Change} (hc : ∀ c ∈ l, sz_Change c ≤ 1048576) (h : (forwardF s l).2 = true) : storeB s = true ∧ storeB (forwardF s l).1 = true ∧ (forwardF s l).1.Version = s.Version + 1 := by
  unfold forwardF at *
  split at h
  · rename_i hh
    rw [if_pos hh]
    have hv := store_v hh.1
    cases hr : runCh s l with
    | none => rw [hr] at h; cases h
    | some t =>
      have := (runCh_inv hc hh.1 hr).1
      refine ⟨hh.1, ?_, rfl⟩
      rw [storeB_version _ this, decide_eq_true_eq]
      have := hh.2.2
      omega
  · cases h

theorem laws_FnBack_pure (a0 : List Int) (b0 : IntS_b a0) (r0 : ∀ y ∈ a0, 0 ≤ y ∧ y ≤ 255) : laws_FnBack.f a0 = some true := by
  unfold laws_FnBack.f
  rw [laws_big_eq, Option.bind_some]
  by_cases hb : 1048576 < (a0.length : Int)
  · rw [decide_eq_true hb]; rfl
  rw [decide_eq_false hb, cond_false]
  obtain ⟨s, c, e1, b1, z1, c1⟩ := DrawBack_ok a0 (by omega)
  obtain ⟨n, e2, n1⟩ := DrawStoreNew_ok a0 (by omega)
  obtain ⟨cb, cz⟩ := c1.b
  rw [bnd_some e1]
  dsimp only
  rw [bnd_some (impl_Back_eq s c b1 (by omega) cb (by omega)), bnd_some (spec_Back_eq s c b1 (by omega) cb (by omega)), bo3_self, cond_false, bnd_some e2, bnd_some (impl_StoreNew_eq n (by have := n1.1; omega)), bnd_some (spec_SchemaOk_eq n n1.b)]
  refine Eq.trans (?_ : _ = (bif bo3 (backF s c).2 false true then (
    (gd (bo3 (decide ((lenI (backF s c).1.Tables) = 0)) false true) (laws_sameStore.f s (backF s c).1)).bind fun r23 =>
    some (bo3 (decide ((lenI (backF s c).1.Tables) = 0)) true r23))
    else (
    (some [c]).bind fun l29 =>
    (impl_Forward.f (backF s c).1 l29).bind fun r30 =>
    bif (bo3 r30.2 false true) then (
    some (bo3 (bo3 (bo3 (bo3 (bo3 (bo3 c.Had false true) (decide (c.Old.Id ≠ 0)) false) true (bo3 (bo3 c.Has false true) (decide (c.New.Id ≠ 0)) false)) true (bo3 (bo3 c.Had false true) (bo3 c.Has false true) false)) true (decide (s.Version = 100000))) true (decide (0 < (w64 ((lenI c.Old.Cells) + (lenI c.New.Cells)))))))
    else (
    (laws_sameStore.f (Store.mk r30.1.Schema s.Version r30.1.Tables) s).bind fun r80 =>
    some r80)))) ?_
  · cases hs : schemaB n with
    | false => rfl
    | true =>
      have sb : storeB ⟨n, 0, List.replicate n.Cols.length []⟩ = true := by rw [storeB_new, hs]
      rw [if_pos rfl]
      dsimp only
      rw [show bo3 (bo3 (bo3 true (bo3 true false true) true) false true) true false = true from rfl, gd_true, bnd_some (impl_StoreOk_eq _ (store_small sb).1), sb]
      rfl
  cases hok : (backF s c).2 with
  | false =>
    rw [show bo3 false false true = true from rfl, cond_true]
    by_cases hs : storeB s = true
    · have e : (backF s c).1 = s := by
        unfold backF at *
        rw [if_pos hs] at *
        split at hok
        · cases hok
        · rename_i h; rw [if_neg h]
      rw [e]
      cases decide (lenI s.Tables = 0) with
      | true => rfl
      | false =>
        rw [show bo3 false false true = true from rfl, gd_true, sameStore_ok hs b1, decide_eq_true rfl]
        rfl
    · have e : (backF s c).1 = noStore := by unfold backF; rw [if_neg hs]
      rw [e]
      rfl
  | true =>
    obtain ⟨h1, h2, h3, h4⟩ := back_parts hok
    obtain ⟨r1, r2⟩ := back_rows hok
    obtain ⟨g1, g2⟩ := back_again hok
    have tb : storeB (backF s c).1 = true := by rw [h4]; exact h3
    obtain ⟨tb1, tb2⟩ := store_small tb
    have hcc : ∀ x ∈ [c], Change_b x ∧ sz_Change x ≤ 1048576 := fun x hx => by rw [List.mem_singleton.1 hx]; exact ⟨cb, by omega⟩
    rw [show bo3 true false true = false from rfl, cond_false, Option.bind_some, bnd_some (impl_Forward_eq _ [c] tb1 (by omega) hcc (by simp))]
    cases hf : (forwardF (backF s c).1 [c]).2 with
    | false =>
      rw [show bo3 false false true = true from rfl, cond_true]
      have hlen : (lenI c.Old.Cells + lenI c.New.Cells) ≤ 8 := by
        have := c1.1; have := c1.2
        rw [lenI_eq, lenI_eq]; omega
      have h0 : 0 ≤ lenI c.Old.Cells ∧ 0 ≤ lenI c.New.Cells := by rw [lenI_eq, lenI_eq]; omega
      rw [w64_id (by omega)]
      cases hd : c.Had with
      | true =>
        have := r1 hd
        rw [decide_eq_true (p := 0 < lenI c.Old.Cells + lenI c.New.Cells) (by rw [lenI_eq, lenI_eq]; omega)]
        simp only [bo3, if_true, ite_self]
      | false =>
        cases hh : c.Has with
        | true =>
          have := r2 hh
          rw [decide_eq_true (p := 0 < lenI c.Old.Cells + lenI c.New.Cells) (by rw [lenI_eq, lenI_eq]; omega)]
          simp only [bo3, if_true, ite_self]
        | false => simp [bo3]
    | true =>
      have hft : (forwardF (backF s c).1 [c]).1.Schema = s.Schema ∧ (forwardF (backF s c).1 [c]).1.Tables = s.Tables := by
        unfold forwardF at hf ⊢
        by_cases q : storeB (backF s c).1 = true ∧ (1 ≤ (([c].length : Nat) : Int) ∧ (([c].length : Nat) : Int) ≤ 5) ∧ (backF s c).1.Version ≠ 100000
        · rw [if_pos q] at hf ⊢
          cases hr : runCh (backF s c).1 [c] with
          | none => rw [hr] at hf; cases hf
          | some t =>
            have e : t = turnF (backF s c).1 c := by
              rw [runCh] at hr
              split at hr
              · rw [runCh] at hr; exact (Option.some.inj hr).symm
              · cases hr
            subst e
            exact ⟨g2, g1⟩
        · rw [if_neg q] at hf; cases hf
      rw [show bo3 true false true = false from rfl, cond_false, hft.1, hft.2, show Store.mk s.Schema s.Version s.Tables = s from rfl, sameStore_ok h1 b1, decide_eq_true rfl]
      rfl

end Go.Proofs.Ytbjbfcfekmdfmaa.L
