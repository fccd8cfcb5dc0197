/- What the pure functions give. -/
import Derived.Test.YtblacmggjfinhaaPv0
import Derived.Test.YtblacmggjfinhaaFnChangesU
namespace Go.Proofs.Ytblacmggjfinhaa.L
open Go
set_option linter.unusedVariables false
set_option linter.unusedSimpArgs false
def sz_IntS (l : List Int) : Int := l.length
def IntS_b (l : List Int) : Prop := l.length ≤ 9223372036854775807
theorem sz_IntS_0 (l : List Int) : 0 ≤ sz_IntS l := by unfold sz_IntS; omega
def IntS_r (l : List Int) : Prop := ∀ x ∈ l, (-9223372036854775808 ≤ x ∧ x ≤ 9223372036854775807)
/-- A cursor that is right. -/
def CI (b : List Int) (i : Int) : Prop := 0 ≤ i ∧ i ≤ b.length ∧ (b.length : Int) ≤ 1048576
theorem and_le (x : Int) (m : Nat) (hm : m < 9223372036854775808) : 0 ≤ Ls.ar .and .i64 x m ∧ Ls.ar .and .i64 x m ≤ m := by
  show 0 ≤ IntKind.i64.wrap _ ∧ IntKind.i64.wrap _ ≤ _
  have h : (BitVec.ofInt IntKind.i64.bits x &&& BitVec.ofInt IntKind.i64.bits m).toNat ≤ m := by
    rw [BitVec.toNat_and]
    refine Nat.le_trans Nat.and_le_right ?_
    rw [BitVec.toNat_ofInt]
    have : ((m : Int) % (2 ^ IntKind.i64.bits : Nat)).toNat = m := by
      rw [Int.emod_eq_of_lt (by omega) (by show (m : Int) < ((2 ^ 64 : Nat) : Int); omega)]
      omega
    omega
  rw [IntKind.wrap_i64]
  omega
theorem l1Byte_ok {b : List Int} {i : Int} (h : Int) (hc : CI b i) : ∃ i' h' x, spec_l1Byte.f (l1Cur.mk b i h) = some (l1Cur.mk b i' h', x) ∧ CI b i' ∧ 0 ≤ x ∧ x ≤ 255 := by
  obtain ⟨h0, h1, h2⟩ := hc
  unfold spec_l1Byte.f
  dsimp only
  by_cases hi : i < (b.length : Int)
  · rw [lenI_eq, decide_eq_true hi, cond_true, getO_pos h0, List.getElem?_eq_getElem (by omega), Option.bind_some]
    exact ⟨_, _, _, rfl, ⟨by rw [w64_id (by omega)]; omega, by rw [w64_id (by omega)]; omega, h2⟩, and_le _ 255 (by omega)⟩
  · rw [lenI_eq, decide_eq_false hi, cond_false]
    exact ⟨_, _, _, rfl, ⟨h0, h1, h2⟩, and_le _ 255 (by omega)⟩
theorem tmod_lt {x n : Int} (hx : 0 ≤ x) (hn : 0 < n) : 0 ≤ Int.tmod x n ∧ Int.tmod x n < n := ⟨Int.tmod_nonneg _ hx, Int.tmod_lt_of_pos _ hn⟩
theorem l1Below_ok {b : List Int} {i : Int} (h : Int) (n : Int) (hc : CI b i) : ∃ i' h' x, spec_l1Below.f (l1Cur.mk b i h) n = some (l1Cur.mk b i' h', x) ∧ CI b i' ∧ 0 ≤ x ∧ (0 < n → x < n) ∧ (n ≤ 0 → x = 0) := by
  unfold spec_l1Below.f
  by_cases h0 : n ≤ 0
  · rw [decide_eq_true h0, cond_true]
    exact ⟨_, _, _, rfl, hc, by omega, fun _ => by omega, fun _ => rfl⟩
  have hz : nzO n = some () := by unfold nzO; rw [if_pos (by omega)]
  rw [decide_eq_false h0, cond_false]
  obtain ⟨i1, h1, x1, e1, k1, l1, u1⟩ := l1Byte_ok h hc
  by_cases hn : n ≤ 256
  · rw [decide_eq_true hn, cond_true, e1, Option.bind_some, hz, Option.bind_some]
    have := tmod_lt (n := n) l1 (by omega)
    exact ⟨_, _, _, rfl, k1, this.1, fun _ => this.2, fun _ => by omega⟩
  · obtain ⟨i2, h2, x2, e2, k2, l2, u2⟩ := l1Byte_ok h1 k1
    obtain ⟨i3, h3, x3, e3, k3, l3, u3⟩ := l1Byte_ok h2 k2
    obtain ⟨i4, h4, x4, e4, k4, l4, u4⟩ := l1Byte_ok h3 k3
    rw [decide_eq_false hn, cond_false, e1, Option.bind_some]
    dsimp only
    rw [e2, Option.bind_some]
    dsimp only
    rw [e3, Option.bind_some]
    dsimp only
    rw [e4, Option.bind_some, hz, Option.bind_some]
    dsimp only
    rw [w64_id (x := x1 * 16777216) (by omega), w64_id (x := x2 * 65536) (by omega), w64_id (x := x3 * 256) (by omega), w64_id (x := x1 * 16777216 + x2 * 65536) (by omega), w64_id (x := x1 * 16777216 + x2 * 65536 + x3 * 256) (by omega), w64_id (by omega)]
    have := tmod_lt (n := n) (show 0 ≤ x1 * 16777216 + x2 * 65536 + x3 * 256 + x4 by omega) (by omega)
    exact ⟨_, _, _, rfl, k4, this.1, fun _ => this.2, fun _ => by omega⟩
theorem l1New_ok (l : List Int) (hl : (l.length : Int) ≤ 1048576) : ∃ h, spec_l1New.f l = some (l1Cur.mk l 0 h) ∧ CI l 0 := by
  have key : ∀ (k i : Nat) (h : Int), i ≤ l.length → l.length < i + k → ∃ h', spec_l1New.l0 l k h i = some (l1Cur.mk l 0 h') := by
    intro k
    induction k with
    | zero => intro i h h1 h2; omega
    | succ k ih =>
      intro i h h1 h2
      rw [spec_l1New.l0]
      by_cases c : bo3 (decide ((i : Int) < lenI l)) (decide ((i : Int) < 4000)) false = true
      · have hi : i < l.length := by
          rw [bo3_and, Bool.and_eq_true] at c
          have := of_decide_eq_true c.1
          rw [lenI_eq] at this
          omega
        rw [c, cond_true, getO_nat, List.getElem?_eq_getElem hi, Option.bind_some, w64_succ (by omega)]
        exact ih (i + 1) _ (by omega) (by omega)
      · rw [Bool.not_eq_true] at c
        rw [c, cond_false]
        exact ⟨_, rfl⟩
  unfold spec_l1New.f
  obtain ⟨h, e⟩ := key (((lenI l) - 0).toNat + 1) 0 (w64 (17333 + lenI l)) (by omega) (by rw [lenI_eq]; omega)
  exact ⟨h, e, by omega, by omega, hl⟩




theorem l1Once_ok {b : List Int} {i : Int} (h : Int) (n : Int) (hc : CI b i) : ∃ i' h' x, spec_l1Once.f (l1Cur.mk b i h) n = some (l1Cur.mk b i' h', x) ∧ CI b i' := by
  unfold spec_l1Once.f
  obtain ⟨i1, h1, x1, e1, k1, _⟩ := l1Below_ok h n hc
  rw [e1, Option.bind_some]
  exact ⟨_, _, _, rfl, k1⟩

theorem spec_l1In_eq (x y z : Int) : spec_l1In.f x y z = some (decide (y ≤ x ∧ x ≤ z)) := by
  unfold spec_l1In.f
  rw [bo3_and, Bool.decide_and]

def schemaB (s : Schema) : Bool := s.Cols.all (fun n => decide (1 ≤ n ∧ n ≤ 4)) && decide (1 ≤ (s.Cols.length : Int) ∧ (s.Cols.length : Int) ≤ 3)

def sz_Schema (x : Schema) : Int := sz_IntS x.Cols
def Schema_b (x : Schema) : Prop := IntS_b x.Cols
theorem sz_Schema_0 (x : Schema) : 0 ≤ sz_Schema x := by unfold sz_Schema; exact by have := sz_IntS_0 x.Cols;  omega
def Schema_r (x : Schema) : Prop := IntS_r x.Cols
theorem spec_SchemaOk_eq (s : Schema) (h : Schema_b s) : spec_SchemaOk.f s = some (schemaB s) := by
  have hl : s.Cols.length ≤ 9223372036854775807 := h
  unfold spec_SchemaOk.f joinK
  refine (loop_all (f := spec_SchemaOk.l0 s _) (l := s.Cols) (fun _ n => decide (1 ≤ n ∧ n ≤ 4)) (some false) (some (decide (1 ≤ (s.Cols.length : Int) ∧ (s.Cols.length : Int) ≤ 3))) (fun k i x hx => ?_) (fun k i hi => ?_) _ 0 (by omega) (by (try simp only [lenI_eq]); omega)).trans ?_
  · have hi := at_lt hx
    rw [spec_SchemaOk.l0, lenI_eq, decide_eq_true (by omega), cond_true, getO_nat, hx, Option.bind_some, spec_l1In_eq, Option.bind_some, bo3_not, w64_succ (by omega)]
    cases decide (1 ≤ x ∧ x ≤ 4) <;> rfl
  · rw [spec_SchemaOk.l0, lenI_eq, decide_eq_false (by omega), cond_false, spec_l1In_eq, Option.bind_some]
  · rw [allFrom_zero, schemaB]
    cases s.Cols.all fun n => decide (1 ≤ n ∧ n ≤ 4) <;> rfl

def sz_Row (x : Row) : Int := sz_IntS x.Cells
def Row_b (x : Row) : Prop := IntS_b x.Cells
theorem sz_Row_0 (x : Row) : 0 ≤ sz_Row x := by unfold sz_Row; exact by have := sz_IntS_0 x.Cells;  omega
def Row_r (x : Row) : Prop := (-9223372036854775808 ≤ x.Id ∧ x.Id ≤ 9223372036854775807) ∧ IntS_r x.Cells
def sz_RowS (l : List Row) : Int := l.length + (l.map sz_Row).sum
def RowS_b (l : List Row) : Prop := l.length ≤ 9223372036854775807 ∧ ∀ x ∈ l, Row_b x
theorem sz_RowS_0 (l : List Row) : 0 ≤ sz_RowS l := by have := sum_nonneg sz_Row_0 l; unfold sz_RowS; omega
def RowS_r (l : List Row) : Prop := ∀ x ∈ l, Row_r x
def rowB (s : Schema) (t : Int) (r : Row) : Bool :=
  schemaB s && decide (0 ≤ t ∧ t ≤ (s.Cols.length : Int) - 1) && decide (1 ≤ r.Id ∧ r.Id ≤ 999) && decide ((r.Cells.length : Int) = s.Cols.getD t.toNat 0) && r.Cells.all fun n => decide (-1000000000 ≤ n ∧ n ≤ 1000000000)
def rowsB (s : Schema) (t : Int) (rows : List Row) : Bool :=
  allFrom (fun i r => rowB s t r && !(decide (0 < i) && decide (r.Id ≤ (rows.getD (i - 1) default).Id))) rows 0 && (schemaB s && decide (0 ≤ t ∧ t ≤ (s.Cols.length : Int) - 1) && decide (rows.length ≤ 24))
theorem schema_len {s : Schema} (h : schemaB s = true) : s.Cols.length ≤ 3 := by
  unfold schemaB at h
  rw [Bool.and_eq_true] at h
  have := of_decide_eq_true h.2
  omega
theorem rows_row {s : Schema} {t : Int} {rows : List Row} (h : rowsB s t rows = true) {i : Nat} {r : Row} (hr : rows[i]? = some r) : rowB s t r = true := by
  unfold rowsB at h
  rw [Bool.and_eq_true] at h
  have := allFrom_iff.1 h.1 i r hr
  rw [Bool.and_eq_true] at this
  exact this.1
theorem rows_len {s : Schema} {t : Int} {rows : List Row} (h : rowsB s t rows = true) : rows.length ≤ 24 := by
  unfold rowsB at h
  simp only [Bool.and_eq_true, decide_eq_true_eq] at h
  exact h.2.2
theorem row_cells {s : Schema} {t : Int} {r : Row} (h : rowB s t r = true) : (r.Cells.length : Int) = s.Cols.getD t.toNat 0 := by
  unfold rowB at h
  simp only [Bool.and_eq_true, decide_eq_true_eq] at h
  exact h.1.2

theorem spec_RowOk_eq (s : Schema) (t : Int) (r : Row) (hs : Schema_b s) (hr : Row_b r) : spec_RowOk.f s t r = some (rowB s t r) := by
  have hl : s.Cols.length ≤ 9223372036854775807 := hs
  have hrl : r.Cells.length ≤ 9223372036854775807 := hr
  unfold spec_RowOk.f rowB
  rw [spec_SchemaOk_eq _ hs, Option.bind_some, lenI_eq, w64_id (by omega), spec_l1In_eq, spec_l1In_eq]
  cases schemaB s with
  | false => rfl
  | true =>
    by_cases d : 0 ≤ t ∧ t ≤ (s.Cols.length : Int) - 1
    case neg => rw [decide_eq_false d]; rfl
    rw [decide_eq_true d, getO_Int d]
    by_cases d2 : 1 ≤ r.Id ∧ r.Id ≤ 999
    case neg => rw [decide_eq_false d2]; rfl
    rw [decide_eq_true d2]
    simp only [bo3_F, bo3_T, gd_true, Option.bind_some, Bool.true_and]
    by_cases d3 : (r.Cells.length : Int) = s.Cols.getD t.toNat 0
    case neg => rw [show decide (lenI r.Cells ≠ s.Cols.getD t.toNat 0) = true from decide_eq_true d3, decide_eq_false d3]; rfl
    rw [show decide (lenI r.Cells ≠ s.Cols.getD t.toNat 0) = false from decide_eq_false (fun h => h d3), decide_eq_true d3, cond_false, Bool.true_and]
    refine (loop_all (f := spec_RowOk.l0 r) (l := r.Cells) (fun _ n => decide (-1000000000 ≤ n ∧ n ≤ 1000000000)) (some false) (some true) (fun k i x hx => ?_) (fun k i hi => ?_) _ 0 (by omega) (by (try simp only [lenI_eq]); omega)).trans ?_
    · have hi := at_lt hx
      rw [spec_RowOk.l0, lenI_eq, decide_eq_true (by omega), cond_true, getO_nat, hx, Option.bind_some, spec_l1In_eq, Option.bind_some, bo3_not, w64_succ (by omega)]
      cases decide (-1000000000 ≤ x ∧ x ≤ 1000000000) <;> rfl
    · rw [spec_RowOk.l0, lenI_eq, decide_eq_false (by omega), cond_false]
    · rw [allFrom_zero]
      cases r.Cells.all fun n => decide (-1000000000 ≤ n ∧ n ≤ 1000000000) <;> rfl

theorem spec_RowsOk_eq (s : Schema) (t : Int) (rows : List Row) (hs : Schema_b s) (hr : RowS_b rows) : spec_RowsOk.f s t rows = some (rowsB s t rows) := by
  have hl : s.Cols.length ≤ 9223372036854775807 := hs
  obtain ⟨hrl, hr2⟩ := hr
  unfold spec_RowsOk.f rowsB
  simp only [joinK]
  refine (loop_all (f := spec_RowsOk.l0 s t rows _) (l := rows) (fun i r => rowB s t r && !(decide (0 < i) && decide (r.Id ≤ (rows.getD (i - 1) default).Id))) (some false) (some (schemaB s && decide (0 ≤ t ∧ t ≤ (s.Cols.length : Int) - 1) && decide (rows.length ≤ 24))) (fun k i x hx => ?_) (fun k i hi => ?_) _ 0 (by omega) (by (try simp only [lenI_eq]); omega)).trans ?_
  · have hi := at_lt hx
    rw [spec_RowsOk.l0, lenI_eq, decide_eq_true (by omega), cond_true, getO_nat, hx, Option.bind_some, spec_RowOk_eq _ _ _ hs (hr2 x (List.mem_of_getElem? hx)), Option.bind_some, prev_step hx (by omega), Option.bind_some, w64_succ (by omega)]
    rw [show decide (0 < (i : Int)) = decide (0 < i) from by simp]
    cases rowB s t x <;> cases decide (0 < i) <;> (try rfl)
    simp only [bo3_F, bo3_T, Bool.true_and, cond_true]
    by_cases e : x.Id ≤ (rows.getD (i - 1) default).Id
    · simp [e]
    · simp [e]
  · rw [spec_RowsOk.l0, lenI_eq, decide_eq_false (by omega), cond_false, spec_SchemaOk_eq _ hs, Option.bind_some]
    first | rw [impl_hasTable_eq _ _ hs] | rw [lenI_eq s.Cols, w64_id (by omega), spec_l1In_eq]
    have e24 : decide ((rows.length : Int) ≤ 24) = decide (rows.length ≤ 24) := by rw [decide_eq_decide]; omega
    simp only [lenI_eq, e24]
    generalize decide (0 ≤ t ∧ t ≤ (s.Cols.length : Int) - 1) = b1
    generalize decide (rows.length ≤ 24) = b2
    cases schemaB s <;> cases b1 <;> cases b2 <;> rfl
  · cases allFrom (fun i r => rowB s t r && !(decide (0 < i) && decide (r.Id ≤ (rows.getD (i - 1) default).Id))) rows 0 <;> rfl

def sz_RowSS (l : List (List Row)) : Int := l.length + (l.map sz_RowS).sum
def RowSS_b (l : List (List Row)) : Prop := l.length ≤ 9223372036854775807 ∧ ∀ x ∈ l, RowS_b x
theorem sz_RowSS_0 (l : List (List Row)) : 0 ≤ sz_RowSS l := by have := sum_nonneg sz_RowS_0 l; unfold sz_RowSS; omega
def RowSS_r (l : List (List Row)) : Prop := ∀ x ∈ l, RowS_r x
def sz_Store (x : Store) : Int := sz_Schema x.Schema + sz_RowSS x.Tables
def Store_b (x : Store) : Prop := Schema_b x.Schema ∧ RowSS_b x.Tables
theorem sz_Store_0 (x : Store) : 0 ≤ sz_Store x := by unfold sz_Store; exact by have := sz_Schema_0 x.Schema; have := sz_RowSS_0 x.Tables;  omega
def Store_r (x : Store) : Prop := Schema_r x.Schema ∧ (-9223372036854775808 ≤ x.Version ∧ x.Version ≤ 9223372036854775807) ∧ RowSS_r x.Tables
def storeB (s : Store) : Bool :=
  schemaB s.Schema && decide (0 ≤ s.Version ∧ s.Version ≤ 100000) && decide (s.Tables.length = s.Schema.Cols.length) && allFrom (fun i rows => rowsB s.Schema (i : Int) rows) s.Tables 0
theorem store_table {s : Store} (h : storeB s = true) {i : Nat} {rows : List Row} (hr : s.Tables[i]? = some rows) : rowsB s.Schema i rows = true := by
  unfold storeB at h
  rw [Bool.and_eq_true] at h
  exact allFrom_iff.1 h.2 i rows hr
theorem store_len {s : Store} (h : storeB s = true) : s.Tables.length = s.Schema.Cols.length ∧ schemaB s.Schema = true := by
  unfold storeB at h
  simp only [Bool.and_eq_true, decide_eq_true_eq] at h
  exact ⟨h.1.2, h.1.1.1⟩

theorem spec_version (v : Int) : spec_l1In.f v 0 100000 = some (decide (0 ≤ v ∧ v ≤ 100000)) := spec_l1In_eq _ _ _

theorem spec_StoreOk_eq (s : Store) (hb : Store_b s) : spec_StoreOk.f s = some (storeB s) := by
  obtain ⟨hs, ht, ht2⟩ := hb
  have hl : s.Schema.Cols.length ≤ 9223372036854775807 := hs
  unfold spec_StoreOk.f storeB
  rw [spec_SchemaOk_eq _ hs, Option.bind_some, spec_version]
  cases schemaB s.Schema with
  | false => rfl
  | true =>
    by_cases d : 0 ≤ s.Version ∧ s.Version ≤ 100000
    case neg => rw [decide_eq_false d]; rfl
    rw [decide_eq_true d]
    by_cases d2 : s.Tables.length = s.Schema.Cols.length
    case neg =>
      rw [show decide (lenI s.Tables ≠ lenI s.Schema.Cols) = true from decide_eq_true (by simp only [lenI_eq]; omega), decide_eq_false d2]
      rfl
    rw [show decide (lenI s.Tables ≠ lenI s.Schema.Cols) = false from decide_eq_false (by simp only [lenI_eq]; omega), decide_eq_true d2]
    simp only [bo3_F, bo3_T, gd_true, Option.bind_some, Bool.true_and, cond_false]
    refine (loop_all (f := spec_StoreOk.l0 s) (l := s.Tables) (fun i rows => rowsB s.Schema (i : Int) rows) (some false) (some true) (fun k i x hx => ?_) (fun k i hi => ?_) _ 0 (by omega) (by (try simp only [lenI_eq]); omega)).trans ?_
    · have hi := at_lt hx
      rw [spec_StoreOk.l0, lenI_eq, decide_eq_true (by omega), cond_true, getO_nat, hx, Option.bind_some, spec_RowsOk_eq _ _ _ hs (ht2 x (List.mem_of_getElem? hx)), Option.bind_some, bo3_not, w64_succ (by omega)]
      cases rowsB s.Schema i x <;> rfl
    · rw [spec_StoreOk.l0, lenI_eq, decide_eq_false (by omega), cond_false]
    · cases allFrom (fun i rows => rowsB s.Schema (i : Int) rows) s.Tables 0 <;> rfl

theorem row_len {r : Row} {B : Int} (h : sz_Row r ≤ B) : (r.Cells.length : Int) ≤ B := by unfold sz_Row sz_IntS at h; exact h

theorem spec_l6Copy_eq (r : Row) (h : sz_Row r ≤ 1099511627776) : spec_l6Copy.f r = some r := by
  have := row_len h
  unfold spec_l6Copy.f
  rw [appO_ok (by simp only [List.length_nil]; omega), Option.bind_some, List.nil_append]

theorem spec_l6Rows_eq (l : List Row) (h : sz_RowS l ≤ 1099511627776) : spec_l6Rows.f l = some l := by
  unfold sz_RowS at h
  have p := sum_nonneg sz_Row_0 l
  unfold spec_l6Rows.f
  refine loop_copy (f := spec_l6Rows.l0 l) (l := l) some (fun k i x hx => ?_) (fun k s i hi => ?_) _ 0 (by omega) (by (try simp only [lenI_eq]); omega)
  · have hi := at_lt hx
    have hm := sum_mem sz_Row_0 (List.mem_of_getElem? hx)
    rw [spec_l6Rows.l0, lenI_eq, decide_eq_true (by omega), cond_true, getO_nat, hx, Option.bind_some, spec_l6Copy_eq x (by omega), Option.bind_some, Option.bind_some, appO_ok (by simp only [List.length_take, List.length_cons, List.length_nil]; omega), Option.bind_some, w64_succ (by omega)]
  · rw [spec_l6Rows.l0, lenI_eq, decide_eq_false (by omega), cond_false]

theorem spec_l7Schema_eq (s : Schema) (h : sz_Schema s ≤ 1099511627776) : spec_l7Schema.f s = some s := by
  have : (s.Cols.length : Int) ≤ 1099511627776 := by unfold sz_Schema sz_IntS at h; exact h
  unfold spec_l7Schema.f
  rw [appO_ok (by simp only [List.length_nil]; omega), Option.bind_some, List.nil_append]

theorem spec_l7Copy_eq (s : Store) (h : sz_Store s ≤ 1099511627776) : spec_l7Copy.f s = some s := by
  unfold sz_Store sz_RowSS at h
  have p1 := sz_Schema_0 s.Schema
  have p2 := sum_nonneg sz_RowS_0 s.Tables
  unfold spec_l7Copy.f
  rw [spec_l7Schema_eq _ (by omega), Option.bind_some]
  refine loop_copy (f := spec_l7Copy.l0 s s.Schema) (l := s.Tables) (fun t => some ⟨s.Schema, s.Version, t⟩) (fun k i x hx => ?_) (fun k t i hi => ?_) _ 0 (by omega) (by (try simp only [lenI_eq]); omega)
  · have hi := at_lt hx
    have hm := sum_mem sz_RowS_0 (List.mem_of_getElem? hx)
    rw [spec_l7Copy.l0, lenI_eq, decide_eq_true (by omega), cond_true, getO_nat, hx, Option.bind_some, spec_l6Rows_eq x (by omega), Option.bind_some, Option.bind_some, appO_ok (by simp only [List.length_take, List.length_cons, List.length_nil]; omega), Option.bind_some, w64_succ (by omega)]
  · rw [spec_l7Copy.l0, lenI_eq, decide_eq_false (by omega), cond_false]

def rowAtF : List Row → Int → Int → Int
  | [], _, _ => -1
  | r :: l, id, i => if r.Id = id then i else rowAtF l id (i + 1)

def isId (id : Int) (r : Row) : Bool := decide (r.Id = id)
def isGt (id : Int) (r : Row) : Bool := decide (id < r.Id)
def idxI (p : Row → Bool) (l : List Row) : Int := if l.findIdx p < l.length then (l.findIdx p : Int) else -1
def rowDropF (l : List Row) (id : Int) : List Row := l.eraseIdx (l.findIdx (isId id))
def rowPutF (l : List Row) (r : Row) : List Row := if l.findIdx (isId r.Id) < l.length then l.set (l.findIdx (isId r.Id)) r else l.take (l.findIdx (isGt r.Id)) ++ [r] ++ l.drop (l.findIdx (isGt r.Id))
theorem rowAtF_idx : ∀ (l : List Row) (id i : Int), rowAtF l id i = if l.findIdx (isId id) < l.length then i + (l.findIdx (isId id) : Int) else -1
  | [], _, _ => rfl
  | r :: l, id, i => by
    rw [rowAtF, rowAtF_idx l id (i + 1), List.findIdx_cons]
    by_cases e : r.Id = id
    · rw [if_pos e, isId, decide_eq_true e]; simp
    · rw [if_neg e, isId, decide_eq_false e]
      simp only [cond_false, List.length_cons]
      by_cases h : l.findIdx (isId id) < l.length
      · rw [if_pos h, if_pos (by omega)]; omega
      · rw [if_neg h, if_neg (by omega)]
theorem rowAt_0 (l : List Row) (id : Int) : rowAtF l id 0 = idxI (isId id) l := by
  rw [rowAtF_idx, idxI]
  split
  · omega
  · rfl
theorem idxI_nn {p : Row → Bool} {l : List Row} : 0 ≤ idxI p l ↔ l.findIdx p < l.length := by
  unfold idxI
  split
  · simp_all
  · simp_all
theorem idxI_pos {p : Row → Bool} {l : List Row} (h : l.findIdx p < l.length) : idxI p l = (l.findIdx p : Int) := if_pos h
theorem idxI_neg {p : Row → Bool} {l : List Row} (h : ¬ l.findIdx p < l.length) : idxI p l = -1 := if_neg h
theorem sum_append {α : Type} (s : α → Int) (a b : List α) : ((a ++ b).map s).sum = (a.map s).sum + (b.map s).sum := by rw [List.map_append, List.sum_append]
theorem sum_take_drop {α : Type} (s : α → Int) (l : List α) (k : Nat) : (l.map s).sum = ((l.take k).map s).sum + ((l.drop k).map s).sum := by rw [← sum_append, List.take_append_drop]
theorem sum_set {α : Type} {s : α → Int} (hs : ∀ x, 0 ≤ s x) (x : α) : ∀ (l : List α) (i : Nat), ((l.set i x).map s).sum ≤ (l.map s).sum + s x
  | [], i => by simp [hs x]
  | a :: l, 0 => by simp only [List.set_cons_zero, List.map_cons, List.sum_cons]; have := hs a; omega
  | a :: l, i + 1 => by simp only [List.set_cons_succ, List.map_cons, List.sum_cons]; have := sum_set hs x l i; omega
theorem sum_erase {α : Type} {s : α → Int} (hs : ∀ x, 0 ≤ s x) : ∀ (l : List α) (i : Nat), ((l.eraseIdx i).map s).sum ≤ (l.map s).sum
  | [], i => by simp
  | a :: l, 0 => by simp only [List.eraseIdx_cons_zero, List.map_cons, List.sum_cons]; have := hs a; omega
  | a :: l, i + 1 => by simp only [List.eraseIdx_cons_succ, List.map_cons, List.sum_cons]; have := sum_erase hs l i; omega
theorem rowDrop_len (l : List Row) (id : Int) : (rowDropF l id).length ≤ l.length := by unfold rowDropF; rw [List.length_eraseIdx]; split <;> omega
theorem rowDrop_sz (l : List Row) (id : Int) : sz_RowS (rowDropF l id) ≤ sz_RowS l := by
  have h1 := rowDrop_len l id
  have h2 := sum_erase sz_Row_0 l (l.findIdx (isId id))
  unfold sz_RowS
  unfold rowDropF at *
  omega
theorem rowPut_len (l : List Row) (r : Row) : (rowPutF l r).length ≤ l.length + 1 := by
  unfold rowPutF
  split
  · rw [List.length_set]; omega
  · simp; omega
theorem rowPut_sz (l : List Row) (r : Row) : sz_RowS (rowPutF l r) ≤ sz_RowS l + 1 + sz_Row r := by
  have h1 := rowPut_len l r
  unfold sz_RowS
  have h2 : ((rowPutF l r).map sz_Row).sum ≤ (l.map sz_Row).sum + sz_Row r := by
    unfold rowPutF
    split
    · exact sum_set sz_Row_0 r l _
    · rw [sum_append, sum_append, sum_take_drop sz_Row l (l.findIdx (isGt r.Id))]
      simp
      omega
  omega
theorem mem_rowDrop {l : List Row} {id : Int} {x : Row} (h : x ∈ rowDropF l id) : x ∈ l := List.mem_of_mem_eraseIdx h
theorem mem_rowPut {l : List Row} {r x : Row} (h : x ∈ rowPutF l r) : x = r ∨ x ∈ l := by
  unfold rowPutF at h
  split at h
  · rcases List.mem_or_eq_of_mem_set h with h | h
    · exact .inr h
    · exact .inl h
  · rcases List.mem_append.1 h with h | h
    · rcases List.mem_append.1 h with h | h
      · exact .inr (List.mem_of_mem_take h)
      · exact .inl (List.mem_singleton.1 h)
    · exact .inr (List.mem_of_mem_drop h)
theorem rowDrop_b {l : List Row} (h : RowS_b l) (id : Int) : RowS_b (rowDropF l id) := ⟨by have := rowDrop_len l id; have := h.1; omega, fun x hx => h.2 x (mem_rowDrop hx)⟩
theorem rowPut_b {l : List Row} (h : RowS_b l) (hl : l.length < 9223372036854775807) {r : Row} (hr : Row_b r) : RowS_b (rowPutF l r) := ⟨by have := rowPut_len l r; omega, fun x hx => by
  rcases mem_rowPut hx with rfl | hx
  · exact hr
  · exact h.2 x hx⟩
theorem findIdx_take {α : Type} (p : α → Bool) (l : List α) {i : Nat} {x : α} (hx : l[i]? = some x) : (l.take (i + 1)).findIdx p = if (l.take i).findIdx p < i then (l.take i).findIdx p else if p x then i else i + 1 := by
  have hi := at_lt hx
  have hl : (l.take i).length = i := by rw [List.length_take]; omega
  rw [take_snoc hx, List.findIdx_append, hl]
  by_cases h : (l.take i).findIdx p < i
  · rw [if_pos h, if_pos h]
  · rw [if_neg h, if_neg h]
    cases hp : p x <;> simp [List.findIdx_cons, hp] <;> omega

def sz_Change (x : Change) : Int := sz_Row x.Old + sz_Row x.New
def Change_b (x : Change) : Prop := Row_b x.Old ∧ Row_b x.New
theorem sz_Change_0 (x : Change) : 0 ≤ sz_Change x := by unfold sz_Change; exact by have := sz_Row_0 x.Old; have := sz_Row_0 x.New;  omega
def Change_r (x : Change) : Prop := (-9223372036854775808 ≤ x.Table ∧ x.Table ≤ 9223372036854775807) ∧ Row_r x.Old ∧ Row_r x.New
def noChange : Change := ⟨0, false, false, ⟨0, []⟩, ⟨0, []⟩⟩
def noStore : Store := ⟨⟨[]⟩, 0, []⟩
def tableB (s : Schema) (t : Int) : Bool := decide (0 ≤ t ∧ t ≤ (s.Cols.length : Int) - 1)
def tableOf (s : Store) (t : Int) : List Row := s.Tables.getD t.toNat []
def setTable (s : Store) (t : Int) (rows : List Row) : Store := ⟨s.Schema, s.Version, s.Tables.set t.toNat rows⟩
theorem table_rows {s : Store} (hs : storeB s = true) {t : Nat} (ht : t < s.Tables.length) : rowsB s.Schema t (tableOf s t) = true := by
  unfold tableOf
  rw [Int.toNat_natCast, List.getD_eq_getElem?_getD, List.getElem?_eq_getElem ht, Option.getD_some]
  exact store_table hs (List.getElem?_eq_getElem ht)
theorem setTable_b {s : Store} (bs : Store_b s) (t : Int) {rows : List Row} (h : RowS_b rows) : Store_b (setTable s t rows) := by
  refine ⟨bs.1, by unfold setTable; simpa using bs.2.1, fun x hx => ?_⟩
  rcases List.mem_or_eq_of_mem_set hx with hx | rfl
  · exact bs.2.2 x hx
  · exact h
theorem setTable_sz (s : Store) (t : Int) (rows : List Row) : sz_Store (setTable s t rows) ≤ sz_Store s + sz_RowS rows := by
  unfold sz_Store sz_RowSS setTable
  have := sum_set sz_RowS_0 rows s.Tables t.toNat
  simp only [List.length_set]
  omega
theorem tableOf_b {s : Store} (bs : Store_b s) (t : Int) : RowS_b (tableOf s t) := by
  unfold tableOf
  rw [List.getD_eq_getElem?_getD]
  cases h : s.Tables[t.toNat]? with
  | none => exact ⟨by simp, by simp⟩
  | some x => exact bs.2.2 x (List.mem_of_getElem? h)
theorem tableOf_sz (s : Store) (t : Int) : sz_RowS (tableOf s t) ≤ sz_Store s := by
  unfold tableOf sz_Store sz_RowSS
  have p1 := sz_Schema_0 s.Schema
  have p2 := sum_nonneg sz_RowS_0 s.Tables
  rw [List.getD_eq_getElem?_getD]
  cases h : s.Tables[t.toNat]? with
  | none => simp [sz_RowS]; omega
  | some x => have := sum_mem sz_RowS_0 (List.mem_of_getElem? h); simp only [Option.getD_some]; omega
theorem row_getD {rows : List Row} (h : RowS_b rows) (i : Nat) : Row_b (rows.getD i ⟨0, []⟩) ∧ sz_Row (rows.getD i ⟨0, []⟩) ≤ sz_RowS rows := by
  rw [List.getD_eq_getElem?_getD]
  have p := sum_nonneg sz_Row_0 rows
  unfold sz_RowS
  cases hx : rows[i]? with
  | none => exact ⟨by simp [Row_b, IntS_b], by simp [sz_Row, sz_IntS]; omega⟩
  | some x => have := sum_mem sz_Row_0 (List.mem_of_getElem? hx); exact ⟨h.2 x (List.mem_of_getElem? hx), by simp only [Option.getD_some]; omega⟩
theorem noChange_b : Change_b noChange ∧ sz_Change noChange = 0 := ⟨⟨by simp [Row_b, IntS_b, noChange], by simp [Row_b, IntS_b, noChange]⟩, by simp [sz_Change, sz_Row, sz_IntS, noChange]⟩
theorem noStore_b : Store_b noStore ∧ sz_Store noStore = 0 := ⟨⟨by simp [Schema_b, IntS_b, noStore], by simp [noStore], by simp [noStore]⟩, by simp [sz_Store, sz_Schema, sz_IntS, sz_RowSS, noStore]⟩

def sz_Mut (x : Mut) : Int := sz_Row x.Row
def Mut_b (x : Mut) : Prop := Row_b x.Row
theorem sz_Mut_0 (x : Mut) : 0 ≤ sz_Mut x := by unfold sz_Mut; exact by have := sz_Row_0 x.Row;  omega
def Mut_r (x : Mut) : Prop := (-9223372036854775808 ≤ x.Kind ∧ x.Kind ≤ 9223372036854775807) ∧ (-9223372036854775808 ≤ x.Table ∧ x.Table ≤ 9223372036854775807) ∧ Row_r x.Row
def mutB (s : Schema) (m : Mut) : Bool :=
  bif decide (m.Kind = 3) then schemaB s && tableB s m.Table && decide (1 ≤ m.Row.Id ∧ m.Row.Id ≤ 999) && decide (m.Row.Cells.length = 0)
  else decide (1 ≤ m.Kind ∧ m.Kind ≤ 2) && rowB s m.Table m.Row
def mutStep (s : Store) (m : Mut) : Store × Change × Bool :=
  let rows := tableOf s m.Table
  let i := rows.findIdx (isId m.Row.Id)
  if (decide (i < rows.length) == decide (m.Kind = 1)) = true ∨ m.Kind = 1 ∧ rows.length = 24 then (s, noChange, false)
  else (setTable s m.Table (if m.Kind = 3 then rowDropF rows m.Row.Id else rowPutF rows m.Row), ⟨m.Table, decide (m.Kind ≠ 1), decide (m.Kind ≠ 3), if m.Kind = 1 then ⟨0, []⟩ else rows.getD i ⟨0, []⟩, if m.Kind = 3 then ⟨0, []⟩ else m.Row⟩, true)
def mutDoF (s : Store) (m : Mut) : Store × Change × Bool := if storeB s = true then (if mutB s.Schema m = true then mutStep s m else (s, noChange, false)) else (noStore, noChange, false)
theorem mut_table {s : Store} {m : Mut} (hs : storeB s = true) (hm : mutB s.Schema m = true) : 0 ≤ m.Table ∧ m.Table.toNat < s.Tables.length ∧ (m.Kind = 1 ∨ m.Kind = 2 ∨ m.Kind = 3) := by
  have hl := (store_len hs).1
  have h : (0 ≤ m.Table ∧ m.Table ≤ (s.Schema.Cols.length : Int) - 1) ∧ (m.Kind = 1 ∨ m.Kind = 2 ∨ m.Kind = 3) := by
    unfold mutB at hm
    by_cases e : m.Kind = 3
    · rw [decide_eq_true e, cond_true] at hm
      simp only [Bool.and_eq_true] at hm
      exact ⟨of_decide_eq_true hm.1.1.2, .inr (.inr e)⟩
    · rw [decide_eq_false e, cond_false] at hm
      unfold rowB at hm
      simp only [Bool.and_eq_true, decide_eq_true_eq] at hm
      exact ⟨hm.2.1.1.1.2, by omega⟩
  exact ⟨h.1.1, by omega, h.2⟩

theorem spec_MutOk_eq (s : Schema) (m : Mut) (hs : Schema_b s) (hm : Mut_b m) : spec_MutOk.f s m = some (mutB s m) := by
  have hl : s.Cols.length ≤ 9223372036854775807 := hs
  unfold spec_MutOk.f mutB
  by_cases e : m.Kind = 3
  · rw [decide_eq_true e, cond_true, cond_true, spec_SchemaOk_eq _ hs, Option.bind_some, spec_l1In_eq, spec_l1In_eq, lenI_eq, lenI_eq, w64_id (by omega), gd_of, Option.bind_some, gd_of, Option.bind_some]
    have e2 : decide ((m.Row.Cells.length : Int) = 0) = decide (m.Row.Cells.length = 0) := by congr 1; apply propext; omega
    rw [e2]
    unfold tableB
    cases schemaB s <;> cases decide (0 ≤ m.Table ∧ m.Table ≤ (s.Cols.length : Int) - 1) <;> cases decide (1 ≤ m.Row.Id ∧ m.Row.Id ≤ 999) <;> cases decide (m.Row.Cells.length = 0) <;> rfl
  · rw [decide_eq_false e, cond_false, cond_false, spec_l1In_eq, Option.bind_some, spec_RowOk_eq _ _ _ hs hm, gd_of, Option.bind_some]
    cases decide (1 ≤ m.Kind ∧ m.Kind ≤ 2) <;> cases rowB s m.Table m.Row <;> rfl

theorem spec_RowAt_eq (l : List Row) (id : Int) (h : l.length ≤ 9223372036854775807) : spec_RowAt.f l id = some (rowAtF l id 0) := by
  have key : ∀ (k i : Nat), i ≤ l.length → l.length < i + k → spec_RowAt.l0 l id k i = some (rowAtF (l.drop i) id i) := by
    intro k
    induction k with
    | zero => intro i h h'; omega
    | succ k ih =>
      intro i h h'
      by_cases hi : i < l.length
      · have hx : l[i]? = some l[i] := List.getElem?_eq_getElem hi
        rw [spec_RowAt.l0, lenI_eq, decide_eq_true (by omega), cond_true, getO_nat, hx, Option.bind_some, List.drop_eq_getElem_cons hi, rowAtF, w64_succ (by omega)]
        by_cases e : (l[i]).Id = id
        · rw [decide_eq_true e, cond_true, if_pos e]
        · rw [decide_eq_false e, cond_false, if_neg e]
          exact ih (i + 1) (by omega) (by omega)
      · rw [spec_RowAt.l0, lenI_eq, decide_eq_false (by omega), cond_false, List.drop_eq_nil_of_le (by omega), rowAtF]
  have := key (((lenI l) - 0).toNat + 1) 0 (by omega) (by simp only [lenI_eq]; omega)
  rw [List.drop_zero] at this
  exact this

theorem spec_RowDrop_eq (l : List Row) (id : Int) (h : sz_RowS l ≤ 1099511627776) : spec_RowDrop.f l id = some (rowDropF l id) := by
  unfold sz_RowS at h
  have p := sum_nonneg sz_Row_0 l
  unfold spec_RowDrop.f
  rw [spec_RowAt_eq _ _ (by omega), Option.bind_some, rowAt_0]
  generalize hd : l.findIdx (isId id) = d
  have key : ∀ (k i : Nat), i ≤ l.length → l.length < i + k → spec_RowDrop.l0 l (idxI (isId id) l) k ((l.take i).eraseIdx d) i = some (rowDropF l id) := by
    intro k
    induction k with
    | zero => intro i h h'; omega
    | succ k ih =>
      intro i h0 h'
      by_cases hi : i < l.length
      · have hx : l[i]? = some l[i] := List.getElem?_eq_getElem hi
        have hm := sum_mem sz_Row_0 (List.mem_of_getElem? hx)
        have ht : (l.take i).length = i := by rw [List.length_take]; omega
        rw [spec_RowDrop.l0, lenI_eq, decide_eq_true (by omega), cond_true]
        have hs := ih (i + 1) (by omega) (by omega)
        rw [take_snoc hx] at hs
        by_cases e : d = i
        · have ei : idxI (isId id) l = (i : Int) := by rw [idxI_pos (by omega), hd, e]
          rw [ei] at hs ⊢
          rw [decide_eq_false (by omega), cond_false, w64_succ (by omega)]
          rw [e] at hs ⊢
          rw [List.eraseIdx_of_length_le (by omega)]
          rw [List.eraseIdx_append_of_length_le (by omega), ht] at hs
          simpa using hs
        · have ei : ¬ (i : Int) = idxI (isId id) l := by
            unfold idxI; split <;> omega
          rw [decide_eq_true ei, cond_true, getO_nat, hx, Option.bind_some, spec_l6Copy_eq _ (by omega), Option.bind_some, Option.bind_some, appO_ok (by
            have : ((l.take i).eraseIdx d).length ≤ i := by rw [List.length_eraseIdx]; split <;> omega
            simp only [List.length_cons, List.length_nil]; omega), Option.bind_some, w64_succ (by omega)]
          by_cases e2 : d < i
          · rw [List.eraseIdx_append_of_lt_length (by omega)] at hs
            exact hs
          · rw [List.eraseIdx_of_length_le (by simp; omega)] at hs
            rw [List.eraseIdx_of_length_le (by omega)]
            exact hs
      · rw [spec_RowDrop.l0, lenI_eq, decide_eq_false (by omega), cond_false, List.take_of_length_le (by omega), ← hd]
        rfl
  have := key (((lenI l) - 0).toNat + 1) 0 (by omega) (by simp only [lenI_eq]; omega)
  rw [List.take_zero, List.eraseIdx_nil] at this
  exact this

theorem spec_RowPut_l0 (r : Row) (l : List Row) (K : Int → Option (List Row)) (hl : l.length < 9223372036854775807) : ∀ (k i : Nat) (at_ : Int), i ≤ l.length → i < k → spec_RowPut.l0 r l K k at_ ((i : Int) - 1) = K (if (l.take i).findIdx (isGt r.Id) < i then ((l.take i).findIdx (isGt r.Id) : Int) else at_) := by
  intro k
  induction k with
  | zero => intro i at_ h h'; omega
  | succ k ih =>
    intro i at_ h h'
    cases i with
    | zero => rw [spec_RowPut.l0, decide_eq_false (by omega), cond_false, if_neg (by omega)]
    | succ i =>
      have hx : l[i]? = some l[i] := List.getElem?_eq_getElem (by omega)
      have e1 : ((i + 1 : Nat) : Int) - 1 = (i : Int) := by omega
      rw [spec_RowPut.l0, e1, decide_eq_true (by omega), cond_true, getO_nat, hx, Option.bind_some, w64_id (by omega), ih i _ (by omega) (by omega), ih i _ (by omega) (by omega), findIdx_take _ _ hx]
      by_cases c : (l.take i).findIdx (isGt r.Id) < i
      · simp only [if_pos c]
        rw [if_pos (by omega)]
        cases decide (r.Id < l[i].Id) <;> rfl
      · simp only [if_neg c]
        rw [isGt]
        cases hc : decide (r.Id < l[i].Id)
        · simp
        · simp
theorem spec_RowPut_eq (l : List Row) (r : Row) (h : sz_RowS l ≤ 1099511627776) (hr : sz_Row r ≤ 1099511627776) : spec_RowPut.f l r = some (rowPutF l r) := by
  have hz := rowDrop_sz l r.Id
  have hdl := rowDrop_len l r.Id
  have h' := h
  unfold sz_RowS at h'
  have p := sum_nonneg sz_Row_0 l
  have cut : ∀ (y : Nat), y ≤ (rowDropF l r.Id).length → ((cutO (rowDropF l r.Id) 0 (y : Int)).bind fun l17 => (appO 32 [] l17).bind fun l18 => (spec_l6Copy.f r).bind fun r19 => (some [r19]).bind fun l20 => (appO 32 l18 l20).bind fun l21 => (cutO (rowDropF l r.Id) (y : Int) (lenI (rowDropF l r.Id))).bind fun l22 => (appO 32 l21 l22).bind fun l23 => some l23) = some ((rowDropF l r.Id).take y ++ [r] ++ (rowDropF l r.Id).drop y) := by
    intro y hy
    rw [cutO_ok ⟨by omega, by omega, by omega⟩, Option.bind_some, appO_ok (by simp; omega), Option.bind_some, spec_l6Copy_eq _ hr, Option.bind_some, Option.bind_some, appO_ok (by simp; omega), Option.bind_some, lenI_eq, cutO_ok ⟨by omega, by omega, by omega⟩, Option.bind_some, appO_ok (by simp; omega), Option.bind_some]
    simp
  unfold spec_RowPut.f
  rw [spec_RowDrop_eq _ _ h, Option.bind_some]
  simp only [joinK]
  rw [spec_RowAt_eq _ _ (by omega), Option.bind_some, rowAt_0]
  unfold rowPutF
  by_cases c : l.findIdx (isId r.Id) < l.length
  · rw [if_pos c, idxI_pos c, decide_eq_true (by omega), cond_true, Option.bind_some]
    rw [cut _ (by unfold rowDropF; rw [List.length_eraseIdx]; split <;> omega)]
    rw [List.set_eq_take_append_cons_drop, if_pos c]
    unfold rowDropF
    rw [List.eraseIdx_eq_take_drop_succ]
    have hl : (l.take (l.findIdx (isId r.Id))).length = l.findIdx (isId r.Id) := by rw [List.length_take]; omega
    rw [List.take_left' hl, List.drop_left' hl]
    simp
  · have hd : rowDropF l r.Id = l := by unfold rowDropF; exact List.eraseIdx_of_length_le (by omega)
    rw [hd] at cut
    rw [if_neg c, idxI_neg c, decide_eq_false (by omega), cond_false, hd, lenI_eq, w64_id (by omega), spec_RowPut_l0 r l _ (by omega) _ _ _ (Nat.le_refl _) (by omega), List.take_length]
    have hle := List.findIdx_le_length (xs := l) (p := isGt r.Id)
    split
    · rw [lenI_eq] at cut
      exact cut _ hle
    · rename_i hn
      rw [lenI_eq] at cut
      have e : l.findIdx (isGt r.Id) = l.length := by omega
      rw [e]
      exact cut _ (Nat.le_refl _)

theorem spec_l7Do_eq (s : Store) (m : Mut) (hs : storeB s = true) (hm : mutB s.Schema m = true) (hz : sz_Store s ≤ 1099511627776) (hz2 : sz_Mut m ≤ 1099511627776) : spec_l7Do.f s m = some (mutStep s m) := by
  obtain ⟨h0, h1, h2⟩ := mut_table hs hm
  have hz' := hz
  unfold sz_Store sz_RowSS at hz'
  unfold sz_Mut at hz2
  have p1 := sz_Schema_0 s.Schema
  have hx : s.Tables[m.Table.toNat]? = some (tableOf s m.Table) := by unfold tableOf; rw [List.getD_eq_getElem?_getD, List.getElem?_eq_getElem h1]; rfl
  have hm' := sum_mem sz_RowS_0 (List.mem_of_getElem? hx)
  have hzr : sz_RowS (tableOf s m.Table) ≤ 1099511627776 := by omega
  have hzr' := hzr
  unfold sz_RowS at hzr'
  have p2 := sum_nonneg sz_Row_0 (tableOf s m.Table)
  unfold spec_l7Do.f mutStep setTable
  rw [getO_pos h0, hx, Option.bind_some, spec_RowAt_eq _ _ (by omega), Option.bind_some, rowAt_0, lenI_eq]
  generalize tableOf s m.Table = rows at *
  have e24 : decide ((rows.length : Int) = 24) = decide (rows.length = 24) := by congr 1; apply propext; omega
  have hset : ∀ v, (some (setI s.Tables m.Table v)) = some (s.Tables.set m.Table.toNat v) := fun v => rfl
  rw [e24]
  simp only [spec_l6Copy_eq _ hz2, spec_RowPut_eq _ _ hzr hz2, spec_RowDrop_eq _ _ hzr, Option.bind_some, hset]
  by_cases c : rows.findIdx (isId m.Row.Id) < rows.length
  · have hg : rows[rows.findIdx (isId m.Row.Id)]? = some (rows.getD (rows.findIdx (isId m.Row.Id)) ⟨0, []⟩) := by rw [List.getD_eq_getElem?_getD, List.getElem?_eq_getElem c]; rfl
    have hm2 := sum_mem sz_Row_0 (List.mem_of_getElem? hg)
    rw [idxI_pos c, decide_eq_true (show (0 : Int) ≤ (rows.findIdx (isId m.Row.Id) : Int) by omega), getO_nat, hg]
    simp only [Option.bind_some, spec_l6Copy_eq _ (show sz_Row (rows.getD (rows.findIdx (isId m.Row.Id)) ⟨0, []⟩) ≤ 1099511627776 by omega)]
    rcases h2 with h2 | h2 | h2 <;> simp [h2, c, bo3_F, bo3_T, noChange]
  · rw [idxI_neg c]
    rcases h2 with h2 | h2 | h2
    · by_cases d : rows.length = 24 <;> simp [h2, c, d, bo3_F, bo3_T, noChange]
    · simp [h2, c, bo3_F, bo3_T, noChange]
    · simp [h2, c, bo3_F, bo3_T, noChange]

theorem spec_MutDo_eq (s : Store) (m : Mut) (bs : Store_b s) (bm : Mut_b m) (hz : sz_Store s ≤ 1099511627776) (hz2 : sz_Mut m ≤ 1099511627776) : spec_MutDo.f s m = some (mutDoF s m) := by
  unfold spec_MutDo.f mutDoF
  rw [spec_StoreOk_eq _ bs, Option.bind_some, bo3_not]
  cases hs : storeB s with
  | false => rfl
  | true =>
    rw [spec_MutOk_eq _ _ bs.1 bm, Option.bind_some, bo3_not]
    cases hm : mutB s.Schema m with
    | false => rw [spec_l7Copy_eq _ hz]; rfl
    | true =>
      rw [spec_l7Copy_eq _ hz]
      simp only [Bool.not_true, cond_false, if_true, Option.bind_some, spec_l7Do_eq _ _ hs hm hz hz2, bo3_not]
      unfold mutStep
      dsimp only
      split <;> rfl

theorem mutDo_b (s : Store) (m : Mut) (bs : Store_b s) (bm : Mut_b m) : Store_b (mutDoF s m).1 ∧ sz_Store (mutDoF s m).1 ≤ 2 * sz_Store s + sz_Mut m + 1 ∧ Change_b (mutDoF s m).2.1 ∧ sz_Change (mutDoF s m).2.1 ≤ sz_Store s + sz_Mut m := by
  have q1 := sz_Store_0 s
  have q2 := sz_Mut_0 m
  have z1 := noChange_b
  have z2 := noStore_b
  unfold mutDoF
  by_cases hs : storeB s = true
  · rw [if_pos hs]
    by_cases hm : mutB s.Schema m = true
    · rw [if_pos hm]
      unfold mutStep
      dsimp only
      have tb := tableOf_b bs m.Table
      have tz := tableOf_sz s m.Table
      have bm' : Row_b m.Row := bm
      have hm1 : sz_Mut m = sz_Row m.Row := rfl
      split
      · exact ⟨bs, by dsimp only; omega, z1.1, by rw [z1.2]; omega⟩
      · dsimp only
        have rl : (tableOf s m.Table).length ≤ 24 := by
          obtain ⟨h0, h1, _⟩ := mut_table hs hm
          have := table_rows hs h1
          rw [Int.toNat_of_nonneg h0] at this
          exact rows_len this
        have rb : RowS_b (if m.Kind = 3 then rowDropF (tableOf s m.Table) m.Row.Id else rowPutF (tableOf s m.Table) m.Row) := by
          split
          · exact rowDrop_b tb _
          · exact rowPut_b tb (by omega) bm'
        have rz : sz_RowS (if m.Kind = 3 then rowDropF (tableOf s m.Table) m.Row.Id else rowPutF (tableOf s m.Table) m.Row) ≤ sz_Store s + 1 + sz_Mut m := by
          split
          · have := rowDrop_sz (tableOf s m.Table) m.Row.Id; omega
          · have := rowPut_sz (tableOf s m.Table) m.Row; omega
        have zz := setTable_sz s m.Table (if m.Kind = 3 then rowDropF (tableOf s m.Table) m.Row.Id else rowPutF (tableOf s m.Table) m.Row)
        obtain ⟨gb, gz⟩ := row_getD tb ((tableOf s m.Table).findIdx (isId m.Row.Id))
        have g0 := sz_Row_0 m.Row
        have nb : Row_b ⟨0, []⟩ ∧ sz_Row ⟨0, []⟩ = 0 := ⟨by simp [Row_b, IntS_b], by simp [sz_Row, sz_IntS]⟩
        refine ⟨setTable_b bs _ rb, by omega, ⟨?_, ?_⟩, ?_⟩
        · dsimp only; split
          · exact nb.1
          · exact gb
        · dsimp only; split
          · exact nb.1
          · exact bm'
        · unfold sz_Change
          dsimp only
          by_cases k1 : m.Kind = 1
          · rw [if_pos k1, if_neg (show ¬ m.Kind = 3 by omega), nb.2]; omega
          · rw [if_neg k1]
            split <;> omega
    · rw [if_neg hm]
      exact ⟨bs, by dsimp only; omega, z1.1, by dsimp only; rw [z1.2]; omega⟩
  · rw [if_neg hs]
    exact ⟨z2.1, by dsimp only; rw [z2.2]; omega, z1.1, by dsimp only; rw [z1.2]; omega⟩

theorem rowS_of_sz {l : List Row} (h : sz_RowS l ≤ 9223372036854775807) : RowS_b l := by
  unfold sz_RowS at h
  have p := sum_nonneg sz_Row_0 l
  exact ⟨by omega, fun x hx => by
    have := sum_mem sz_Row_0 hx
    have h2 : sz_Row x ≤ 9223372036854775807 := by omega
    unfold sz_Row sz_IntS at h2
    unfold Row_b IntS_b
    omega⟩
theorem store_of_sz {s : Store} (h : sz_Store s ≤ 9223372036854775807) : Store_b s := by
  unfold sz_Store sz_RowSS at h
  have p1 := sz_Schema_0 s.Schema
  have p2 := sum_nonneg sz_RowS_0 s.Tables
  refine ⟨?_, by omega, fun x hx => rowS_of_sz (by have := sum_mem sz_RowS_0 hx; omega)⟩
  have h2 : sz_Schema s.Schema ≤ 9223372036854775807 := by omega
  unfold sz_Schema sz_IntS at h2
  unfold Schema_b IntS_b
  omega
theorem sum_le {α : Type} {s : α → Int} {B : Int} : ∀ {l : List α}, (∀ x ∈ l, s x ≤ B) → (l.map s).sum ≤ l.length * B
  | [], _ => by simp
  | x :: l, h => by
    have h1 := h x (List.mem_cons_self ..)
    have h2 := sum_le (l := l) fun y hy => h y (List.mem_cons_of_mem _ hy)
    simp only [List.map_cons, List.sum_cons, List.length_cons]
    rw [show ((l.length + 1 : Nat) : Int) * B = l.length * B + B by rw [Int.natCast_add, Int.add_mul]; simp]
    omega
theorem rowB_sz {s : Schema} {t : Int} {r : Row} (h : rowB s t r = true) : sz_Row r ≤ 4 := by
  have hc := row_cells h
  unfold rowB at h
  simp only [Bool.and_eq_true, decide_eq_true_eq] at h
  obtain ⟨⟨⟨⟨hs, ht⟩, _⟩, _⟩, _⟩ := h
  unfold schemaB at hs
  rw [Bool.and_eq_true, List.all_eq_true] at hs
  have hlt : t.toNat < s.Cols.length := by omega
  have := of_decide_eq_true (hs.1 _ (List.getElem_mem hlt))
  rw [List.getD_eq_getElem?_getD, List.getElem?_eq_getElem hlt, Option.getD_some] at hc
  unfold sz_Row sz_IntS
  omega
theorem rowsB_sz {s : Schema} {t : Int} {rows : List Row} (h : rowsB s t rows = true) : sz_RowS rows ≤ 120 := by
  have hl := rows_len h
  have := sum_le (s := sz_Row) (B := 4) (l := rows) fun x hx => by
    obtain ⟨i, hi⟩ := List.getElem?_of_mem hx
    exact rowB_sz (rows_row h hi)
  unfold sz_RowS
  omega
theorem store_small {s : Store} (h : storeB s = true) : Store_b s ∧ sz_Store s ≤ 1000 := by
  have hz : sz_Store s ≤ 1000 := by
    obtain ⟨hl, hs⟩ := store_len h
    have h3 := schema_len hs
    have := sum_le (s := sz_RowS) (B := 120) (l := s.Tables) fun x hx => by
      obtain ⟨i, hi⟩ := List.getElem?_of_mem hx
      exact rowsB_sz (store_table h hi)
    unfold sz_Store sz_RowSS sz_Schema sz_IntS
    omega
  exact ⟨store_of_sz (by omega), hz⟩

def sz_MutS (l : List Mut) : Int := l.length + (l.map sz_Mut).sum
def MutS_b (l : List Mut) : Prop := l.length ≤ 9223372036854775807 ∧ ∀ x ∈ l, Mut_b x
theorem sz_MutS_0 (l : List Mut) : 0 ≤ sz_MutS l := by have := sum_nonneg sz_Mut_0 l; unfold sz_MutS; omega
def MutS_r (l : List Mut) : Prop := ∀ x ∈ l, Mut_r x
def sz_ChangeS (l : List Change) : Int := l.length + (l.map sz_Change).sum
def ChangeS_b (l : List Change) : Prop := l.length ≤ 9223372036854775807 ∧ ∀ x ∈ l, Change_b x
theorem sz_ChangeS_0 (l : List Change) : 0 ≤ sz_ChangeS l := by have := sum_nonneg sz_Change_0 l; unfold sz_ChangeS; omega
def ChangeS_r (l : List Change) : Prop := ∀ x ∈ l, Change_r x
def runMuts : Store → List Change → List Mut → Option (Store × List Change)
  | s, acc, [] => some (s, acc)
  | s, acc, m :: l => if (mutDoF s m).2.2 = true then runMuts (mutDoF s m).1 (acc ++ [(mutDoF s m).2.1]) l else none
def batchF (s : Store) (l : List Mut) : Store × List Change × Bool :=
  if storeB s = true then (if (1 ≤ (l.length : Int) ∧ (l.length : Int) ≤ 5) ∧ s.Version ≠ 100000 then (match runMuts s [] l with
    | some (t, cs) => (⟨t.Schema, s.Version + 1, t.Tables⟩, cs, true)
    | none => (s, [], false)) else (s, [], false)) else (noStore, [], false)
theorem mutDo_ok {s : Store} {m : Mut} (h : (mutDoF s m).2.2 = true) : storeB s = true ∧ mutB s.Schema m = true ∧ mutDoF s m = mutStep s m ∧ (mutDoF s m).1.Version = s.Version ∧ (mutDoF s m).1.Schema = s.Schema := by
  unfold mutDoF at *
  by_cases hs : storeB s = true
  · rw [if_pos hs] at *
    by_cases hm : mutB s.Schema m = true
    · rw [if_pos hm] at *
      refine ⟨hs, hm, rfl, ?_⟩
      unfold mutStep at *
      dsimp only at *
      split at h
      · simp at h
      · rename_i c
        rw [if_neg c]
        exact ⟨rfl, rfl⟩
    · rw [if_neg hm] at h
      simp at h
  · rw [if_neg hs] at h
    simp at h
/-- What a batch's way holds: bounded, of the first store's version. -/
def BInv (v : Int) (s : Store) (acc : List Change) (n : Nat) : Prop := Store_b s ∧ sz_Store s ≤ 4000000 ∧ s.Version = v ∧ acc.length = n ∧ sz_ChangeS acc ≤ n * 6000000 ∧ ChangeS_b acc
theorem BInv.step {v : Int} {s : Store} {acc : List Change} {n : Nat} (h : BInv v s acc n) {m : Mut} (bm : Mut_b m) (hz : sz_Mut m ≤ 1048576) (hn : n < 100000) (hok : (mutDoF s m).2.2 = true) : BInv v (mutDoF s m).1 (acc ++ [(mutDoF s m).2.1]) (n + 1) := by
  obtain ⟨h1, h2, h3, h4, h5, h6⟩ := h
  obtain ⟨k1, k2, k3, k4, k5⟩ := mutDo_ok hok
  obtain ⟨b1, b2, b3, b4⟩ := mutDo_b s m h1 bm
  have sm := (store_small k1).2
  refine ⟨b1, by omega, k4.trans h3, by simp [h4], ?_, ⟨by simp; omega, fun x hx => ?_⟩⟩
  · unfold sz_ChangeS at *
    rw [sum_append]
    simp only [List.length_append, List.length_cons, List.length_nil, List.map_cons, List.map_nil, List.sum_cons, List.sum_nil]
    rw [show ((n + 1 : Nat) : Int) * 6000000 = n * 6000000 + 6000000 by omega]
    omega
  · rcases List.mem_append.1 hx with hx | hx
    · exact h6.2 x hx
    · rw [List.mem_singleton.1 hx]; exact b3
theorem runMuts_inv {v : Int} : ∀ {l : List Mut} {s : Store} {acc : List Change} {n : Nat} {t : Store} {cs : List Change}, BInv v s acc n → (∀ m ∈ l, Mut_b m ∧ sz_Mut m ≤ 1048576) → n + l.length < 100000 → runMuts s acc l = some (t, cs) → BInv v t cs (n + l.length)
  | [], s, acc, n, t, cs, h, _, _, he => by
    rw [runMuts] at he
    cases he
    exact h
  | m :: l, s, acc, n, t, cs, h, hm, hn, he => by
    rw [runMuts] at he
    split at he
    · rename_i hok
      have hl : n + (m :: l).length = n + 1 + l.length := by simp only [List.length_cons]; omega
      rw [hl]
      have hn' : n + 1 + l.length < 100000 := by rw [← hl]; exact hn
      exact runMuts_inv (h.step (hm m (List.mem_cons_self ..)).1 (hm m (List.mem_cons_self ..)).2 (by omega) hok) (fun x hx => hm x (List.mem_cons_of_mem _ hx)) hn' he
    · cases he

theorem spec_BatchDo_l0 (s : Store) (l : List Mut) (hz : sz_Store s ≤ 1099511627776) (hv : 0 ≤ s.Version ∧ s.Version ≤ 100000) (hl : l.length ≤ 5) (hm : ∀ m ∈ l, Mut_b m ∧ sz_Mut m ≤ 1048576) : ∀ (k i : Nat) (o : Store) (acc : List Change), i ≤ l.length → l.length < i + k → BInv s.Version o acc i →
    spec_BatchDo.l0 s l k o.Schema.Cols o.Version o.Tables acc i = some (match runMuts o acc (l.drop i) with
      | some (t, cs) => (⟨t.Schema, s.Version + 1, t.Tables⟩, cs, true)
      | none => (s, [], false)) := by
  intro k
  induction k with
  | zero => intro i o acc h h'; omega
  | succ k ih =>
    intro i o acc h h' hI
    by_cases hi : i < l.length
    · have hx : l[i]? = some l[i] := List.getElem?_eq_getElem hi
      obtain ⟨m1, m2⟩ := hm _ (List.getElem_mem hi)
      have eo : (Store.mk (Schema.mk o.Schema.Cols) o.Version o.Tables) = o := rfl
      have h4 := hI.2.2.2.1
      rw [spec_BatchDo.l0, lenI_eq, decide_eq_true (by omega), cond_true, getO_nat, hx, Option.bind_some, eo, spec_MutDo_eq _ _ hI.1 m1 (by have := hI.2.1; omega) (by omega), Option.bind_some, spec_l7Copy_eq _ hz, Option.bind_some, Option.bind_some, bo3_not, appO_ok (by simp only [h4, List.length_cons, List.length_nil]; omega), Option.bind_some, w64_succ (by omega), List.drop_eq_getElem_cons hi, runMuts]
      cases hok : (mutDoF o l[i]).2.2 with
      | false => rfl
      | true =>
        have := ih (i + 1) _ _ (by omega) (by omega) (hI.step m1 m2 (by omega) hok)
        simp only [Bool.not_true, cond_false, if_true]
        exact this
    · rw [spec_BatchDo.l0, lenI_eq, decide_eq_false (by omega), cond_false, List.drop_eq_nil_of_le (by omega), runMuts, w64_id (by omega)]
theorem spec_BatchDo_eq (s : Store) (l : List Mut) (bs : Store_b s) (hz : sz_Store s ≤ 1048576) (bl : MutS_b l) (hzl : sz_MutS l ≤ 1048576) : spec_BatchDo.f s l = some (batchF s l) := by
  have p := sum_nonneg sz_Mut_0 l
  unfold sz_MutS at hzl
  unfold spec_BatchDo.f batchF
  rw [spec_StoreOk_eq _ bs, Option.bind_some, bo3_not, spec_l1In_eq, Option.bind_some, spec_l7Copy_eq _ (by omega), Option.bind_some, Option.bind_some, lenI_eq]
  cases hs : storeB s with
  | false => rfl
  | true =>
    simp only [Bool.not_true, cond_false, if_true]
    have hv : 0 ≤ s.Version ∧ s.Version ≤ 100000 := by
      unfold storeB at hs
      simp only [Bool.and_eq_true, decide_eq_true_eq] at hs
      exact hs.1.1.2
    by_cases c : 1 ≤ (l.length : Int) ∧ (l.length : Int) ≤ 5
    · rw [decide_eq_true c]
      by_cases d : s.Version = 100000
      · rw [decide_eq_true d, if_neg (fun e => e.2 d)]; rfl
      · rw [decide_eq_false d, if_pos ⟨c, d⟩]
        simp only [bo3_not, Bool.not_true, bo3_F, cond_false]
        have := spec_BatchDo_l0 s l (by omega) hv (by omega) (fun m hm => ⟨bl.2 m hm, by have := sum_mem sz_Mut_0 hm; omega⟩) (((l.length : Int) - 0).toNat + 1) 0 s [] (by omega) (by omega) ⟨bs, by omega, rfl, rfl, by simp [sz_ChangeS], by simp [ChangeS_b]⟩
        rw [List.drop_zero] at this
        exact this
    · rw [decide_eq_false c, if_neg (fun e => c e.1)]
      rfl

theorem l1PickInt_ok {b : List Int} {i : Int} (h : Int) {l : List Int} (hl : l ≠ []) (hc : CI b i) : ∃ i' h' x, spec_l1PickInt.f (l1Cur.mk b i h) l = some (l1Cur.mk b i' h', x) ∧ CI b i' ∧ x ∈ l := by
  unfold spec_l1PickInt.f
  obtain ⟨i1, h1, x1, e1, k1, l1, u1, _⟩ := l1Below_ok h (lenI l) hc
  have hp : 0 < l.length := by cases l with | nil => exact absurd rfl hl | cons x l => simp
  rw [lenI_eq] at u1
  have hx := u1 (by omega)
  have hlt : x1.toNat < l.length := by omega
  rw [e1, Option.bind_some, getO_pos l1, List.getElem?_eq_getElem hlt, Option.bind_some]
  exact ⟨_, _, _, rfl, k1, List.getElem_mem hlt⟩

/-- A schema that is not too great. -/
def SB (s : Schema) : Prop := s.Cols.length ≤ 6 ∧ ∀ x ∈ s.Cols, -1 ≤ x ∧ x ≤ 5
theorem SB.b {s : Schema} (h : SB s) : Schema_b s := by unfold Schema_b IntS_b; have := h.1; omega
theorem snoc_all {α : Type} {p : α → Prop} {l : List α} {x : α} (h : ∀ y ∈ l, p y) (hx : p x) : ∀ y ∈ l ++ [x], p y := fun y hy => by
  rcases List.mem_append.1 hy with hy | hy
  · exact h y hy
  · rw [List.mem_singleton.1 hy]; exact hx

theorem l6DrawRow_l0 (a : l1Cur) (n : Int) (hn : n ≤ 5) (id : Int) : ∀ (k i : Nat) (ci h : Int) (l : List Int), CI a.b ci → l.length = i → (i : Int) ≤ n ∨ i = 0 → 0 < k → n < i + k → (∀ x ∈ l, 0 ≤ x ∧ x ≤ 5) →
    ∃ ci' h' l', spec_l6DrawRow.l0 a n k ci h id l i = some (l1Cur.mk a.b ci' h', Row.mk id l') ∧ CI a.b ci' ∧ ((l'.length : Int) = n ∨ n < 0 ∧ l'.length = 0) ∧ ∀ x ∈ l', 0 ≤ x ∧ x ≤ 5 := by
  intro k
  induction k with
  | zero => intro i ci h l hc hl h0 h1 h2; omega
  | succ k ih =>
    intro i ci h l hc hl h0 h1 h2 hx
    rw [spec_l6DrawRow.l0]
    by_cases c : (i : Int) < n
    · obtain ⟨c2, h2', x2, e2, k2, l2, u2, _⟩ := l1Below_ok h 6 hc
      have hx4 := u2 (by omega)
      rw [decide_eq_true c, cond_true, e2, Option.bind_some]
      dsimp only
      rw [Option.bind_some, appO_ok (by simp only [List.length_cons, List.length_nil]; omega), Option.bind_some, w64_succ (by omega)]
      exact ih (i + 1) c2 h2' (l ++ [x2]) k2 (by simp [hl]) (by omega) (by omega) (by omega) (snoc_all hx (by omega))
    · rw [decide_eq_false c, cond_false]
      exact ⟨_, _, _, rfl, hc, by omega, hx⟩
theorem l6DrawRow_ok {b : List Int} {i : Int} (h : Int) (n : Int) (hn : n ≤ 5) (hc : CI b i) : ∃ i' h' r, spec_l6DrawRow.f (l1Cur.mk b i h) n = some (l1Cur.mk b i' h', r) ∧ CI b i' ∧ 1 ≤ r.Id ∧ r.Id ≤ 12 ∧ ((r.Cells.length : Int) = n ∨ n < 0 ∧ r.Cells.length = 0) ∧ ∀ x ∈ r.Cells, 0 ≤ x ∧ x ≤ 5 := by
  unfold spec_l6DrawRow.f
  obtain ⟨i1, h1, x1, e1, k1, l1, u1, _⟩ := l1Below_ok h 12 hc
  have := u1 (by omega)
  rw [e1, Option.bind_some]
  dsimp only
  rw [w64_id (by omega)]
  obtain ⟨ci', h', l', q1, q2, q3, q4⟩ := l6DrawRow_l0 (l1Cur.mk b i h) n hn (1 + x1) ((n - 0).toNat + 1) 0 i1 h1 [] k1 rfl (by omega) (by omega) (by omega) (by simp)
  exact ⟨_, _, _, q1, q2, by dsimp only; omega, by dsimp only; omega, q3, q4⟩

theorem spec_l1Max_eq (x y : Int) : spec_l1Max.f x y = some (max x y) := by
  unfold spec_l1Max.f
  by_cases h : y < x
  · rw [decide_eq_true h, cond_true, show max x y = x by omega]
  · rw [decide_eq_false h, cond_false, show max x y = y by omega]

theorem row_eq (a b : Row) : decide (a = b) = (decide (a.Id = b.Id) && decide (a.Cells = b.Cells)) := by
  cases a; cases b
  rw [Bool.eq_iff_iff]
  simp

def zeroB (r : Row) : Bool := decide (r.Id = 0) && decide (r.Cells.length = 0)
def hasId (rows : List Row) (id : Int) : Bool := decide (rows.findIdx (isId id) < rows.length)
def thereB (rows : List Row) (r : Row) : Bool := decide (rows[rows.findIdx (isId r.Id)]? = some r)
/-- The rows behind a change, if it can be made. -/
def turnRows (rows : List Row) (c : Change) : List Row := let r1 := if c.Had = true then rowDropF rows c.Old.Id else rows; if c.Has = true then rowPutF r1 c.New else r1
def turnB (s : Store) (c : Change) : Bool :=
  tableB s.Schema c.Table && (!c.Had || thereB (tableOf s c.Table) c.Old) && (!c.Has || !hasId (if c.Had = true then rowDropF (tableOf s c.Table) c.Old.Id else tableOf s c.Table) c.New.Id)
def turnF (s : Store) (c : Change) : Store := setTable s c.Table (turnRows (tableOf s c.Table) c)
def fitsB (c : Change) : Bool := (c.Had || c.Has) && (c.Had || zeroB c.Old) && (c.Has || zeroB c.New)
def stepB (s : Store) (c : Change) : Bool := fitsB c && turnB s c && storeB (turnF s c)
def runCh : Store → List Change → Option Store
  | s, [] => some s
  | s, c :: l => if stepB s c = true then runCh (turnF s c) l else none
def forwardF (s : Store) (l : List Change) : Store × Bool :=
  if storeB s = true ∧ (1 ≤ (l.length : Int) ∧ (l.length : Int) ≤ 5) ∧ s.Version ≠ 100000 then (match runCh s l with
    | some t => (⟨t.Schema, s.Version + 1, t.Tables⟩, true)
    | none => (noStore, false)) else (noStore, false)
theorem storeB_version {s : Store} (v : Int) (h : storeB s = true) : storeB ⟨s.Schema, v, s.Tables⟩ = decide (0 ≤ v ∧ v ≤ 100000) := by
  unfold storeB at *
  simp only [Bool.and_eq_true] at h
  obtain ⟨⟨⟨h1, h2⟩, h3⟩, h4⟩ := h
  simp only [h1, h3, h4, Bool.true_and, Bool.and_true]
theorem store_v {s : Store} (h : storeB s = true) : 0 ≤ s.Version ∧ s.Version ≤ 100000 := by
  unfold storeB at h
  simp only [Bool.and_eq_true, decide_eq_true_eq] at h
  exact h.1.1.2
theorem tableB_iff {s : Store} (hs : storeB s = true) {t : Int} : tableB s.Schema t = true ↔ 0 ≤ t ∧ t.toNat < s.Tables.length := by
  have := (store_len hs).1
  unfold tableB
  rw [decide_eq_true_eq]
  omega
theorem table_get {s : Store} {t : Int} (h : t.toNat < s.Tables.length) : s.Tables[t.toNat]? = some (tableOf s t) := by unfold tableOf; rw [List.getD_eq_getElem?_getD, List.getElem?_eq_getElem h]; rfl
theorem findIdx_isId {rows : List Row} {id : Int} (h : rows.findIdx (isId id) < rows.length) : (rows[rows.findIdx (isId id)]).Id = id := by
  have := List.findIdx_getElem (w := h)
  exact of_decide_eq_true this
theorem there_has {rows : List Row} {r : Row} (h : thereB rows r = true) : rows.findIdx (isId r.Id) < rows.length ∧ r ∈ rows := by
  unfold thereB at h
  rw [decide_eq_true_eq] at h
  exact ⟨at_lt h, List.mem_of_getElem? h⟩
theorem turn_b {s : Store} (hs : storeB s = true) {c : Change} (hc : sz_Change c ≤ 1048576) : Store_b (turnF s c) ∧ sz_Store (turnF s c) ≤ 2000000 ∧ (turnF s c).Version = s.Version ∧ (turnF s c).Schema = s.Schema := by
  obtain ⟨hb, hz⟩ := store_small hs
  have hz1 := tableOf_sz s c.Table
  have z2 := setTable_sz s c.Table (turnRows (tableOf s c.Table) c)
  have z3 : sz_RowS (turnRows (tableOf s c.Table) c) ≤ 1000 + 1 + 1048576 := by
    have n1 := sz_Row_0 c.Old
    have n2 := sz_Row_0 c.New
    unfold sz_Change at hc
    unfold turnRows
    dsimp only
    have d := rowDrop_sz (tableOf s c.Table) c.Old.Id
    split
    · split
      · have := rowPut_sz (rowDropF (tableOf s c.Table) c.Old.Id) c.New; omega
      · have := rowPut_sz (tableOf s c.Table) c.New; omega
    · split <;> omega
  unfold turnF
  have hq : sz_Store (setTable s c.Table (turnRows (tableOf s c.Table) c)) ≤ 2000000 := by omega
  exact ⟨store_of_sz (by omega), hq, rfl, rfl⟩
theorem idx_RowAt {rows : List Row} {id : Int} : decide (0 ≤ idxI (isId id) rows) = hasId rows id := decide_eq_decide.2 idxI_nn
theorem mem_set_self {α : Type} {l : List α} {i : Nat} {x : α} (h : i < l.length) : (l.set i x)[i]? = some x := by rw [List.getElem?_set_self h]
theorem put_mem (l : List Row) (r : Row) : r ∈ rowPutF l r := by
  unfold rowPutF
  split
  · rename_i h; exact List.mem_of_getElem? (mem_set_self h)
  · simp
/-- If the store behind is right, so is the row that came. -/
theorem turn_row {s : Store} (hs : storeB s = true) {c : Change} (ht : tableB s.Schema c.Table = true) (h : storeB (turnF s c) = true) (hh : c.Has = true) : rowB s.Schema c.Table c.New = true := by
  obtain ⟨h0, h1⟩ := (tableB_iff hs).1 ht
  have hg : (turnF s c).Tables[c.Table.toNat]? = some (turnRows (tableOf s c.Table) c) := mem_set_self h1
  have hr := store_table h hg
  have hm : c.New ∈ turnRows (tableOf s c.Table) c := by
    unfold turnRows
    dsimp only
    rw [if_pos hh]
    exact put_mem _ _
  obtain ⟨i, hi⟩ := List.getElem?_of_mem hm
  have := rows_row hr hi
  rw [Int.toNat_of_nonneg h0] at this
  exact this
theorem there_row {s : Store} (hs : storeB s = true) {t : Int} (ht : tableB s.Schema t = true) {r : Row} (h : thereB (tableOf s t) r = true) : rowB s.Schema t r = true := by
  obtain ⟨h0, h1⟩ := (tableB_iff hs).1 ht
  have hr := table_rows hs h1
  rw [Int.toNat_of_nonneg h0] at hr
  obtain ⟨i, hi⟩ := List.getElem?_of_mem (there_has h).2
  exact rows_row hr hi

/-- Rows in order of their Ids. -/
def UpR (l : List Row) : Prop := l.Pairwise fun a b => a.Id < b.Id
theorem UpR_ids {l : List Row} : UpR l ↔ (l.map Row.Id).Pairwise (· < ·) := by
  unfold UpR; rw [List.pairwise_map]
theorem up_find {l : List Row} {i : Nat} {x : Row} (p : Row → Bool) (hx : l[i]? = some x) (h : p x = true) : l.findIdx p ≤ i := by
  rcases Nat.lt_or_ge i (l.findIdx p) with hlt | hge
  · have := List.not_of_lt_findIdx hlt
    have e := (List.getElem?_eq_some_iff.1 hx).2
    rw [e, h] at this
    cases this
  · exact hge
theorem up_put {l : List Row} (h : UpR l) (r : Row) : UpR (rowPutF l r) := by
  unfold rowPutF
  split
  · rename_i hi
    rw [UpR_ids, List.map_set]
    have e := findIdx_isId hi
    generalize l.findIdx (isId r.Id) = k at hi e
    have hl : k < (l.map Row.Id).length := by rw [List.length_map]; exact hi
    have e2 : (l.map Row.Id)[k] = r.Id := by rw [List.getElem_map]; exact e
    rw [← e2, List.set_getElem_self]
    exact UpR_ids.1 h
  · rename_i hi
    have hle := List.findIdx_le_length (xs := l) (p := isGt r.Id)
    have hne : ∀ x ∈ l, x.Id ≠ r.Id := fun x hx e => by
      obtain ⟨i, hi'⟩ := List.getElem?_of_mem hx
      have := up_find (isId r.Id) hi' (by unfold isId; exact decide_eq_true e)
      have := at_lt hi'
      omega
    have h1 : ∀ x ∈ l.take (l.findIdx (isGt r.Id)), x.Id < r.Id := fun x hx => by
      obtain ⟨i, hi'⟩ := List.getElem?_of_mem hx
      rw [List.getElem?_take] at hi'
      split at hi'
      · rename_i hlt
        have := List.not_of_lt_findIdx hlt
        rw [(List.getElem?_eq_some_iff.1 hi').2] at this
        have := of_decide_eq_false this
        have := hne x (List.mem_of_getElem? hi')
        omega
      · cases hi'
    have h2 : ∀ x ∈ l.drop (l.findIdx (isGt r.Id)), r.Id < x.Id := fun x hx => by
      obtain ⟨i, hi'⟩ := List.getElem?_of_mem hx
      rw [List.getElem?_drop] at hi'
      have hlt := at_lt hi'
      have hk : l.findIdx (isGt r.Id) < l.length := by omega
      have hg : r.Id < (l[l.findIdx (isGt r.Id)]).Id := of_decide_eq_true (List.findIdx_getElem (w := hk))
      rcases Nat.eq_zero_or_pos i with rfl | hp
      · have e := (List.getElem?_eq_some_iff.1 hi').2
        rw [← e]; simpa using hg
      · have := List.pairwise_iff_getElem.1 h (l.findIdx (isGt r.Id)) (l.findIdx (isGt r.Id) + i) hk hlt (by omega)
        rw [(List.getElem?_eq_some_iff.1 hi').2] at this
        omega
    unfold UpR at *
    rw [List.append_assoc, List.pairwise_append, List.pairwise_append]
    refine ⟨h.sublist (List.take_sublist _ _), ⟨List.pairwise_singleton _ _, h.sublist (List.drop_sublist _ _), fun a ha b hb => ?_⟩, fun a ha b hb => ?_⟩
    · rw [List.mem_singleton.1 ha]; exact h2 b hb
    · rcases List.mem_append.1 hb with hb | hb
      · rw [List.mem_singleton.1 hb]; exact h1 a ha
      · have := h1 a ha; have := h2 b hb; omega
/-- A drawn row, drawn rows. -/
def DRw (n : Int) (r : Row) : Prop := 1 ≤ r.Id ∧ r.Id ≤ 12 ∧ (r.Cells.length : Int) = n ∧ ∀ x ∈ r.Cells, 0 ≤ x ∧ x ≤ 5
def DRs (n : Int) (l : List Row) : Prop := UpR l ∧ ∀ r ∈ l, DRw n r
theorem DRs.put {n : Int} {l : List Row} (h : DRs n l) {r : Row} (hr : DRw n r) : DRs n (rowPutF l r) := ⟨up_put h.1 r, fun x hx => by
  rcases mem_rowPut hx with rfl | hx
  · exact hr
  · exact h.2 x hx⟩
theorem DRs.sz {n : Int} {l : List Row} (hn : n ≤ 5) (h : DRs n l) {k : Nat} (hk : l.length ≤ k) : sz_RowS l ≤ k * 6 := by
  have := sum_le (s := sz_Row) (B := 5) (l := l) fun x hx => by
    have := (h.2 x hx).2.2.1
    unfold sz_Row sz_IntS; omega
  unfold sz_RowS; omega
theorem DRw.sz {n : Int} {r : Row} (hn : n ≤ 5) (h : DRw n r) : sz_Row r ≤ 5 := by
  have := h.2.2.1
  unfold sz_Row sz_IntS; omega
theorem up_rowsB {s : Schema} {t : Int} {l : List Row} (hs : schemaB s = true) (ht : 0 ≤ t ∧ t ≤ (s.Cols.length : Int) - 1) (hl : l.length ≤ 24) (hu : UpR l) (hr : ∀ r ∈ l, rowB s t r = true) : rowsB s t l = true := by
  unfold rowsB
  rw [hs, decide_eq_true ht, decide_eq_true hl]
  simp only [Bool.and_true]
  rw [allFrom_iff]
  intro i x hx
  rw [hr x (List.mem_of_getElem? hx), Bool.true_and, Bool.not_eq_true', ← Bool.not_eq_true]
  intro h
  simp only [Bool.and_eq_true, decide_eq_true_eq] at h
  obtain ⟨h0, h1⟩ := h
  have hlt := at_lt hx
  have := List.pairwise_iff_getElem.1 hu (i - 1) i (by omega) hlt (by omega)
  rw [(List.getElem?_eq_some_iff.1 hx).2] at this
  rw [List.getD_eq_getElem?_getD, List.getElem?_eq_getElem (by omega), Option.getD_some] at h1
  omega
theorem DRw.rowB {s : Schema} {t : Nat} {r : Row} (hs : schemaB s = true) (ht : t < s.Cols.length) (h : DRw (s.Cols.getD t 0) r) : rowB s t r = true := by
  unfold Go.Proofs.Ytblacmggjfinhaa.L.rowB
  rw [hs, decide_eq_true (by omega), decide_eq_true (by have := h.1; have := h.2.1; omega), decide_eq_true (by rw [Int.toNat_natCast]; exact h.2.2.1)]
  simp only [Bool.true_and]
  rw [List.all_eq_true]
  intro x hx
  exact decide_eq_true (by have := h.2.2.2 x hx; omega)
/-- A store as drawn. -/
structure DSt (s : Store) : Prop where
  ok : storeB s = true
  v : 0 ≤ s.Version ∧ s.Version ≤ 4
  rows : ∀ t rows, s.Tables[t]? = some rows → rows.length ≤ 8 ∧ DRs (s.Schema.Cols.getD t 0) rows
theorem schema_SB {s : Schema} (h : schemaB s = true) : SB s := by
  unfold schemaB at h
  rw [Bool.and_eq_true, List.all_eq_true, decide_eq_true_eq] at h
  exact ⟨by omega, fun x hx => by have := of_decide_eq_true (h.1 x hx); omega⟩
theorem DSt.SB {s : Store} (h : DSt s) : SB s.Schema := schema_SB (store_len h.ok).2

/-- What a drawn change is, at most. -/
def MB (m : Mut) : Prop := m.Row.Cells.length ≤ 5
theorem MB.b {m : Mut} (h : MB m) : Mut_b m ∧ sz_Mut m ≤ 5 := by
  unfold MB at h
  exact ⟨by unfold Mut_b Row_b IntS_b; omega, by unfold sz_Mut sz_Row sz_IntS; omega⟩
theorem l7DrawMut_end (b : List Int) (t y16 y17 y18 y15 : Int) (l : List Int) (hl : l.length ≤ 5) (hc : CI b y15) : ∃ i' h' m, ((spec_l1Below.f (l1Cur.mk b y15 y16) 25).bind fun r43 =>
  bif (decide (r43.2 = 0)) then (
  (spec_l1Below.f (l1Cur.mk b r43.1.i r43.1.h) 5).bind fun r45 =>
  some ((l1Cur.mk b r45.1.i r45.1.h), (Mut.mk r45.2 t (Row.mk y18 l))))
  else (
  bif (decide (r43.2 = 1)) then (
  (spec_l1Below.f (l1Cur.mk b r43.1.i r43.1.h) 5).bind fun r47 =>
  some ((l1Cur.mk b r47.1.i r47.1.h), (Mut.mk y17 (w64 (r47.2 - 1)) (Row.mk y18 l))))
  else (
  bif (decide (r43.2 = 2)) then (
  (some [0, 999, 1000]).bind fun l49 =>
  (spec_l1PickInt.f (l1Cur.mk b r43.1.i r43.1.h) l49).bind fun r50 =>
  some ((l1Cur.mk b r50.1.i r50.1.h), (Mut.mk y17 t (Row.mk r50.2 l))))
  else (
  some ((l1Cur.mk b r43.1.i r43.1.h), (Mut.mk y17 t (Row.mk y18 l))))))) = some (l1Cur.mk b i' h', m) ∧ CI b i' ∧ MB m := by
  obtain ⟨c1, h1, x1, e1, k1, _⟩ := l1Below_ok y16 25 hc
  rw [e1, Option.bind_some]
  dsimp only
  by_cases q0 : x1 = 0
  · obtain ⟨c2, h2, x2, e2, k2, _⟩ := l1Below_ok h1 5 k1
    rw [decide_eq_true q0, cond_true, e2, Option.bind_some]
    exact ⟨_, _, _, rfl, k2, hl⟩
  rw [decide_eq_false q0, cond_false]
  by_cases q1 : x1 = 1
  · obtain ⟨c2, h2, x2, e2, k2, _⟩ := l1Below_ok h1 5 k1
    rw [decide_eq_true q1, cond_true, e2, Option.bind_some]
    exact ⟨_, _, _, rfl, k2, hl⟩
  rw [decide_eq_false q1, cond_false]
  by_cases q2 : x1 = 2
  · obtain ⟨c2, h2, x2, e2, k2, _⟩ := l1PickInt_ok (l := [0, 999, 1000]) h1 (by simp) k1
    rw [decide_eq_true q2, cond_true, Option.bind_some, e2, Option.bind_some]
    exact ⟨_, _, _, rfl, k2, hl⟩
  rw [decide_eq_false q2, cond_false]
  exact ⟨_, _, _, rfl, k1, hl⟩
theorem l7DrawMut_ok {b : List Int} {i : Int} (h : Int) (s : Store) (hs : SB s.Schema) (hc : CI b i) : ∃ i' h' m, spec_l7DrawMut.f (l1Cur.mk b i h) s = some (l1Cur.mk b i' h', m) ∧ CI b i' ∧ MB m := by
  unfold spec_l7DrawMut.f
  rw [bnd_some (spec_l1Max_eq _ _)]
  obtain ⟨c1, h1, x1, e1, k1, l1, _⟩ := l1Below_ok h (max (lenI s.Tables) 1) hc
  rw [bnd_some e1]
  dsimp only
  by_cases q : bo3 (decide ((lenI s.Tables) ≤ x1)) true (decide ((lenI s.Schema.Cols) ≤ x1)) = true
  · rw [q, cond_true]
    exact ⟨_, _, _, rfl, k1, by simp [MB]⟩
  rw [Bool.not_eq_true] at q
  rw [q, cond_false]
  rw [bo3_or, Bool.or_eq_false_iff, decide_eq_false_iff_not, decide_eq_false_iff_not, lenI_eq, lenI_eq] at q
  have ht : x1.toNat < s.Tables.length := by omega
  have hcl : x1.toNat < s.Schema.Cols.length := by omega
  have hcol := hs.2 _ (List.getElem_mem hcl)
  obtain ⟨c2, h2, x2, e2, k2, l2, u2, _⟩ := l1Below_ok h1 3 k1
  obtain ⟨c3, h3, r, e3, k3, r1, r2, r3, r4⟩ := l6DrawRow_ok h2 s.Schema.Cols[x1.toNat] (by omega) k2
  have hrl : r.Cells.length ≤ 5 := by omega
  rw [bnd_some e2]
  dsimp only
  rw [getO_pos l1, List.getElem?_eq_getElem hcl, Option.bind_some, bnd_some e3]
  dsimp only
  rw [joinK_eq]
  have key : ∀ (y15 y16 y17 y18 : Int), CI b y15 → ∃ i' h' m, (joinK (fun (y40 : List Int) =>
    (spec_l1Below.f (l1Cur.mk b y15 y16) 25).bind fun r43 =>
    bif (decide (r43.2 = 0)) then (
    (spec_l1Below.f (l1Cur.mk b r43.1.i r43.1.h) 5).bind fun r45 =>
    some ((l1Cur.mk b r45.1.i r45.1.h), (Mut.mk r45.2 x1 (Row.mk y18 y40))))
    else (
    bif (decide (r43.2 = 1)) then (
    (spec_l1Below.f (l1Cur.mk b r43.1.i r43.1.h) 5).bind fun r47 =>
    some ((l1Cur.mk b r47.1.i r47.1.h), (Mut.mk y17 (w64 (r47.2 - 1)) (Row.mk y18 y40))))
    else (
    bif (decide (r43.2 = 2)) then (
    (some [0, 999, 1000]).bind fun l49 =>
    (spec_l1PickInt.f (l1Cur.mk b r43.1.i r43.1.h) l49).bind fun r50 =>
    some ((l1Cur.mk b r50.1.i r50.1.h), (Mut.mk y17 x1 (Row.mk r50.2 y40))))
    else (
    some ((l1Cur.mk b r43.1.i r43.1.h), (Mut.mk y17 x1 (Row.mk y18 y40))))))) (fun K41 =>
    bif (decide (y17 = 3)) then (
    K41 [])
    else (
    K41 r.Cells))) = some (l1Cur.mk b i' h', m) ∧ CI b i' ∧ MB m := by
    intro y15 y16 y17 y18 hy
    rw [joinK_eq]
    cases decide (y17 = 3) with
    | true => exact l7DrawMut_end b x1 y16 y17 y18 y15 [] (by simp) hy
    | false => exact l7DrawMut_end b x1 y16 y17 y18 y15 r.Cells hrl hy
  generalize hd : decide ((w64 (1 + x2)) ≠ 1) = d
  have hg : ∃ x20, gd d (getO s.Tables x1) = some x20 ∧ (d = true → s.Tables[x1.toNat] = x20) := by
    cases d with
    | true => rw [gd_true, getO_pos l1, List.getElem?_eq_getElem ht]; exact ⟨_, rfl, fun _ => rfl⟩
    | false => exact ⟨_, gd_false _, fun h => by cases h⟩
  obtain ⟨x20, e20, hx20⟩ := hg
  rw [bnd_some e20]
  generalize hd2 : bo3 d (decide (0 < lenI x20)) false = d2
  cases d2 with
  | false =>
    rw [gd_false, Option.bind_some]
    rw [bo3_F, cond_false]
    exact key _ _ _ _ k3
  | true =>
    rw [bo3_and, Bool.and_eq_true, decide_eq_true_eq] at hd2
    obtain ⟨c4, h4, x4, e4, k4⟩ := l1Once_ok h3 9 k3
    rw [gd_true, bnd_some e4]
    dsimp only
    cases x4 with
    | true => exact key _ _ _ _ k4
    | false =>
      have e := hx20 hd2.1
      rw [show bo3 true (bo3 false false true) false = true from rfl, cond_true, getO_pos l1, List.getElem?_eq_getElem ht, Option.bind_some, e]
      obtain ⟨c5, h5, x5, e5, k5, l5, u5, _⟩ := l1Below_ok h4 (lenI x20) k4
      have := u5 hd2.2
      have ct : ∀ x y : Int, ci3 true x y = x := fun _ _ => rfl
      simp only [ct]
      rw [bnd_some e5]
      dsimp only
      rw [getO_pos l5, List.getElem?_eq_getElem (by rw [lenI_eq] at this; omega), Option.bind_some]
      exact key _ _ _ _ k5

theorem mutDo_sb {s : Store} {m : Mut} (h : (mutDoF s m).2.2 = true) (bm : Mut_b m) (zm : sz_Mut m ≤ 1000) : SB (mutDoF s m).1.Schema ∧ Store_b (mutDoF s m).1 ∧ sz_Store (mutDoF s m).1 ≤ 4000 := by
  obtain ⟨h1, h2, h3, h4, h5⟩ := mutDo_ok h
  obtain ⟨s1, s2⟩ := store_small h1
  obtain ⟨b1, b2, _⟩ := mutDo_b s m s1 bm
  exact ⟨by rw [h5]; exact schema_SB (store_len h1).2, b1, by omega⟩
theorem l7DrawBatch_l0 (a : l1Cur) : ∀ (k i : Nat) (ci h : Int) (s : Store) (l : List Mut), CI a.b ci → l.length ≤ i → i ≤ 3 → 4 ≤ i + k → SB s.Schema → Store_b s → sz_Store s ≤ 1048576 → (∀ m ∈ l, MB m) →
    ∃ ci' h' l', spec_l7DrawBatch.l0 a k ci h s.Schema.Cols s.Version s.Tables l i = some (l1Cur.mk a.b ci' h', l') ∧ CI a.b ci' ∧ l'.length ≤ 3 ∧ ∀ m ∈ l', MB m := by
  intro k
  induction k with
  | zero => intro i ci h s l hc hl h1 h2; omega
  | succ k ih =>
    intro i ci h s l hc hl h1 h2 hs bs zs hm
    obtain ⟨c1, h1', x1, e1, k1, l1, u1, _⟩ := l1Below_ok h 3 hc
    have hx3 := u1 (by omega)
    rw [spec_l7DrawBatch.l0, bnd_some e1]
    dsimp only
    rw [w64_id (by omega)]
    by_cases c : (i : Int) < 1 + x1
    · obtain ⟨c2, h2', m, e2, k2, mb⟩ := l7DrawMut_ok h1' s hs k1
      obtain ⟨bm, zm⟩ := mb.b
      rw [decide_eq_true c, cond_true, show (Store.mk (Schema.mk s.Schema.Cols) s.Version s.Tables) = s from rfl, bnd_some e2]
      dsimp only
      rw [bnd_some (spec_MutDo_eq s m bs bm (by omega) (by omega)), joinK_eq]
      have step : ∀ (s' : Store) (ci2 hh2 : Int) (keep : Bool), SB s'.Schema → Store_b s' → sz_Store s' ≤ 1048576 → CI a.b ci2 → ∃ ci' h' l', (bif keep then (
          (some [m]).bind fun l31 =>
          (appO 48 l l31).bind fun l32 =>
          spec_l7DrawBatch.l0 a k ci2 hh2 s'.Schema.Cols s'.Version s'.Tables l32 (w64 (i + 1)))
          else (
          spec_l7DrawBatch.l0 a k ci2 hh2 s'.Schema.Cols s'.Version s'.Tables l (w64 (i + 1)))) = some (l1Cur.mk a.b ci' h', l') ∧ CI a.b ci' ∧ l'.length ≤ 3 ∧ ∀ m ∈ l', MB m := by
        intro s' ci2 hh2 keep hs' bs' zs' hc2
        cases keep with
        | true =>
          rw [cond_true, Option.bind_some, appO_ok (by simp only [List.length_cons, List.length_nil]; omega), Option.bind_some, w64_succ (by omega)]
          exact ih (i + 1) ci2 hh2 s' (l ++ [m]) hc2 (by simp only [List.length_append, List.length_cons, List.length_nil]; omega) (by omega) (by omega) hs' bs' zs' (snoc_all hm mb)
        | false =>
          rw [cond_false, w64_succ (by omega)]
          exact ih (i + 1) ci2 hh2 s' l hc2 (by omega) (by omega) (by omega) hs' bs' zs' hm
      cases hok : (mutDoF s m).2.2 with
      | true =>
        obtain ⟨s1, s2, s3⟩ := mutDo_sb hok bm (by omega)
        rw [cond_true]
        dsimp only
        rw [show bo3 true false true = false from rfl, gd_false, Option.bind_some]
        exact step (mutDoF s m).1 c2 h2' true s1 s2 (by omega) k2
      | false =>
        obtain ⟨c3, h3, x3, e3, k3⟩ := l1Once_ok h2' 9 k2
        rw [cond_false]
        dsimp only
        rw [show bo3 false false true = true from rfl, gd_true, bnd_some e3]
        exact step s c3 h3 x3 hs bs zs k3
    · rw [decide_eq_false c, cond_false]
      exact ⟨_, _, _, rfl, k1, by omega, hm⟩
theorem l7DrawBatch_ok {b : List Int} {i : Int} (h : Int) (s : Store) (hs : SB s.Schema) (bs : Store_b s) (zs : sz_Store s ≤ 1048576) (hc : CI b i) : ∃ i' h' l, spec_l7DrawBatch.f (l1Cur.mk b i h) s = some (l1Cur.mk b i' h', l) ∧ CI b i' ∧ l.length ≤ 3 ∧ ∀ m ∈ l, MB m := by
  unfold spec_l7DrawBatch.f
  exact l7DrawBatch_l0 (l1Cur.mk b i h) 1000 0 i h s [] hc (by simp) (by omega) (by omega) hs bs zs (by simp)
theorem MBs {l : List Mut} (hl : l.length ≤ 3) (h : ∀ m ∈ l, MB m) : MutS_b l ∧ sz_MutS l ≤ 20 := by
  have := sum_le (s := sz_Mut) (B := 5) (l := l) fun x hx => (h x hx).b.2
  exact ⟨⟨by omega, fun x hx => (h x hx).b.1⟩, by unfold sz_MutS; omega⟩
/-- What comes of a batch: a few changes of rows that are right. -/
def CB (c : Change) : Prop := c.Old.Cells.length ≤ 4 ∧ c.New.Cells.length ≤ 4
theorem CB.b {c : Change} (h : CB c) : Change_b c ∧ sz_Change c ≤ 8 := by
  obtain ⟨h1, h2⟩ := h
  exact ⟨⟨by unfold Row_b IntS_b; omega, by unfold Row_b IntS_b; omega⟩, by unfold sz_Change sz_Row sz_IntS; omega⟩
theorem CBs {l : List Change} {k : Nat} (hl : l.length ≤ k) (h : ∀ c ∈ l, CB c) : sz_ChangeS l ≤ 9 * k ∧ ∀ c ∈ l, Change_b c := by
  have := sum_le (s := sz_Change) (B := 8) (l := l) fun x hx => (h x hx).b.2
  exact ⟨by unfold sz_ChangeS; omega, fun x hx => (h x hx).b.1⟩
theorem mutDo_CB {s : Store} {m : Mut} (h : (mutDoF s m).2.2 = true) : CB (mutDoF s m).2.1 := by
  obtain ⟨h1, h2, h3, _⟩ := mutDo_ok h
  obtain ⟨t1, t2, t3⟩ := mut_table h1 h2
  rw [h3] at h ⊢
  unfold mutStep at *
  dsimp only at *
  split at h
  · simp at h
  · rename_i c
    rw [if_neg c]
    have hrow : ∀ i, ((tableOf s m.Table).getD i ⟨0, []⟩).Cells.length ≤ 4 := fun i => by
      rw [List.getD_eq_getElem?_getD]
      cases hx : (tableOf s m.Table)[i]? with
      | none => simp
      | some r =>
        have := rowB_sz (rows_row (table_rows h1 t2) (i := i) (r := r) (by rw [Int.toNat_of_nonneg t1]; exact hx))
        unfold sz_Row sz_IntS at this
        simp only [Option.getD_some]; omega
    refine ⟨?_, ?_⟩
    · dsimp only
      split
      · simp
      · exact hrow _
    · dsimp only
      split
      · simp
      · rename_i hk
        unfold mutB at h2
        rw [decide_eq_false hk, cond_false, Bool.and_eq_true] at h2
        have := rowB_sz h2.2
        unfold sz_Row sz_IntS at this
        omega
theorem runMuts_CB : ∀ {l : List Mut} {s : Store} {acc : List Change} {t : Store} {cs : List Change}, (∀ c ∈ acc, CB c) → runMuts s acc l = some (t, cs) → cs.length = acc.length + l.length ∧ ∀ c ∈ cs, CB c
  | [], s, acc, t, cs, h, he => by rw [runMuts] at he; cases he; exact ⟨rfl, h⟩
  | m :: l, s, acc, t, cs, h, he => by
    rw [runMuts] at he
    split at he
    · rename_i hok
      obtain ⟨h1, h2⟩ := runMuts_CB (snoc_all h (mutDo_CB hok)) he
      exact ⟨by rw [h1]; simp; omega, h2⟩
    · cases he
theorem batch_CB (s : Store) (l : List Mut) : (batchF s l).2.1.length ≤ l.length ∧ ∀ c ∈ (batchF s l).2.1, CB c := by
  unfold batchF
  split
  · split
    · cases hr : runMuts s [] l with
      | none => simp
      | some q =>
        obtain ⟨t, cs⟩ := q
        obtain ⟨h1, h2⟩ := runMuts_CB (by simp) hr
        exact ⟨by dsimp only; rw [h1]; simp, h2⟩
    · simp
  · simp

theorem spec_StoreNew_eq (s : Schema) (hb : Schema_b s) (hz : sz_Schema s ≤ 1099511627776) : spec_StoreNew.f s = some (if schemaB s = true then (⟨s, 0, List.replicate s.Cols.length []⟩, true) else (noStore, false)) := by
  unfold spec_StoreNew.f
  rw [spec_SchemaOk_eq _ hb, Option.bind_some]
  cases hs : schemaB s with
  | false => rfl
  | true =>
    have := schema_len hs
    rw [show bo3 true false true = false from rfl, cond_false, if_pos rfl, spec_l7Schema_eq _ hz, Option.bind_some, lenI_eq, mkO_ok (by omega), Option.bind_some, Int.toNat_natCast]

theorem l6DrawSchema_l0 (a : l1Cur) : ∀ (k i : Nat) (ci h : Int) (l : List Int), CI a.b ci → l.length = i → i ≤ 3 → 4 ≤ i + k → (∀ x ∈ l, 1 ≤ x ∧ x ≤ 4) →
    ∃ ci' h' l', spec_l6DrawSchema.l0 a k ci h l i = some (l1Cur.mk a.b ci' h', Schema.mk l') ∧ CI a.b ci' ∧ (i < 1 ∨ 1 ≤ i) ∧ l'.length ≤ 3 ∧ i ≤ l'.length ∧ 1 ≤ l'.length ∧ ∀ x ∈ l', 1 ≤ x ∧ x ≤ 4 := by
  intro k
  induction k with
  | zero => intro i ci h l hc hl h1 h2; omega
  | succ k ih =>
    intro i ci h l hc hl h1 h2 hx
    obtain ⟨c1, h1', x1, e1, k1, l1, u1, _⟩ := l1Below_ok h 3 hc
    have hx3 := u1 (by omega)
    rw [spec_l6DrawSchema.l0, e1, Option.bind_some]
    dsimp only
    rw [w64_id (by omega)]
    by_cases c : (i : Int) < 1 + x1
    · obtain ⟨c2, h2', x2, e2, k2, l2, u2, _⟩ := l1Below_ok h1' 4 k1
      have hx4 := u2 (by omega)
      rw [decide_eq_true c, cond_true, e2, Option.bind_some]
      dsimp only
      rw [w64_id (by omega), Option.bind_some, appO_ok (by simp only [List.length_cons, List.length_nil]; omega), Option.bind_some, w64_succ (by omega)]
      obtain ⟨ci', h', l', q1, q2, q3, q4, q5, q6, q7⟩ := ih (i + 1) c2 h2' (l ++ [1 + x2]) k2 (by simp [hl]) (by omega) (by omega) (snoc_all hx (by omega))
      exact ⟨ci', h', l', q1, q2, by omega, q4, by omega, q6, q7⟩
    · rw [decide_eq_false c, cond_false]
      exact ⟨_, _, _, rfl, k1, by omega, by omega, by omega, by omega, hx⟩
theorem l6DrawSchema_ok {b : List Int} {i : Int} (h : Int) (hc : CI b i) : ∃ i' h' s, spec_l6DrawSchema.f (l1Cur.mk b i h) = some (l1Cur.mk b i' h', s) ∧ CI b i' ∧ s.Cols.length ≤ 3 ∧ 1 ≤ s.Cols.length ∧ ∀ x ∈ s.Cols, 1 ≤ x ∧ x ≤ 4 := by
  unfold spec_l6DrawSchema.f
  obtain ⟨ci', h', l', q1, q2, q3, q4, q5, q6, q7⟩ := l6DrawSchema_l0 (l1Cur.mk b i h) 1000 0 i h [] hc rfl (by omega) (by omega) (by simp)
  exact ⟨_, _, _, q1, q2, q4, q6, q7⟩

theorem l6DrawRows_l0 (a : l1Cur) (n : Int) (hn : 0 ≤ n ∧ n ≤ 5) : ∀ (k i : Nat) (ci h : Int) (l : List Row), CI a.b ci → l.length ≤ i → i ≤ 8 → 9 ≤ i + k → DRs n l →
    ∃ ci' h' l', spec_l6DrawRows.l0 a n k ci h l i = some (l1Cur.mk a.b ci' h', l') ∧ CI a.b ci' ∧ l'.length ≤ 8 ∧ DRs n l' := by
  intro k
  induction k with
  | zero => intro i ci h l hc hl h1 h2; omega
  | succ k ih =>
    intro i ci h l hc hl h1 h2 hd
    obtain ⟨c1, h1', x1, e1, k1, l1, u1, _⟩ := l1Below_ok h 9 hc
    have hx3 := u1 (by omega)
    rw [spec_l6DrawRows.l0, e1, Option.bind_some]
    dsimp only
    by_cases c : (i : Int) < x1
    · obtain ⟨c2, h2', r, e2, k2, r1, r2, r3, r4⟩ := l6DrawRow_ok h1' n hn.2 k1
      have hr : DRw n r := ⟨r1, r2, by omega, r4⟩
      have := hd.sz hn.2 (k := 8) (by omega)
      have := hr.sz hn.2
      rw [decide_eq_true c, cond_true, e2, Option.bind_some]
      dsimp only
      rw [spec_RowPut_eq _ _ (by omega) (by omega), Option.bind_some, w64_succ (by omega)]
      have := rowPut_len l r
      exact ih (i + 1) c2 h2' _ k2 (by omega) (by omega) (by omega) (hd.put hr)
    · rw [decide_eq_false c, cond_false]
      exact ⟨_, _, _, rfl, k1, by omega, hd⟩
theorem l6DrawRows_ok {b : List Int} {i : Int} (h : Int) (n : Int) (hn : 0 ≤ n ∧ n ≤ 5) (hc : CI b i) : ∃ i' h' l, spec_l6DrawRows.f (l1Cur.mk b i h) n = some (l1Cur.mk b i' h', l) ∧ CI b i' ∧ l.length ≤ 8 ∧ DRs n l := by
  unfold spec_l6DrawRows.f
  exact l6DrawRows_l0 (l1Cur.mk b i h) n hn 1000 0 i h [] hc (by simp) (by omega) (by omega) ⟨List.Pairwise.nil, by simp⟩

theorem l7DrawRight_l0 (a : l1Cur) (s : Schema) (v : Int) (ts : List (List Row)) (ok : Bool) (hs : schemaB s = true) : ∀ (k i : Nat) (ci h : Int) (l : List (List Row)), CI a.b ci → l.length = s.Cols.length → i ≤ l.length → l.length < i + k → (∀ t rows, t < i → l[t]? = some rows → rows.length ≤ 8 ∧ DRs (s.Cols.getD t 0) rows) →
    ∃ ci' h' l', (∀ K, spec_l7DrawRight.l0 a (⟨s, v, ts⟩, ok) K k ci h l i = K ci' h' l') ∧ CI a.b ci' ∧ l'.length = s.Cols.length ∧ ∀ t rows, l'[t]? = some rows → rows.length ≤ 8 ∧ DRs (s.Cols.getD t 0) rows := by
  intro k
  induction k with
  | zero => intro i ci h l hc hl h1 h2; omega
  | succ k ih =>
    intro i ci h l hc hl h1 h2 hd
    have h3 := schema_len hs
    by_cases c : i < l.length
    · have hi : i < s.Cols.length := by omega
      have hcol : 1 ≤ s.Cols[i] ∧ s.Cols[i] ≤ 4 := by
        unfold schemaB at hs
        rw [Bool.and_eq_true, List.all_eq_true] at hs
        exact of_decide_eq_true (hs.1 _ (List.getElem_mem hi))
      have hg : s.Cols.getD i 0 = s.Cols[i] := by rw [List.getD_eq_getElem?_getD, List.getElem?_eq_getElem hi]; rfl
      obtain ⟨c1, h1', rows, e1, k1, r1, r2⟩ := l6DrawRows_ok h s.Cols[i] (by omega) hc
      obtain ⟨ci', h', l', q1, q2, q3, q4⟩ := ih (i + 1) c1 h1' (l.set i rows) k1 (by rw [List.length_set]; exact hl) (by rw [List.length_set]; omega) (by rw [List.length_set]; omega) (fun t q ht hq => by
        by_cases e : t = i
        · subst e
          rw [List.getElem?_set_self (by omega)] at hq
          cases hq
          rw [hg]; exact ⟨r1, r2⟩
        · rw [List.getElem?_set_ne (fun e' => e e'.symm)] at hq
          exact hd t q (by omega) hq)
      refine ⟨ci', h', l', fun K => ?_, q2, q3, q4⟩
      rw [spec_l7DrawRight.l0, lenI_eq, decide_eq_true (by omega), cond_true]
      dsimp only
      rw [getO_nat, List.getElem?_eq_getElem hi, Option.bind_some, e1, Option.bind_some, getO_nat, List.getElem?_eq_getElem c, Option.bind_some, Option.bind_some, setI_nat, w64_succ (by omega)]
      exact q1 K
    · refine ⟨ci, h, l, fun K => ?_, hc, hl, fun t rows hq => hd t rows (by have := at_lt hq; omega) hq⟩
      rw [spec_l7DrawRight.l0, lenI_eq, decide_eq_false (by omega), cond_false]
theorem l7DrawRight_ok {b : List Int} {i : Int} (h : Int) (hc : CI b i) : ∃ i' h' s, spec_l7DrawRight.f (l1Cur.mk b i h) = some (l1Cur.mk b i' h', s) ∧ CI b i' ∧ DSt s := by
  unfold spec_l7DrawRight.f
  obtain ⟨c1, h1, s, e1, k1, l1, l2, l3⟩ := l6DrawSchema_ok h hc
  have hs : schemaB s = true := by
    unfold schemaB
    rw [decide_eq_true (by omega), Bool.and_true, List.all_eq_true]
    exact fun x hx => decide_eq_true (l3 x hx)
  rw [e1, Option.bind_some]
  dsimp only
  rw [spec_StoreNew_eq s (by unfold Schema_b IntS_b; omega) (by unfold sz_Schema sz_IntS; omega), if_pos hs, Option.bind_some, joinK_eq]
  dsimp only
  obtain ⟨c2, h2, l, e2, k2, m1, m2⟩ := l7DrawRight_l0 (l1Cur.mk b i h) s 0 (List.replicate s.Cols.length []) true hs (((lenI (List.replicate s.Cols.length ([] : List Row))) - 0).toNat + 1) 0 c1 h1 (List.replicate s.Cols.length []) k1 (by simp) (by omega) (by rw [lenI_eq]; simp) (fun t rows ht => by omega)
  rw [show ((0 : Nat) : Int) = 0 from rfl] at e2
  rw [e2]
  obtain ⟨c3, h3, x3, e3, k3, l3', u3, _⟩ := l1Below_ok h2 5 k2
  have := u3 (by omega)
  dsimp only at e3 ⊢
  rw [e3, Option.bind_some]
  refine ⟨_, _, _, rfl, k3, ?_, ⟨l3', by dsimp only; omega⟩, m2⟩
  unfold storeB
  dsimp only
  rw [hs, decide_eq_true (by omega), decide_eq_true m1]
  simp only [Bool.true_and]
  rw [allFrom_iff]
  intro t rows ht
  obtain ⟨p1, p2⟩ := m2 t rows ht
  have hlt := at_lt ht
  exact up_rowsB hs (by omega) (by omega) p2.1 fun r hr => (p2.2 r hr).rowB hs (by omega)

def Cond_r (x : Cond) : Prop := (-9223372036854775808 ≤ x.Col ∧ x.Col ≤ 9223372036854775807) ∧ (-9223372036854775808 ≤ x.Op ∧ x.Op ≤ 9223372036854775807) ∧ (-9223372036854775808 ≤ x.V ∧ x.V ≤ 9223372036854775807)
def sz_CondS (l : List Cond) : Int := l.length
def CondS_b (l : List Cond) : Prop := l.length ≤ 9223372036854775807
theorem sz_CondS_0 (l : List Cond) : 0 ≤ sz_CondS l := by unfold sz_CondS; omega
def CondS_r (l : List Cond) : Prop := ∀ x ∈ l, Cond_r x
def sz_Query (x : Query) : Int := sz_CondS x.Where + sz_IntS x.Show
def Query_b (x : Query) : Prop := CondS_b x.Where ∧ IntS_b x.Show
theorem sz_Query_0 (x : Query) : 0 ≤ sz_Query x := by unfold sz_Query; exact by have := sz_CondS_0 x.Where; have := sz_IntS_0 x.Show;  omega
def Query_r (x : Query) : Prop := (-9223372036854775808 ≤ x.Table ∧ x.Table ≤ 9223372036854775807) ∧ CondS_r x.Where ∧ (-9223372036854775808 ≤ x.Order ∧ x.Order ≤ 9223372036854775807) ∧ (-9223372036854775808 ≤ x.First ∧ x.First ≤ 9223372036854775807) ∧ IntS_r x.Show ∧ (-9223372036854775808 ≤ x.KidTable ∧ x.KidTable ≤ 9223372036854775807) ∧ (-9223372036854775808 ≤ x.KidCol ∧ x.KidCol ≤ 9223372036854775807)
/-- A question that is not too great. -/
def QB (q : Query) : Prop := q.Where.length ≤ 4 ∧ q.Show.length ≤ 6
def Qr3 (q : Query) : Prop := q.Where.length ≤ 3 ∧ q.Show.length ≤ 5
theorem Qr3.qb {q : Query} (h : Qr3 q) : QB q := ⟨by have := h.1; omega, by have := h.2; omega⟩
theorem QB.b {q : Query} (h : QB q) : Query_b q := by
  have h1 := h.1
  have h2 := h.2
  exact ⟨by unfold CondS_b; omega, by unfold IntS_b; omega⟩

theorem l9DrawRight_l0 (a : l1Cur) (y : Int) : ∀ (k i : Nat) (ci h : Int) (l : List Cond), CI a.b ci → l.length = i → i ≤ 2 → 3 ≤ i + k →
    ∃ ci' h' l', (∀ K, spec_l9DrawRight.l0 a y K k ci h l i = K ci' h' l') ∧ CI a.b ci' ∧ l'.length ≤ 3 := by
  intro k
  induction k with
  | zero => intro i ci h l hc hl h1 h2; omega
  | succ k ih =>
    intro i ci h l hc hl h1 h2
    obtain ⟨c1, h1', x1, e1, k1, l1, u1, _⟩ := l1Below_ok h 3 hc
    have hx3 := u1 (by omega)
    by_cases c : (i : Int) < x1
    · obtain ⟨c2, h2', x2, e2, k2, l2, u2, _⟩ := l1Below_ok h1' y k1
      obtain ⟨c3, h3', x3, e3, k3, l3, u3, _⟩ := l1Below_ok h2' 4 k2
      obtain ⟨c4, h4', x4, e4, k4, l4, u4, _⟩ := l1Below_ok h3' 6 k3
      obtain ⟨ci', h', l', q1, q2, q3⟩ := ih (i + 1) c4 h4' (l ++ [Cond.mk x2 (w64 (1 + x3)) x4]) k4 (by simp [hl]) (by omega) (by omega)
      refine ⟨ci', h', l', fun K => ?_, q2, q3⟩
      rw [spec_l9DrawRight.l0, e1, Option.bind_some]
      dsimp only
      rw [decide_eq_true c, cond_true, e2, Option.bind_some]
      dsimp only
      rw [e3, Option.bind_some]
      dsimp only
      rw [e4, Option.bind_some]
      dsimp only
      rw [Option.bind_some, appO_ok (by simp only [List.length_cons, List.length_nil]; omega), Option.bind_some, w64_succ (by omega)]
      exact q1 K
    · refine ⟨c1, h1', l, fun K => ?_, k1, by omega⟩
      rw [spec_l9DrawRight.l0, e1, Option.bind_some]
      dsimp only
      rw [decide_eq_false c, cond_false]
theorem l9DrawRight_l1 (a : l1Cur) (y : Int) (hy : y ≤ 5) (d : Bool) : ∀ (k i : Nat) (ci h : Int) (l : List Int), CI a.b ci → l.length ≤ i → (i : Int) ≤ y ∨ i = 0 → 0 < k → y < i + k →
    ∃ ci' h' l', (∀ K, spec_l9DrawRight.l1 a y K k ci h d l i = K ci' h' d l') ∧ CI a.b ci' ∧ l'.length ≤ 5 := by
  intro k
  induction k with
  | zero => intro i ci h l hc hl h0 h1 h2; omega
  | succ k ih =>
    intro i ci h l hc hl h0 h1 h2
    by_cases c : (i : Int) < y
    · obtain ⟨c2, h2', x2, e2, k2⟩ := l1Once_ok h 2 hc
      cases x2 with
      | true =>
        obtain ⟨ci', h', l', q1, q2, q3⟩ := ih (i + 1) c2 h2' (l ++ [(i : Int)]) k2 (by simp only [List.length_append, List.length_cons, List.length_nil]; omega) (by omega) (by omega) (by omega)
        refine ⟨ci', h', l', fun K => ?_, q2, q3⟩
        rw [spec_l9DrawRight.l1, decide_eq_true c, cond_true, e2, Option.bind_some, w64_succ (by omega)]
        dsimp only
        rw [cond_true, Option.bind_some, appO_ok (by simp only [List.length_cons, List.length_nil]; omega), Option.bind_some]
        exact q1 K
      | false =>
        obtain ⟨ci', h', l', q1, q2, q3⟩ := ih (i + 1) c2 h2' l k2 (by omega) (by omega) (by omega) (by omega)
        refine ⟨ci', h', l', fun K => ?_, q2, q3⟩
        rw [spec_l9DrawRight.l1, decide_eq_true c, cond_true, e2, Option.bind_some, w64_succ (by omega)]
        dsimp only
        rw [cond_false]
        exact q1 K
    · refine ⟨ci, h, l, fun K => ?_, hc, by omega⟩
      rw [spec_l9DrawRight.l1, decide_eq_false c, cond_false]
theorem l9DrawRight_end (a : l1Cur) (s : Schema) (q1 : Int) (w : List Cond) (o f : Int) (hs : SB s) (hw : w.length ≤ 3) : ∀ (ci h : Int) (d : Bool) (l : List Int), CI a.b ci → l.length ≤ 5 →
    ∃ ci' h' q, ((spec_l1Once.f (l1Cur.mk a.b ci h) 2).bind fun r130 =>
      bif r130.2 then (
      (spec_l1Max.f (lenI s.Cols) 1).bind fun r132 =>
      (spec_l1Below.f (l1Cur.mk a.b r130.1.i r130.1.h) r132).bind fun r133 =>
      bif (decide (r133.2 < (lenI s.Cols))) then (
      (getO s.Cols r133.2).bind fun x135 =>
      (spec_l1Max.f x135 1).bind fun r136 =>
      (spec_l1Below.f (l1Cur.mk a.b r133.1.i r133.1.h) r136).bind fun r137 =>
      some ((l1Cur.mk a.b r137.1.i r137.1.h), (Query.mk q1 w o d f l true r133.2 r137.2)))
      else (
      some ((l1Cur.mk a.b r133.1.i r133.1.h), (Query.mk q1 w o d f l true r133.2 0))))
      else (
      some ((l1Cur.mk a.b r130.1.i r130.1.h), (Query.mk q1 w o d f l false 0 0)))) = some (l1Cur.mk a.b ci' h', q) ∧ CI a.b ci' ∧ Qr3 q := by
  intro ci h d l hc hl
  obtain ⟨c2, h2, x2, e2, k2⟩ := l1Once_ok h 2 hc
  rw [e2, Option.bind_some]
  dsimp only
  cases x2 with
  | false => rw [cond_false]; exact ⟨_, _, _, rfl, k2, by dsimp only [Qr3]; omega⟩
  | true =>
    rw [cond_true, spec_l1Max_eq, Option.bind_some]
    obtain ⟨c3, h3, x3, e3, k3, l3, u3, _⟩ := l1Below_ok h2 (max (lenI s.Cols) 1) k2
    rw [e3, Option.bind_some]
    dsimp only
    by_cases c : x3 < lenI s.Cols
    · rw [decide_eq_true c, cond_true, getO_pos l3, List.getElem?_eq_getElem (by rw [lenI_eq] at c; omega), Option.bind_some, spec_l1Max_eq, Option.bind_some]
      obtain ⟨c4, h4, x4, e4, k4, _⟩ := l1Below_ok h3 (max (s.Cols[x3.toNat]'(by rw [lenI_eq] at c; omega)) 1) k3
      rw [e4, Option.bind_some]
      exact ⟨_, _, _, rfl, k4, by dsimp only [Qr3]; omega⟩
    · rw [decide_eq_false c, cond_false]
      exact ⟨_, _, _, rfl, k3, by dsimp only [Qr3]; omega⟩
theorem l9DrawRight_K (a : l1Cur) (s : Schema) (hs : SB s) (q1 : Int) (c0 h0 : Int) (hc : CI a.b c0) (y3 : Int) (hy : 1 ≤ y3 ∧ y3 ≤ 5) : ∃ i' h' q, (joinK (fun (y8 : Int) (y9 : Int) (y10 : List Cond) =>
  (spec_l1Below.f (l1Cur.mk a.b y8 y9) (w64 (y3 + 1))).bind fun r64 =>
  (gd (decide (0 < r64.2)) (spec_l1Once.f (l1Cur.mk a.b r64.1.i r64.1.h) 2)).bind fun r65 =>
  (some [0, 0, 1, 2, 3, 5]).bind fun l70 =>
  (spec_l1PickInt.f (l1Cur.mk a.b (ci3 (decide (0 < r64.2)) r65.1.i r64.1.i) (ci3 (decide (0 < r64.2)) r65.1.h r64.1.h)) l70).bind fun r71 =>
  joinK (fun (y72 : Int) (y73 : Int) (y74 : Bool) (y75 : List Int) =>
  (spec_l1Once.f (l1Cur.mk a.b y72 y73) 2).bind fun r130 =>
  bif r130.2 then (
  (spec_l1Max.f (lenI s.Cols) 1).bind fun r132 =>
  (spec_l1Below.f (l1Cur.mk a.b r130.1.i r130.1.h) r132).bind fun r133 =>
  bif (decide (r133.2 < (lenI s.Cols))) then (
  (getO s.Cols r133.2).bind fun x135 =>
  (spec_l1Max.f x135 1).bind fun r136 =>
  (spec_l1Below.f (l1Cur.mk a.b r133.1.i r133.1.h) r136).bind fun r137 =>
  some ((l1Cur.mk a.b r137.1.i r137.1.h), (Query.mk q1 y10 r64.2 y74 r71.2 y75 true r133.2 r137.2)))
  else (
  some ((l1Cur.mk a.b r133.1.i r133.1.h), (Query.mk q1 y10 r64.2 y74 r71.2 y75 true r133.2 0))))
  else (
  some ((l1Cur.mk a.b r130.1.i r130.1.h), (Query.mk q1 y10 r64.2 y74 r71.2 y75 false 0 0)))) (fun K76 =>
  spec_l9DrawRight.l1 a y3 K76 ((y3 - 0).toNat + 1) r71.1.i r71.1.h (bo3 (decide (0 < r64.2)) r65.2 false) [] 0)) (fun K11 =>
  spec_l9DrawRight.l0 a y3 K11 1000 c0 h0 [] 0)) = some (l1Cur.mk a.b i' h', q) ∧ CI a.b i' ∧ Qr3 q := by
  rw [joinK_eq]
  obtain ⟨c1, h1, w, e1, k1, w1⟩ := l9DrawRight_l0 a y3 1000 0 c0 h0 [] hc rfl (by omega) (by omega)
  rw [show ((0 : Nat) : Int) = 0 from rfl] at e1
  rw [e1]
  obtain ⟨c2, h2, x2, e2, k2, _⟩ := l1Below_ok h1 (w64 (y3 + 1)) k1
  rw [e2, Option.bind_some]
  dsimp only
  have hmid : ∃ c3 h3 d3, (gd (decide (0 < x2)) (spec_l1Once.f (l1Cur.mk a.b c2 h2) 2)).bind (fun r65 => some (ci3 (decide (0 < x2)) r65.1.i c2, ci3 (decide (0 < x2)) r65.1.h h2, bo3 (decide (0 < x2)) r65.2 false)) = some (c3, h3, d3) ∧ CI a.b c3 := by
    by_cases c : 0 < x2
    · obtain ⟨c3, h3, x3, e3, k3⟩ := l1Once_ok h2 2 k2
      rw [decide_eq_true c, gd_true, e3, Option.bind_some]
      exact ⟨_, _, _, rfl, k3⟩
    · rw [decide_eq_false c, gd_false, Option.bind_some]
      exact ⟨_, _, _, rfl, k2⟩
  obtain ⟨c3, h3, d3, e3, k3⟩ := hmid
  have hm2 : ∀ {β : Type} (G : Int → Int → Bool → Option β), (gd (decide (0 < x2)) (spec_l1Once.f (l1Cur.mk a.b c2 h2) 2)).bind (fun r65 => G (ci3 (decide (0 < x2)) r65.1.i c2) (ci3 (decide (0 < x2)) r65.1.h h2) (bo3 (decide (0 < x2)) r65.2 false)) = G c3 h3 d3 := fun G => by
    have := congrArg (fun o => o.bind fun t => G t.1 t.2.1 t.2.2) e3
    simpa only [Option.bind_assoc, Option.bind_some] using this
  obtain ⟨c4, h4, x4, e4, k4, m4⟩ := l1PickInt_ok (l := [0, 0, 1, 2, 3, 5]) h3 (by simp) k3
  simp only [Option.bind_some]
  refine (?_ : ∃ i' h' q, _ = some (l1Cur.mk a.b i' h', q) ∧ CI a.b i' ∧ Qr3 q)
  have hm3 := hm2 (fun ci hh dd => (spec_l1PickInt.f (l1Cur.mk a.b ci hh) [0, 0, 1, 2, 3, 5]).bind fun r71 =>
    joinK (fun (y72 : Int) (y73 : Int) (y74 : Bool) (y75 : List Int) =>
    (spec_l1Once.f (l1Cur.mk a.b y72 y73) 2).bind fun r130 =>
    bif r130.2 then (
    (spec_l1Max.f (lenI s.Cols) 1).bind fun r132 =>
    (spec_l1Below.f (l1Cur.mk a.b r130.1.i r130.1.h) r132).bind fun r133 =>
    bif (decide (r133.2 < (lenI s.Cols))) then (
    (getO s.Cols r133.2).bind fun x135 =>
    (spec_l1Max.f x135 1).bind fun r136 =>
    (spec_l1Below.f (l1Cur.mk a.b r133.1.i r133.1.h) r136).bind fun r137 =>
    some ((l1Cur.mk a.b r137.1.i r137.1.h), (Query.mk q1 w x2 y74 r71.2 y75 true r133.2 r137.2)))
    else (
    some ((l1Cur.mk a.b r133.1.i r133.1.h), (Query.mk q1 w x2 y74 r71.2 y75 true r133.2 0))))
    else (
    some ((l1Cur.mk a.b r130.1.i r130.1.h), (Query.mk q1 w x2 y74 r71.2 y75 false 0 0)))) (fun K76 =>
    spec_l9DrawRight.l1 a y3 K76 ((y3 - 0).toNat + 1) r71.1.i r71.1.h dd [] 0))
  rw [hm3, e4, Option.bind_some, joinK_eq]
  obtain ⟨c5, h5, sh, e5, k5, l5⟩ := l9DrawRight_l1 a y3 hy.2 d3 ((y3 - 0).toNat + 1) 0 c4 h4 [] k4 (by simp) (by omega) (by omega) (by omega)
  rw [show ((0 : Nat) : Int) = 0 from rfl] at e5
  dsimp only at e5 ⊢
  rw [e5]
  exact l9DrawRight_end a s q1 w x2 x4 hs w1 c5 h5 d3 sh k5 l5
theorem l9DrawRight_ok {b : List Int} {i : Int} (h : Int) (s : Schema) (hs : SB s) (hc : CI b i) : ∃ i' h' q, spec_l9DrawRight.f (l1Cur.mk b i h) s = some (l1Cur.mk b i' h', q) ∧ CI b i' ∧ Qr3 q := by
  unfold spec_l9DrawRight.f
  rw [bnd_some (spec_l1Max_eq _ _)]
  obtain ⟨c1, h1, x1, e1, k1, l1, _⟩ := l1Below_ok h (max (lenI s.Cols) 1) hc
  rw [e1, Option.bind_some]
  dsimp only
  rw [joinK_eq]
  by_cases c : x1 < lenI s.Cols
  · have hlt : x1.toNat < s.Cols.length := by rw [lenI_eq] at c; omega
    rw [decide_eq_true c, cond_true, getO_pos l1, List.getElem?_eq_getElem hlt, Option.bind_some, bnd_some (spec_l1Max_eq _ _)]
    have := hs.2 _ (List.getElem_mem hlt)
    have k := l9DrawRight_K (l1Cur.mk b i h) s hs x1 c1 h1 k1 (max s.Cols[x1.toNat] 1) (by omega)
    exact k
  · rw [decide_eq_false c, cond_false]
    exact l9DrawRight_K (l1Cur.mk b i h) s hs x1 c1 h1 k1 1 (by omega)

def kidsB (s : Schema) (q : Query) : Bool :=
  if q.Kids then decide (0 ≤ q.KidTable ∧ q.KidTable ≤ (s.Cols.length : Int) - 1) && decide (0 ≤ q.KidCol ∧ q.KidCol ≤ w64 (s.Cols.getD q.KidTable.toNat 0 - 1)) else decide (q.KidTable = 0) && decide (q.KidCol = 0)
def condB (cols : Int) (c : Cond) : Bool := decide (0 ≤ c.Col ∧ c.Col ≤ w64 (cols - 1)) && decide (1 ≤ c.Op ∧ c.Op ≤ 4) && decide (-1000000000 ≤ c.V ∧ c.V ≤ 1000000000)
def showB (cols : Int) (l : List Int) : Bool := allFrom (fun i x => decide (0 ≤ x ∧ x ≤ w64 (cols - 1)) && !(decide (0 < i) && decide (x ≤ l.getD (i - 1) 0))) l 0
def queryB (s : Schema) (q : Query) : Bool :=
  schemaB s && decide (0 ≤ q.Table ∧ q.Table ≤ (s.Cols.length : Int) - 1) &&
    (let cols := s.Cols.getD q.Table.toNat 0
     q.Where.all (condB cols) && showB cols q.Show && (decide (q.Where.length ≤ 3) && decide (0 ≤ q.Order ∧ q.Order ≤ cols) && (!q.Down || decide (0 < q.Order)) && decide (0 ≤ q.First ∧ q.First ≤ 24) && kidsB s q))
theorem show_step {r : Bool} {l : List Int} {i : Nat} {x : Int} (hx : l[i]? = some x) (hl : i < 9223372036854775807) : gd (bo3 r (decide (0 < (i : Int))) false) (getO l (w64 ((i : Int) - 1))) = some (bif bo3 r (decide (0 < (i : Int))) false then l.getD (i - 1) 0 else 0) := by
  refine gd_some _ fun h => ?_
  have h0 := of_decide_eq_true (bo_r h)
  have hi := at_lt hx
  rw [w64_id (by omega), show ((i : Int) - 1) = ((i - 1 : Nat) : Int) by omega, getO_nat, List.getD_eq_getElem?_getD, List.getElem?_eq_getElem (by omega)]
  rfl

theorem spec_QueryOk_eq (s : Schema) (q : Query) (h : Schema_b s) (hq : Query_b q) : spec_QueryOk.f s q = some (queryB s q) := by
  have hcl : s.Cols.length ≤ 9223372036854775807 := h
  obtain ⟨hw, hs⟩ := hq
  have hwl : q.Where.length ≤ 9223372036854775807 := hw
  have hsl : q.Show.length ≤ 9223372036854775807 := hs
  unfold spec_QueryOk.f queryB
  rw [spec_SchemaOk_eq _ h, Option.bind_some]
  cases schemaB s with
  | false => rfl
  | true =>
    rw [show bo3 (bo3 true false true) false true = true from rfl, gd_true, lenI_eq, w64_id (by omega), spec_l1In_eq, Option.bind_some]
    by_cases d : 0 ≤ q.Table ∧ q.Table ≤ (s.Cols.length : Int) - 1
    case neg => rw [decide_eq_false d]; rfl
    rw [decide_eq_true d, getO_Int d]
    generalize s.Cols.getD q.Table.toNat 0 = cols
    by_cases d3 : q.Where.length ≤ 3
    case neg =>
      rw [lenI_eq, decide_eq_true (by omega), show bo3 (bo3 (bo3 true false true) true (bo3 true false true)) true true = true from rfl, cond_true, decide_eq_false d3]
      simp
    rw [lenI_eq, decide_eq_false (by omega), show bo3 (bo3 (bo3 true false true) true (bo3 true false true)) true false = false from rfl, cond_false, decide_eq_true d3, Option.bind_some]
    simp only [joinK, Bool.true_and]
    refine (loop_all (f := spec_QueryOk.l0 q cols _) (l := q.Where) (fun _ c => condB cols c) (some false) (some (showB cols q.Show && (decide (0 ≤ q.Order ∧ q.Order ≤ cols) && (!q.Down || decide (0 < q.Order)) && decide (0 ≤ q.First ∧ q.First ≤ 24) && kidsB s q))) (fun k i x hx => ?_) (fun k i hi => ?_) _ 0 (by omega) (by (try simp only [lenI_eq]); omega)).trans ?_
    · have hi := at_lt hx
      rw [spec_QueryOk.l0, lenI_eq, decide_eq_true (by omega), cond_true, getO_nat, hx, Option.bind_some, spec_l1In_eq, Option.bind_some, spec_l1In_eq, spec_l1In_eq, w64_succ (by omega)]
      unfold condB
      cases decide (0 ≤ x.Col ∧ x.Col ≤ w64 (cols - 1)) <;> cases decide (1 ≤ x.Op ∧ x.Op ≤ 4) <;> cases decide (-1000000000 ≤ x.V ∧ x.V ≤ 1000000000) <;> rfl
    · rw [spec_QueryOk.l0, lenI_eq, decide_eq_false (by omega), cond_false]
      refine (loop_all (f := spec_QueryOk.l1 q cols _) (l := q.Show) (fun i x => decide (0 ≤ x ∧ x ≤ w64 (cols - 1)) && !(decide (0 < i) && decide (x ≤ q.Show.getD (i - 1) 0))) (some false) (some (decide (0 ≤ q.Order ∧ q.Order ≤ cols) && (!q.Down || decide (0 < q.Order)) && decide (0 ≤ q.First ∧ q.First ≤ 24) && kidsB s q)) (fun k i x hx => ?_) (fun k i hi => ?_) _ 0 (by omega) (by (try simp only [lenI_eq]); omega)).trans ?_
      · have hi := at_lt hx
        rw [spec_QueryOk.l1, lenI_eq, decide_eq_true (by omega), cond_true, getO_nat, hx, Option.bind_some, spec_l1In_eq, Option.bind_some, show_step hx (by omega), Option.bind_some, w64_succ (by omega)]
        rw [show decide (0 < (i : Int)) = decide (0 < i) from by simp]
        cases decide (0 ≤ x ∧ x ≤ w64 (cols - 1)) <;> cases decide (0 < i) <;> (try rfl)
        simp only [bo3_and, bo3_not, bo3_or, Bool.not_true, Bool.not_false, Bool.true_and, cond_true]
        cases decide (x ≤ q.Show.getD (i - 1) 0) <;> rfl
      · rw [spec_QueryOk.l1, lenI_eq, decide_eq_false (by omega), cond_false, spec_l1In_eq, Option.bind_some, spec_l1In_eq]
        by_cases e0 : 0 ≤ q.Order ∧ q.Order ≤ cols
        case neg => rw [decide_eq_false e0]; rfl
        rw [decide_eq_true e0, show bo3 (bo3 true false true) false true = true from rfl, gd_true, Option.bind_some]
        by_cases e1 : 0 ≤ q.First ∧ q.First ≤ 24
        case neg => rw [decide_eq_false e1]; simp [bo3]
        rw [decide_eq_true e1]
        have e2 : (bo3 (decide (q.Order = 0)) q.Down false) = !(!q.Down || decide (0 < q.Order)) := by
          cases q.Down with
          | false => cases decide (q.Order = 0) <;> rfl
          | true =>
            by_cases e3 : q.Order = 0
            · simp [e3, bo3]
            · have : 0 < q.Order := by omega
              simp [e3, bo3, this]
        rw [e2]
        cases hd : (!q.Down || decide (0 < q.Order)) with
        | false => simp [bo3]
        | true =>
          rw [show bo3 (bo3 (bo3 true false true) true (bo3 true false true)) true (!true) = false from rfl, cond_false, bo3_not]
          unfold kidsB
          cases q.Kids with
          | false => simp [bo3_and]
          | true =>
            rw [Bool.not_true, cond_false, spec_l1In_eq, Option.bind_some, if_pos rfl]
            by_cases d : 0 ≤ q.KidTable ∧ q.KidTable ≤ (s.Cols.length : Int) - 1
            · rw [decide_eq_true d, gd_true, getO_Int d, Option.bind_some, gd_true, spec_l1In_eq, Option.bind_some, bo3_and]
              simp
            · rw [decide_eq_false d, gd_false, Option.bind_some, gd_false, Option.bind_some, bo3_and]
              simp
      · unfold showB
        cases allFrom (fun i x => decide (0 ≤ x ∧ x ≤ w64 (cols - 1)) && !(decide (0 < i) && decide (x ≤ q.Show.getD (i - 1) 0))) q.Show 0 <;> rfl
    · rw [allFrom_zero]
      cases q.Where.all fun c => condB cols c <;> simp

def cmpB (op v z : Int) : Bool := if op = 1 then decide (v = z) else if op = 2 then decide (v < z) else if op = 3 then decide (z < v) else if op = 4 then decide (v ≠ z) else false
def holdsB (c : Cond) (r : Row) : Bool := decide (0 ≤ c.Col ∧ c.Col ≤ (r.Cells.length : Int) - 1) && cmpB c.Op (r.Cells.getD c.Col.toNat 0) c.V
def matchesB (q : Query) (r : Row) : Bool := q.Where.all fun c => holdsB c r

theorem spec_l9Holds_eq (c : Cond) (r : Row) (h : Row_b r) : spec_l9Holds.f c r = some (holdsB c r) := by
  have hl : r.Cells.length ≤ 9223372036854775807 := h
  unfold spec_l9Holds.f holdsB
  rw [lenI_eq, w64_id (by omega), spec_l1In_eq, Option.bind_some, bo3_not]
  by_cases d : 0 ≤ c.Col ∧ c.Col ≤ (r.Cells.length : Int) - 1
  · rw [decide_eq_true d, Bool.not_true, cond_false, getO_Int d, Option.bind_some, Bool.true_and]
    simp only [cond_ite, decide_eq_true_eq, some_if, bo3_and, cmpB]
    all_goals ((repeat' split) <;> simp_all)
  · rw [decide_eq_false d, Bool.not_false, cond_true, Bool.false_and]

theorem spec_Matches_eq (q : Query) (r : Row) (hq : CondS_b q.Where) (h : Row_b r) : spec_Matches.f q r = some (matchesB q r) := by
  have hl : q.Where.length ≤ 9223372036854775807 := hq
  unfold spec_Matches.f
  refine (loop_all (f := spec_Matches.l0 q r) (l := q.Where) (fun _ c => holdsB c r) (some false) (some true) (fun k i x hx => ?_) (fun k i hi => ?_) _ 0 (by omega) (by (try simp only [lenI_eq]); omega)).trans ?_
  · have hi := at_lt hx
    rw [spec_Matches.l0, lenI_eq, decide_eq_true (by omega), cond_true, getO_nat, hx, Option.bind_some, spec_l9Holds_eq _ _ h, Option.bind_some, bo3_not, w64_succ (by omega)]
    cases holdsB x r <;> rfl
  · rw [spec_Matches.l0, lenI_eq, decide_eq_false (by omega), cond_false]
  · rw [allFrom_zero, matchesB]
    cases q.Where.all fun c => holdsB c r <;> rfl

def cellF (r : Row) (col : Int) : Int := if 0 ≤ col ∧ col ≤ (r.Cells.length : Int) - 1 then r.Cells.getD col.toNat 0 else 0
def aheadB (q : Query) (a b : Row) : Bool :=
  if q.Order = 0 then decide (a.Id < b.Id) else
    let x := cellF a (w64 (q.Order - 1)); let y := cellF b (w64 (q.Order - 1))
    if x = y then decide (a.Id < b.Id) else if q.Down then decide (y < x) else decide (x < y)

theorem spec_l9Cell_eq (r : Row) (col : Int) (h : Row_b r) : spec_l9Cell.f r col = some (cellF r col) := by
  have hl : r.Cells.length ≤ 9223372036854775807 := h
  unfold spec_l9Cell.f cellF
  rw [lenI_eq, w64_id (by omega), spec_l1In_eq, Option.bind_some, bo3_not]
  by_cases d : 0 ≤ col ∧ col ≤ (r.Cells.length : Int) - 1
  · rw [decide_eq_true d, Bool.not_true, cond_false, getO_Int d, Option.bind_some, if_pos d]
  · rw [decide_eq_false d, Bool.not_false, cond_true, if_neg d]

theorem spec_Ahead_eq (q : Query) (a b : Row) (ha : Row_b a) (hb : Row_b b) : spec_Ahead.f q a b = some (aheadB q a b) := by
  unfold spec_Ahead.f aheadB
  rw [spec_l9Cell_eq _ _ ha, spec_l9Cell_eq _ _ hb]
  simp only [Option.bind_some, cond_ite, decide_eq_true_eq, some_if, bo3_not, bo3_xor, ne_eq, ite_not]
  all_goals (
    generalize cellF a (w64 (q.Order - 1)) = x
    generalize cellF b (w64 (q.Order - 1)) = y
    by_cases h0 : q.Order = 0
    · simp [h0]
    · by_cases h1 : x = y
      · simp [h0, h1]
      · cases hd : q.Down with
        | true =>
          simp only [h0, h1, if_false, if_true, Option.some.injEq, decide_eq_true_eq]
          by_cases h2 : x < y
          · simp [h2]; try omega
          · simp [h2]; try omega
        | false =>
          simp only [h0, h1, if_false, Option.some.injEq, decide_eq_true_eq]
          by_cases h2 : x < y
          · simp [h2]; try omega
          · simp [h2]; try omega)

def Kid_r (x : Kid) : Prop := (-9223372036854775808 ≤ x.Id ∧ x.Id ≤ 9223372036854775807) ∧ (-9223372036854775808 ≤ x.N ∧ x.N ≤ 9223372036854775807)
def sz_KidS (l : List Kid) : Int := l.length
def KidS_b (l : List Kid) : Prop := l.length ≤ 9223372036854775807
theorem sz_KidS_0 (l : List Kid) : 0 ≤ sz_KidS l := by unfold sz_KidS; omega
def KidS_r (l : List Kid) : Prop := ∀ x ∈ l, Kid_r x
def isKid (id : Int) (k : Kid) : Bool := decide (id ≤ k.Id)
def kidPutF (l : List Kid) (id by_ : Int) : List Kid :=
  match l[l.findIdx (isKid id)]? with
  | some k => if k.Id = id then (if 0 < w64 (k.N + by_) then l.set (l.findIdx (isKid id)) ⟨id, w64 (k.N + by_)⟩ else l.eraseIdx (l.findIdx (isKid id)))
    else (if 0 < by_ then l.take (l.findIdx (isKid id)) ++ [⟨id, by_⟩] ++ l.drop (l.findIdx (isKid id)) else l)
  | none => if 0 < by_ then l ++ [⟨id, by_⟩] else l
def kidMid (l : List Kid) (id by_ : Int) : List Kid :=
  match l[l.findIdx (isKid id)]? with
  | some k => if k.Id = id then (if 0 < w64 (k.N + by_) then l.set (l.findIdx (isKid id)) ⟨id, w64 (k.N + by_)⟩ else l.eraseIdx (l.findIdx (isKid id)))
    else (if 0 < by_ then l.take (l.findIdx (isKid id)) ++ [⟨id, by_⟩] ++ l.drop (l.findIdx (isKid id)) else l)
  | none => l
theorem kid_mid {l : List Kid} {id by_ : Int} (h : l.findIdx (isKid id) < l.length) : kidMid l id by_ = kidPutF l id by_ := by
  unfold kidMid kidPutF
  rw [List.getElem?_eq_getElem h]
theorem kidPut_len (l : List Kid) (id by_ : Int) : (kidPutF l id by_).length ≤ l.length + 1 := by
  unfold kidPutF
  split
  · split
    · split
      · rw [List.length_set]; omega
      · rw [List.length_eraseIdx]; split <;> omega
    · split
      · simp; omega
      · omega
  · split
    · simp
    · omega
theorem findIdx_takeA {α : Type} (p : α → Bool) (l : List α) {i : Nat} {x : α} (hx : l[i]? = some x) (hn : ¬ (l.take i).findIdx p < i) : (p x = true → l.findIdx p = i) ∧ (p x = false → ¬ (l.take (i + 1)).findIdx p < i + 1) := by
  have hi := at_lt hx
  have hl : (l.take i).length = i := by rw [List.length_take]; omega
  constructor
  · intro hp
    have e : l = l.take i ++ x :: l.drop (i + 1) := by
      conv => lhs; rw [← List.take_append_drop i l, List.drop_eq_getElem_cons hi]
      rw [List.getElem?_eq_getElem hi] at hx
      rw [Option.some.inj hx]
    rw [e, List.findIdx_append, hl, if_neg hn, List.findIdx_cons, hp]
    simp
  · intro hp
    rw [take_snoc hx, List.findIdx_append, hl, if_neg hn, List.findIdx_cons, hp]
    simp
    omega

def putF (q : Query) (l : List Row) (r : Row) : List Row := l.take (l.findIdx (aheadB q r)) ++ [r] ++ l.drop (l.findIdx (aheadB q r))
theorem put_len (q : Query) (l : List Row) (r : Row) : (putF q l r).length = l.length + 1 := by
  have hle := List.findIdx_le_length (xs := l) (p := aheadB q r)
  simp [putF]; omega
theorem put_sz (q : Query) (l : List Row) (r : Row) : sz_RowS (putF q l r) = sz_RowS l + 1 + sz_Row r := by
  have h1 := put_len q l r
  unfold sz_RowS
  have h2 : ((putF q l r).map sz_Row).sum = (l.map sz_Row).sum + sz_Row r := by
    unfold putF
    rw [sum_append, sum_append, sum_take_drop sz_Row l (l.findIdx (aheadB q r))]
    simp
    omega
  omega
theorem mem_put {q : Query} {l : List Row} {r x : Row} (h : x ∈ putF q l r) : x = r ∨ x ∈ l := by
  unfold putF at h
  rcases List.mem_append.1 h with h | h
  · rcases List.mem_append.1 h with h | h
    · exact .inr (List.mem_of_mem_take h)
    · exact .inl (List.mem_singleton.1 h)
  · exact .inr (List.mem_of_mem_drop h)

theorem spec_l11Put_2 (q : Query) (l : List Row) (r : Row) (K : List Row → Bool → Int → Option (List Row)) : ∀ (k i : Nat) (acc : List Row), i ≤ l.length → l.length < i + k → (acc.length : Int) + (l.length - i : Nat) ≤ 1099511627777 → (l.length : Int) ≤ 1099511627776 →
    spec_l11Put.l0 q l r K k acc true i = K (acc ++ l.drop i) true l.length := by
  intro k
  induction k with
  | zero => intro i acc h h'; omega
  | succ k ih =>
    intro i acc h h' hz hl
    by_cases hi : i < l.length
    · have hx : l[i]? = some l[i] := List.getElem?_eq_getElem hi
      rw [spec_l11Put.l0, lenI_eq, decide_eq_true (by omega), cond_true, bo3_T, gd_false, Option.bind_some, gd_false, Option.bind_some, bo3_F, cond_false, getO_nat, hx, Option.bind_some, ltO, if_pos (by omega), Option.bind_some, Option.bind_some, appO_ok (by simp only [List.length_cons, List.length_nil]; omega), Option.bind_some, w64_succ (by omega), ih (i + 1) _ (by omega) (by omega) (by simp only [List.length_append, List.length_cons, List.length_nil]; omega) hl, List.drop_eq_getElem_cons hi]
      simp
    · obtain rfl : i = l.length := by omega
      rw [spec_l11Put.l0, lenI_eq, decide_eq_false (by omega), cond_false, List.drop_eq_nil_of_le (by omega), List.append_nil]
theorem spec_l11Put_1 (q : Query) (l : List Row) (r : Row) (hl : (l.length : Int) ≤ 1099511627776) (hb : ∀ x ∈ l, Row_b x) (hr : Row_b r) (hz : sz_Row r ≤ 1099511627776) : ∀ (k i : Nat), i ≤ l.length → l.length < i + k → ¬ (l.take i).findIdx (aheadB q r) < i →
    spec_l11Put.l0 q l r (fun y1 y2 y3 => bif (bo3 y2 false true) then (spec_l6Copy.f r).bind fun r48 => (some [r48]).bind fun l49 => (appO 32 y1 l49).bind fun l50 => some l50 else some y1) k (l.take i) false i = some (putF q l r) := by
  intro k
  induction k with
  | zero => intro i h h'; omega
  | succ k ih =>
    intro i h h' hn
    by_cases hi : i < l.length
    · have hx : l[i]? = some l[i] := List.getElem?_eq_getElem hi
      have ht : (l.take i).length = i := by rw [List.length_take]; omega
      obtain ⟨f1, f2⟩ := findIdx_takeA (aheadB q r) l hx hn
      rw [spec_l11Put.l0, lenI_eq, decide_eq_true (by omega), cond_true, bo3_F, gd_true, getO_nat, hx, Option.bind_some, gd_true, spec_Ahead_eq q r _ hr (hb _ (List.getElem_mem hi)), Option.bind_some, bo3_T, w64_succ (by omega)]
      cases hp : aheadB q r l[i] with
      | false =>
        rw [cond_false, Option.bind_some, ltO, if_pos (by omega), Option.bind_some, Option.bind_some, appO_ok (by simp only [ht, List.length_cons, List.length_nil]; omega), Option.bind_some, ← take_snoc hx]
        exact ih (i + 1) (by omega) (by omega) (f2 hp)
      | true =>
        rw [cond_true, spec_l6Copy_eq _ hz, Option.bind_some, Option.bind_some, appO_ok (by simp only [ht, List.length_cons, List.length_nil]; omega), Option.bind_some, Option.bind_some, ltO, if_pos (by omega), Option.bind_some, Option.bind_some, appO_ok (by simp only [List.length_append, ht, List.length_cons, List.length_nil]; omega), Option.bind_some, spec_l11Put_2 q l r _ k (i + 1) _ (by omega) (by omega) (by simp only [List.length_append, ht, List.length_cons, List.length_nil]; omega) hl, bo3_T, cond_false]
        unfold putF
        rw [f1 hp, List.drop_eq_getElem_cons hi]
        simp
    · rw [List.take_of_length_le (by omega)] at hn ⊢
      have hle := List.findIdx_le_length (xs := l) (p := aheadB q r)
      have e : l.findIdx (aheadB q r) = l.length := by omega
      rw [spec_l11Put.l0, lenI_eq, decide_eq_false (by omega), cond_false, bo3_F, cond_true, spec_l6Copy_eq _ hz, Option.bind_some, Option.bind_some, appO_ok (by simp only [List.length_cons, List.length_nil]; omega), Option.bind_some]
      unfold putF
      rw [e, List.take_length, List.drop_length, List.append_nil]
theorem spec_l11Put_eq (q : Query) (l : List Row) (r : Row) (hl : (l.length : Int) ≤ 1099511627776) (hb : ∀ x ∈ l, Row_b x) (hr : Row_b r) (hz : sz_Row r ≤ 1099511627776) : spec_l11Put.f q l r = some (putF q l r) := by
  unfold spec_l11Put.f
  simp only [joinK]
  have := spec_l11Put_1 q l r hl hb hr hz (((lenI l) - 0).toNat + 1) 0 (by omega) (by rw [lenI_eq]; omega) (by omega)
  rw [List.take_zero] at this
  exact this

def rowsFold (q : Query) (rows : List Row) (acc : List Row) : List Row := rows.foldl (fun acc r => if matchesB q r = true then putF q acc r else acc) acc
def rowsForF (s : Store) (q : Query) : List Row := if (storeB s && queryB s.Schema q) = true then rowsFold q (tableOf s q.Table) [] else []
theorem rowsFold_mem {q : Query} : ∀ {rows acc : List Row} {x : Row}, x ∈ rowsFold q rows acc → x ∈ rows ∨ x ∈ acc
  | [], acc, x, h => .inr h
  | r :: rows, acc, x, h => by
    have h : x ∈ rowsFold q rows (if matchesB q r = true then putF q acc r else acc) := h
    rcases rowsFold_mem h with h | h
    · exact .inl (List.mem_cons_of_mem _ h)
    · split at h
      · rcases mem_put h with rfl | h
        · exact .inl (List.mem_cons_self ..)
        · exact .inr h
      · exact .inr h
theorem rowsFold_len {q : Query} : ∀ (rows acc : List Row), (rowsFold q rows acc).length ≤ rows.length + acc.length
  | [], acc => by simp [rowsFold]
  | r :: rows, acc => by
    have e : rowsFold q (r :: rows) acc = rowsFold q rows (if matchesB q r = true then putF q acc r else acc) := rfl
    have := rowsFold_len (q := q) rows (if matchesB q r = true then putF q acc r else acc)
    rw [e]
    simp only [List.length_cons]
    split at this
    · rename_i h; rw [put_len] at this; rw [if_pos h]; omega
    · rename_i h; rw [if_neg h]; omega
theorem rowsFold_sz {q : Query} : ∀ (rows acc : List Row), sz_RowS (rowsFold q rows acc) ≤ sz_RowS rows + sz_RowS acc
  | [], acc => by have := sz_RowS_0 ([] : List Row); simp only [rowsFold, List.foldl_nil]; omega
  | r :: rows, acc => by
    have e : rowsFold q (r :: rows) acc = rowsFold q rows (if matchesB q r = true then putF q acc r else acc) := rfl
    have := rowsFold_sz (q := q) rows (if matchesB q r = true then putF q acc r else acc)
    have h1 : sz_RowS (r :: rows) = sz_RowS rows + 1 + sz_Row r := by unfold sz_RowS; simp only [List.length_cons, List.map_cons, List.sum_cons]; omega
    have h0 := sz_Row_0 r
    rw [e, h1]
    split at this
    · rename_i h; rw [put_sz] at this; rw [if_pos h]; omega
    · rename_i h; rw [if_neg h]; omega
theorem query_table {s : Schema} {q : Query} (h : queryB s q = true) : 0 ≤ q.Table ∧ q.Table ≤ (s.Cols.length : Int) - 1 := by
  unfold queryB at h
  simp only [Bool.and_eq_true, decide_eq_true_eq] at h
  exact h.1.2

theorem spec_RowsFor_l0 (q : Query) (hq : CondS_b q.Where) (rows : List Row) (hl : rows.length ≤ 24) (hr : ∀ r ∈ rows, Row_b r ∧ sz_Row r ≤ 4) : ∀ (k i : Nat) (acc : List Row), i ≤ rows.length → rows.length < i + k → acc.length ≤ i → (∀ x ∈ acc, Row_b x) → spec_RowsFor.l0 q rows k acc i = some (rowsFold q (rows.drop i) acc) := by
  intro k
  induction k with
  | zero => intro i acc h h'; omega
  | succ k ih =>
    intro i acc h h' ha hb
    rw [spec_RowsFor.l0, lenI_eq]
    by_cases hi : i < rows.length
    · obtain ⟨b1, z1⟩ := hr _ (List.getElem_mem hi)
      rw [decide_eq_true (by omega), cond_true, getO_nat, List.getElem?_eq_getElem hi, Option.bind_some, bnd_some (spec_Matches_eq q _ hq b1), List.drop_eq_getElem_cons hi, w64_succ (by omega)]
      show _ = some (rowsFold q (rows.drop (i + 1)) (if matchesB q rows[i] = true then putF q acc rows[i] else acc))
      cases hm : matchesB q rows[i] with
      | true =>
        rw [cond_true, bnd_some (spec_l11Put_eq q acc _ (by omega) hb b1 (by omega)), if_pos rfl]
        exact ih (i + 1) _ (by omega) (by omega) (by rw [put_len]; omega) fun x hx => by
          rcases mem_put hx with rfl | hx
          · exact b1
          · exact hb x hx
      | false =>
        rw [cond_false, if_neg (by simp)]
        exact ih (i + 1) _ (by omega) (by omega) (by omega) hb
    · rw [decide_eq_false (by omega), cond_false, List.drop_eq_nil_of_le (by omega)]
      rfl
theorem spec_RowsFor_eq (s : Store) (q : Query) (hs : Store_b s) (hq : Query_b q) : spec_RowsFor.f s q = some (rowsForF s q) := by
  unfold spec_RowsFor.f rowsForF
  rw [spec_StoreOk_eq _ hs, Option.bind_some, spec_QueryOk_eq _ _ hs.1 hq]
  cases h1 : storeB s with
  | false => rfl
  | true =>
    cases h2 : queryB s.Schema q with
    | false => rfl
    | true =>
      simp only [bo3_F, bo3_T, gd_true, Option.bind_some, cond_false, Bool.true_and, if_true]
      obtain ⟨t1, t2⟩ := query_table h2
      have hl := (store_len h1).1
      have ht : q.Table.toNat < s.Tables.length := by omega
      have hrows := table_rows h1 ht
      have hlen := rows_len hrows
      rw [show getO s.Tables q.Table = some (tableOf s q.Table) from getO_in (by omega), Option.bind_some]
      rw [Int.toNat_of_nonneg t1] at hrows hlen
      have := spec_RowsFor_l0 q hq.1 (tableOf s q.Table) hlen (fun r hr => by
        obtain ⟨i, hi⟩ := List.getElem?_of_mem hr
        have z := rowB_sz (rows_row hrows hi)
        exact ⟨by unfold Row_b IntS_b; unfold sz_Row sz_IntS at z; omega, z⟩) (((lenI (tableOf s q.Table)) - 0).toNat + 1) 0 [] (by omega) (by rw [lenI_eq]; omega) (by simp) (by simp)
      exact this
theorem rowsFor_small (s : Store) (q : Query) : (rowsForF s q).length ≤ 24 ∧ sz_RowS (rowsForF s q) ≤ 120 ∧ ∀ x ∈ rowsForF s q, Row_b x := by
  unfold rowsForF
  split
  · rename_i h
    rw [Bool.and_eq_true] at h
    obtain ⟨t1, t2⟩ := query_table h.2
    have hl := (store_len h.1).1
    have hrows := table_rows h.1 (t := q.Table.toNat) (by omega)
    rw [Int.toNat_of_nonneg t1] at hrows
    have hlen := rows_len hrows
    have hz := rowsB_sz hrows
    have z0 : sz_RowS ([] : List Row) = 0 := by simp [sz_RowS]
    have s1 := rowsFold_len (q := q) (tableOf s q.Table) []
    have s2 := rowsFold_sz (q := q) (tableOf s q.Table) []
    refine ⟨by simp only [List.length_nil] at s1; omega, by omega, fun x hx => ?_⟩
    rcases rowsFold_mem hx with hx | hx
    · obtain ⟨i, hi⟩ := List.getElem?_of_mem hx
      have z := rowB_sz (rows_row hrows hi)
      unfold Row_b IntS_b; unfold sz_Row sz_IntS at z; omega
    · simp at hx
  · simp [sz_RowS]

theorem spec_l9Copy_eq (q : Query) (h : sz_Query q ≤ 1099511627776) : spec_l9Copy.f q = some q := by
  have p1 := sz_CondS_0 q.Where
  have p2 := sz_IntS_0 q.Show
  unfold sz_Query at h
  unfold sz_CondS at p1 h
  unfold sz_IntS at p2 h
  unfold spec_l9Copy.f
  rw [appO_ok (by simp only [List.length_nil]; omega), Option.bind_some, appO_ok (by simp only [List.length_nil]; omega), Option.bind_some]
  rfl

theorem spec_KidPut_2 (l : List Kid) (id by_ : Int) (K : List Kid → Bool → Option (List Kid)) : ∀ (k i : Nat) (acc : List Kid), i ≤ l.length → l.length < i + k → (acc.length : Int) + (l.length - i : Nat) ≤ 1099511627777 → (l.length : Int) ≤ 1099511627776 →
    spec_KidPut.l0 l id by_ K k acc true i = K (acc ++ l.drop i) true := by
  intro k
  induction k with
  | zero => intro i acc h h'; omega
  | succ k ih =>
    intro i acc h h' hz hl
    by_cases hi : i < l.length
    · have hx : l[i]? = some l[i] := List.getElem?_eq_getElem hi
      rw [spec_KidPut.l0, lenI_eq, decide_eq_true (by omega), cond_true, getO_nat, hx, Option.bind_some, bo3_T, bo3_F, cond_false, Option.bind_some, appO_ok (by simp only [List.length_cons, List.length_nil]; omega), Option.bind_some, w64_succ (by omega), ih (i + 1) _ (by omega) (by omega) (by simp only [List.length_append, List.length_cons, List.length_nil]; omega) hl, List.drop_eq_getElem_cons hi]
      simp
    · rw [spec_KidPut.l0, lenI_eq, decide_eq_false (by omega), cond_false, List.drop_eq_nil_of_le (by omega), List.append_nil]
theorem spec_KidPut_3 (l : List Kid) (id by_ : Int) (K : List Kid → Bool → Option (List Kid)) (hl : (l.length : Int) ≤ 1099511627776) (k i : Nat) (x : Kid) (hx : l[i]? = some x) (hp : id ≤ x.Id) (h' : l.length < i + (k + 1)) (hf : l.findIdx (isKid id) = i) :
    spec_KidPut.l0 l id by_ K (k + 1) (l.take i) false i = K (kidMid l id by_) true := by
  have hi := at_lt hx
  have ht : (l.take i).length = i := by rw [List.length_take]; omega
  have hdr : l.drop i = x :: l.drop (i + 1) := by
    rw [List.drop_eq_getElem_cons hi]
    rw [List.getElem?_eq_getElem hi] at hx
    rw [Option.some.inj hx]
  have hm : kidMid l id by_ = if x.Id = id then (if 0 < w64 (x.N + by_) then l.set i ⟨id, w64 (x.N + by_)⟩ else l.eraseIdx i) else (if 0 < by_ then l.take i ++ [⟨id, by_⟩] ++ l.drop i else l) := by
    unfold kidMid
    rw [hf, hx]
  rw [hm, spec_KidPut.l0, lenI_eq, decide_eq_true (by omega), cond_true, getO_nat, hx, Option.bind_some, w64_succ (by omega), decide_eq_true hp, bo3_F, bo3_T, cond_true]
  simp only [joinK]
  by_cases e : x.Id = id
  · rw [if_pos e, decide_eq_true e, cond_true]
    by_cases n0 : 0 < w64 (x.N + by_)
    · rw [if_pos n0, decide_eq_true n0, cond_true, Option.bind_some, appO_ok (by simp only [ht, List.length_cons, List.length_nil]; omega), Option.bind_some, cond_true, spec_KidPut_2 l id by_ _ k (i + 1) _ (by omega) (by omega) (by simp only [List.length_append, ht, List.length_cons, List.length_nil]; omega) hl, List.set_eq_take_append_cons_drop, if_pos hi, List.append_assoc]
      rfl
    · rw [if_neg n0, decide_eq_false n0, cond_false, cond_true, spec_KidPut_2 l id by_ _ k (i + 1) _ (by omega) (by omega) (by simp only [ht]; omega) hl, List.eraseIdx_eq_take_drop_succ]
  · rw [if_neg e, decide_eq_false e, cond_false]
    by_cases n0 : 0 < by_
    · rw [if_pos n0, decide_eq_true n0, cond_true, Option.bind_some, appO_ok (by simp only [ht, List.length_cons, List.length_nil]; omega), Option.bind_some, cond_false, Option.bind_some, appO_ok (by simp only [List.length_append, ht, List.length_cons, List.length_nil]; omega), Option.bind_some, spec_KidPut_2 l id by_ _ k (i + 1) _ (by omega) (by omega) (by simp only [List.length_append, ht, List.length_cons, List.length_nil]; omega) hl, hdr, List.append_assoc]
      rfl
    · rw [if_neg n0, decide_eq_false n0, cond_false, cond_false, Option.bind_some, appO_ok (by simp only [ht, List.length_cons, List.length_nil]; omega), Option.bind_some, spec_KidPut_2 l id by_ _ k (i + 1) _ (by omega) (by omega) (by simp only [List.length_append, ht, List.length_cons, List.length_nil]; omega) hl, List.append_assoc, List.singleton_append, ← hdr, List.take_append_drop]
theorem spec_KidPut_1 (l : List Kid) (id by_ : Int) (K : List Kid → Bool → Option (List Kid)) (hl : (l.length : Int) ≤ 1099511627776) : ∀ (k i : Nat), i ≤ l.length → l.length < i + k → ¬ (l.take i).findIdx (isKid id) < i →
    spec_KidPut.l0 l id by_ K k (l.take i) false i = if l.findIdx (isKid id) < l.length then K (kidMid l id by_) true else K l false := by
  intro k
  induction k with
  | zero => intro i h h'; omega
  | succ k ih =>
    intro i h h' hn
    by_cases hi : i < l.length
    · obtain ⟨x, hx⟩ : ∃ x, l[i]? = some x := ⟨_, List.getElem?_eq_getElem hi⟩
      have ht : (l.take i).length = i := by rw [List.length_take]; omega
      obtain ⟨f1, f2⟩ := findIdx_takeA (isKid id) l hx hn
      by_cases hp : id ≤ x.Id
      · have hf := f1 (decide_eq_true hp)
        rw [if_pos (by omega)]
        exact spec_KidPut_3 l id by_ K hl k i x hx hp h' hf
      · have := f2 (decide_eq_false hp)
        rw [spec_KidPut.l0, lenI_eq, decide_eq_true (by omega), cond_true, getO_nat, hx, Option.bind_some, w64_succ (by omega), decide_eq_false hp, bo3_F, bo3_T, cond_false, Option.bind_some, appO_ok (by simp only [ht, List.length_cons, List.length_nil]; omega), Option.bind_some, ← take_snoc hx]
        exact ih (i + 1) (by omega) (by omega) this
    · rw [List.take_of_length_le (by omega)] at hn ⊢
      rw [spec_KidPut.l0, lenI_eq, decide_eq_false (by omega), cond_false, if_neg (by omega)]
theorem spec_KidPut_eq (l : List Kid) (id by_ : Int) (h : (l.length : Int) ≤ 1099511627776) : spec_KidPut.f l id by_ = some (kidPutF l id by_) := by
  unfold spec_KidPut.f
  simp only [joinK]
  have hle := List.findIdx_le_length (xs := l) (p := isKid id)
  refine (spec_KidPut_1 l id by_ _ h (((lenI l) - 0).toNat + 1) 0 (by omega) (by rw [lenI_eq]; omega) (by omega)).trans ?_
  by_cases c : l.findIdx (isKid id) < l.length
  · rw [if_pos c, kid_mid c]
    rfl
  · rw [if_neg c, bo3_F, bo3_T]
    unfold kidPutF
    rw [List.getElem?_eq_none (by omega)]
    by_cases n0 : 0 < by_
    · rw [decide_eq_true n0, cond_true, Option.bind_some, appO_ok (by simp only [List.length_cons, List.length_nil]; omega), Option.bind_some]
      simp only [if_pos n0]
    · rw [decide_eq_false n0, cond_false]
      simp only [if_neg n0]

def countC (col : Nat) (id : Int) : List Row → Int → Int
  | [], n => n
  | r :: l, n => countC col id l (if r.Cells.getD col 0 = id then n + 1 else n)
def kidsOfF (s : Store) (q : Query) (id : Int) : Int :=
  if (storeB s && queryB s.Schema q && q.Kids) = true then countC q.KidCol.toNat id (s.Tables.getD q.KidTable.toNat []) 0 else 0
theorem query_kids {s : Schema} {q : Query} (h : queryB s q = true) (hk : q.Kids = true) : (0 ≤ q.KidTable ∧ q.KidTable ≤ (s.Cols.length : Int) - 1) ∧ (0 ≤ q.KidCol ∧ q.KidCol ≤ w64 (s.Cols.getD q.KidTable.toNat 0 - 1)) := by
  unfold queryB kidsB at h
  simp only [Bool.and_eq_true, decide_eq_true_eq, hk, if_true] at h
  exact h.2.2.2
theorem schema_col {s : Schema} (h : schemaB s = true) {i : Int} (hi : 0 ≤ i ∧ i ≤ (s.Cols.length : Int) - 1) : 1 ≤ s.Cols.getD i.toNat 0 ∧ s.Cols.getD i.toNat 0 ≤ 4 := by
  unfold schemaB at h
  rw [Bool.and_eq_true, List.all_eq_true] at h
  have hl : i.toNat < s.Cols.length := by omega
  rw [List.getD_eq_getElem?_getD, List.getElem?_eq_getElem hl]
  exact of_decide_eq_true (h.1 _ (List.getElem_mem hl))

def sz_View (x : View) : Int := sz_Query x.Q + sz_RowS x.Rows + sz_KidS x.Kids
def View_b (x : View) : Prop := Query_b x.Q ∧ RowS_b x.Rows ∧ KidS_b x.Kids
theorem sz_View_0 (x : View) : 0 ≤ sz_View x := by unfold sz_View; exact by have := sz_Query_0 x.Q; have := sz_RowS_0 x.Rows; have := sz_KidS_0 x.Kids;  omega
def View_r (x : View) : Prop := Query_r x.Q ∧ RowS_r x.Rows ∧ KidS_r x.Kids
def chRows (v : View) (c : Change) : List Row :=
  if c.Table = v.Q.Table then (if (c.Has && matchesB v.Q c.New) = true then putF v.Q (if c.Had = true then rowDropF v.Rows c.Old.Id else v.Rows) c.New else (if c.Had = true then rowDropF v.Rows c.Old.Id else v.Rows)) else v.Rows
def chKids (v : View) (c : Change) : List Kid :=
  if v.Q.Kids = true ∧ c.Table = v.Q.KidTable then (if c.Has = true then kidPutF (if c.Had = true then kidPutF v.Kids (cellF c.Old v.Q.KidCol) (-1) else v.Kids) (cellF c.New v.Q.KidCol) 1 else (if c.Had = true then kidPutF v.Kids (cellF c.Old v.Q.KidCol) (-1) else v.Kids)) else v.Kids
def viewCh (v : View) (c : Change) : View := ⟨v.Q, chRows v c, chKids v c⟩
theorem chRows_sz (v : View) (c : Change) : sz_RowS (chRows v c) ≤ sz_RowS v.Rows + 1 + sz_Change c := by
  have n1 := sz_Row_0 c.Old
  have n2 := sz_Row_0 c.New
  have d := rowDrop_sz v.Rows c.Old.Id
  have p1 := put_sz v.Q v.Rows c.New
  have p2 := put_sz v.Q (rowDropF v.Rows c.Old.Id) c.New
  unfold chRows sz_Change
  split
  · split
    · split <;> omega
    · split <;> omega
  · omega
theorem chRows_mem {v : View} {c : Change} {x : Row} (h : x ∈ chRows v c) : x = c.New ∨ x ∈ v.Rows := by
  unfold chRows at h
  split at h
  · split at h
    · rcases mem_put h with h | h
      · exact .inl h
      · split at h
        · exact .inr (mem_rowDrop h)
        · exact .inr h
    · split at h
      · exact .inr (mem_rowDrop h)
      · exact .inr h
  · exact .inr h
theorem chKids_len (v : View) (c : Change) : (chKids v c).length ≤ v.Kids.length + 2 := by
  have k1 := kidPut_len v.Kids (cellF c.Old v.Q.KidCol) (-1)
  have k2 := kidPut_len v.Kids (cellF c.New v.Q.KidCol) 1
  have k3 := kidPut_len (kidPutF v.Kids (cellF c.Old v.Q.KidCol) (-1)) (cellF c.New v.Q.KidCol) 1
  unfold chKids
  split
  · split
    · split <;> omega
    · split <;> omega
  · omega
/-- A view, bounded. -/
def VB (v : View) : Prop := Query_b v.Q ∧ (∀ x ∈ v.Rows, Row_b x)
theorem viewCh_b {v : View} {c : Change} (h : VB v) (hc : Change_b c) : VB (viewCh v c) := ⟨h.1, fun x hx => by
  rcases chRows_mem hx with rfl | hx
  · exact hc.2
  · exact h.2 x hx⟩
theorem viewCh_sz (v : View) (c : Change) : sz_View (viewCh v c) ≤ sz_View v + 3 + sz_Change c := by
  have h1 := chRows_sz v c
  have h2 := chKids_len v c
  unfold sz_View viewCh sz_KidS
  dsimp only
  omega
theorem VB_view {v : View} (h : VB v) (hz : sz_View v ≤ 9223372036854775807) : View_b v := by
  have p1 := sz_Query_0 v.Q
  have p2 := sz_RowS_0 v.Rows
  have p3 := sz_KidS_0 v.Kids
  have p4 := sum_nonneg sz_Row_0 v.Rows
  unfold sz_View at hz
  unfold sz_RowS at p2 hz
  unfold sz_KidS at p3 hz
  refine ⟨h.1, ⟨by omega, h.2⟩, ?_⟩
  unfold KidS_b
  omega

def kidsFold (col : Nat) (rows : List Row) (acc : List Kid) : List Kid := rows.foldl (fun ks r => kidPutF ks (r.Cells.getD col 0) 1) acc
def noQuery : Query := ⟨0, [], 0, false, 0, [], false, 0, 0⟩
def noView : View := ⟨noQuery, [], []⟩
def viewOfF (s : Store) (q : Query) : View × Bool :=
  if (storeB s && queryB s.Schema q) = true then (⟨q, rowsForF s q, if q.Kids = true then kidsFold q.KidCol.toNat (tableOf s q.KidTable) [] else []⟩, true) else (noView, false)
theorem kidsFold_len (col : Nat) : ∀ (rows : List Row) (acc : List Kid), (kidsFold col rows acc).length ≤ rows.length + acc.length
  | [], acc => by simp [kidsFold]
  | r :: rows, acc => by
    have e : kidsFold col (r :: rows) acc = kidsFold col rows (kidPutF acc (r.Cells.getD col 0) 1) := rfl
    have := kidsFold_len col rows (kidPutF acc (r.Cells.getD col 0) 1)
    have := kidPut_len acc (r.Cells.getD col 0) 1
    rw [e]
    simp only [List.length_cons]
    omega
theorem spec_ViewOf_l0 (q r11 : Query) (r12 rows : List Row) (hk : q.Kids = true) (hl : rows.length ≤ 24) (hc0 : 0 ≤ q.KidCol) (hc : ∀ r ∈ rows, q.KidCol < (r.Cells.length : Int)) : ∀ (k i : Nat) (acc : List Kid), i ≤ rows.length → rows.length < i + k → acc.length ≤ i → spec_ViewOf.l0 q r11 r12 rows k acc i = some (⟨r11, r12, kidsFold q.KidCol.toNat (rows.drop i) acc⟩, true) := by
  intro k
  induction k with
  | zero => intro i acc h h'; omega
  | succ k ih =>
    intro i acc h h' ha
    rw [spec_ViewOf.l0, lenI_eq, hk]
    by_cases hi : i < rows.length
    · have h1 := hc _ (List.getElem_mem hi)
      rw [decide_eq_true (by omega), show bo3 true true false = true from rfl, cond_true, getO_nat, List.getElem?_eq_getElem hi, Option.bind_some, show getO rows[i].Cells q.KidCol = some (rows[i].Cells.getD q.KidCol.toNat 0) from getO_Int ⟨hc0, by omega⟩, Option.bind_some, bnd_some (spec_KidPut_eq acc _ 1 (by omega)), w64_succ (by omega), List.drop_eq_getElem_cons hi]
      have := kidPut_len acc (rows[i].Cells.getD q.KidCol.toNat 0) 1
      exact ih (i + 1) _ (by omega) (by omega) (by omega)
    · rw [decide_eq_false (by omega), show bo3 false true false = false from rfl, cond_false, List.drop_eq_nil_of_le (by omega)]
      rfl
theorem spec_ViewOf_eq (s : Store) (q : Query) (hs : Store_b s) (hq : Query_b q) (hz : sz_Query q ≤ 1099511627776) : spec_ViewOf.f s q = some (viewOfF s q) := by
  unfold spec_ViewOf.f viewOfF
  rw [spec_StoreOk_eq _ hs, Option.bind_some, spec_QueryOk_eq _ _ hs.1 hq]
  cases h1 : storeB s with
  | false => rfl
  | true =>
    cases h2 : queryB s.Schema q with
    | false => rfl
    | true =>
      simp only [bo3_F, bo3_T, gd_true, Option.bind_some, cond_false, Bool.true_and, if_true]
      rw [bnd_some (spec_l9Copy_eq q hz), bnd_some (spec_RowsFor_eq s q hs hq)]
      obtain ⟨hl1, hl2⟩ := store_len h1
      have h3 := schema_len hl2
      cases hk : q.Kids with
      | true =>
        obtain ⟨hk1, hk2⟩ := query_kids h2 hk
        have hcol := schema_col hl2 hk1
        rw [w64_id (by omega)] at hk2
        have hrows := table_rows h1 (t := q.KidTable.toNat) (by omega)
        rw [Int.toNat_of_nonneg hk1.1] at hrows
        have hlen := rows_len hrows
        rw [show getO s.Tables q.KidTable = some (tableOf s q.KidTable) from getO_in (by omega), Option.bind_some, if_pos rfl]
        have := spec_ViewOf_l0 q q (rowsForF s q) (tableOf s q.KidTable) hk hlen hk2.1 (fun r hr => by
          obtain ⟨i, hi⟩ := List.getElem?_of_mem hr
          have hc := row_cells (rows_row hrows hi)
          omega) (((lenI (tableOf s q.KidTable)) - 0).toNat + 1) 0 [] (by omega) (by rw [lenI_eq]; omega) (by simp)
        exact this
      | false =>
        have h0 : q.KidTable = 0 := by
          unfold queryB kidsB at h2
          simp only [Bool.and_eq_true, decide_eq_true_eq, hk, if_false, Bool.false_eq_true] at h2
          exact h2.2.2.2.1
        have hpos : 0 < s.Tables.length := by
          unfold schemaB at hl2
          rw [Bool.and_eq_true, decide_eq_true_eq] at hl2
          omega
        rw [h0, show getO s.Tables 0 = some (s.Tables.getD 0 []) from getO_in (i := 0) (by omega), Option.bind_some, if_neg (by simp), spec_ViewOf.l0, hk]
        have : bo3 (decide ((0 : Int) < lenI (s.Tables.getD 0 []))) false false = false := by cases decide ((0 : Int) < lenI (s.Tables.getD 0 [])) <;> rfl
        rw [this, cond_false]
theorem viewOf_small (s : Store) (q : Query) (hq : Query_b q) : VB (viewOfF s q).1 ∧ sz_View (viewOfF s q).1 ≤ sz_Query q + 200 := by
  have q0 := sz_Query_0 q
  unfold viewOfF
  split
  · rename_i h
    rw [Bool.and_eq_true] at h
    obtain ⟨r1, r2, r3⟩ := rowsFor_small s q
    refine ⟨⟨hq, r3⟩, ?_⟩
    have hkl : (if q.Kids = true then kidsFold q.KidCol.toNat (tableOf s q.KidTable) [] else []).length ≤ 24 := by
      split
      · rename_i hk
        obtain ⟨hk1, _⟩ := query_kids h.2 hk
        have hl := (store_len h.1).1
        have hrows := table_rows h.1 (t := q.KidTable.toNat) (by omega)
        rw [Int.toNat_of_nonneg hk1.1] at hrows
        have hlen := rows_len hrows
        have := kidsFold_len q.KidCol.toNat (tableOf s q.KidTable) []
        simp only [List.length_nil] at this
        omega
      · simp
    unfold sz_View sz_KidS
    dsimp only
    omega
  · refine ⟨⟨by constructor <;> simp [noView, noQuery, CondS_b, IntS_b], by simp [noView]⟩, ?_⟩
    have : sz_View noView = 0 := by simp [sz_View, noView, noQuery, sz_Query, sz_CondS, sz_IntS, sz_RowS, sz_KidS]
    show sz_View noView ≤ _
    omega

theorem Qr3.sz {q : Query} (h : Qr3 q) : sz_Query q ≤ 20 := by
  obtain ⟨h1, h2⟩ := h
  unfold sz_Query sz_CondS sz_IntS
  omega
theorem l13DrawRight_ok {b : List Int} {i : Int} (h : Int) (hc : CI b i) : ∃ i' h' s q, spec_l13DrawRight.f (l1Cur.mk b i h) = some (l1Cur.mk b i' h', s, (viewOfF s q).1) ∧ CI b i' ∧ DSt s ∧ Qr3 q := by
  unfold spec_l13DrawRight.f
  obtain ⟨c1, h1, s, e1, k1, d1⟩ := l7DrawRight_ok h hc
  rw [bnd_some e1]
  dsimp only
  obtain ⟨c2, h2, q, e2, k2, d2⟩ := l9DrawRight_ok h1 s.Schema d1.SB k1
  obtain ⟨s1, s2⟩ := store_small d1.ok
  rw [bnd_some e2]
  dsimp only
  rw [bnd_some (spec_ViewOf_eq s q s1 d2.qb.b (by have := d2.sz; omega))]
  exact ⟨_, _, _, _, rfl, k2, d1, d2⟩

theorem l14Draw_ok (code : List Int) (hl : (code.length : Int) ≤ 1048576) : ∃ v l, spec_l14Draw.f code = some (v, l) ∧ VB v ∧ sz_View v ≤ 300 ∧ l.length ≤ 4 ∧ ∀ c ∈ l, CB c := by
  unfold spec_l14Draw.f
  obtain ⟨h0, e0, k0⟩ := l1New_ok code hl
  rw [bnd_some e0]
  obtain ⟨i1, h1, s, q, e1, k1, d1, d2⟩ := l13DrawRight_ok h0 k0
  obtain ⟨s1, s2⟩ := store_small d1.ok
  obtain ⟨v1, v2⟩ := viewOf_small s q d2.qb.b
  have := d2.sz
  rw [bnd_some e1]
  dsimp only
  obtain ⟨c3, h3, l, e3, k3, l3, m3⟩ := l7DrawBatch_ok h1 s d1.SB s1 (by omega) k1
  obtain ⟨m4, m5⟩ := MBs l3 m3
  rw [bnd_some e3]
  dsimp only
  obtain ⟨n1, n2⟩ := batch_CB s l
  rw [bnd_some (spec_BatchDo_eq s l s1 (by omega) m4 (by omega))]
  obtain ⟨c4, h4, x4, e4, k4⟩ := l1Once_ok h3 9 k3
  rw [bnd_some e4]
  dsimp only
  cases x4 with
  | false => exact ⟨_, _, rfl, v1, by omega, by omega, n2⟩
  | true =>
    obtain ⟨c5, h5, x5, e5, k5, _⟩ := l1Below_ok h4 3 k4
    obtain ⟨c6, h6, x6, e6, k6⟩ := l1Once_ok h5 2 k5
    obtain ⟨c7, h7, x7, e7, k7⟩ := l1Once_ok h6 2 k6
    obtain ⟨c8, h8, r, e8, k8, _, _, r3, _⟩ := l6DrawRow_ok h7 2 (by omega) k7
    rw [cond_true, bnd_some e5]
    dsimp only
    rw [bnd_some e6]
    dsimp only
    rw [bnd_some e7]
    dsimp only
    rw [bnd_some e8]
    dsimp only
    rw [Option.bind_some, appO_ok (by simp only [List.length_cons, List.length_nil]; omega), Option.bind_some]
    exact ⟨_, _, rfl, v1, by omega, by simp only [List.length_append, List.length_cons, List.length_nil]; omega, snoc_all n2 ⟨by simp, by dsimp only; omega⟩⟩

theorem DrawViewChanges_ok (code : List Int) (hl : (code.length : Int) ≤ 1048576) : ∃ v l, spec_DrawViewChanges.f code = some (v, l) ∧ VB v ∧ sz_View v ≤ 300 ∧ l.length ≤ 4 ∧ ∀ c ∈ l, CB c := by
  unfold spec_DrawViewChanges.f
  obtain ⟨v, l, e, h⟩ := l14Draw_ok code hl
  rw [bnd_some e]
  exact ⟨v, l, rfl, h⟩

theorem impl_within_eq (x y z : Int) : impl_within.f x y z = some (decide (y ≤ x ∧ x ≤ z)) := by
  unfold impl_within.f
  rw [bo3_and, Bool.decide_and]

theorem impl_holds_eq (c : Cond) (r : Row) (h : Row_b r) : impl_holds.f c r = some (holdsB c r) := by
  have hl : r.Cells.length ≤ 9223372036854775807 := h
  unfold impl_holds.f holdsB
  rw [lenI_eq, w64_id (by omega), impl_within_eq, Option.bind_some, bo3_not]
  by_cases d : 0 ≤ c.Col ∧ c.Col ≤ (r.Cells.length : Int) - 1
  · rw [decide_eq_true d, Bool.not_true, cond_false, getO_Int d, Option.bind_some, Bool.true_and]
    simp only [cond_ite, decide_eq_true_eq, some_if, bo3_and, cmpB]
    all_goals ((repeat' split) <;> simp_all)
  · rw [decide_eq_false d, Bool.not_false, cond_true, Bool.false_and]

theorem impl_Matches_eq (q : Query) (r : Row) (hq : CondS_b q.Where) (h : Row_b r) : impl_Matches.f q r = some (matchesB q r) := by
  have hl : q.Where.length ≤ 9223372036854775807 := hq
  unfold impl_Matches.f
  refine (loop_all (f := impl_Matches.l0 q r) (l := q.Where) (fun _ c => holdsB c r) (some false) (some true) (fun k i x hx => ?_) (fun k i hi => ?_) _ 0 (by omega) (by (try simp only [lenI_eq]); omega)).trans ?_
  · have hi := at_lt hx
    rw [impl_Matches.l0, lenI_eq, decide_eq_true (by omega), cond_true, getO_nat, hx, Option.bind_some, impl_holds_eq _ _ h, Option.bind_some, bo3_not, w64_succ (by omega)]
    cases holdsB x r <;> rfl
  · rw [impl_Matches.l0, lenI_eq, decide_eq_false (by omega), cond_false]
  · rw [allFrom_zero, matchesB]
    cases q.Where.all fun c => holdsB c r <;> rfl

theorem impl_cellOf_eq (r : Row) (col : Int) (h : Row_b r) : impl_cellOf.f r col = some (cellF r col) := by
  have hl : r.Cells.length ≤ 9223372036854775807 := h
  unfold impl_cellOf.f cellF
  rw [lenI_eq, w64_id (by omega), impl_within_eq, Option.bind_some, bo3_not]
  by_cases d : 0 ≤ col ∧ col ≤ (r.Cells.length : Int) - 1
  · rw [decide_eq_true d, Bool.not_true, cond_false, getO_Int d, Option.bind_some, if_pos d]
  · rw [decide_eq_false d, Bool.not_false, cond_true, if_neg d]

theorem impl_copyInts_eq (l : List Int) (h : (l.length : Int) ≤ 1099511627776) : impl_copyInts.f l = some l := by
  unfold impl_copyInts.f
  rw [appO_ok (by simp only [List.length_nil]; omega), Option.bind_some, List.nil_append]

theorem impl_copyQuery_eq (q : Query) (h : sz_Query q ≤ 1099511627776) : impl_copyQuery.f q = some q := by
  have p1 := sz_CondS_0 q.Where
  have p2 := sz_IntS_0 q.Show
  unfold sz_Query at h
  unfold sz_CondS at p1 h
  unfold sz_IntS at p2 h
  unfold impl_copyQuery.f
  rw [appO_ok (by simp only [List.length_nil]; omega), Option.bind_some, impl_copyInts_eq _ (by omega), Option.bind_some]
  rfl

theorem impl_copyRow_eq (r : Row) (h : sz_Row r ≤ 1099511627776) : impl_copyRow.f r = some r := by
  unfold impl_copyRow.f
  rw [impl_copyInts_eq _ (row_len h), Option.bind_some]

theorem impl_copyRows_eq (l : List Row) (h : sz_RowS l ≤ 1099511627776) : impl_copyRows.f l = some l := by
  unfold sz_RowS at h
  have p := sum_nonneg sz_Row_0 l
  unfold impl_copyRows.f
  refine loop_copy (f := impl_copyRows.l0 l) (l := l) some (fun k i x hx => ?_) (fun k s i hi => ?_) _ 0 (by omega) (by (try simp only [lenI_eq]); omega)
  · have hi := at_lt hx
    have hm := sum_mem sz_Row_0 (List.mem_of_getElem? hx)
    rw [impl_copyRows.l0, lenI_eq, decide_eq_true (by omega), cond_true, getO_nat, hx, Option.bind_some, impl_copyRow_eq x (by omega), Option.bind_some, Option.bind_some, appO_ok (by simp only [List.length_take, List.length_cons, List.length_nil]; omega), Option.bind_some, w64_succ (by omega)]
  · rw [impl_copyRows.l0, lenI_eq, decide_eq_false (by omega), cond_false]

theorem impl_copyView_eq (v : View) (h : sz_View v ≤ 1099511627776) : impl_copyView.f v = some v := by
  have p1 := sz_Query_0 v.Q
  have p2 := sz_RowS_0 v.Rows
  have p3 := sz_KidS_0 v.Kids
  unfold sz_View at h
  unfold sz_KidS at p3 h
  unfold impl_copyView.f
  rw [impl_copyQuery_eq _ (by omega), Option.bind_some, impl_copyRows_eq _ (by omega), Option.bind_some, appO_ok (by simp only [List.length_nil]; omega), Option.bind_some]
  rfl



theorem slices_IndexFunc_impl_Row__impl_RowAt_1_eq (l : List Row) (id : Int) (h : l.length ≤ 9223372036854775807) : slices_IndexFunc_impl_Row__impl_RowAt_1.f l id = some (rowAtF l id 0) := by
  have key : ∀ (k i : Nat), i ≤ l.length → l.length < i + k → slices_IndexFunc_impl_Row__impl_RowAt_1.l0 l id k i = some (rowAtF (l.drop i) id i) := by
    intro k
    induction k with
    | zero => intro i h h'; omega
    | succ k ih =>
      intro i h h'
      by_cases hi : i < l.length
      · have hx : l[i]? = some l[i] := List.getElem?_eq_getElem hi
        rw [slices_IndexFunc_impl_Row__impl_RowAt_1.l0, lenI_eq, decide_eq_true (by omega), cond_true, getO_nat, hx, Option.bind_some, impl_RowAt_1.f, Option.bind_some, List.drop_eq_getElem_cons hi, rowAtF, w64_succ (by omega)]
        by_cases e : (l[i]).Id = id
        · rw [decide_eq_true e, cond_true, if_pos e]
        · rw [decide_eq_false e, cond_false, if_neg e]
          exact ih (i + 1) (by omega) (by omega)
      · rw [slices_IndexFunc_impl_Row__impl_RowAt_1.l0, lenI_eq, decide_eq_false (by omega), cond_false, List.drop_eq_nil_of_le (by omega), rowAtF]
  have := key (((lenI l) - 0).toNat + 1) 0 (by omega) (by simp only [lenI_eq]; omega)
  rw [List.drop_zero] at this
  exact this

theorem impl_RowAt_eq (l : List Row) (id : Int) (h : l.length ≤ 9223372036854775807) : impl_RowAt.f l id = some (rowAtF l id 0) := by
  unfold impl_RowAt.f
  rw [slices_IndexFunc_impl_Row__impl_RowAt_1_eq l id h, Option.bind_some]



theorem impl_RowDrop_eq (l : List Row) (id : Int) (h : sz_RowS l ≤ 1099511627776) : impl_RowDrop.f l id = some (rowDropF l id) := by
  have h' := h
  unfold sz_RowS at h'
  have p := sum_nonneg sz_Row_0 l
  unfold impl_RowDrop.f
  rw [impl_copyRows_eq _ h, Option.bind_some, impl_RowAt_eq _ _ (by omega), Option.bind_some, rowAt_0]
  by_cases c : l.findIdx (isId id) < l.length
  · rw [idxI_pos c, decide_eq_true (by omega), cond_true, slices_Delete_impl_Row.f, delO, w64_succ (by omega), if_pos ⟨by omega, by omega, by omega⟩, Option.bind_some]
    unfold rowDropF
    rw [List.eraseIdx_eq_take_drop_succ, Int.toNat_natCast, Int.toNat_natCast]
  · rw [idxI_neg c, decide_eq_false (by omega), cond_false]
    unfold rowDropF
    rw [List.eraseIdx_of_length_le (by omega)]

theorem impl_Ahead_eq (q : Query) (a b : Row) (ha : Row_b a) (hb : Row_b b) : impl_Ahead.f q a b = some (aheadB q a b) := by
  unfold impl_Ahead.f aheadB
  rw [impl_cellOf_eq _ _ ha, impl_cellOf_eq _ _ hb]
  simp only [Option.bind_some, cond_ite, decide_eq_true_eq, some_if, bo3_not, bo3_xor, ne_eq, ite_not]
  all_goals (
    generalize cellF a (w64 (q.Order - 1)) = x
    generalize cellF b (w64 (q.Order - 1)) = y
    by_cases h0 : q.Order = 0
    · simp [h0]
    · by_cases h1 : x = y
      · simp [h0, h1]
      · cases hd : q.Down with
        | true =>
          simp only [h0, h1, if_false, if_true, Option.some.injEq, decide_eq_true_eq]
          by_cases h2 : x < y
          · simp [h2]; try omega
          · simp [h2]; try omega
        | false =>
          simp only [h0, h1, if_false, Option.some.injEq, decide_eq_true_eq]
          by_cases h2 : x < y
          · simp [h2]; try omega
          · simp [h2]; try omega)



theorem slices_IndexFunc_impl_Row__impl_rowPut_1_eq (l : List Row) (q : Query) (r : Row) (h : l.length ≤ 9223372036854775807) (hb : ∀ x ∈ l, Row_b x) (hr : Row_b r) : slices_IndexFunc_impl_Row__impl_rowPut_1.f l q r = some (idxI (aheadB q r) l) := by
  have key : ∀ (k i : Nat), i ≤ l.length → l.length < i + k → ¬ (l.take i).findIdx (aheadB q r) < i → slices_IndexFunc_impl_Row__impl_rowPut_1.l0 l q r k i = some (idxI (aheadB q r) l) := by
    intro k
    induction k with
    | zero => intro i h h'; omega
    | succ k ih =>
      intro i h0 h' hn
      by_cases hi : i < l.length
      · have hx : l[i]? = some l[i] := List.getElem?_eq_getElem hi
        obtain ⟨f1, f2⟩ := findIdx_takeA (aheadB q r) l hx hn
        rw [slices_IndexFunc_impl_Row__impl_rowPut_1.l0, lenI_eq, decide_eq_true (by omega), cond_true, getO_nat, hx, Option.bind_some, impl_rowPut_1.f, impl_Ahead_eq q r _ hr (hb _ (List.getElem_mem hi)), Option.bind_some, Option.bind_some, w64_succ (by omega)]
        cases e : aheadB q r l[i] with
        | true => rw [cond_true, idxI_pos (by rw [f1 e]; exact hi), f1 e]
        | false => rw [cond_false]; exact ih (i + 1) (by omega) (by omega) (f2 e)
      · rw [List.take_of_length_le (by omega)] at hn
        rw [slices_IndexFunc_impl_Row__impl_rowPut_1.l0, lenI_eq, decide_eq_false (by omega), cond_false, idxI_neg (by omega)]
  exact key (((lenI l) - 0).toNat + 1) 0 (by omega) (by simp only [lenI_eq]; omega) (by omega)



theorem impl_rowPut_eq (q : Query) (l : List Row) (r : Row) (h : sz_RowS l ≤ 1099511627776) (hb : ∀ x ∈ l, Row_b x) (hr : Row_b r) (hz : sz_Row r ≤ 1099511627776) : impl_rowPut.f q l r = some (putF q l r) := by
  have h' := h
  unfold sz_RowS at h'
  have p := sum_nonneg sz_Row_0 l
  unfold impl_rowPut.f
  rw [slices_IndexFunc_impl_Row__impl_rowPut_1_eq l q r (by omega) hb hr, Option.bind_some]
  simp only [joinK]
  have ins : ∀ y : Nat, y ≤ l.length → ((impl_copyRows.f l).bind fun r5 => (impl_copyRow.f r).bind fun r6 => (some [r6]).bind fun l7 => (slices_Insert_impl_Row.f r5 (y : Int) l7).bind fun r8 => some r8) = some (l.take y ++ [r] ++ l.drop y) := by
    intro y hy
    rw [impl_copyRows_eq _ h, Option.bind_some, impl_copyRow_eq _ hz, Option.bind_some, Option.bind_some, slices_Insert_impl_Row.f, insO, if_pos ⟨rfl, by omega, by omega, by simp; omega, by simp; omega⟩, Option.bind_some, Int.toNat_natCast]
  unfold putF
  by_cases d : l.findIdx (aheadB q r) < l.length
  · rw [idxI_pos d, decide_eq_false (by omega), cond_false]
    exact ins _ (by omega)
  · have hle := List.findIdx_le_length (xs := l) (p := aheadB q r)
    have e : l.findIdx (aheadB q r) = l.length := by omega
    rw [idxI_neg d, decide_eq_true (by omega), cond_true, lenI_eq, e]
    exact ins _ (Nat.le_refl _)





theorem impl_KidPut_l0 (l : List Kid) (id : Int) (K : Int → Option (List Kid)) (hl : (l.length : Int) ≤ 1099511627776) : ∀ (k i : Nat), i ≤ l.length → l.length < i + k → ¬ (l.take i).findIdx (isKid id) < i →
    impl_KidPut.l0 id l K k i = K (l.findIdx (isKid id) : Int) := by
  intro k
  induction k with
  | zero => intro i h h'; omega
  | succ k ih =>
    intro i h h' hn
    by_cases hi : i < l.length
    · have hx : l[i]? = some l[i] := List.getElem?_eq_getElem hi
      obtain ⟨f1, f2⟩ := findIdx_takeA (isKid id) l hx hn
      rw [impl_KidPut.l0, lenI_eq, decide_eq_true (by omega), gd_true, getO_nat, hx, Option.bind_some, bo3_T, w64_succ (by omega)]
      by_cases c : l[i].Id < id
      · rw [decide_eq_true c, cond_true]
        exact ih (i + 1) (by omega) (by omega) (f2 (decide_eq_false (by omega)))
      · rw [decide_eq_false c, cond_false, f1 (decide_eq_true (by omega))]
    · rw [List.take_of_length_le (by omega)] at hn
      have hle := List.findIdx_le_length (xs := l) (p := isKid id)
      rw [impl_KidPut.l0, lenI_eq, decide_eq_false (by omega), gd_false, Option.bind_some, bo3_F, cond_false]
      congr 1
      omega
theorem impl_KidPut_eq (l : List Kid) (id by_ : Int) (h : (l.length : Int) ≤ 1099511627776) : impl_KidPut.f l id by_ = some (kidPutF l id by_) := by
  unfold impl_KidPut.f
  rw [appO_ok (by simp; omega), Option.bind_some, List.nil_append]
  simp only [joinK]
  refine (impl_KidPut_l0 l id _ h (((lenI l) - 0).toNat + 1) 0 (by omega) (by rw [lenI_eq]; omega) (by omega)).trans ?_
  have hle := List.findIdx_le_length (xs := l) (p := isKid id)
  unfold kidPutF
  by_cases c : l.findIdx (isKid id) < l.length
  · have hx : l[l.findIdx (isKid id)]? = some l[l.findIdx (isKid id)] := List.getElem?_eq_getElem c
    rw [lenI_eq, decide_eq_false (by omega), bo3_F, gd_true, getO_nat, hx, Option.bind_some, bo3_F]
    dsimp only
    generalize hk : l[l.findIdx (isKid id)] = x at *
    generalize hn : l.findIdx (isKid id) = n at *
    by_cases e : x.Id = id
    · rw [decide_eq_false (show ¬ x.Id ≠ id from fun h => h e), cond_false, if_pos e, Option.bind_some, Option.bind_some, setI_nat, getO_nat, List.getElem?_set_self c, Option.bind_some, e]
      dsimp only
      by_cases n0 : 0 < w64 (x.N + by_)
      · rw [decide_eq_false (by omega), cond_false, if_pos n0]
      · rw [decide_eq_true (by omega), cond_true, if_neg n0, slices_Delete_impl_Kid.f, delO, w64_succ (by omega), if_pos ⟨by omega, by omega, by rw [List.length_set]; omega⟩, Option.bind_some, Int.toNat_natCast, Int.toNat_natCast, List.eraseIdx_eq_take_drop_succ, List.take_set_of_le (Nat.le_refl _), List.drop_set_of_lt (by omega)]
    · rw [decide_eq_true (show x.Id ≠ id from e), cond_true, if_neg e]
      by_cases n0 : 0 < by_
      · rw [decide_eq_false (by omega), cond_false, if_pos n0, Option.bind_some, slices_Insert_impl_Kid.f, insO, if_pos ⟨rfl, by omega, by omega, by simp; omega, by simp; omega⟩, Option.bind_some, Int.toNat_natCast]
      · rw [decide_eq_true (by omega), cond_true, if_neg n0]
  · have e : l.findIdx (isKid id) = l.length := by omega
    rw [lenI_eq, e, decide_eq_true rfl, bo3_T, gd_false, Option.bind_some, bo3_T, cond_true, List.getElem?_eq_none (by omega)]
    dsimp only
    by_cases n0 : 0 < by_
    · rw [decide_eq_false (by omega), cond_false, if_pos n0, Option.bind_some, slices_Insert_impl_Kid.f, insO, if_pos ⟨rfl, by omega, by omega, by simp; omega, by simp; omega⟩, Option.bind_some, Int.toNat_natCast, List.take_length, List.drop_length, List.append_nil]
    · rw [decide_eq_true (by omega), cond_true, if_neg n0]

theorem impl_ViewChange_eq (v : View) (c : Change) (hv : VB v) (hz : sz_View v ≤ 549755813888) (hc : Change_b c) (hzc : sz_Change c ≤ 1048576) : impl_ViewChange.f v c = some (viewCh v c) := by
  have p1 := sz_Query_0 v.Q
  have p2 := sz_RowS_0 v.Rows
  have p3 := sz_KidS_0 v.Kids
  have p4 := sum_nonneg sz_Row_0 v.Rows
  have n1 := sz_Row_0 c.Old
  have n2 := sz_Row_0 c.New
  have hzv := hz
  unfold sz_View at hzv
  unfold sz_Change at hzc
  have d := rowDrop_sz v.Rows c.Old.Id
  have dl := rowDrop_len v.Rows c.Old.Id
  have hkl : (v.Kids.length : Int) ≤ 549755813888 := by unfold sz_KidS at hzv p3; omega
  have hrl : (v.Rows.length : Int) ≤ 549755813888 := by unfold sz_RowS at hzv p2; omega
  have k1 := kidPut_len v.Kids (cellF c.Old v.Q.KidCol) (-1)
  unfold impl_ViewChange.f
  rw [impl_copyView_eq v (by omega), Option.bind_some]
  simp only [joinK]
  have hKids : ∀ (y2 : List Row), (bif (bo3 v.Q.Kids (decide (c.Table = v.Q.KidTable)) false) then (bif c.Had then (impl_cellOf.f c.Old v.Q.KidCol).bind fun r31 => (impl_KidPut.f v.Kids r31 (-1)).bind fun r32 => (bif c.Has then (impl_cellOf.f c.New v.Q.KidCol).bind fun r34 => (impl_KidPut.f r32 r34 1).bind fun r35 => some (View.mk v.Q y2 r35) else some (View.mk v.Q y2 r32)) else (bif c.Has then (impl_cellOf.f c.New v.Q.KidCol).bind fun r34 => (impl_KidPut.f v.Kids r34 1).bind fun r35 => some (View.mk v.Q y2 r35) else some (View.mk v.Q y2 v.Kids))) else some (View.mk v.Q y2 v.Kids)) = some ⟨v.Q, y2, chKids v c⟩ := by
    intro y2
    rw [impl_cellOf_eq _ _ hc.1, impl_cellOf_eq _ _ hc.2]
    simp only [Option.bind_some]
    rw [impl_KidPut_eq v.Kids _ _ (by omega)]
    simp only [Option.bind_some]
    rw [impl_KidPut_eq _ _ _ (show ((kidPutF v.Kids (cellF c.Old v.Q.KidCol) (-1)).length : Int) ≤ 1099511627776 by omega), impl_KidPut_eq v.Kids _ _ (by omega)]
    simp only [Option.bind_some]
    unfold chKids
    by_cases hT : c.Table = v.Q.KidTable
    · rw [decide_eq_true hT]
      cases hK : v.Q.Kids <;> cases hH : c.Had <;> cases hS : c.Has <;> simp [hT, bo3_F, bo3_T]
    · rw [decide_eq_false hT]
      cases hK : v.Q.Kids <;> simp [hT, bo3_F, bo3_T]
  simp only [hKids]
  rw [impl_Matches_eq v.Q c.New hv.1.1 hc.2, gd_of]
  simp only [Option.bind_some]
  rw [impl_RowDrop_eq _ _ (by omega)]
  simp only [Option.bind_some]
  rw [impl_rowPut_eq v.Q v.Rows c.New (by omega) hv.2 hc.2 (by omega), impl_rowPut_eq v.Q (rowDropF v.Rows c.Old.Id) c.New (by omega) (fun x hx => hv.2 x (mem_rowDrop hx)) hc.2 (by omega)]
  simp only [Option.bind_some]
  unfold viewCh chRows
  by_cases hT : c.Table = v.Q.Table
  · rw [decide_eq_true hT, if_pos hT]
    cases hH : c.Had <;> cases hS : c.Has <;> cases hM : matchesB v.Q c.New <;> simp [bo3_F, bo3_T]
  · rw [decide_eq_false hT, if_neg hT]
    rfl

def viewChs (v : View) (l : List Change) : View := l.foldl viewCh v
theorem viewChs_sz : ∀ (l : List Change) (v : View), sz_View (viewChs v l) ≤ sz_View v + 3 * sz_ChangeS l
  | [], v => by simp [viewChs, sz_ChangeS]
  | c :: l, v => by
    have h1 := viewChs_sz l (viewCh v c)
    have h2 := viewCh_sz v c
    have h3 := sz_Change_0 c
    unfold sz_ChangeS at *
    unfold viewChs at *
    simp only [List.foldl_cons, List.length_cons, List.map_cons, List.sum_cons]
    omega
theorem viewChs_b : ∀ {l : List Change} {v : View}, VB v → (∀ c ∈ l, Change_b c) → VB (viewChs v l)
  | [], v, h, _ => h
  | c :: l, v, h, hc => viewChs_b (l := l) (viewCh_b h (hc c (List.mem_cons_self ..))) (fun x hx => hc x (List.mem_cons_of_mem _ hx))

theorem impl_ViewChanges_l0 (l : List Change) (hc : ∀ c ∈ l, Change_b c ∧ sz_Change c ≤ 1048576) (hl : (l.length : Int) ≤ 1048576) : ∀ (k i : Nat) (o : View), i ≤ l.length → l.length < i + k → VB o → sz_View o + 3 * sz_ChangeS (l.drop i) ≤ 549755813888 →
    impl_ViewChanges.l0 l k o.Q.Table o.Q.Where o.Q.Order o.Q.Down o.Q.First o.Q.Show o.Q.Kids o.Q.KidTable o.Q.KidCol o.Rows o.Kids i = some (viewChs o (l.drop i)) := by
  intro k
  induction k with
  | zero => intro i o h h'; omega
  | succ k ih =>
    intro i o h h' hb hz
    by_cases hi : i < l.length
    · have hx : l[i]? = some l[i] := List.getElem?_eq_getElem hi
      obtain ⟨m1, m2⟩ := hc _ (List.getElem_mem hi)
      have eo : View.mk (Query.mk o.Q.Table o.Q.Where o.Q.Order o.Q.Down o.Q.First o.Q.Show o.Q.Kids o.Q.KidTable o.Q.KidCol) o.Rows o.Kids = o := rfl
      have n0 := sz_ChangeS_0 (l.drop (i + 1))
      have n1 := sz_Change_0 l[i]
      have hs := viewCh_sz o l[i]
      rw [List.drop_eq_getElem_cons hi] at hz ⊢
      have hzc : sz_ChangeS (l[i] :: l.drop (i + 1)) = 1 + sz_Change l[i] + sz_ChangeS (l.drop (i + 1)) := by
        unfold sz_ChangeS
        simp only [List.length_cons, List.map_cons, List.sum_cons]
        omega
      rw [hzc] at hz
      rw [impl_ViewChanges.l0, lenI_eq, decide_eq_true (by omega), cond_true, getO_nat, hx, Option.bind_some, eo, impl_ViewChange_eq _ _ hb (by omega) m1 m2, Option.bind_some, w64_succ (by omega)]
      exact ih (i + 1) _ (by omega) (by omega) (viewCh_b hb m1) (by omega)
    · rw [impl_ViewChanges.l0, lenI_eq, decide_eq_false (by omega), cond_false, List.drop_eq_nil_of_le (by omega)]
      rfl
theorem impl_ViewChanges_eq (v : View) (l : List Change) (hv : VB v) (hz : sz_View v ≤ 1048576) (hb : ChangeS_b l) (hzl : sz_ChangeS l ≤ 1048576) : impl_ViewChanges.f v l = some (viewChs v l) := by
  have p := sum_nonneg sz_Change_0 l
  have hzl' := hzl
  unfold sz_ChangeS at hzl'
  unfold impl_ViewChanges.f
  rw [impl_copyView_eq v (by omega), Option.bind_some]
  have := impl_ViewChanges_l0 l (fun c hc => ⟨hb.2 c hc, by have := sum_mem sz_Change_0 hc; omega⟩) (by omega) (((lenI l) - 0).toNat + 1) 0 v (by omega) (by rw [lenI_eq]; omega) hv (by rw [List.drop_zero]; omega)
  rw [List.drop_zero] at this
  exact this

theorem bo3_last (c : Bool) : bo3 c true false = c := by cases c <;> rfl

theorem eqc_Cond (x y : Cond) : bo3 (decide (x.Col = y.Col)) (bo3 (decide (x.Op = y.Op)) (bo3 (decide (x.V = y.V)) true false) false) false = decide (x = y) := by
  cases x; cases y
  simp [bo3_and, bo3_last, Bool.decide_and]

theorem slices_Equal_impl_Cond_eq (a b : List Cond) (ha : CondS_b a) (hb : CondS_b b) : slices_Equal_impl_Cond.f a b = some (decide (a = b)) := by
  unfold CondS_b at ha hb
  unfold slices_Equal_impl_Cond.f
  by_cases hl : a.length = b.length
  · rw [decide_eq_false (by simp only [lenI_eq]; omega), cond_false]
    refine (loop_eq (f := slices_Equal_impl_Cond.l0 a b) hl (some false) (some true) (fun k i x y hx hy => ?_) (fun k i hi => ?_) _ (by simp only [lenI_eq]; omega)).trans ?_
    · have hi := at_lt hx
      rw [slices_Equal_impl_Cond.l0, lenI_eq, decide_eq_true (by omega), cond_true, getO_nat, hx, Option.bind_some, getO_nat, hy, Option.bind_some, eqc_Cond, bo3_not, w64_succ (by omega)]
      by_cases c : x = y
      · simp [c]
      · simp [c]
    · rw [slices_Equal_impl_Cond.l0, lenI_eq, decide_eq_false (by omega), cond_false]
    · cases decide (a = b) <;> rfl
  · rw [decide_eq_true (by simp only [lenI_eq]; omega), cond_true, decide_eq_false (fun e => hl (by rw [e]))]

theorem slices_Equal_int_eq (a b : List Int) (ha : IntS_b a) (hb : IntS_b b) : slices_Equal_int.f a b = some (decide (a = b)) := by
  unfold IntS_b at ha hb
  unfold slices_Equal_int.f
  by_cases hl : a.length = b.length
  · rw [decide_eq_false (by simp only [lenI_eq]; omega), cond_false]
    refine (loop_eq (f := slices_Equal_int.l0 a b) hl (some false) (some true) (fun k i x y hx hy => ?_) (fun k i hi => ?_) _ (by simp only [lenI_eq]; omega)).trans ?_
    · have hi := at_lt hx
      rw [slices_Equal_int.l0, lenI_eq, decide_eq_true (by omega), cond_true, getO_nat, hx, Option.bind_some, getO_nat, hy, Option.bind_some, w64_succ (by omega)]
      by_cases c : x = y
      · simp [c]
      · simp [c]
    · rw [slices_Equal_int.l0, lenI_eq, decide_eq_false (by omega), cond_false]
    · cases decide (a = b) <;> rfl
  · rw [decide_eq_true (by simp only [lenI_eq]; omega), cond_true, decide_eq_false (fun e => hl (by rw [e]))]

def qsameB (a b : Query) : Bool := decide (a = b)
theorem query_eq (a b : Query) : decide (a = b) = (decide (a.Table = b.Table) && decide (a.Where = b.Where) && decide (a.Order = b.Order) && (a.Down == b.Down) && decide (a.First = b.First) && decide (a.Show = b.Show) && (a.Kids == b.Kids) && decide (a.KidTable = b.KidTable) && decide (a.KidCol = b.KidCol)) := by
  cases a; cases b
  rw [Bool.eq_iff_iff]
  simp [and_assoc]

theorem impl_QuerySame_eq (a b : Query) (ha : Query_b a) (hb : Query_b b) : impl_QuerySame.f a b = some (decide (a = b)) := by
  unfold impl_QuerySame.f
  simp only [slices_Equal_impl_Cond_eq _ _ ha.1 hb.1, slices_Equal_int_eq _ _ ha.2 hb.2, gd_of, Option.bind_some, query_eq]
  cases decide (a.Table = b.Table) <;> cases decide (a.Order = b.Order) <;> cases decide (a.First = b.First) <;> cases a.Down <;> cases b.Down <;> first | rfl | skip
  all_goals cases decide (a.Where = b.Where) <;> cases decide (a.Show = b.Show) <;> cases a.Kids <;> cases b.Kids <;> cases decide (a.KidTable = b.KidTable) <;> cases decide (a.KidCol = b.KidCol) <;> rfl

theorem impl_RowSame_eq (a b : Row) (ha : Row_b a) (hb : Row_b b) : impl_RowSame.f a b = some (decide (a = b)) := by
  unfold impl_RowSame.f
  simp only [slices_Equal_int_eq _ _ ha hb, gd_of, Option.bind_some, row_eq]
  cases decide (a.Id = b.Id) <;> cases decide (a.Cells = b.Cells) <;> rfl

theorem slices_EqualFunc_impl_Row__impl_RowSame_eq (a b : List Row) (ha : RowS_b a) (hb : RowS_b b) : slices_EqualFunc_impl_Row__impl_RowSame.f a b = some (decide (a = b)) := by
  obtain ⟨ha, ha2⟩ := ha
  obtain ⟨hb, hb2⟩ := hb
  unfold slices_EqualFunc_impl_Row__impl_RowSame.f
  by_cases hl : a.length = b.length
  · rw [decide_eq_false (by simp only [lenI_eq]; omega), cond_false]
    refine (loop_eq (f := slices_EqualFunc_impl_Row__impl_RowSame.l0 a b) hl (some false) (some true) (fun k i x y hx hy => ?_) (fun k i hi => ?_) _ (by simp only [lenI_eq]; omega)).trans ?_
    · have hi := at_lt hx
      rw [slices_EqualFunc_impl_Row__impl_RowSame.l0, lenI_eq, decide_eq_true (by omega), cond_true, getO_nat, hx, Option.bind_some, getO_nat, hy, Option.bind_some, impl_RowSame_eq x y (ha2 x (List.mem_of_getElem? hx)) (hb2 y (List.mem_of_getElem? hy)), Option.bind_some, bo3_not, w64_succ (by omega)]
      by_cases c : x = y
      · simp [c]
      · simp [c]
    · rw [slices_EqualFunc_impl_Row__impl_RowSame.l0, lenI_eq, decide_eq_false (by omega), cond_false]
    · cases decide (a = b) <;> rfl
  · rw [decide_eq_true (by simp only [lenI_eq]; omega), cond_true, decide_eq_false (fun e => hl (by rw [e]))]

theorem eqc_Kid (x y : Kid) : bo3 (decide (x.Id = y.Id)) (bo3 (decide (x.N = y.N)) true false) false = decide (x = y) := by
  cases x; cases y
  simp [bo3_and, bo3_last, Bool.decide_and]

theorem slices_Equal_impl_Kid_eq (a b : List Kid) (ha : KidS_b a) (hb : KidS_b b) : slices_Equal_impl_Kid.f a b = some (decide (a = b)) := by
  unfold KidS_b at ha hb
  unfold slices_Equal_impl_Kid.f
  by_cases hl : a.length = b.length
  · rw [decide_eq_false (by simp only [lenI_eq]; omega), cond_false]
    refine (loop_eq (f := slices_Equal_impl_Kid.l0 a b) hl (some false) (some true) (fun k i x y hx hy => ?_) (fun k i hi => ?_) _ (by simp only [lenI_eq]; omega)).trans ?_
    · have hi := at_lt hx
      rw [slices_Equal_impl_Kid.l0, lenI_eq, decide_eq_true (by omega), cond_true, getO_nat, hx, Option.bind_some, getO_nat, hy, Option.bind_some, eqc_Kid, bo3_not, w64_succ (by omega)]
      by_cases c : x = y
      · simp [c]
      · simp [c]
    · rw [slices_Equal_impl_Kid.l0, lenI_eq, decide_eq_false (by omega), cond_false]
    · cases decide (a = b) <;> rfl
  · rw [decide_eq_true (by simp only [lenI_eq]; omega), cond_true, decide_eq_false (fun e => hl (by rw [e]))]

theorem view_eq (a b : View) : decide (a = b) = (decide (a.Q = b.Q) && decide (a.Rows = b.Rows) && decide (a.Kids = b.Kids)) := by
  cases a; cases b
  rw [Bool.eq_iff_iff]
  simp [and_assoc]

theorem impl_ViewSame_eq (a b : View) (ha : View_b a) (hb : View_b b) : impl_ViewSame.f a b = some (decide (a = b)) := by
  unfold impl_ViewSame.f
  simp only [impl_QuerySame_eq _ _ ha.1 hb.1, slices_EqualFunc_impl_Row__impl_RowSame_eq _ _ ha.2.1 hb.2.1, slices_Equal_impl_Kid_eq _ _ ha.2.2 hb.2.2, gd_of, Option.bind_some, view_eq]
  cases decide (a.Q = b.Q) <;> cases decide (a.Rows = b.Rows) <;> cases decide (a.Kids = b.Kids) <;> rfl

theorem spec_l13Copy_eq (v : View) (h : sz_View v ≤ 1099511627776) : spec_l13Copy.f v = some v := by
  have p1 := sz_Query_0 v.Q
  have p2 := sz_RowS_0 v.Rows
  have p3 := sz_KidS_0 v.Kids
  unfold sz_View at h
  unfold sz_KidS at p3 h
  unfold spec_l13Copy.f
  rw [spec_l9Copy_eq _ (by omega), Option.bind_some, spec_l6Rows_eq _ (by omega), Option.bind_some, appO_ok (by simp only [List.length_nil]; omega), Option.bind_some]
  rfl

theorem spec_ViewChange_eq (v : View) (c : Change) (hv : VB v) (hz : sz_View v ≤ 549755813888) (hc : Change_b c) (hzc : sz_Change c ≤ 1048576) : spec_ViewChange.f v c = some (viewCh v c) := by
  have p1 := sz_Query_0 v.Q
  have p2 := sz_RowS_0 v.Rows
  have p3 := sz_KidS_0 v.Kids
  have p4 := sum_nonneg sz_Row_0 v.Rows
  have n1 := sz_Row_0 c.Old
  have n2 := sz_Row_0 c.New
  have hzv := hz
  unfold sz_View at hzv
  unfold sz_Change at hzc
  have d := rowDrop_sz v.Rows c.Old.Id
  have dl := rowDrop_len v.Rows c.Old.Id
  have hkl : (v.Kids.length : Int) ≤ 549755813888 := by unfold sz_KidS at hzv p3; omega
  have hrl : (v.Rows.length : Int) ≤ 549755813888 := by unfold sz_RowS at hzv p2; omega
  have k1 := kidPut_len v.Kids (cellF c.Old v.Q.KidCol) (-1)
  unfold spec_ViewChange.f
  rw [spec_l13Copy_eq v (by omega), Option.bind_some]
  simp only [joinK]
  have hKids : ∀ (y2 : List Row), (bif (bo3 v.Q.Kids (decide (c.Table = v.Q.KidTable)) false) then (bif c.Had then (spec_l9Cell.f c.Old v.Q.KidCol).bind fun r31 => (spec_KidPut.f v.Kids r31 (-1)).bind fun r32 => (bif c.Has then (spec_l9Cell.f c.New v.Q.KidCol).bind fun r34 => (spec_KidPut.f r32 r34 1).bind fun r35 => some (View.mk v.Q y2 r35) else some (View.mk v.Q y2 r32)) else (bif c.Has then (spec_l9Cell.f c.New v.Q.KidCol).bind fun r34 => (spec_KidPut.f v.Kids r34 1).bind fun r35 => some (View.mk v.Q y2 r35) else some (View.mk v.Q y2 v.Kids))) else some (View.mk v.Q y2 v.Kids)) = some ⟨v.Q, y2, chKids v c⟩ := by
    intro y2
    rw [spec_l9Cell_eq _ _ hc.1, spec_l9Cell_eq _ _ hc.2]
    simp only [Option.bind_some]
    rw [spec_KidPut_eq v.Kids _ _ (by omega)]
    simp only [Option.bind_some]
    rw [spec_KidPut_eq _ _ _ (show ((kidPutF v.Kids (cellF c.Old v.Q.KidCol) (-1)).length : Int) ≤ 1099511627776 by omega), spec_KidPut_eq v.Kids _ _ (by omega)]
    simp only [Option.bind_some]
    unfold chKids
    by_cases hT : c.Table = v.Q.KidTable
    · rw [decide_eq_true hT]
      cases hK : v.Q.Kids <;> cases hH : c.Had <;> cases hS : c.Has <;> simp [hT, bo3_F, bo3_T]
    · rw [decide_eq_false hT]
      cases hK : v.Q.Kids <;> simp [hT, bo3_F, bo3_T]
  simp only [hKids]
  rw [spec_Matches_eq v.Q c.New hv.1.1 hc.2, gd_of]
  simp only [Option.bind_some]
  rw [spec_RowDrop_eq _ _ (by omega)]
  simp only [Option.bind_some]
  rw [spec_l11Put_eq v.Q v.Rows c.New (by omega) hv.2 hc.2 (by omega), spec_l11Put_eq v.Q (rowDropF v.Rows c.Old.Id) c.New (by omega) (fun x hx => hv.2 x (mem_rowDrop hx)) hc.2 (by omega)]
  simp only [Option.bind_some]
  unfold viewCh chRows
  by_cases hT : c.Table = v.Q.Table
  · rw [decide_eq_true hT, if_pos hT]
    cases hH : c.Had <;> cases hS : c.Has <;> cases hM : matchesB v.Q c.New <;> simp [bo3_F, bo3_T]
  · rw [decide_eq_false hT, if_neg hT]
    rfl

theorem spec_ViewChanges_l0 (l : List Change) (hc : ∀ c ∈ l, Change_b c ∧ sz_Change c ≤ 1048576) (hl : (l.length : Int) ≤ 1048576) : ∀ (k i : Nat) (o : View), i ≤ l.length → l.length < i + k → VB o → sz_View o + 3 * sz_ChangeS (l.drop i) ≤ 549755813888 →
    spec_ViewChanges.l0 l k o.Q.Table o.Q.Where o.Q.Order o.Q.Down o.Q.First o.Q.Show o.Q.Kids o.Q.KidTable o.Q.KidCol o.Rows o.Kids i = some (viewChs o (l.drop i)) := by
  intro k
  induction k with
  | zero => intro i o h h'; omega
  | succ k ih =>
    intro i o h h' hb hz
    by_cases hi : i < l.length
    · have hx : l[i]? = some l[i] := List.getElem?_eq_getElem hi
      obtain ⟨m1, m2⟩ := hc _ (List.getElem_mem hi)
      have eo : View.mk (Query.mk o.Q.Table o.Q.Where o.Q.Order o.Q.Down o.Q.First o.Q.Show o.Q.Kids o.Q.KidTable o.Q.KidCol) o.Rows o.Kids = o := rfl
      have n0 := sz_ChangeS_0 (l.drop (i + 1))
      have n1 := sz_Change_0 l[i]
      have hs := viewCh_sz o l[i]
      rw [List.drop_eq_getElem_cons hi] at hz ⊢
      have hzc : sz_ChangeS (l[i] :: l.drop (i + 1)) = 1 + sz_Change l[i] + sz_ChangeS (l.drop (i + 1)) := by
        unfold sz_ChangeS
        simp only [List.length_cons, List.map_cons, List.sum_cons]
        omega
      rw [hzc] at hz
      rw [spec_ViewChanges.l0, lenI_eq, decide_eq_true (by omega), cond_true, getO_nat, hx, Option.bind_some, eo, spec_ViewChange_eq _ _ hb (by omega) m1 m2, Option.bind_some, w64_succ (by omega)]
      exact ih (i + 1) _ (by omega) (by omega) (viewCh_b hb m1) (by omega)
    · rw [spec_ViewChanges.l0, lenI_eq, decide_eq_false (by omega), cond_false, List.drop_eq_nil_of_le (by omega)]
      rfl
theorem spec_ViewChanges_eq (v : View) (l : List Change) (hv : VB v) (hz : sz_View v ≤ 1048576) (hb : ChangeS_b l) (hzl : sz_ChangeS l ≤ 1048576) : spec_ViewChanges.f v l = some (viewChs v l) := by
  have p := sum_nonneg sz_Change_0 l
  have hzl' := hzl
  unfold sz_ChangeS at hzl'
  unfold spec_ViewChanges.f
  rw [spec_l13Copy_eq v (by omega), Option.bind_some]
  have := spec_ViewChanges_l0 l (fun c hc => ⟨hb.2 c hc, by have := sum_mem sz_Change_0 hc; omega⟩) (by omega) (((lenI l) - 0).toNat + 1) 0 v (by omega) (by rw [lenI_eq]; omega) hv (by rw [List.drop_zero]; omega)
  rw [List.drop_zero] at this
  exact this

theorem laws_at_ok (l : List Int) (i : Int) (h0 : 0 ≤ i) (hi : i ≤ 1000) (hl : (l.length : Int) ≤ 1048576) (r : ∀ y ∈ l, 0 ≤ y ∧ y ≤ 255) : ∃ x, laws_at.f l i = some x ∧ 0 ≤ x ∧ x ≤ 255 := by
  unfold laws_at.f
  by_cases c : i < (l.length : Int)
  · have hm := r _ (List.getElem_mem (show i.toNat < l.length by omega))
    rw [lenI_eq, decide_eq_true c, cond_true, getO_pos h0, List.getElem?_eq_getElem (by omega), Option.bind_some, w64_id (by omega)]
    exact ⟨_, rfl, hm⟩
  · rw [lenI_eq, decide_eq_false c, cond_false, w64_id (x := i * 7) (by omega), w64_id (by omega)]
    have := Int.tmod_lt_of_pos (i * 7 + l.length) (show (0 : Int) < 256 by omega)
    exact ⟨_, rfl, Int.tmod_nonneg _ (by omega), by omega⟩

theorem DrawViewChange_ok (code : List Int) (hl : (code.length : Int) ≤ 1048576) : ∃ v c, spec_DrawViewChange.f code = some (v, c) ∧ VB v ∧ sz_View v ≤ 300 ∧ CB c := by
  unfold spec_DrawViewChange.f
  obtain ⟨v, l, e, h1, h2, h3, h4⟩ := l14Draw_ok code hl
  rw [bnd_some e]
  dsimp only
  rw [lenI_eq]
  by_cases c : (l.length : Int) = 0
  · rw [decide_eq_true c, cond_true]
    exact ⟨_, _, rfl, h1, h2, by simp [CB]⟩
  · rw [decide_eq_false c, cond_false, show (0 : Int) = ((0 : Nat) : Int) from rfl, getO_nat, List.getElem?_eq_getElem (by omega), Option.bind_some]
    exact ⟨_, _, rfl, h1, h2, h4 _ (List.getElem_mem _)⟩

theorem laws_big_eq (l : List Int) : laws_big.f l = some (decide (1048576 < (l.length : Int))) := by unfold laws_big.f; rw [lenI_eq]

theorem laws_FnChanges_pure (a0 : List Int) (b0 : IntS_b a0) (r0 : ∀ y ∈ a0, 0 ≤ y ∧ y ≤ 255) : laws_FnChanges.f a0 = some true := by
  unfold laws_FnChanges.f
  rw [laws_big_eq, Option.bind_some]
  by_cases hb : 1048576 < (a0.length : Int)
  · rw [decide_eq_true hb]; rfl
  rw [decide_eq_false hb, cond_false]
  obtain ⟨v, l, e1, v1, v2, l1, l2⟩ := DrawViewChanges_ok a0 (by omega)
  obtain ⟨w, c, e2, w1, w2, c1⟩ := DrawViewChange_ok a0 (by omega)
  obtain ⟨z1, z2⟩ := CBs l1 l2
  obtain ⟨x, f1, x0, x1⟩ := laws_at_ok a0 1 (by omega) (by omega) (by omega) r0
  have lb : ChangeS_b l := ⟨by omega, z2⟩
  have s1 := viewChs_sz l v
  have b1 := viewChs_b (l := l) v1 z2
  have vw := VB_view b1 (by omega)
  rw [bnd_some e1]
  dsimp only
  rw [bnd_some (impl_ViewChanges_eq v l v1 (by omega) lb (by omega)), bnd_some (spec_ViewChanges_eq v l v1 (by omega) lb (by omega)), bnd_some (impl_ViewSame_eq _ _ vw vw), decide_eq_true rfl, show bo3 true false true = false from rfl, cond_false, bnd_some f1, lenI_eq, w64_id (by omega)]
  have hn : nzO ((l.length : Int) + 1) = some () := by unfold nzO; rw [if_pos (by omega)]
  have hm := tmod_lt (n := (l.length : Int) + 1) x0 (by omega)
  generalize Int.tmod x ((l.length : Int) + 1) = m at hm
  obtain ⟨k, rfl⟩ : ∃ k : Nat, m = k := ⟨m.toNat, by omega⟩
  have hk : k ≤ l.length := by omega
  have tb : ChangeS_b (l.take k) := ⟨by rw [List.length_take]; omega, fun y hy => z2 y (List.mem_of_mem_take hy)⟩
  have db : ChangeS_b (l.drop k) := ⟨by rw [List.length_drop]; omega, fun y hy => z2 y (List.mem_of_mem_drop hy)⟩
  obtain ⟨t1, t2⟩ := CBs (l := l.take k) (k := 4) (by rw [List.length_take]; omega) (fun y hy => l2 y (List.mem_of_mem_take hy))
  obtain ⟨d1, d2⟩ := CBs (l := l.drop k) (k := 4) (by rw [List.length_drop]; omega) (fun y hy => l2 y (List.mem_of_mem_drop hy))
  have s2 := viewChs_sz (l.take k) v
  have b2 := viewChs_b (l := l.take k) v1 tb.2
  rw [bnd_some hn, cutO_ok ⟨by omega, by omega, by omega⟩, Option.bind_some]
  rw [show (l.take ((k : Int)).toNat).drop (0 : Int).toNat = l.take k by simp, bnd_some (impl_ViewChanges_eq v _ v1 (by omega) tb (by omega)), cutO_ok ⟨by omega, by omega, by omega⟩, Option.bind_some]
  rw [show (l.take ((l.length : Int)).toNat).drop ((k : Int)).toNat = l.drop k by rw [Int.toNat_natCast, Int.toNat_natCast, List.take_length], bnd_some (impl_ViewChanges_eq _ _ b2 (by omega) db (by omega))]
  have e3 : viewChs (viewChs v (l.take k)) (l.drop k) = viewChs v l := by
    unfold viewChs
    rw [← List.foldl_append, List.take_append_drop]
  rw [e3, bnd_some e2]
  dsimp only
  obtain ⟨c2, c3⟩ := c1.b
  have cb : ChangeS_b [c] := ⟨by simp, fun y hy => by rw [List.mem_singleton.1 hy]; exact c2⟩
  have cz : sz_ChangeS [c] ≤ 100 := by unfold sz_ChangeS; simp only [List.length_cons, List.length_nil, List.map_cons, List.map_nil, List.sum_cons, List.sum_nil]; omega
  have s4 := viewCh_sz w c
  have vw2 := VB_view (viewCh_b w1 c2) (by omega)
  rw [bnd_some (impl_ViewSame_eq _ _ vw vw), decide_eq_true rfl, gd_true, bnd_some (impl_ViewChange_eq w c w1 (by omega) c2 (by omega)), Option.bind_some, gd_true, bnd_some (impl_ViewChanges_eq w [c] w1 (by omega) cb (by omega)), gd_true, show viewChs w [c] = viewCh w c from rfl, bnd_some (impl_ViewSame_eq _ _ vw2 vw2), decide_eq_true rfl]
  rfl

end Go.Proofs.Ytblacmggjfinhaa.L
