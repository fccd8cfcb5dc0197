/- What the pure functions give. -/
import Derived.Test.YtibmfkomdhnhbaaPv0
import Derived.Test.YtibmfkomdhnhbaaFxRecordNewU
namespace Go.Proofs.Ytibmfkomdhnhbaa.L
open Go
set_option linter.unusedVariables false
set_option linter.unusedSimpArgs false
def sz_IntS (l : List Int) : Int := l.length
def IntS_b (l : List Int) : Prop := l.length ≤ 9223372036854775807
theorem sz_IntS_0 (l : List Int) : 0 ≤ sz_IntS l := by unfold sz_IntS; omega
def IntS_r (l : List Int) : Prop := ∀ x ∈ l, (-9223372036854775808 ≤ x ∧ x ≤ 9223372036854775807)
theorem laws_szIntS_eq (a : List Int) (n : Int) (hn : 0 ≤ n ∧ n ≤ 1048576) (hb : IntS_b a) : laws_szIntS.f a n = some (if n < sz_IntS a then -1 else n - sz_IntS a) := by
  unfold laws_szIntS.f sz_IntS
  unfold IntS_b at hb
  rw [lenI_eq, w64_id (by omega)]
  by_cases c : n < (a.length : Int)
  · rw [if_pos c, decide_eq_true (by omega), cond_true]
  · rw [if_neg c, decide_eq_false (by omega), cond_false]
def sz_Schema (x : Schema) : Int := sz_IntS x.Cols
def Schema_b (x : Schema) : Prop := IntS_b x.Cols
theorem sz_Schema_0 (x : Schema) : 0 ≤ sz_Schema x := by unfold sz_Schema; exact by have := sz_IntS_0 x.Cols;  omega
def Schema_r (x : Schema) : Prop := IntS_r x.Cols
theorem laws_szSchema_eq (a : Schema) (n : Int) (hn : 0 ≤ n ∧ n ≤ 1048576) (hb : Schema_b a) : laws_szSchema.f a n = some (if n < sz_Schema a then -1 else n - sz_Schema a) := by
  unfold laws_szSchema.f sz_Schema
  have h0 := hb
  have p_Cols := sz_IntS_0 a.Cols
  rw [laws_szIntS_eq _ _ (by omega) h0, Option.bind_some]
  by_cases c0 : n < sz_IntS a.Cols
  · rw [if_pos c0]; rfl
  · rw [if_neg c0, decide_eq_false (by omega), cond_false]
def sz_Row (x : Row) : Int := sz_IntS x.Cells
def Row_b (x : Row) : Prop := IntS_b x.Cells
theorem sz_Row_0 (x : Row) : 0 ≤ sz_Row x := by unfold sz_Row; exact by have := sz_IntS_0 x.Cells;  omega
def Row_r (x : Row) : Prop := (-9223372036854775808 ≤ x.Id ∧ x.Id ≤ 9223372036854775807) ∧ IntS_r x.Cells
theorem laws_szRow_eq (a : Row) (n : Int) (hn : 0 ≤ n ∧ n ≤ 1048576) (hb : Row_b a) : laws_szRow.f a n = some (if n < sz_Row a then -1 else n - sz_Row a) := by
  unfold laws_szRow.f sz_Row
  have h0 := hb
  have p_Cells := sz_IntS_0 a.Cells
  rw [laws_szIntS_eq _ _ (by omega) h0, Option.bind_some]
  by_cases c0 : n < sz_IntS a.Cells
  · rw [if_pos c0]; rfl
  · rw [if_neg c0, decide_eq_false (by omega), cond_false]
def sz_RowS (l : List Row) : Int := l.length + (l.map sz_Row).sum
def RowS_b (l : List Row) : Prop := l.length ≤ 9223372036854775807 ∧ ∀ x ∈ l, Row_b x
theorem sz_RowS_0 (l : List Row) : 0 ≤ sz_RowS l := by have := sum_nonneg sz_Row_0 l; unfold sz_RowS; omega
def RowS_r (l : List Row) : Prop := ∀ x ∈ l, Row_r x
theorem laws_szRowS_eq (a : List Row) (n : Int) (hn : 0 ≤ n ∧ n ≤ 1048576) (hb : RowS_b a) : laws_szRowS.f a n = some (if n < sz_RowS a then -1 else n - sz_RowS a) := by
  unfold laws_szRowS.f sz_RowS
  obtain ⟨h1, h2⟩ := hb
  have p := sum_nonneg sz_Row_0 a
  rw [lenI_eq, w64_id (by omega)]
  by_cases c : n < (a.length : Int)
  · rw [if_pos (by omega), decide_eq_true (by omega), cond_true]
  · rw [decide_eq_false (by omega), cond_false]
    have key := loop_sz (f := laws_szRowS.l0 a) (l := a) sz_Row sz_Row_0 (fun k i acc x hx h0 h0' => by
      have hi := at_lt hx
      rw [laws_szRowS.l0, lenI_eq, decide_eq_true (by omega), cond_true, getO_nat, hx, Option.bind_some, laws_szRow_eq x acc ⟨h0, h0'⟩ (h2 x (List.mem_of_getElem? hx)), Option.bind_some, w64_succ (by omega)]
      by_cases d : acc < sz_Row x
      · rw [if_pos d, if_pos d, decide_eq_true (by omega), cond_true]
      · rw [if_neg d, if_neg d, decide_eq_false (by omega), cond_false]) (fun k acc i hi => by
      rw [laws_szRowS.l0, lenI_eq, decide_eq_false (by omega), cond_false]) (((a.length : Int) - 0).toNat + 1) 0 (n - a.length) (by omega) (by omega) (by omega) (by omega)
    rw [List.drop_zero] at key
    refine Eq.trans key ?_
    congr 1
    by_cases d : n - a.length < (a.map sz_Row).sum
    · rw [if_pos d, if_pos (by omega)]
    · rw [if_neg d, if_neg (by omega)]; omega
def sz_RowSS (l : List (List Row)) : Int := l.length + (l.map sz_RowS).sum
def RowSS_b (l : List (List Row)) : Prop := l.length ≤ 9223372036854775807 ∧ ∀ x ∈ l, RowS_b x
theorem sz_RowSS_0 (l : List (List Row)) : 0 ≤ sz_RowSS l := by have := sum_nonneg sz_RowS_0 l; unfold sz_RowSS; omega
def RowSS_r (l : List (List Row)) : Prop := ∀ x ∈ l, RowS_r x
theorem laws_szRowSS_eq (a : List (List Row)) (n : Int) (hn : 0 ≤ n ∧ n ≤ 1048576) (hb : RowSS_b a) : laws_szRowSS.f a n = some (if n < sz_RowSS a then -1 else n - sz_RowSS a) := by
  unfold laws_szRowSS.f sz_RowSS
  obtain ⟨h1, h2⟩ := hb
  have p := sum_nonneg sz_RowS_0 a
  rw [lenI_eq, w64_id (by omega)]
  by_cases c : n < (a.length : Int)
  · rw [if_pos (by omega), decide_eq_true (by omega), cond_true]
  · rw [decide_eq_false (by omega), cond_false]
    have key := loop_sz (f := laws_szRowSS.l0 a) (l := a) sz_RowS sz_RowS_0 (fun k i acc x hx h0 h0' => by
      have hi := at_lt hx
      rw [laws_szRowSS.l0, lenI_eq, decide_eq_true (by omega), cond_true, getO_nat, hx, Option.bind_some, laws_szRowS_eq x acc ⟨h0, h0'⟩ (h2 x (List.mem_of_getElem? hx)), Option.bind_some, w64_succ (by omega)]
      by_cases d : acc < sz_RowS x
      · rw [if_pos d, if_pos d, decide_eq_true (by omega), cond_true]
      · rw [if_neg d, if_neg d, decide_eq_false (by omega), cond_false]) (fun k acc i hi => by
      rw [laws_szRowSS.l0, lenI_eq, decide_eq_false (by omega), cond_false]) (((a.length : Int) - 0).toNat + 1) 0 (n - a.length) (by omega) (by omega) (by omega) (by omega)
    rw [List.drop_zero] at key
    refine Eq.trans key ?_
    congr 1
    by_cases d : n - a.length < (a.map sz_RowS).sum
    · rw [if_pos d, if_pos (by omega)]
    · rw [if_neg d, if_neg (by omega)]; omega
def sz_Store (x : Store) : Int := sz_Schema x.Schema + sz_RowSS x.Tables
def Store_b (x : Store) : Prop := Schema_b x.Schema ∧ RowSS_b x.Tables
theorem sz_Store_0 (x : Store) : 0 ≤ sz_Store x := by unfold sz_Store; exact by have := sz_Schema_0 x.Schema; have := sz_RowSS_0 x.Tables;  omega
def Store_r (x : Store) : Prop := Schema_r x.Schema ∧ (-9223372036854775808 ≤ x.Version ∧ x.Version ≤ 9223372036854775807) ∧ RowSS_r x.Tables
theorem laws_szStore_eq (a : Store) (n : Int) (hn : 0 ≤ n ∧ n ≤ 1048576) (hb : Store_b a) : laws_szStore.f a n = some (if n < sz_Store a then -1 else n - sz_Store a) := by
  unfold laws_szStore.f sz_Store
  obtain ⟨h0, h1⟩ := hb
  have p_Schema := sz_Schema_0 a.Schema
  have p_Tables := sz_RowSS_0 a.Tables
  rw [laws_szSchema_eq _ _ (by omega) h0, Option.bind_some]
  by_cases c0 : n < sz_Schema a.Schema
  · rw [if_pos c0, if_pos (by omega)]; rfl
  · rw [if_neg c0, decide_eq_false (by omega), cond_false]
    rw [laws_szRowSS_eq _ _ (by omega) h1, Option.bind_some]
    by_cases c1 : n - sz_Schema a.Schema < sz_RowSS a.Tables
    · rw [if_pos c1, if_pos (by omega)]; rfl
    · rw [if_neg c1, decide_eq_false (by omega), cond_false]
      rw [if_neg (by omega)]
      congr 1; omega
theorem laws_toIntS_eq (a : List Int) (h : sz_IntS a ≤ 1048576) : laws_toIntS.f a = some a := by
  unfold laws_toIntS.f
  unfold sz_IntS at h
  rw [lenI_eq, mkO_ok (by omega), Option.bind_some]
  refine loop_fill (f := laws_toIntS.l0 a) (l := a) some (fun k i s x y hx hy => ?_) (fun k s i hi => ?_) _ 0 _ (by omega) (by omega) (by rw [List.length_replicate]; omega) (by simp)
  · have hi := at_lt hx
    rw [laws_toIntS.l0, lenI_eq, decide_eq_true (by omega), cond_true, getO_nat, hx, Option.bind_some, getO_nat, hy, Option.bind_some, Option.bind_some, setI_nat, w64_succ (by omega)]
  · rw [laws_toIntS.l0, lenI_eq, decide_eq_false (by omega), cond_false]
theorem laws_toSchema_eq (a : Schema) (h : sz_Schema a ≤ 1048576) : laws_toSchema.f a = some a := by
  unfold sz_Schema at h
  have p_Cols := sz_IntS_0 a.Cols
  unfold laws_toSchema.f
  rw [laws_toIntS_eq _ (by omega), Option.bind_some]
theorem laws_toRow_eq (a : Row) (h : sz_Row a ≤ 1048576) : laws_toRow.f a = some a := by
  unfold sz_Row at h
  have p_Cells := sz_IntS_0 a.Cells
  unfold laws_toRow.f
  rw [laws_toIntS_eq _ (by omega), Option.bind_some]
theorem laws_toRowS_eq (a : List Row) (h : sz_RowS a ≤ 1048576) : laws_toRowS.f a = some a := by
  unfold laws_toRowS.f
  unfold sz_RowS at h
  have p := sum_nonneg sz_Row_0 a
  rw [lenI_eq, mkO_ok (by omega), Option.bind_some]
  refine loop_fill (f := laws_toRowS.l0 a) (l := a) some (fun k i s x y hx hy => ?_) (fun k s i hi => ?_) _ 0 _ (by omega) (by omega) (by rw [List.length_replicate]; omega) (by simp)
  · have hi := at_lt hx
    rw [laws_toRowS.l0, lenI_eq, decide_eq_true (by omega), cond_true, getO_nat, hx, Option.bind_some, laws_toRow_eq x (by have := sum_mem sz_Row_0 (List.mem_of_getElem? hx); omega), Option.bind_some, getO_nat, hy, Option.bind_some, Option.bind_some, setI_nat, w64_succ (by omega)]
  · rw [laws_toRowS.l0, lenI_eq, decide_eq_false (by omega), cond_false]
theorem laws_toRowSS_eq (a : List (List Row)) (h : sz_RowSS a ≤ 1048576) : laws_toRowSS.f a = some a := by
  unfold laws_toRowSS.f
  unfold sz_RowSS at h
  have p := sum_nonneg sz_RowS_0 a
  rw [lenI_eq, mkO_ok (by omega), Option.bind_some]
  refine loop_fill (f := laws_toRowSS.l0 a) (l := a) some (fun k i s x y hx hy => ?_) (fun k s i hi => ?_) _ 0 _ (by omega) (by omega) (by rw [List.length_replicate]; omega) (by simp)
  · have hi := at_lt hx
    rw [laws_toRowSS.l0, lenI_eq, decide_eq_true (by omega), cond_true, getO_nat, hx, Option.bind_some, laws_toRowS_eq x (by have := sum_mem sz_RowS_0 (List.mem_of_getElem? hx); omega), Option.bind_some, getO_nat, hy, Option.bind_some, Option.bind_some, setI_nat, w64_succ (by omega)]
  · rw [laws_toRowSS.l0, lenI_eq, decide_eq_false (by omega), cond_false]
theorem laws_toStore_eq (a : Store) (h : sz_Store a ≤ 1048576) : laws_toStore.f a = some a := by
  unfold sz_Store at h
  have p_Schema := sz_Schema_0 a.Schema
  have p_Tables := sz_RowSS_0 a.Tables
  unfold laws_toStore.f
  rw [laws_toSchema_eq _ (by omega), Option.bind_some]
  rw [laws_toRowSS_eq _ (by omega), Option.bind_some]
theorem laws_eqIntS_eq (a b : List Int) (ha : IntS_b a) (hb : IntS_b b) : laws_eqIntS.f a b = some (decide (a = b)) := by
  unfold IntS_b at ha hb
  unfold laws_eqIntS.f
  by_cases hl : a.length = b.length
  · rw [decide_eq_false (by simp only [lenI_eq]; omega), cond_false]
    refine (loop_eq (f := laws_eqIntS.l0 a b) hl (some false) (some true) (fun k i x y hx hy => ?_) (fun k i hi => ?_) _ (by simp only [lenI_eq]; omega)).trans ?_
    · have hi := at_lt hx
      rw [laws_eqIntS.l0, lenI_eq, decide_eq_true (by omega), cond_true, getO_nat, hx, Option.bind_some, getO_nat, hy, Option.bind_some, w64_succ (by omega)]
      by_cases c : x = y
      · simp [c]
      · simp [c]
    · rw [laws_eqIntS.l0, lenI_eq, decide_eq_false (by omega), cond_false]
    · cases decide (a = b) <;> rfl
  · rw [decide_eq_true (by simp only [lenI_eq]; omega), cond_true, decide_eq_false (fun e => hl (by rw [e]))]
theorem laws_eqSchema_eq (a b : Schema) (ha : Schema_b a) (hb : Schema_b b) : laws_eqSchema.f a b = some (decide (a = b)) := by
  have ha_Cols := ha
  have hb_Cols := hb
  unfold laws_eqSchema.f
  rw [laws_eqIntS_eq _ _ ha_Cols hb_Cols, Option.bind_some]
  by_cases c_Cols : a.Cols = b.Cols
  case neg => rw [decide_eq_false c_Cols, show bo3 false false true = true from rfl, cond_true, decide_eq_false (fun e => c_Cols (by rw [e]))]
  rw [decide_eq_true c_Cols, show bo3 true false true = false from rfl, cond_false]
  rw [decide_eq_true (by cases a; cases b; simp_all)]
theorem laws_eqRow_eq (a b : Row) (ha : Row_b a) (hb : Row_b b) : laws_eqRow.f a b = some (decide (a = b)) := by
  have ha_Cells := ha
  have hb_Cells := hb
  unfold laws_eqRow.f
  by_cases c_Id : a.Id = b.Id
  case neg => rw [decide_eq_true c_Id, cond_true, decide_eq_false (fun e => c_Id (by rw [e]))]
  rw [decide_eq_false (fun e => e c_Id), cond_false]
  rw [laws_eqIntS_eq _ _ ha_Cells hb_Cells, Option.bind_some]
  by_cases c_Cells : a.Cells = b.Cells
  case neg => rw [decide_eq_false c_Cells, show bo3 false false true = true from rfl, cond_true, decide_eq_false (fun e => c_Cells (by rw [e]))]
  rw [decide_eq_true c_Cells, show bo3 true false true = false from rfl, cond_false]
  rw [decide_eq_true (by cases a; cases b; simp_all)]
theorem laws_eqRowS_eq (a b : List Row) (ha : RowS_b a) (hb : RowS_b b) : laws_eqRowS.f a b = some (decide (a = b)) := by
  obtain ⟨ha, ha2⟩ := ha
  obtain ⟨hb, hb2⟩ := hb
  unfold laws_eqRowS.f
  by_cases hl : a.length = b.length
  · rw [decide_eq_false (by simp only [lenI_eq]; omega), cond_false]
    refine (loop_eq (f := laws_eqRowS.l0 a b) hl (some false) (some true) (fun k i x y hx hy => ?_) (fun k i hi => ?_) _ (by simp only [lenI_eq]; omega)).trans ?_
    · have hi := at_lt hx
      rw [laws_eqRowS.l0, lenI_eq, decide_eq_true (by omega), cond_true, getO_nat, hx, Option.bind_some, getO_nat, hy, Option.bind_some, laws_eqRow_eq x y (ha2 x (List.mem_of_getElem? hx)) (hb2 y (List.mem_of_getElem? hy)), Option.bind_some, bo3_not, w64_succ (by omega)]
      by_cases c : x = y
      · simp [c]
      · simp [c]
    · rw [laws_eqRowS.l0, lenI_eq, decide_eq_false (by omega), cond_false]
    · cases decide (a = b) <;> rfl
  · rw [decide_eq_true (by simp only [lenI_eq]; omega), cond_true, decide_eq_false (fun e => hl (by rw [e]))]
theorem laws_eqRowSS_eq (a b : List (List Row)) (ha : RowSS_b a) (hb : RowSS_b b) : laws_eqRowSS.f a b = some (decide (a = b)) := by
  obtain ⟨ha, ha2⟩ := ha
  obtain ⟨hb, hb2⟩ := hb
  unfold laws_eqRowSS.f
  by_cases hl : a.length = b.length
  · rw [decide_eq_false (by simp only [lenI_eq]; omega), cond_false]
    refine (loop_eq (f := laws_eqRowSS.l0 a b) hl (some false) (some true) (fun k i x y hx hy => ?_) (fun k i hi => ?_) _ (by simp only [lenI_eq]; omega)).trans ?_
    · have hi := at_lt hx
      rw [laws_eqRowSS.l0, lenI_eq, decide_eq_true (by omega), cond_true, getO_nat, hx, Option.bind_some, getO_nat, hy, Option.bind_some, laws_eqRowS_eq x y (ha2 x (List.mem_of_getElem? hx)) (hb2 y (List.mem_of_getElem? hy)), Option.bind_some, bo3_not, w64_succ (by omega)]
      by_cases c : x = y
      · simp [c]
      · simp [c]
    · rw [laws_eqRowSS.l0, lenI_eq, decide_eq_false (by omega), cond_false]
    · cases decide (a = b) <;> rfl
  · rw [decide_eq_true (by simp only [lenI_eq]; omega), cond_true, decide_eq_false (fun e => hl (by rw [e]))]
theorem laws_eqStore_eq (a b : Store) (ha : Store_b a) (hb : Store_b b) : laws_eqStore.f a b = some (decide (a = b)) := by
  obtain ⟨ha_Schema, ha_Tables⟩ := ha
  obtain ⟨hb_Schema, hb_Tables⟩ := hb
  unfold laws_eqStore.f
  rw [laws_eqSchema_eq _ _ ha_Schema hb_Schema, Option.bind_some]
  by_cases c_Schema : a.Schema = b.Schema
  case neg => rw [decide_eq_false c_Schema, show bo3 false false true = true from rfl, cond_true, decide_eq_false (fun e => c_Schema (by rw [e]))]
  rw [decide_eq_true c_Schema, show bo3 true false true = false from rfl, cond_false]
  by_cases c_Version : a.Version = b.Version
  case neg => rw [decide_eq_true c_Version, cond_true, decide_eq_false (fun e => c_Version (by rw [e]))]
  rw [decide_eq_false (fun e => e c_Version), cond_false]
  rw [laws_eqRowSS_eq _ _ ha_Tables hb_Tables, Option.bind_some]
  by_cases c_Tables : a.Tables = b.Tables
  case neg => rw [decide_eq_false c_Tables, show bo3 false false true = true from rfl, cond_true, decide_eq_false (fun e => c_Tables (by rw [e]))]
  rw [decide_eq_true c_Tables, show bo3 true false true = false from rfl, cond_false]
  rw [decide_eq_true (by cases a; cases b; simp_all)]
theorem spec_l7Schema_eq (s : Schema) (h : sz_Schema s ≤ 1099511627776) : spec_l7Schema.f s = some s := by
  have : (s.Cols.length : Int) ≤ 1099511627776 := by unfold sz_Schema sz_IntS at h; exact h
  unfold spec_l7Schema.f
  rw [appO_ok (by simp only [List.length_nil]; omega), Option.bind_some, List.nil_append]

theorem row_len {r : Row} {B : Int} (h : sz_Row r ≤ B) : (r.Cells.length : Int) ≤ B := by unfold sz_Row sz_IntS at h; exact h

theorem spec_l6Copy_eq (r : Row) (h : sz_Row r ≤ 1099511627776) : spec_l6Copy.f r = some r := by
  have := row_len h
  unfold spec_l6Copy.f
  rw [appO_ok (by simp only [List.length_nil]; omega), Option.bind_some, List.nil_append]

theorem spec_l6Rows_eq (l : List Row) (h : sz_RowS l ≤ 1099511627776) : spec_l6Rows.f l = some l := by
  unfold sz_RowS at h
  have p := sum_nonneg sz_Row_0 l
  unfold spec_l6Rows.f
  refine loop_copy (f := spec_l6Rows.l0 l) (l := l) some (fun k i x hx => ?_) (fun k s i hi => ?_) _ 0 (by omega) (by (try simp only [lenI_eq]); omega)
  · have hi := at_lt hx
    have hm := sum_mem sz_Row_0 (List.mem_of_getElem? hx)
    rw [spec_l6Rows.l0, lenI_eq, decide_eq_true (by omega), cond_true, getO_nat, hx, Option.bind_some, spec_l6Copy_eq x (by omega), Option.bind_some, Option.bind_some, appO_ok (by simp only [List.length_take, List.length_cons, List.length_nil]; omega), Option.bind_some, w64_succ (by omega)]
  · rw [spec_l6Rows.l0, lenI_eq, decide_eq_false (by omega), cond_false]

theorem spec_l7Copy_eq (s : Store) (h : sz_Store s ≤ 1099511627776) : spec_l7Copy.f s = some s := by
  unfold sz_Store sz_RowSS at h
  have p1 := sz_Schema_0 s.Schema
  have p2 := sum_nonneg sz_RowS_0 s.Tables
  unfold spec_l7Copy.f
  rw [spec_l7Schema_eq _ (by omega), Option.bind_some]
  refine loop_copy (f := spec_l7Copy.l0 s s.Schema) (l := s.Tables) (fun t => some ⟨s.Schema, s.Version, t⟩) (fun k i x hx => ?_) (fun k t i hi => ?_) _ 0 (by omega) (by (try simp only [lenI_eq]); omega)
  · have hi := at_lt hx
    have hm := sum_mem sz_RowS_0 (List.mem_of_getElem? hx)
    rw [spec_l7Copy.l0, lenI_eq, decide_eq_true (by omega), cond_true, getO_nat, hx, Option.bind_some, spec_l6Rows_eq x (by omega), Option.bind_some, Option.bind_some, appO_ok (by simp only [List.length_take, List.length_cons, List.length_nil]; omega), Option.bind_some, w64_succ (by omega)]
  · rw [spec_l7Copy.l0, lenI_eq, decide_eq_false (by omega), cond_false]

theorem spec_l1In_eq (x y z : Int) : spec_l1In.f x y z = some (decide (y ≤ x ∧ x ≤ z)) := by
  unfold spec_l1In.f
  rw [bo3_and, Bool.decide_and]

def schemaB (s : Schema) : Bool := s.Cols.all (fun n => decide (1 ≤ n ∧ n ≤ 4)) && decide (1 ≤ (s.Cols.length : Int) ∧ (s.Cols.length : Int) ≤ 3)

theorem spec_SchemaOk_eq (s : Schema) (h : Schema_b s) : spec_SchemaOk.f s = some (schemaB s) := by
  have hl : s.Cols.length ≤ 9223372036854775807 := h
  unfold spec_SchemaOk.f joinK
  refine (loop_all (f := spec_SchemaOk.l0 s _) (l := s.Cols) (fun _ n => decide (1 ≤ n ∧ n ≤ 4)) (some false) (some (decide (1 ≤ (s.Cols.length : Int) ∧ (s.Cols.length : Int) ≤ 3))) (fun k i x hx => ?_) (fun k i hi => ?_) _ 0 (by omega) (by (try simp only [lenI_eq]); omega)).trans ?_
  · have hi := at_lt hx
    rw [spec_SchemaOk.l0, lenI_eq, decide_eq_true (by omega), cond_true, getO_nat, hx, Option.bind_some, spec_l1In_eq, Option.bind_some, bo3_not, w64_succ (by omega)]
    cases decide (1 ≤ x ∧ x ≤ 4) <;> rfl
  · rw [spec_SchemaOk.l0, lenI_eq, decide_eq_false (by omega), cond_false, spec_l1In_eq, Option.bind_some]
  · rw [allFrom_zero, schemaB]
    cases s.Cols.all fun n => decide (1 ≤ n ∧ n ≤ 4) <;> rfl

def rowB (s : Schema) (t : Int) (r : Row) : Bool :=
  schemaB s && decide (0 ≤ t ∧ t ≤ (s.Cols.length : Int) - 1) && decide (1 ≤ r.Id ∧ r.Id ≤ 999) && decide ((r.Cells.length : Int) = s.Cols.getD t.toNat 0) && r.Cells.all fun n => decide (-1000000000 ≤ n ∧ n ≤ 1000000000)
def rowsB (s : Schema) (t : Int) (rows : List Row) : Bool :=
  allFrom (fun i r => rowB s t r && !(decide (0 < i) && decide (r.Id ≤ (rows.getD (i - 1) default).Id))) rows 0 && (schemaB s && decide (0 ≤ t ∧ t ≤ (s.Cols.length : Int) - 1) && decide (rows.length ≤ 24))
theorem schema_len {s : Schema} (h : schemaB s = true) : s.Cols.length ≤ 3 := by
  unfold schemaB at h
  rw [Bool.and_eq_true] at h
  have := of_decide_eq_true h.2
  omega
theorem rows_row {s : Schema} {t : Int} {rows : List Row} (h : rowsB s t rows = true) {i : Nat} {r : Row} (hr : rows[i]? = some r) : rowB s t r = true := by
  unfold rowsB at h
  rw [Bool.and_eq_true] at h
  have := allFrom_iff.1 h.1 i r hr
  rw [Bool.and_eq_true] at this
  exact this.1
theorem rows_len {s : Schema} {t : Int} {rows : List Row} (h : rowsB s t rows = true) : rows.length ≤ 24 := by
  unfold rowsB at h
  simp only [Bool.and_eq_true, decide_eq_true_eq] at h
  exact h.2.2
theorem row_cells {s : Schema} {t : Int} {r : Row} (h : rowB s t r = true) : (r.Cells.length : Int) = s.Cols.getD t.toNat 0 := by
  unfold rowB at h
  simp only [Bool.and_eq_true, decide_eq_true_eq] at h
  exact h.1.2

theorem spec_RowOk_eq (s : Schema) (t : Int) (r : Row) (hs : Schema_b s) (hr : Row_b r) : spec_RowOk.f s t r = some (rowB s t r) := by
  have hl : s.Cols.length ≤ 9223372036854775807 := hs
  have hrl : r.Cells.length ≤ 9223372036854775807 := hr
  unfold spec_RowOk.f rowB
  rw [spec_SchemaOk_eq _ hs, Option.bind_some, lenI_eq, w64_id (by omega), spec_l1In_eq, spec_l1In_eq]
  cases schemaB s with
  | false => rfl
  | true =>
    by_cases d : 0 ≤ t ∧ t ≤ (s.Cols.length : Int) - 1
    case neg => rw [decide_eq_false d]; rfl
    rw [decide_eq_true d, getO_Int d]
    by_cases d2 : 1 ≤ r.Id ∧ r.Id ≤ 999
    case neg => rw [decide_eq_false d2]; rfl
    rw [decide_eq_true d2]
    simp only [bo3_F, bo3_T, gd_true, Option.bind_some, Bool.true_and]
    by_cases d3 : (r.Cells.length : Int) = s.Cols.getD t.toNat 0
    case neg => rw [show decide (lenI r.Cells ≠ s.Cols.getD t.toNat 0) = true from decide_eq_true d3, decide_eq_false d3]; rfl
    rw [show decide (lenI r.Cells ≠ s.Cols.getD t.toNat 0) = false from decide_eq_false (fun h => h d3), decide_eq_true d3, cond_false, Bool.true_and]
    refine (loop_all (f := spec_RowOk.l0 r) (l := r.Cells) (fun _ n => decide (-1000000000 ≤ n ∧ n ≤ 1000000000)) (some false) (some true) (fun k i x hx => ?_) (fun k i hi => ?_) _ 0 (by omega) (by (try simp only [lenI_eq]); omega)).trans ?_
    · have hi := at_lt hx
      rw [spec_RowOk.l0, lenI_eq, decide_eq_true (by omega), cond_true, getO_nat, hx, Option.bind_some, spec_l1In_eq, Option.bind_some, bo3_not, w64_succ (by omega)]
      cases decide (-1000000000 ≤ x ∧ x ≤ 1000000000) <;> rfl
    · rw [spec_RowOk.l0, lenI_eq, decide_eq_false (by omega), cond_false]
    · rw [allFrom_zero]
      cases r.Cells.all fun n => decide (-1000000000 ≤ n ∧ n ≤ 1000000000) <;> rfl

theorem spec_RowsOk_eq (s : Schema) (t : Int) (rows : List Row) (hs : Schema_b s) (hr : RowS_b rows) : spec_RowsOk.f s t rows = some (rowsB s t rows) := by
  have hl : s.Cols.length ≤ 9223372036854775807 := hs
  obtain ⟨hrl, hr2⟩ := hr
  unfold spec_RowsOk.f rowsB
  simp only [joinK]
  refine (loop_all (f := spec_RowsOk.l0 s t rows _) (l := rows) (fun i r => rowB s t r && !(decide (0 < i) && decide (r.Id ≤ (rows.getD (i - 1) default).Id))) (some false) (some (schemaB s && decide (0 ≤ t ∧ t ≤ (s.Cols.length : Int) - 1) && decide (rows.length ≤ 24))) (fun k i x hx => ?_) (fun k i hi => ?_) _ 0 (by omega) (by (try simp only [lenI_eq]); omega)).trans ?_
  · have hi := at_lt hx
    rw [spec_RowsOk.l0, lenI_eq, decide_eq_true (by omega), cond_true, getO_nat, hx, Option.bind_some, spec_RowOk_eq _ _ _ hs (hr2 x (List.mem_of_getElem? hx)), Option.bind_some, prev_step hx (by omega), Option.bind_some, w64_succ (by omega)]
    rw [show decide (0 < (i : Int)) = decide (0 < i) from by simp]
    cases rowB s t x <;> cases decide (0 < i) <;> (try rfl)
    simp only [bo3_F, bo3_T, Bool.true_and, cond_true]
    by_cases e : x.Id ≤ (rows.getD (i - 1) default).Id
    · simp [e]
    · simp [e]
  · rw [spec_RowsOk.l0, lenI_eq, decide_eq_false (by omega), cond_false, spec_SchemaOk_eq _ hs, Option.bind_some]
    first | rw [impl_hasTable_eq _ _ hs] | rw [lenI_eq s.Cols, w64_id (by omega), spec_l1In_eq]
    have e24 : decide ((rows.length : Int) ≤ 24) = decide (rows.length ≤ 24) := by rw [decide_eq_decide]; omega
    simp only [lenI_eq, e24]
    generalize decide (0 ≤ t ∧ t ≤ (s.Cols.length : Int) - 1) = b1
    generalize decide (rows.length ≤ 24) = b2
    cases schemaB s <;> cases b1 <;> cases b2 <;> rfl
  · cases allFrom (fun i r => rowB s t r && !(decide (0 < i) && decide (r.Id ≤ (rows.getD (i - 1) default).Id))) rows 0 <;> rfl

def storeB (s : Store) : Bool :=
  schemaB s.Schema && decide (0 ≤ s.Version ∧ s.Version ≤ 100000) && decide (s.Tables.length = s.Schema.Cols.length) && allFrom (fun i rows => rowsB s.Schema (i : Int) rows) s.Tables 0
theorem store_table {s : Store} (h : storeB s = true) {i : Nat} {rows : List Row} (hr : s.Tables[i]? = some rows) : rowsB s.Schema i rows = true := by
  unfold storeB at h
  rw [Bool.and_eq_true] at h
  exact allFrom_iff.1 h.2 i rows hr
theorem store_len {s : Store} (h : storeB s = true) : s.Tables.length = s.Schema.Cols.length ∧ schemaB s.Schema = true := by
  unfold storeB at h
  simp only [Bool.and_eq_true, decide_eq_true_eq] at h
  exact ⟨h.1.2, h.1.1.1⟩

theorem spec_version (v : Int) : spec_l1In.f v 0 100000 = some (decide (0 ≤ v ∧ v ≤ 100000)) := spec_l1In_eq _ _ _

theorem spec_StoreOk_eq (s : Store) (hb : Store_b s) : spec_StoreOk.f s = some (storeB s) := by
  obtain ⟨hs, ht, ht2⟩ := hb
  have hl : s.Schema.Cols.length ≤ 9223372036854775807 := hs
  unfold spec_StoreOk.f storeB
  rw [spec_SchemaOk_eq _ hs, Option.bind_some, spec_version]
  cases schemaB s.Schema with
  | false => rfl
  | true =>
    by_cases d : 0 ≤ s.Version ∧ s.Version ≤ 100000
    case neg => rw [decide_eq_false d]; rfl
    rw [decide_eq_true d]
    by_cases d2 : s.Tables.length = s.Schema.Cols.length
    case neg =>
      rw [show decide (lenI s.Tables ≠ lenI s.Schema.Cols) = true from decide_eq_true (by simp only [lenI_eq]; omega), decide_eq_false d2]
      rfl
    rw [show decide (lenI s.Tables ≠ lenI s.Schema.Cols) = false from decide_eq_false (by simp only [lenI_eq]; omega), decide_eq_true d2]
    simp only [bo3_F, bo3_T, gd_true, Option.bind_some, Bool.true_and, cond_false]
    refine (loop_all (f := spec_StoreOk.l0 s) (l := s.Tables) (fun i rows => rowsB s.Schema (i : Int) rows) (some false) (some true) (fun k i x hx => ?_) (fun k i hi => ?_) _ 0 (by omega) (by (try simp only [lenI_eq]); omega)).trans ?_
    · have hi := at_lt hx
      rw [spec_StoreOk.l0, lenI_eq, decide_eq_true (by omega), cond_true, getO_nat, hx, Option.bind_some, spec_RowsOk_eq _ _ _ hs (ht2 x (List.mem_of_getElem? hx)), Option.bind_some, bo3_not, w64_succ (by omega)]
      cases rowsB s.Schema i x <;> rfl
    · rw [spec_StoreOk.l0, lenI_eq, decide_eq_false (by omega), cond_false]
    · cases allFrom (fun i rows => rowsB s.Schema (i : Int) rows) s.Tables 0 <;> rfl

def sz_Change (x : Change) : Int := sz_Row x.Old + sz_Row x.New
def Change_b (x : Change) : Prop := Row_b x.Old ∧ Row_b x.New
theorem sz_Change_0 (x : Change) : 0 ≤ sz_Change x := by unfold sz_Change; exact by have := sz_Row_0 x.Old; have := sz_Row_0 x.New;  omega
def Change_r (x : Change) : Prop := (-9223372036854775808 ≤ x.Table ∧ x.Table ≤ 9223372036854775807) ∧ Row_r x.Old ∧ Row_r x.New
def sz_ChangeS (l : List Change) : Int := l.length + (l.map sz_Change).sum
def ChangeS_b (l : List Change) : Prop := l.length ≤ 9223372036854775807 ∧ ∀ x ∈ l, Change_b x
theorem sz_ChangeS_0 (l : List Change) : 0 ≤ sz_ChangeS l := by have := sum_nonneg sz_Change_0 l; unfold sz_ChangeS; omega
def ChangeS_r (l : List Change) : Prop := ∀ x ∈ l, Change_r x
def sz_ChangeSS (l : List (List Change)) : Int := l.length + (l.map sz_ChangeS).sum
def ChangeSS_b (l : List (List Change)) : Prop := l.length ≤ 9223372036854775807 ∧ ∀ x ∈ l, ChangeS_b x
theorem sz_ChangeSS_0 (l : List (List Change)) : 0 ≤ sz_ChangeSS l := by have := sum_nonneg sz_ChangeS_0 l; unfold sz_ChangeSS; omega
def ChangeSS_r (l : List (List Change)) : Prop := ∀ x ∈ l, ChangeS_r x
def sz_Record (x : Record) : Int := sz_Store x.First + sz_ChangeSS x.Steps
def Record_b (x : Record) : Prop := Store_b x.First ∧ ChangeSS_b x.Steps
theorem sz_Record_0 (x : Record) : 0 ≤ sz_Record x := by unfold sz_Record; exact by have := sz_Store_0 x.First; have := sz_ChangeSS_0 x.Steps;  omega
def Record_r (x : Record) : Prop := Store_r x.First ∧ ChangeSS_r x.Steps
theorem spec_RecordNew_eq (s : Store) (hs : Store_b s) (h : sz_Store s ≤ 1099511627776) : spec_RecordNew.f s = some (if storeB s = true then ⟨s, []⟩ else ⟨⟨⟨[]⟩, 0, []⟩, []⟩) := by
  unfold spec_RecordNew.f
  rw [spec_StoreOk_eq _ hs, Option.bind_some, bo3_not, spec_l7Copy_eq _ h, Option.bind_some]
  cases storeB s <;> rfl

theorem impl_copyInts_eq (l : List Int) (h : (l.length : Int) ≤ 1099511627776) : impl_copyInts.f l = some l := by
  unfold impl_copyInts.f
  rw [appO_ok (by simp only [List.length_nil]; omega), Option.bind_some, List.nil_append]

theorem impl_copyRow_eq (r : Row) (h : sz_Row r ≤ 1099511627776) : impl_copyRow.f r = some r := by
  unfold impl_copyRow.f
  rw [impl_copyInts_eq _ (row_len h), Option.bind_some]

theorem impl_copyRows_eq (l : List Row) (h : sz_RowS l ≤ 1099511627776) : impl_copyRows.f l = some l := by
  unfold sz_RowS at h
  have p := sum_nonneg sz_Row_0 l
  unfold impl_copyRows.f
  refine loop_copy (f := impl_copyRows.l0 l) (l := l) some (fun k i x hx => ?_) (fun k s i hi => ?_) _ 0 (by omega) (by (try simp only [lenI_eq]); omega)
  · have hi := at_lt hx
    have hm := sum_mem sz_Row_0 (List.mem_of_getElem? hx)
    rw [impl_copyRows.l0, lenI_eq, decide_eq_true (by omega), cond_true, getO_nat, hx, Option.bind_some, impl_copyRow_eq x (by omega), Option.bind_some, Option.bind_some, appO_ok (by simp only [List.length_take, List.length_cons, List.length_nil]; omega), Option.bind_some, w64_succ (by omega)]
  · rw [impl_copyRows.l0, lenI_eq, decide_eq_false (by omega), cond_false]

theorem impl_copyStore_eq (s : Store) (h : sz_Store s ≤ 1099511627776) : impl_copyStore.f s = some s := by
  unfold sz_Store sz_RowSS at h
  have p1 := sz_Schema_0 s.Schema
  have p2 := sum_nonneg sz_RowS_0 s.Tables
  unfold impl_copyStore.f
  rw [impl_copyInts_eq _ (by unfold sz_Schema sz_IntS at p1 h; omega), Option.bind_some]
  refine loop_copy (f := impl_copyStore.l0 s s.Schema.Cols) (l := s.Tables) (fun t => some ⟨s.Schema, s.Version, t⟩) (fun k i x hx => ?_) (fun k t i hi => ?_) _ 0 (by omega) (by (try simp only [lenI_eq]); omega)
  · have hi := at_lt hx
    have hm := sum_mem sz_RowS_0 (List.mem_of_getElem? hx)
    rw [impl_copyStore.l0, lenI_eq, decide_eq_true (by omega), cond_true, getO_nat, hx, Option.bind_some, impl_copyRows_eq x (by omega), Option.bind_some, Option.bind_some, appO_ok (by simp only [List.length_take, List.length_cons, List.length_nil]; omega), Option.bind_some, w64_succ (by omega)]
  · rw [impl_copyStore.l0, lenI_eq, decide_eq_false (by omega), cond_false]

theorem impl_within_eq (x y z : Int) : impl_within.f x y z = some (decide (y ≤ x ∧ x ≤ z)) := by
  unfold impl_within.f
  rw [bo3_and, Bool.decide_and]

theorem impl_SchemaOk_eq (s : Schema) (h : Schema_b s) : impl_SchemaOk.f s = some (schemaB s) := by
  have hl : s.Cols.length ≤ 9223372036854775807 := h
  unfold impl_SchemaOk.f joinK
  refine (loop_all (f := impl_SchemaOk.l0 s _) (l := s.Cols) (fun _ n => decide (1 ≤ n ∧ n ≤ 4)) (some false) (some (decide (1 ≤ (s.Cols.length : Int) ∧ (s.Cols.length : Int) ≤ 3))) (fun k i x hx => ?_) (fun k i hi => ?_) _ 0 (by omega) (by (try simp only [lenI_eq]); omega)).trans ?_
  · have hi := at_lt hx
    rw [impl_SchemaOk.l0, lenI_eq, decide_eq_true (by omega), cond_true, getO_nat, hx, Option.bind_some, impl_within_eq, Option.bind_some, bo3_not, w64_succ (by omega)]
    cases decide (1 ≤ x ∧ x ≤ 4) <;> rfl
  · rw [impl_SchemaOk.l0, lenI_eq, decide_eq_false (by omega), cond_false, impl_within_eq, Option.bind_some]
  · rw [allFrom_zero, schemaB]
    cases s.Cols.all fun n => decide (1 ≤ n ∧ n ≤ 4) <;> rfl

theorem impl_isVersion_eq (v : Int) : impl_isVersion.f v = some (decide (0 ≤ v ∧ v ≤ 100000)) := by
  unfold impl_isVersion.f
  rw [impl_within_eq, Option.bind_some]

theorem impl_hasTable_eq (s : Schema) (t : Int) (h : Schema_b s) : impl_hasTable.f s t = some (decide (0 ≤ t ∧ t ≤ (s.Cols.length : Int) - 1)) := by
  have hl : s.Cols.length ≤ 9223372036854775807 := h
  unfold impl_hasTable.f
  rw [lenI_eq, w64_id (by omega), impl_within_eq, Option.bind_some]

theorem impl_isNum_eq (n : Int) : impl_isNum.f n = some (decide (-1000000000 ≤ n ∧ n ≤ 1000000000)) := by
  unfold impl_isNum.f
  rw [impl_within_eq, Option.bind_some]

theorem impl_RowOk_eq (s : Schema) (t : Int) (r : Row) (hs : Schema_b s) (hr : Row_b r) : impl_RowOk.f s t r = some (rowB s t r) := by
  have hrl : r.Cells.length ≤ 9223372036854775807 := hr
  unfold impl_RowOk.f rowB
  simp only [joinK]
  refine (loop_all (f := impl_RowOk.l0 r _) (l := r.Cells) (fun _ n => decide (-1000000000 ≤ n ∧ n ≤ 1000000000)) (some false) (some (schemaB s && decide (0 ≤ t ∧ t ≤ (s.Cols.length : Int) - 1) && decide (1 ≤ r.Id ∧ r.Id ≤ 999) && decide ((r.Cells.length : Int) = s.Cols.getD t.toNat 0))) (fun k i x hx => ?_) (fun k i hi => ?_) _ 0 (by omega) (by (try simp only [lenI_eq]); omega)).trans ?_
  · have hi := at_lt hx
    rw [impl_RowOk.l0, lenI_eq, decide_eq_true (by omega), cond_true, getO_nat, hx, Option.bind_some, impl_isNum_eq, Option.bind_some, bo3_not, w64_succ (by omega)]
    cases decide (-1000000000 ≤ x ∧ x ≤ 1000000000) <;> rfl
  · rw [impl_RowOk.l0, lenI_eq, decide_eq_false (by omega), cond_false, impl_SchemaOk_eq _ hs, Option.bind_some, impl_hasTable_eq _ _ hs, impl_within_eq]
    cases schemaB s with
    | false => rfl
    | true =>
      by_cases d : 0 ≤ t ∧ t ≤ (s.Cols.length : Int) - 1
      case neg => rw [decide_eq_false d]; rfl
      rw [decide_eq_true d, getO_Int d]
      simp only [bo3_F, bo3_T, gd_true, Option.bind_some, Bool.true_and, gd_of, cond_true]
      by_cases d3 : (r.Cells.length : Int) = s.Cols.getD t.toNat 0
      · simp [d3, bo3]
      · simp [d3, bo3]; exact Bool.and_comm _ _
  · rw [allFrom_zero]
    cases r.Cells.all fun n => decide (-1000000000 ≤ n ∧ n ≤ 1000000000) <;> simp

theorem impl_RowsOk_eq (s : Schema) (t : Int) (rows : List Row) (hs : Schema_b s) (hr : RowS_b rows) : impl_RowsOk.f s t rows = some (rowsB s t rows) := by
  have hl : s.Cols.length ≤ 9223372036854775807 := hs
  obtain ⟨hrl, hr2⟩ := hr
  unfold impl_RowsOk.f rowsB
  simp only [joinK]
  refine (loop_all (f := impl_RowsOk.l0 s t rows _) (l := rows) (fun i r => rowB s t r && !(decide (0 < i) && decide (r.Id ≤ (rows.getD (i - 1) default).Id))) (some false) (some (schemaB s && decide (0 ≤ t ∧ t ≤ (s.Cols.length : Int) - 1) && decide (rows.length ≤ 24))) (fun k i x hx => ?_) (fun k i hi => ?_) _ 0 (by omega) (by (try simp only [lenI_eq]); omega)).trans ?_
  · have hi := at_lt hx
    rw [impl_RowsOk.l0, lenI_eq, decide_eq_true (by omega), cond_true, getO_nat, hx, Option.bind_some, impl_RowOk_eq _ _ _ hs (hr2 x (List.mem_of_getElem? hx)), Option.bind_some, prev_step hx (by omega), Option.bind_some, w64_succ (by omega)]
    rw [show decide (0 < (i : Int)) = decide (0 < i) from by simp]
    cases rowB s t x <;> cases decide (0 < i) <;> (try rfl)
    simp only [bo3_F, bo3_T, Bool.true_and, cond_true]
    by_cases e : x.Id ≤ (rows.getD (i - 1) default).Id
    · simp [e]
    · simp [e]
  · rw [impl_RowsOk.l0, lenI_eq, decide_eq_false (by omega), cond_false, impl_SchemaOk_eq _ hs, Option.bind_some]
    first | rw [impl_hasTable_eq _ _ hs] | rw [lenI_eq s.Cols, w64_id (by omega), spec_l1In_eq]
    have e24 : decide ((rows.length : Int) ≤ 24) = decide (rows.length ≤ 24) := by rw [decide_eq_decide]; omega
    simp only [lenI_eq, e24]
    generalize decide (0 ≤ t ∧ t ≤ (s.Cols.length : Int) - 1) = b1
    generalize decide (rows.length ≤ 24) = b2
    cases schemaB s <;> cases b1 <;> cases b2 <;> rfl
  · cases allFrom (fun i r => rowB s t r && !(decide (0 < i) && decide (r.Id ≤ (rows.getD (i - 1) default).Id))) rows 0 <;> rfl

theorem impl_version (v : Int) : impl_isVersion.f v = some (decide (0 ≤ v ∧ v ≤ 100000)) := impl_isVersion_eq v

theorem impl_StoreOk_eq (s : Store) (hb : Store_b s) : impl_StoreOk.f s = some (storeB s) := by
  obtain ⟨hs, ht, ht2⟩ := hb
  have hl : s.Schema.Cols.length ≤ 9223372036854775807 := hs
  unfold impl_StoreOk.f storeB
  rw [impl_SchemaOk_eq _ hs, Option.bind_some, impl_version]
  cases schemaB s.Schema with
  | false => rfl
  | true =>
    by_cases d : 0 ≤ s.Version ∧ s.Version ≤ 100000
    case neg => rw [decide_eq_false d]; rfl
    rw [decide_eq_true d]
    by_cases d2 : s.Tables.length = s.Schema.Cols.length
    case neg =>
      rw [show decide (lenI s.Tables ≠ lenI s.Schema.Cols) = true from decide_eq_true (by simp only [lenI_eq]; omega), decide_eq_false d2]
      rfl
    rw [show decide (lenI s.Tables ≠ lenI s.Schema.Cols) = false from decide_eq_false (by simp only [lenI_eq]; omega), decide_eq_true d2]
    simp only [bo3_F, bo3_T, gd_true, Option.bind_some, Bool.true_and, cond_false]
    refine (loop_all (f := impl_StoreOk.l0 s) (l := s.Tables) (fun i rows => rowsB s.Schema (i : Int) rows) (some false) (some true) (fun k i x hx => ?_) (fun k i hi => ?_) _ 0 (by omega) (by (try simp only [lenI_eq]); omega)).trans ?_
    · have hi := at_lt hx
      rw [impl_StoreOk.l0, lenI_eq, decide_eq_true (by omega), cond_true, getO_nat, hx, Option.bind_some, impl_RowsOk_eq _ _ _ hs (ht2 x (List.mem_of_getElem? hx)), Option.bind_some, bo3_not, w64_succ (by omega)]
      cases rowsB s.Schema i x <;> rfl
    · rw [impl_StoreOk.l0, lenI_eq, decide_eq_false (by omega), cond_false]
    · cases allFrom (fun i rows => rowsB s.Schema (i : Int) rows) s.Tables 0 <;> rfl

theorem impl_asWas_eq (s : Store) (hs : Store_b s) (h : sz_Store s ≤ 1099511627776) : impl_asWas.f s = some (if storeB s = true then s else ⟨⟨[]⟩, 0, []⟩) := by
  unfold impl_asWas.f
  rw [impl_StoreOk_eq _ hs, Option.bind_some, bo3_not, impl_copyStore_eq _ h, Option.bind_some]
  cases storeB s <;> rfl

theorem impl_RecordNew_eq (s : Store) (hs : Store_b s) (h : sz_Store s ≤ 1099511627776) : impl_RecordNew.f s = some (if storeB s = true then ⟨s, []⟩ else ⟨⟨⟨[]⟩, 0, []⟩, []⟩) := by
  unfold impl_RecordNew.f
  rw [impl_asWas_eq _ hs h, Option.bind_some]
  cases storeB s <;> rfl

theorem laws_eqChange_eq (a b : Change) (ha : Change_b a) (hb : Change_b b) : laws_eqChange.f a b = some (decide (a = b)) := by
  obtain ⟨ha_Old, ha_New⟩ := ha
  obtain ⟨hb_Old, hb_New⟩ := hb
  unfold laws_eqChange.f
  by_cases c_Table : a.Table = b.Table
  case neg => rw [decide_eq_true c_Table, cond_true, decide_eq_false (fun e => c_Table (by rw [e]))]
  rw [decide_eq_false (fun e => e c_Table), cond_false]
  by_cases c_Had : a.Had = b.Had
  case neg => rw [show bo3 a.Had (bo3 b.Had false true) b.Had = true from by revert c_Had; cases a.Had <;> cases b.Had <;> simp [bo3], cond_true, decide_eq_false (fun e => c_Had (by rw [e]))]
  rw [show bo3 a.Had (bo3 b.Had false true) b.Had = false from by rw [c_Had]; cases b.Had <;> rfl, cond_false]
  by_cases c_Has : a.Has = b.Has
  case neg => rw [show bo3 a.Has (bo3 b.Has false true) b.Has = true from by revert c_Has; cases a.Has <;> cases b.Has <;> simp [bo3], cond_true, decide_eq_false (fun e => c_Has (by rw [e]))]
  rw [show bo3 a.Has (bo3 b.Has false true) b.Has = false from by rw [c_Has]; cases b.Has <;> rfl, cond_false]
  rw [laws_eqRow_eq _ _ ha_Old hb_Old, Option.bind_some]
  by_cases c_Old : a.Old = b.Old
  case neg => rw [decide_eq_false c_Old, show bo3 false false true = true from rfl, cond_true, decide_eq_false (fun e => c_Old (by rw [e]))]
  rw [decide_eq_true c_Old, show bo3 true false true = false from rfl, cond_false]
  rw [laws_eqRow_eq _ _ ha_New hb_New, Option.bind_some]
  by_cases c_New : a.New = b.New
  case neg => rw [decide_eq_false c_New, show bo3 false false true = true from rfl, cond_true, decide_eq_false (fun e => c_New (by rw [e]))]
  rw [decide_eq_true c_New, show bo3 true false true = false from rfl, cond_false]
  rw [decide_eq_true (by cases a; cases b; simp_all)]
theorem laws_eqChangeS_eq (a b : List Change) (ha : ChangeS_b a) (hb : ChangeS_b b) : laws_eqChangeS.f a b = some (decide (a = b)) := by
  obtain ⟨ha, ha2⟩ := ha
  obtain ⟨hb, hb2⟩ := hb
  unfold laws_eqChangeS.f
  by_cases hl : a.length = b.length
  · rw [decide_eq_false (by simp only [lenI_eq]; omega), cond_false]
    refine (loop_eq (f := laws_eqChangeS.l0 a b) hl (some false) (some true) (fun k i x y hx hy => ?_) (fun k i hi => ?_) _ (by simp only [lenI_eq]; omega)).trans ?_
    · have hi := at_lt hx
      rw [laws_eqChangeS.l0, lenI_eq, decide_eq_true (by omega), cond_true, getO_nat, hx, Option.bind_some, getO_nat, hy, Option.bind_some, laws_eqChange_eq x y (ha2 x (List.mem_of_getElem? hx)) (hb2 y (List.mem_of_getElem? hy)), Option.bind_some, bo3_not, w64_succ (by omega)]
      by_cases c : x = y
      · simp [c]
      · simp [c]
    · rw [laws_eqChangeS.l0, lenI_eq, decide_eq_false (by omega), cond_false]
    · cases decide (a = b) <;> rfl
  · rw [decide_eq_true (by simp only [lenI_eq]; omega), cond_true, decide_eq_false (fun e => hl (by rw [e]))]
theorem laws_eqChangeSS_eq (a b : List (List Change)) (ha : ChangeSS_b a) (hb : ChangeSS_b b) : laws_eqChangeSS.f a b = some (decide (a = b)) := by
  obtain ⟨ha, ha2⟩ := ha
  obtain ⟨hb, hb2⟩ := hb
  unfold laws_eqChangeSS.f
  by_cases hl : a.length = b.length
  · rw [decide_eq_false (by simp only [lenI_eq]; omega), cond_false]
    refine (loop_eq (f := laws_eqChangeSS.l0 a b) hl (some false) (some true) (fun k i x y hx hy => ?_) (fun k i hi => ?_) _ (by simp only [lenI_eq]; omega)).trans ?_
    · have hi := at_lt hx
      rw [laws_eqChangeSS.l0, lenI_eq, decide_eq_true (by omega), cond_true, getO_nat, hx, Option.bind_some, getO_nat, hy, Option.bind_some, laws_eqChangeS_eq x y (ha2 x (List.mem_of_getElem? hx)) (hb2 y (List.mem_of_getElem? hy)), Option.bind_some, bo3_not, w64_succ (by omega)]
      by_cases c : x = y
      · simp [c]
      · simp [c]
    · rw [laws_eqChangeSS.l0, lenI_eq, decide_eq_false (by omega), cond_false]
    · cases decide (a = b) <;> rfl
  · rw [decide_eq_true (by simp only [lenI_eq]; omega), cond_true, decide_eq_false (fun e => hl (by rw [e]))]
theorem laws_eqRecord_eq (a b : Record) (ha : Record_b a) (hb : Record_b b) : laws_eqRecord.f a b = some (decide (a = b)) := by
  obtain ⟨ha_First, ha_Steps⟩ := ha
  obtain ⟨hb_First, hb_Steps⟩ := hb
  unfold laws_eqRecord.f
  rw [laws_eqStore_eq _ _ ha_First hb_First, Option.bind_some]
  by_cases c_First : a.First = b.First
  case neg => rw [decide_eq_false c_First, show bo3 false false true = true from rfl, cond_true, decide_eq_false (fun e => c_First (by rw [e]))]
  rw [decide_eq_true c_First, show bo3 true false true = false from rfl, cond_false]
  rw [laws_eqChangeSS_eq _ _ ha_Steps hb_Steps, Option.bind_some]
  by_cases c_Steps : a.Steps = b.Steps
  case neg => rw [decide_eq_false c_Steps, show bo3 false false true = true from rfl, cond_true, decide_eq_false (fun e => c_Steps (by rw [e]))]
  rw [decide_eq_true c_Steps, show bo3 true false true = false from rfl, cond_false]
  rw [decide_eq_true (by cases a; cases b; simp_all)]
def Hd_Int (x : Int) (q q' : Int) : Prop := x = q ∧ q' = q + 1
theorem Hd_Int_mono (x : Int) (q q' : Int) (h : Hd_Int x q q') : q ≤ q' := by
  obtain ⟨e0, rfl⟩ := h
  omega
theorem mark_IntS (l : List Int) (q : Int) (hq : 0 ≤ q) (hB : q + 16 * sz_IntS l ≤ 4611686018427387904) : ∃ l' q', laws_markIntS.f l q = some (l', q') ∧ laws_heldIntS.f l' q = some q' ∧ q ≤ q' ∧ q' ≤ q + 16 * sz_IntS l := by
  unfold sz_IntS at hB
  have hz : (l.length : Int) ≤ 288230376151711744 := by omega
  have step : ∀ k (i : Nat) (s : List Int) (x : Int) (q : Int), s.length = l.length → s[i]? = some x → 0 ≤ q → q + (fun _ => 16 * (1 + 0)) x ≤ 4611686018427387904 → ∃ x' q', laws_markIntS.l0 (k + 1) s q i = laws_markIntS.l0 k (s.set i x') q' ((i + 1 : Nat) : Int) ∧ q ≤ q' ∧ q' ≤ q + (fun _ => 16 * (1 + 0)) x ∧ Hd_Int x' q q' := by
    intro k i s x q hn hx hq hB
    have hi := at_lt hx
    have g0 : getO s i = some x := by rw [getO_nat, hx]
    have hB : q + 16 * (1 + 0) ≤ 4611686018427387904 := hB
    have w0 : w64 (q + 1) = q + 1 := w64_id (by omega)
    refine ⟨(q), q + 1, ?_, by omega, ?_, ⟨rfl, rfl⟩⟩
    · rw [laws_markIntS.l0, lenI_eq, decide_eq_true (by omega), cond_true]
      simp only [g0, get_set g0, setI_setI, Option.bind_some, w0]
      rw [w64_succ (by omega), setI_nat]
    · show _ ≤ q + 16 * (1 + 0); omega
  have last : ∀ k (s : List Int) (q : Int) (i : Nat), i = s.length → laws_markIntS.l0 (k + 1) s q i = some (s, q) := by
    intro k s q i hi
    rw [laws_markIntS.l0, lenI_eq, decide_eq_false (by omega), cond_false]
  obtain ⟨l', q', m, hl, _, lo, hi, hd⟩ := loop_mark (fm := laws_markIntS.l0) l.length 4611686018427387904 (fun _ => 16 * (1 + 0)) Hd_Int (fun _ => by decide) step last (((lenI l) - 0).toNat + 1) 0 l q rfl (by omega) (by simp only [lenI_eq]; omega) hq (by rw [List.drop_zero, sum_0]; omega)
  refine ⟨l', q', m, ?_, lo, ?_⟩
  · unfold laws_heldIntS.f
    refine loop_held (fh := laws_heldIntS.l0 l') (l := l') Hd_Int Hd_Int_mono (fun k i x q q' hx hd hq hB => ?_) (fun k q i hi => ?_) _ 0 q q' (by omega) (by simp only [lenI_eq]; omega) hq (by rw [List.drop_zero, sum_0] at hi; omega) (by rw [List.drop_zero] at hd; exact hd)
    · have hi := at_lt hx
      obtain ⟨e0, rfl⟩ := hd
      have w0 : w64 (q + 1) = q + 1 := w64_id (by omega)
      rw [laws_heldIntS.l0, lenI_eq, decide_eq_true (by omega), cond_true, getO_nat, hx, Option.bind_some]
      simp only [e0, w0, ne_eq, not_true_eq_false, decide_false, cond_false, Option.bind_some, bo3_self]
      rw [w64_succ (by omega)]
    · rw [laws_heldIntS.l0, lenI_eq, decide_eq_false (by omega), cond_false]
  · rw [List.drop_zero, sum_0] at hi; unfold sz_IntS; omega
def Hd_Change (x : Change) (q q' : Int) : Prop := ∃ q1, x.Table = q ∧ x.Had = decide (Int.tmod (q + 1) 3 = 0) ∧ x.Has = decide (Int.tmod (q + 1 + 1) 3 = 0) ∧ x.Old.Id = q + 1 + 1 + 1 ∧ laws_heldIntS.f x.Old.Cells (q + 1 + 1 + 1 + 1) = some q1 ∧ q + 1 + 1 + 1 + 1 ≤ q1 ∧ x.New.Id = q1 ∧ laws_heldIntS.f x.New.Cells (q1 + 1) = some q' ∧ q1 + 1 ≤ q'
theorem Hd_Change_mono (x : Change) (q q' : Int) (h : Hd_Change x q q') : q ≤ q' := by
  obtain ⟨q1, e0, e1, e2, e3, d4, l4, e5, d6, l6⟩ := h
  omega
theorem mark_ChangeS (l : List Change) (q : Int) (hq : 0 ≤ q) (hB : q + 16 * sz_ChangeS l ≤ 4611686018427387904) : ∃ l' q', laws_markChangeS.f l q = some (l', q') ∧ laws_heldChangeS.f l' q = some q' ∧ q ≤ q' ∧ q' ≤ q + 16 * sz_ChangeS l := by
  unfold sz_ChangeS at hB
  have p0 := sum_nonneg sz_Change_0 l
  have step : ∀ k (i : Nat) (s : List Change) (x : Change) (q : Int), s.length = l.length → s[i]? = some x → 0 ≤ q → q + (fun x => 16 * (1 + sz_Change x)) x ≤ 4611686018427387904 → ∃ x' q', laws_markChangeS.l0 (k + 1) s q i = laws_markChangeS.l0 k (s.set i x') q' ((i + 1 : Nat) : Int) ∧ q ≤ q' ∧ q' ≤ q + (fun x => 16 * (1 + sz_Change x)) x ∧ Hd_Change x' q q' := by
    intro k i s x q hn hx hq hB
    have hi := at_lt hx
    have g0 : getO s i = some x := by rw [getO_nat, hx]
    have hB : q + 16 * (1 + sz_Change x) ≤ 4611686018427387904 := hB
    have hzx : sz_Change x ≤ 288230376151711744 := by omega
    simp only [sz_Change, sz_Row] at hB
    have p_Old_Cells := sz_IntS_0 x.Old.Cells
    have p_New_Cells := sz_IntS_0 x.New.Cells
    obtain ⟨c4, q1, m4, d4, a4, b4⟩ := mark_IntS x.Old.Cells (q + 1 + 1 + 1 + 1) (by omega) (by omega)
    obtain ⟨c6, q2, m6, d6, a6, b6⟩ := mark_IntS x.New.Cells (q1 + 1) (by omega) (by omega)
    have w0 : w64 (q + 1) = q + 1 := w64_id (by omega)
    have w1 : w64 (q + 1 + 1) = q + 1 + 1 := w64_id (by omega)
    have w2 : w64 (q + 1 + 1 + 1) = q + 1 + 1 + 1 := w64_id (by omega)
    have w3 : w64 (q + 1 + 1 + 1 + 1) = q + 1 + 1 + 1 + 1 := w64_id (by omega)
    have w5 : w64 (q1 + 1) = q1 + 1 := w64_id (by omega)
    refine ⟨(Change.mk (q) ((decide (Int.tmod (q + 1) 3 = 0))) ((decide (Int.tmod (q + 1 + 1) 3 = 0))) (Row.mk (q + 1 + 1 + 1) (c4)) (Row.mk (q1) (c6))), q2, ?_, by omega, ?_, ⟨q1, rfl, rfl, rfl, rfl, d4, a4, rfl, d6, a6⟩⟩
    · rw [laws_markChangeS.l0, lenI_eq, decide_eq_true (by omega), cond_true]
      simp only [g0, get_set g0, setI_setI, Option.bind_some, m4, m6, w0, w1, w2, w3, w5]
      rw [w64_succ (by omega), setI_nat]
    · show _ ≤ q + 16 * (1 + sz_Change x); simp only [sz_Change, sz_Row]; omega
  have last : ∀ k (s : List Change) (q : Int) (i : Nat), i = s.length → laws_markChangeS.l0 (k + 1) s q i = some (s, q) := by
    intro k s q i hi
    rw [laws_markChangeS.l0, lenI_eq, decide_eq_false (by omega), cond_false]
  obtain ⟨l', q', m, hl, _, lo, hi, hd⟩ := loop_mark (fm := laws_markChangeS.l0) l.length 4611686018427387904 (fun x => 16 * (1 + sz_Change x)) Hd_Change (fun x => by have := sz_Change_0 x; show 0 ≤ 16 * (1 + sz_Change x); omega) step last (((lenI l) - 0).toNat + 1) 0 l q rfl (by omega) (by simp only [lenI_eq]; omega) hq (by rw [List.drop_zero, sum_c sz_Change]; omega)
  refine ⟨l', q', m, ?_, lo, ?_⟩
  · unfold laws_heldChangeS.f
    refine loop_held (fh := laws_heldChangeS.l0 l') (l := l') Hd_Change Hd_Change_mono (fun k i x q q' hx hd hq hB => ?_) (fun k q i hi => ?_) _ 0 q q' (by omega) (by simp only [lenI_eq]; omega) hq (by rw [List.drop_zero, sum_c sz_Change] at hi; omega) (by rw [List.drop_zero] at hd; exact hd)
    · have hi := at_lt hx
      obtain ⟨q1, e0, e1, e2, e3, d4, l4, e5, d6, l6⟩ := hd
      have w0 : w64 (q + 1) = q + 1 := w64_id (by omega)
      have w1 : w64 (q + 1 + 1) = q + 1 + 1 := w64_id (by omega)
      have w2 : w64 (q + 1 + 1 + 1) = q + 1 + 1 + 1 := w64_id (by omega)
      have w3 : w64 (q + 1 + 1 + 1 + 1) = q + 1 + 1 + 1 + 1 := w64_id (by omega)
      have w5 : w64 (q1 + 1) = q1 + 1 := w64_id (by omega)
      have n4 : ¬ q1 < 0 := by omega
      have n6 : ¬ q' < 0 := by omega
      rw [laws_heldChangeS.l0, lenI_eq, decide_eq_true (by omega), cond_true, getO_nat, hx, Option.bind_some]
      simp only [e0, e1, e2, e3, d4, n4, e5, d6, n6, w0, w1, w2, w3, w5, ne_eq, not_true_eq_false, decide_false, cond_false, Option.bind_some, bo3_self]
      rw [w64_succ (by omega)]
    · rw [laws_heldChangeS.l0, lenI_eq, decide_eq_false (by omega), cond_false]
  · rw [List.drop_zero, sum_c sz_Change] at hi; unfold sz_ChangeS; omega
def Hd_ChangeS (x : List Change) (q q' : Int) : Prop := laws_heldChangeS.f x (q) = some q' ∧ q ≤ q'
theorem Hd_ChangeS_mono (x : List Change) (q q' : Int) (h : Hd_ChangeS x q q') : q ≤ q' := by
  obtain ⟨d0, l0⟩ := h
  omega
theorem mark_ChangeSS (l : List (List Change)) (q : Int) (hq : 0 ≤ q) (hB : q + 16 * sz_ChangeSS l ≤ 4611686018427387904) : ∃ l' q', laws_markChangeSS.f l q = some (l', q') ∧ laws_heldChangeSS.f l' q = some q' ∧ q ≤ q' ∧ q' ≤ q + 16 * sz_ChangeSS l := by
  unfold sz_ChangeSS at hB
  have p0 := sum_nonneg sz_ChangeS_0 l
  have step : ∀ k (i : Nat) (s : List (List Change)) (x : List Change) (q : Int), s.length = l.length → s[i]? = some x → 0 ≤ q → q + (fun x => 16 * (1 + sz_ChangeS x)) x ≤ 4611686018427387904 → ∃ x' q', laws_markChangeSS.l0 (k + 1) s q i = laws_markChangeSS.l0 k (s.set i x') q' ((i + 1 : Nat) : Int) ∧ q ≤ q' ∧ q' ≤ q + (fun x => 16 * (1 + sz_ChangeS x)) x ∧ Hd_ChangeS x' q q' := by
    intro k i s x q hn hx hq hB
    have hi := at_lt hx
    have g0 : getO s i = some x := by rw [getO_nat, hx]
    have hB : q + 16 * (1 + sz_ChangeS x) ≤ 4611686018427387904 := hB
    have hzx : sz_ChangeS x ≤ 288230376151711744 := by omega
    have p_x := sz_ChangeS_0 x
    obtain ⟨c0, q1, m0, d0, a0, b0⟩ := mark_ChangeS x (q) (by omega) (by omega)
    refine ⟨(c0), q1, ?_, by omega, ?_, ⟨d0, a0⟩⟩
    · rw [laws_markChangeSS.l0, lenI_eq, decide_eq_true (by omega), cond_true]
      simp only [g0, get_set g0, setI_setI, Option.bind_some, m0]
      rw [w64_succ (by omega), setI_nat]
    · show _ ≤ q + 16 * (1 + sz_ChangeS x); omega
  have last : ∀ k (s : List (List Change)) (q : Int) (i : Nat), i = s.length → laws_markChangeSS.l0 (k + 1) s q i = some (s, q) := by
    intro k s q i hi
    rw [laws_markChangeSS.l0, lenI_eq, decide_eq_false (by omega), cond_false]
  obtain ⟨l', q', m, hl, _, lo, hi, hd⟩ := loop_mark (fm := laws_markChangeSS.l0) l.length 4611686018427387904 (fun x => 16 * (1 + sz_ChangeS x)) Hd_ChangeS (fun x => by have := sz_ChangeS_0 x; show 0 ≤ 16 * (1 + sz_ChangeS x); omega) step last (((lenI l) - 0).toNat + 1) 0 l q rfl (by omega) (by simp only [lenI_eq]; omega) hq (by rw [List.drop_zero, sum_c sz_ChangeS]; omega)
  refine ⟨l', q', m, ?_, lo, ?_⟩
  · unfold laws_heldChangeSS.f
    refine loop_held (fh := laws_heldChangeSS.l0 l') (l := l') Hd_ChangeS Hd_ChangeS_mono (fun k i x q q' hx hd hq hB => ?_) (fun k q i hi => ?_) _ 0 q q' (by omega) (by simp only [lenI_eq]; omega) hq (by rw [List.drop_zero, sum_c sz_ChangeS] at hi; omega) (by rw [List.drop_zero] at hd; exact hd)
    · have hi := at_lt hx
      obtain ⟨d0, l0⟩ := hd
      have n0 : ¬ q' < 0 := by omega
      rw [laws_heldChangeSS.l0, lenI_eq, decide_eq_true (by omega), cond_true, getO_nat, hx, Option.bind_some]
      simp only [d0, n0, ne_eq, not_true_eq_false, decide_false, cond_false, Option.bind_some, bo3_self]
      rw [w64_succ (by omega)]
    · rw [laws_heldChangeSS.l0, lenI_eq, decide_eq_false (by omega), cond_false]
  · rw [List.drop_zero, sum_c sz_ChangeS] at hi; unfold sz_ChangeSS; omega
theorem mark_Schema (x : Schema) (q : Int) (hq : 0 ≤ q) (hB : q + 16 * sz_Schema x ≤ 4611686018427387904) : ∃ s0 q', laws_markSchema.f x q = some ((Schema.mk s0), q') ∧ laws_heldSchema.f (Schema.mk s0) q = some q' ∧ q ≤ q' ∧ q' ≤ q + 16 * sz_Schema x := by
  unfold sz_Schema at hB ⊢
  have p_Cols := sz_IntS_0 x.Cols
  obtain ⟨s0, q0, m0, d0, a0, b0⟩ := mark_IntS x.Cols q (by omega) (by omega)
  have n0 : ¬ q0 < 0 := by omega
  refine ⟨s0, q0, ?_, ?_, by omega, by omega⟩
  · unfold laws_markSchema.f; simp only [m0, Option.bind_some]
  · unfold laws_heldSchema.f; simp only [d0, n0, decide_false, cond_false, Option.bind_some]
def Hd_Row (x : Row) (q q' : Int) : Prop := x.Id = q ∧ laws_heldIntS.f x.Cells (q + 1) = some q' ∧ q + 1 ≤ q'
theorem Hd_Row_mono (x : Row) (q q' : Int) (h : Hd_Row x q q') : q ≤ q' := by
  obtain ⟨e0, d1, l1⟩ := h
  omega
theorem mark_RowS (l : List Row) (q : Int) (hq : 0 ≤ q) (hB : q + 16 * sz_RowS l ≤ 4611686018427387904) : ∃ l' q', laws_markRowS.f l q = some (l', q') ∧ laws_heldRowS.f l' q = some q' ∧ q ≤ q' ∧ q' ≤ q + 16 * sz_RowS l := by
  unfold sz_RowS at hB
  have p0 := sum_nonneg sz_Row_0 l
  have step : ∀ k (i : Nat) (s : List Row) (x : Row) (q : Int), s.length = l.length → s[i]? = some x → 0 ≤ q → q + (fun x => 16 * (1 + sz_Row x)) x ≤ 4611686018427387904 → ∃ x' q', laws_markRowS.l0 (k + 1) s q i = laws_markRowS.l0 k (s.set i x') q' ((i + 1 : Nat) : Int) ∧ q ≤ q' ∧ q' ≤ q + (fun x => 16 * (1 + sz_Row x)) x ∧ Hd_Row x' q q' := by
    intro k i s x q hn hx hq hB
    have hi := at_lt hx
    have g0 : getO s i = some x := by rw [getO_nat, hx]
    have hB : q + 16 * (1 + sz_Row x) ≤ 4611686018427387904 := hB
    have hzx : sz_Row x ≤ 288230376151711744 := by omega
    unfold sz_Row at hB
    have p_Cells := sz_IntS_0 x.Cells
    obtain ⟨c1, q1, m1, d1, a1, b1⟩ := mark_IntS x.Cells (q + 1) (by omega) (by omega)
    have w0 : w64 (q + 1) = q + 1 := w64_id (by omega)
    refine ⟨(Row.mk (q) (c1)), q1, ?_, by omega, ?_, ⟨rfl, d1, a1⟩⟩
    · rw [laws_markRowS.l0, lenI_eq, decide_eq_true (by omega), cond_true]
      simp only [g0, get_set g0, setI_setI, Option.bind_some, m1, w0]
      rw [w64_succ (by omega), setI_nat]
    · show _ ≤ q + 16 * (1 + sz_Row x); simp only [sz_Row]; omega
  have last : ∀ k (s : List Row) (q : Int) (i : Nat), i = s.length → laws_markRowS.l0 (k + 1) s q i = some (s, q) := by
    intro k s q i hi
    rw [laws_markRowS.l0, lenI_eq, decide_eq_false (by omega), cond_false]
  obtain ⟨l', q', m, hl, _, lo, hi, hd⟩ := loop_mark (fm := laws_markRowS.l0) l.length 4611686018427387904 (fun x => 16 * (1 + sz_Row x)) Hd_Row (fun x => by have := sz_Row_0 x; show 0 ≤ 16 * (1 + sz_Row x); omega) step last (((lenI l) - 0).toNat + 1) 0 l q rfl (by omega) (by simp only [lenI_eq]; omega) hq (by rw [List.drop_zero, sum_c sz_Row]; omega)
  refine ⟨l', q', m, ?_, lo, ?_⟩
  · unfold laws_heldRowS.f
    refine loop_held (fh := laws_heldRowS.l0 l') (l := l') Hd_Row Hd_Row_mono (fun k i x q q' hx hd hq hB => ?_) (fun k q i hi => ?_) _ 0 q q' (by omega) (by simp only [lenI_eq]; omega) hq (by rw [List.drop_zero, sum_c sz_Row] at hi; omega) (by rw [List.drop_zero] at hd; exact hd)
    · have hi := at_lt hx
      obtain ⟨e0, d1, l1⟩ := hd
      have w0 : w64 (q + 1) = q + 1 := w64_id (by omega)
      have n1 : ¬ q' < 0 := by omega
      rw [laws_heldRowS.l0, lenI_eq, decide_eq_true (by omega), cond_true, getO_nat, hx, Option.bind_some]
      simp only [e0, d1, n1, w0, ne_eq, not_true_eq_false, decide_false, cond_false, Option.bind_some, bo3_self]
      rw [w64_succ (by omega)]
    · rw [laws_heldRowS.l0, lenI_eq, decide_eq_false (by omega), cond_false]
  · rw [List.drop_zero, sum_c sz_Row] at hi; unfold sz_RowS; omega
def Hd_RowS (x : List Row) (q q' : Int) : Prop := laws_heldRowS.f x (q) = some q' ∧ q ≤ q'
theorem Hd_RowS_mono (x : List Row) (q q' : Int) (h : Hd_RowS x q q') : q ≤ q' := by
  obtain ⟨d0, l0⟩ := h
  omega
theorem mark_RowSS (l : List (List Row)) (q : Int) (hq : 0 ≤ q) (hB : q + 16 * sz_RowSS l ≤ 4611686018427387904) : ∃ l' q', laws_markRowSS.f l q = some (l', q') ∧ laws_heldRowSS.f l' q = some q' ∧ q ≤ q' ∧ q' ≤ q + 16 * sz_RowSS l := by
  unfold sz_RowSS at hB
  have p0 := sum_nonneg sz_RowS_0 l
  have step : ∀ k (i : Nat) (s : List (List Row)) (x : List Row) (q : Int), s.length = l.length → s[i]? = some x → 0 ≤ q → q + (fun x => 16 * (1 + sz_RowS x)) x ≤ 4611686018427387904 → ∃ x' q', laws_markRowSS.l0 (k + 1) s q i = laws_markRowSS.l0 k (s.set i x') q' ((i + 1 : Nat) : Int) ∧ q ≤ q' ∧ q' ≤ q + (fun x => 16 * (1 + sz_RowS x)) x ∧ Hd_RowS x' q q' := by
    intro k i s x q hn hx hq hB
    have hi := at_lt hx
    have g0 : getO s i = some x := by rw [getO_nat, hx]
    have hB : q + 16 * (1 + sz_RowS x) ≤ 4611686018427387904 := hB
    have hzx : sz_RowS x ≤ 288230376151711744 := by omega
    have p_x := sz_RowS_0 x
    obtain ⟨c0, q1, m0, d0, a0, b0⟩ := mark_RowS x (q) (by omega) (by omega)
    refine ⟨(c0), q1, ?_, by omega, ?_, ⟨d0, a0⟩⟩
    · rw [laws_markRowSS.l0, lenI_eq, decide_eq_true (by omega), cond_true]
      simp only [g0, get_set g0, setI_setI, Option.bind_some, m0]
      rw [w64_succ (by omega), setI_nat]
    · show _ ≤ q + 16 * (1 + sz_RowS x); omega
  have last : ∀ k (s : List (List Row)) (q : Int) (i : Nat), i = s.length → laws_markRowSS.l0 (k + 1) s q i = some (s, q) := by
    intro k s q i hi
    rw [laws_markRowSS.l0, lenI_eq, decide_eq_false (by omega), cond_false]
  obtain ⟨l', q', m, hl, _, lo, hi, hd⟩ := loop_mark (fm := laws_markRowSS.l0) l.length 4611686018427387904 (fun x => 16 * (1 + sz_RowS x)) Hd_RowS (fun x => by have := sz_RowS_0 x; show 0 ≤ 16 * (1 + sz_RowS x); omega) step last (((lenI l) - 0).toNat + 1) 0 l q rfl (by omega) (by simp only [lenI_eq]; omega) hq (by rw [List.drop_zero, sum_c sz_RowS]; omega)
  refine ⟨l', q', m, ?_, lo, ?_⟩
  · unfold laws_heldRowSS.f
    refine loop_held (fh := laws_heldRowSS.l0 l') (l := l') Hd_RowS Hd_RowS_mono (fun k i x q q' hx hd hq hB => ?_) (fun k q i hi => ?_) _ 0 q q' (by omega) (by simp only [lenI_eq]; omega) hq (by rw [List.drop_zero, sum_c sz_RowS] at hi; omega) (by rw [List.drop_zero] at hd; exact hd)
    · have hi := at_lt hx
      obtain ⟨d0, l0⟩ := hd
      have n0 : ¬ q' < 0 := by omega
      rw [laws_heldRowSS.l0, lenI_eq, decide_eq_true (by omega), cond_true, getO_nat, hx, Option.bind_some]
      simp only [d0, n0, ne_eq, not_true_eq_false, decide_false, cond_false, Option.bind_some, bo3_self]
      rw [w64_succ (by omega)]
    · rw [laws_heldRowSS.l0, lenI_eq, decide_eq_false (by omega), cond_false]
  · rw [List.drop_zero, sum_c sz_RowS] at hi; unfold sz_RowSS; omega
theorem mark_Store (x : Store) (q : Int) (hq : 0 ≤ q) (hB : q + 16 * sz_Store x ≤ 4611686018427387904) : ∃ s0 s1 q', laws_markStore.f x q = some ((Store.mk (Schema.mk s0) x.Version s1), q') ∧ laws_heldStore.f (Store.mk (Schema.mk s0) x.Version s1) q = some q' ∧ q ≤ q' ∧ q' ≤ q + 16 * sz_Store x := by
  unfold sz_Store at hB ⊢
  have p_Schema := sz_Schema_0 x.Schema
  have p_Tables := sz_RowSS_0 x.Tables
  obtain ⟨s0, q0, m0, d0, a0, b0⟩ := mark_Schema x.Schema q (by omega) (by omega)
  have n0 : ¬ q0 < 0 := by omega
  obtain ⟨s1, q1, m1, d1, a1, b1⟩ := mark_RowSS x.Tables q0 (by omega) (by omega)
  have n1 : ¬ q1 < 0 := by omega
  refine ⟨s0, s1, q1, ?_, ?_, by omega, by omega⟩
  · unfold laws_markStore.f; simp only [m0, m1, Option.bind_some]
  · unfold laws_heldStore.f; simp only [d0, n0, d1, n1, decide_false, cond_false, Option.bind_some]
theorem mark_Record (x : Record) (q : Int) (hq : 0 ≤ q) (hB : q + 16 * sz_Record x ≤ 4611686018427387904) : ∃ s0 s1 s2 q', laws_markRecord.f x q = some ((Record.mk (Store.mk (Schema.mk s0) x.First.Version s1) s2), q') ∧ laws_heldRecord.f (Record.mk (Store.mk (Schema.mk s0) x.First.Version s1) s2) q = some q' ∧ q ≤ q' ∧ q' ≤ q + 16 * sz_Record x := by
  unfold sz_Record at hB ⊢
  have p_First := sz_Store_0 x.First
  have p_Steps := sz_ChangeSS_0 x.Steps
  obtain ⟨s0, s1, q0, m0, d0, a0, b0⟩ := mark_Store x.First q (by omega) (by omega)
  have n0 : ¬ q0 < 0 := by omega
  obtain ⟨s2, q1, m1, d1, a1, b1⟩ := mark_ChangeSS x.Steps q0 (by omega) (by omega)
  have n1 : ¬ q1 < 0 := by omega
  refine ⟨s0, s1, s2, q1, ?_, ?_, by omega, by omega⟩
  · unfold laws_markRecord.f; simp only [m0, m1, Option.bind_some]
  · unfold laws_heldRecord.f; simp only [d0, n0, d1, n1, decide_false, cond_false, Option.bind_some]
theorem RecordNew_ok (s : Store) (b0 : Store_b s) (r0 : Store_r s) (z0 : sz_Store s ≤ 1048576) : ∃ v, spec_RecordNew.f s = some v ∧ impl_RecordNew.f s = some v ∧ Record_b v ∧ sz_Record v ≤ 1099511627776 := by
  refine ⟨_, spec_RecordNew_eq s b0 (by omega), impl_RecordNew_eq s b0 (by omega), ?_, ?_⟩
  · split
    · exact ⟨b0, by simp, by simp⟩
    · exact ⟨⟨by simp [Schema_b, IntS_b], by simp, by simp⟩, by simp, by simp⟩
  · split
    · simp [sz_Record, sz_ChangeSS]; omega
    · simp [sz_Record, sz_ChangeSS, sz_Store, sz_Schema, sz_IntS, sz_RowSS]

theorem laws_FnExactRecordNew_pure (a0 : Store) (b0 : Store_b a0) (r0 : Store_r a0) : laws_FnExactRecordNew.f a0 = some true := by
  unfold laws_FnExactRecordNew.f
  have p0 := sz_Store_0 a0
  rw [laws_szStore_eq _ _ (by omega) b0, Option.bind_some]
  by_cases c0 : 1048576 < sz_Store a0
  · rw [if_pos c0]; rfl
  rw [if_neg c0, decide_eq_false (by omega), cond_false]
  obtain ⟨v0, hs, hi, bv0, zv0⟩ := RecordNew_ok a0 b0 r0 (by omega)
  have t0 := laws_toStore_eq a0 (by omega)
  have e0 : laws_eqStore.f a0 a0 = some true := by rw [laws_eqStore_eq _ _ b0 b0, decide_eq_true rfl]
  have ev0 : laws_eqRecord.f v0 v0 = some true := by rw [laws_eqRecord_eq _ _ bv0 bv0, decide_eq_true rfl]
  obtain ⟨g0_0, g0_1, k0, mk0, dk0, lo0, hi0⟩ := mark_Store a0 1 (by omega) (by omega)
  have nk : ¬ k0 < 0 := by omega
  have pv0 := sz_Record_0 v0
  obtain ⟨gw0_0, gw0_1, gw0_2, w0, mw0, dw0, low0, hiw0⟩ := mark_Record v0 1 (by omega) (by omega)
  have nw0 : ¬ w0 < 0 := by omega
  simp only [t0, e0, ev0, mk0, nk, mw0, dw0, nw0, hs, hi, Option.bind_some, bo3_self, bo3_F, bo3_T, gd_true, cond_false, ne_eq, not_true_eq_false, decide_false]
end Go.Proofs.Ytibmfkomdhnhbaa.L
