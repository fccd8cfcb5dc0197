/- What the pure functions give. -/
import Derived.Test.YtgicjbeaomjdgaaPv0
import Derived.Test.YtgicjbeaomjdgaaFxViewOfU
namespace Go.Proofs.Ytgicjbeaomjdgaa.L
open Go
set_option linter.unusedVariables false
set_option linter.unusedSimpArgs false
def sz_IntS (l : List Int) : Int := l.length
def IntS_b (l : List Int) : Prop := l.length ≤ 9223372036854775807
theorem sz_IntS_0 (l : List Int) : 0 ≤ sz_IntS l := by unfold sz_IntS; omega
def IntS_r (l : List Int) : Prop := ∀ x ∈ l, (-9223372036854775808 ≤ x ∧ x ≤ 9223372036854775807)
theorem laws_eqIntS_eq (a b : List Int) (ha : IntS_b a) (hb : IntS_b b) : laws_eqIntS.f a b = some (decide (a = b)) := by
  unfold IntS_b at ha hb
  unfold laws_eqIntS.f
  by_cases hl : a.length = b.length
  · rw [decide_eq_false (by simp only [lenI_eq]; omega), cond_false]
    refine (loop_eq (f := laws_eqIntS.l0 a b) hl (some false) (some true) (fun k i x y hx hy => ?_) (fun k i hi => ?_) _ (by simp only [lenI_eq]; omega)).trans ?_
    · have hi := at_lt hx
      rw [laws_eqIntS.l0, lenI_eq, decide_eq_true (by omega), cond_true, getO_nat, hx, Option.bind_some, getO_nat, hy, Option.bind_some, w64_succ (by omega)]
      by_cases c : x = y
      · simp [c]
      · simp [c]
    · rw [laws_eqIntS.l0, lenI_eq, decide_eq_false (by omega), cond_false]
    · cases decide (a = b) <;> rfl
  · rw [decide_eq_true (by simp only [lenI_eq]; omega), cond_true, decide_eq_false (fun e => hl (by rw [e]))]
def sz_Schema (x : Schema) : Int := sz_IntS x.Cols
def Schema_b (x : Schema) : Prop := IntS_b x.Cols
theorem sz_Schema_0 (x : Schema) : 0 ≤ sz_Schema x := by unfold sz_Schema; exact by have := sz_IntS_0 x.Cols;  omega
def Schema_r (x : Schema) : Prop := IntS_r x.Cols
theorem laws_eqSchema_eq (a b : Schema) (ha : Schema_b a) (hb : Schema_b b) : laws_eqSchema.f a b = some (decide (a = b)) := by
  have ha_Cols := ha
  have hb_Cols := hb
  unfold laws_eqSchema.f
  rw [laws_eqIntS_eq _ _ ha_Cols hb_Cols, Option.bind_some]
  by_cases c_Cols : a.Cols = b.Cols
  case neg => rw [decide_eq_false c_Cols, show bo3 false false true = true from rfl, cond_true, decide_eq_false (fun e => c_Cols (by rw [e]))]
  rw [decide_eq_true c_Cols, show bo3 true false true = false from rfl, cond_false]
  rw [decide_eq_true (by cases a; cases b; simp_all)]
def sz_Row (x : Row) : Int := sz_IntS x.Cells
def Row_b (x : Row) : Prop := IntS_b x.Cells
theorem sz_Row_0 (x : Row) : 0 ≤ sz_Row x := by unfold sz_Row; exact by have := sz_IntS_0 x.Cells;  omega
def Row_r (x : Row) : Prop := (-9223372036854775808 ≤ x.Id ∧ x.Id ≤ 9223372036854775807) ∧ IntS_r x.Cells
theorem laws_eqRow_eq (a b : Row) (ha : Row_b a) (hb : Row_b b) : laws_eqRow.f a b = some (decide (a = b)) := by
  have ha_Cells := ha
  have hb_Cells := hb
  unfold laws_eqRow.f
  by_cases c_Id : a.Id = b.Id
  case neg => rw [decide_eq_true c_Id, cond_true, decide_eq_false (fun e => c_Id (by rw [e]))]
  rw [decide_eq_false (fun e => e c_Id), cond_false]
  rw [laws_eqIntS_eq _ _ ha_Cells hb_Cells, Option.bind_some]
  by_cases c_Cells : a.Cells = b.Cells
  case neg => rw [decide_eq_false c_Cells, show bo3 false false true = true from rfl, cond_true, decide_eq_false (fun e => c_Cells (by rw [e]))]
  rw [decide_eq_true c_Cells, show bo3 true false true = false from rfl, cond_false]
  rw [decide_eq_true (by cases a; cases b; simp_all)]
def sz_RowS (l : List Row) : Int := l.length + (l.map sz_Row).sum
def RowS_b (l : List Row) : Prop := l.length ≤ 9223372036854775807 ∧ ∀ x ∈ l, Row_b x
theorem sz_RowS_0 (l : List Row) : 0 ≤ sz_RowS l := by have := sum_nonneg sz_Row_0 l; unfold sz_RowS; omega
def RowS_r (l : List Row) : Prop := ∀ x ∈ l, Row_r x
theorem laws_eqRowS_eq (a b : List Row) (ha : RowS_b a) (hb : RowS_b b) : laws_eqRowS.f a b = some (decide (a = b)) := by
  obtain ⟨ha, ha2⟩ := ha
  obtain ⟨hb, hb2⟩ := hb
  unfold laws_eqRowS.f
  by_cases hl : a.length = b.length
  · rw [decide_eq_false (by simp only [lenI_eq]; omega), cond_false]
    refine (loop_eq (f := laws_eqRowS.l0 a b) hl (some false) (some true) (fun k i x y hx hy => ?_) (fun k i hi => ?_) _ (by simp only [lenI_eq]; omega)).trans ?_
    · have hi := at_lt hx
      rw [laws_eqRowS.l0, lenI_eq, decide_eq_true (by omega), cond_true, getO_nat, hx, Option.bind_some, getO_nat, hy, Option.bind_some, laws_eqRow_eq x y (ha2 x (List.mem_of_getElem? hx)) (hb2 y (List.mem_of_getElem? hy)), Option.bind_some, bo3_not, w64_succ (by omega)]
      by_cases c : x = y
      · simp [c]
      · simp [c]
    · rw [laws_eqRowS.l0, lenI_eq, decide_eq_false (by omega), cond_false]
    · cases decide (a = b) <;> rfl
  · rw [decide_eq_true (by simp only [lenI_eq]; omega), cond_true, decide_eq_false (fun e => hl (by rw [e]))]
def sz_RowSS (l : List (List Row)) : Int := l.length + (l.map sz_RowS).sum
def RowSS_b (l : List (List Row)) : Prop := l.length ≤ 9223372036854775807 ∧ ∀ x ∈ l, RowS_b x
theorem sz_RowSS_0 (l : List (List Row)) : 0 ≤ sz_RowSS l := by have := sum_nonneg sz_RowS_0 l; unfold sz_RowSS; omega
def RowSS_r (l : List (List Row)) : Prop := ∀ x ∈ l, RowS_r x
theorem laws_eqRowSS_eq (a b : List (List Row)) (ha : RowSS_b a) (hb : RowSS_b b) : laws_eqRowSS.f a b = some (decide (a = b)) := by
  obtain ⟨ha, ha2⟩ := ha
  obtain ⟨hb, hb2⟩ := hb
  unfold laws_eqRowSS.f
  by_cases hl : a.length = b.length
  · rw [decide_eq_false (by simp only [lenI_eq]; omega), cond_false]
    refine (loop_eq (f := laws_eqRowSS.l0 a b) hl (some false) (some true) (fun k i x y hx hy => ?_) (fun k i hi => ?_) _ (by simp only [lenI_eq]; omega)).trans ?_
    · have hi := at_lt hx
      rw [laws_eqRowSS.l0, lenI_eq, decide_eq_true (by omega), cond_true, getO_nat, hx, Option.bind_some, getO_nat, hy, Option.bind_some, laws_eqRowS_eq x y (ha2 x (List.mem_of_getElem? hx)) (hb2 y (List.mem_of_getElem? hy)), Option.bind_some, bo3_not, w64_succ (by omega)]
      by_cases c : x = y
      · simp [c]
      · simp [c]
    · rw [laws_eqRowSS.l0, lenI_eq, decide_eq_false (by omega), cond_false]
    · cases decide (a = b) <;> rfl
  · rw [decide_eq_true (by simp only [lenI_eq]; omega), cond_true, decide_eq_false (fun e => hl (by rw [e]))]
def sz_Store (x : Store) : Int := sz_Schema x.Schema + sz_RowSS x.Tables
def Store_b (x : Store) : Prop := Schema_b x.Schema ∧ RowSS_b x.Tables
theorem sz_Store_0 (x : Store) : 0 ≤ sz_Store x := by unfold sz_Store; exact by have := sz_Schema_0 x.Schema; have := sz_RowSS_0 x.Tables;  omega
def Store_r (x : Store) : Prop := Schema_r x.Schema ∧ (-9223372036854775808 ≤ x.Version ∧ x.Version ≤ 9223372036854775807) ∧ RowSS_r x.Tables
theorem laws_eqStore_eq (a b : Store) (ha : Store_b a) (hb : Store_b b) : laws_eqStore.f a b = some (decide (a = b)) := by
  obtain ⟨ha_Schema, ha_Tables⟩ := ha
  obtain ⟨hb_Schema, hb_Tables⟩ := hb
  unfold laws_eqStore.f
  rw [laws_eqSchema_eq _ _ ha_Schema hb_Schema, Option.bind_some]
  by_cases c_Schema : a.Schema = b.Schema
  case neg => rw [decide_eq_false c_Schema, show bo3 false false true = true from rfl, cond_true, decide_eq_false (fun e => c_Schema (by rw [e]))]
  rw [decide_eq_true c_Schema, show bo3 true false true = false from rfl, cond_false]
  by_cases c_Version : a.Version = b.Version
  case neg => rw [decide_eq_true c_Version, cond_true, decide_eq_false (fun e => c_Version (by rw [e]))]
  rw [decide_eq_false (fun e => e c_Version), cond_false]
  rw [laws_eqRowSS_eq _ _ ha_Tables hb_Tables, Option.bind_some]
  by_cases c_Tables : a.Tables = b.Tables
  case neg => rw [decide_eq_false c_Tables, show bo3 false false true = true from rfl, cond_true, decide_eq_false (fun e => c_Tables (by rw [e]))]
  rw [decide_eq_true c_Tables, show bo3 true false true = false from rfl, cond_false]
  rw [decide_eq_true (by cases a; cases b; simp_all)]
def Cond_r (x : Cond) : Prop := (-9223372036854775808 ≤ x.Col ∧ x.Col ≤ 9223372036854775807) ∧ (-9223372036854775808 ≤ x.Op ∧ x.Op ≤ 9223372036854775807) ∧ (-9223372036854775808 ≤ x.V ∧ x.V ≤ 9223372036854775807)
theorem laws_eqCond_eq (a b : Cond) : laws_eqCond.f a b = some (decide (a = b)) := by
  unfold laws_eqCond.f
  by_cases c_Col : a.Col = b.Col
  case neg => rw [decide_eq_true c_Col, cond_true, decide_eq_false (fun e => c_Col (by rw [e]))]
  rw [decide_eq_false (fun e => e c_Col), cond_false]
  by_cases c_Op : a.Op = b.Op
  case neg => rw [decide_eq_true c_Op, cond_true, decide_eq_false (fun e => c_Op (by rw [e]))]
  rw [decide_eq_false (fun e => e c_Op), cond_false]
  by_cases c_V : a.V = b.V
  case neg => rw [decide_eq_true c_V, cond_true, decide_eq_false (fun e => c_V (by rw [e]))]
  rw [decide_eq_false (fun e => e c_V), cond_false]
  rw [decide_eq_true (by cases a; cases b; simp_all)]
def sz_CondS (l : List Cond) : Int := l.length
def CondS_b (l : List Cond) : Prop := l.length ≤ 9223372036854775807
theorem sz_CondS_0 (l : List Cond) : 0 ≤ sz_CondS l := by unfold sz_CondS; omega
def CondS_r (l : List Cond) : Prop := ∀ x ∈ l, Cond_r x
theorem laws_eqCondS_eq (a b : List Cond) (ha : CondS_b a) (hb : CondS_b b) : laws_eqCondS.f a b = some (decide (a = b)) := by
  unfold CondS_b at ha hb
  unfold laws_eqCondS.f
  by_cases hl : a.length = b.length
  · rw [decide_eq_false (by simp only [lenI_eq]; omega), cond_false]
    refine (loop_eq (f := laws_eqCondS.l0 a b) hl (some false) (some true) (fun k i x y hx hy => ?_) (fun k i hi => ?_) _ (by simp only [lenI_eq]; omega)).trans ?_
    · have hi := at_lt hx
      rw [laws_eqCondS.l0, lenI_eq, decide_eq_true (by omega), cond_true, getO_nat, hx, Option.bind_some, getO_nat, hy, Option.bind_some, laws_eqCond_eq x y, Option.bind_some, bo3_not, w64_succ (by omega)]
      by_cases c : x = y
      · simp [c]
      · simp [c]
    · rw [laws_eqCondS.l0, lenI_eq, decide_eq_false (by omega), cond_false]
    · cases decide (a = b) <;> rfl
  · rw [decide_eq_true (by simp only [lenI_eq]; omega), cond_true, decide_eq_false (fun e => hl (by rw [e]))]
def sz_Query (x : Query) : Int := sz_CondS x.Where + sz_IntS x.Show
def Query_b (x : Query) : Prop := CondS_b x.Where ∧ IntS_b x.Show
theorem sz_Query_0 (x : Query) : 0 ≤ sz_Query x := by unfold sz_Query; exact by have := sz_CondS_0 x.Where; have := sz_IntS_0 x.Show;  omega
def Query_r (x : Query) : Prop := (-9223372036854775808 ≤ x.Table ∧ x.Table ≤ 9223372036854775807) ∧ CondS_r x.Where ∧ (-9223372036854775808 ≤ x.Order ∧ x.Order ≤ 9223372036854775807) ∧ (-9223372036854775808 ≤ x.First ∧ x.First ≤ 9223372036854775807) ∧ IntS_r x.Show ∧ (-9223372036854775808 ≤ x.KidTable ∧ x.KidTable ≤ 9223372036854775807) ∧ (-9223372036854775808 ≤ x.KidCol ∧ x.KidCol ≤ 9223372036854775807)
theorem laws_eqQuery_eq (a b : Query) (ha : Query_b a) (hb : Query_b b) : laws_eqQuery.f a b = some (decide (a = b)) := by
  obtain ⟨ha_Where, ha_Show⟩ := ha
  obtain ⟨hb_Where, hb_Show⟩ := hb
  unfold laws_eqQuery.f
  by_cases c_Table : a.Table = b.Table
  case neg => rw [decide_eq_true c_Table, cond_true, decide_eq_false (fun e => c_Table (by rw [e]))]
  rw [decide_eq_false (fun e => e c_Table), cond_false]
  rw [laws_eqCondS_eq _ _ ha_Where hb_Where, Option.bind_some]
  by_cases c_Where : a.Where = b.Where
  case neg => rw [decide_eq_false c_Where, show bo3 false false true = true from rfl, cond_true, decide_eq_false (fun e => c_Where (by rw [e]))]
  rw [decide_eq_true c_Where, show bo3 true false true = false from rfl, cond_false]
  by_cases c_Order : a.Order = b.Order
  case neg => rw [decide_eq_true c_Order, cond_true, decide_eq_false (fun e => c_Order (by rw [e]))]
  rw [decide_eq_false (fun e => e c_Order), cond_false]
  by_cases c_Down : a.Down = b.Down
  case neg => rw [show bo3 a.Down (bo3 b.Down false true) b.Down = true from by revert c_Down; cases a.Down <;> cases b.Down <;> simp [bo3], cond_true, decide_eq_false (fun e => c_Down (by rw [e]))]
  rw [show bo3 a.Down (bo3 b.Down false true) b.Down = false from by rw [c_Down]; cases b.Down <;> rfl, cond_false]
  by_cases c_First : a.First = b.First
  case neg => rw [decide_eq_true c_First, cond_true, decide_eq_false (fun e => c_First (by rw [e]))]
  rw [decide_eq_false (fun e => e c_First), cond_false]
  rw [laws_eqIntS_eq _ _ ha_Show hb_Show, Option.bind_some]
  by_cases c_Show : a.Show = b.Show
  case neg => rw [decide_eq_false c_Show, show bo3 false false true = true from rfl, cond_true, decide_eq_false (fun e => c_Show (by rw [e]))]
  rw [decide_eq_true c_Show, show bo3 true false true = false from rfl, cond_false]
  by_cases c_Kids : a.Kids = b.Kids
  case neg => rw [show bo3 a.Kids (bo3 b.Kids false true) b.Kids = true from by revert c_Kids; cases a.Kids <;> cases b.Kids <;> simp [bo3], cond_true, decide_eq_false (fun e => c_Kids (by rw [e]))]
  rw [show bo3 a.Kids (bo3 b.Kids false true) b.Kids = false from by rw [c_Kids]; cases b.Kids <;> rfl, cond_false]
  by_cases c_KidTable : a.KidTable = b.KidTable
  case neg => rw [decide_eq_true c_KidTable, cond_true, decide_eq_false (fun e => c_KidTable (by rw [e]))]
  rw [decide_eq_false (fun e => e c_KidTable), cond_false]
  by_cases c_KidCol : a.KidCol = b.KidCol
  case neg => rw [decide_eq_true c_KidCol, cond_true, decide_eq_false (fun e => c_KidCol (by rw [e]))]
  rw [decide_eq_false (fun e => e c_KidCol), cond_false]
  rw [decide_eq_true (by cases a; cases b; simp_all)]
def Hd_Int (x : Int) (q q' : Int) : Prop := x = q ∧ q' = q + 1
theorem Hd_Int_mono (x : Int) (q q' : Int) (h : Hd_Int x q q') : q ≤ q' := by
  obtain ⟨e0, rfl⟩ := h
  omega
theorem mark_IntS (l : List Int) (q : Int) (hq : 0 ≤ q) (hB : q + 16 * sz_IntS l ≤ 4611686018427387904) : ∃ l' q', laws_markIntS.f l q = some (l', q') ∧ laws_heldIntS.f l' q = some q' ∧ q ≤ q' ∧ q' ≤ q + 16 * sz_IntS l := by
  unfold sz_IntS at hB
  have hz : (l.length : Int) ≤ 288230376151711744 := by omega
  have step : ∀ k (i : Nat) (s : List Int) (x : Int) (q : Int), s.length = l.length → s[i]? = some x → 0 ≤ q → q + (fun _ => 16 * (1 + 0)) x ≤ 4611686018427387904 → ∃ x' q', laws_markIntS.l0 (k + 1) s q i = laws_markIntS.l0 k (s.set i x') q' ((i + 1 : Nat) : Int) ∧ q ≤ q' ∧ q' ≤ q + (fun _ => 16 * (1 + 0)) x ∧ Hd_Int x' q q' := by
    intro k i s x q hn hx hq hB
    have hi := at_lt hx
    have g0 : getO s i = some x := by rw [getO_nat, hx]
    have hB : q + 16 * (1 + 0) ≤ 4611686018427387904 := hB
    have w0 : w64 (q + 1) = q + 1 := w64_id (by omega)
    refine ⟨(q), q + 1, ?_, by omega, ?_, ⟨rfl, rfl⟩⟩
    · rw [laws_markIntS.l0, lenI_eq, decide_eq_true (by omega), cond_true]
      simp only [g0, get_set g0, setI_setI, Option.bind_some, w0]
      rw [w64_succ (by omega), setI_nat]
    · show _ ≤ q + 16 * (1 + 0); omega
  have last : ∀ k (s : List Int) (q : Int) (i : Nat), i = s.length → laws_markIntS.l0 (k + 1) s q i = some (s, q) := by
    intro k s q i hi
    rw [laws_markIntS.l0, lenI_eq, decide_eq_false (by omega), cond_false]
  obtain ⟨l', q', m, hl, _, lo, hi, hd⟩ := loop_mark (fm := laws_markIntS.l0) l.length 4611686018427387904 (fun _ => 16 * (1 + 0)) Hd_Int (fun _ => by decide) step last (((lenI l) - 0).toNat + 1) 0 l q rfl (by omega) (by simp only [lenI_eq]; omega) hq (by rw [List.drop_zero, sum_0]; omega)
  refine ⟨l', q', m, ?_, lo, ?_⟩
  · unfold laws_heldIntS.f
    refine loop_held (fh := laws_heldIntS.l0 l') (l := l') Hd_Int Hd_Int_mono (fun k i x q q' hx hd hq hB => ?_) (fun k q i hi => ?_) _ 0 q q' (by omega) (by simp only [lenI_eq]; omega) hq (by rw [List.drop_zero, sum_0] at hi; omega) (by rw [List.drop_zero] at hd; exact hd)
    · have hi := at_lt hx
      obtain ⟨e0, rfl⟩ := hd
      have w0 : w64 (q + 1) = q + 1 := w64_id (by omega)
      rw [laws_heldIntS.l0, lenI_eq, decide_eq_true (by omega), cond_true, getO_nat, hx, Option.bind_some]
      simp only [e0, w0, ne_eq, not_true_eq_false, decide_false, cond_false, Option.bind_some, bo3_self]
      rw [w64_succ (by omega)]
    · rw [laws_heldIntS.l0, lenI_eq, decide_eq_false (by omega), cond_false]
  · rw [List.drop_zero, sum_0] at hi; unfold sz_IntS; omega
theorem mark_Schema (x : Schema) (q : Int) (hq : 0 ≤ q) (hB : q + 16 * sz_Schema x ≤ 4611686018427387904) : ∃ s0 q', laws_markSchema.f x q = some ((Schema.mk s0), q') ∧ True ∧ q ≤ q' ∧ q' ≤ q + 16 * sz_Schema x := by
  unfold sz_Schema at hB ⊢
  have p_Cols := sz_IntS_0 x.Cols
  obtain ⟨s0, q0, m0, d0, a0, b0⟩ := mark_IntS x.Cols q (by omega) (by omega)
  have n0 : ¬ q0 < 0 := by omega
  refine ⟨s0, q0, ?_, ?_, by omega, by omega⟩
  · unfold laws_markSchema.f; simp only [m0, Option.bind_some]
  · trivial
def Hd_Row (x : Row) (q q' : Int) : Prop := x.Id = q ∧ laws_heldIntS.f x.Cells (q + 1) = some q' ∧ q + 1 ≤ q'
theorem Hd_Row_mono (x : Row) (q q' : Int) (h : Hd_Row x q q') : q ≤ q' := by
  obtain ⟨e0, d1, l1⟩ := h
  omega
theorem mark_RowS (l : List Row) (q : Int) (hq : 0 ≤ q) (hB : q + 16 * sz_RowS l ≤ 4611686018427387904) : ∃ l' q', laws_markRowS.f l q = some (l', q') ∧ laws_heldRowS.f l' q = some q' ∧ q ≤ q' ∧ q' ≤ q + 16 * sz_RowS l := by
  unfold sz_RowS at hB
  have p0 := sum_nonneg sz_Row_0 l
  have step : ∀ k (i : Nat) (s : List Row) (x : Row) (q : Int), s.length = l.length → s[i]? = some x → 0 ≤ q → q + (fun x => 16 * (1 + sz_Row x)) x ≤ 4611686018427387904 → ∃ x' q', laws_markRowS.l0 (k + 1) s q i = laws_markRowS.l0 k (s.set i x') q' ((i + 1 : Nat) : Int) ∧ q ≤ q' ∧ q' ≤ q + (fun x => 16 * (1 + sz_Row x)) x ∧ Hd_Row x' q q' := by
    intro k i s x q hn hx hq hB
    have hi := at_lt hx
    have g0 : getO s i = some x := by rw [getO_nat, hx]
    have hB : q + 16 * (1 + sz_Row x) ≤ 4611686018427387904 := hB
    have hzx : sz_Row x ≤ 288230376151711744 := by omega
    unfold sz_Row at hB
    have p_Cells := sz_IntS_0 x.Cells
    obtain ⟨c1, q1, m1, d1, a1, b1⟩ := mark_IntS x.Cells (q + 1) (by omega) (by omega)
    have w0 : w64 (q + 1) = q + 1 := w64_id (by omega)
    refine ⟨(Row.mk (q) (c1)), q1, ?_, by omega, ?_, ⟨rfl, d1, a1⟩⟩
    · rw [laws_markRowS.l0, lenI_eq, decide_eq_true (by omega), cond_true]
      simp only [g0, get_set g0, setI_setI, Option.bind_some, m1, w0]
      rw [w64_succ (by omega), setI_nat]
    · show _ ≤ q + 16 * (1 + sz_Row x); simp only [sz_Row]; omega
  have last : ∀ k (s : List Row) (q : Int) (i : Nat), i = s.length → laws_markRowS.l0 (k + 1) s q i = some (s, q) := by
    intro k s q i hi
    rw [laws_markRowS.l0, lenI_eq, decide_eq_false (by omega), cond_false]
  obtain ⟨l', q', m, hl, _, lo, hi, hd⟩ := loop_mark (fm := laws_markRowS.l0) l.length 4611686018427387904 (fun x => 16 * (1 + sz_Row x)) Hd_Row (fun x => by have := sz_Row_0 x; show 0 ≤ 16 * (1 + sz_Row x); omega) step last (((lenI l) - 0).toNat + 1) 0 l q rfl (by omega) (by simp only [lenI_eq]; omega) hq (by rw [List.drop_zero, sum_c sz_Row]; omega)
  refine ⟨l', q', m, ?_, lo, ?_⟩
  · unfold laws_heldRowS.f
    refine loop_held (fh := laws_heldRowS.l0 l') (l := l') Hd_Row Hd_Row_mono (fun k i x q q' hx hd hq hB => ?_) (fun k q i hi => ?_) _ 0 q q' (by omega) (by simp only [lenI_eq]; omega) hq (by rw [List.drop_zero, sum_c sz_Row] at hi; omega) (by rw [List.drop_zero] at hd; exact hd)
    · have hi := at_lt hx
      obtain ⟨e0, d1, l1⟩ := hd
      have w0 : w64 (q + 1) = q + 1 := w64_id (by omega)
      have n1 : ¬ q' < 0 := by omega
      rw [laws_heldRowS.l0, lenI_eq, decide_eq_true (by omega), cond_true, getO_nat, hx, Option.bind_some]
      simp only [e0, d1, n1, w0, ne_eq, not_true_eq_false, decide_false, cond_false, Option.bind_some, bo3_self]
      rw [w64_succ (by omega)]
    · rw [laws_heldRowS.l0, lenI_eq, decide_eq_false (by omega), cond_false]
  · rw [List.drop_zero, sum_c sz_Row] at hi; unfold sz_RowS; omega
def Hd_RowS (x : List Row) (q q' : Int) : Prop := laws_heldRowS.f x (q) = some q' ∧ q ≤ q'
theorem Hd_RowS_mono (x : List Row) (q q' : Int) (h : Hd_RowS x q q') : q ≤ q' := by
  obtain ⟨d0, l0⟩ := h
  omega
theorem mark_RowSS (l : List (List Row)) (q : Int) (hq : 0 ≤ q) (hB : q + 16 * sz_RowSS l ≤ 4611686018427387904) : ∃ l' q', laws_markRowSS.f l q = some (l', q') ∧ True ∧ q ≤ q' ∧ q' ≤ q + 16 * sz_RowSS l := by
  unfold sz_RowSS at hB
  have p0 := sum_nonneg sz_RowS_0 l
  have step : ∀ k (i : Nat) (s : List (List Row)) (x : List Row) (q : Int), s.length = l.length → s[i]? = some x → 0 ≤ q → q + (fun x => 16 * (1 + sz_RowS x)) x ≤ 4611686018427387904 → ∃ x' q', laws_markRowSS.l0 (k + 1) s q i = laws_markRowSS.l0 k (s.set i x') q' ((i + 1 : Nat) : Int) ∧ q ≤ q' ∧ q' ≤ q + (fun x => 16 * (1 + sz_RowS x)) x ∧ Hd_RowS x' q q' := by
    intro k i s x q hn hx hq hB
    have hi := at_lt hx
    have g0 : getO s i = some x := by rw [getO_nat, hx]
    have hB : q + 16 * (1 + sz_RowS x) ≤ 4611686018427387904 := hB
    have hzx : sz_RowS x ≤ 288230376151711744 := by omega
    have p_x := sz_RowS_0 x
    obtain ⟨c0, q1, m0, d0, a0, b0⟩ := mark_RowS x (q) (by omega) (by omega)
    refine ⟨(c0), q1, ?_, by omega, ?_, ⟨d0, a0⟩⟩
    · rw [laws_markRowSS.l0, lenI_eq, decide_eq_true (by omega), cond_true]
      simp only [g0, get_set g0, setI_setI, Option.bind_some, m0]
      rw [w64_succ (by omega), setI_nat]
    · show _ ≤ q + 16 * (1 + sz_RowS x); omega
  have last : ∀ k (s : List (List Row)) (q : Int) (i : Nat), i = s.length → laws_markRowSS.l0 (k + 1) s q i = some (s, q) := by
    intro k s q i hi
    rw [laws_markRowSS.l0, lenI_eq, decide_eq_false (by omega), cond_false]
  obtain ⟨l', q', m, hl, _, lo, hi, hd⟩ := loop_mark (fm := laws_markRowSS.l0) l.length 4611686018427387904 (fun x => 16 * (1 + sz_RowS x)) Hd_RowS (fun x => by have := sz_RowS_0 x; show 0 ≤ 16 * (1 + sz_RowS x); omega) step last (((lenI l) - 0).toNat + 1) 0 l q rfl (by omega) (by simp only [lenI_eq]; omega) hq (by rw [List.drop_zero, sum_c sz_RowS]; omega)
  refine ⟨l', q', m, ?_, lo, ?_⟩
  · trivial
  · rw [List.drop_zero, sum_c sz_RowS] at hi; unfold sz_RowSS; omega
theorem mark_Store (x : Store) (q : Int) (hq : 0 ≤ q) (hB : q + 16 * sz_Store x ≤ 4611686018427387904) : ∃ s0 s1 q', laws_markStore.f x q = some ((Store.mk (Schema.mk s0) x.Version s1), q') ∧ True ∧ q ≤ q' ∧ q' ≤ q + 16 * sz_Store x := by
  unfold sz_Store at hB ⊢
  have p_Schema := sz_Schema_0 x.Schema
  have p_Tables := sz_RowSS_0 x.Tables
  obtain ⟨s0, q0, m0, d0, a0, b0⟩ := mark_Schema x.Schema q (by omega) (by omega)
  have n0 : ¬ q0 < 0 := by omega
  obtain ⟨s1, q1, m1, d1, a1, b1⟩ := mark_RowSS x.Tables q0 (by omega) (by omega)
  have n1 : ¬ q1 < 0 := by omega
  refine ⟨s0, s1, q1, ?_, ?_, by omega, by omega⟩
  · unfold laws_markStore.f; simp only [m0, m1, Option.bind_some]
  · trivial
theorem spec_l1In_eq (x y z : Int) : spec_l1In.f x y z = some (decide (y ≤ x ∧ x ≤ z)) := by
  unfold spec_l1In.f
  rw [bo3_and, Bool.decide_and]

def schemaB (s : Schema) : Bool := s.Cols.all (fun n => decide (1 ≤ n ∧ n ≤ 4)) && decide (1 ≤ (s.Cols.length : Int) ∧ (s.Cols.length : Int) ≤ 3)

theorem spec_SchemaOk_eq (s : Schema) (h : Schema_b s) : spec_SchemaOk.f s = some (schemaB s) := by
  have hl : s.Cols.length ≤ 9223372036854775807 := h
  unfold spec_SchemaOk.f joinK
  refine (loop_all (f := spec_SchemaOk.l0 s _) (l := s.Cols) (fun _ n => decide (1 ≤ n ∧ n ≤ 4)) (some false) (some (decide (1 ≤ (s.Cols.length : Int) ∧ (s.Cols.length : Int) ≤ 3))) (fun k i x hx => ?_) (fun k i hi => ?_) _ 0 (by omega) (by (try simp only [lenI_eq]); omega)).trans ?_
  · have hi := at_lt hx
    rw [spec_SchemaOk.l0, lenI_eq, decide_eq_true (by omega), cond_true, getO_nat, hx, Option.bind_some, spec_l1In_eq, Option.bind_some, bo3_not, w64_succ (by omega)]
    cases decide (1 ≤ x ∧ x ≤ 4) <;> rfl
  · rw [spec_SchemaOk.l0, lenI_eq, decide_eq_false (by omega), cond_false, spec_l1In_eq, Option.bind_some]
  · rw [allFrom_zero, schemaB]
    cases s.Cols.all fun n => decide (1 ≤ n ∧ n ≤ 4) <;> rfl

def rowB (s : Schema) (t : Int) (r : Row) : Bool :=
  schemaB s && decide (0 ≤ t ∧ t ≤ (s.Cols.length : Int) - 1) && decide (1 ≤ r.Id ∧ r.Id ≤ 999) && decide ((r.Cells.length : Int) = s.Cols.getD t.toNat 0) && r.Cells.all fun n => decide (-1000000000 ≤ n ∧ n ≤ 1000000000)
def rowsB (s : Schema) (t : Int) (rows : List Row) : Bool :=
  allFrom (fun i r => rowB s t r && !(decide (0 < i) && decide (r.Id ≤ (rows.getD (i - 1) default).Id))) rows 0 && (schemaB s && decide (0 ≤ t ∧ t ≤ (s.Cols.length : Int) - 1) && decide (rows.length ≤ 24))
theorem schema_len {s : Schema} (h : schemaB s = true) : s.Cols.length ≤ 3 := by
  unfold schemaB at h
  rw [Bool.and_eq_true] at h
  have := of_decide_eq_true h.2
  omega
theorem rows_row {s : Schema} {t : Int} {rows : List Row} (h : rowsB s t rows = true) {i : Nat} {r : Row} (hr : rows[i]? = some r) : rowB s t r = true := by
  unfold rowsB at h
  rw [Bool.and_eq_true] at h
  have := allFrom_iff.1 h.1 i r hr
  rw [Bool.and_eq_true] at this
  exact this.1
theorem rows_len {s : Schema} {t : Int} {rows : List Row} (h : rowsB s t rows = true) : rows.length ≤ 24 := by
  unfold rowsB at h
  simp only [Bool.and_eq_true, decide_eq_true_eq] at h
  exact h.2.2
theorem row_cells {s : Schema} {t : Int} {r : Row} (h : rowB s t r = true) : (r.Cells.length : Int) = s.Cols.getD t.toNat 0 := by
  unfold rowB at h
  simp only [Bool.and_eq_true, decide_eq_true_eq] at h
  exact h.1.2

theorem spec_RowOk_eq (s : Schema) (t : Int) (r : Row) (hs : Schema_b s) (hr : Row_b r) : spec_RowOk.f s t r = some (rowB s t r) := by
  have hl : s.Cols.length ≤ 9223372036854775807 := hs
  have hrl : r.Cells.length ≤ 9223372036854775807 := hr
  unfold spec_RowOk.f rowB
  rw [spec_SchemaOk_eq _ hs, Option.bind_some, lenI_eq, w64_id (by omega), spec_l1In_eq, spec_l1In_eq]
  cases schemaB s with
  | false => rfl
  | true =>
    by_cases d : 0 ≤ t ∧ t ≤ (s.Cols.length : Int) - 1
    case neg => rw [decide_eq_false d]; rfl
    rw [decide_eq_true d, getO_Int d]
    by_cases d2 : 1 ≤ r.Id ∧ r.Id ≤ 999
    case neg => rw [decide_eq_false d2]; rfl
    rw [decide_eq_true d2]
    simp only [bo3_F, bo3_T, gd_true, Option.bind_some, Bool.true_and]
    by_cases d3 : (r.Cells.length : Int) = s.Cols.getD t.toNat 0
    case neg => rw [show decide (lenI r.Cells ≠ s.Cols.getD t.toNat 0) = true from decide_eq_true d3, decide_eq_false d3]; rfl
    rw [show decide (lenI r.Cells ≠ s.Cols.getD t.toNat 0) = false from decide_eq_false (fun h => h d3), decide_eq_true d3, cond_false, Bool.true_and]
    refine (loop_all (f := spec_RowOk.l0 r) (l := r.Cells) (fun _ n => decide (-1000000000 ≤ n ∧ n ≤ 1000000000)) (some false) (some true) (fun k i x hx => ?_) (fun k i hi => ?_) _ 0 (by omega) (by (try simp only [lenI_eq]); omega)).trans ?_
    · have hi := at_lt hx
      rw [spec_RowOk.l0, lenI_eq, decide_eq_true (by omega), cond_true, getO_nat, hx, Option.bind_some, spec_l1In_eq, Option.bind_some, bo3_not, w64_succ (by omega)]
      cases decide (-1000000000 ≤ x ∧ x ≤ 1000000000) <;> rfl
    · rw [spec_RowOk.l0, lenI_eq, decide_eq_false (by omega), cond_false]
    · rw [allFrom_zero]
      cases r.Cells.all fun n => decide (-1000000000 ≤ n ∧ n ≤ 1000000000) <;> rfl

theorem spec_RowsOk_eq (s : Schema) (t : Int) (rows : List Row) (hs : Schema_b s) (hr : RowS_b rows) : spec_RowsOk.f s t rows = some (rowsB s t rows) := by
  have hl : s.Cols.length ≤ 9223372036854775807 := hs
  obtain ⟨hrl, hr2⟩ := hr
  unfold spec_RowsOk.f rowsB
  simp only [joinK]
  refine (loop_all (f := spec_RowsOk.l0 s t rows _) (l := rows) (fun i r => rowB s t r && !(decide (0 < i) && decide (r.Id ≤ (rows.getD (i - 1) default).Id))) (some false) (some (schemaB s && decide (0 ≤ t ∧ t ≤ (s.Cols.length : Int) - 1) && decide (rows.length ≤ 24))) (fun k i x hx => ?_) (fun k i hi => ?_) _ 0 (by omega) (by (try simp only [lenI_eq]); omega)).trans ?_
  · have hi := at_lt hx
    rw [spec_RowsOk.l0, lenI_eq, decide_eq_true (by omega), cond_true, getO_nat, hx, Option.bind_some, spec_RowOk_eq _ _ _ hs (hr2 x (List.mem_of_getElem? hx)), Option.bind_some, prev_step hx (by omega), Option.bind_some, w64_succ (by omega)]
    rw [show decide (0 < (i : Int)) = decide (0 < i) from by simp]
    cases rowB s t x <;> cases decide (0 < i) <;> (try rfl)
    simp only [bo3_F, bo3_T, Bool.true_and, cond_true]
    by_cases e : x.Id ≤ (rows.getD (i - 1) default).Id
    · simp [e]
    · simp [e]
  · rw [spec_RowsOk.l0, lenI_eq, decide_eq_false (by omega), cond_false, spec_SchemaOk_eq _ hs, Option.bind_some]
    first | rw [impl_hasTable_eq _ _ hs] | rw [lenI_eq s.Cols, w64_id (by omega), spec_l1In_eq]
    have e24 : decide ((rows.length : Int) ≤ 24) = decide (rows.length ≤ 24) := by rw [decide_eq_decide]; omega
    simp only [lenI_eq, e24]
    generalize decide (0 ≤ t ∧ t ≤ (s.Cols.length : Int) - 1) = b1
    generalize decide (rows.length ≤ 24) = b2
    cases schemaB s <;> cases b1 <;> cases b2 <;> rfl
  · cases allFrom (fun i r => rowB s t r && !(decide (0 < i) && decide (r.Id ≤ (rows.getD (i - 1) default).Id))) rows 0 <;> rfl

def storeB (s : Store) : Bool :=
  schemaB s.Schema && decide (0 ≤ s.Version ∧ s.Version ≤ 100000) && decide (s.Tables.length = s.Schema.Cols.length) && allFrom (fun i rows => rowsB s.Schema (i : Int) rows) s.Tables 0
theorem store_table {s : Store} (h : storeB s = true) {i : Nat} {rows : List Row} (hr : s.Tables[i]? = some rows) : rowsB s.Schema i rows = true := by
  unfold storeB at h
  rw [Bool.and_eq_true] at h
  exact allFrom_iff.1 h.2 i rows hr
theorem store_len {s : Store} (h : storeB s = true) : s.Tables.length = s.Schema.Cols.length ∧ schemaB s.Schema = true := by
  unfold storeB at h
  simp only [Bool.and_eq_true, decide_eq_true_eq] at h
  exact ⟨h.1.2, h.1.1.1⟩

theorem spec_version (v : Int) : spec_l1In.f v 0 100000 = some (decide (0 ≤ v ∧ v ≤ 100000)) := spec_l1In_eq _ _ _

theorem spec_StoreOk_eq (s : Store) (hb : Store_b s) : spec_StoreOk.f s = some (storeB s) := by
  obtain ⟨hs, ht, ht2⟩ := hb
  have hl : s.Schema.Cols.length ≤ 9223372036854775807 := hs
  unfold spec_StoreOk.f storeB
  rw [spec_SchemaOk_eq _ hs, Option.bind_some, spec_version]
  cases schemaB s.Schema with
  | false => rfl
  | true =>
    by_cases d : 0 ≤ s.Version ∧ s.Version ≤ 100000
    case neg => rw [decide_eq_false d]; rfl
    rw [decide_eq_true d]
    by_cases d2 : s.Tables.length = s.Schema.Cols.length
    case neg =>
      rw [show decide (lenI s.Tables ≠ lenI s.Schema.Cols) = true from decide_eq_true (by simp only [lenI_eq]; omega), decide_eq_false d2]
      rfl
    rw [show decide (lenI s.Tables ≠ lenI s.Schema.Cols) = false from decide_eq_false (by simp only [lenI_eq]; omega), decide_eq_true d2]
    simp only [bo3_F, bo3_T, gd_true, Option.bind_some, Bool.true_and, cond_false]
    refine (loop_all (f := spec_StoreOk.l0 s) (l := s.Tables) (fun i rows => rowsB s.Schema (i : Int) rows) (some false) (some true) (fun k i x hx => ?_) (fun k i hi => ?_) _ 0 (by omega) (by (try simp only [lenI_eq]); omega)).trans ?_
    · have hi := at_lt hx
      rw [spec_StoreOk.l0, lenI_eq, decide_eq_true (by omega), cond_true, getO_nat, hx, Option.bind_some, spec_RowsOk_eq _ _ _ hs (ht2 x (List.mem_of_getElem? hx)), Option.bind_some, bo3_not, w64_succ (by omega)]
      cases rowsB s.Schema i x <;> rfl
    · rw [spec_StoreOk.l0, lenI_eq, decide_eq_false (by omega), cond_false]
    · cases allFrom (fun i rows => rowsB s.Schema (i : Int) rows) s.Tables 0 <;> rfl

def kidsB (s : Schema) (q : Query) : Bool :=
  if q.Kids then decide (0 ≤ q.KidTable ∧ q.KidTable ≤ (s.Cols.length : Int) - 1) && decide (0 ≤ q.KidCol ∧ q.KidCol ≤ w64 (s.Cols.getD q.KidTable.toNat 0 - 1)) else decide (q.KidTable = 0) && decide (q.KidCol = 0)
def condB (cols : Int) (c : Cond) : Bool := decide (0 ≤ c.Col ∧ c.Col ≤ w64 (cols - 1)) && decide (1 ≤ c.Op ∧ c.Op ≤ 4) && decide (-1000000000 ≤ c.V ∧ c.V ≤ 1000000000)
def showB (cols : Int) (l : List Int) : Bool := allFrom (fun i x => decide (0 ≤ x ∧ x ≤ w64 (cols - 1)) && !(decide (0 < i) && decide (x ≤ l.getD (i - 1) 0))) l 0
def queryB (s : Schema) (q : Query) : Bool :=
  schemaB s && decide (0 ≤ q.Table ∧ q.Table ≤ (s.Cols.length : Int) - 1) &&
    (let cols := s.Cols.getD q.Table.toNat 0
     q.Where.all (condB cols) && showB cols q.Show && (decide (q.Where.length ≤ 3) && decide (0 ≤ q.Order ∧ q.Order ≤ cols) && (!q.Down || decide (0 < q.Order)) && decide (0 ≤ q.First ∧ q.First ≤ 24) && kidsB s q))
theorem show_step {r : Bool} {l : List Int} {i : Nat} {x : Int} (hx : l[i]? = some x) (hl : i < 9223372036854775807) : gd (bo3 r (decide (0 < (i : Int))) false) (getO l (w64 ((i : Int) - 1))) = some (bif bo3 r (decide (0 < (i : Int))) false then l.getD (i - 1) 0 else 0) := by
  refine gd_some _ fun h => ?_
  have h0 := of_decide_eq_true (bo_r h)
  have hi := at_lt hx
  rw [w64_id (by omega), show ((i : Int) - 1) = ((i - 1 : Nat) : Int) by omega, getO_nat, List.getD_eq_getElem?_getD, List.getElem?_eq_getElem (by omega)]
  rfl

theorem spec_QueryOk_eq (s : Schema) (q : Query) (h : Schema_b s) (hq : Query_b q) : spec_QueryOk.f s q = some (queryB s q) := by
  have hcl : s.Cols.length ≤ 9223372036854775807 := h
  obtain ⟨hw, hs⟩ := hq
  have hwl : q.Where.length ≤ 9223372036854775807 := hw
  have hsl : q.Show.length ≤ 9223372036854775807 := hs
  unfold spec_QueryOk.f queryB
  rw [spec_SchemaOk_eq _ h, Option.bind_some]
  cases schemaB s with
  | false => rfl
  | true =>
    rw [show bo3 (bo3 true false true) false true = true from rfl, gd_true, lenI_eq, w64_id (by omega), spec_l1In_eq, Option.bind_some]
    by_cases d : 0 ≤ q.Table ∧ q.Table ≤ (s.Cols.length : Int) - 1
    case neg => rw [decide_eq_false d]; rfl
    rw [decide_eq_true d, getO_Int d]
    generalize s.Cols.getD q.Table.toNat 0 = cols
    by_cases d3 : q.Where.length ≤ 3
    case neg =>
      rw [lenI_eq, decide_eq_true (by omega), show bo3 (bo3 (bo3 true false true) true (bo3 true false true)) true true = true from rfl, cond_true, decide_eq_false d3]
      simp
    rw [lenI_eq, decide_eq_false (by omega), show bo3 (bo3 (bo3 true false true) true (bo3 true false true)) true false = false from rfl, cond_false, decide_eq_true d3, Option.bind_some]
    simp only [joinK, Bool.true_and]
    refine (loop_all (f := spec_QueryOk.l0 q cols _) (l := q.Where) (fun _ c => condB cols c) (some false) (some (showB cols q.Show && (decide (0 ≤ q.Order ∧ q.Order ≤ cols) && (!q.Down || decide (0 < q.Order)) && decide (0 ≤ q.First ∧ q.First ≤ 24) && kidsB s q))) (fun k i x hx => ?_) (fun k i hi => ?_) _ 0 (by omega) (by (try simp only [lenI_eq]); omega)).trans ?_
    · have hi := at_lt hx
      rw [spec_QueryOk.l0, lenI_eq, decide_eq_true (by omega), cond_true, getO_nat, hx, Option.bind_some, spec_l1In_eq, Option.bind_some, spec_l1In_eq, spec_l1In_eq, w64_succ (by omega)]
      unfold condB
      cases decide (0 ≤ x.Col ∧ x.Col ≤ w64 (cols - 1)) <;> cases decide (1 ≤ x.Op ∧ x.Op ≤ 4) <;> cases decide (-1000000000 ≤ x.V ∧ x.V ≤ 1000000000) <;> rfl
    · rw [spec_QueryOk.l0, lenI_eq, decide_eq_false (by omega), cond_false]
      refine (loop_all (f := spec_QueryOk.l1 q cols _) (l := q.Show) (fun i x => decide (0 ≤ x ∧ x ≤ w64 (cols - 1)) && !(decide (0 < i) && decide (x ≤ q.Show.getD (i - 1) 0))) (some false) (some (decide (0 ≤ q.Order ∧ q.Order ≤ cols) && (!q.Down || decide (0 < q.Order)) && decide (0 ≤ q.First ∧ q.First ≤ 24) && kidsB s q)) (fun k i x hx => ?_) (fun k i hi => ?_) _ 0 (by omega) (by (try simp only [lenI_eq]); omega)).trans ?_
      · have hi := at_lt hx
        rw [spec_QueryOk.l1, lenI_eq, decide_eq_true (by omega), cond_true, getO_nat, hx, Option.bind_some, spec_l1In_eq, Option.bind_some, show_step hx (by omega), Option.bind_some, w64_succ (by omega)]
        rw [show decide (0 < (i : Int)) = decide (0 < i) from by simp]
        cases decide (0 ≤ x ∧ x ≤ w64 (cols - 1)) <;> cases decide (0 < i) <;> (try rfl)
        simp only [bo3_and, bo3_not, bo3_or, Bool.not_true, Bool.not_false, Bool.true_and, cond_true]
        cases decide (x ≤ q.Show.getD (i - 1) 0) <;> rfl
      · rw [spec_QueryOk.l1, lenI_eq, decide_eq_false (by omega), cond_false, spec_l1In_eq, Option.bind_some, spec_l1In_eq]
        by_cases e0 : 0 ≤ q.Order ∧ q.Order ≤ cols
        case neg => rw [decide_eq_false e0]; rfl
        rw [decide_eq_true e0, show bo3 (bo3 true false true) false true = true from rfl, gd_true, Option.bind_some]
        by_cases e1 : 0 ≤ q.First ∧ q.First ≤ 24
        case neg => rw [decide_eq_false e1]; simp [bo3]
        rw [decide_eq_true e1]
        have e2 : (bo3 (decide (q.Order = 0)) q.Down false) = !(!q.Down || decide (0 < q.Order)) := by
          cases q.Down with
          | false => cases decide (q.Order = 0) <;> rfl
          | true =>
            by_cases e3 : q.Order = 0
            · simp [e3, bo3]
            · have : 0 < q.Order := by omega
              simp [e3, bo3, this]
        rw [e2]
        cases hd : (!q.Down || decide (0 < q.Order)) with
        | false => simp [bo3]
        | true =>
          rw [show bo3 (bo3 (bo3 true false true) true (bo3 true false true)) true (!true) = false from rfl, cond_false, bo3_not]
          unfold kidsB
          cases q.Kids with
          | false => simp [bo3_and]
          | true =>
            rw [Bool.not_true, cond_false, spec_l1In_eq, Option.bind_some, if_pos rfl]
            by_cases d : 0 ≤ q.KidTable ∧ q.KidTable ≤ (s.Cols.length : Int) - 1
            · rw [decide_eq_true d, gd_true, getO_Int d, Option.bind_some, gd_true, spec_l1In_eq, Option.bind_some, bo3_and]
              simp
            · rw [decide_eq_false d, gd_false, Option.bind_some, gd_false, Option.bind_some, bo3_and]
              simp
      · unfold showB
        cases allFrom (fun i x => decide (0 ≤ x ∧ x ≤ w64 (cols - 1)) && !(decide (0 < i) && decide (x ≤ q.Show.getD (i - 1) 0))) q.Show 0 <;> rfl
    · rw [allFrom_zero]
      cases q.Where.all fun c => condB cols c <;> simp

theorem spec_l9Copy_eq (q : Query) (h : sz_Query q ≤ 1099511627776) : spec_l9Copy.f q = some q := by
  have p1 := sz_CondS_0 q.Where
  have p2 := sz_IntS_0 q.Show
  unfold sz_Query at h
  unfold sz_CondS at p1 h
  unfold sz_IntS at p2 h
  unfold spec_l9Copy.f
  rw [appO_ok (by simp only [List.length_nil]; omega), Option.bind_some, appO_ok (by simp only [List.length_nil]; omega), Option.bind_some]
  rfl

theorem findIdx_takeA {α : Type} (p : α → Bool) (l : List α) {i : Nat} {x : α} (hx : l[i]? = some x) (hn : ¬ (l.take i).findIdx p < i) : (p x = true → l.findIdx p = i) ∧ (p x = false → ¬ (l.take (i + 1)).findIdx p < i + 1) := by
  have hi := at_lt hx
  have hl : (l.take i).length = i := by rw [List.length_take]; omega
  constructor
  · intro hp
    have e : l = l.take i ++ x :: l.drop (i + 1) := by
      conv => lhs; rw [← List.take_append_drop i l, List.drop_eq_getElem_cons hi]
      rw [List.getElem?_eq_getElem hi] at hx
      rw [Option.some.inj hx]
    rw [e, List.findIdx_append, hl, if_neg hn, List.findIdx_cons, hp]
    simp
  · intro hp
    rw [take_snoc hx, List.findIdx_append, hl, if_neg hn, List.findIdx_cons, hp]
    simp
    omega

def Kid_r (x : Kid) : Prop := (-9223372036854775808 ≤ x.Id ∧ x.Id ≤ 9223372036854775807) ∧ (-9223372036854775808 ≤ x.N ∧ x.N ≤ 9223372036854775807)
def sz_KidS (l : List Kid) : Int := l.length
def KidS_b (l : List Kid) : Prop := l.length ≤ 9223372036854775807
theorem sz_KidS_0 (l : List Kid) : 0 ≤ sz_KidS l := by unfold sz_KidS; omega
def KidS_r (l : List Kid) : Prop := ∀ x ∈ l, Kid_r x
def isKid (id : Int) (k : Kid) : Bool := decide (id ≤ k.Id)
def kidPutF (l : List Kid) (id by_ : Int) : List Kid :=
  match l[l.findIdx (isKid id)]? with
  | some k => if k.Id = id then (if 0 < w64 (k.N + by_) then l.set (l.findIdx (isKid id)) ⟨id, w64 (k.N + by_)⟩ else l.eraseIdx (l.findIdx (isKid id)))
    else (if 0 < by_ then l.take (l.findIdx (isKid id)) ++ [⟨id, by_⟩] ++ l.drop (l.findIdx (isKid id)) else l)
  | none => if 0 < by_ then l ++ [⟨id, by_⟩] else l
def kidMid (l : List Kid) (id by_ : Int) : List Kid :=
  match l[l.findIdx (isKid id)]? with
  | some k => if k.Id = id then (if 0 < w64 (k.N + by_) then l.set (l.findIdx (isKid id)) ⟨id, w64 (k.N + by_)⟩ else l.eraseIdx (l.findIdx (isKid id)))
    else (if 0 < by_ then l.take (l.findIdx (isKid id)) ++ [⟨id, by_⟩] ++ l.drop (l.findIdx (isKid id)) else l)
  | none => l
theorem kid_mid {l : List Kid} {id by_ : Int} (h : l.findIdx (isKid id) < l.length) : kidMid l id by_ = kidPutF l id by_ := by
  unfold kidMid kidPutF
  rw [List.getElem?_eq_getElem h]
theorem kidPut_len (l : List Kid) (id by_ : Int) : (kidPutF l id by_).length ≤ l.length + 1 := by
  unfold kidPutF
  split
  · split
    · split
      · rw [List.length_set]; omega
      · rw [List.length_eraseIdx]; split <;> omega
    · split
      · simp; omega
      · omega
  · split
    · simp
    · omega

theorem spec_KidPut_2 (l : List Kid) (id by_ : Int) (K : List Kid → Bool → Option (List Kid)) : ∀ (k i : Nat) (acc : List Kid), i ≤ l.length → l.length < i + k → (acc.length : Int) + (l.length - i : Nat) ≤ 1099511627777 → (l.length : Int) ≤ 1099511627776 →
    spec_KidPut.l0 l id by_ K k acc true i = K (acc ++ l.drop i) true := by
  intro k
  induction k with
  | zero => intro i acc h h'; omega
  | succ k ih =>
    intro i acc h h' hz hl
    by_cases hi : i < l.length
    · have hx : l[i]? = some l[i] := List.getElem?_eq_getElem hi
      rw [spec_KidPut.l0, lenI_eq, decide_eq_true (by omega), cond_true, getO_nat, hx, Option.bind_some, bo3_T, bo3_F, cond_false, Option.bind_some, appO_ok (by simp only [List.length_cons, List.length_nil]; omega), Option.bind_some, w64_succ (by omega), ih (i + 1) _ (by omega) (by omega) (by simp only [List.length_append, List.length_cons, List.length_nil]; omega) hl, List.drop_eq_getElem_cons hi]
      simp
    · rw [spec_KidPut.l0, lenI_eq, decide_eq_false (by omega), cond_false, List.drop_eq_nil_of_le (by omega), List.append_nil]
theorem spec_KidPut_3 (l : List Kid) (id by_ : Int) (K : List Kid → Bool → Option (List Kid)) (hl : (l.length : Int) ≤ 1099511627776) (k i : Nat) (x : Kid) (hx : l[i]? = some x) (hp : id ≤ x.Id) (h' : l.length < i + (k + 1)) (hf : l.findIdx (isKid id) = i) :
    spec_KidPut.l0 l id by_ K (k + 1) (l.take i) false i = K (kidMid l id by_) true := by
  have hi := at_lt hx
  have ht : (l.take i).length = i := by rw [List.length_take]; omega
  have hdr : l.drop i = x :: l.drop (i + 1) := by
    rw [List.drop_eq_getElem_cons hi]
    rw [List.getElem?_eq_getElem hi] at hx
    rw [Option.some.inj hx]
  have hm : kidMid l id by_ = if x.Id = id then (if 0 < w64 (x.N + by_) then l.set i ⟨id, w64 (x.N + by_)⟩ else l.eraseIdx i) else (if 0 < by_ then l.take i ++ [⟨id, by_⟩] ++ l.drop i else l) := by
    unfold kidMid
    rw [hf, hx]
  rw [hm, spec_KidPut.l0, lenI_eq, decide_eq_true (by omega), cond_true, getO_nat, hx, Option.bind_some, w64_succ (by omega), decide_eq_true hp, bo3_F, bo3_T, cond_true]
  simp only [joinK]
  by_cases e : x.Id = id
  · rw [if_pos e, decide_eq_true e, cond_true]
    by_cases n0 : 0 < w64 (x.N + by_)
    · rw [if_pos n0, decide_eq_true n0, cond_true, Option.bind_some, appO_ok (by simp only [ht, List.length_cons, List.length_nil]; omega), Option.bind_some, cond_true, spec_KidPut_2 l id by_ _ k (i + 1) _ (by omega) (by omega) (by simp only [List.length_append, ht, List.length_cons, List.length_nil]; omega) hl, List.set_eq_take_append_cons_drop, if_pos hi, List.append_assoc]
      rfl
    · rw [if_neg n0, decide_eq_false n0, cond_false, cond_true, spec_KidPut_2 l id by_ _ k (i + 1) _ (by omega) (by omega) (by simp only [ht]; omega) hl, List.eraseIdx_eq_take_drop_succ]
  · rw [if_neg e, decide_eq_false e, cond_false]
    by_cases n0 : 0 < by_
    · rw [if_pos n0, decide_eq_true n0, cond_true, Option.bind_some, appO_ok (by simp only [ht, List.length_cons, List.length_nil]; omega), Option.bind_some, cond_false, Option.bind_some, appO_ok (by simp only [List.length_append, ht, List.length_cons, List.length_nil]; omega), Option.bind_some, spec_KidPut_2 l id by_ _ k (i + 1) _ (by omega) (by omega) (by simp only [List.length_append, ht, List.length_cons, List.length_nil]; omega) hl, hdr, List.append_assoc]
      rfl
    · rw [if_neg n0, decide_eq_false n0, cond_false, cond_false, Option.bind_some, appO_ok (by simp only [ht, List.length_cons, List.length_nil]; omega), Option.bind_some, spec_KidPut_2 l id by_ _ k (i + 1) _ (by omega) (by omega) (by simp only [List.length_append, ht, List.length_cons, List.length_nil]; omega) hl, List.append_assoc, List.singleton_append, ← hdr, List.take_append_drop]
theorem spec_KidPut_1 (l : List Kid) (id by_ : Int) (K : List Kid → Bool → Option (List Kid)) (hl : (l.length : Int) ≤ 1099511627776) : ∀ (k i : Nat), i ≤ l.length → l.length < i + k → ¬ (l.take i).findIdx (isKid id) < i →
    spec_KidPut.l0 l id by_ K k (l.take i) false i = if l.findIdx (isKid id) < l.length then K (kidMid l id by_) true else K l false := by
  intro k
  induction k with
  | zero => intro i h h'; omega
  | succ k ih =>
    intro i h h' hn
    by_cases hi : i < l.length
    · obtain ⟨x, hx⟩ : ∃ x, l[i]? = some x := ⟨_, List.getElem?_eq_getElem hi⟩
      have ht : (l.take i).length = i := by rw [List.length_take]; omega
      obtain ⟨f1, f2⟩ := findIdx_takeA (isKid id) l hx hn
      by_cases hp : id ≤ x.Id
      · have hf := f1 (decide_eq_true hp)
        rw [if_pos (by omega)]
        exact spec_KidPut_3 l id by_ K hl k i x hx hp h' hf
      · have := f2 (decide_eq_false hp)
        rw [spec_KidPut.l0, lenI_eq, decide_eq_true (by omega), cond_true, getO_nat, hx, Option.bind_some, w64_succ (by omega), decide_eq_false hp, bo3_F, bo3_T, cond_false, Option.bind_some, appO_ok (by simp only [ht, List.length_cons, List.length_nil]; omega), Option.bind_some, ← take_snoc hx]
        exact ih (i + 1) (by omega) (by omega) this
    · rw [List.take_of_length_le (by omega)] at hn ⊢
      rw [spec_KidPut.l0, lenI_eq, decide_eq_false (by omega), cond_false, if_neg (by omega)]
theorem spec_KidPut_eq (l : List Kid) (id by_ : Int) (h : (l.length : Int) ≤ 1099511627776) : spec_KidPut.f l id by_ = some (kidPutF l id by_) := by
  unfold spec_KidPut.f
  simp only [joinK]
  have hle := List.findIdx_le_length (xs := l) (p := isKid id)
  refine (spec_KidPut_1 l id by_ _ h (((lenI l) - 0).toNat + 1) 0 (by omega) (by rw [lenI_eq]; omega) (by omega)).trans ?_
  by_cases c : l.findIdx (isKid id) < l.length
  · rw [if_pos c, kid_mid c]
    rfl
  · rw [if_neg c, bo3_F, bo3_T]
    unfold kidPutF
    rw [List.getElem?_eq_none (by omega)]
    by_cases n0 : 0 < by_
    · rw [decide_eq_true n0, cond_true, Option.bind_some, appO_ok (by simp only [List.length_cons, List.length_nil]; omega), Option.bind_some]
      simp only [if_pos n0]
    · rw [decide_eq_false n0, cond_false]
      simp only [if_neg n0]

def cmpB (op v z : Int) : Bool := if op = 1 then decide (v = z) else if op = 2 then decide (v < z) else if op = 3 then decide (z < v) else if op = 4 then decide (v ≠ z) else false
def holdsB (c : Cond) (r : Row) : Bool := decide (0 ≤ c.Col ∧ c.Col ≤ (r.Cells.length : Int) - 1) && cmpB c.Op (r.Cells.getD c.Col.toNat 0) c.V
def matchesB (q : Query) (r : Row) : Bool := q.Where.all fun c => holdsB c r

theorem spec_l9Holds_eq (c : Cond) (r : Row) (h : Row_b r) : spec_l9Holds.f c r = some (holdsB c r) := by
  have hl : r.Cells.length ≤ 9223372036854775807 := h
  unfold spec_l9Holds.f holdsB
  rw [lenI_eq, w64_id (by omega), spec_l1In_eq, Option.bind_some, bo3_not]
  by_cases d : 0 ≤ c.Col ∧ c.Col ≤ (r.Cells.length : Int) - 1
  · rw [decide_eq_true d, Bool.not_true, cond_false, getO_Int d, Option.bind_some, Bool.true_and]
    simp only [cond_ite, decide_eq_true_eq, some_if, bo3_and, cmpB]
    all_goals ((repeat' split) <;> simp_all)
  · rw [decide_eq_false d, Bool.not_false, cond_true, Bool.false_and]

theorem spec_Matches_eq (q : Query) (r : Row) (hq : CondS_b q.Where) (h : Row_b r) : spec_Matches.f q r = some (matchesB q r) := by
  have hl : q.Where.length ≤ 9223372036854775807 := hq
  unfold spec_Matches.f
  refine (loop_all (f := spec_Matches.l0 q r) (l := q.Where) (fun _ c => holdsB c r) (some false) (some true) (fun k i x hx => ?_) (fun k i hi => ?_) _ 0 (by omega) (by (try simp only [lenI_eq]); omega)).trans ?_
  · have hi := at_lt hx
    rw [spec_Matches.l0, lenI_eq, decide_eq_true (by omega), cond_true, getO_nat, hx, Option.bind_some, spec_l9Holds_eq _ _ h, Option.bind_some, bo3_not, w64_succ (by omega)]
    cases holdsB x r <;> rfl
  · rw [spec_Matches.l0, lenI_eq, decide_eq_false (by omega), cond_false]
  · rw [allFrom_zero, matchesB]
    cases q.Where.all fun c => holdsB c r <;> rfl

def cellF (r : Row) (col : Int) : Int := if 0 ≤ col ∧ col ≤ (r.Cells.length : Int) - 1 then r.Cells.getD col.toNat 0 else 0
def aheadB (q : Query) (a b : Row) : Bool :=
  if q.Order = 0 then decide (a.Id < b.Id) else
    let x := cellF a (w64 (q.Order - 1)); let y := cellF b (w64 (q.Order - 1))
    if x = y then decide (a.Id < b.Id) else if q.Down then decide (y < x) else decide (x < y)

theorem spec_l9Cell_eq (r : Row) (col : Int) (h : Row_b r) : spec_l9Cell.f r col = some (cellF r col) := by
  have hl : r.Cells.length ≤ 9223372036854775807 := h
  unfold spec_l9Cell.f cellF
  rw [lenI_eq, w64_id (by omega), spec_l1In_eq, Option.bind_some, bo3_not]
  by_cases d : 0 ≤ col ∧ col ≤ (r.Cells.length : Int) - 1
  · rw [decide_eq_true d, Bool.not_true, cond_false, getO_Int d, Option.bind_some, if_pos d]
  · rw [decide_eq_false d, Bool.not_false, cond_true, if_neg d]

theorem spec_Ahead_eq (q : Query) (a b : Row) (ha : Row_b a) (hb : Row_b b) : spec_Ahead.f q a b = some (aheadB q a b) := by
  unfold spec_Ahead.f aheadB
  rw [spec_l9Cell_eq _ _ ha, spec_l9Cell_eq _ _ hb]
  simp only [Option.bind_some, cond_ite, decide_eq_true_eq, some_if, bo3_not, bo3_xor, ne_eq, ite_not]
  all_goals (
    generalize cellF a (w64 (q.Order - 1)) = x
    generalize cellF b (w64 (q.Order - 1)) = y
    by_cases h0 : q.Order = 0
    · simp [h0]
    · by_cases h1 : x = y
      · simp [h0, h1]
      · cases hd : q.Down with
        | true =>
          simp only [h0, h1, if_false, if_true, Option.some.injEq, decide_eq_true_eq]
          by_cases h2 : x < y
          · simp [h2]; try omega
          · simp [h2]; try omega
        | false =>
          simp only [h0, h1, if_false, Option.some.injEq, decide_eq_true_eq]
          by_cases h2 : x < y
          · simp [h2]; try omega
          · simp [h2]; try omega)

theorem row_len {r : Row} {B : Int} (h : sz_Row r ≤ B) : (r.Cells.length : Int) ≤ B := by unfold sz_Row sz_IntS at h; exact h

theorem spec_l6Copy_eq (r : Row) (h : sz_Row r ≤ 1099511627776) : spec_l6Copy.f r = some r := by
  have := row_len h
  unfold spec_l6Copy.f
  rw [appO_ok (by simp only [List.length_nil]; omega), Option.bind_some, List.nil_append]

def rowAtF : List Row → Int → Int → Int
  | [], _, _ => -1
  | r :: l, id, i => if r.Id = id then i else rowAtF l id (i + 1)

def isId (id : Int) (r : Row) : Bool := decide (r.Id = id)
def isGt (id : Int) (r : Row) : Bool := decide (id < r.Id)
def idxI (p : Row → Bool) (l : List Row) : Int := if l.findIdx p < l.length then (l.findIdx p : Int) else -1
def rowDropF (l : List Row) (id : Int) : List Row := l.eraseIdx (l.findIdx (isId id))
def rowPutF (l : List Row) (r : Row) : List Row := if l.findIdx (isId r.Id) < l.length then l.set (l.findIdx (isId r.Id)) r else l.take (l.findIdx (isGt r.Id)) ++ [r] ++ l.drop (l.findIdx (isGt r.Id))
theorem rowAtF_idx : ∀ (l : List Row) (id i : Int), rowAtF l id i = if l.findIdx (isId id) < l.length then i + (l.findIdx (isId id) : Int) else -1
  | [], _, _ => rfl
  | r :: l, id, i => by
    rw [rowAtF, rowAtF_idx l id (i + 1), List.findIdx_cons]
    by_cases e : r.Id = id
    · rw [if_pos e, isId, decide_eq_true e]; simp
    · rw [if_neg e, isId, decide_eq_false e]
      simp only [cond_false, List.length_cons]
      by_cases h : l.findIdx (isId id) < l.length
      · rw [if_pos h, if_pos (by omega)]; omega
      · rw [if_neg h, if_neg (by omega)]
theorem rowAt_0 (l : List Row) (id : Int) : rowAtF l id 0 = idxI (isId id) l := by
  rw [rowAtF_idx, idxI]
  split
  · omega
  · rfl
theorem idxI_nn {p : Row → Bool} {l : List Row} : 0 ≤ idxI p l ↔ l.findIdx p < l.length := by
  unfold idxI
  split
  · simp_all
  · simp_all
theorem idxI_pos {p : Row → Bool} {l : List Row} (h : l.findIdx p < l.length) : idxI p l = (l.findIdx p : Int) := if_pos h
theorem idxI_neg {p : Row → Bool} {l : List Row} (h : ¬ l.findIdx p < l.length) : idxI p l = -1 := if_neg h
theorem sum_append {α : Type} (s : α → Int) (a b : List α) : ((a ++ b).map s).sum = (a.map s).sum + (b.map s).sum := by rw [List.map_append, List.sum_append]
theorem sum_take_drop {α : Type} (s : α → Int) (l : List α) (k : Nat) : (l.map s).sum = ((l.take k).map s).sum + ((l.drop k).map s).sum := by rw [← sum_append, List.take_append_drop]
theorem sum_set {α : Type} {s : α → Int} (hs : ∀ x, 0 ≤ s x) (x : α) : ∀ (l : List α) (i : Nat), ((l.set i x).map s).sum ≤ (l.map s).sum + s x
  | [], i => by simp [hs x]
  | a :: l, 0 => by simp only [List.set_cons_zero, List.map_cons, List.sum_cons]; have := hs a; omega
  | a :: l, i + 1 => by simp only [List.set_cons_succ, List.map_cons, List.sum_cons]; have := sum_set hs x l i; omega
theorem sum_erase {α : Type} {s : α → Int} (hs : ∀ x, 0 ≤ s x) : ∀ (l : List α) (i : Nat), ((l.eraseIdx i).map s).sum ≤ (l.map s).sum
  | [], i => by simp
  | a :: l, 0 => by simp only [List.eraseIdx_cons_zero, List.map_cons, List.sum_cons]; have := hs a; omega
  | a :: l, i + 1 => by simp only [List.eraseIdx_cons_succ, List.map_cons, List.sum_cons]; have := sum_erase hs l i; omega
theorem rowDrop_len (l : List Row) (id : Int) : (rowDropF l id).length ≤ l.length := by unfold rowDropF; rw [List.length_eraseIdx]; split <;> omega
theorem rowDrop_sz (l : List Row) (id : Int) : sz_RowS (rowDropF l id) ≤ sz_RowS l := by
  have h1 := rowDrop_len l id
  have h2 := sum_erase sz_Row_0 l (l.findIdx (isId id))
  unfold sz_RowS
  unfold rowDropF at *
  omega
theorem rowPut_len (l : List Row) (r : Row) : (rowPutF l r).length ≤ l.length + 1 := by
  unfold rowPutF
  split
  · rw [List.length_set]; omega
  · simp; omega
theorem rowPut_sz (l : List Row) (r : Row) : sz_RowS (rowPutF l r) ≤ sz_RowS l + 1 + sz_Row r := by
  have h1 := rowPut_len l r
  unfold sz_RowS
  have h2 : ((rowPutF l r).map sz_Row).sum ≤ (l.map sz_Row).sum + sz_Row r := by
    unfold rowPutF
    split
    · exact sum_set sz_Row_0 r l _
    · rw [sum_append, sum_append, sum_take_drop sz_Row l (l.findIdx (isGt r.Id))]
      simp
      omega
  omega
theorem mem_rowDrop {l : List Row} {id : Int} {x : Row} (h : x ∈ rowDropF l id) : x ∈ l := List.mem_of_mem_eraseIdx h
theorem mem_rowPut {l : List Row} {r x : Row} (h : x ∈ rowPutF l r) : x = r ∨ x ∈ l := by
  unfold rowPutF at h
  split at h
  · rcases List.mem_or_eq_of_mem_set h with h | h
    · exact .inr h
    · exact .inl h
  · rcases List.mem_append.1 h with h | h
    · rcases List.mem_append.1 h with h | h
      · exact .inr (List.mem_of_mem_take h)
      · exact .inl (List.mem_singleton.1 h)
    · exact .inr (List.mem_of_mem_drop h)
theorem rowDrop_b {l : List Row} (h : RowS_b l) (id : Int) : RowS_b (rowDropF l id) := ⟨by have := rowDrop_len l id; have := h.1; omega, fun x hx => h.2 x (mem_rowDrop hx)⟩
theorem rowPut_b {l : List Row} (h : RowS_b l) (hl : l.length < 9223372036854775807) {r : Row} (hr : Row_b r) : RowS_b (rowPutF l r) := ⟨by have := rowPut_len l r; omega, fun x hx => by
  rcases mem_rowPut hx with rfl | hx
  · exact hr
  · exact h.2 x hx⟩
theorem findIdx_take {α : Type} (p : α → Bool) (l : List α) {i : Nat} {x : α} (hx : l[i]? = some x) : (l.take (i + 1)).findIdx p = if (l.take i).findIdx p < i then (l.take i).findIdx p else if p x then i else i + 1 := by
  have hi := at_lt hx
  have hl : (l.take i).length = i := by rw [List.length_take]; omega
  rw [take_snoc hx, List.findIdx_append, hl]
  by_cases h : (l.take i).findIdx p < i
  · rw [if_pos h, if_pos h]
  · rw [if_neg h, if_neg h]
    cases hp : p x <;> simp [List.findIdx_cons, hp] <;> omega

def putF (q : Query) (l : List Row) (r : Row) : List Row := l.take (l.findIdx (aheadB q r)) ++ [r] ++ l.drop (l.findIdx (aheadB q r))
theorem put_len (q : Query) (l : List Row) (r : Row) : (putF q l r).length = l.length + 1 := by
  have hle := List.findIdx_le_length (xs := l) (p := aheadB q r)
  simp [putF]; omega
theorem put_sz (q : Query) (l : List Row) (r : Row) : sz_RowS (putF q l r) = sz_RowS l + 1 + sz_Row r := by
  have h1 := put_len q l r
  unfold sz_RowS
  have h2 : ((putF q l r).map sz_Row).sum = (l.map sz_Row).sum + sz_Row r := by
    unfold putF
    rw [sum_append, sum_append, sum_take_drop sz_Row l (l.findIdx (aheadB q r))]
    simp
    omega
  omega
theorem mem_put {q : Query} {l : List Row} {r x : Row} (h : x ∈ putF q l r) : x = r ∨ x ∈ l := by
  unfold putF at h
  rcases List.mem_append.1 h with h | h
  · rcases List.mem_append.1 h with h | h
    · exact .inr (List.mem_of_mem_take h)
    · exact .inl (List.mem_singleton.1 h)
  · exact .inr (List.mem_of_mem_drop h)

theorem spec_l11Put_2 (q : Query) (l : List Row) (r : Row) (K : List Row → Bool → Int → Option (List Row)) : ∀ (k i : Nat) (acc : List Row), i ≤ l.length → l.length < i + k → (acc.length : Int) + (l.length - i : Nat) ≤ 1099511627777 → (l.length : Int) ≤ 1099511627776 →
    spec_l11Put.l0 q l r K k acc true i = K (acc ++ l.drop i) true l.length := by
  intro k
  induction k with
  | zero => intro i acc h h'; omega
  | succ k ih =>
    intro i acc h h' hz hl
    by_cases hi : i < l.length
    · have hx : l[i]? = some l[i] := List.getElem?_eq_getElem hi
      rw [spec_l11Put.l0, lenI_eq, decide_eq_true (by omega), cond_true, bo3_T, gd_false, Option.bind_some, gd_false, Option.bind_some, bo3_F, cond_false, getO_nat, hx, Option.bind_some, ltO, if_pos (by omega), Option.bind_some, Option.bind_some, appO_ok (by simp only [List.length_cons, List.length_nil]; omega), Option.bind_some, w64_succ (by omega), ih (i + 1) _ (by omega) (by omega) (by simp only [List.length_append, List.length_cons, List.length_nil]; omega) hl, List.drop_eq_getElem_cons hi]
      simp
    · obtain rfl : i = l.length := by omega
      rw [spec_l11Put.l0, lenI_eq, decide_eq_false (by omega), cond_false, List.drop_eq_nil_of_le (by omega), List.append_nil]
theorem spec_l11Put_1 (q : Query) (l : List Row) (r : Row) (hl : (l.length : Int) ≤ 1099511627776) (hb : ∀ x ∈ l, Row_b x) (hr : Row_b r) (hz : sz_Row r ≤ 1099511627776) : ∀ (k i : Nat), i ≤ l.length → l.length < i + k → ¬ (l.take i).findIdx (aheadB q r) < i →
    spec_l11Put.l0 q l r (fun y1 y2 y3 => bif (bo3 y2 false true) then (spec_l6Copy.f r).bind fun r48 => (some [r48]).bind fun l49 => (appO 32 y1 l49).bind fun l50 => some l50 else some y1) k (l.take i) false i = some (putF q l r) := by
  intro k
  induction k with
  | zero => intro i h h'; omega
  | succ k ih =>
    intro i h h' hn
    by_cases hi : i < l.length
    · have hx : l[i]? = some l[i] := List.getElem?_eq_getElem hi
      have ht : (l.take i).length = i := by rw [List.length_take]; omega
      obtain ⟨f1, f2⟩ := findIdx_takeA (aheadB q r) l hx hn
      rw [spec_l11Put.l0, lenI_eq, decide_eq_true (by omega), cond_true, bo3_F, gd_true, getO_nat, hx, Option.bind_some, gd_true, spec_Ahead_eq q r _ hr (hb _ (List.getElem_mem hi)), Option.bind_some, bo3_T, w64_succ (by omega)]
      cases hp : aheadB q r l[i] with
      | false =>
        rw [cond_false, Option.bind_some, ltO, if_pos (by omega), Option.bind_some, Option.bind_some, appO_ok (by simp only [ht, List.length_cons, List.length_nil]; omega), Option.bind_some, ← take_snoc hx]
        exact ih (i + 1) (by omega) (by omega) (f2 hp)
      | true =>
        rw [cond_true, spec_l6Copy_eq _ hz, Option.bind_some, Option.bind_some, appO_ok (by simp only [ht, List.length_cons, List.length_nil]; omega), Option.bind_some, Option.bind_some, ltO, if_pos (by omega), Option.bind_some, Option.bind_some, appO_ok (by simp only [List.length_append, ht, List.length_cons, List.length_nil]; omega), Option.bind_some, spec_l11Put_2 q l r _ k (i + 1) _ (by omega) (by omega) (by simp only [List.length_append, ht, List.length_cons, List.length_nil]; omega) hl, bo3_T, cond_false]
        unfold putF
        rw [f1 hp, List.drop_eq_getElem_cons hi]
        simp
    · rw [List.take_of_length_le (by omega)] at hn ⊢
      have hle := List.findIdx_le_length (xs := l) (p := aheadB q r)
      have e : l.findIdx (aheadB q r) = l.length := by omega
      rw [spec_l11Put.l0, lenI_eq, decide_eq_false (by omega), cond_false, bo3_F, cond_true, spec_l6Copy_eq _ hz, Option.bind_some, Option.bind_some, appO_ok (by simp only [List.length_cons, List.length_nil]; omega), Option.bind_some]
      unfold putF
      rw [e, List.take_length, List.drop_length, List.append_nil]
theorem spec_l11Put_eq (q : Query) (l : List Row) (r : Row) (hl : (l.length : Int) ≤ 1099511627776) (hb : ∀ x ∈ l, Row_b x) (hr : Row_b r) (hz : sz_Row r ≤ 1099511627776) : spec_l11Put.f q l r = some (putF q l r) := by
  unfold spec_l11Put.f
  simp only [joinK]
  have := spec_l11Put_1 q l r hl hb hr hz (((lenI l) - 0).toNat + 1) 0 (by omega) (by rw [lenI_eq]; omega) (by omega)
  rw [List.take_zero] at this
  exact this

def noStore : Store := ⟨⟨[]⟩, 0, []⟩
def tableB (s : Schema) (t : Int) : Bool := decide (0 ≤ t ∧ t ≤ (s.Cols.length : Int) - 1)
def tableOf (s : Store) (t : Int) : List Row := s.Tables.getD t.toNat []
def setTable (s : Store) (t : Int) (rows : List Row) : Store := ⟨s.Schema, s.Version, s.Tables.set t.toNat rows⟩
theorem table_rows {s : Store} (hs : storeB s = true) {t : Nat} (ht : t < s.Tables.length) : rowsB s.Schema t (tableOf s t) = true := by
  unfold tableOf
  rw [Int.toNat_natCast, List.getD_eq_getElem?_getD, List.getElem?_eq_getElem ht, Option.getD_some]
  exact store_table hs (List.getElem?_eq_getElem ht)
theorem setTable_b {s : Store} (bs : Store_b s) (t : Int) {rows : List Row} (h : RowS_b rows) : Store_b (setTable s t rows) := by
  refine ⟨bs.1, by unfold setTable; simpa using bs.2.1, fun x hx => ?_⟩
  rcases List.mem_or_eq_of_mem_set hx with hx | rfl
  · exact bs.2.2 x hx
  · exact h
theorem setTable_sz (s : Store) (t : Int) (rows : List Row) : sz_Store (setTable s t rows) ≤ sz_Store s + sz_RowS rows := by
  unfold sz_Store sz_RowSS setTable
  have := sum_set sz_RowS_0 rows s.Tables t.toNat
  simp only [List.length_set]
  omega
theorem tableOf_b {s : Store} (bs : Store_b s) (t : Int) : RowS_b (tableOf s t) := by
  unfold tableOf
  rw [List.getD_eq_getElem?_getD]
  cases h : s.Tables[t.toNat]? with
  | none => exact ⟨by simp, by simp⟩
  | some x => exact bs.2.2 x (List.mem_of_getElem? h)
theorem tableOf_sz (s : Store) (t : Int) : sz_RowS (tableOf s t) ≤ sz_Store s := by
  unfold tableOf sz_Store sz_RowSS
  have p1 := sz_Schema_0 s.Schema
  have p2 := sum_nonneg sz_RowS_0 s.Tables
  rw [List.getD_eq_getElem?_getD]
  cases h : s.Tables[t.toNat]? with
  | none => simp [sz_RowS]; omega
  | some x => have := sum_mem sz_RowS_0 (List.mem_of_getElem? h); simp only [Option.getD_some]; omega
theorem row_getD {rows : List Row} (h : RowS_b rows) (i : Nat) : Row_b (rows.getD i ⟨0, []⟩) ∧ sz_Row (rows.getD i ⟨0, []⟩) ≤ sz_RowS rows := by
  rw [List.getD_eq_getElem?_getD]
  have p := sum_nonneg sz_Row_0 rows
  unfold sz_RowS
  cases hx : rows[i]? with
  | none => exact ⟨by simp [Row_b, IntS_b], by simp [sz_Row, sz_IntS]; omega⟩
  | some x => have := sum_mem sz_Row_0 (List.mem_of_getElem? hx); exact ⟨h.2 x (List.mem_of_getElem? hx), by simp only [Option.getD_some]; omega⟩
theorem noStore_b : Store_b noStore ∧ sz_Store noStore = 0 := ⟨⟨by simp [Schema_b, IntS_b, noStore], by simp [noStore], by simp [noStore]⟩, by simp [sz_Store, sz_Schema, sz_IntS, sz_RowSS, noStore]⟩

def rowsFold (q : Query) (rows : List Row) (acc : List Row) : List Row := rows.foldl (fun acc r => if matchesB q r = true then putF q acc r else acc) acc
def rowsForF (s : Store) (q : Query) : List Row := if (storeB s && queryB s.Schema q) = true then rowsFold q (tableOf s q.Table) [] else []
theorem rowsFold_mem {q : Query} : ∀ {rows acc : List Row} {x : Row}, x ∈ rowsFold q rows acc → x ∈ rows ∨ x ∈ acc
  | [], acc, x, h => .inr h
  | r :: rows, acc, x, h => by
    have h : x ∈ rowsFold q rows (if matchesB q r = true then putF q acc r else acc) := h
    rcases rowsFold_mem h with h | h
    · exact .inl (List.mem_cons_of_mem _ h)
    · split at h
      · rcases mem_put h with rfl | h
        · exact .inl (List.mem_cons_self ..)
        · exact .inr h
      · exact .inr h
theorem rowsFold_len {q : Query} : ∀ (rows acc : List Row), (rowsFold q rows acc).length ≤ rows.length + acc.length
  | [], acc => by simp [rowsFold]
  | r :: rows, acc => by
    have e : rowsFold q (r :: rows) acc = rowsFold q rows (if matchesB q r = true then putF q acc r else acc) := rfl
    have := rowsFold_len (q := q) rows (if matchesB q r = true then putF q acc r else acc)
    rw [e]
    simp only [List.length_cons]
    split at this
    · rename_i h; rw [put_len] at this; rw [if_pos h]; omega
    · rename_i h; rw [if_neg h]; omega
theorem rowsFold_sz {q : Query} : ∀ (rows acc : List Row), sz_RowS (rowsFold q rows acc) ≤ sz_RowS rows + sz_RowS acc
  | [], acc => by have := sz_RowS_0 ([] : List Row); simp only [rowsFold, List.foldl_nil]; omega
  | r :: rows, acc => by
    have e : rowsFold q (r :: rows) acc = rowsFold q rows (if matchesB q r = true then putF q acc r else acc) := rfl
    have := rowsFold_sz (q := q) rows (if matchesB q r = true then putF q acc r else acc)
    have h1 : sz_RowS (r :: rows) = sz_RowS rows + 1 + sz_Row r := by unfold sz_RowS; simp only [List.length_cons, List.map_cons, List.sum_cons]; omega
    have h0 := sz_Row_0 r
    rw [e, h1]
    split at this
    · rename_i h; rw [put_sz] at this; rw [if_pos h]; omega
    · rename_i h; rw [if_neg h]; omega
theorem query_table {s : Schema} {q : Query} (h : queryB s q = true) : 0 ≤ q.Table ∧ q.Table ≤ (s.Cols.length : Int) - 1 := by
  unfold queryB at h
  simp only [Bool.and_eq_true, decide_eq_true_eq] at h
  exact h.1.2

theorem rowS_of_sz {l : List Row} (h : sz_RowS l ≤ 9223372036854775807) : RowS_b l := by
  unfold sz_RowS at h
  have p := sum_nonneg sz_Row_0 l
  exact ⟨by omega, fun x hx => by
    have := sum_mem sz_Row_0 hx
    have h2 : sz_Row x ≤ 9223372036854775807 := by omega
    unfold sz_Row sz_IntS at h2
    unfold Row_b IntS_b
    omega⟩
theorem store_of_sz {s : Store} (h : sz_Store s ≤ 9223372036854775807) : Store_b s := by
  unfold sz_Store sz_RowSS at h
  have p1 := sz_Schema_0 s.Schema
  have p2 := sum_nonneg sz_RowS_0 s.Tables
  refine ⟨?_, by omega, fun x hx => rowS_of_sz (by have := sum_mem sz_RowS_0 hx; omega)⟩
  have h2 : sz_Schema s.Schema ≤ 9223372036854775807 := by omega
  unfold sz_Schema sz_IntS at h2
  unfold Schema_b IntS_b
  omega
theorem sum_le {α : Type} {s : α → Int} {B : Int} : ∀ {l : List α}, (∀ x ∈ l, s x ≤ B) → (l.map s).sum ≤ l.length * B
  | [], _ => by simp
  | x :: l, h => by
    have h1 := h x (List.mem_cons_self ..)
    have h2 := sum_le (l := l) fun y hy => h y (List.mem_cons_of_mem _ hy)
    simp only [List.map_cons, List.sum_cons, List.length_cons]
    rw [show ((l.length + 1 : Nat) : Int) * B = l.length * B + B by rw [Int.natCast_add, Int.add_mul]; simp]
    omega
theorem rowB_sz {s : Schema} {t : Int} {r : Row} (h : rowB s t r = true) : sz_Row r ≤ 4 := by
  have hc := row_cells h
  unfold rowB at h
  simp only [Bool.and_eq_true, decide_eq_true_eq] at h
  obtain ⟨⟨⟨⟨hs, ht⟩, _⟩, _⟩, _⟩ := h
  unfold schemaB at hs
  rw [Bool.and_eq_true, List.all_eq_true] at hs
  have hlt : t.toNat < s.Cols.length := by omega
  have := of_decide_eq_true (hs.1 _ (List.getElem_mem hlt))
  rw [List.getD_eq_getElem?_getD, List.getElem?_eq_getElem hlt, Option.getD_some] at hc
  unfold sz_Row sz_IntS
  omega
theorem rowsB_sz {s : Schema} {t : Int} {rows : List Row} (h : rowsB s t rows = true) : sz_RowS rows ≤ 120 := by
  have hl := rows_len h
  have := sum_le (s := sz_Row) (B := 4) (l := rows) fun x hx => by
    obtain ⟨i, hi⟩ := List.getElem?_of_mem hx
    exact rowB_sz (rows_row h hi)
  unfold sz_RowS
  omega
theorem store_small {s : Store} (h : storeB s = true) : Store_b s ∧ sz_Store s ≤ 1000 := by
  have hz : sz_Store s ≤ 1000 := by
    obtain ⟨hl, hs⟩ := store_len h
    have h3 := schema_len hs
    have := sum_le (s := sz_RowS) (B := 120) (l := s.Tables) fun x hx => by
      obtain ⟨i, hi⟩ := List.getElem?_of_mem hx
      exact rowsB_sz (store_table h hi)
    unfold sz_Store sz_RowSS sz_Schema sz_IntS
    omega
  exact ⟨store_of_sz (by omega), hz⟩

theorem spec_RowsFor_l0 (q : Query) (hq : CondS_b q.Where) (rows : List Row) (hl : rows.length ≤ 24) (hr : ∀ r ∈ rows, Row_b r ∧ sz_Row r ≤ 4) : ∀ (k i : Nat) (acc : List Row), i ≤ rows.length → rows.length < i + k → acc.length ≤ i → (∀ x ∈ acc, Row_b x) → spec_RowsFor.l0 q rows k acc i = some (rowsFold q (rows.drop i) acc) := by
  intro k
  induction k with
  | zero => intro i acc h h'; omega
  | succ k ih =>
    intro i acc h h' ha hb
    rw [spec_RowsFor.l0, lenI_eq]
    by_cases hi : i < rows.length
    · obtain ⟨b1, z1⟩ := hr _ (List.getElem_mem hi)
      rw [decide_eq_true (by omega), cond_true, getO_nat, List.getElem?_eq_getElem hi, Option.bind_some, bnd_some (spec_Matches_eq q _ hq b1), List.drop_eq_getElem_cons hi, w64_succ (by omega)]
      show _ = some (rowsFold q (rows.drop (i + 1)) (if matchesB q rows[i] = true then putF q acc rows[i] else acc))
      cases hm : matchesB q rows[i] with
      | true =>
        rw [cond_true, bnd_some (spec_l11Put_eq q acc _ (by omega) hb b1 (by omega)), if_pos rfl]
        exact ih (i + 1) _ (by omega) (by omega) (by rw [put_len]; omega) fun x hx => by
          rcases mem_put hx with rfl | hx
          · exact b1
          · exact hb x hx
      | false =>
        rw [cond_false, if_neg (by simp)]
        exact ih (i + 1) _ (by omega) (by omega) (by omega) hb
    · rw [decide_eq_false (by omega), cond_false, List.drop_eq_nil_of_le (by omega)]
      rfl
theorem spec_RowsFor_eq (s : Store) (q : Query) (hs : Store_b s) (hq : Query_b q) : spec_RowsFor.f s q = some (rowsForF s q) := by
  unfold spec_RowsFor.f rowsForF
  rw [spec_StoreOk_eq _ hs, Option.bind_some, spec_QueryOk_eq _ _ hs.1 hq]
  cases h1 : storeB s with
  | false => rfl
  | true =>
    cases h2 : queryB s.Schema q with
    | false => rfl
    | true =>
      simp only [bo3_F, bo3_T, gd_true, Option.bind_some, cond_false, Bool.true_and, if_true]
      obtain ⟨t1, t2⟩ := query_table h2
      have hl := (store_len h1).1
      have ht : q.Table.toNat < s.Tables.length := by omega
      have hrows := table_rows h1 ht
      have hlen := rows_len hrows
      rw [show getO s.Tables q.Table = some (tableOf s q.Table) from getO_in (by omega), Option.bind_some]
      rw [Int.toNat_of_nonneg t1] at hrows hlen
      have := spec_RowsFor_l0 q hq.1 (tableOf s q.Table) hlen (fun r hr => by
        obtain ⟨i, hi⟩ := List.getElem?_of_mem hr
        have z := rowB_sz (rows_row hrows hi)
        exact ⟨by unfold Row_b IntS_b; unfold sz_Row sz_IntS at z; omega, z⟩) (((lenI (tableOf s q.Table)) - 0).toNat + 1) 0 [] (by omega) (by rw [lenI_eq]; omega) (by simp) (by simp)
      exact this
theorem rowsFor_small (s : Store) (q : Query) : (rowsForF s q).length ≤ 24 ∧ sz_RowS (rowsForF s q) ≤ 120 ∧ ∀ x ∈ rowsForF s q, Row_b x := by
  unfold rowsForF
  split
  · rename_i h
    rw [Bool.and_eq_true] at h
    obtain ⟨t1, t2⟩ := query_table h.2
    have hl := (store_len h.1).1
    have hrows := table_rows h.1 (t := q.Table.toNat) (by omega)
    rw [Int.toNat_of_nonneg t1] at hrows
    have hlen := rows_len hrows
    have hz := rowsB_sz hrows
    have z0 : sz_RowS ([] : List Row) = 0 := by simp [sz_RowS]
    have s1 := rowsFold_len (q := q) (tableOf s q.Table) []
    have s2 := rowsFold_sz (q := q) (tableOf s q.Table) []
    refine ⟨by simp only [List.length_nil] at s1; omega, by omega, fun x hx => ?_⟩
    rcases rowsFold_mem hx with hx | hx
    · obtain ⟨i, hi⟩ := List.getElem?_of_mem hx
      have z := rowB_sz (rows_row hrows hi)
      unfold Row_b IntS_b; unfold sz_Row sz_IntS at z; omega
    · simp at hx
  · simp [sz_RowS]

def countC (col : Nat) (id : Int) : List Row → Int → Int
  | [], n => n
  | r :: l, n => countC col id l (if r.Cells.getD col 0 = id then n + 1 else n)
def kidsOfF (s : Store) (q : Query) (id : Int) : Int :=
  if (storeB s && queryB s.Schema q && q.Kids) = true then countC q.KidCol.toNat id (s.Tables.getD q.KidTable.toNat []) 0 else 0
theorem query_kids {s : Schema} {q : Query} (h : queryB s q = true) (hk : q.Kids = true) : (0 ≤ q.KidTable ∧ q.KidTable ≤ (s.Cols.length : Int) - 1) ∧ (0 ≤ q.KidCol ∧ q.KidCol ≤ w64 (s.Cols.getD q.KidTable.toNat 0 - 1)) := by
  unfold queryB kidsB at h
  simp only [Bool.and_eq_true, decide_eq_true_eq, hk, if_true] at h
  exact h.2.2.2
theorem schema_col {s : Schema} (h : schemaB s = true) {i : Int} (hi : 0 ≤ i ∧ i ≤ (s.Cols.length : Int) - 1) : 1 ≤ s.Cols.getD i.toNat 0 ∧ s.Cols.getD i.toNat 0 ≤ 4 := by
  unfold schemaB at h
  rw [Bool.and_eq_true, List.all_eq_true] at h
  have hl : i.toNat < s.Cols.length := by omega
  rw [List.getD_eq_getElem?_getD, List.getElem?_eq_getElem hl]
  exact of_decide_eq_true (h.1 _ (List.getElem_mem hl))

def sz_View (x : View) : Int := sz_Query x.Q + sz_RowS x.Rows + sz_KidS x.Kids
def View_b (x : View) : Prop := Query_b x.Q ∧ RowS_b x.Rows ∧ KidS_b x.Kids
theorem sz_View_0 (x : View) : 0 ≤ sz_View x := by unfold sz_View; exact by have := sz_Query_0 x.Q; have := sz_RowS_0 x.Rows; have := sz_KidS_0 x.Kids;  omega
def View_r (x : View) : Prop := Query_r x.Q ∧ RowS_r x.Rows ∧ KidS_r x.Kids
def VB (v : View) : Prop := Query_b v.Q ∧ (∀ x ∈ v.Rows, Row_b x)
theorem VB_view {v : View} (h : VB v) (hz : sz_View v ≤ 9223372036854775807) : View_b v := by
  have p1 := sz_Query_0 v.Q
  have p2 := sz_RowS_0 v.Rows
  have p3 := sz_KidS_0 v.Kids
  have p4 := sum_nonneg sz_Row_0 v.Rows
  unfold sz_View at hz
  unfold sz_RowS at p2 hz
  unfold sz_KidS at p3 hz
  refine ⟨h.1, ⟨by omega, h.2⟩, ?_⟩
  unfold KidS_b
  omega

def kidsFold (col : Nat) (rows : List Row) (acc : List Kid) : List Kid := rows.foldl (fun ks r => kidPutF ks (r.Cells.getD col 0) 1) acc
def noQuery : Query := ⟨0, [], 0, false, 0, [], false, 0, 0⟩
def noView : View := ⟨noQuery, [], []⟩
def viewOfF (s : Store) (q : Query) : View × Bool :=
  if (storeB s && queryB s.Schema q) = true then (⟨q, rowsForF s q, if q.Kids = true then kidsFold q.KidCol.toNat (tableOf s q.KidTable) [] else []⟩, true) else (noView, false)
theorem kidsFold_len (col : Nat) : ∀ (rows : List Row) (acc : List Kid), (kidsFold col rows acc).length ≤ rows.length + acc.length
  | [], acc => by simp [kidsFold]
  | r :: rows, acc => by
    have e : kidsFold col (r :: rows) acc = kidsFold col rows (kidPutF acc (r.Cells.getD col 0) 1) := rfl
    have := kidsFold_len col rows (kidPutF acc (r.Cells.getD col 0) 1)
    have := kidPut_len acc (r.Cells.getD col 0) 1
    rw [e]
    simp only [List.length_cons]
    omega
theorem spec_ViewOf_l0 (q r11 : Query) (r12 rows : List Row) (hk : q.Kids = true) (hl : rows.length ≤ 24) (hc0 : 0 ≤ q.KidCol) (hc : ∀ r ∈ rows, q.KidCol < (r.Cells.length : Int)) : ∀ (k i : Nat) (acc : List Kid), i ≤ rows.length → rows.length < i + k → acc.length ≤ i → spec_ViewOf.l0 q r11 r12 rows k acc i = some (⟨r11, r12, kidsFold q.KidCol.toNat (rows.drop i) acc⟩, true) := by
  intro k
  induction k with
  | zero => intro i acc h h'; omega
  | succ k ih =>
    intro i acc h h' ha
    rw [spec_ViewOf.l0, lenI_eq, hk]
    by_cases hi : i < rows.length
    · have h1 := hc _ (List.getElem_mem hi)
      rw [decide_eq_true (by omega), show bo3 true true false = true from rfl, cond_true, getO_nat, List.getElem?_eq_getElem hi, Option.bind_some, show getO rows[i].Cells q.KidCol = some (rows[i].Cells.getD q.KidCol.toNat 0) from getO_Int ⟨hc0, by omega⟩, Option.bind_some, bnd_some (spec_KidPut_eq acc _ 1 (by omega)), w64_succ (by omega), List.drop_eq_getElem_cons hi]
      have := kidPut_len acc (rows[i].Cells.getD q.KidCol.toNat 0) 1
      exact ih (i + 1) _ (by omega) (by omega) (by omega)
    · rw [decide_eq_false (by omega), show bo3 false true false = false from rfl, cond_false, List.drop_eq_nil_of_le (by omega)]
      rfl
theorem spec_ViewOf_eq (s : Store) (q : Query) (hs : Store_b s) (hq : Query_b q) (hz : sz_Query q ≤ 1099511627776) : spec_ViewOf.f s q = some (viewOfF s q) := by
  unfold spec_ViewOf.f viewOfF
  rw [spec_StoreOk_eq _ hs, Option.bind_some, spec_QueryOk_eq _ _ hs.1 hq]
  cases h1 : storeB s with
  | false => rfl
  | true =>
    cases h2 : queryB s.Schema q with
    | false => rfl
    | true =>
      simp only [bo3_F, bo3_T, gd_true, Option.bind_some, cond_false, Bool.true_and, if_true]
      rw [bnd_some (spec_l9Copy_eq q hz), bnd_some (spec_RowsFor_eq s q hs hq)]
      obtain ⟨hl1, hl2⟩ := store_len h1
      have h3 := schema_len hl2
      cases hk : q.Kids with
      | true =>
        obtain ⟨hk1, hk2⟩ := query_kids h2 hk
        have hcol := schema_col hl2 hk1
        rw [w64_id (by omega)] at hk2
        have hrows := table_rows h1 (t := q.KidTable.toNat) (by omega)
        rw [Int.toNat_of_nonneg hk1.1] at hrows
        have hlen := rows_len hrows
        rw [show getO s.Tables q.KidTable = some (tableOf s q.KidTable) from getO_in (by omega), Option.bind_some, if_pos rfl]
        have := spec_ViewOf_l0 q q (rowsForF s q) (tableOf s q.KidTable) hk hlen hk2.1 (fun r hr => by
          obtain ⟨i, hi⟩ := List.getElem?_of_mem hr
          have hc := row_cells (rows_row hrows hi)
          omega) (((lenI (tableOf s q.KidTable)) - 0).toNat + 1) 0 [] (by omega) (by rw [lenI_eq]; omega) (by simp)
        exact this
      | false =>
        have h0 : q.KidTable = 0 := by
          unfold queryB kidsB at h2
          simp only [Bool.and_eq_true, decide_eq_true_eq, hk, if_false, Bool.false_eq_true] at h2
          exact h2.2.2.2.1
        have hpos : 0 < s.Tables.length := by
          unfold schemaB at hl2
          rw [Bool.and_eq_true, decide_eq_true_eq] at hl2
          omega
        rw [h0, show getO s.Tables 0 = some (s.Tables.getD 0 []) from getO_in (i := 0) (by omega), Option.bind_some, if_neg (by simp), spec_ViewOf.l0, hk]
        have : bo3 (decide ((0 : Int) < lenI (s.Tables.getD 0 []))) false false = false := by cases decide ((0 : Int) < lenI (s.Tables.getD 0 [])) <;> rfl
        rw [this, cond_false]
theorem viewOf_small (s : Store) (q : Query) (hq : Query_b q) : VB (viewOfF s q).1 ∧ sz_View (viewOfF s q).1 ≤ sz_Query q + 200 := by
  have q0 := sz_Query_0 q
  unfold viewOfF
  split
  · rename_i h
    rw [Bool.and_eq_true] at h
    obtain ⟨r1, r2, r3⟩ := rowsFor_small s q
    refine ⟨⟨hq, r3⟩, ?_⟩
    have hkl : (if q.Kids = true then kidsFold q.KidCol.toNat (tableOf s q.KidTable) [] else []).length ≤ 24 := by
      split
      · rename_i hk
        obtain ⟨hk1, _⟩ := query_kids h.2 hk
        have hl := (store_len h.1).1
        have hrows := table_rows h.1 (t := q.KidTable.toNat) (by omega)
        rw [Int.toNat_of_nonneg hk1.1] at hrows
        have hlen := rows_len hrows
        have := kidsFold_len q.KidCol.toNat (tableOf s q.KidTable) []
        simp only [List.length_nil] at this
        omega
      · simp
    unfold sz_View sz_KidS
    dsimp only
    omega
  · refine ⟨⟨by constructor <;> simp [noView, noQuery, CondS_b, IntS_b], by simp [noView]⟩, ?_⟩
    have : sz_View noView = 0 := by simp [sz_View, noView, noQuery, sz_Query, sz_CondS, sz_IntS, sz_RowS, sz_KidS]
    show sz_View noView ≤ _
    omega

theorem impl_within_eq (x y z : Int) : impl_within.f x y z = some (decide (y ≤ x ∧ x ≤ z)) := by
  unfold impl_within.f
  rw [bo3_and, Bool.decide_and]

theorem impl_SchemaOk_eq (s : Schema) (h : Schema_b s) : impl_SchemaOk.f s = some (schemaB s) := by
  have hl : s.Cols.length ≤ 9223372036854775807 := h
  unfold impl_SchemaOk.f joinK
  refine (loop_all (f := impl_SchemaOk.l0 s _) (l := s.Cols) (fun _ n => decide (1 ≤ n ∧ n ≤ 4)) (some false) (some (decide (1 ≤ (s.Cols.length : Int) ∧ (s.Cols.length : Int) ≤ 3))) (fun k i x hx => ?_) (fun k i hi => ?_) _ 0 (by omega) (by (try simp only [lenI_eq]); omega)).trans ?_
  · have hi := at_lt hx
    rw [impl_SchemaOk.l0, lenI_eq, decide_eq_true (by omega), cond_true, getO_nat, hx, Option.bind_some, impl_within_eq, Option.bind_some, bo3_not, w64_succ (by omega)]
    cases decide (1 ≤ x ∧ x ≤ 4) <;> rfl
  · rw [impl_SchemaOk.l0, lenI_eq, decide_eq_false (by omega), cond_false, impl_within_eq, Option.bind_some]
  · rw [allFrom_zero, schemaB]
    cases s.Cols.all fun n => decide (1 ≤ n ∧ n ≤ 4) <;> rfl

theorem impl_isVersion_eq (v : Int) : impl_isVersion.f v = some (decide (0 ≤ v ∧ v ≤ 100000)) := by
  unfold impl_isVersion.f
  rw [impl_within_eq, Option.bind_some]

theorem impl_hasTable_eq (s : Schema) (t : Int) (h : Schema_b s) : impl_hasTable.f s t = some (decide (0 ≤ t ∧ t ≤ (s.Cols.length : Int) - 1)) := by
  have hl : s.Cols.length ≤ 9223372036854775807 := h
  unfold impl_hasTable.f
  rw [lenI_eq, w64_id (by omega), impl_within_eq, Option.bind_some]

theorem impl_isNum_eq (n : Int) : impl_isNum.f n = some (decide (-1000000000 ≤ n ∧ n ≤ 1000000000)) := by
  unfold impl_isNum.f
  rw [impl_within_eq, Option.bind_some]

theorem impl_RowOk_eq (s : Schema) (t : Int) (r : Row) (hs : Schema_b s) (hr : Row_b r) : impl_RowOk.f s t r = some (rowB s t r) := by
  have hrl : r.Cells.length ≤ 9223372036854775807 := hr
  unfold impl_RowOk.f rowB
  simp only [joinK]
  refine (loop_all (f := impl_RowOk.l0 r _) (l := r.Cells) (fun _ n => decide (-1000000000 ≤ n ∧ n ≤ 1000000000)) (some false) (some (schemaB s && decide (0 ≤ t ∧ t ≤ (s.Cols.length : Int) - 1) && decide (1 ≤ r.Id ∧ r.Id ≤ 999) && decide ((r.Cells.length : Int) = s.Cols.getD t.toNat 0))) (fun k i x hx => ?_) (fun k i hi => ?_) _ 0 (by omega) (by (try simp only [lenI_eq]); omega)).trans ?_
  · have hi := at_lt hx
    rw [impl_RowOk.l0, lenI_eq, decide_eq_true (by omega), cond_true, getO_nat, hx, Option.bind_some, impl_isNum_eq, Option.bind_some, bo3_not, w64_succ (by omega)]
    cases decide (-1000000000 ≤ x ∧ x ≤ 1000000000) <;> rfl
  · rw [impl_RowOk.l0, lenI_eq, decide_eq_false (by omega), cond_false, impl_SchemaOk_eq _ hs, Option.bind_some, impl_hasTable_eq _ _ hs, impl_within_eq]
    cases schemaB s with
    | false => rfl
    | true =>
      by_cases d : 0 ≤ t ∧ t ≤ (s.Cols.length : Int) - 1
      case neg => rw [decide_eq_false d]; rfl
      rw [decide_eq_true d, getO_Int d]
      simp only [bo3_F, bo3_T, gd_true, Option.bind_some, Bool.true_and, gd_of, cond_true]
      by_cases d3 : (r.Cells.length : Int) = s.Cols.getD t.toNat 0
      · simp [d3, bo3]
      · simp [d3, bo3]; exact Bool.and_comm _ _
  · rw [allFrom_zero]
    cases r.Cells.all fun n => decide (-1000000000 ≤ n ∧ n ≤ 1000000000) <;> simp

theorem impl_RowsOk_eq (s : Schema) (t : Int) (rows : List Row) (hs : Schema_b s) (hr : RowS_b rows) : impl_RowsOk.f s t rows = some (rowsB s t rows) := by
  have hl : s.Cols.length ≤ 9223372036854775807 := hs
  obtain ⟨hrl, hr2⟩ := hr
  unfold impl_RowsOk.f rowsB
  simp only [joinK]
  refine (loop_all (f := impl_RowsOk.l0 s t rows _) (l := rows) (fun i r => rowB s t r && !(decide (0 < i) && decide (r.Id ≤ (rows.getD (i - 1) default).Id))) (some false) (some (schemaB s && decide (0 ≤ t ∧ t ≤ (s.Cols.length : Int) - 1) && decide (rows.length ≤ 24))) (fun k i x hx => ?_) (fun k i hi => ?_) _ 0 (by omega) (by (try simp only [lenI_eq]); omega)).trans ?_
  · have hi := at_lt hx
    rw [impl_RowsOk.l0, lenI_eq, decide_eq_true (by omega), cond_true, getO_nat, hx, Option.bind_some, impl_RowOk_eq _ _ _ hs (hr2 x (List.mem_of_getElem? hx)), Option.bind_some, prev_step hx (by omega), Option.bind_some, w64_succ (by omega)]
    rw [show decide (0 < (i : Int)) = decide (0 < i) from by simp]
    cases rowB s t x <;> cases decide (0 < i) <;> (try rfl)
    simp only [bo3_F, bo3_T, Bool.true_and, cond_true]
    by_cases e : x.Id ≤ (rows.getD (i - 1) default).Id
    · simp [e]
    · simp [e]
  · rw [impl_RowsOk.l0, lenI_eq, decide_eq_false (by omega), cond_false, impl_SchemaOk_eq _ hs, Option.bind_some]
    first | rw [impl_hasTable_eq _ _ hs] | rw [lenI_eq s.Cols, w64_id (by omega), spec_l1In_eq]
    have e24 : decide ((rows.length : Int) ≤ 24) = decide (rows.length ≤ 24) := by rw [decide_eq_decide]; omega
    simp only [lenI_eq, e24]
    generalize decide (0 ≤ t ∧ t ≤ (s.Cols.length : Int) - 1) = b1
    generalize decide (rows.length ≤ 24) = b2
    cases schemaB s <;> cases b1 <;> cases b2 <;> rfl
  · cases allFrom (fun i r => rowB s t r && !(decide (0 < i) && decide (r.Id ≤ (rows.getD (i - 1) default).Id))) rows 0 <;> rfl

theorem impl_version (v : Int) : impl_isVersion.f v = some (decide (0 ≤ v ∧ v ≤ 100000)) := impl_isVersion_eq v

theorem impl_StoreOk_eq (s : Store) (hb : Store_b s) : impl_StoreOk.f s = some (storeB s) := by
  obtain ⟨hs, ht, ht2⟩ := hb
  have hl : s.Schema.Cols.length ≤ 9223372036854775807 := hs
  unfold impl_StoreOk.f storeB
  rw [impl_SchemaOk_eq _ hs, Option.bind_some, impl_version]
  cases schemaB s.Schema with
  | false => rfl
  | true =>
    by_cases d : 0 ≤ s.Version ∧ s.Version ≤ 100000
    case neg => rw [decide_eq_false d]; rfl
    rw [decide_eq_true d]
    by_cases d2 : s.Tables.length = s.Schema.Cols.length
    case neg =>
      rw [show decide (lenI s.Tables ≠ lenI s.Schema.Cols) = true from decide_eq_true (by simp only [lenI_eq]; omega), decide_eq_false d2]
      rfl
    rw [show decide (lenI s.Tables ≠ lenI s.Schema.Cols) = false from decide_eq_false (by simp only [lenI_eq]; omega), decide_eq_true d2]
    simp only [bo3_F, bo3_T, gd_true, Option.bind_some, Bool.true_and, cond_false]
    refine (loop_all (f := impl_StoreOk.l0 s) (l := s.Tables) (fun i rows => rowsB s.Schema (i : Int) rows) (some false) (some true) (fun k i x hx => ?_) (fun k i hi => ?_) _ 0 (by omega) (by (try simp only [lenI_eq]); omega)).trans ?_
    · have hi := at_lt hx
      rw [impl_StoreOk.l0, lenI_eq, decide_eq_true (by omega), cond_true, getO_nat, hx, Option.bind_some, impl_RowsOk_eq _ _ _ hs (ht2 x (List.mem_of_getElem? hx)), Option.bind_some, bo3_not, w64_succ (by omega)]
      cases rowsB s.Schema i x <;> rfl
    · rw [impl_StoreOk.l0, lenI_eq, decide_eq_false (by omega), cond_false]
    · cases allFrom (fun i rows => rowsB s.Schema (i : Int) rows) s.Tables 0 <;> rfl

theorem impl_kidsFit_eq (s : Schema) (q : Query) (h : Schema_b s) : impl_kidsFit.f s q = some (kidsB s q) := by
  unfold impl_kidsFit.f kidsB
  rw [bo3_not]
  cases q.Kids with
  | false => simp [bo3_and]
  | true =>
    rw [Bool.not_true, cond_false, impl_hasTable_eq _ _ h, Option.bind_some, if_pos rfl]
    by_cases d : 0 ≤ q.KidTable ∧ q.KidTable ≤ (s.Cols.length : Int) - 1
    · rw [decide_eq_true d, gd_true, getO_Int d, Option.bind_some, gd_true, impl_within_eq, Option.bind_some, bo3_and]
    · rw [decide_eq_false d, gd_false, Option.bind_some, gd_false, Option.bind_some, bo3_and]
      rfl

theorem impl_QueryOk_eq (s : Schema) (q : Query) (h : Schema_b s) (hq : Query_b q) : impl_QueryOk.f s q = some (queryB s q) := by
  obtain ⟨hw, hs⟩ := hq
  have hwl : q.Where.length ≤ 9223372036854775807 := hw
  have hsl : q.Show.length ≤ 9223372036854775807 := hs
  unfold impl_QueryOk.f queryB
  rw [impl_SchemaOk_eq _ h, Option.bind_some]
  cases schemaB s with
  | false => rfl
  | true =>
    rw [show bo3 (bo3 true false true) false true = true from rfl, gd_true, impl_hasTable_eq _ _ h, Option.bind_some]
    by_cases d : 0 ≤ q.Table ∧ q.Table ≤ (s.Cols.length : Int) - 1
    case neg => rw [decide_eq_false d]; rfl
    rw [decide_eq_true d, show bo3 (bo3 true false true) true (bo3 true false true) = false from rfl, cond_false, getO_Int d, Option.bind_some]
    generalize s.Cols.getD q.Table.toNat 0 = cols
    simp only [joinK, Bool.true_and]
    refine (loop_all (f := impl_QueryOk.l0 q cols _) (l := q.Where) (fun _ c => condB cols c) (some false) (some (showB cols q.Show && (decide (q.Where.length ≤ 3) && decide (0 ≤ q.Order ∧ q.Order ≤ cols) && (!q.Down || decide (0 < q.Order)) && decide (0 ≤ q.First ∧ q.First ≤ 24) && kidsB s q))) (fun k i x hx => ?_) (fun k i hi => ?_) _ 0 (by omega) (by (try simp only [lenI_eq]); omega)).trans ?_
    · have hi := at_lt hx
      rw [impl_QueryOk.l0, lenI_eq, decide_eq_true (by omega), cond_true, getO_nat, hx, Option.bind_some, impl_within_eq, Option.bind_some, impl_within_eq, impl_isNum_eq, w64_succ (by omega)]
      unfold condB
      cases decide (0 ≤ x.Col ∧ x.Col ≤ w64 (cols - 1)) <;> cases decide (1 ≤ x.Op ∧ x.Op ≤ 4) <;> cases decide (-1000000000 ≤ x.V ∧ x.V ≤ 1000000000) <;> rfl
    · rw [impl_QueryOk.l0, lenI_eq, decide_eq_false (by omega), cond_false]
      refine (loop_all (f := impl_QueryOk.l1 q cols _) (l := q.Show) (fun i x => decide (0 ≤ x ∧ x ≤ w64 (cols - 1)) && !(decide (0 < i) && decide (x ≤ q.Show.getD (i - 1) 0))) (some false) (some (decide (q.Where.length ≤ 3) && decide (0 ≤ q.Order ∧ q.Order ≤ cols) && (!q.Down || decide (0 < q.Order)) && decide (0 ≤ q.First ∧ q.First ≤ 24) && kidsB s q)) (fun k i x hx => ?_) (fun k i hi => ?_) _ 0 (by omega) (by (try simp only [lenI_eq]); omega)).trans ?_
      · have hi := at_lt hx
        rw [impl_QueryOk.l1, lenI_eq, decide_eq_true (by omega), cond_true, getO_nat, hx, Option.bind_some, impl_within_eq, Option.bind_some, show_step hx (by omega), Option.bind_some, w64_succ (by omega)]
        rw [show decide (0 < (i : Int)) = decide (0 < i) from by simp]
        cases decide (0 ≤ x ∧ x ≤ w64 (cols - 1)) <;> cases decide (0 < i) <;> (try rfl)
        simp only [bo3_and, bo3_not, bo3_or, Bool.not_true, Bool.not_false, Bool.true_and, cond_true]
        cases decide (x ≤ q.Show.getD (i - 1) 0) <;> rfl
      · rw [impl_QueryOk.l1, lenI_eq, decide_eq_false (by omega), cond_false, impl_within_eq, Option.bind_some, impl_within_eq, impl_kidsFit_eq _ _ h]
        rw [show decide ((q.Where.length : Int) ≤ 3) = decide (q.Where.length ≤ 3) from by simp; omega]
        cases decide (q.Where.length ≤ 3) <;> cases decide (0 ≤ q.Order ∧ q.Order ≤ cols) <;> cases q.Down <;> cases decide (0 < q.Order) <;> cases decide (0 ≤ q.First ∧ q.First ≤ 24) <;> cases kidsB s q <;> rfl
      · unfold showB
        cases allFrom (fun i x => decide (0 ≤ x ∧ x ≤ w64 (cols - 1)) && !(decide (0 < i) && decide (x ≤ q.Show.getD (i - 1) 0))) q.Show 0 <;> rfl
    · rw [allFrom_zero]
      cases q.Where.all fun c => condB cols c <;> simp

theorem impl_holds_eq (c : Cond) (r : Row) (h : Row_b r) : impl_holds.f c r = some (holdsB c r) := by
  have hl : r.Cells.length ≤ 9223372036854775807 := h
  unfold impl_holds.f holdsB
  rw [lenI_eq, w64_id (by omega), impl_within_eq, Option.bind_some, bo3_not]
  by_cases d : 0 ≤ c.Col ∧ c.Col ≤ (r.Cells.length : Int) - 1
  · rw [decide_eq_true d, Bool.not_true, cond_false, getO_Int d, Option.bind_some, Bool.true_and]
    simp only [cond_ite, decide_eq_true_eq, some_if, bo3_and, cmpB]
    all_goals ((repeat' split) <;> simp_all)
  · rw [decide_eq_false d, Bool.not_false, cond_true, Bool.false_and]

theorem impl_Matches_eq (q : Query) (r : Row) (hq : CondS_b q.Where) (h : Row_b r) : impl_Matches.f q r = some (matchesB q r) := by
  have hl : q.Where.length ≤ 9223372036854775807 := hq
  unfold impl_Matches.f
  refine (loop_all (f := impl_Matches.l0 q r) (l := q.Where) (fun _ c => holdsB c r) (some false) (some true) (fun k i x hx => ?_) (fun k i hi => ?_) _ 0 (by omega) (by (try simp only [lenI_eq]); omega)).trans ?_
  · have hi := at_lt hx
    rw [impl_Matches.l0, lenI_eq, decide_eq_true (by omega), cond_true, getO_nat, hx, Option.bind_some, impl_holds_eq _ _ h, Option.bind_some, bo3_not, w64_succ (by omega)]
    cases holdsB x r <;> rfl
  · rw [impl_Matches.l0, lenI_eq, decide_eq_false (by omega), cond_false]
  · rw [allFrom_zero, matchesB]
    cases q.Where.all fun c => holdsB c r <;> rfl

theorem impl_copyInts_eq (l : List Int) (h : (l.length : Int) ≤ 1099511627776) : impl_copyInts.f l = some l := by
  unfold impl_copyInts.f
  rw [appO_ok (by simp only [List.length_nil]; omega), Option.bind_some, List.nil_append]

theorem impl_copyRow_eq (r : Row) (h : sz_Row r ≤ 1099511627776) : impl_copyRow.f r = some r := by
  unfold impl_copyRow.f
  rw [impl_copyInts_eq _ (row_len h), Option.bind_some]

theorem impl_cellOf_eq (r : Row) (col : Int) (h : Row_b r) : impl_cellOf.f r col = some (cellF r col) := by
  have hl : r.Cells.length ≤ 9223372036854775807 := h
  unfold impl_cellOf.f cellF
  rw [lenI_eq, w64_id (by omega), impl_within_eq, Option.bind_some, bo3_not]
  by_cases d : 0 ≤ col ∧ col ≤ (r.Cells.length : Int) - 1
  · rw [decide_eq_true d, Bool.not_true, cond_false, getO_Int d, Option.bind_some, if_pos d]
  · rw [decide_eq_false d, Bool.not_false, cond_true, if_neg d]

theorem impl_Ahead_eq (q : Query) (a b : Row) (ha : Row_b a) (hb : Row_b b) : impl_Ahead.f q a b = some (aheadB q a b) := by
  unfold impl_Ahead.f aheadB
  rw [impl_cellOf_eq _ _ ha, impl_cellOf_eq _ _ hb]
  simp only [Option.bind_some, cond_ite, decide_eq_true_eq, some_if, bo3_not, bo3_xor, ne_eq, ite_not]
  all_goals (
    generalize cellF a (w64 (q.Order - 1)) = x
    generalize cellF b (w64 (q.Order - 1)) = y
    by_cases h0 : q.Order = 0
    · simp [h0]
    · by_cases h1 : x = y
      · simp [h0, h1]
      · cases hd : q.Down with
        | true =>
          simp only [h0, h1, if_false, if_true, Option.some.injEq, decide_eq_true_eq]
          by_cases h2 : x < y
          · simp [h2]; try omega
          · simp [h2]; try omega
        | false =>
          simp only [h0, h1, if_false, Option.some.injEq, decide_eq_true_eq]
          by_cases h2 : x < y
          · simp [h2]; try omega
          · simp [h2]; try omega)

theorem ahead_iff (q : Query) (a b : Row) : aheadB q a b = true ↔ (q.Order = 0 ∧ a.Id < b.Id) ∨ (q.Order ≠ 0 ∧ ((cellF a (w64 (q.Order - 1)) = cellF b (w64 (q.Order - 1)) ∧ a.Id < b.Id) ∨ (q.Down = true ∧ cellF b (w64 (q.Order - 1)) < cellF a (w64 (q.Order - 1))) ∨ (q.Down = false ∧ cellF a (w64 (q.Order - 1)) < cellF b (w64 (q.Order - 1))))) := by
  unfold aheadB
  by_cases h0 : q.Order = 0
  · rw [if_pos h0, decide_eq_true_eq]
    exact ⟨fun h => .inl ⟨h0, h⟩, fun h => h.elim (fun h => h.2) (fun h => absurd h0 h.1)⟩
  · rw [if_neg h0]
    dsimp only
    generalize cellF a (w64 (q.Order - 1)) = x
    generalize cellF b (w64 (q.Order - 1)) = y
    by_cases e : x = y
    · rw [if_pos e, decide_eq_true_eq]
      constructor
      · exact fun h => .inr ⟨h0, .inl ⟨e, h⟩⟩
      · rintro (h | ⟨_, h | h | h⟩)
        · exact absurd h.1 h0
        · exact h.2
        · omega
        · omega
    · rw [if_neg e]
      cases q.Down with
      | true =>
        rw [if_pos rfl, decide_eq_true_eq]
        constructor
        · exact fun h => .inr ⟨h0, .inr (.inl ⟨rfl, h⟩)⟩
        · rintro (h | ⟨_, h | h | h⟩)
          · exact absurd h.1 h0
          · exact absurd h.1 e
          · exact h.2
          · cases h.1
      | false =>
        rw [if_neg (by simp), decide_eq_true_eq]
        constructor
        · exact fun h => .inr ⟨h0, .inr (.inr ⟨rfl, h⟩)⟩
        · rintro (h | ⟨_, h | h | h⟩)
          · exact absurd h.1 h0
          · exact absurd h.1 e
          · cases h.1
          · exact h.2
theorem ahead_irr (q : Query) (a : Row) : aheadB q a a = false := by
  rw [← Bool.not_eq_true, ahead_iff]
  omega
theorem ahead_asym {q : Query} {a b : Row} (h : aheadB q a b = true) : aheadB q b a = false := by
  rw [← Bool.not_eq_true, ahead_iff]
  rw [ahead_iff] at h
  cases hd : q.Down <;> simp only [hd, true_and, false_and, false_or, or_false, Bool.false_eq_true, Bool.true_eq_false] at h ⊢ <;> omega
theorem ahead_total {q : Query} {a b : Row} (hi : a.Id ≠ b.Id) (h : aheadB q a b = false) : aheadB q b a = true := by
  rw [ahead_iff]
  rw [← Bool.not_eq_true, ahead_iff] at h
  cases hd : q.Down <;> simp only [hd, true_and, false_and, false_or, or_false, Bool.false_eq_true, Bool.true_eq_false] at h ⊢ <;> omega
theorem ahead_trans {q : Query} {a b c : Row} (h1 : aheadB q a b = true) (h2 : aheadB q b c = true) : aheadB q a c = true := by
  rw [ahead_iff] at *
  cases hd : q.Down <;> simp only [hd, true_and, false_and, false_or, or_false, Bool.false_eq_true, Bool.true_eq_false] at h1 h2 ⊢ <;> omega

section
variable {α : Type}
theorem getO_app {A B : List α} {x : α} {i : Int} (h : i = A.length) : getO (A ++ x :: B) i = some x := by
  subst h; rw [getO_nat, List.getElem?_append_right (Nat.le_refl _), Nat.sub_self]; rfl
theorem setI_app {A B : List α} {x y : α} {i : Int} (h : i = A.length) : setI (A ++ x :: B) i y = A ++ y :: B := by
  subst h; rw [setI_nat, List.set_append_right _ _ (Nat.le_refl _), Nat.sub_self]; rfl
theorem mid_eq (A B C : List α) (x y : α) : A ++ x :: (B ++ y :: C) = (A ++ x :: B) ++ y :: C := by simp
theorem getO_mid {A B C : List α} {x y : α} {j : Int} (h : j = A.length + 1 + B.length) : getO (A ++ x :: (B ++ y :: C)) j = some y := by
  rw [mid_eq]; exact getO_app (by simp; omega)
theorem swapA {A B C : List α} {x y : α} {i j : Int} (hi : i = A.length) (hj : j = A.length + 1 + B.length) : setI (setI (A ++ x :: (B ++ y :: C)) i y) j x = A ++ y :: (B ++ x :: C) := by
  rw [setI_app hi, mid_eq, setI_app (by simp; omega), ← mid_eq]
theorem swapB {A B C : List α} {x y : α} {i j : Int} (hi : i = A.length) (hj : j = A.length + 1 + B.length) : setI (setI (A ++ x :: (B ++ y :: C)) j x) i y = A ++ y :: (B ++ x :: C) := by
  rw [mid_eq, setI_app (by simp; omega), ← mid_eq, setI_app hi]
theorem neO_ok {i j : Int} (h : i ≠ j) : neO i j = some () := by unfold neO; rw [if_neg h]
theorem getO_seg {A B C : List α} {c : Nat} (h1 : A.length ≤ c) (h2 : c < A.length + B.length) : getO (A ++ (B ++ C)) (c : Int) = B[c - A.length]? := by
  rw [getO_nat, List.getElem?_append_right h1, List.getElem?_append_left (by omega)]
/-- A search by halves. -/
theorem bsearch {R : Type} {f : Nat → Int → Int → R} {K : Int → R} (B : Nat → Bool) (lo hi : Nat) (mono : ∀ c c', lo ≤ c → c ≤ c' → c' < hi → B c = false → B c' = false)
    (hstep : ∀ k (i j : Nat), lo ≤ i → i < j → j ≤ hi → f (k + 1) i j = if B ((i + j) / 2) = true then f k (((i + j) / 2 + 1 : Nat) : Int) j else f k i (((i + j) / 2 : Nat) : Int)) (hend : ∀ k (i : Nat), f (k + 1) i i = K i) :
    ∀ (k i j : Nat), lo ≤ i → i ≤ j → j ≤ hi → j - i < k → ∃ t : Nat, i ≤ t ∧ t ≤ j ∧ f k i j = K t ∧ (∀ c, i ≤ c → c < t → B c = true) ∧ (∀ c, t ≤ c → c < j → B c = false) := by
  intro k
  induction k with
  | zero => intro i j _ _ _ h; omega
  | succ k ih =>
    intro i j h1 h2 h3 h4
    by_cases hij : i < j
    · rw [hstep k i j h1 hij h3]
      cases hb : B ((i + j) / 2) with
      | true =>
        rw [if_pos rfl]
        obtain ⟨t, t1, t2, t3, t4, t5⟩ := ih ((i + j) / 2 + 1) j (by omega) (by omega) h3 (by omega)
        refine ⟨t, by omega, t2, t3, fun c c1 c2 => ?_, t5⟩
        by_cases hc : (i + j) / 2 + 1 ≤ c
        · exact t4 c hc c2
        · cases hx : B c with
          | true => rfl
          | false => rw [mono c ((i + j) / 2) (by omega) (by omega) (by omega) hx] at hb; cases hb
      | false =>
        rw [if_neg (by simp)]
        obtain ⟨t, t1, t2, t3, t4, t5⟩ := ih i ((i + j) / 2) h1 (by omega) (by omega) (by omega)
        refine ⟨t, t1, by omega, t3, t4, fun c c1 c2 => ?_⟩
        by_cases hc : c < (i + j) / 2
        · exact t5 c c1 hc
        · exact mono _ c (by omega) (by omega) (by omega) hb
    · obtain rfl : i = j := by omega
      exact ⟨i, Nat.le_refl _, Nat.le_refl _, hend k i, fun c c1 c2 => by omega, fun c c1 c2 => by omega⟩
theorem half_eq {x : Int} {n : Nat} (h : x = n) (hn : n ≤ 9223372036854775807) : w64 (Ls.ar .shr .u64 (IntKind.wrap .u64 (w64 x)) 1) = ((n / 2 : Nat) : Int) := by
  subst h
  have e0 : w64 (n : Int) = n := w64_id (by omega)
  have e : IntKind.wrap .u64 (n : Int) = n := by simp [IntKind.wrap, IntKind.signed, IntKind.bits]; omega
  rw [e0, e]
  have e2 : Ls.ar .shr .u64 (n : Int) 1 = (n : Int) / 2 := by
    show Int.fdiv (n : Int) (2 ^ min (1 : Int).toNat IntKind.u64.bits) = _
    have : (2 : Int) ^ min (1 : Int).toNat IntKind.u64.bits = 2 := by decide
    rw [this, Int.fdiv_eq_ediv_of_nonneg _ (by omega)]
  rw [e2, w64_id (by omega)]
  omega
end
/-- Sorted, and of two Ids each. -/
def Srt (q : Query) (l : List Row) : Prop := l.Pairwise fun a b => aheadB q a b = true
def Dst (l : List Row) : Prop := l.Pairwise fun a b => a.Id ≠ b.Id
theorem Dst.perm {l l' : List Row} (h : Dst l) (p : l.Perm l') : Dst l' := (p.pairwise_iff (fun h e => h e.symm)).1 h
theorem Dst.app {l l' : List Row} (h : Dst (l ++ l')) : Dst l ∧ Dst l' ∧ ∀ a ∈ l, ∀ b ∈ l', a.Id ≠ b.Id := List.pairwise_append.1 h
theorem Srt.unique {q : Query} {l l' : List Row} (h : Srt q l) (h' : Srt q l') (p : l.Perm l') : l = l' :=
  List.Perm.eq_of_pairwise (fun a b _ _ h1 h2 => by rw [ahead_asym h1] at h2; cases h2) h h' p
theorem Srt.app {q : Query} {l l' : List Row} : Srt q (l ++ l') ↔ Srt q l ∧ Srt q l' ∧ ∀ a ∈ l, ∀ b ∈ l', aheadB q a b = true := List.pairwise_append
theorem Srt.at {q : Query} {l : List Row} (h : Srt q l) {i j : Nat} {x y : Row} (hij : i < j) (hx : l[i]? = some x) (hy : l[j]? = some y) : aheadB q x y = true := by
  obtain ⟨h1, rfl⟩ := List.getElem?_eq_some_iff.1 hx
  obtain ⟨h2, rfl⟩ := List.getElem?_eq_some_iff.1 hy
  exact List.pairwise_iff_getElem.1 h i j h1 h2 hij

theorem impl_RowsFor_1_eq (a b : Row) (q : Query) (ha : Row_b a) (hb : Row_b b) : impl_RowsFor_1.f a b q = some (if aheadB q a b = true then -1 else 1) := by
  unfold impl_RowsFor_1.f
  rw [impl_Ahead_eq q a b ha hb, Option.bind_some]
  cases aheadB q a b <;> rfl

theorem insSort_l1 (a1 : Int) (q : Query) (K : List Row → Option (List Row)) : ∀ (k : Nat) (n : Nat) (P S1 S2 R : List Row) (x : Row) (j : Int), S1.length = n → n < k → a1 = P.length → j = P.length + S1.length → (P ++ (S1 ++ x :: (S2 ++ R))).length ≤ 1000000 →
    (∀ y ∈ S1 ++ x :: S2, Row_b y) → Dst (S1 ++ x :: S2) → Srt q (S1 ++ S2) → (∀ y ∈ S2, aheadB q x y = true) →
    ∃ S', slices_insertionSortCmpFunc_impl_Row__impl_RowsFor_1.l1 a1 q K k (P ++ (S1 ++ x :: (S2 ++ R))) j = K (P ++ (S' ++ R)) ∧ S'.Perm (S1 ++ x :: S2) ∧ Srt q S' := by
  intro k
  induction k with
  | zero => intro n P S1 S2 R x j _ h; omega
  | succ k ih =>
    intro n P S1 S2 R x j hn hk h1 h2 hlen hb hd hs hx
    simp only [List.length_append, List.length_cons] at hlen
    rw [slices_insertionSortCmpFunc_impl_Row__impl_RowsFor_1.l1]
    have fin : Srt q (S1 ++ x :: S2) → ∃ S', K (P ++ (S1 ++ x :: (S2 ++ R))) = K (P ++ (S' ++ R)) ∧ S'.Perm (S1 ++ x :: S2) ∧ Srt q S' := fun h => ⟨S1 ++ x :: S2, by simp, List.Perm.refl _, h⟩
    cases n with
    | zero =>
      obtain rfl := List.length_eq_zero_iff.1 hn
      rw [decide_eq_false (by simp at h2; omega), gd_false, Option.bind_some, gd_false, Option.bind_some, gd_false, Option.bind_some, bo3_F, cond_false]
      exact fin (List.pairwise_cons.2 ⟨hx, hs⟩)
    | succ n =>
      obtain ⟨S, y, rfl⟩ : ∃ S y, S1 = S ++ [y] := ⟨S1.dropLast, S1.getLast (by rintro rfl; simp at hn), (List.dropLast_concat_getLast _).symm⟩
      simp only [List.length_append, List.length_cons, List.length_nil] at hn h2 hlen
      have hpos : (P ++ (S ++ [y] ++ x :: (S2 ++ R))) = (P ++ S) ++ y :: ([] ++ x :: (S2 ++ R)) := by simp
      have lps : (P ++ S).length = P.length + S.length := List.length_append
      have e1 : getO (P ++ (S ++ [y] ++ x :: (S2 ++ R))) j = some x := by rw [hpos]; exact getO_mid (by simp only [List.length_nil]; omega)
      have e2 : getO (P ++ (S ++ [y] ++ x :: (S2 ++ R))) (w64 (j - 1)) = some y := by rw [hpos, w64_id (by omega)]; exact getO_app (by omega)
      have by_ : Row_b y := hb y (by simp)
      have bx : Row_b x := hb x (by simp)
      rw [decide_eq_true (by omega), e1, gd_true, Option.bind_some, e2, gd_true, Option.bind_some, gd_true, impl_RowsFor_1_eq x y q bx by_, Option.bind_some, bo3_T, Option.bind_some, Option.bind_some]
      cases hc : aheadB q x y with
      | true =>
        rw [if_pos rfl, decide_eq_true (by omega), cond_true, neO_ok (by rw [w64_id (by omega)]; omega), Option.bind_some, Option.bind_some, hpos, w64_id (by omega), swapB (by omega) (by simp only [List.length_nil]; omega)]
        obtain ⟨S', g1, g2, g3⟩ := ih n P S (y :: S2) R x (j - 1) (by omega) (by omega) h1 (by omega) (by simp only [List.length_append, List.length_cons]; omega) (fun z hz => hb z (by simp at hz ⊢; rcases hz with h | h | h | h <;> simp [h])) (hd.perm (by simpa using List.Perm.append_left S (List.Perm.swap x y S2))) (by simpa using hs) (fun z hz => by
          rcases List.mem_cons.1 hz with rfl | h
          · exact hc
          · exact hx z h)
        refine ⟨S', ?_, g2.trans (by simpa using List.Perm.append_left S (List.Perm.swap y x S2)), g3⟩
        rw [← g1]; simp
      | false =>
        rw [if_neg (by simp), decide_eq_false (by omega), cond_false]
        have hne : x.Id ≠ y.Id := fun e => (hd.app.2.2 y (by simp) x (by simp)) e.symm
        have hyx := ahead_total hne hc
        refine fin (Srt.app.2 ⟨(Srt.app.1 hs).1, List.pairwise_cons.2 ⟨hx, (Srt.app.1 hs).2.1⟩, fun a ha b hb' => ?_⟩)
        have hax : aheadB q a x = true := by
          rcases List.mem_append.1 ha with h | h
          · exact ahead_trans ((Srt.app.1 (Srt.app.1 hs).1).2.2 a h y (by simp)) hyx
          · rw [List.mem_singleton.1 h]; exact hyx
        rcases List.mem_cons.1 hb' with rfl | h
        · exact hax
        · exact ahead_trans hax (hx b h)
theorem insSort_l0 (a1 a2 : Int) (q : Query) : ∀ (k : Nat) (P S T R : List Row) (i : Int), T.length < k → a1 = P.length → i = P.length + S.length → a2 = P.length + S.length + T.length → (P ++ (S ++ (T ++ R))).length ≤ 1000000 →
    (∀ y ∈ S ++ T, Row_b y) → Dst (S ++ T) → Srt q S →
    ∃ S', slices_insertionSortCmpFunc_impl_Row__impl_RowsFor_1.l0 a1 a2 q k (P ++ (S ++ (T ++ R))) i = some (P ++ (S' ++ R)) ∧ S'.Perm (S ++ T) ∧ Srt q S' := by
  intro k
  induction k with
  | zero => intro P S T R i h; omega
  | succ k ih =>
    intro P S T R i hk h1 h2 h3 hlen hb hd hs
    have hlen0 := hlen
    simp only [List.length_append] at hlen
    rw [slices_insertionSortCmpFunc_impl_Row__impl_RowsFor_1.l0]
    cases T with
    | nil =>
      simp only [List.length_nil] at h3
      rw [decide_eq_false (by omega), cond_false]
      exact ⟨S, by simp, by simp, hs⟩
    | cons x T =>
      simp only [List.length_cons] at h3 hlen hk
      rw [decide_eq_true (by omega), cond_true, joinK_eq]
      have hd' : Dst (S ++ [x] ++ T) := by simpa using hd
      obtain ⟨S', g1, g2, g3⟩ := insSort_l1 a1 q (fun y17 => slices_insertionSortCmpFunc_impl_Row__impl_RowsFor_1.l0 a1 a2 q k y17 (w64 (i + 1))) ((i - a1).toNat + 1) S.length P S [] (T ++ R) x i rfl (by omega) h1 h2 (by simp only [List.length_append, List.length_cons, List.length_nil]; omega) (fun y hy => hb y (by simp at hy ⊢; rcases hy with h | h <;> simp [h])) (by simpa using hd'.app.1) (by simpa using hs) (by simp)
      have ls : S'.length = S.length + 1 := by rw [g2.length_eq]; simp
      have gp : S'.Perm (S ++ [x]) := by simpa using g2
      rw [List.nil_append] at g1
      rw [show P ++ (S ++ (x :: T ++ R)) = P ++ (S ++ x :: (T ++ R)) by simp, g1, w64_id (by omega)]
      obtain ⟨S'', f1, f2, f3⟩ := ih P S' T R (i + 1) (by omega) h1 (by omega) (by omega) (by simp only [List.length_append]; omega) (fun y hy => by
        rcases List.mem_append.1 hy with h | h
        · have := gp.mem_iff.1 h
          exact hb y (by simp at this ⊢; rcases this with h | h <;> simp [h])
        · exact hb y (by simp [h])) (hd'.perm (gp.symm.append_right T)) g3
      exact ⟨S'', f1, f2.trans (by simpa using gp.append_right T), f3⟩
theorem insSort_eq {a1 a2 : Int} (q : Query) {P T R : List Row} (h1 : a1 = P.length) (h2 : a2 = P.length + T.length) (hlen : (P ++ (T ++ R)).length ≤ 1000000) (hb : ∀ y ∈ T, Row_b y) (hd : Dst T) :
    ∃ S, slices_insertionSortCmpFunc_impl_Row__impl_RowsFor_1.f (P ++ (T ++ R)) a1 a2 q = some (P ++ (S ++ R)) ∧ S.Perm T ∧ Srt q S := by
  unfold slices_insertionSortCmpFunc_impl_Row__impl_RowsFor_1.f
  have hlen' := hlen
  simp only [List.length_append] at hlen'
  rw [w64_id (by omega)]
  cases T with
  | nil =>
    simp only [List.length_nil] at h2
    refine ⟨[], ?_, List.Perm.refl _, List.Pairwise.nil⟩
    rw [slices_insertionSortCmpFunc_impl_Row__impl_RowsFor_1.l0, decide_eq_false (by omega), cond_false]
  | cons x T =>
    simp only [List.length_cons] at h2 hlen'
    have := insSort_l0 a1 a2 q ((a2 - (a1 + 1)).toNat + 1) P [x] T R (a1 + 1) (by omega) h1 (by simp only [List.length_cons, List.length_nil]; omega) (by simp only [List.length_cons, List.length_nil]; omega) (by simp only [List.length_append, List.length_cons, List.length_nil]; omega) (by simpa using hb) (by simpa using hd) (by simp [Srt])
    simpa using this

theorem swapRange_l0 (a1 a2 a3 : Int) : ∀ (k : Nat) (X Y A B C : List Row) (i : Int), X.length = Y.length → 0 ≤ i → i + X.length ≤ 1000000 → (A ++ (X ++ (B ++ (Y ++ C)))).length ≤ 1000000 → a1 + i = A.length → a2 + i = A.length + X.length + B.length → a3 = i + X.length → X.length < k →
    slices_swapRangeCmpFunc_impl_Row__impl_RowsFor_1.l0 a1 a2 a3 k (A ++ (X ++ (B ++ (Y ++ C)))) i = some (A ++ (Y ++ (B ++ (X ++ C)))) := by
  intro k
  induction k with
  | zero => intro X Y A B C i _ _ _ _ _ _ _ h; omega
  | succ k ih =>
    intro X Y A B C i hl h0 hi hlen h1 h2 h3 hk
    rw [slices_swapRangeCmpFunc_impl_Row__impl_RowsFor_1.l0]
    cases X with
    | nil =>
      cases Y with
      | cons y Y => simp at hl
      | nil => rw [decide_eq_false (by simp at h3; omega), cond_false]
    | cons x X =>
      cases Y with
      | nil => simp at hl
      | cons y Y =>
        simp only [List.length_append, List.length_cons] at *
        have e1 : w64 (a1 + i) = A.length := by rw [w64_id (by omega), h1]
        have lxb : (X ++ B).length = X.length + B.length := List.length_append
        have e2 : w64 (a2 + i) = A.length + 1 + (X ++ B).length := by rw [w64_id (by omega), h2]; omega
        have e : A ++ (x :: X ++ (B ++ (y :: Y ++ C))) = A ++ x :: ((X ++ B) ++ y :: (Y ++ C)) := by simp
        rw [decide_eq_true (by omega), cond_true, e1, e2, e, getO_mid rfl, Option.bind_some, getO_app rfl, Option.bind_some, neO_ok (by omega), Option.bind_some, Option.bind_some, swapA rfl rfl, w64_id (by omega)]
        have := ih X Y (A ++ [y]) (B ++ [x]) C (i + 1) (by omega) (by omega) (by omega) (by simp only [List.length_append, List.length_cons, List.length_nil]; omega) (by simp only [List.length_append, List.length_cons, List.length_nil]; omega) (by simp only [List.length_append, List.length_cons, List.length_nil]; omega) (by omega) (by omega)
        simpa using this
theorem swapRange_eq {a1 a2 a3 : Int} (q : Query) {X Y A B C : List Row} (hl : X.length = Y.length) (hlen : (A ++ (X ++ (B ++ (Y ++ C)))).length ≤ 1000000) (h1 : a1 = A.length) (h2 : a2 = A.length + X.length + B.length) (h3 : a3 = X.length) :
    slices_swapRangeCmpFunc_impl_Row__impl_RowsFor_1.f (A ++ (X ++ (B ++ (Y ++ C)))) a1 a2 a3 q = some (A ++ (Y ++ (B ++ (X ++ C)))) := by
  unfold slices_swapRangeCmpFunc_impl_Row__impl_RowsFor_1.f
  have hlen' := hlen
  simp only [List.length_append] at hlen'
  exact swapRange_l0 a1 a2 a3 _ X Y A B C 0 hl (by omega) (by omega) hlen (by omega) (by omega) (by omega) (by omega)

theorem rotate_l0 (q : Query) (a2 : Int) : ∀ (k : Nat) (X Y P Q : List Row), X ≠ [] → Y ≠ [] → X.length + Y.length < k → (P ++ (X ++ (Y ++ Q))).length ≤ 1000000 → a2 = P.length + X.length →
    slices_rotateCmpFunc_impl_Row__impl_RowsFor_1.l0 a2 q (fun y1 y2 => (slices_swapRangeCmpFunc_impl_Row__impl_RowsFor_1.f y1 (w64 (a2 - y2)) a2 y2 q).bind fun r24 => some r24) k (P ++ (X ++ (Y ++ Q))) X.length Y.length = some (P ++ (Y ++ (X ++ Q))) := by
  intro k
  induction k with
  | zero => intro X Y P Q _ _ h; omega
  | succ k ih =>
    intro X Y P Q hx hy hk hlen h2
    have lx : 0 < X.length := List.length_pos_iff.2 hx
    have ly : 0 < Y.length := List.length_pos_iff.2 hy
    simp only [List.length_append] at hlen
    rw [slices_rotateCmpFunc_impl_Row__impl_RowsFor_1.l0]
    by_cases he : X.length = Y.length
    · rw [decide_eq_false (by omega), cond_false, w64_id (by omega)]
      have := swapRange_eq (a1 := a2 - X.length) (a2 := a2) (a3 := X.length) q (X := X) (Y := Y) (A := P) (B := []) (C := Q) he (by simp only [List.length_append, List.length_nil]; omega) (by omega) (by simp only [List.length_nil]; omega) rfl
      simp only [List.nil_append] at this
      rw [this]; rfl
    · rw [decide_eq_true (by omega), cond_true]
      by_cases hg : Y.length < X.length
      · rw [decide_eq_true (by omega), cond_true, w64_id (by omega), w64_id (by omega)]
        obtain ⟨X1, X2, rfl, l1⟩ : ∃ X1 X2, X = X1 ++ X2 ∧ X1.length = Y.length := ⟨X.take Y.length, X.drop Y.length, (List.take_append_drop ..).symm, by rw [List.length_take]; omega⟩
        rw [List.length_append] at *
        have := swapRange_eq (a1 := a2 - (X1.length + X2.length : Nat)) (a2 := a2) (a3 := Y.length) q (X := X1) (Y := Y) (A := P) (B := X2) (C := Q) l1 (by simp only [List.length_append]; omega) (by omega) (by omega) (by omega)
        rw [show P ++ (X1 ++ X2 ++ (Y ++ Q)) = P ++ (X1 ++ (X2 ++ (Y ++ Q))) by simp, this, Option.bind_some]
        have h := ih X2 X1 (P ++ Y) Q (by rintro rfl; simp at *; omega) (by rintro rfl; simp at *; omega) (by omega) (by simp only [List.length_append]; omega) (by simp only [List.length_append]; omega)
        rw [show ((X1.length + X2.length : Nat) : Int) - Y.length = X2.length by omega, show (Y.length : Int) = X1.length by omega]
        simpa using h
      · rw [decide_eq_false (by omega), cond_false, w64_id (by omega), w64_id (x := a2 + Y.length) (by omega), w64_id (by omega), w64_id (by omega)]
        obtain ⟨Y1, Y2, rfl, l1⟩ : ∃ Y1 Y2, Y = Y1 ++ Y2 ∧ Y2.length = X.length := ⟨Y.take (Y.length - X.length), Y.drop (Y.length - X.length), (List.take_append_drop ..).symm, by rw [List.length_drop]; omega⟩
        rw [List.length_append] at *
        have := swapRange_eq (a1 := a2 - X.length) (a2 := a2 + (Y1.length + Y2.length : Nat) - X.length) (a3 := X.length) q (X := X) (Y := Y2) (A := P) (B := Y1) (C := Q) l1.symm (by simp only [List.length_append]; omega) (by omega) (by omega) (by omega)
        rw [show P ++ (X ++ (Y1 ++ Y2 ++ Q)) = P ++ (X ++ (Y1 ++ (Y2 ++ Q))) by simp, this, Option.bind_some]
        have h := ih Y2 Y1 P (X ++ Q) (by rintro rfl; simp at *; omega) (by rintro rfl; simp at *; omega) (by omega) (by simp only [List.length_append]; omega) (by omega)
        rw [show ((Y1.length + Y2.length : Nat) : Int) - X.length = Y1.length by omega, show (X.length : Int) = Y2.length by omega]
        simpa using h
theorem rotate_eq (q : Query) {a1 a2 a3 : Int} {X Y P Q : List Row} (hx : X ≠ []) (hy : Y ≠ []) (hlen : (P ++ (X ++ (Y ++ Q))).length ≤ 900) (h1 : a1 = P.length) (h2 : a2 = P.length + X.length) (h3 : a3 = P.length + X.length + Y.length) :
    slices_rotateCmpFunc_impl_Row__impl_RowsFor_1.f (P ++ (X ++ (Y ++ Q))) a1 a2 a3 q = some (P ++ (Y ++ (X ++ Q))) := by
  unfold slices_rotateCmpFunc_impl_Row__impl_RowsFor_1.f
  simp only [List.length_append] at hlen
  rw [joinK_eq, w64_id (by omega), w64_id (by omega), show a2 - a1 = X.length by omega, show a3 - a2 = Y.length by omega]
  exact rotate_l0 q a2 1000 X Y P Q hx hy (by omega) (by simp only [List.length_append]; omega) h2

theorem Srt.tr1 {q : Query} {l : List Row} (h : Srt q l) {i j : Nat} {x y z : Row} (hij : i ≤ j) (hx : l[i]? = some x) (hy : l[j]? = some y) (hz : aheadB q y z = true) : aheadB q x z = true := by
  rcases Nat.lt_or_ge i j with h1 | h1
  · exact ahead_trans (h.at h1 hx hy) hz
  · obtain rfl : i = j := by omega
    rw [hx] at hy; cases hy; exact hz
theorem Srt.tr2 {q : Query} {l : List Row} (h : Srt q l) {i j : Nat} {x y z : Row} (hij : i ≤ j) (hx : l[i]? = some x) (hy : l[j]? = some y) (hz : aheadB q z x = true) : aheadB q z y = true := by
  rcases Nat.lt_or_ge i j with h1 | h1
  · exact ahead_trans hz (h.at h1 hx hy)
  · obtain rfl : i = j := by omega
    rw [hx] at hy; cases hy; exact hz
theorem symUp (y4 : Int) : ∀ (k : Nat) (Y A C : List Row) (x : Row) (i : Int), Y.length < k → i = A.length → y4 = A.length + 1 + Y.length → (A ++ x :: (Y ++ C)).length ≤ 1000000 →
    slices_symMergeCmpFunc_impl_Row__impl_RowsFor_1.l1 y4 k (A ++ x :: (Y ++ C)) i = some (A ++ (Y ++ x :: C)) := by
  intro k
  induction k with
  | zero => intro Y A C x i h; omega
  | succ k ih =>
    intro Y A C x i hk h1 h2 hlen
    simp only [List.length_append, List.length_cons] at hlen
    rw [slices_symMergeCmpFunc_impl_Row__impl_RowsFor_1.l1, w64_id (x := y4 - 1) (by omega)]
    cases Y with
    | nil =>
      simp only [List.length_nil] at h2
      rw [decide_eq_false (by omega), cond_false]; rfl
    | cons y Y =>
      simp only [List.length_cons] at h2 hk hlen
      rw [decide_eq_true (by omega), cond_true, w64_id (by omega), show A ++ x :: (y :: Y ++ C) = A ++ x :: ([] ++ y :: (Y ++ C)) by simp, getO_mid (by simp only [List.length_nil]; omega), Option.bind_some, getO_app h1, Option.bind_some, neO_ok (by omega), Option.bind_some, Option.bind_some, swapA h1 (by simp only [List.length_nil]; omega)]
      have := ih Y (A ++ [y]) C x (i + 1) (by omega) (by simp only [List.length_append, List.length_cons, List.length_nil]; omega) (by simp only [List.length_append, List.length_cons, List.length_nil]; omega) (by simp only [List.length_append, List.length_cons, List.length_nil]; omega)
      simpa using this
theorem symDown (y39 : Int) : ∀ (k n : Nat) (Y A C : List Row) (x : Row) (i : Int), Y.length = n → n < k → i = A.length + Y.length → y39 = A.length → (A ++ (Y ++ x :: C)).length ≤ 1000000 →
    slices_symMergeCmpFunc_impl_Row__impl_RowsFor_1.l3 y39 k (A ++ (Y ++ x :: C)) i = some (A ++ x :: (Y ++ C)) := by
  intro k
  induction k with
  | zero => intro n Y A C x i _ h; omega
  | succ k ih =>
    intro n Y A C x i hn hk h1 h2 hlen
    simp only [List.length_append, List.length_cons] at hlen
    rw [slices_symMergeCmpFunc_impl_Row__impl_RowsFor_1.l3]
    cases n with
    | zero =>
      obtain rfl := List.length_eq_zero_iff.1 hn
      rw [decide_eq_false (by simp at h1; omega), cond_false]; rfl
    | succ n =>
      obtain ⟨S, y, rfl⟩ : ∃ S y, Y = S ++ [y] := ⟨Y.dropLast, Y.getLast (by rintro rfl; simp at hn), (List.dropLast_concat_getLast _).symm⟩
      simp only [List.length_append, List.length_cons, List.length_nil] at hn h1 hlen
      have lps : (A ++ S).length = A.length + S.length := List.length_append
      rw [decide_eq_true (by omega), cond_true, w64_id (by omega), show A ++ (S ++ [y] ++ x :: C) = (A ++ S) ++ y :: ([] ++ x :: C) by simp, getO_app (by omega), Option.bind_some, getO_mid (by simp only [List.length_nil]; omega), Option.bind_some, neO_ok (by omega), Option.bind_some, Option.bind_some, swapB (by omega) (by simp only [List.length_nil]; omega)]
      have := ih n S A (y :: C) x (i - 1) (by omega) (by omega) (by omega) h2 (by simp only [List.length_append, List.length_cons]; omega)
      simpa using this
theorem symOne (self : List Row → Int → Int → Int → Query → Option (List Row)) (q : Query) {P R Q : List Row} {x : Row} {a m b : Int} (ha : a = P.length) (hm : m = P.length + 1) (hb' : b = P.length + 1 + R.length) (hlen : (P ++ ([x] ++ (R ++ Q))).length ≤ 900) (hb : ∀ y ∈ [x] ++ R, Row_b y) (hd : Dst ([x] ++ R)) (hR : Srt q R) :
    ∃ M, slices_symMergeCmpFunc_impl_Row__impl_RowsFor_1.b self (P ++ ([x] ++ (R ++ Q))) a m b q = some (P ++ (M ++ Q)) ∧ M.Perm ([x] ++ R) ∧ Srt q M := by
  have hlen' := hlen
  simp only [List.length_append, List.length_cons, List.length_nil] at hlen'
  unfold slices_symMergeCmpFunc_impl_Row__impl_RowsFor_1.b
  rw [joinK_eq, w64_id (x := m - a) (by omega), decide_eq_true (by omega), cond_true, joinK_eq]
  have hx : Row_b x := hb x (by simp)
  have hR' : ∀ c, P.length + 1 ≤ c → c < P.length + 1 + R.length → ∃ y, R[c - (P.length + 1)]? = some y ∧ y ∈ R ∧ getO (P ++ ([x] ++ (R ++ Q))) (c : Int) = some y := by
    intro c h1 h2
    have h3 : c - (P.length + 1) < R.length := by omega
    refine ⟨R[c - (P.length + 1)], List.getElem?_eq_getElem h3, List.getElem_mem h3, ?_⟩
    rw [show P ++ ([x] ++ (R ++ Q)) = (P ++ [x]) ++ (R ++ Q) by simp, getO_seg (by simp; omega) (by simp; omega)]
    simp only [List.length_append, List.length_cons, List.length_nil]
    exact List.getElem?_eq_getElem h3
  have h0 : getO (P ++ ([x] ++ (R ++ Q))) a = some x := getO_app ha
  generalize hK : (fun y4 => slices_symMergeCmpFunc_impl_Row__impl_RowsFor_1.l1 y4 ((w64 (y4 - 1) - a).toNat + 1) (P ++ ([x] ++ (R ++ Q))) a) = K
  obtain ⟨t, t1, t2, t3, t4, t5⟩ := bsearch (f := fun k i j => slices_symMergeCmpFunc_impl_Row__impl_RowsFor_1.l0 (P ++ ([x] ++ (R ++ Q))) a q K k i j) (K := K) (fun c => aheadB q (R.getD (c - (P.length + 1)) default) x) (P.length + 1) (P.length + 1 + R.length)
    (fun c c' h1 h2 h3 h4 => by
      obtain ⟨y, e1, _, _⟩ := hR' c h1 (by omega)
      obtain ⟨y', e2, _, _⟩ := hR' c' (by omega) h3
      rw [List.getD_eq_getElem?_getD, e1, Option.getD_some] at h4
      rw [List.getD_eq_getElem?_getD, e2, Option.getD_some]
      cases hh : aheadB q y' x with
      | false => rfl
      | true => rw [hR.tr1 (by omega) e1 e2 hh] at h4; cases h4)
    (fun k i j h1 h2 h3 => by
      obtain ⟨y, e1, hy, e2⟩ := hR' ((i + j) / 2) (by omega) (by omega)
      show slices_symMergeCmpFunc_impl_Row__impl_RowsFor_1.l0 _ a q K (k + 1) i j = _
      rw [slices_symMergeCmpFunc_impl_Row__impl_RowsFor_1.l0, decide_eq_true (by omega), cond_true, half_eq (n := i + j) (by omega) (by omega), e2, Option.bind_some, h0, Option.bind_some, impl_RowsFor_1_eq y x q (hb y (by simp [hy])) hx, Option.bind_some, List.getD_eq_getElem?_getD, e1, Option.getD_some, w64_succ (by omega)]
      cases aheadB q y x with
      | true => rw [if_pos rfl, decide_eq_true (by omega), cond_true, if_pos rfl]
      | false => rw [if_neg (by simp), decide_eq_false (by omega), cond_false, if_neg (by simp)])
    (fun k i => by
      show slices_symMergeCmpFunc_impl_Row__impl_RowsFor_1.l0 _ a q K (k + 1) i i = _
      rw [slices_symMergeCmpFunc_impl_Row__impl_RowsFor_1.l0, decide_eq_false (by omega), cond_false])
    ((b - m).toNat + 1) (P.length + 1) (P.length + 1 + R.length) (Nat.le_refl _) (by omega) (Nat.le_refl _) (by omega)
  rw [show m = ((P.length + 1 : Nat) : Int) by omega, show b = ((P.length + 1 + R.length : Nat) : Int) by omega] at *
  rw [t3, ← hK]
  obtain ⟨R1, R2, eR, l1⟩ : ∃ R1 R2, R = R1 ++ R2 ∧ R1.length = t - (P.length + 1) := ⟨R.take (t - (P.length + 1)), R.drop (t - (P.length + 1)), (List.take_append_drop ..).symm, by rw [List.length_take]; omega⟩
  have lR : R.length = R1.length + R2.length := by rw [eR, List.length_append]
  have s1 : ∀ y ∈ R1, aheadB q y x = true := fun y hy => by
    obtain ⟨i, hi⟩ := List.getElem?_of_mem hy
    have hi' := at_lt hi
    have := t4 (P.length + 1 + i) (by omega) (by omega)
    rw [Nat.add_sub_cancel_left, List.getD_eq_getElem?_getD, eR, List.getElem?_append_left hi', hi] at this
    exact this
  have s2 : ∀ y ∈ R2, aheadB q x y = true := fun y hy => by
    obtain ⟨i, hi⟩ := List.getElem?_of_mem hy
    have hi' := at_lt hi
    have := t5 (P.length + 1 + (R1.length + i)) (by omega) (by omega)
    rw [Nat.add_sub_cancel_left, List.getD_eq_getElem?_getD, eR, List.getElem?_append_right (by omega), Nat.add_sub_cancel_left, hi] at this
    exact ahead_total (fun e => hd.app.2.2 x (by simp) y (by rw [eR]; simp [hy]) e.symm) this
  refine ⟨R1 ++ x :: R2, ?_, ?_, ?_⟩
  · have := symUp (t : Int) ((w64 ((t : Int) - 1) - a).toNat + 1) R1 P (R2 ++ Q) x a (by rw [w64_id (by omega)]; omega) ha (by omega) (by simp only [List.length_append, List.length_cons]; omega)
    rw [eR]
    simpa using this
  · rw [eR]; exact List.perm_middle
  · rw [eR] at hR
    exact Srt.app.2 ⟨(Srt.app.1 hR).1, List.pairwise_cons.2 ⟨s2, (Srt.app.1 hR).2.1⟩, fun y hy z hz => by
      rcases List.mem_cons.1 hz with rfl | h
      · exact s1 y hy
      · exact (Srt.app.1 hR).2.2 y hy z h⟩
theorem symLast (self : List Row → Int → Int → Int → Query → Option (List Row)) (q : Query) {P L Q : List Row} {x : Row} {a m b : Int} (hL0 : L.length ≠ 1) (ha : a = P.length) (hm : m = P.length + L.length) (hb' : b = P.length + L.length + 1) (hlen : (P ++ (L ++ ([x] ++ Q))).length ≤ 900) (hb : ∀ y ∈ L ++ [x], Row_b y) (hd : Dst (L ++ [x])) (hL : Srt q L) :
    ∃ M, slices_symMergeCmpFunc_impl_Row__impl_RowsFor_1.b self (P ++ (L ++ ([x] ++ Q))) a m b q = some (P ++ (M ++ Q)) ∧ M.Perm (L ++ [x]) ∧ Srt q M := by
  have hlen' := hlen
  simp only [List.length_append, List.length_cons, List.length_nil] at hlen'
  unfold slices_symMergeCmpFunc_impl_Row__impl_RowsFor_1.b
  rw [joinK_eq, w64_id (x := m - a) (by omega), decide_eq_false (by omega), cond_false, joinK_eq, w64_id (x := b - m) (by omega), decide_eq_true (by omega), cond_true, joinK_eq]
  have hx : Row_b x := hb x (by simp)
  have hL' : ∀ c, P.length ≤ c → c < P.length + L.length → ∃ y, L[c - P.length]? = some y ∧ y ∈ L ∧ getO (P ++ (L ++ ([x] ++ Q))) (c : Int) = some y := by
    intro c h1 h2
    have h3 : c - P.length < L.length := by omega
    refine ⟨L[c - P.length], List.getElem?_eq_getElem h3, List.getElem_mem h3, ?_⟩
    rw [getO_seg (by omega) (by omega)]
    exact List.getElem?_eq_getElem h3
  have h0 : getO (P ++ (L ++ ([x] ++ Q))) m = some x := by
    rw [show P ++ (L ++ ([x] ++ Q)) = (P ++ L) ++ x :: Q by simp]
    exact getO_app (by simp only [List.length_append]; omega)
  generalize hK : (fun y39 => slices_symMergeCmpFunc_impl_Row__impl_RowsFor_1.l3 y39 ((m - y39).toNat + 1) (P ++ (L ++ ([x] ++ Q))) m) = K
  obtain ⟨t, t1, t2, t3, t4, t5⟩ := bsearch (f := fun k i j => slices_symMergeCmpFunc_impl_Row__impl_RowsFor_1.l2 (P ++ (L ++ ([x] ++ Q))) m q K k i j) (K := K) (fun c => !aheadB q x (L.getD (c - P.length) default)) P.length (P.length + L.length)
    (fun c c' h1 h2 h3 h4 => by
      obtain ⟨y, e1, _, _⟩ := hL' c h1 (by omega)
      obtain ⟨y', e2, _, _⟩ := hL' c' (by omega) h3
      rw [List.getD_eq_getElem?_getD, e1, Option.getD_some] at h4
      rw [List.getD_eq_getElem?_getD, e2, Option.getD_some]
      cases hh : aheadB q x y with
      | false => rw [hh] at h4; cases h4
      | true => rw [hL.tr2 (by omega) e1 e2 hh]; rfl)
    (fun k i j h1 h2 h3 => by
      obtain ⟨y, e1, hy, e2⟩ := hL' ((i + j) / 2) (by omega) (by omega)
      show slices_symMergeCmpFunc_impl_Row__impl_RowsFor_1.l2 _ m q K (k + 1) i j = _
      rw [slices_symMergeCmpFunc_impl_Row__impl_RowsFor_1.l2, decide_eq_true (by omega), cond_true, half_eq (n := i + j) (by omega) (by omega), h0, Option.bind_some, e2, Option.bind_some, impl_RowsFor_1_eq x y q hx (hb y (by simp [hy])), Option.bind_some, List.getD_eq_getElem?_getD, e1, Option.getD_some, w64_succ (by omega), bo3_not]
      cases aheadB q x y with
      | true => rw [if_pos rfl, decide_eq_true (by omega), Bool.not_true, cond_false, if_neg (by simp)]
      | false => rw [if_neg (by simp), decide_eq_false (by omega), Bool.not_false, cond_true, if_pos rfl])
    (fun k i => by
      show slices_symMergeCmpFunc_impl_Row__impl_RowsFor_1.l2 _ m q K (k + 1) i i = _
      rw [slices_symMergeCmpFunc_impl_Row__impl_RowsFor_1.l2, decide_eq_false (by omega), cond_false])
    ((m - a).toNat + 1) P.length (P.length + L.length) (Nat.le_refl _) (by omega) (Nat.le_refl _) (by omega)
  rw [show a = ((P.length : Nat) : Int) by omega, show m = ((P.length + L.length : Nat) : Int) by omega] at *
  rw [t3, ← hK]
  obtain ⟨L1, L2, eL, l1⟩ : ∃ L1 L2, L = L1 ++ L2 ∧ L1.length = t - P.length := ⟨L.take (t - P.length), L.drop (t - P.length), (List.take_append_drop ..).symm, by rw [List.length_take]; omega⟩
  have lL : L.length = L1.length + L2.length := by rw [eL, List.length_append]
  have s1 : ∀ y ∈ L1, aheadB q y x = true := fun y hy => by
    obtain ⟨i, hi⟩ := List.getElem?_of_mem hy
    have hi' := at_lt hi
    have := t4 (P.length + i) (by omega) (by omega)
    rw [Nat.add_sub_cancel_left, List.getD_eq_getElem?_getD, eL, List.getElem?_append_left hi', hi, Option.getD_some, Bool.not_eq_true'] at this
    exact ahead_total (fun e => hd.app.2.2 y (by rw [eL]; simp [hy]) x (by simp) e.symm) this
  have s2 : ∀ y ∈ L2, aheadB q x y = true := fun y hy => by
    obtain ⟨i, hi⟩ := List.getElem?_of_mem hy
    have hi' := at_lt hi
    have := t5 (P.length + (L1.length + i)) (by omega) (by omega)
    rw [Nat.add_sub_cancel_left, List.getD_eq_getElem?_getD, eL, List.getElem?_append_right (by omega), Nat.add_sub_cancel_left, hi, Option.getD_some, Bool.not_eq_false'] at this
    exact this
  refine ⟨L1 ++ x :: L2, ?_, ?_, ?_⟩
  · have lpl : (P ++ L1).length = P.length + L1.length := List.length_append
    have := symDown (t : Int) ((((P.length + L.length : Nat) : Int) - t).toNat + 1) L2.length L2 (P ++ L1) Q x ((P.length + L.length : Nat) : Int) rfl (by omega) (by omega) (by omega) (by simp only [List.length_append, List.length_cons]; omega)
    rw [eL] at this ⊢
    simpa using this
  · rw [eL]; simpa using List.Perm.append_left L1 (List.perm_append_comm (l₁ := [x]) (l₂ := L2))
  · rw [eL] at hL
    exact Srt.app.2 ⟨(Srt.app.1 hL).1, List.pairwise_cons.2 ⟨s2, (Srt.app.1 hL).2.1⟩, fun y hy z hz => by
      rcases List.mem_cons.1 hz with rfl | h
      · exact s1 y hy
      · exact (Srt.app.1 hL).2.2 y hy z h⟩
theorem symIf (self : List Row → Int → Int → Int → Query → Option (List Row)) (q : Query) {P L R Q : List Row} {a m b : Int} (K : List Row → Option (List Row)) (ha : a = P.length) (hm : m = P.length + L.length) (hb' : b = P.length + L.length + R.length) (hL : Srt q L) (hR : Srt q R)
    (ih : L ≠ [] → R ≠ [] → ∃ M, self (P ++ (L ++ (R ++ Q))) a m b q = some (P ++ (M ++ Q)) ∧ M.Perm (L ++ R) ∧ Srt q M) :
    ∃ M, (bif (bo3 (decide (a < m)) (decide (m < b)) false) then ((self (P ++ (L ++ (R ++ Q))) a m b q).bind fun r => K r) else K (P ++ (L ++ (R ++ Q)))) = K (P ++ (M ++ Q)) ∧ M.Perm (L ++ R) ∧ Srt q M := by
  by_cases h1 : L = []
  · subst h1
    simp only [List.length_nil] at hm
    rw [decide_eq_false (by omega), bo3_F, cond_false]
    exact ⟨R, rfl, List.Perm.refl _, hR⟩
  · by_cases h2 : R = []
    · subst h2
      simp only [List.length_nil] at hb'
      rw [decide_eq_false (p := m < b) (by omega), bo3_and, Bool.and_false, cond_false]
      exact ⟨L, rfl, by simp, hL⟩
    · have g1 : 0 < L.length := List.length_pos_iff.2 h1
      have g2 : 0 < R.length := List.length_pos_iff.2 h2
      obtain ⟨M, e1, e2, e3⟩ := ih h1 h2
      rw [decide_eq_true (by omega), decide_eq_true (by omega), bo3_T, cond_true, e1]
      exact ⟨M, rfl, e2, e3⟩
theorem symRot (q : Query) {P L R Q : List Row} {a m b : Int} (K : List Row → Int → Option (List Row)) (ha : a = P.length) (hm : m = P.length + L.length) (hb' : b = P.length + L.length + R.length) (hlen : (P ++ (L ++ (R ++ Q))).length ≤ 900) :
    (bif (bo3 (decide (a < m)) (decide (m < b)) false) then ((slices_rotateCmpFunc_impl_Row__impl_RowsFor_1.f (P ++ (L ++ (R ++ Q))) a m b q).bind fun r => K r b) else K (P ++ (L ++ (R ++ Q))) b) = K (P ++ (R ++ (L ++ Q))) b := by
  by_cases h1 : L = []
  · subst h1
    simp only [List.length_nil] at hm
    rw [decide_eq_false (by omega), bo3_F, cond_false]
    rfl
  · by_cases h2 : R = []
    · subst h2
      simp only [List.length_nil] at hb'
      rw [decide_eq_false (p := m < b) (by omega), bo3_and, Bool.and_false, cond_false]
      rfl
    · have g1 : 0 < L.length := List.length_pos_iff.2 h1
      have g2 : 0 < R.length := List.length_pos_iff.2 h2
      rw [decide_eq_true (by omega), decide_eq_true (by omega), bo3_T, cond_true, rotate_eq q h1 h2 hlen ha hm hb', Option.bind_some]
theorem symSearch (q : Query) (K : Int → Option (List Row)) {P L R Q : List Row} (hlen : (P ++ (L ++ (R ++ Q))).length ≤ 900) (hb : ∀ y ∈ L ++ R, Row_b y) (hL : Srt q L) (hR : Srt q R) (lo hi : Nat) (p : Nat) (h1 : P.length ≤ lo) (h2 : hi ≤ P.length + L.length) (hle : lo ≤ hi) (h3 : ∀ c, lo ≤ c → c < hi → P.length + L.length ≤ p - c ∧ c ≤ p ∧ p - c < P.length + L.length + R.length) (k : Nat) (hk : hi - lo < k) :
    ∃ t : Nat, lo ≤ t ∧ t ≤ hi ∧ slices_symMergeCmpFunc_impl_Row__impl_RowsFor_1.l4 (P ++ (L ++ (R ++ Q))) q K k lo hi p = K t ∧
      (∀ c, lo ≤ c → c < t → ∀ x y, L[c - P.length]? = some x → R[p - c - (P.length + L.length)]? = some y → aheadB q y x = false) ∧
      (∀ c, t ≤ c → c < hi → ∀ x y, L[c - P.length]? = some x → R[p - c - (P.length + L.length)]? = some y → aheadB q y x = true) := by
  simp only [List.length_append] at hlen
  have hL' : ∀ c, P.length ≤ c → c < P.length + L.length → ∃ y, L[c - P.length]? = some y ∧ y ∈ L ∧ getO (P ++ (L ++ (R ++ Q))) (c : Int) = some y := by
    intro c h1 h2
    have h3 : c - P.length < L.length := by omega
    refine ⟨L[c - P.length], List.getElem?_eq_getElem h3, List.getElem_mem h3, ?_⟩
    rw [getO_seg (by omega) (by omega)]
    exact List.getElem?_eq_getElem h3
  have hR' : ∀ c, P.length + L.length ≤ c → c < P.length + L.length + R.length → ∃ y, R[c - (P.length + L.length)]? = some y ∧ y ∈ R ∧ getO (P ++ (L ++ (R ++ Q))) (c : Int) = some y := by
    intro c h1 h2
    have h3 : c - (P.length + L.length) < R.length := by omega
    refine ⟨R[c - (P.length + L.length)], List.getElem?_eq_getElem h3, List.getElem_mem h3, ?_⟩
    rw [show P ++ (L ++ (R ++ Q)) = (P ++ L) ++ (R ++ Q) by simp, getO_seg (by simp only [List.length_append]; omega) (by simp only [List.length_append]; omega)]
    simp only [List.length_append]
    exact List.getElem?_eq_getElem h3
  obtain ⟨t, t1, t2, t3, t4, t5⟩ := bsearch (f := fun k i j => slices_symMergeCmpFunc_impl_Row__impl_RowsFor_1.l4 (P ++ (L ++ (R ++ Q))) q K k i j p) (K := K) (fun c => !aheadB q (R.getD (p - c - (P.length + L.length)) default) (L.getD (c - P.length) default)) lo hi
    (fun c c' g1 g2 g3 g4 => by
      obtain ⟨x, e1, _, _⟩ := hL' c (by omega) (by omega)
      obtain ⟨x', e2, _, _⟩ := hL' c' (by omega) (by omega)
      obtain ⟨u1, u2, u3⟩ := h3 c g1 (by omega)
      obtain ⟨v1, v2, v3⟩ := h3 c' (by omega) g3
      obtain ⟨y, f1, _, _⟩ := hR' (p - c) u1 u3
      obtain ⟨y', f2, _, _⟩ := hR' (p - c') v1 v3
      rw [List.getD_eq_getElem?_getD, f1, Option.getD_some, List.getD_eq_getElem?_getD, e1, Option.getD_some] at g4
      rw [List.getD_eq_getElem?_getD, f2, Option.getD_some, List.getD_eq_getElem?_getD, e2, Option.getD_some]
      cases hh : aheadB q y x with
      | false => rw [hh] at g4; cases g4
      | true => rw [hR.tr1 (by omega) f2 f1 (hL.tr2 (by omega) e1 e2 hh)]; rfl)
    (fun k i j g1 g2 g3 => by
      obtain ⟨u1, u2, u3⟩ := h3 ((i + j) / 2) (by omega) (by omega)
      obtain ⟨x, e1, hx, e2⟩ := hL' ((i + j) / 2) (by omega) (by omega)
      obtain ⟨y, f1, hy, f2⟩ := hR' (p - (i + j) / 2) u1 u3
      show slices_symMergeCmpFunc_impl_Row__impl_RowsFor_1.l4 _ q K (k + 1) i j p = _
      rw [slices_symMergeCmpFunc_impl_Row__impl_RowsFor_1.l4, decide_eq_true (by omega), cond_true, half_eq (n := i + j) (by omega) (by omega), w64_id (x := (p : Int) - _) (by omega), show (p : Int) - ((i + j) / 2 : Nat) = ((p - (i + j) / 2 : Nat) : Int) by omega, f2, Option.bind_some, e2, Option.bind_some, impl_RowsFor_1_eq y x q (hb y (by simp [hy])) (hb x (by simp [hx])), Option.bind_some, List.getD_eq_getElem?_getD, f1, Option.getD_some, List.getD_eq_getElem?_getD, e1, Option.getD_some, w64_succ (by omega), bo3_not]
      cases aheadB q y x with
      | true => rw [if_pos rfl, decide_eq_true (by omega), Bool.not_true, cond_false, if_neg (by simp)]
      | false => rw [if_neg (by simp), decide_eq_false (by omega), Bool.not_false, cond_true, if_pos rfl])
    (fun k i => by
      show slices_symMergeCmpFunc_impl_Row__impl_RowsFor_1.l4 _ q K (k + 1) i i p = _
      rw [slices_symMergeCmpFunc_impl_Row__impl_RowsFor_1.l4, decide_eq_false (by omega), cond_false])
    k lo hi (Nat.le_refl _) hle (Nat.le_refl _) hk
  refine ⟨t, t1, t2, t3, fun c g1 g2 x y e f => ?_, fun c g1 g2 x y e f => ?_⟩
  · have := t4 c g1 g2
    rw [List.getD_eq_getElem?_getD, f, Option.getD_some, List.getD_eq_getElem?_getD, e, Option.getD_some, Bool.not_eq_true'] at this
    exact this
  · have := t5 c g1 g2
    rw [List.getD_eq_getElem?_getD, f, Option.getD_some, List.getD_eq_getElem?_getD, e, Option.getD_some, Bool.not_eq_false'] at this
    exact this
theorem join_bif {R : Type} {c : Bool} {a1 a2 a3 a4 b1 b2 b3 b4 : Int} (k : Int → Int → Int → Int → Option R) : joinK k (fun K => bif c then K a1 a2 a3 a4 else K b1 b2 b3 b4) = k (bif c then a1 else b1) (bif c then a2 else b2) (bif c then a3 else b3) (bif c then a4 else b4) := by cases c <;> rfl
theorem symFin (self : List Row → Int → Int → Int → Query → Option (List Row)) (q : Query) {P L1 L2 R1 R2 Q : List Row} {a m b t mid e : Int} (ha : a = P.length) (ht : t = P.length + L1.length) (hm : m = t + L2.length) (hmid : mid = t + R1.length) (he : e = m + R1.length) (hb' : b = e + R2.length) (hlen : P.length + (L1.length + (L2.length + (R1.length + (R2.length + Q.length)))) ≤ 900)
    (hd' : Dst (L1 ++ L2 ++ (R1 ++ R2))) (hL' : Srt q (L1 ++ L2)) (hR' : Srt q (R1 ++ R2)) (i1 : ∀ x ∈ L1, ∀ y ∈ R2, aheadB q x y = true) (i2 : ∀ y ∈ R1, ∀ x ∈ L2, aheadB q y x = true)
    (ih1 : L1 ≠ [] → R1 ≠ [] → ∃ M, self (P ++ (L1 ++ (R1 ++ (L2 ++ (R2 ++ Q))))) a t mid q = some (P ++ (M ++ (L2 ++ (R2 ++ Q)))) ∧ M.Perm (L1 ++ R1) ∧ Srt q M)
    (ih2 : ∀ M1 : List Row, M1.length = L1.length + R1.length → L2 ≠ [] → R2 ≠ [] → ∃ M, self ((P ++ M1) ++ (L2 ++ (R2 ++ Q))) mid e b q = some ((P ++ M1) ++ (M ++ Q)) ∧ M.Perm (L2 ++ R2) ∧ Srt q M) :
    ∃ M, joinK (fun (y105 : List Row) (y106 : Int) => joinK (fun (y115 : List Row) =>
  bif (bo3 (decide (mid < y106)) (decide (y106 < b)) false) then (
  (self y115 mid y106 b q).bind fun r130 =>
  some r130)
  else (
  some y115)) (fun K116 =>
  bif (bo3 (decide (a < t)) (decide (t < mid)) false) then (
  (self y105 a t mid q).bind fun r123 =>
  K116 r123)
  else (
  K116 y105))) (fun K107 =>
  bif (bo3 (decide (t < m)) (decide (m < e)) false) then (
  (slices_rotateCmpFunc_impl_Row__impl_RowsFor_1.f (P ++ L1 ++ (L2 ++ (R1 ++ (R2 ++ Q)))) t m e q).bind fun r114 =>
  K107 r114 e)
  else (
  K107 (P ++ L1 ++ (L2 ++ (R1 ++ (R2 ++ Q)))) e)) = some (P ++ (M ++ Q)) ∧ M.Perm (L1 ++ L2 ++ (R1 ++ R2)) ∧ Srt q M := by
  have sL := Srt.app.1 hL'
  have sR := Srt.app.1 hR'
  have perm : (L1 ++ L2 ++ (R1 ++ R2)).Perm ((L1 ++ R1) ++ (L2 ++ R2)) := by
    simp only [List.append_assoc]
    refine List.Perm.append_left L1 ?_
    rw [← List.append_assoc, ← List.append_assoc]
    exact List.Perm.append_right R2 List.perm_append_comm
  have lp1 : (P ++ L1).length = P.length + L1.length := List.length_append
  have rot := symRot q (P := P ++ L1) (L := L2) (R := R1) (Q := R2 ++ Q) (a := t) (m := m) (b := e) (fun (y105 : List Row) (y106 : Int) => joinK (fun (y115 : List Row) =>
  bif (bo3 (decide (mid < y106)) (decide (y106 < b)) false) then (
  (self y115 mid y106 b q).bind fun r130 =>
  some r130)
  else (
  some y115)) (fun K116 =>
  bif (bo3 (decide (a < t)) (decide (t < mid)) false) then (
  (self y105 a t mid q).bind fun r123 =>
  K116 r123)
  else (
  K116 y105))) (by omega) (by omega) (by omega) (by simp only [List.length_append]; omega)
  obtain ⟨M1, s1, p1, m1⟩ := symIf self q (P := P) (L := L1) (R := R1) (Q := L2 ++ (R2 ++ Q)) (a := a) (m := t) (b := mid) (fun y115 => bif (bo3 (decide (mid < e)) (decide (e < b)) false) then ((self y115 mid e b q).bind fun r130 => some r130) else (some y115)) ha (by omega) (by omega) sL.1 sR.1 ih1
  have lM : M1.length = L1.length + R1.length := by rw [p1.length_eq, List.length_append]
  have lpm : (P ++ M1).length = P.length + M1.length := List.length_append
  obtain ⟨M2, s2, p2, m2⟩ := symIf self q (P := P ++ M1) (L := L2) (R := R2) (Q := Q) (a := mid) (m := e) (b := b) (fun r => some r) (by omega) (by omega) (by omega) sL.2.1 sR.2.1 (ih2 M1 lM)
  refine ⟨M1 ++ M2, ?_, ?_, Srt.app.2 ⟨m1, m2, fun x hx y hy => ?_⟩⟩
  · rw [joinK_eq]
    rw [rot, joinK_eq, List.append_assoc P L1]
    rw [s1, ← List.append_assoc P M1, s2]
    simp
  · exact (p1.append p2).trans perm.symm
  · have hx := p1.mem_iff.1 hx
    have hy := p2.mem_iff.1 hy
    rcases List.mem_append.1 hx with hx | hx <;> rcases List.mem_append.1 hy with hy | hy
    · exact sL.2.2 x hx y hy
    · exact i1 x hx y hy
    · exact i2 x hx y hy
    · exact sR.2.2 x hx y hy
theorem symMid (self : List Row → Int → Int → Int → Query → Option (List Row)) (q : Query) {P L R Q : List Row} {a m b : Int} (hL1 : L.length ≠ 1) (hR1 : R.length ≠ 1) (hL0 : L ≠ []) (hR0 : R ≠ []) (ha : a = P.length) (hm : m = P.length + L.length) (hb' : b = P.length + L.length + R.length) (hlen : (P ++ (L ++ (R ++ Q))).length ≤ 900)
    (hb : ∀ y ∈ L ++ R, Row_b y) (hd : Dst (L ++ R)) (hL : Srt q L) (hR : Srt q R)
    (ih : ∀ P' L' R' Q' : List Row, L' ≠ [] → R' ≠ [] → L'.length + R'.length < L.length + R.length → (P' ++ (L' ++ (R' ++ Q'))).length ≤ 900 → (∀ y ∈ L' ++ R', y ∈ L ++ R) → Dst (L' ++ R') → Srt q L' → Srt q R' → ∀ a' m' b' : Int, a' = P'.length → m' = P'.length + L'.length → b' = P'.length + L'.length + R'.length →
      ∃ M, self (P' ++ (L' ++ (R' ++ Q'))) a' m' b' q = some (P' ++ (M ++ Q')) ∧ M.Perm (L' ++ R') ∧ Srt q M) :
    ∃ M, slices_symMergeCmpFunc_impl_Row__impl_RowsFor_1.b self (P ++ (L ++ (R ++ Q))) a m b q = some (P ++ (M ++ Q)) ∧ M.Perm (L ++ R) ∧ Srt q M := by
  have hlen' := hlen
  simp only [List.length_append] at hlen'
  have lL : 0 < L.length := List.length_pos_iff.2 hL0
  have lR : 0 < R.length := List.length_pos_iff.2 hR0
  unfold slices_symMergeCmpFunc_impl_Row__impl_RowsFor_1.b
  rw [joinK_eq, w64_id (x := m - a) (by omega), decide_eq_false (by omega), cond_false, joinK_eq, w64_id (x := b - m) (by omega), decide_eq_false (by omega), cond_false]
  obtain ⟨mid, hmid⟩ : ∃ mid : Nat, mid = (P.length + (P.length + L.length + R.length)) / 2 := ⟨_, rfl⟩
  rw [half_eq (x := a + b) (n := P.length + (P.length + L.length + R.length)) (by omega) (by omega), ← hmid, w64_id (x := (mid : Int) + m) (by omega), w64_id (x := (mid : Int) + m - b) (by omega)]
  -- the search's range
  obtain ⟨lo, hi, hlo, hhi, hcase⟩ : ∃ lo hi : Nat, (if (mid : Int) < m then (mid : Int) + m - b else a) = lo ∧ (if (mid : Int) < m then (mid : Int) else m) = hi ∧ ((mid < P.length + L.length ∧ (lo : Int) = mid + m - b ∧ hi = mid) ∨ (P.length + L.length ≤ mid ∧ lo = P.length ∧ hi = P.length + L.length)) := by
    by_cases c : (mid : Int) < m
    · exact ⟨(mid + m - b).toNat, mid, by rw [if_pos c]; omega, by rw [if_pos c], .inl ⟨by omega, by omega, rfl⟩⟩
    · exact ⟨P.length, P.length + L.length, by rw [if_neg c]; omega, by rw [if_neg c]; omega, .inr ⟨by omega, rfl, rfl⟩⟩
  have q1 : ∀ x : Int, (bif decide ((mid : Int) < m) then x else x) = x := fun x => by cases decide ((mid : Int) < m) <;> rfl
  have q2 : (bif decide ((mid : Int) < m) then (mid : Int) + m - b else a) = lo := by rw [← hlo]; by_cases c : (mid : Int) < m <;> simp [c]
  have q3 : (bif decide ((mid : Int) < m) then (mid : Int) else m) = hi := by rw [← hhi]; by_cases c : (mid : Int) < m <;> simp [c]
  rw [join_bif, q1, q1, q2, q3]
  rw [joinK_eq]
  have hp : w64 (((mid : Int) + m) - 1) = ((mid + (P.length + L.length) - 1 : Nat) : Int) := by rw [w64_id (by omega)]; omega
  rw [hp]
  generalize hK : (fun (y77 : Int) => joinK (fun (y105 : List Row) (y106 : Int) => _) _) = K
  obtain ⟨t, t1, t2, t3, t4, t5⟩ := symSearch q K (Q := Q) hlen hb hL hR lo hi (mid + (P.length + L.length) - 1) (by omega) (by omega) (by omega) (fun c c1 c2 => by omega) (((hi : Int) - lo).toNat + 1) (by omega)
  rw [t3, ← hK]
  clear hK t3
  obtain ⟨L1, L2, eL, l1⟩ : ∃ L1 L2, L = L1 ++ L2 ∧ L1.length = t - P.length := ⟨L.take (t - P.length), L.drop (t - P.length), (List.take_append_drop ..).symm, by rw [List.length_take]; omega⟩
  obtain ⟨R1, R2, eR, r1⟩ : ∃ R1 R2, R = R1 ++ R2 ∧ R1.length = mid - t := ⟨R.take (mid - t), R.drop (mid - t), (List.take_append_drop ..).symm, by rw [List.length_take]; omega⟩
  have nL : L.length = L1.length + L2.length := by rw [eL, List.length_append]
  have nR : R.length = R1.length + R2.length := by rw [eR, List.length_append]
  obtain ⟨e, he⟩ : ∃ e : Nat, (e : Int) = mid + m - t := ⟨(mid + m - t).toNat, by omega⟩
  have aR : ∀ (i : Nat) y, R1[i]? = some y → R[i]? = some y := fun i y h => by rw [eR, List.getElem?_append_left (at_lt h)]; exact h
  have aR2 : ∀ (i : Nat) y, R2[i]? = some y → R[R1.length + i]? = some y := fun i y h => by rw [eR, List.getElem?_append_right (by omega), Nat.add_sub_cancel_left]; exact h
  have aL : ∀ (i : Nat) y, L1[i]? = some y → L[i]? = some y := fun i y h => by rw [eL, List.getElem?_append_left (at_lt h)]; exact h
  have aL2 : ∀ (i : Nat) y, L2[i]? = some y → L[L1.length + i]? = some y := fun i y h => by rw [eL, List.getElem?_append_right (by omega), Nat.add_sub_cancel_left]; exact h
  -- what comes first
  have i1 : ∀ x ∈ L1, ∀ y ∈ R2, aheadB q x y = true := fun x hx y hy => by
    obtain ⟨i, hi'⟩ := List.getElem?_of_mem hx
    obtain ⟨j, hj'⟩ := List.getElem?_of_mem hy
    have bi := at_lt hi'
    have bj := at_lt hj'
    have g1 : L[t - 1 - P.length]? = some (L[t - 1 - P.length]'(by omega)) := List.getElem?_eq_getElem (by omega)
    have g2 : R[mid + (P.length + L.length) - 1 - (t - 1) - (P.length + L.length)]? = some (R[mid + (P.length + L.length) - 1 - (t - 1) - (P.length + L.length)]'(by omega)) := List.getElem?_eq_getElem (by omega)
    have h := t4 (t - 1) (by omega) (by omega) _ _ g1 g2
    have hne := hd.app.2.2 _ (List.mem_of_getElem? g1) _ (List.mem_of_getElem? g2)
    have h2 := ahead_total (fun e => hne e.symm) h
    exact hR.tr2 (i := mid + (P.length + L.length) - 1 - (t - 1) - (P.length + L.length)) (by omega) g2 (aR2 j y hj') (hL.tr1 (by omega) (aL i x hi') g1 h2)
  have i2 : ∀ y ∈ R1, ∀ x ∈ L2, aheadB q y x = true := fun y hy x hx => by
    obtain ⟨i, hi'⟩ := List.getElem?_of_mem hx
    obtain ⟨j, hj'⟩ := List.getElem?_of_mem hy
    have bi := at_lt hi'
    have bj := at_lt hj'
    have g1 : L[t - P.length]? = some (L[t - P.length]'(by omega)) := List.getElem?_eq_getElem (by omega)
    have g2 : R[mid + (P.length + L.length) - 1 - t - (P.length + L.length)]? = some (R[mid + (P.length + L.length) - 1 - t - (P.length + L.length)]'(by omega)) := List.getElem?_eq_getElem (by omega)
    have h := t5 t (by omega) (by omega) _ _ g1 g2
    exact hR.tr1 (by omega) (aR j y hj') g2 (hL.tr2 (by omega) g1 (aL2 i x hi') h)
  have hL' := hL
  rw [eL] at hL'
  have hR' := hR
  rw [eR] at hR'
  have sL := Srt.app.1 hL'
  have sR := Srt.app.1 hR'
  have hd' := hd
  rw [eL, eR] at hd'
  have perm : (L1 ++ L2 ++ (R1 ++ R2)).Perm ((L1 ++ R1) ++ (L2 ++ R2)) := by
    simp only [List.append_assoc]
    refine List.Perm.append_left L1 ?_
    rw [← List.append_assoc, ← List.append_assoc]
    exact List.Perm.append_right R2 List.perm_append_comm
  have d2 := (hd'.perm perm).app
  have mem1 : ∀ y ∈ L1 ++ R1, y ∈ L ++ R := fun y hy => by rw [eL, eR]; simp at hy ⊢; rcases hy with h | h <;> simp [h]
  have mem2 : ∀ y ∈ L2 ++ R2, y ∈ L ++ R := fun y hy => by rw [eL, eR]; simp at hy ⊢; rcases hy with h | h <;> simp [h]
  have fin := symFin self q (P := P) (L1 := L1) (L2 := L2) (R1 := R1) (R2 := R2) (Q := Q) (a := a) (m := m) (b := b) (t := t) (mid := mid) (e := e) ha (by omega) (by omega) (by omega) (by omega) (by omega) (by omega) hd' hL' hR' i1 i2
    (fun h1 h2 => ih P L1 R1 (L2 ++ (R2 ++ Q)) h1 h2 (by omega) (by simp only [List.length_append]; omega) mem1 d2.1 sL.1 sR.1 a t mid ha (by omega) (by omega))
    (fun M1 lM h1 h2 => by
      have lpm : (P ++ M1).length = P.length + M1.length := List.length_append
      exact ih (P ++ M1) L2 R2 Q h1 h2 (by omega) (by simp only [List.length_append]; omega) mem2 d2.2.1 sL.2.1 sR.2.1 mid e b (by omega) (by omega) (by omega))
  dsimp only
  rw [w64_id (x := (mid : Int) + m - t) (by omega), ← he]
  rw [show P ++ (L ++ (R ++ Q)) = (P ++ L1) ++ (L2 ++ (R1 ++ (R2 ++ Q))) by rw [eL, eR]; simp, eL, eR]
  exact fin
theorem symMerge_g (q : Query) : ∀ (k : Nat) (P L R Q : List Row), L ≠ [] → R ≠ [] → L.length + R.length < k → (P ++ (L ++ (R ++ Q))).length ≤ 900 → (∀ y ∈ L ++ R, Row_b y) → Dst (L ++ R) → Srt q L → Srt q R → ∀ a m b : Int, a = P.length → m = P.length + L.length → b = P.length + L.length + R.length →
    ∃ M, slices_symMergeCmpFunc_impl_Row__impl_RowsFor_1.g k (P ++ (L ++ (R ++ Q))) a m b q = some (P ++ (M ++ Q)) ∧ M.Perm (L ++ R) ∧ Srt q M := by
  intro k
  induction k with
  | zero => intro P L R Q _ _ h; omega
  | succ k ih =>
    intro P L R Q hL0 hR0 hk hlen hb hd hL hR a m b ha hm hb'
    rw [slices_symMergeCmpFunc_impl_Row__impl_RowsFor_1.g]
    by_cases c1 : L.length = 1
    · obtain ⟨x, rfl⟩ := List.length_eq_one_iff.1 c1
      simp only [List.length_cons, List.length_nil] at hm hb'
      exact symOne _ q ha hm hb' hlen hb hd hR
    · by_cases c2 : R.length = 1
      · obtain ⟨x, rfl⟩ := List.length_eq_one_iff.1 c2
        simp only [List.length_cons, List.length_nil] at hb'
        exact symLast _ q c1 ha hm hb' hlen hb hd hL
      · exact symMid _ q c1 c2 hL0 hR0 ha hm hb' hlen hb hd hL hR fun P' L' R' Q' h1 h2 h3 h4 h5 h6 h7 h8 a' m' b' g1 g2 g3 => ih P' L' R' Q' h1 h2 (by omega) h4 (fun y hy => hb y (h5 y hy)) h6 h7 h8 a' m' b' g1 g2 g3
theorem symMerge_eq (q : Query) {P L R Q : List Row} (hL0 : L ≠ []) (hR0 : R ≠ []) (hlen : (P ++ (L ++ (R ++ Q))).length ≤ 900) (hb : ∀ y ∈ L ++ R, Row_b y) (hd : Dst (L ++ R)) (hL : Srt q L) (hR : Srt q R) {a m b : Int} (ha : a = P.length) (hm : m = P.length + L.length) (hb' : b = P.length + L.length + R.length) :
    ∃ M, slices_symMergeCmpFunc_impl_Row__impl_RowsFor_1.f (P ++ (L ++ (R ++ Q))) a m b q = some (P ++ (M ++ Q)) ∧ M.Perm (L ++ R) ∧ Srt q M := by
  have hlen' := hlen
  simp only [List.length_append] at hlen'
  exact symMerge_g q 1000 P L R Q hL0 hR0 (by omega) hlen hb hd hL hR a m b ha hm hb'

theorem stable_eq (q : Query) (l : List Row) (h : l.length ≤ 24) (hb : ∀ y ∈ l, Row_b y) (hd : Dst l) : ∃ M, slices_stableCmpFunc_impl_Row__impl_RowsFor_1.f l (l.length : Int) q = some M ∧ M.Perm l ∧ Srt q M := by
  unfold slices_stableCmpFunc_impl_Row__impl_RowsFor_1.f
  rw [joinK_eq]
  by_cases h20 : l.length < 20
  · obtain ⟨S, e1, e2, e3⟩ := insSort_eq (a1 := 0) (a2 := l.length) q (P := []) (T := l) (R := []) rfl (by simp) (by simp; omega) hb hd
    rw [show ((l.length : Int) - 20).toNat + 2 = 1 + 1 by omega, slices_stableCmpFunc_impl_Row__impl_RowsFor_1.l0, decide_eq_false (by omega), cond_false]
    simp only [List.nil_append, List.append_nil] at e1
    rw [e1, Option.bind_some, slices_stableCmpFunc_impl_Row__impl_RowsFor_1.l1, decide_eq_false (by omega), cond_false]
    exact ⟨S, rfl, e2, e3⟩
  · obtain ⟨A, B, rfl, lA⟩ : ∃ A B, l = A ++ B ∧ A.length = 20 := ⟨l.take 20, l.drop 20, (List.take_append_drop ..).symm, by rw [List.length_take]; omega⟩
    rw [List.length_append] at h
    have lAB : (A ++ B).length = A.length + B.length := List.length_append
    obtain ⟨S, e1, e2, e3⟩ := insSort_eq (a1 := 0) (a2 := 20) q (P := []) (T := A) (R := B) rfl (by simp only [List.length_nil]; omega) (by simp only [List.length_append, List.length_nil]; omega) (fun y hy => hb y (by simp [hy])) hd.app.1
    have lS : S.length = 20 := by rw [e2.length_eq, lA]
    obtain ⟨S', f1, f2, f3⟩ := insSort_eq (a1 := 20) (a2 := (A ++ B).length) q (P := S) (T := B) (R := []) (by omega) (by omega) (by simp only [List.length_append, List.length_nil]; omega) (fun y hy => hb y (by simp [hy])) hd.app.2.1
    have lS' : S'.length = B.length := f2.length_eq
    have p : (S ++ S').Perm (A ++ B) := e2.append f2
    rw [slices_stableCmpFunc_impl_Row__impl_RowsFor_1.l0, decide_eq_true (by omega), cond_true]
    simp only [List.nil_append] at e1
    rw [e1, Option.bind_some, w64_id (by omega), show (((A ++ B).length : Int) - 20).toNat + 1 = (((A ++ B).length : Int) - 20).toNat + 1 from rfl, slices_stableCmpFunc_impl_Row__impl_RowsFor_1.l0, decide_eq_false (by omega), cond_false]
    simp only [List.append_nil] at f1
    rw [f1, Option.bind_some, slices_stableCmpFunc_impl_Row__impl_RowsFor_1.l1]
    by_cases hB : B = []
    · subst hB
      simp only [List.length_nil] at lAB
      rw [decide_eq_false (by omega), cond_false]
      obtain rfl := List.length_eq_zero_iff.1 lS'
      exact ⟨S ++ [], rfl, p, by rw [List.append_nil]; exact e3⟩
    · have gB : 0 < B.length := List.length_pos_iff.2 hB
      rw [decide_eq_true (by omega), cond_true, joinK_eq, w64_id (x := 2 * 20) (by omega)]
      rw [show (((A ++ B).length : Int) - 2 * 20).toNat + 2 = 1 + 1 by omega, slices_stableCmpFunc_impl_Row__impl_RowsFor_1.l2, decide_eq_false (by omega), cond_false]
      obtain ⟨M, g1, g2, g3⟩ := symMerge_eq q (P := []) (L := S) (R := S') (Q := []) (by rintro rfl; simp at lS) (by rintro rfl; simp at lS'; omega) (by simp only [List.length_append, List.length_nil]; omega) (fun y hy => hb y (p.mem_iff.1 hy)) (hd.perm p.symm) e3 f3 (a := 0) (m := 20) (b := (A ++ B).length) rfl (by simp only [List.length_nil]; omega) (by simp only [List.length_nil]; omega)
      simp only [List.nil_append, List.append_nil] at g1
      rw [w64_id (x := 0 + 20) (by omega), show (0 : Int) + 20 = 20 from rfl, decide_eq_true (by omega), cond_true, g1, Option.bind_some, show (((A ++ B).length : Int) - 20).toNat = ((((A ++ B).length : Int) - 20).toNat - 1) + 1 by omega, slices_stableCmpFunc_impl_Row__impl_RowsFor_1.l1, w64_id (x := 20 * 2) (by omega), decide_eq_false (by omega), cond_false]
      exact ⟨M, rfl, g2.trans p, g3⟩

theorem sortStable_eq (q : Query) (l : List Row) (h : l.length ≤ 24) (hb : ∀ y ∈ l, Row_b y) (hd : Dst l) : ∃ M, slices_SortStableFunc_impl_Row__impl_RowsFor_1.f l q = some M ∧ M.Perm l ∧ Srt q M := by
  unfold slices_SortStableFunc_impl_Row__impl_RowsFor_1.f
  obtain ⟨M, e1, e2, e3⟩ := stable_eq q l h hb hd
  rw [lenI_eq, e1]
  exact ⟨M, rfl, e2, e3⟩

theorem rows_asc {s : Schema} {t : Int} {rows : List Row} (h : rowsB s t rows = true) : rows.Pairwise fun a b => a.Id < b.Id := by
  unfold rowsB at h
  rw [Bool.and_eq_true] at h
  have h1 : ∀ i, ∀ (hi : i + 1 < rows.length), rows[i].Id < rows[i + 1].Id := fun i hi => by
    have := allFrom_iff.1 h.1 (i + 1) rows[i + 1] (List.getElem?_eq_getElem hi)
    rw [Bool.and_eq_true] at this
    have h2 := this.2
    rw [decide_eq_true (by omega), Bool.true_and, Bool.not_eq_true', decide_eq_false_iff_not, List.getD_eq_getElem?_getD, Nat.add_sub_cancel, List.getElem?_eq_getElem (by omega), Option.getD_some] at h2
    omega
  refine List.pairwise_iff_getElem.2 fun i j hi hj hij => ?_
  have : ∀ d, ∀ (hd : i + d + 1 < rows.length), rows[i].Id < rows[i + d + 1].Id := fun d => by
    induction d with
    | zero => intro hd; exact h1 i hd
    | succ d ih => intro hd; have a := ih (by omega); have b := h1 (i + d + 1) hd; exact Int.lt_trans a b
  have e : i + (j - i - 1) + 1 = j := by omega
  have := this (j - i - 1) (by omega)
  simpa only [e] using this
theorem put_perm (q : Query) (l : List Row) (r : Row) : (putF q l r).Perm (l ++ [r]) := by
  unfold putF
  have : ((l.take (l.findIdx (aheadB q r)) ++ [r]) ++ l.drop (l.findIdx (aheadB q r))).Perm (l.take (l.findIdx (aheadB q r)) ++ (l.drop (l.findIdx (aheadB q r)) ++ [r])) := by
    rw [List.append_assoc]; exact List.Perm.append_left _ List.perm_append_comm
  rwa [← List.append_assoc, List.take_append_drop] at this
theorem put_srt {q : Query} {l : List Row} {r : Row} (h : Srt q l) (hd : ∀ x ∈ l, x.Id ≠ r.Id) : Srt q (putF q l r) := by
  unfold putF
  have h' := h
  rw [← List.take_append_drop (l.findIdx (aheadB q r)) l] at h'
  obtain ⟨h1, h2, h3⟩ := Srt.app.1 h'
  have a1 : ∀ x ∈ l.take (l.findIdx (aheadB q r)), aheadB q x r = true := fun x hx => by
    obtain ⟨i, hi⟩ := List.getElem?_of_mem hx
    have hl := at_lt hi
    rw [List.length_take] at hl
    have hi2 : i < l.length := by omega
    rw [List.getElem?_take, if_pos (by omega), List.getElem?_eq_getElem hi2] at hi
    have := List.not_of_lt_findIdx (xs := l) (p := aheadB q r) (i := i) (by omega)
    cases hi
    exact ahead_total (fun e => hd _ (List.getElem_mem hi2) e.symm) (by simpa using this)
  have a2 : ∀ x ∈ l.drop (l.findIdx (aheadB q r)), aheadB q r x = true := fun x hx => by
    obtain ⟨i, hi⟩ := List.getElem?_of_mem hx
    rw [List.getElem?_drop] at hi
    have hl := at_lt hi
    have g := List.findIdx_getElem (xs := l) (p := aheadB q r) (w := by omega)
    exact h.tr2 (Nat.le_add_right _ i) (List.getElem?_eq_getElem (by omega)) hi g
  rw [List.append_assoc]
  exact Srt.app.2 ⟨h1, List.pairwise_cons.2 ⟨a2, h2⟩, fun x hx y hy => by
    rcases List.mem_cons.1 hy with rfl | hy
    · exact a1 x hx
    · exact h3 x hx y hy⟩
theorem fold_srt {q : Query} : ∀ (rows acc : List Row), Srt q acc → Dst (acc ++ rows) → Srt q (rowsFold q rows acc) ∧ (rowsFold q rows acc).Perm (acc ++ rows.filter (matchesB q))
  | [], acc, h, _ => ⟨h, by simp [rowsFold]⟩
  | r :: rows, acc, h, hd => by
    have hd' : Dst (acc ++ [r] ++ rows) := by simpa using hd
    have e : rowsFold q (r :: rows) acc = rowsFold q rows (if matchesB q r = true then putF q acc r else acc) := rfl
    rw [e]
    by_cases hm : matchesB q r = true
    · rw [if_pos hm, List.filter_cons_of_pos hm]
      have p := put_perm q acc r
      obtain ⟨g1, g2⟩ := fold_srt rows (putF q acc r) (put_srt h fun x hx => (hd'.app.1).app.2.2 x hx r (by simp)) (hd'.perm (p.symm.append_right rows))
      exact ⟨g1, g2.trans (by simpa using p.append_right (rows.filter (matchesB q)))⟩
    · rw [if_neg hm, List.filter_cons_of_neg hm]
      have : Dst (acc ++ rows) := by
        refine List.Pairwise.sublist ?_ hd
        exact List.Sublist.append_left (List.sublist_cons_self r rows) acc
      exact fold_srt rows acc h this

theorem impl_RowsFor_l0 (q : Query) (hq : CondS_b q.Where) (rows : List Row) (hl : rows.length ≤ 24) (hr : ∀ r ∈ rows, Row_b r ∧ sz_Row r ≤ 4) (K : List Row → Option (List Row)) : ∀ (k i : Nat) (acc : List Row), i ≤ rows.length → rows.length < i + k → acc.length ≤ i → impl_RowsFor.l0 q rows K k acc i = K (acc ++ (rows.drop i).filter (matchesB q)) := by
  intro k
  induction k with
  | zero => intro i acc h h'; omega
  | succ k ih =>
    intro i acc h h' ha
    rw [impl_RowsFor.l0, lenI_eq]
    by_cases hi : i < rows.length
    · obtain ⟨b1, z1⟩ := hr _ (List.getElem_mem hi)
      rw [decide_eq_true (by omega), cond_true, getO_nat, List.getElem?_eq_getElem hi, Option.bind_some, bnd_some (impl_Matches_eq q _ hq b1), List.drop_eq_getElem_cons hi, w64_succ (by omega)]
      cases hm : matchesB q rows[i] with
      | true =>
        rw [cond_true, bnd_some (impl_copyRow_eq _ (by omega)), Option.bind_some, appO_ok (by simp only [List.length_cons, List.length_nil]; omega), Option.bind_some, List.filter_cons_of_pos hm, ih (i + 1) _ (by omega) (by omega) (by simp only [List.length_append, List.length_cons, List.length_nil]; omega)]
        simp
      | false =>
        rw [cond_false, List.filter_cons_of_neg (by simp [hm])]
        exact ih (i + 1) _ (by omega) (by omega) (by omega)
    · rw [decide_eq_false (by omega), cond_false, List.drop_eq_nil_of_le (by omega)]
      simp
theorem impl_RowsFor_eq (s : Store) (q : Query) (hs : Store_b s) (hq : Query_b q) : impl_RowsFor.f s q = some (rowsForF s q) := by
  unfold impl_RowsFor.f rowsForF
  rw [impl_StoreOk_eq _ hs, Option.bind_some, impl_QueryOk_eq _ _ hs.1 hq]
  cases h1 : storeB s with
  | false => rfl
  | true =>
    cases h2 : queryB s.Schema q with
    | false => rfl
    | true =>
      simp only [bo3_not, Bool.not_true, Bool.not_false, bo3_F, bo3_T, gd_true, Option.bind_some, cond_false, Bool.true_and, if_true]
      obtain ⟨t1, t2⟩ := query_table h2
      have hl := (store_len h1).1
      have ht : q.Table.toNat < s.Tables.length := by omega
      have hrows := table_rows h1 ht
      have hlen := rows_len hrows
      rw [joinK_eq, show getO s.Tables q.Table = some (tableOf s q.Table) from getO_in (by omega), Option.bind_some]
      rw [Int.toNat_of_nonneg t1] at hrows hlen
      have hr : ∀ r ∈ tableOf s q.Table, Row_b r ∧ sz_Row r ≤ 4 := fun r hr => by
        obtain ⟨i, hi⟩ := List.getElem?_of_mem hr
        have z := rowB_sz (rows_row hrows hi)
        exact ⟨by unfold Row_b IntS_b; unfold sz_Row sz_IntS at z; omega, z⟩
      have hd : Dst (tableOf s q.Table) := (rows_asc hrows).imp fun h e => by omega
      have e := impl_RowsFor_l0 q hq.1 (tableOf s q.Table) hlen hr (fun y11 => (slices_SortStableFunc_impl_Row__impl_RowsFor_1.f y11 q).bind fun r36 => some r36) (((lenI (tableOf s q.Table)) - 0).toNat + 1) 0 [] (by omega) (by rw [lenI_eq]; omega) (by simp)
      rw [List.drop_zero, List.nil_append] at e
      have hfd : Dst ((tableOf s q.Table).filter (matchesB q)) := List.Pairwise.sublist List.filter_sublist hd
      obtain ⟨M, m1, m2, m3⟩ := sortStable_eq q ((tableOf s q.Table).filter (matchesB q)) (Nat.le_trans (List.length_filter_le ..) hlen) (fun y hy => (hr y (List.mem_filter.1 hy).1).1) hfd
      obtain ⟨g1, g2⟩ := fold_srt (q := q) (tableOf s q.Table) [] List.Pairwise.nil (by simpa using hd)
      rw [List.nil_append] at g2
      have : M = rowsFold q (tableOf s q.Table) [] := m3.unique g1 (m2.trans g2.symm)
      refine e.trans ?_
      rw [m1, Option.bind_some, this]

theorem impl_copyQuery_eq (q : Query) (h : sz_Query q ≤ 1099511627776) : impl_copyQuery.f q = some q := by
  have p1 := sz_CondS_0 q.Where
  have p2 := sz_IntS_0 q.Show
  unfold sz_Query at h
  unfold sz_CondS at p1 h
  unfold sz_IntS at p2 h
  unfold impl_copyQuery.f
  rw [appO_ok (by simp only [List.length_nil]; omega), Option.bind_some, impl_copyInts_eq _ (by omega), Option.bind_some]
  rfl





theorem impl_KidPut_l0 (l : List Kid) (id : Int) (K : Int → Option (List Kid)) (hl : (l.length : Int) ≤ 1099511627776) : ∀ (k i : Nat), i ≤ l.length → l.length < i + k → ¬ (l.take i).findIdx (isKid id) < i →
    impl_KidPut.l0 id l K k i = K (l.findIdx (isKid id) : Int) := by
  intro k
  induction k with
  | zero => intro i h h'; omega
  | succ k ih =>
    intro i h h' hn
    by_cases hi : i < l.length
    · have hx : l[i]? = some l[i] := List.getElem?_eq_getElem hi
      obtain ⟨f1, f2⟩ := findIdx_takeA (isKid id) l hx hn
      rw [impl_KidPut.l0, lenI_eq, decide_eq_true (by omega), gd_true, getO_nat, hx, Option.bind_some, bo3_T, w64_succ (by omega)]
      by_cases c : l[i].Id < id
      · rw [decide_eq_true c, cond_true]
        exact ih (i + 1) (by omega) (by omega) (f2 (decide_eq_false (by omega)))
      · rw [decide_eq_false c, cond_false, f1 (decide_eq_true (by omega))]
    · rw [List.take_of_length_le (by omega)] at hn
      have hle := List.findIdx_le_length (xs := l) (p := isKid id)
      rw [impl_KidPut.l0, lenI_eq, decide_eq_false (by omega), gd_false, Option.bind_some, bo3_F, cond_false]
      congr 1
      omega
theorem impl_KidPut_eq (l : List Kid) (id by_ : Int) (h : (l.length : Int) ≤ 1099511627776) : impl_KidPut.f l id by_ = some (kidPutF l id by_) := by
  unfold impl_KidPut.f
  rw [appO_ok (by simp; omega), Option.bind_some, List.nil_append]
  simp only [joinK]
  refine (impl_KidPut_l0 l id _ h (((lenI l) - 0).toNat + 1) 0 (by omega) (by rw [lenI_eq]; omega) (by omega)).trans ?_
  have hle := List.findIdx_le_length (xs := l) (p := isKid id)
  unfold kidPutF
  by_cases c : l.findIdx (isKid id) < l.length
  · have hx : l[l.findIdx (isKid id)]? = some l[l.findIdx (isKid id)] := List.getElem?_eq_getElem c
    rw [lenI_eq, decide_eq_false (by omega), bo3_F, gd_true, getO_nat, hx, Option.bind_some, bo3_F]
    dsimp only
    generalize hk : l[l.findIdx (isKid id)] = x at *
    generalize hn : l.findIdx (isKid id) = n at *
    by_cases e : x.Id = id
    · rw [decide_eq_false (show ¬ x.Id ≠ id from fun h => h e), cond_false, if_pos e, Option.bind_some, Option.bind_some, setI_nat, getO_nat, List.getElem?_set_self c, Option.bind_some, e]
      dsimp only
      by_cases n0 : 0 < w64 (x.N + by_)
      · rw [decide_eq_false (by omega), cond_false, if_pos n0]
      · rw [decide_eq_true (by omega), cond_true, if_neg n0, slices_Delete_impl_Kid.f, delO, w64_succ (by omega), if_pos ⟨by omega, by omega, by rw [List.length_set]; omega⟩, Option.bind_some, Int.toNat_natCast, Int.toNat_natCast, List.eraseIdx_eq_take_drop_succ, List.take_set_of_le (Nat.le_refl _), List.drop_set_of_lt (by omega)]
    · rw [decide_eq_true (show x.Id ≠ id from e), cond_true, if_neg e]
      by_cases n0 : 0 < by_
      · rw [decide_eq_false (by omega), cond_false, if_pos n0, Option.bind_some, slices_Insert_impl_Kid.f, insO, if_pos ⟨rfl, by omega, by omega, by simp; omega, by simp; omega⟩, Option.bind_some, Int.toNat_natCast]
      · rw [decide_eq_true (by omega), cond_true, if_neg n0]
  · have e : l.findIdx (isKid id) = l.length := by omega
    rw [lenI_eq, e, decide_eq_true rfl, bo3_T, gd_false, Option.bind_some, bo3_T, cond_true, List.getElem?_eq_none (by omega)]
    dsimp only
    by_cases n0 : 0 < by_
    · rw [decide_eq_false (by omega), cond_false, if_pos n0, Option.bind_some, slices_Insert_impl_Kid.f, insO, if_pos ⟨rfl, by omega, by omega, by simp; omega, by simp; omega⟩, Option.bind_some, Int.toNat_natCast, List.take_length, List.drop_length, List.append_nil]
    · rw [decide_eq_true (by omega), cond_true, if_neg n0]

theorem impl_ViewOf_l0 (q r11 : Query) (r12 rows : List Row) (hl : rows.length ≤ 24) (hc0 : 0 ≤ q.KidCol) (hc : ∀ r ∈ rows, q.KidCol < (r.Cells.length : Int)) : ∀ (k i : Nat) (acc : List Kid), i ≤ rows.length → rows.length < i + k → acc.length ≤ i → impl_ViewOf.l0 q r11 r12 rows k acc i = some (⟨r11, r12, kidsFold q.KidCol.toNat (rows.drop i) acc⟩, true) := by
  intro k
  induction k with
  | zero => intro i acc h h'; omega
  | succ k ih =>
    intro i acc h h' ha
    rw [impl_ViewOf.l0, lenI_eq]
    by_cases hi : i < rows.length
    · have h1 := hc _ (List.getElem_mem hi)
      rw [decide_eq_true (by omega), cond_true, getO_nat, List.getElem?_eq_getElem hi, Option.bind_some, show getO rows[i].Cells q.KidCol = some (rows[i].Cells.getD q.KidCol.toNat 0) from getO_Int ⟨hc0, by omega⟩, Option.bind_some, bnd_some (impl_KidPut_eq acc _ 1 (by omega)), List.drop_eq_getElem_cons hi, w64_succ (by omega)]
      have := kidPut_len acc (rows[i].Cells.getD q.KidCol.toNat 0) 1
      exact ih (i + 1) _ (by omega) (by omega) (by omega)
    · rw [decide_eq_false (by omega), cond_false, List.drop_eq_nil_of_le (by omega)]
      rfl
theorem impl_ViewOf_eq (s : Store) (q : Query) (hs : Store_b s) (hq : Query_b q) (hz : sz_Query q ≤ 1099511627776) : impl_ViewOf.f s q = some (viewOfF s q) := by
  unfold impl_ViewOf.f viewOfF
  rw [impl_StoreOk_eq _ hs, Option.bind_some, impl_QueryOk_eq _ _ hs.1 hq]
  cases h1 : storeB s with
  | false => rfl
  | true =>
    cases h2 : queryB s.Schema q with
    | false => rfl
    | true =>
      simp only [bo3_not, Bool.not_true, Bool.not_false, bo3_F, bo3_T, gd_true, Option.bind_some, cond_false, Bool.true_and, if_true]
      rw [bnd_some (impl_copyQuery_eq q hz), bnd_some (impl_RowsFor_eq s q hs hq)]
      obtain ⟨hl1, hl2⟩ := store_len h1
      have h3 := schema_len hl2
      cases hk : q.Kids with
      | true =>
        obtain ⟨hk1, hk2⟩ := query_kids h2 hk
        have hcol := schema_col hl2 hk1
        rw [w64_id (by omega)] at hk2
        have hrows := table_rows h1 (t := q.KidTable.toNat) (by omega)
        rw [Int.toNat_of_nonneg hk1.1] at hrows
        have hlen := rows_len hrows
        rw [cond_true, show getO s.Tables q.KidTable = some (tableOf s q.KidTable) from getO_in (by omega), Option.bind_some, if_pos rfl]
        exact impl_ViewOf_l0 q q (rowsForF s q) (tableOf s q.KidTable) hlen hk2.1 (fun r hr => by
          obtain ⟨i, hi⟩ := List.getElem?_of_mem hr
          have hc := row_cells (rows_row hrows hi)
          omega) (((lenI (tableOf s q.KidTable)) - 0).toNat + 1) 0 [] (by omega) (by rw [lenI_eq]; omega) (by simp)
      | false =>
        rw [cond_false, if_neg (by simp)]

theorem laws_eqKid_eq (a b : Kid) : laws_eqKid.f a b = some (decide (a = b)) := by
  unfold laws_eqKid.f
  by_cases c_Id : a.Id = b.Id
  case neg => rw [decide_eq_true c_Id, cond_true, decide_eq_false (fun e => c_Id (by rw [e]))]
  rw [decide_eq_false (fun e => e c_Id), cond_false]
  by_cases c_N : a.N = b.N
  case neg => rw [decide_eq_true c_N, cond_true, decide_eq_false (fun e => c_N (by rw [e]))]
  rw [decide_eq_false (fun e => e c_N), cond_false]
  rw [decide_eq_true (by cases a; cases b; simp_all)]
theorem laws_eqKidS_eq (a b : List Kid) (ha : KidS_b a) (hb : KidS_b b) : laws_eqKidS.f a b = some (decide (a = b)) := by
  unfold KidS_b at ha hb
  unfold laws_eqKidS.f
  by_cases hl : a.length = b.length
  · rw [decide_eq_false (by simp only [lenI_eq]; omega), cond_false]
    refine (loop_eq (f := laws_eqKidS.l0 a b) hl (some false) (some true) (fun k i x y hx hy => ?_) (fun k i hi => ?_) _ (by simp only [lenI_eq]; omega)).trans ?_
    · have hi := at_lt hx
      rw [laws_eqKidS.l0, lenI_eq, decide_eq_true (by omega), cond_true, getO_nat, hx, Option.bind_some, getO_nat, hy, Option.bind_some, laws_eqKid_eq x y, Option.bind_some, bo3_not, w64_succ (by omega)]
      by_cases c : x = y
      · simp [c]
      · simp [c]
    · rw [laws_eqKidS.l0, lenI_eq, decide_eq_false (by omega), cond_false]
    · cases decide (a = b) <;> rfl
  · rw [decide_eq_true (by simp only [lenI_eq]; omega), cond_true, decide_eq_false (fun e => hl (by rw [e]))]
theorem laws_eqView_eq (a b : View) (ha : View_b a) (hb : View_b b) : laws_eqView.f a b = some (decide (a = b)) := by
  obtain ⟨ha_Q, ha_Rows, ha_Kids⟩ := ha
  obtain ⟨hb_Q, hb_Rows, hb_Kids⟩ := hb
  unfold laws_eqView.f
  rw [laws_eqQuery_eq _ _ ha_Q hb_Q, Option.bind_some]
  by_cases c_Q : a.Q = b.Q
  case neg => rw [decide_eq_false c_Q, show bo3 false false true = true from rfl, cond_true, decide_eq_false (fun e => c_Q (by rw [e]))]
  rw [decide_eq_true c_Q, show bo3 true false true = false from rfl, cond_false]
  rw [laws_eqRowS_eq _ _ ha_Rows hb_Rows, Option.bind_some]
  by_cases c_Rows : a.Rows = b.Rows
  case neg => rw [decide_eq_false c_Rows, show bo3 false false true = true from rfl, cond_true, decide_eq_false (fun e => c_Rows (by rw [e]))]
  rw [decide_eq_true c_Rows, show bo3 true false true = false from rfl, cond_false]
  rw [laws_eqKidS_eq _ _ ha_Kids hb_Kids, Option.bind_some]
  by_cases c_Kids : a.Kids = b.Kids
  case neg => rw [decide_eq_false c_Kids, show bo3 false false true = true from rfl, cond_true, decide_eq_false (fun e => c_Kids (by rw [e]))]
  rw [decide_eq_true c_Kids, show bo3 true false true = false from rfl, cond_false]
  rw [decide_eq_true (by cases a; cases b; simp_all)]
def Hd_Cond (x : Cond) (q q' : Int) : Prop := x.Col = q ∧ x.Op = q + 1 ∧ x.V = q + 1 + 1 ∧ q' = q + 1 + 1 + 1
theorem Hd_Cond_mono (x : Cond) (q q' : Int) (h : Hd_Cond x q q') : q ≤ q' := by
  obtain ⟨e0, e1, e2, rfl⟩ := h
  omega
theorem mark_CondS (l : List Cond) (q : Int) (hq : 0 ≤ q) (hB : q + 16 * sz_CondS l ≤ 4611686018427387904) : ∃ l' q', laws_markCondS.f l q = some (l', q') ∧ laws_heldCondS.f l' q = some q' ∧ q ≤ q' ∧ q' ≤ q + 16 * sz_CondS l := by
  unfold sz_CondS at hB
  have hz : (l.length : Int) ≤ 288230376151711744 := by omega
  have step : ∀ k (i : Nat) (s : List Cond) (x : Cond) (q : Int), s.length = l.length → s[i]? = some x → 0 ≤ q → q + (fun _ => 16 * (1 + 0)) x ≤ 4611686018427387904 → ∃ x' q', laws_markCondS.l0 (k + 1) s q i = laws_markCondS.l0 k (s.set i x') q' ((i + 1 : Nat) : Int) ∧ q ≤ q' ∧ q' ≤ q + (fun _ => 16 * (1 + 0)) x ∧ Hd_Cond x' q q' := by
    intro k i s x q hn hx hq hB
    have hi := at_lt hx
    have g0 : getO s i = some x := by rw [getO_nat, hx]
    have hB : q + 16 * (1 + 0) ≤ 4611686018427387904 := hB
    have w0 : w64 (q + 1) = q + 1 := w64_id (by omega)
    have w1 : w64 (q + 1 + 1) = q + 1 + 1 := w64_id (by omega)
    have w2 : w64 (q + 1 + 1 + 1) = q + 1 + 1 + 1 := w64_id (by omega)
    refine ⟨(Cond.mk (q) (q + 1) (q + 1 + 1)), q + 1 + 1 + 1, ?_, by omega, ?_, ⟨rfl, rfl, rfl, rfl⟩⟩
    · rw [laws_markCondS.l0, lenI_eq, decide_eq_true (by omega), cond_true]
      simp only [g0, get_set g0, setI_setI, Option.bind_some, w0, w1, w2]
      rw [w64_succ (by omega), setI_nat]
    · show _ ≤ q + 16 * (1 + 0); omega
  have last : ∀ k (s : List Cond) (q : Int) (i : Nat), i = s.length → laws_markCondS.l0 (k + 1) s q i = some (s, q) := by
    intro k s q i hi
    rw [laws_markCondS.l0, lenI_eq, decide_eq_false (by omega), cond_false]
  obtain ⟨l', q', m, hl, _, lo, hi, hd⟩ := loop_mark (fm := laws_markCondS.l0) l.length 4611686018427387904 (fun _ => 16 * (1 + 0)) Hd_Cond (fun _ => by decide) step last (((lenI l) - 0).toNat + 1) 0 l q rfl (by omega) (by simp only [lenI_eq]; omega) hq (by rw [List.drop_zero, sum_0]; omega)
  refine ⟨l', q', m, ?_, lo, ?_⟩
  · unfold laws_heldCondS.f
    refine loop_held (fh := laws_heldCondS.l0 l') (l := l') Hd_Cond Hd_Cond_mono (fun k i x q q' hx hd hq hB => ?_) (fun k q i hi => ?_) _ 0 q q' (by omega) (by simp only [lenI_eq]; omega) hq (by rw [List.drop_zero, sum_0] at hi; omega) (by rw [List.drop_zero] at hd; exact hd)
    · have hi := at_lt hx
      obtain ⟨e0, e1, e2, rfl⟩ := hd
      have w0 : w64 (q + 1) = q + 1 := w64_id (by omega)
      have w1 : w64 (q + 1 + 1) = q + 1 + 1 := w64_id (by omega)
      have w2 : w64 (q + 1 + 1 + 1) = q + 1 + 1 + 1 := w64_id (by omega)
      rw [laws_heldCondS.l0, lenI_eq, decide_eq_true (by omega), cond_true, getO_nat, hx, Option.bind_some]
      simp only [e0, e1, e2, w0, w1, w2, ne_eq, not_true_eq_false, decide_false, cond_false, Option.bind_some, bo3_self]
      rw [w64_succ (by omega)]
    · rw [laws_heldCondS.l0, lenI_eq, decide_eq_false (by omega), cond_false]
  · rw [List.drop_zero, sum_0] at hi; unfold sz_CondS; omega
theorem mark_Query (x : Query) (q : Int) (hq : 0 ≤ q) (hB : q + 16 * sz_Query x ≤ 4611686018427387904) : ∃ s0 s1 q', laws_markQuery.f x q = some ((Query.mk x.Table s0 x.Order x.Down x.First s1 x.Kids x.KidTable x.KidCol), q') ∧ laws_heldQuery.f (Query.mk x.Table s0 x.Order x.Down x.First s1 x.Kids x.KidTable x.KidCol) q = some q' ∧ q ≤ q' ∧ q' ≤ q + 16 * sz_Query x := by
  unfold sz_Query at hB ⊢
  have p_Where := sz_CondS_0 x.Where
  have p_Show := sz_IntS_0 x.Show
  obtain ⟨s0, q0, m0, d0, a0, b0⟩ := mark_CondS x.Where q (by omega) (by omega)
  have n0 : ¬ q0 < 0 := by omega
  obtain ⟨s1, q1, m1, d1, a1, b1⟩ := mark_IntS x.Show q0 (by omega) (by omega)
  have n1 : ¬ q1 < 0 := by omega
  refine ⟨s0, s1, q1, ?_, ?_, by omega, by omega⟩
  · unfold laws_markQuery.f; simp only [m0, m1, Option.bind_some]
  · unfold laws_heldQuery.f; simp only [d0, n0, d1, n1, decide_false, cond_false, Option.bind_some]
def Hd_Kid (x : Kid) (q q' : Int) : Prop := x.Id = q ∧ x.N = q + 1 ∧ q' = q + 1 + 1
theorem Hd_Kid_mono (x : Kid) (q q' : Int) (h : Hd_Kid x q q') : q ≤ q' := by
  obtain ⟨e0, e1, rfl⟩ := h
  omega
theorem mark_KidS (l : List Kid) (q : Int) (hq : 0 ≤ q) (hB : q + 16 * sz_KidS l ≤ 4611686018427387904) : ∃ l' q', laws_markKidS.f l q = some (l', q') ∧ laws_heldKidS.f l' q = some q' ∧ q ≤ q' ∧ q' ≤ q + 16 * sz_KidS l := by
  unfold sz_KidS at hB
  have hz : (l.length : Int) ≤ 288230376151711744 := by omega
  have step : ∀ k (i : Nat) (s : List Kid) (x : Kid) (q : Int), s.length = l.length → s[i]? = some x → 0 ≤ q → q + (fun _ => 16 * (1 + 0)) x ≤ 4611686018427387904 → ∃ x' q', laws_markKidS.l0 (k + 1) s q i = laws_markKidS.l0 k (s.set i x') q' ((i + 1 : Nat) : Int) ∧ q ≤ q' ∧ q' ≤ q + (fun _ => 16 * (1 + 0)) x ∧ Hd_Kid x' q q' := by
    intro k i s x q hn hx hq hB
    have hi := at_lt hx
    have g0 : getO s i = some x := by rw [getO_nat, hx]
    have hB : q + 16 * (1 + 0) ≤ 4611686018427387904 := hB
    have w0 : w64 (q + 1) = q + 1 := w64_id (by omega)
    have w1 : w64 (q + 1 + 1) = q + 1 + 1 := w64_id (by omega)
    refine ⟨(Kid.mk (q) (q + 1)), q + 1 + 1, ?_, by omega, ?_, ⟨rfl, rfl, rfl⟩⟩
    · rw [laws_markKidS.l0, lenI_eq, decide_eq_true (by omega), cond_true]
      simp only [g0, get_set g0, setI_setI, Option.bind_some, w0, w1]
      rw [w64_succ (by omega), setI_nat]
    · show _ ≤ q + 16 * (1 + 0); omega
  have last : ∀ k (s : List Kid) (q : Int) (i : Nat), i = s.length → laws_markKidS.l0 (k + 1) s q i = some (s, q) := by
    intro k s q i hi
    rw [laws_markKidS.l0, lenI_eq, decide_eq_false (by omega), cond_false]
  obtain ⟨l', q', m, hl, _, lo, hi, hd⟩ := loop_mark (fm := laws_markKidS.l0) l.length 4611686018427387904 (fun _ => 16 * (1 + 0)) Hd_Kid (fun _ => by decide) step last (((lenI l) - 0).toNat + 1) 0 l q rfl (by omega) (by simp only [lenI_eq]; omega) hq (by rw [List.drop_zero, sum_0]; omega)
  refine ⟨l', q', m, ?_, lo, ?_⟩
  · unfold laws_heldKidS.f
    refine loop_held (fh := laws_heldKidS.l0 l') (l := l') Hd_Kid Hd_Kid_mono (fun k i x q q' hx hd hq hB => ?_) (fun k q i hi => ?_) _ 0 q q' (by omega) (by simp only [lenI_eq]; omega) hq (by rw [List.drop_zero, sum_0] at hi; omega) (by rw [List.drop_zero] at hd; exact hd)
    · have hi := at_lt hx
      obtain ⟨e0, e1, rfl⟩ := hd
      have w0 : w64 (q + 1) = q + 1 := w64_id (by omega)
      have w1 : w64 (q + 1 + 1) = q + 1 + 1 := w64_id (by omega)
      rw [laws_heldKidS.l0, lenI_eq, decide_eq_true (by omega), cond_true, getO_nat, hx, Option.bind_some]
      simp only [e0, e1, w0, w1, ne_eq, not_true_eq_false, decide_false, cond_false, Option.bind_some, bo3_self]
      rw [w64_succ (by omega)]
    · rw [laws_heldKidS.l0, lenI_eq, decide_eq_false (by omega), cond_false]
  · rw [List.drop_zero, sum_0] at hi; unfold sz_KidS; omega
theorem mark_View (x : View) (q : Int) (hq : 0 ≤ q) (hB : q + 16 * sz_View x ≤ 4611686018427387904) : ∃ s0 s1 s2 s3 q', laws_markView.f x q = some ((View.mk (Query.mk x.Q.Table s0 x.Q.Order x.Q.Down x.Q.First s1 x.Q.Kids x.Q.KidTable x.Q.KidCol) s2 s3), q') ∧ laws_heldView.f (View.mk (Query.mk x.Q.Table s0 x.Q.Order x.Q.Down x.Q.First s1 x.Q.Kids x.Q.KidTable x.Q.KidCol) s2 s3) q = some q' ∧ q ≤ q' ∧ q' ≤ q + 16 * sz_View x := by
  unfold sz_View at hB ⊢
  have p_Q := sz_Query_0 x.Q
  have p_Rows := sz_RowS_0 x.Rows
  have p_Kids := sz_KidS_0 x.Kids
  obtain ⟨s0, s1, q0, m0, d0, a0, b0⟩ := mark_Query x.Q q (by omega) (by omega)
  have n0 : ¬ q0 < 0 := by omega
  obtain ⟨s2, q1, m1, d1, a1, b1⟩ := mark_RowS x.Rows q0 (by omega) (by omega)
  have n1 : ¬ q1 < 0 := by omega
  obtain ⟨s3, q2, m2, d2, a2, b2⟩ := mark_KidS x.Kids q1 (by omega) (by omega)
  have n2 : ¬ q2 < 0 := by omega
  refine ⟨s0, s1, s2, s3, q2, ?_, ?_, by omega, by omega⟩
  · unfold laws_markView.f; simp only [m0, m1, m2, Option.bind_some]
  · unfold laws_heldView.f; simp only [d0, n0, d1, n1, d2, n2, decide_false, cond_false, Option.bind_some]
theorem laws_szIntS_eq (a : List Int) (n : Int) (hn : 0 ≤ n ∧ n ≤ 1048576) (hb : IntS_b a) : laws_szIntS.f a n = some (if n < sz_IntS a then -1 else n - sz_IntS a) := by
  unfold laws_szIntS.f sz_IntS
  unfold IntS_b at hb
  rw [lenI_eq, w64_id (by omega)]
  by_cases c : n < (a.length : Int)
  · rw [if_pos c, decide_eq_true (by omega), cond_true]
  · rw [if_neg c, decide_eq_false (by omega), cond_false]
theorem laws_szSchema_eq (a : Schema) (n : Int) (hn : 0 ≤ n ∧ n ≤ 1048576) (hb : Schema_b a) : laws_szSchema.f a n = some (if n < sz_Schema a then -1 else n - sz_Schema a) := by
  unfold laws_szSchema.f sz_Schema
  have h0 := hb
  have p_Cols := sz_IntS_0 a.Cols
  rw [laws_szIntS_eq _ _ (by omega) h0, Option.bind_some]
  by_cases c0 : n < sz_IntS a.Cols
  · rw [if_pos c0]; rfl
  · rw [if_neg c0, decide_eq_false (by omega), cond_false]
theorem laws_szRow_eq (a : Row) (n : Int) (hn : 0 ≤ n ∧ n ≤ 1048576) (hb : Row_b a) : laws_szRow.f a n = some (if n < sz_Row a then -1 else n - sz_Row a) := by
  unfold laws_szRow.f sz_Row
  have h0 := hb
  have p_Cells := sz_IntS_0 a.Cells
  rw [laws_szIntS_eq _ _ (by omega) h0, Option.bind_some]
  by_cases c0 : n < sz_IntS a.Cells
  · rw [if_pos c0]; rfl
  · rw [if_neg c0, decide_eq_false (by omega), cond_false]
theorem laws_szRowS_eq (a : List Row) (n : Int) (hn : 0 ≤ n ∧ n ≤ 1048576) (hb : RowS_b a) : laws_szRowS.f a n = some (if n < sz_RowS a then -1 else n - sz_RowS a) := by
  unfold laws_szRowS.f sz_RowS
  obtain ⟨h1, h2⟩ := hb
  have p := sum_nonneg sz_Row_0 a
  rw [lenI_eq, w64_id (by omega)]
  by_cases c : n < (a.length : Int)
  · rw [if_pos (by omega), decide_eq_true (by omega), cond_true]
  · rw [decide_eq_false (by omega), cond_false]
    have key := loop_sz (f := laws_szRowS.l0 a) (l := a) sz_Row sz_Row_0 (fun k i acc x hx h0 h0' => by
      have hi := at_lt hx
      rw [laws_szRowS.l0, lenI_eq, decide_eq_true (by omega), cond_true, getO_nat, hx, Option.bind_some, laws_szRow_eq x acc ⟨h0, h0'⟩ (h2 x (List.mem_of_getElem? hx)), Option.bind_some, w64_succ (by omega)]
      by_cases d : acc < sz_Row x
      · rw [if_pos d, if_pos d, decide_eq_true (by omega), cond_true]
      · rw [if_neg d, if_neg d, decide_eq_false (by omega), cond_false]) (fun k acc i hi => by
      rw [laws_szRowS.l0, lenI_eq, decide_eq_false (by omega), cond_false]) (((a.length : Int) - 0).toNat + 1) 0 (n - a.length) (by omega) (by omega) (by omega) (by omega)
    rw [List.drop_zero] at key
    refine Eq.trans key ?_
    congr 1
    by_cases d : n - a.length < (a.map sz_Row).sum
    · rw [if_pos d, if_pos (by omega)]
    · rw [if_neg d, if_neg (by omega)]; omega
theorem laws_szRowSS_eq (a : List (List Row)) (n : Int) (hn : 0 ≤ n ∧ n ≤ 1048576) (hb : RowSS_b a) : laws_szRowSS.f a n = some (if n < sz_RowSS a then -1 else n - sz_RowSS a) := by
  unfold laws_szRowSS.f sz_RowSS
  obtain ⟨h1, h2⟩ := hb
  have p := sum_nonneg sz_RowS_0 a
  rw [lenI_eq, w64_id (by omega)]
  by_cases c : n < (a.length : Int)
  · rw [if_pos (by omega), decide_eq_true (by omega), cond_true]
  · rw [decide_eq_false (by omega), cond_false]
    have key := loop_sz (f := laws_szRowSS.l0 a) (l := a) sz_RowS sz_RowS_0 (fun k i acc x hx h0 h0' => by
      have hi := at_lt hx
      rw [laws_szRowSS.l0, lenI_eq, decide_eq_true (by omega), cond_true, getO_nat, hx, Option.bind_some, laws_szRowS_eq x acc ⟨h0, h0'⟩ (h2 x (List.mem_of_getElem? hx)), Option.bind_some, w64_succ (by omega)]
      by_cases d : acc < sz_RowS x
      · rw [if_pos d, if_pos d, decide_eq_true (by omega), cond_true]
      · rw [if_neg d, if_neg d, decide_eq_false (by omega), cond_false]) (fun k acc i hi => by
      rw [laws_szRowSS.l0, lenI_eq, decide_eq_false (by omega), cond_false]) (((a.length : Int) - 0).toNat + 1) 0 (n - a.length) (by omega) (by omega) (by omega) (by omega)
    rw [List.drop_zero] at key
    refine Eq.trans key ?_
    congr 1
    by_cases d : n - a.length < (a.map sz_RowS).sum
    · rw [if_pos d, if_pos (by omega)]
    · rw [if_neg d, if_neg (by omega)]; omega
theorem laws_szStore_eq (a : Store) (n : Int) (hn : 0 ≤ n ∧ n ≤ 1048576) (hb : Store_b a) : laws_szStore.f a n = some (if n < sz_Store a then -1 else n - sz_Store a) := by
  unfold laws_szStore.f sz_Store
  obtain ⟨h0, h1⟩ := hb
  have p_Schema := sz_Schema_0 a.Schema
  have p_Tables := sz_RowSS_0 a.Tables
  rw [laws_szSchema_eq _ _ (by omega) h0, Option.bind_some]
  by_cases c0 : n < sz_Schema a.Schema
  · rw [if_pos c0, if_pos (by omega)]; rfl
  · rw [if_neg c0, decide_eq_false (by omega), cond_false]
    rw [laws_szRowSS_eq _ _ (by omega) h1, Option.bind_some]
    by_cases c1 : n - sz_Schema a.Schema < sz_RowSS a.Tables
    · rw [if_pos c1, if_pos (by omega)]; rfl
    · rw [if_neg c1, decide_eq_false (by omega), cond_false]
      rw [if_neg (by omega)]
      congr 1; omega
theorem laws_szCondS_eq (a : List Cond) (n : Int) (hn : 0 ≤ n ∧ n ≤ 1048576) (hb : CondS_b a) : laws_szCondS.f a n = some (if n < sz_CondS a then -1 else n - sz_CondS a) := by
  unfold laws_szCondS.f sz_CondS
  unfold CondS_b at hb
  rw [lenI_eq, w64_id (by omega)]
  by_cases c : n < (a.length : Int)
  · rw [if_pos c, decide_eq_true (by omega), cond_true]
  · rw [if_neg c, decide_eq_false (by omega), cond_false]
theorem laws_szQuery_eq (a : Query) (n : Int) (hn : 0 ≤ n ∧ n ≤ 1048576) (hb : Query_b a) : laws_szQuery.f a n = some (if n < sz_Query a then -1 else n - sz_Query a) := by
  unfold laws_szQuery.f sz_Query
  obtain ⟨h0, h1⟩ := hb
  have p_Where := sz_CondS_0 a.Where
  have p_Show := sz_IntS_0 a.Show
  rw [laws_szCondS_eq _ _ (by omega) h0, Option.bind_some]
  by_cases c0 : n < sz_CondS a.Where
  · rw [if_pos c0, if_pos (by omega)]; rfl
  · rw [if_neg c0, decide_eq_false (by omega), cond_false]
    rw [laws_szIntS_eq _ _ (by omega) h1, Option.bind_some]
    by_cases c1 : n - sz_CondS a.Where < sz_IntS a.Show
    · rw [if_pos c1, if_pos (by omega)]; rfl
    · rw [if_neg c1, decide_eq_false (by omega), cond_false]
      rw [if_neg (by omega)]
      congr 1; omega
theorem laws_toIntS_eq (a : List Int) (h : sz_IntS a ≤ 1048576) : laws_toIntS.f a = some a := by
  unfold laws_toIntS.f
  unfold sz_IntS at h
  rw [lenI_eq, mkO_ok (by omega), Option.bind_some]
  refine loop_fill (f := laws_toIntS.l0 a) (l := a) some (fun k i s x y hx hy => ?_) (fun k s i hi => ?_) _ 0 _ (by omega) (by omega) (by rw [List.length_replicate]; omega) (by simp)
  · have hi := at_lt hx
    rw [laws_toIntS.l0, lenI_eq, decide_eq_true (by omega), cond_true, getO_nat, hx, Option.bind_some, getO_nat, hy, Option.bind_some, Option.bind_some, setI_nat, w64_succ (by omega)]
  · rw [laws_toIntS.l0, lenI_eq, decide_eq_false (by omega), cond_false]
theorem laws_toSchema_eq (a : Schema) (h : sz_Schema a ≤ 1048576) : laws_toSchema.f a = some a := by
  unfold sz_Schema at h
  have p_Cols := sz_IntS_0 a.Cols
  unfold laws_toSchema.f
  rw [laws_toIntS_eq _ (by omega), Option.bind_some]
theorem laws_toRow_eq (a : Row) (h : sz_Row a ≤ 1048576) : laws_toRow.f a = some a := by
  unfold sz_Row at h
  have p_Cells := sz_IntS_0 a.Cells
  unfold laws_toRow.f
  rw [laws_toIntS_eq _ (by omega), Option.bind_some]
theorem laws_toRowS_eq (a : List Row) (h : sz_RowS a ≤ 1048576) : laws_toRowS.f a = some a := by
  unfold laws_toRowS.f
  unfold sz_RowS at h
  have p := sum_nonneg sz_Row_0 a
  rw [lenI_eq, mkO_ok (by omega), Option.bind_some]
  refine loop_fill (f := laws_toRowS.l0 a) (l := a) some (fun k i s x y hx hy => ?_) (fun k s i hi => ?_) _ 0 _ (by omega) (by omega) (by rw [List.length_replicate]; omega) (by simp)
  · have hi := at_lt hx
    rw [laws_toRowS.l0, lenI_eq, decide_eq_true (by omega), cond_true, getO_nat, hx, Option.bind_some, laws_toRow_eq x (by have := sum_mem sz_Row_0 (List.mem_of_getElem? hx); omega), Option.bind_some, getO_nat, hy, Option.bind_some, Option.bind_some, setI_nat, w64_succ (by omega)]
  · rw [laws_toRowS.l0, lenI_eq, decide_eq_false (by omega), cond_false]
theorem laws_toRowSS_eq (a : List (List Row)) (h : sz_RowSS a ≤ 1048576) : laws_toRowSS.f a = some a := by
  unfold laws_toRowSS.f
  unfold sz_RowSS at h
  have p := sum_nonneg sz_RowS_0 a
  rw [lenI_eq, mkO_ok (by omega), Option.bind_some]
  refine loop_fill (f := laws_toRowSS.l0 a) (l := a) some (fun k i s x y hx hy => ?_) (fun k s i hi => ?_) _ 0 _ (by omega) (by omega) (by rw [List.length_replicate]; omega) (by simp)
  · have hi := at_lt hx
    rw [laws_toRowSS.l0, lenI_eq, decide_eq_true (by omega), cond_true, getO_nat, hx, Option.bind_some, laws_toRowS_eq x (by have := sum_mem sz_RowS_0 (List.mem_of_getElem? hx); omega), Option.bind_some, getO_nat, hy, Option.bind_some, Option.bind_some, setI_nat, w64_succ (by omega)]
  · rw [laws_toRowSS.l0, lenI_eq, decide_eq_false (by omega), cond_false]
theorem laws_toStore_eq (a : Store) (h : sz_Store a ≤ 1048576) : laws_toStore.f a = some a := by
  unfold sz_Store at h
  have p_Schema := sz_Schema_0 a.Schema
  have p_Tables := sz_RowSS_0 a.Tables
  unfold laws_toStore.f
  rw [laws_toSchema_eq _ (by omega), Option.bind_some]
  rw [laws_toRowSS_eq _ (by omega), Option.bind_some]
theorem laws_toCond_eq (a : Cond) : laws_toCond.f a = some a := rfl
theorem laws_toCondS_eq (a : List Cond) (h : sz_CondS a ≤ 1048576) : laws_toCondS.f a = some a := by
  unfold laws_toCondS.f
  unfold sz_CondS at h
  rw [lenI_eq, mkO_ok (by omega), Option.bind_some]
  refine loop_fill (f := laws_toCondS.l0 a) (l := a) some (fun k i s x y hx hy => ?_) (fun k s i hi => ?_) _ 0 _ (by omega) (by omega) (by rw [List.length_replicate]; omega) (by simp)
  · have hi := at_lt hx
    rw [laws_toCondS.l0, lenI_eq, decide_eq_true (by omega), cond_true, getO_nat, hx, Option.bind_some, laws_toCond_eq x, Option.bind_some, getO_nat, hy, Option.bind_some, Option.bind_some, setI_nat, w64_succ (by omega)]
  · rw [laws_toCondS.l0, lenI_eq, decide_eq_false (by omega), cond_false]
theorem laws_toQuery_eq (a : Query) (h : sz_Query a ≤ 1048576) : laws_toQuery.f a = some a := by
  unfold sz_Query at h
  have p_Where := sz_CondS_0 a.Where
  have p_Show := sz_IntS_0 a.Show
  unfold laws_toQuery.f
  rw [laws_toCondS_eq _ (by omega), Option.bind_some]
  rw [laws_toIntS_eq _ (by omega), Option.bind_some]
theorem ViewOf_ok (s : Store) (b0 : Store_b s) (r0 : Store_r s) (z0 : sz_Store s ≤ 1048576) (q : Query) (b1 : Query_b q) (r1 : Query_r q) (z1 : sz_Query q ≤ 1048576) : ∃ v0 v1, spec_ViewOf.f s q = some (v0, v1) ∧ impl_ViewOf.f s q = some (v0, v1) ∧ View_b v0 ∧ sz_View v0 ≤ 1099511627776 := by
  obtain ⟨h1, h2⟩ := viewOf_small s q b1
  exact ⟨(viewOfF s q).1, (viewOfF s q).2, spec_ViewOf_eq s q b0 b1 (by omega), impl_ViewOf_eq s q b0 b1 (by omega), VB_view h1 (by omega), by omega⟩

theorem laws_FnExactViewOf_pure (a0 : Store) (b0 : Store_b a0) (r0 : Store_r a0) (a1 : Query) (b1 : Query_b a1) (r1 : Query_r a1) : laws_FnExactViewOf.f a0 a1 = some true := by
  unfold laws_FnExactViewOf.f
  have p0 := sz_Store_0 a0
  rw [laws_szStore_eq _ _ (by omega) b0, Option.bind_some]
  by_cases c0 : 1048576 < sz_Store a0
  · rw [if_pos c0]; rfl
  rw [if_neg c0, decide_eq_false (by omega), cond_false]
  have p1 := sz_Query_0 a1
  rw [laws_szQuery_eq _ _ (by omega) b1, Option.bind_some]
  by_cases c1 : 1048576 - sz_Store a0 < sz_Query a1
  · rw [if_pos c1]; rfl
  rw [if_neg c1, decide_eq_false (by omega), cond_false]
  obtain ⟨v0, v1, hs, hi, bv0, zv0⟩ := ViewOf_ok a0 b0 r0 (by omega) a1 b1 r1 (by omega)
  have t0 := laws_toStore_eq a0 (by omega)
  have e0 : laws_eqStore.f a0 a0 = some true := by rw [laws_eqStore_eq _ _ b0 b0, decide_eq_true rfl]
  have t1 := laws_toQuery_eq a1 (by omega)
  have e1 : laws_eqQuery.f a1 a1 = some true := by rw [laws_eqQuery_eq _ _ b1 b1, decide_eq_true rfl]
  have ev0 : laws_eqView.f v0 v0 = some true := by rw [laws_eqView_eq _ _ bv0 bv0, decide_eq_true rfl]
  obtain ⟨g0_0, g0_1, k0, mk0, dk0, lo0, hi0⟩ := mark_Store a0 1 (by omega) (by omega)
  obtain ⟨g1_0, g1_1, k1, mk1, dk1, lo1, hi1⟩ := mark_Query a1 k0 (by omega) (by omega)
  have nk : ¬ k1 < 0 := by omega
  have pv0 := sz_View_0 v0
  obtain ⟨gw0_0, gw0_1, gw0_2, gw0_3, w0, mw0, dw0, low0, hiw0⟩ := mark_View v0 1 (by omega) (by omega)
  have nw0 : ¬ w0 < 0 := by omega
  simp only [t0, e0, t1, e1, ev0, mk0, mk1, nk, mw0, dw0, nw0, hs, hi, Option.bind_some, bo3_self, bo3_F, bo3_T, gd_true, cond_false, ne_eq, not_true_eq_false, decide_false]
end Go.Proofs.Ytgicjbeaomjdgaa.L
