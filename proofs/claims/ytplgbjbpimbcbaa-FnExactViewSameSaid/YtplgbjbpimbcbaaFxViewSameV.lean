/- What the pure functions give. -/
import Derived.Test.YtplgbjbpimbcbaaPv0
import Derived.Test.YtplgbjbpimbcbaaFxViewSameU
namespace Go.Proofs.Ytplgbjbpimbcbaa.L
open Go
set_option linter.unusedVariables false
set_option linter.unusedSimpArgs false
def Cond_r (x : Cond) : Prop := (-9223372036854775808 ≤ x.Col ∧ x.Col ≤ 9223372036854775807) ∧ (-9223372036854775808 ≤ x.Op ∧ x.Op ≤ 9223372036854775807) ∧ (-9223372036854775808 ≤ x.V ∧ x.V ≤ 9223372036854775807)
def sz_CondS (l : List Cond) : Int := l.length
def CondS_b (l : List Cond) : Prop := l.length ≤ 9223372036854775807
theorem sz_CondS_0 (l : List Cond) : 0 ≤ sz_CondS l := by unfold sz_CondS; omega
def CondS_r (l : List Cond) : Prop := ∀ x ∈ l, Cond_r x
theorem laws_szCondS_eq (a : List Cond) (n : Int) (hn : 0 ≤ n ∧ n ≤ 1048576) (hb : CondS_b a) : laws_szCondS.f a n = some (if n < sz_CondS a then -1 else n - sz_CondS a) := by
  unfold laws_szCondS.f sz_CondS
  unfold CondS_b at hb
  rw [lenI_eq, w64_id (by omega)]
  by_cases c : n < (a.length : Int)
  · rw [if_pos c, decide_eq_true (by omega), cond_true]
  · rw [if_neg c, decide_eq_false (by omega), cond_false]
def sz_IntS (l : List Int) : Int := l.length
def IntS_b (l : List Int) : Prop := l.length ≤ 9223372036854775807
theorem sz_IntS_0 (l : List Int) : 0 ≤ sz_IntS l := by unfold sz_IntS; omega
def IntS_r (l : List Int) : Prop := ∀ x ∈ l, (-9223372036854775808 ≤ x ∧ x ≤ 9223372036854775807)
theorem laws_szIntS_eq (a : List Int) (n : Int) (hn : 0 ≤ n ∧ n ≤ 1048576) (hb : IntS_b a) : laws_szIntS.f a n = some (if n < sz_IntS a then -1 else n - sz_IntS a) := by
  unfold laws_szIntS.f sz_IntS
  unfold IntS_b at hb
  rw [lenI_eq, w64_id (by omega)]
  by_cases c : n < (a.length : Int)
  · rw [if_pos c, decide_eq_true (by omega), cond_true]
  · rw [if_neg c, decide_eq_false (by omega), cond_false]
def sz_Query (x : Query) : Int := sz_CondS x.Where + sz_IntS x.Show
def Query_b (x : Query) : Prop := CondS_b x.Where ∧ IntS_b x.Show
theorem sz_Query_0 (x : Query) : 0 ≤ sz_Query x := by unfold sz_Query; exact by have := sz_CondS_0 x.Where; have := sz_IntS_0 x.Show;  omega
def Query_r (x : Query) : Prop := (-9223372036854775808 ≤ x.Table ∧ x.Table ≤ 9223372036854775807) ∧ CondS_r x.Where ∧ (-9223372036854775808 ≤ x.Order ∧ x.Order ≤ 9223372036854775807) ∧ (-9223372036854775808 ≤ x.First ∧ x.First ≤ 9223372036854775807) ∧ IntS_r x.Show ∧ (-9223372036854775808 ≤ x.KidTable ∧ x.KidTable ≤ 9223372036854775807) ∧ (-9223372036854775808 ≤ x.KidCol ∧ x.KidCol ≤ 9223372036854775807)
theorem laws_szQuery_eq (a : Query) (n : Int) (hn : 0 ≤ n ∧ n ≤ 1048576) (hb : Query_b a) : laws_szQuery.f a n = some (if n < sz_Query a then -1 else n - sz_Query a) := by
  unfold laws_szQuery.f sz_Query
  obtain ⟨h0, h1⟩ := hb
  have p_Where := sz_CondS_0 a.Where
  have p_Show := sz_IntS_0 a.Show
  rw [laws_szCondS_eq _ _ (by omega) h0, Option.bind_some]
  by_cases c0 : n < sz_CondS a.Where
  · rw [if_pos c0, if_pos (by omega)]; rfl
  · rw [if_neg c0, decide_eq_false (by omega), cond_false]
    rw [laws_szIntS_eq _ _ (by omega) h1, Option.bind_some]
    by_cases c1 : n - sz_CondS a.Where < sz_IntS a.Show
    · rw [if_pos c1, if_pos (by omega)]; rfl
    · rw [if_neg c1, decide_eq_false (by omega), cond_false]
      rw [if_neg (by omega)]
      congr 1; omega
def Kid_r (x : Kid) : Prop := (-9223372036854775808 ≤ x.Id ∧ x.Id ≤ 9223372036854775807) ∧ (-9223372036854775808 ≤ x.N ∧ x.N ≤ 9223372036854775807)
def sz_KidS (l : List Kid) : Int := l.length
def KidS_b (l : List Kid) : Prop := l.length ≤ 9223372036854775807
theorem sz_KidS_0 (l : List Kid) : 0 ≤ sz_KidS l := by unfold sz_KidS; omega
def KidS_r (l : List Kid) : Prop := ∀ x ∈ l, Kid_r x
theorem laws_szKidS_eq (a : List Kid) (n : Int) (hn : 0 ≤ n ∧ n ≤ 1048576) (hb : KidS_b a) : laws_szKidS.f a n = some (if n < sz_KidS a then -1 else n - sz_KidS a) := by
  unfold laws_szKidS.f sz_KidS
  unfold KidS_b at hb
  rw [lenI_eq, w64_id (by omega)]
  by_cases c : n < (a.length : Int)
  · rw [if_pos c, decide_eq_true (by omega), cond_true]
  · rw [if_neg c, decide_eq_false (by omega), cond_false]
def sz_Row (x : Row) : Int := sz_IntS x.Cells
def Row_b (x : Row) : Prop := IntS_b x.Cells
theorem sz_Row_0 (x : Row) : 0 ≤ sz_Row x := by unfold sz_Row; exact by have := sz_IntS_0 x.Cells;  omega
def Row_r (x : Row) : Prop := (-9223372036854775808 ≤ x.Id ∧ x.Id ≤ 9223372036854775807) ∧ IntS_r x.Cells
theorem laws_szRow_eq (a : Row) (n : Int) (hn : 0 ≤ n ∧ n ≤ 1048576) (hb : Row_b a) : laws_szRow.f a n = some (if n < sz_Row a then -1 else n - sz_Row a) := by
  unfold laws_szRow.f sz_Row
  have h0 := hb
  have p_Cells := sz_IntS_0 a.Cells
  rw [laws_szIntS_eq _ _ (by omega) h0, Option.bind_some]
  by_cases c0 : n < sz_IntS a.Cells
  · rw [if_pos c0]; rfl
  · rw [if_neg c0, decide_eq_false (by omega), cond_false]
def sz_RowS (l : List Row) : Int := l.length + (l.map sz_Row).sum
def RowS_b (l : List Row) : Prop := l.length ≤ 9223372036854775807 ∧ ∀ x ∈ l, Row_b x
theorem sz_RowS_0 (l : List Row) : 0 ≤ sz_RowS l := by have := sum_nonneg sz_Row_0 l; unfold sz_RowS; omega
def RowS_r (l : List Row) : Prop := ∀ x ∈ l, Row_r x
theorem laws_szRowS_eq (a : List Row) (n : Int) (hn : 0 ≤ n ∧ n ≤ 1048576) (hb : RowS_b a) : laws_szRowS.f a n = some (if n < sz_RowS a then -1 else n - sz_RowS a) := by
  unfold laws_szRowS.f sz_RowS
  obtain ⟨h1, h2⟩ := hb
  have p := sum_nonneg sz_Row_0 a
  rw [lenI_eq, w64_id (by omega)]
  by_cases c : n < (a.length : Int)
  · rw [if_pos (by omega), decide_eq_true (by omega), cond_true]
  · rw [decide_eq_false (by omega), cond_false]
    have key := loop_sz (f := laws_szRowS.l0 a) (l := a) sz_Row sz_Row_0 (fun k i acc x hx h0 h0' => by
      have hi := at_lt hx
      rw [laws_szRowS.l0, lenI_eq, decide_eq_true (by omega), cond_true, getO_nat, hx, Option.bind_some, laws_szRow_eq x acc ⟨h0, h0'⟩ (h2 x (List.mem_of_getElem? hx)), Option.bind_some, w64_succ (by omega)]
      by_cases d : acc < sz_Row x
      · rw [if_pos d, if_pos d, decide_eq_true (by omega), cond_true]
      · rw [if_neg d, if_neg d, decide_eq_false (by omega), cond_false]) (fun k acc i hi => by
      rw [laws_szRowS.l0, lenI_eq, decide_eq_false (by omega), cond_false]) (((a.length : Int) - 0).toNat + 1) 0 (n - a.length) (by omega) (by omega) (by omega) (by omega)
    rw [List.drop_zero] at key
    refine Eq.trans key ?_
    congr 1
    by_cases d : n - a.length < (a.map sz_Row).sum
    · rw [if_pos d, if_pos (by omega)]
    · rw [if_neg d, if_neg (by omega)]; omega
def sz_View (x : View) : Int := sz_Query x.Q + sz_RowS x.Rows + sz_KidS x.Kids
def View_b (x : View) : Prop := Query_b x.Q ∧ RowS_b x.Rows ∧ KidS_b x.Kids
theorem sz_View_0 (x : View) : 0 ≤ sz_View x := by unfold sz_View; exact by have := sz_Query_0 x.Q; have := sz_RowS_0 x.Rows; have := sz_KidS_0 x.Kids;  omega
def View_r (x : View) : Prop := Query_r x.Q ∧ RowS_r x.Rows ∧ KidS_r x.Kids
theorem laws_szView_eq (a : View) (n : Int) (hn : 0 ≤ n ∧ n ≤ 1048576) (hb : View_b a) : laws_szView.f a n = some (if n < sz_View a then -1 else n - sz_View a) := by
  unfold laws_szView.f sz_View
  obtain ⟨h0, h1, h2⟩ := hb
  have p_Q := sz_Query_0 a.Q
  have p_Rows := sz_RowS_0 a.Rows
  have p_Kids := sz_KidS_0 a.Kids
  rw [laws_szQuery_eq _ _ (by omega) h0, Option.bind_some]
  by_cases c0 : n < sz_Query a.Q
  · rw [if_pos c0, if_pos (by omega)]; rfl
  · rw [if_neg c0, decide_eq_false (by omega), cond_false]
    rw [laws_szRowS_eq _ _ (by omega) h1, Option.bind_some]
    by_cases c1 : n - sz_Query a.Q < sz_RowS a.Rows
    · rw [if_pos c1, if_pos (by omega)]; rfl
    · rw [if_neg c1, decide_eq_false (by omega), cond_false]
      rw [laws_szKidS_eq _ _ (by omega) h2, Option.bind_some]
      by_cases c2 : n - sz_Query a.Q - sz_RowS a.Rows < sz_KidS a.Kids
      · rw [if_pos c2, if_pos (by omega)]; rfl
      · rw [if_neg c2, decide_eq_false (by omega), cond_false]
        rw [if_neg (by omega)]
        congr 1; omega
theorem laws_toCond_eq (a : Cond) : laws_toCond.f a = some a := rfl
theorem laws_toCondS_eq (a : List Cond) (h : sz_CondS a ≤ 1048576) : laws_toCondS.f a = some a := by
  unfold laws_toCondS.f
  unfold sz_CondS at h
  rw [lenI_eq, mkO_ok (by omega), Option.bind_some]
  refine loop_fill (f := laws_toCondS.l0 a) (l := a) some (fun k i s x y hx hy => ?_) (fun k s i hi => ?_) _ 0 _ (by omega) (by omega) (by rw [List.length_replicate]; omega) (by simp)
  · have hi := at_lt hx
    rw [laws_toCondS.l0, lenI_eq, decide_eq_true (by omega), cond_true, getO_nat, hx, Option.bind_some, laws_toCond_eq x, Option.bind_some, getO_nat, hy, Option.bind_some, Option.bind_some, setI_nat, w64_succ (by omega)]
  · rw [laws_toCondS.l0, lenI_eq, decide_eq_false (by omega), cond_false]
theorem laws_toIntS_eq (a : List Int) (h : sz_IntS a ≤ 1048576) : laws_toIntS.f a = some a := by
  unfold laws_toIntS.f
  unfold sz_IntS at h
  rw [lenI_eq, mkO_ok (by omega), Option.bind_some]
  refine loop_fill (f := laws_toIntS.l0 a) (l := a) some (fun k i s x y hx hy => ?_) (fun k s i hi => ?_) _ 0 _ (by omega) (by omega) (by rw [List.length_replicate]; omega) (by simp)
  · have hi := at_lt hx
    rw [laws_toIntS.l0, lenI_eq, decide_eq_true (by omega), cond_true, getO_nat, hx, Option.bind_some, getO_nat, hy, Option.bind_some, Option.bind_some, setI_nat, w64_succ (by omega)]
  · rw [laws_toIntS.l0, lenI_eq, decide_eq_false (by omega), cond_false]
theorem laws_toQuery_eq (a : Query) (h : sz_Query a ≤ 1048576) : laws_toQuery.f a = some a := by
  unfold sz_Query at h
  have p_Where := sz_CondS_0 a.Where
  have p_Show := sz_IntS_0 a.Show
  unfold laws_toQuery.f
  rw [laws_toCondS_eq _ (by omega), Option.bind_some]
  rw [laws_toIntS_eq _ (by omega), Option.bind_some]
theorem laws_toKid_eq (a : Kid) : laws_toKid.f a = some a := rfl
theorem laws_toKidS_eq (a : List Kid) (h : sz_KidS a ≤ 1048576) : laws_toKidS.f a = some a := by
  unfold laws_toKidS.f
  unfold sz_KidS at h
  rw [lenI_eq, mkO_ok (by omega), Option.bind_some]
  refine loop_fill (f := laws_toKidS.l0 a) (l := a) some (fun k i s x y hx hy => ?_) (fun k s i hi => ?_) _ 0 _ (by omega) (by omega) (by rw [List.length_replicate]; omega) (by simp)
  · have hi := at_lt hx
    rw [laws_toKidS.l0, lenI_eq, decide_eq_true (by omega), cond_true, getO_nat, hx, Option.bind_some, laws_toKid_eq x, Option.bind_some, getO_nat, hy, Option.bind_some, Option.bind_some, setI_nat, w64_succ (by omega)]
  · rw [laws_toKidS.l0, lenI_eq, decide_eq_false (by omega), cond_false]
theorem laws_toRow_eq (a : Row) (h : sz_Row a ≤ 1048576) : laws_toRow.f a = some a := by
  unfold sz_Row at h
  have p_Cells := sz_IntS_0 a.Cells
  unfold laws_toRow.f
  rw [laws_toIntS_eq _ (by omega), Option.bind_some]
theorem laws_toRowS_eq (a : List Row) (h : sz_RowS a ≤ 1048576) : laws_toRowS.f a = some a := by
  unfold laws_toRowS.f
  unfold sz_RowS at h
  have p := sum_nonneg sz_Row_0 a
  rw [lenI_eq, mkO_ok (by omega), Option.bind_some]
  refine loop_fill (f := laws_toRowS.l0 a) (l := a) some (fun k i s x y hx hy => ?_) (fun k s i hi => ?_) _ 0 _ (by omega) (by omega) (by rw [List.length_replicate]; omega) (by simp)
  · have hi := at_lt hx
    rw [laws_toRowS.l0, lenI_eq, decide_eq_true (by omega), cond_true, getO_nat, hx, Option.bind_some, laws_toRow_eq x (by have := sum_mem sz_Row_0 (List.mem_of_getElem? hx); omega), Option.bind_some, getO_nat, hy, Option.bind_some, Option.bind_some, setI_nat, w64_succ (by omega)]
  · rw [laws_toRowS.l0, lenI_eq, decide_eq_false (by omega), cond_false]
theorem laws_toView_eq (a : View) (h : sz_View a ≤ 1048576) : laws_toView.f a = some a := by
  unfold sz_View at h
  have p_Q := sz_Query_0 a.Q
  have p_Rows := sz_RowS_0 a.Rows
  have p_Kids := sz_KidS_0 a.Kids
  unfold laws_toView.f
  rw [laws_toQuery_eq _ (by omega), Option.bind_some]
  rw [laws_toRowS_eq _ (by omega), Option.bind_some]
  rw [laws_toKidS_eq _ (by omega), Option.bind_some]
theorem laws_eqCond_eq (a b : Cond) : laws_eqCond.f a b = some (decide (a = b)) := by
  unfold laws_eqCond.f
  by_cases c_Col : a.Col = b.Col
  case neg => rw [decide_eq_true c_Col, cond_true, decide_eq_false (fun e => c_Col (by rw [e]))]
  rw [decide_eq_false (fun e => e c_Col), cond_false]
  by_cases c_Op : a.Op = b.Op
  case neg => rw [decide_eq_true c_Op, cond_true, decide_eq_false (fun e => c_Op (by rw [e]))]
  rw [decide_eq_false (fun e => e c_Op), cond_false]
  by_cases c_V : a.V = b.V
  case neg => rw [decide_eq_true c_V, cond_true, decide_eq_false (fun e => c_V (by rw [e]))]
  rw [decide_eq_false (fun e => e c_V), cond_false]
  rw [decide_eq_true (by cases a; cases b; simp_all)]
theorem laws_eqCondS_eq (a b : List Cond) (ha : CondS_b a) (hb : CondS_b b) : laws_eqCondS.f a b = some (decide (a = b)) := by
  unfold CondS_b at ha hb
  unfold laws_eqCondS.f
  by_cases hl : a.length = b.length
  · rw [decide_eq_false (by simp only [lenI_eq]; omega), cond_false]
    refine (loop_eq (f := laws_eqCondS.l0 a b) hl (some false) (some true) (fun k i x y hx hy => ?_) (fun k i hi => ?_) _ (by simp only [lenI_eq]; omega)).trans ?_
    · have hi := at_lt hx
      rw [laws_eqCondS.l0, lenI_eq, decide_eq_true (by omega), cond_true, getO_nat, hx, Option.bind_some, getO_nat, hy, Option.bind_some, laws_eqCond_eq x y, Option.bind_some, bo3_not, w64_succ (by omega)]
      by_cases c : x = y
      · simp [c]
      · simp [c]
    · rw [laws_eqCondS.l0, lenI_eq, decide_eq_false (by omega), cond_false]
    · cases decide (a = b) <;> rfl
  · rw [decide_eq_true (by simp only [lenI_eq]; omega), cond_true, decide_eq_false (fun e => hl (by rw [e]))]
theorem laws_eqIntS_eq (a b : List Int) (ha : IntS_b a) (hb : IntS_b b) : laws_eqIntS.f a b = some (decide (a = b)) := by
  unfold IntS_b at ha hb
  unfold laws_eqIntS.f
  by_cases hl : a.length = b.length
  · rw [decide_eq_false (by simp only [lenI_eq]; omega), cond_false]
    refine (loop_eq (f := laws_eqIntS.l0 a b) hl (some false) (some true) (fun k i x y hx hy => ?_) (fun k i hi => ?_) _ (by simp only [lenI_eq]; omega)).trans ?_
    · have hi := at_lt hx
      rw [laws_eqIntS.l0, lenI_eq, decide_eq_true (by omega), cond_true, getO_nat, hx, Option.bind_some, getO_nat, hy, Option.bind_some, w64_succ (by omega)]
      by_cases c : x = y
      · simp [c]
      · simp [c]
    · rw [laws_eqIntS.l0, lenI_eq, decide_eq_false (by omega), cond_false]
    · cases decide (a = b) <;> rfl
  · rw [decide_eq_true (by simp only [lenI_eq]; omega), cond_true, decide_eq_false (fun e => hl (by rw [e]))]
theorem laws_eqQuery_eq (a b : Query) (ha : Query_b a) (hb : Query_b b) : laws_eqQuery.f a b = some (decide (a = b)) := by
  obtain ⟨ha_Where, ha_Show⟩ := ha
  obtain ⟨hb_Where, hb_Show⟩ := hb
  unfold laws_eqQuery.f
  by_cases c_Table : a.Table = b.Table
  case neg => rw [decide_eq_true c_Table, cond_true, decide_eq_false (fun e => c_Table (by rw [e]))]
  rw [decide_eq_false (fun e => e c_Table), cond_false]
  rw [laws_eqCondS_eq _ _ ha_Where hb_Where, Option.bind_some]
  by_cases c_Where : a.Where = b.Where
  case neg => rw [decide_eq_false c_Where, show bo3 false false true = true from rfl, cond_true, decide_eq_false (fun e => c_Where (by rw [e]))]
  rw [decide_eq_true c_Where, show bo3 true false true = false from rfl, cond_false]
  by_cases c_Order : a.Order = b.Order
  case neg => rw [decide_eq_true c_Order, cond_true, decide_eq_false (fun e => c_Order (by rw [e]))]
  rw [decide_eq_false (fun e => e c_Order), cond_false]
  by_cases c_Down : a.Down = b.Down
  case neg => rw [show bo3 a.Down (bo3 b.Down false true) b.Down = true from by revert c_Down; cases a.Down <;> cases b.Down <;> simp [bo3], cond_true, decide_eq_false (fun e => c_Down (by rw [e]))]
  rw [show bo3 a.Down (bo3 b.Down false true) b.Down = false from by rw [c_Down]; cases b.Down <;> rfl, cond_false]
  by_cases c_First : a.First = b.First
  case neg => rw [decide_eq_true c_First, cond_true, decide_eq_false (fun e => c_First (by rw [e]))]
  rw [decide_eq_false (fun e => e c_First), cond_false]
  rw [laws_eqIntS_eq _ _ ha_Show hb_Show, Option.bind_some]
  by_cases c_Show : a.Show = b.Show
  case neg => rw [decide_eq_false c_Show, show bo3 false false true = true from rfl, cond_true, decide_eq_false (fun e => c_Show (by rw [e]))]
  rw [decide_eq_true c_Show, show bo3 true false true = false from rfl, cond_false]
  by_cases c_Kids : a.Kids = b.Kids
  case neg => rw [show bo3 a.Kids (bo3 b.Kids false true) b.Kids = true from by revert c_Kids; cases a.Kids <;> cases b.Kids <;> simp [bo3], cond_true, decide_eq_false (fun e => c_Kids (by rw [e]))]
  rw [show bo3 a.Kids (bo3 b.Kids false true) b.Kids = false from by rw [c_Kids]; cases b.Kids <;> rfl, cond_false]
  by_cases c_KidTable : a.KidTable = b.KidTable
  case neg => rw [decide_eq_true c_KidTable, cond_true, decide_eq_false (fun e => c_KidTable (by rw [e]))]
  rw [decide_eq_false (fun e => e c_KidTable), cond_false]
  by_cases c_KidCol : a.KidCol = b.KidCol
  case neg => rw [decide_eq_true c_KidCol, cond_true, decide_eq_false (fun e => c_KidCol (by rw [e]))]
  rw [decide_eq_false (fun e => e c_KidCol), cond_false]
  rw [decide_eq_true (by cases a; cases b; simp_all)]
theorem laws_eqKid_eq (a b : Kid) : laws_eqKid.f a b = some (decide (a = b)) := by
  unfold laws_eqKid.f
  by_cases c_Id : a.Id = b.Id
  case neg => rw [decide_eq_true c_Id, cond_true, decide_eq_false (fun e => c_Id (by rw [e]))]
  rw [decide_eq_false (fun e => e c_Id), cond_false]
  by_cases c_N : a.N = b.N
  case neg => rw [decide_eq_true c_N, cond_true, decide_eq_false (fun e => c_N (by rw [e]))]
  rw [decide_eq_false (fun e => e c_N), cond_false]
  rw [decide_eq_true (by cases a; cases b; simp_all)]
theorem laws_eqKidS_eq (a b : List Kid) (ha : KidS_b a) (hb : KidS_b b) : laws_eqKidS.f a b = some (decide (a = b)) := by
  unfold KidS_b at ha hb
  unfold laws_eqKidS.f
  by_cases hl : a.length = b.length
  · rw [decide_eq_false (by simp only [lenI_eq]; omega), cond_false]
    refine (loop_eq (f := laws_eqKidS.l0 a b) hl (some false) (some true) (fun k i x y hx hy => ?_) (fun k i hi => ?_) _ (by simp only [lenI_eq]; omega)).trans ?_
    · have hi := at_lt hx
      rw [laws_eqKidS.l0, lenI_eq, decide_eq_true (by omega), cond_true, getO_nat, hx, Option.bind_some, getO_nat, hy, Option.bind_some, laws_eqKid_eq x y, Option.bind_some, bo3_not, w64_succ (by omega)]
      by_cases c : x = y
      · simp [c]
      · simp [c]
    · rw [laws_eqKidS.l0, lenI_eq, decide_eq_false (by omega), cond_false]
    · cases decide (a = b) <;> rfl
  · rw [decide_eq_true (by simp only [lenI_eq]; omega), cond_true, decide_eq_false (fun e => hl (by rw [e]))]
theorem laws_eqRow_eq (a b : Row) (ha : Row_b a) (hb : Row_b b) : laws_eqRow.f a b = some (decide (a = b)) := by
  have ha_Cells := ha
  have hb_Cells := hb
  unfold laws_eqRow.f
  by_cases c_Id : a.Id = b.Id
  case neg => rw [decide_eq_true c_Id, cond_true, decide_eq_false (fun e => c_Id (by rw [e]))]
  rw [decide_eq_false (fun e => e c_Id), cond_false]
  rw [laws_eqIntS_eq _ _ ha_Cells hb_Cells, Option.bind_some]
  by_cases c_Cells : a.Cells = b.Cells
  case neg => rw [decide_eq_false c_Cells, show bo3 false false true = true from rfl, cond_true, decide_eq_false (fun e => c_Cells (by rw [e]))]
  rw [decide_eq_true c_Cells, show bo3 true false true = false from rfl, cond_false]
  rw [decide_eq_true (by cases a; cases b; simp_all)]
theorem laws_eqRowS_eq (a b : List Row) (ha : RowS_b a) (hb : RowS_b b) : laws_eqRowS.f a b = some (decide (a = b)) := by
  obtain ⟨ha, ha2⟩ := ha
  obtain ⟨hb, hb2⟩ := hb
  unfold laws_eqRowS.f
  by_cases hl : a.length = b.length
  · rw [decide_eq_false (by simp only [lenI_eq]; omega), cond_false]
    refine (loop_eq (f := laws_eqRowS.l0 a b) hl (some false) (some true) (fun k i x y hx hy => ?_) (fun k i hi => ?_) _ (by simp only [lenI_eq]; omega)).trans ?_
    · have hi := at_lt hx
      rw [laws_eqRowS.l0, lenI_eq, decide_eq_true (by omega), cond_true, getO_nat, hx, Option.bind_some, getO_nat, hy, Option.bind_some, laws_eqRow_eq x y (ha2 x (List.mem_of_getElem? hx)) (hb2 y (List.mem_of_getElem? hy)), Option.bind_some, bo3_not, w64_succ (by omega)]
      by_cases c : x = y
      · simp [c]
      · simp [c]
    · rw [laws_eqRowS.l0, lenI_eq, decide_eq_false (by omega), cond_false]
    · cases decide (a = b) <;> rfl
  · rw [decide_eq_true (by simp only [lenI_eq]; omega), cond_true, decide_eq_false (fun e => hl (by rw [e]))]
theorem laws_eqView_eq (a b : View) (ha : View_b a) (hb : View_b b) : laws_eqView.f a b = some (decide (a = b)) := by
  obtain ⟨ha_Q, ha_Rows, ha_Kids⟩ := ha
  obtain ⟨hb_Q, hb_Rows, hb_Kids⟩ := hb
  unfold laws_eqView.f
  rw [laws_eqQuery_eq _ _ ha_Q hb_Q, Option.bind_some]
  by_cases c_Q : a.Q = b.Q
  case neg => rw [decide_eq_false c_Q, show bo3 false false true = true from rfl, cond_true, decide_eq_false (fun e => c_Q (by rw [e]))]
  rw [decide_eq_true c_Q, show bo3 true false true = false from rfl, cond_false]
  rw [laws_eqRowS_eq _ _ ha_Rows hb_Rows, Option.bind_some]
  by_cases c_Rows : a.Rows = b.Rows
  case neg => rw [decide_eq_false c_Rows, show bo3 false false true = true from rfl, cond_true, decide_eq_false (fun e => c_Rows (by rw [e]))]
  rw [decide_eq_true c_Rows, show bo3 true false true = false from rfl, cond_false]
  rw [laws_eqKidS_eq _ _ ha_Kids hb_Kids, Option.bind_some]
  by_cases c_Kids : a.Kids = b.Kids
  case neg => rw [decide_eq_false c_Kids, show bo3 false false true = true from rfl, cond_true, decide_eq_false (fun e => c_Kids (by rw [e]))]
  rw [decide_eq_true c_Kids, show bo3 true false true = false from rfl, cond_false]
  rw [decide_eq_true (by cases a; cases b; simp_all)]
theorem row_eq (a b : Row) : decide (a = b) = (decide (a.Id = b.Id) && decide (a.Cells = b.Cells)) := by
  cases a; cases b
  rw [Bool.eq_iff_iff]
  simp

theorem spec_RowSame_eq (a b : Row) (ha : Row_b a) (hb : Row_b b) : spec_RowSame.f a b = some (decide (a = b)) := by
  have h1 : a.Cells.length ≤ 9223372036854775807 := ha
  unfold spec_RowSame.f
  rw [row_eq]
  by_cases c : a.Id = b.Id
  case neg => simp [c, bo3]
  by_cases hl : a.Cells.length = b.Cells.length
  case neg => rw [decide_eq_true (show lenI a.Cells ≠ lenI b.Cells by simp only [lenI_eq]; omega), bo3_or, Bool.or_true, cond_true, decide_eq_false (show ¬ a.Cells = b.Cells from fun e => hl (by rw [e])), Bool.and_false]
  rw [decide_eq_false (show ¬ lenI a.Cells ≠ lenI b.Cells by simp only [lenI_eq]; omega), decide_eq_false (show ¬ a.Id ≠ b.Id from fun e => e c), show bo3 false true false = false from rfl, cond_false, decide_eq_true c, Bool.true_and]
  refine (loop_eq (f := spec_RowSame.l0 a b) hl (some false) (some true) (fun k i x y hx hy => ?_) (fun k i hi => ?_) _ (by simp only [lenI_eq]; omega)).trans ?_
  · have hi := at_lt hx
    rw [spec_RowSame.l0, lenI_eq, decide_eq_true (by omega), cond_true, getO_nat, hx, Option.bind_some, getO_nat, hy, Option.bind_some, w64_succ (by omega)]
    by_cases c : x = y
    · simp [c]
    · simp [c]
  · rw [spec_RowSame.l0, lenI_eq, decide_eq_false (by omega), cond_false]
  · cases decide (a.Cells = b.Cells) <;> rfl

/-- Two lists compared as far as both go, then their lengths. -/
theorem loop_eq2 {R α : Type} [DecidableEq α] {f : Nat → Int → Option R} {l m : List α} (c : Bool → R) (h0 : ∀ k (i : Nat) x y, l[i]? = some x → m[i]? = some y → f (k + 1) i = bif decide (x = y) then f k ((i + 1 : Nat) : Int) else some (c false)) (h1 : ∀ k (i : Nat), i ≤ l.length → i ≤ m.length → (i = l.length ∨ i = m.length) → f (k + 1) i = some (c (decide (l.length = m.length)))) :
    ∀ (k i : Nat), i ≤ l.length → i ≤ m.length → l.length < i + k → l.take i = m.take i → f k (i : Int) = some (c (decide (l = m)))
  | 0, i, h, h', h2, _ => by omega
  | k + 1, i, h, h', h2, ht => by
    by_cases hi : i < l.length ∧ i < m.length
    · have hx : l[i]? = some l[i] := List.getElem?_eq_getElem hi.1
      have hy : m[i]? = some m[i] := List.getElem?_eq_getElem hi.2
      rw [h0 k i _ _ hx hy]
      by_cases e : l[i] = m[i]
      · rw [decide_eq_true e, cond_true]
        exact loop_eq2 c h0 h1 k (i + 1) (by omega) (by omega) (by omega) (by rw [List.take_add_one, List.take_add_one, ht, hx, hy, e])
      · rw [decide_eq_false e, cond_false, decide_eq_false (fun h => e (by subst h; rfl))]
    · rw [h1 k i h h' (by omega)]
      congr 2
      rw [decide_eq_decide]
      constructor
      · intro hl
        rw [← List.take_of_length_le (l := l) (i := i) (by omega), ht, List.take_of_length_le (by omega)]
      · intro e; rw [e]

theorem bo3_last (c : Bool) : bo3 c true false = c := by cases c <;> rfl

theorem eqc_Cond (x y : Cond) : bo3 (decide (x.Col = y.Col)) (bo3 (decide (x.Op = y.Op)) (bo3 (decide (x.V = y.V)) true false) false) false = decide (x = y) := by
  cases x; cases y
  simp [bo3_and, bo3_last, Bool.decide_and]

theorem spec_l9Conds_eq (a b : List Cond) (ha : CondS_b a) (hb : CondS_b b) : spec_l9Conds.f a b = some (decide (a = b)) := by
  unfold CondS_b at ha hb
  unfold spec_l9Conds.f
  refine loop_eq2 (f := spec_l9Conds.l0 a b) (l := a) (m := b) id (fun k i x y hx hy => ?_) (fun k i h1 h2 hi => ?_) _ 0 (by omega) (by omega) (by (try simp only [lenI_eq]); omega) rfl
  · have hi := at_lt hx
    have hj := at_lt hy
    rw [spec_l9Conds.l0, lenI_eq, lenI_eq, decide_eq_true (by omega : (i : Int) < a.length), decide_eq_true (by omega : (i : Int) < b.length), show bo3 true true false = true from rfl, cond_true, getO_nat, hx, Option.bind_some, getO_nat, hy, Option.bind_some, eqc_Cond, bo3_not, w64_succ (by omega)]
    by_cases c : x = y
    · simp [c]
    · simp [c]
  · rw [spec_l9Conds.l0, lenI_eq, lenI_eq]
    have : (bo3 (decide ((i : Int) < a.length)) (decide ((i : Int) < b.length)) false) = false := by
      rw [bo3_and, ← Bool.decide_and]
      exact decide_eq_false (by omega)
    rw [this, cond_false]
    simp only [id_eq, Option.some.injEq, decide_eq_decide]; omega

theorem spec_l9Ints_eq (a b : List Int) (ha : IntS_b a) (hb : IntS_b b) : spec_l9Ints.f a b = some (decide (a = b)) := by
  unfold IntS_b at ha hb
  unfold spec_l9Ints.f
  refine loop_eq2 (f := spec_l9Ints.l0 a b) (l := a) (m := b) id (fun k i x y hx hy => ?_) (fun k i h1 h2 hi => ?_) _ 0 (by omega) (by omega) (by (try simp only [lenI_eq]); omega) rfl
  · have hi := at_lt hx
    have hj := at_lt hy
    rw [spec_l9Ints.l0, lenI_eq, lenI_eq, decide_eq_true (by omega : (i : Int) < a.length), decide_eq_true (by omega : (i : Int) < b.length), show bo3 true true false = true from rfl, cond_true, getO_nat, hx, Option.bind_some, getO_nat, hy, Option.bind_some,  w64_succ (by omega)]
    by_cases c : x = y
    · simp [c]
    · simp [c]
  · rw [spec_l9Ints.l0, lenI_eq, lenI_eq]
    have : (bo3 (decide ((i : Int) < a.length)) (decide ((i : Int) < b.length)) false) = false := by
      rw [bo3_and, ← Bool.decide_and]
      exact decide_eq_false (by omega)
    rw [this, cond_false]
    simp only [id_eq, Option.some.injEq, decide_eq_decide]; omega

def qsameB (a b : Query) : Bool := decide (a = b)
theorem query_eq (a b : Query) : decide (a = b) = (decide (a.Table = b.Table) && decide (a.Where = b.Where) && decide (a.Order = b.Order) && (a.Down == b.Down) && decide (a.First = b.First) && decide (a.Show = b.Show) && (a.Kids == b.Kids) && decide (a.KidTable = b.KidTable) && decide (a.KidCol = b.KidCol)) := by
  cases a; cases b
  rw [Bool.eq_iff_iff]
  simp [and_assoc]

theorem spec_QuerySame_eq (a b : Query) (ha : Query_b a) (hb : Query_b b) : spec_QuerySame.f a b = some (decide (a = b)) := by
  unfold spec_QuerySame.f
  simp only [spec_l9Conds_eq _ _ ha.1 hb.1, spec_l9Ints_eq _ _ ha.2 hb.2, gd_of, Option.bind_some, query_eq]
  cases decide (a.Table = b.Table) <;> cases decide (a.Where = b.Where) <;> cases decide (a.Order = b.Order) <;> cases decide (a.First = b.First) <;> cases a.Down <;> cases b.Down <;> first | rfl | skip
  all_goals cases decide (a.Show = b.Show) <;> cases a.Kids <;> cases b.Kids <;> cases decide (a.KidTable = b.KidTable) <;> cases decide (a.KidCol = b.KidCol) <;> rfl

theorem view_eq (a b : View) : decide (a = b) = (decide (a.Q = b.Q) && decide (a.Rows = b.Rows) && decide (a.Kids = b.Kids)) := by
  cases a; cases b
  rw [Bool.eq_iff_iff]
  simp [and_assoc]

theorem eqc_Kid (x y : Kid) : bo3 (decide (x.Id = y.Id)) (bo3 (decide (x.N = y.N)) true false) false = decide (x = y) := by
  cases x; cases y
  simp [bo3_and, bo3_last, Bool.decide_and]

theorem spec_ViewSame_eq (a b : View) (ha : View_b a) (hb : View_b b) : spec_ViewSame.f a b = some (decide (a = b)) := by
  obtain ⟨ha0, ⟨ha1, ha2⟩, ha3⟩ := ha
  obtain ⟨hb0, ⟨hb1, hb2⟩, hb3⟩ := hb
  unfold KidS_b at ha3 hb3
  unfold spec_ViewSame.f
  rw [spec_QuerySame_eq _ _ ha0 hb0, Option.bind_some, view_eq]
  by_cases c0 : a.Q = b.Q
  case neg => rw [decide_eq_false c0]; rfl
  by_cases c1 : a.Rows.length = b.Rows.length
  case neg =>
    rw [decide_eq_true (show lenI a.Rows ≠ lenI b.Rows by simp only [lenI_eq]; omega), decide_eq_false (show ¬ a.Rows = b.Rows from fun e => c1 (by rw [e])), Bool.and_false, Bool.false_and]
    cases decide (a.Q = b.Q) <;> cases decide (lenI a.Kids ≠ lenI b.Kids) <;> rfl
  by_cases c2 : a.Kids.length = b.Kids.length
  case neg =>
    rw [decide_eq_true (show lenI a.Kids ≠ lenI b.Kids by simp only [lenI_eq]; omega), decide_eq_false (show ¬ a.Kids = b.Kids from fun e => c2 (by rw [e])), Bool.and_false, bo3_or, Bool.or_true, cond_true]
  rw [decide_eq_true c0, decide_eq_false (show ¬ lenI a.Rows ≠ lenI b.Rows by simp only [lenI_eq]; omega), decide_eq_false (show ¬ lenI a.Kids ≠ lenI b.Kids by simp only [lenI_eq]; omega), show bo3 (bo3 (bo3 true false true) true false) true false = false from rfl, cond_false, Bool.true_and]
  simp only [joinK]
  refine (loop_eq (f := spec_ViewSame.l0 a b _) c1 (some false) (some (decide (a.Kids = b.Kids))) (fun k i x y hx hy => ?_) (fun k i hi => ?_) _ (by (try simp only [lenI_eq]); omega)).trans ?_
  · have hi := at_lt hx
    rw [spec_ViewSame.l0, lenI_eq, decide_eq_true (by omega), cond_true, getO_nat, hx, Option.bind_some, getO_nat, hy, Option.bind_some, spec_RowSame_eq x y (ha2 x (List.mem_of_getElem? hx)) (hb2 y (List.mem_of_getElem? hy)), Option.bind_some, bo3_not, w64_succ (by omega)]
    by_cases c : x = y
    · simp [c]
    · simp [c]
  · rw [spec_ViewSame.l0, lenI_eq, decide_eq_false (by omega), cond_false]
    refine (loop_eq (f := spec_ViewSame.l1 a b) c2 (some false) (some true) (fun k i x y hx hy => ?_) (fun k i hi => ?_) _ (by (try simp only [lenI_eq]); omega)).trans ?_
    · have hi := at_lt hx
      rw [spec_ViewSame.l1, lenI_eq, decide_eq_true (by omega), cond_true, getO_nat, hx, Option.bind_some, getO_nat, hy, Option.bind_some, eqc_Kid, bo3_not, w64_succ (by omega)]
      by_cases c : x = y
      · simp [c]
      · simp [c]
    · rw [spec_ViewSame.l1, lenI_eq, decide_eq_false (by omega), cond_false]
    · cases decide (a.Kids = b.Kids) <;> rfl
  · cases decide (a.Rows = b.Rows) <;> rfl

theorem slices_Equal_int_eq (a b : List Int) (ha : IntS_b a) (hb : IntS_b b) : slices_Equal_int.f a b = some (decide (a = b)) := by
  unfold IntS_b at ha hb
  unfold slices_Equal_int.f
  by_cases hl : a.length = b.length
  · rw [decide_eq_false (by simp only [lenI_eq]; omega), cond_false]
    refine (loop_eq (f := slices_Equal_int.l0 a b) hl (some false) (some true) (fun k i x y hx hy => ?_) (fun k i hi => ?_) _ (by simp only [lenI_eq]; omega)).trans ?_
    · have hi := at_lt hx
      rw [slices_Equal_int.l0, lenI_eq, decide_eq_true (by omega), cond_true, getO_nat, hx, Option.bind_some, getO_nat, hy, Option.bind_some, w64_succ (by omega)]
      by_cases c : x = y
      · simp [c]
      · simp [c]
    · rw [slices_Equal_int.l0, lenI_eq, decide_eq_false (by omega), cond_false]
    · cases decide (a = b) <;> rfl
  · rw [decide_eq_true (by simp only [lenI_eq]; omega), cond_true, decide_eq_false (fun e => hl (by rw [e]))]

theorem impl_RowSame_eq (a b : Row) (ha : Row_b a) (hb : Row_b b) : impl_RowSame.f a b = some (decide (a = b)) := by
  unfold impl_RowSame.f
  simp only [slices_Equal_int_eq _ _ ha hb, gd_of, Option.bind_some, row_eq]
  cases decide (a.Id = b.Id) <;> cases decide (a.Cells = b.Cells) <;> rfl

theorem slices_EqualFunc_impl_Row__impl_RowSame_eq (a b : List Row) (ha : RowS_b a) (hb : RowS_b b) : slices_EqualFunc_impl_Row__impl_RowSame.f a b = some (decide (a = b)) := by
  obtain ⟨ha, ha2⟩ := ha
  obtain ⟨hb, hb2⟩ := hb
  unfold slices_EqualFunc_impl_Row__impl_RowSame.f
  by_cases hl : a.length = b.length
  · rw [decide_eq_false (by simp only [lenI_eq]; omega), cond_false]
    refine (loop_eq (f := slices_EqualFunc_impl_Row__impl_RowSame.l0 a b) hl (some false) (some true) (fun k i x y hx hy => ?_) (fun k i hi => ?_) _ (by simp only [lenI_eq]; omega)).trans ?_
    · have hi := at_lt hx
      rw [slices_EqualFunc_impl_Row__impl_RowSame.l0, lenI_eq, decide_eq_true (by omega), cond_true, getO_nat, hx, Option.bind_some, getO_nat, hy, Option.bind_some, impl_RowSame_eq x y (ha2 x (List.mem_of_getElem? hx)) (hb2 y (List.mem_of_getElem? hy)), Option.bind_some, bo3_not, w64_succ (by omega)]
      by_cases c : x = y
      · simp [c]
      · simp [c]
    · rw [slices_EqualFunc_impl_Row__impl_RowSame.l0, lenI_eq, decide_eq_false (by omega), cond_false]
    · cases decide (a = b) <;> rfl
  · rw [decide_eq_true (by simp only [lenI_eq]; omega), cond_true, decide_eq_false (fun e => hl (by rw [e]))]

theorem slices_Equal_impl_Kid_eq (a b : List Kid) (ha : KidS_b a) (hb : KidS_b b) : slices_Equal_impl_Kid.f a b = some (decide (a = b)) := by
  unfold KidS_b at ha hb
  unfold slices_Equal_impl_Kid.f
  by_cases hl : a.length = b.length
  · rw [decide_eq_false (by simp only [lenI_eq]; omega), cond_false]
    refine (loop_eq (f := slices_Equal_impl_Kid.l0 a b) hl (some false) (some true) (fun k i x y hx hy => ?_) (fun k i hi => ?_) _ (by simp only [lenI_eq]; omega)).trans ?_
    · have hi := at_lt hx
      rw [slices_Equal_impl_Kid.l0, lenI_eq, decide_eq_true (by omega), cond_true, getO_nat, hx, Option.bind_some, getO_nat, hy, Option.bind_some, eqc_Kid, bo3_not, w64_succ (by omega)]
      by_cases c : x = y
      · simp [c]
      · simp [c]
    · rw [slices_Equal_impl_Kid.l0, lenI_eq, decide_eq_false (by omega), cond_false]
    · cases decide (a = b) <;> rfl
  · rw [decide_eq_true (by simp only [lenI_eq]; omega), cond_true, decide_eq_false (fun e => hl (by rw [e]))]

theorem slices_Equal_impl_Cond_eq (a b : List Cond) (ha : CondS_b a) (hb : CondS_b b) : slices_Equal_impl_Cond.f a b = some (decide (a = b)) := by
  unfold CondS_b at ha hb
  unfold slices_Equal_impl_Cond.f
  by_cases hl : a.length = b.length
  · rw [decide_eq_false (by simp only [lenI_eq]; omega), cond_false]
    refine (loop_eq (f := slices_Equal_impl_Cond.l0 a b) hl (some false) (some true) (fun k i x y hx hy => ?_) (fun k i hi => ?_) _ (by simp only [lenI_eq]; omega)).trans ?_
    · have hi := at_lt hx
      rw [slices_Equal_impl_Cond.l0, lenI_eq, decide_eq_true (by omega), cond_true, getO_nat, hx, Option.bind_some, getO_nat, hy, Option.bind_some, eqc_Cond, bo3_not, w64_succ (by omega)]
      by_cases c : x = y
      · simp [c]
      · simp [c]
    · rw [slices_Equal_impl_Cond.l0, lenI_eq, decide_eq_false (by omega), cond_false]
    · cases decide (a = b) <;> rfl
  · rw [decide_eq_true (by simp only [lenI_eq]; omega), cond_true, decide_eq_false (fun e => hl (by rw [e]))]

theorem impl_QuerySame_eq (a b : Query) (ha : Query_b a) (hb : Query_b b) : impl_QuerySame.f a b = some (decide (a = b)) := by
  unfold impl_QuerySame.f
  simp only [slices_Equal_impl_Cond_eq _ _ ha.1 hb.1, slices_Equal_int_eq _ _ ha.2 hb.2, gd_of, Option.bind_some, query_eq]
  cases decide (a.Table = b.Table) <;> cases decide (a.Order = b.Order) <;> cases decide (a.First = b.First) <;> cases a.Down <;> cases b.Down <;> first | rfl | skip
  all_goals cases decide (a.Where = b.Where) <;> cases decide (a.Show = b.Show) <;> cases a.Kids <;> cases b.Kids <;> cases decide (a.KidTable = b.KidTable) <;> cases decide (a.KidCol = b.KidCol) <;> rfl

theorem impl_ViewSame_eq (a b : View) (ha : View_b a) (hb : View_b b) : impl_ViewSame.f a b = some (decide (a = b)) := by
  unfold impl_ViewSame.f
  simp only [impl_QuerySame_eq _ _ ha.1 hb.1, slices_EqualFunc_impl_Row__impl_RowSame_eq _ _ ha.2.1 hb.2.1, slices_Equal_impl_Kid_eq _ _ ha.2.2 hb.2.2, gd_of, Option.bind_some, view_eq]
  cases decide (a.Q = b.Q) <;> cases decide (a.Rows = b.Rows) <;> cases decide (a.Kids = b.Kids) <;> rfl

theorem ViewSame_ok (a : View) (b0 : View_b a) (r0 : View_r a) (z0 : sz_View a ≤ 1048576) (b : View) (b1 : View_b b) (r1 : View_r b) (z1 : sz_View b ≤ 1048576) : ∃ x, spec_ViewSame.f a b = some x ∧ impl_ViewSame.f a b = some x :=
  ⟨_, spec_ViewSame_eq a b b0 b1, impl_ViewSame_eq a b b0 b1⟩

theorem laws_FnExactViewSame_pure (a0 : View) (b0 : View_b a0) (r0 : View_r a0) (a1 : View) (b1 : View_b a1) (r1 : View_r a1) : laws_FnExactViewSame.f a0 a1 = some true := by
  unfold laws_FnExactViewSame.f
  have p0 := sz_View_0 a0
  rw [laws_szView_eq _ _ (by omega) b0, Option.bind_some]
  by_cases c0 : 1048576 < sz_View a0
  · rw [if_pos c0]; rfl
  rw [if_neg c0, decide_eq_false (by omega), cond_false]
  have p1 := sz_View_0 a1
  rw [laws_szView_eq _ _ (by omega) b1, Option.bind_some]
  by_cases c1 : 1048576 - sz_View a0 < sz_View a1
  · rw [if_pos c1]; rfl
  rw [if_neg c1, decide_eq_false (by omega), cond_false]
  obtain ⟨v0, hs, hi⟩ := ViewSame_ok a0 b0 r0 (by omega) a1 b1 r1 (by omega)
  have t0 := laws_toView_eq a0 (by omega)
  have e0 : laws_eqView.f a0 a0 = some true := by rw [laws_eqView_eq _ _ b0 b0, decide_eq_true rfl]
  have t1 := laws_toView_eq a1 (by omega)
  have e1 : laws_eqView.f a1 a1 = some true := by rw [laws_eqView_eq _ _ b1 b1, decide_eq_true rfl]
  simp only [t0, e0, t1, e1, hs, hi, Option.bind_some, bo3_self, bo3_F, bo3_T, gd_true, cond_false, ne_eq, not_true_eq_false, decide_false]
end Go.Proofs.Ytplgbjbpimbcbaa.L
