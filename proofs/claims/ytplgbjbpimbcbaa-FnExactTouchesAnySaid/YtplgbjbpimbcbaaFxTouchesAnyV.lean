/- What the pure functions give. -/
import Derived.Test.YtplgbjbpimbcbaaPv0
import Derived.Test.YtplgbjbpimbcbaaFxTouchesAnyU
namespace Go.Proofs.Ytplgbjbpimbcbaa.L
open Go
set_option linter.unusedVariables false
set_option linter.unusedSimpArgs false
def Cond_r (x : Cond) : Prop := (-9223372036854775808 ≤ x.Col ∧ x.Col ≤ 9223372036854775807) ∧ (-9223372036854775808 ≤ x.Op ∧ x.Op ≤ 9223372036854775807) ∧ (-9223372036854775808 ≤ x.V ∧ x.V ≤ 9223372036854775807)
def sz_CondS (l : List Cond) : Int := l.length
def CondS_b (l : List Cond) : Prop := l.length ≤ 9223372036854775807
theorem sz_CondS_0 (l : List Cond) : 0 ≤ sz_CondS l := by unfold sz_CondS; omega
def CondS_r (l : List Cond) : Prop := ∀ x ∈ l, Cond_r x
theorem laws_szCondS_eq (a : List Cond) (n : Int) (hn : 0 ≤ n ∧ n ≤ 1048576) (hb : CondS_b a) : laws_szCondS.f a n = some (if n < sz_CondS a then -1 else n - sz_CondS a) := by
  unfold laws_szCondS.f sz_CondS
  unfold CondS_b at hb
  rw [lenI_eq, w64_id (by omega)]
  by_cases c : n < (a.length : Int)
  · rw [if_pos c, decide_eq_true (by omega), cond_true]
  · rw [if_neg c, decide_eq_false (by omega), cond_false]
def sz_IntS (l : List Int) : Int := l.length
def IntS_b (l : List Int) : Prop := l.length ≤ 9223372036854775807
theorem sz_IntS_0 (l : List Int) : 0 ≤ sz_IntS l := by unfold sz_IntS; omega
def IntS_r (l : List Int) : Prop := ∀ x ∈ l, (-9223372036854775808 ≤ x ∧ x ≤ 9223372036854775807)
theorem laws_szIntS_eq (a : List Int) (n : Int) (hn : 0 ≤ n ∧ n ≤ 1048576) (hb : IntS_b a) : laws_szIntS.f a n = some (if n < sz_IntS a then -1 else n - sz_IntS a) := by
  unfold laws_szIntS.f sz_IntS
  unfold IntS_b at hb
  rw [lenI_eq, w64_id (by omega)]
  by_cases c : n < (a.length : Int)
  · rw [if_pos c, decide_eq_true (by omega), cond_true]
  · rw [if_neg c, decide_eq_false (by omega), cond_false]
def sz_Query (x : Query) : Int := sz_CondS x.Where + sz_IntS x.Show
def Query_b (x : Query) : Prop := CondS_b x.Where ∧ IntS_b x.Show
theorem sz_Query_0 (x : Query) : 0 ≤ sz_Query x := by unfold sz_Query; exact by have := sz_CondS_0 x.Where; have := sz_IntS_0 x.Show;  omega
def Query_r (x : Query) : Prop := (-9223372036854775808 ≤ x.Table ∧ x.Table ≤ 9223372036854775807) ∧ CondS_r x.Where ∧ (-9223372036854775808 ≤ x.Order ∧ x.Order ≤ 9223372036854775807) ∧ (-9223372036854775808 ≤ x.First ∧ x.First ≤ 9223372036854775807) ∧ IntS_r x.Show ∧ (-9223372036854775808 ≤ x.KidTable ∧ x.KidTable ≤ 9223372036854775807) ∧ (-9223372036854775808 ≤ x.KidCol ∧ x.KidCol ≤ 9223372036854775807)
theorem laws_szQuery_eq (a : Query) (n : Int) (hn : 0 ≤ n ∧ n ≤ 1048576) (hb : Query_b a) : laws_szQuery.f a n = some (if n < sz_Query a then -1 else n - sz_Query a) := by
  unfold laws_szQuery.f sz_Query
  obtain ⟨h0, h1⟩ := hb
  have p_Where := sz_CondS_0 a.Where
  have p_Show := sz_IntS_0 a.Show
  rw [laws_szCondS_eq _ _ (by omega) h0, Option.bind_some]
  by_cases c0 : n < sz_CondS a.Where
  · rw [if_pos c0, if_pos (by omega)]; rfl
  · rw [if_neg c0, decide_eq_false (by omega), cond_false]
    rw [laws_szIntS_eq _ _ (by omega) h1, Option.bind_some]
    by_cases c1 : n - sz_CondS a.Where < sz_IntS a.Show
    · rw [if_pos c1, if_pos (by omega)]; rfl
    · rw [if_neg c1, decide_eq_false (by omega), cond_false]
      rw [if_neg (by omega)]
      congr 1; omega
theorem laws_toCond_eq (a : Cond) : laws_toCond.f a = some a := rfl
theorem laws_toCondS_eq (a : List Cond) (h : sz_CondS a ≤ 1048576) : laws_toCondS.f a = some a := by
  unfold laws_toCondS.f
  unfold sz_CondS at h
  rw [lenI_eq, mkO_ok (by omega), Option.bind_some]
  refine loop_fill (f := laws_toCondS.l0 a) (l := a) some (fun k i s x y hx hy => ?_) (fun k s i hi => ?_) _ 0 _ (by omega) (by omega) (by rw [List.length_replicate]; omega) (by simp)
  · have hi := at_lt hx
    rw [laws_toCondS.l0, lenI_eq, decide_eq_true (by omega), cond_true, getO_nat, hx, Option.bind_some, laws_toCond_eq x, Option.bind_some, getO_nat, hy, Option.bind_some, Option.bind_some, setI_nat, w64_succ (by omega)]
  · rw [laws_toCondS.l0, lenI_eq, decide_eq_false (by omega), cond_false]
theorem laws_toIntS_eq (a : List Int) (h : sz_IntS a ≤ 1048576) : laws_toIntS.f a = some a := by
  unfold laws_toIntS.f
  unfold sz_IntS at h
  rw [lenI_eq, mkO_ok (by omega), Option.bind_some]
  refine loop_fill (f := laws_toIntS.l0 a) (l := a) some (fun k i s x y hx hy => ?_) (fun k s i hi => ?_) _ 0 _ (by omega) (by omega) (by rw [List.length_replicate]; omega) (by simp)
  · have hi := at_lt hx
    rw [laws_toIntS.l0, lenI_eq, decide_eq_true (by omega), cond_true, getO_nat, hx, Option.bind_some, getO_nat, hy, Option.bind_some, Option.bind_some, setI_nat, w64_succ (by omega)]
  · rw [laws_toIntS.l0, lenI_eq, decide_eq_false (by omega), cond_false]
theorem laws_toQuery_eq (a : Query) (h : sz_Query a ≤ 1048576) : laws_toQuery.f a = some a := by
  unfold sz_Query at h
  have p_Where := sz_CondS_0 a.Where
  have p_Show := sz_IntS_0 a.Show
  unfold laws_toQuery.f
  rw [laws_toCondS_eq _ (by omega), Option.bind_some]
  rw [laws_toIntS_eq _ (by omega), Option.bind_some]
theorem laws_eqCond_eq (a b : Cond) : laws_eqCond.f a b = some (decide (a = b)) := by
  unfold laws_eqCond.f
  by_cases c_Col : a.Col = b.Col
  case neg => rw [decide_eq_true c_Col, cond_true, decide_eq_false (fun e => c_Col (by rw [e]))]
  rw [decide_eq_false (fun e => e c_Col), cond_false]
  by_cases c_Op : a.Op = b.Op
  case neg => rw [decide_eq_true c_Op, cond_true, decide_eq_false (fun e => c_Op (by rw [e]))]
  rw [decide_eq_false (fun e => e c_Op), cond_false]
  by_cases c_V : a.V = b.V
  case neg => rw [decide_eq_true c_V, cond_true, decide_eq_false (fun e => c_V (by rw [e]))]
  rw [decide_eq_false (fun e => e c_V), cond_false]
  rw [decide_eq_true (by cases a; cases b; simp_all)]
theorem laws_eqCondS_eq (a b : List Cond) (ha : CondS_b a) (hb : CondS_b b) : laws_eqCondS.f a b = some (decide (a = b)) := by
  unfold CondS_b at ha hb
  unfold laws_eqCondS.f
  by_cases hl : a.length = b.length
  · rw [decide_eq_false (by simp only [lenI_eq]; omega), cond_false]
    refine (loop_eq (f := laws_eqCondS.l0 a b) hl (some false) (some true) (fun k i x y hx hy => ?_) (fun k i hi => ?_) _ (by simp only [lenI_eq]; omega)).trans ?_
    · have hi := at_lt hx
      rw [laws_eqCondS.l0, lenI_eq, decide_eq_true (by omega), cond_true, getO_nat, hx, Option.bind_some, getO_nat, hy, Option.bind_some, laws_eqCond_eq x y, Option.bind_some, bo3_not, w64_succ (by omega)]
      by_cases c : x = y
      · simp [c]
      · simp [c]
    · rw [laws_eqCondS.l0, lenI_eq, decide_eq_false (by omega), cond_false]
    · cases decide (a = b) <;> rfl
  · rw [decide_eq_true (by simp only [lenI_eq]; omega), cond_true, decide_eq_false (fun e => hl (by rw [e]))]
theorem laws_eqIntS_eq (a b : List Int) (ha : IntS_b a) (hb : IntS_b b) : laws_eqIntS.f a b = some (decide (a = b)) := by
  unfold IntS_b at ha hb
  unfold laws_eqIntS.f
  by_cases hl : a.length = b.length
  · rw [decide_eq_false (by simp only [lenI_eq]; omega), cond_false]
    refine (loop_eq (f := laws_eqIntS.l0 a b) hl (some false) (some true) (fun k i x y hx hy => ?_) (fun k i hi => ?_) _ (by simp only [lenI_eq]; omega)).trans ?_
    · have hi := at_lt hx
      rw [laws_eqIntS.l0, lenI_eq, decide_eq_true (by omega), cond_true, getO_nat, hx, Option.bind_some, getO_nat, hy, Option.bind_some, w64_succ (by omega)]
      by_cases c : x = y
      · simp [c]
      · simp [c]
    · rw [laws_eqIntS.l0, lenI_eq, decide_eq_false (by omega), cond_false]
    · cases decide (a = b) <;> rfl
  · rw [decide_eq_true (by simp only [lenI_eq]; omega), cond_true, decide_eq_false (fun e => hl (by rw [e]))]
theorem laws_eqQuery_eq (a b : Query) (ha : Query_b a) (hb : Query_b b) : laws_eqQuery.f a b = some (decide (a = b)) := by
  obtain ⟨ha_Where, ha_Show⟩ := ha
  obtain ⟨hb_Where, hb_Show⟩ := hb
  unfold laws_eqQuery.f
  by_cases c_Table : a.Table = b.Table
  case neg => rw [decide_eq_true c_Table, cond_true, decide_eq_false (fun e => c_Table (by rw [e]))]
  rw [decide_eq_false (fun e => e c_Table), cond_false]
  rw [laws_eqCondS_eq _ _ ha_Where hb_Where, Option.bind_some]
  by_cases c_Where : a.Where = b.Where
  case neg => rw [decide_eq_false c_Where, show bo3 false false true = true from rfl, cond_true, decide_eq_false (fun e => c_Where (by rw [e]))]
  rw [decide_eq_true c_Where, show bo3 true false true = false from rfl, cond_false]
  by_cases c_Order : a.Order = b.Order
  case neg => rw [decide_eq_true c_Order, cond_true, decide_eq_false (fun e => c_Order (by rw [e]))]
  rw [decide_eq_false (fun e => e c_Order), cond_false]
  by_cases c_Down : a.Down = b.Down
  case neg => rw [show bo3 a.Down (bo3 b.Down false true) b.Down = true from by revert c_Down; cases a.Down <;> cases b.Down <;> simp [bo3], cond_true, decide_eq_false (fun e => c_Down (by rw [e]))]
  rw [show bo3 a.Down (bo3 b.Down false true) b.Down = false from by rw [c_Down]; cases b.Down <;> rfl, cond_false]
  by_cases c_First : a.First = b.First
  case neg => rw [decide_eq_true c_First, cond_true, decide_eq_false (fun e => c_First (by rw [e]))]
  rw [decide_eq_false (fun e => e c_First), cond_false]
  rw [laws_eqIntS_eq _ _ ha_Show hb_Show, Option.bind_some]
  by_cases c_Show : a.Show = b.Show
  case neg => rw [decide_eq_false c_Show, show bo3 false false true = true from rfl, cond_true, decide_eq_false (fun e => c_Show (by rw [e]))]
  rw [decide_eq_true c_Show, show bo3 true false true = false from rfl, cond_false]
  by_cases c_Kids : a.Kids = b.Kids
  case neg => rw [show bo3 a.Kids (bo3 b.Kids false true) b.Kids = true from by revert c_Kids; cases a.Kids <;> cases b.Kids <;> simp [bo3], cond_true, decide_eq_false (fun e => c_Kids (by rw [e]))]
  rw [show bo3 a.Kids (bo3 b.Kids false true) b.Kids = false from by rw [c_Kids]; cases b.Kids <;> rfl, cond_false]
  by_cases c_KidTable : a.KidTable = b.KidTable
  case neg => rw [decide_eq_true c_KidTable, cond_true, decide_eq_false (fun e => c_KidTable (by rw [e]))]
  rw [decide_eq_false (fun e => e c_KidTable), cond_false]
  by_cases c_KidCol : a.KidCol = b.KidCol
  case neg => rw [decide_eq_true c_KidCol, cond_true, decide_eq_false (fun e => c_KidCol (by rw [e]))]
  rw [decide_eq_false (fun e => e c_KidCol), cond_false]
  rw [decide_eq_true (by cases a; cases b; simp_all)]
def sz_Row (x : Row) : Int := sz_IntS x.Cells
def Row_b (x : Row) : Prop := IntS_b x.Cells
theorem sz_Row_0 (x : Row) : 0 ≤ sz_Row x := by unfold sz_Row; exact by have := sz_IntS_0 x.Cells;  omega
def Row_r (x : Row) : Prop := (-9223372036854775808 ≤ x.Id ∧ x.Id ≤ 9223372036854775807) ∧ IntS_r x.Cells
theorem laws_szRow_eq (a : Row) (n : Int) (hn : 0 ≤ n ∧ n ≤ 1048576) (hb : Row_b a) : laws_szRow.f a n = some (if n < sz_Row a then -1 else n - sz_Row a) := by
  unfold laws_szRow.f sz_Row
  have h0 := hb
  have p_Cells := sz_IntS_0 a.Cells
  rw [laws_szIntS_eq _ _ (by omega) h0, Option.bind_some]
  by_cases c0 : n < sz_IntS a.Cells
  · rw [if_pos c0]; rfl
  · rw [if_neg c0, decide_eq_false (by omega), cond_false]
def sz_Change (x : Change) : Int := sz_Row x.Old + sz_Row x.New
def Change_b (x : Change) : Prop := Row_b x.Old ∧ Row_b x.New
theorem sz_Change_0 (x : Change) : 0 ≤ sz_Change x := by unfold sz_Change; exact by have := sz_Row_0 x.Old; have := sz_Row_0 x.New;  omega
def Change_r (x : Change) : Prop := (-9223372036854775808 ≤ x.Table ∧ x.Table ≤ 9223372036854775807) ∧ Row_r x.Old ∧ Row_r x.New
theorem laws_szChange_eq (a : Change) (n : Int) (hn : 0 ≤ n ∧ n ≤ 1048576) (hb : Change_b a) : laws_szChange.f a n = some (if n < sz_Change a then -1 else n - sz_Change a) := by
  unfold laws_szChange.f sz_Change
  obtain ⟨h0, h1⟩ := hb
  have p_Old := sz_Row_0 a.Old
  have p_New := sz_Row_0 a.New
  rw [laws_szRow_eq _ _ (by omega) h0, Option.bind_some]
  by_cases c0 : n < sz_Row a.Old
  · rw [if_pos c0, if_pos (by omega)]; rfl
  · rw [if_neg c0, decide_eq_false (by omega), cond_false]
    rw [laws_szRow_eq _ _ (by omega) h1, Option.bind_some]
    by_cases c1 : n - sz_Row a.Old < sz_Row a.New
    · rw [if_pos c1, if_pos (by omega)]; rfl
    · rw [if_neg c1, decide_eq_false (by omega), cond_false]
      rw [if_neg (by omega)]
      congr 1; omega
def sz_ChangeS (l : List Change) : Int := l.length + (l.map sz_Change).sum
def ChangeS_b (l : List Change) : Prop := l.length ≤ 9223372036854775807 ∧ ∀ x ∈ l, Change_b x
theorem sz_ChangeS_0 (l : List Change) : 0 ≤ sz_ChangeS l := by have := sum_nonneg sz_Change_0 l; unfold sz_ChangeS; omega
def ChangeS_r (l : List Change) : Prop := ∀ x ∈ l, Change_r x
theorem laws_szChangeS_eq (a : List Change) (n : Int) (hn : 0 ≤ n ∧ n ≤ 1048576) (hb : ChangeS_b a) : laws_szChangeS.f a n = some (if n < sz_ChangeS a then -1 else n - sz_ChangeS a) := by
  unfold laws_szChangeS.f sz_ChangeS
  obtain ⟨h1, h2⟩ := hb
  have p := sum_nonneg sz_Change_0 a
  rw [lenI_eq, w64_id (by omega)]
  by_cases c : n < (a.length : Int)
  · rw [if_pos (by omega), decide_eq_true (by omega), cond_true]
  · rw [decide_eq_false (by omega), cond_false]
    have key := loop_sz (f := laws_szChangeS.l0 a) (l := a) sz_Change sz_Change_0 (fun k i acc x hx h0 h0' => by
      have hi := at_lt hx
      rw [laws_szChangeS.l0, lenI_eq, decide_eq_true (by omega), cond_true, getO_nat, hx, Option.bind_some, laws_szChange_eq x acc ⟨h0, h0'⟩ (h2 x (List.mem_of_getElem? hx)), Option.bind_some, w64_succ (by omega)]
      by_cases d : acc < sz_Change x
      · rw [if_pos d, if_pos d, decide_eq_true (by omega), cond_true]
      · rw [if_neg d, if_neg d, decide_eq_false (by omega), cond_false]) (fun k acc i hi => by
      rw [laws_szChangeS.l0, lenI_eq, decide_eq_false (by omega), cond_false]) (((a.length : Int) - 0).toNat + 1) 0 (n - a.length) (by omega) (by omega) (by omega) (by omega)
    rw [List.drop_zero] at key
    refine Eq.trans key ?_
    congr 1
    by_cases d : n - a.length < (a.map sz_Change).sum
    · rw [if_pos d, if_pos (by omega)]
    · rw [if_neg d, if_neg (by omega)]; omega
theorem spec_l1In_eq (x y z : Int) : spec_l1In.f x y z = some (decide (y ≤ x ∧ x ≤ z)) := by
  unfold spec_l1In.f
  rw [bo3_and, Bool.decide_and]

def cmpB (op v z : Int) : Bool := if op = 1 then decide (v = z) else if op = 2 then decide (v < z) else if op = 3 then decide (z < v) else if op = 4 then decide (v ≠ z) else false
def holdsB (c : Cond) (r : Row) : Bool := decide (0 ≤ c.Col ∧ c.Col ≤ (r.Cells.length : Int) - 1) && cmpB c.Op (r.Cells.getD c.Col.toNat 0) c.V
def matchesB (q : Query) (r : Row) : Bool := q.Where.all fun c => holdsB c r

theorem spec_l9Holds_eq (c : Cond) (r : Row) (h : Row_b r) : spec_l9Holds.f c r = some (holdsB c r) := by
  have hl : r.Cells.length ≤ 9223372036854775807 := h
  unfold spec_l9Holds.f holdsB
  rw [lenI_eq, w64_id (by omega), spec_l1In_eq, Option.bind_some, bo3_not]
  by_cases d : 0 ≤ c.Col ∧ c.Col ≤ (r.Cells.length : Int) - 1
  · rw [decide_eq_true d, Bool.not_true, cond_false, getO_Int d, Option.bind_some, Bool.true_and]
    simp only [cond_ite, decide_eq_true_eq, some_if, bo3_and, cmpB]
    all_goals ((repeat' split) <;> simp_all)
  · rw [decide_eq_false d, Bool.not_false, cond_true, Bool.false_and]

theorem spec_Matches_eq (q : Query) (r : Row) (hq : CondS_b q.Where) (h : Row_b r) : spec_Matches.f q r = some (matchesB q r) := by
  have hl : q.Where.length ≤ 9223372036854775807 := hq
  unfold spec_Matches.f
  refine (loop_all (f := spec_Matches.l0 q r) (l := q.Where) (fun _ c => holdsB c r) (some false) (some true) (fun k i x hx => ?_) (fun k i hi => ?_) _ 0 (by omega) (by (try simp only [lenI_eq]); omega)).trans ?_
  · have hi := at_lt hx
    rw [spec_Matches.l0, lenI_eq, decide_eq_true (by omega), cond_true, getO_nat, hx, Option.bind_some, spec_l9Holds_eq _ _ h, Option.bind_some, bo3_not, w64_succ (by omega)]
    cases holdsB x r <;> rfl
  · rw [spec_Matches.l0, lenI_eq, decide_eq_false (by omega), cond_false]
  · rw [allFrom_zero, matchesB]
    cases q.Where.all fun c => holdsB c r <;> rfl

def cellF (r : Row) (col : Int) : Int := if 0 ≤ col ∧ col ≤ (r.Cells.length : Int) - 1 then r.Cells.getD col.toNat 0 else 0
def aheadB (q : Query) (a b : Row) : Bool :=
  if q.Order = 0 then decide (a.Id < b.Id) else
    let x := cellF a (w64 (q.Order - 1)); let y := cellF b (w64 (q.Order - 1))
    if x = y then decide (a.Id < b.Id) else if q.Down then decide (y < x) else decide (x < y)

def touchesB (q : Query) (c : Change) : Bool :=
  (decide (c.Table = q.Table) && (c.Had && matchesB q c.Old || c.Has && matchesB q c.New)) || (q.Kids && decide (c.Table = q.KidTable) && ((c.Had != c.Has) || (c.Had && decide (cellF c.Old q.KidCol ≠ cellF c.New q.KidCol))))

theorem spec_l12In_eq (q : Query) (c : Change) (hq : Query_b q) (hc : Change_b c) : spec_l12In.f q c = some (decide (c.Table = q.Table) && (c.Had && matchesB q c.Old || c.Has && matchesB q c.New)) := by
  unfold spec_l12In.f
  simp only [spec_Matches_eq _ _ hq.1 hc.1, spec_Matches_eq _ _ hq.1 hc.2, gd_of, Option.bind_some]
  cases decide (c.Table = q.Table) <;> cases c.Had <;> cases c.Has <;> cases matchesB q c.Old <;> cases matchesB q c.New <;> rfl

theorem spec_l9Cell_eq (r : Row) (col : Int) (h : Row_b r) : spec_l9Cell.f r col = some (cellF r col) := by
  have hl : r.Cells.length ≤ 9223372036854775807 := h
  unfold spec_l9Cell.f cellF
  rw [lenI_eq, w64_id (by omega), spec_l1In_eq, Option.bind_some, bo3_not]
  by_cases d : 0 ≤ col ∧ col ≤ (r.Cells.length : Int) - 1
  · rw [decide_eq_true d, Bool.not_true, cond_false, getO_Int d, Option.bind_some, if_pos d]
  · rw [decide_eq_false d, Bool.not_false, cond_true, if_neg d]

theorem spec_Touches_eq (q : Query) (c : Change) (hq : Query_b q) (hc : Change_b c) : spec_Touches.f q c = some (touchesB q c) := by
  unfold spec_Touches.f touchesB
  simp only [spec_l12In_eq _ _ hq hc, spec_l9Cell_eq _ _ hc.1, spec_l9Cell_eq _ _ hc.2, gd_of, Option.bind_some]
  generalize (decide (c.Table = q.Table) && (c.Had && matchesB q c.Old || c.Has && matchesB q c.New)) = b
  generalize cellF c.Old q.KidCol = x
  generalize cellF c.New q.KidCol = y
  rw [show decide (c.Table ≠ q.KidTable) = !decide (c.Table = q.KidTable) from by simp]
  cases b <;> cases q.Kids <;> cases decide (c.Table = q.KidTable) <;> cases c.Had <;> cases c.Has <;> first | rfl | (simp [bo3])

theorem spec_TouchesAny_eq (q : Query) (l : List Change) (hq : Query_b q) (hl : ChangeS_b l) : spec_TouchesAny.f q l = some (l.any (touchesB q)) := by
  obtain ⟨h1, h2⟩ := hl
  unfold spec_TouchesAny.f
  refine (loop_all (f := spec_TouchesAny.l0 q l) (l := l) (fun _ c => !touchesB q c) (some true) (some false) (fun k i x hx => ?_) (fun k i hi => ?_) _ 0 (by omega) (by (try simp only [lenI_eq]); omega)).trans ?_
  · have hi := at_lt hx
    rw [spec_TouchesAny.l0, lenI_eq, decide_eq_true (by omega), cond_true, getO_nat, hx, Option.bind_some, spec_Touches_eq _ _ hq (h2 x (List.mem_of_getElem? hx)), Option.bind_some, w64_succ (by omega)]
    cases touchesB q x <;> rfl
  · rw [spec_TouchesAny.l0, lenI_eq, decide_eq_false (by omega), cond_false]
  · rw [allFrom_zero, show (l.all fun c => !touchesB q c) = !(l.any (touchesB q)) from by rw [List.not_any_eq_all_not]]
    cases l.any (touchesB q) <;> rfl

theorem laws_toRow_eq (a : Row) (h : sz_Row a ≤ 1048576) : laws_toRow.f a = some a := by
  unfold sz_Row at h
  have p_Cells := sz_IntS_0 a.Cells
  unfold laws_toRow.f
  rw [laws_toIntS_eq _ (by omega), Option.bind_some]
theorem laws_toChange_eq (a : Change) (h : sz_Change a ≤ 1048576) : laws_toChange.f a = some a := by
  unfold sz_Change at h
  have p_Old := sz_Row_0 a.Old
  have p_New := sz_Row_0 a.New
  unfold laws_toChange.f
  rw [laws_toRow_eq _ (by omega), Option.bind_some]
  rw [laws_toRow_eq _ (by omega), Option.bind_some]
theorem laws_toChangeS_eq (a : List Change) (h : sz_ChangeS a ≤ 1048576) : laws_toChangeS.f a = some a := by
  unfold laws_toChangeS.f
  unfold sz_ChangeS at h
  have p := sum_nonneg sz_Change_0 a
  rw [lenI_eq, mkO_ok (by omega), Option.bind_some]
  refine loop_fill (f := laws_toChangeS.l0 a) (l := a) some (fun k i s x y hx hy => ?_) (fun k s i hi => ?_) _ 0 _ (by omega) (by omega) (by rw [List.length_replicate]; omega) (by simp)
  · have hi := at_lt hx
    rw [laws_toChangeS.l0, lenI_eq, decide_eq_true (by omega), cond_true, getO_nat, hx, Option.bind_some, laws_toChange_eq x (by have := sum_mem sz_Change_0 (List.mem_of_getElem? hx); omega), Option.bind_some, getO_nat, hy, Option.bind_some, Option.bind_some, setI_nat, w64_succ (by omega)]
  · rw [laws_toChangeS.l0, lenI_eq, decide_eq_false (by omega), cond_false]
theorem impl_within_eq (x y z : Int) : impl_within.f x y z = some (decide (y ≤ x ∧ x ≤ z)) := by
  unfold impl_within.f
  rw [bo3_and, Bool.decide_and]

theorem impl_holds_eq (c : Cond) (r : Row) (h : Row_b r) : impl_holds.f c r = some (holdsB c r) := by
  have hl : r.Cells.length ≤ 9223372036854775807 := h
  unfold impl_holds.f holdsB
  rw [lenI_eq, w64_id (by omega), impl_within_eq, Option.bind_some, bo3_not]
  by_cases d : 0 ≤ c.Col ∧ c.Col ≤ (r.Cells.length : Int) - 1
  · rw [decide_eq_true d, Bool.not_true, cond_false, getO_Int d, Option.bind_some, Bool.true_and]
    simp only [cond_ite, decide_eq_true_eq, some_if, bo3_and, cmpB]
    all_goals ((repeat' split) <;> simp_all)
  · rw [decide_eq_false d, Bool.not_false, cond_true, Bool.false_and]

theorem impl_Matches_eq (q : Query) (r : Row) (hq : CondS_b q.Where) (h : Row_b r) : impl_Matches.f q r = some (matchesB q r) := by
  have hl : q.Where.length ≤ 9223372036854775807 := hq
  unfold impl_Matches.f
  refine (loop_all (f := impl_Matches.l0 q r) (l := q.Where) (fun _ c => holdsB c r) (some false) (some true) (fun k i x hx => ?_) (fun k i hi => ?_) _ 0 (by omega) (by (try simp only [lenI_eq]); omega)).trans ?_
  · have hi := at_lt hx
    rw [impl_Matches.l0, lenI_eq, decide_eq_true (by omega), cond_true, getO_nat, hx, Option.bind_some, impl_holds_eq _ _ h, Option.bind_some, bo3_not, w64_succ (by omega)]
    cases holdsB x r <;> rfl
  · rw [impl_Matches.l0, lenI_eq, decide_eq_false (by omega), cond_false]
  · rw [allFrom_zero, matchesB]
    cases q.Where.all fun c => holdsB c r <;> rfl

theorem impl_cellOf_eq (r : Row) (col : Int) (h : Row_b r) : impl_cellOf.f r col = some (cellF r col) := by
  have hl : r.Cells.length ≤ 9223372036854775807 := h
  unfold impl_cellOf.f cellF
  rw [lenI_eq, w64_id (by omega), impl_within_eq, Option.bind_some, bo3_not]
  by_cases d : 0 ≤ col ∧ col ≤ (r.Cells.length : Int) - 1
  · rw [decide_eq_true d, Bool.not_true, cond_false, getO_Int d, Option.bind_some, if_pos d]
  · rw [decide_eq_false d, Bool.not_false, cond_true, if_neg d]

theorem impl_Touches_eq (q : Query) (c : Change) (hq : Query_b q) (hc : Change_b c) : impl_Touches.f q c = some (touchesB q c) := by
  unfold impl_Touches.f touchesB
  simp only [impl_Matches_eq _ _ hq.1 hc.1, impl_Matches_eq _ _ hq.1 hc.2, impl_cellOf_eq _ _ hc.1, impl_cellOf_eq _ _ hc.2, gd_of, Option.bind_some]
  generalize cellF c.Old q.KidCol = x
  generalize cellF c.New q.KidCol = y
  generalize matchesB q c.Old = m
  generalize matchesB q c.New = n
  rw [show decide (c.Table ≠ q.KidTable) = !decide (c.Table = q.KidTable) from by simp]
  cases decide (c.Table = q.Table) <;> cases m <;> cases n <;> cases q.Kids <;> cases decide (c.Table = q.KidTable) <;> cases c.Had <;> cases c.Has <;> first | rfl | (simp [bo3])

theorem impl_TouchesAny_eq (q : Query) (l : List Change) (hq : Query_b q) (hl : ChangeS_b l) : impl_TouchesAny.f q l = some (l.any (touchesB q)) := by
  obtain ⟨h1, h2⟩ := hl
  unfold impl_TouchesAny.f
  refine (loop_all (f := impl_TouchesAny.l0 q l) (l := l) (fun _ c => !touchesB q c) (some true) (some false) (fun k i x hx => ?_) (fun k i hi => ?_) _ 0 (by omega) (by (try simp only [lenI_eq]); omega)).trans ?_
  · have hi := at_lt hx
    rw [impl_TouchesAny.l0, lenI_eq, decide_eq_true (by omega), cond_true, getO_nat, hx, Option.bind_some, impl_Touches_eq _ _ hq (h2 x (List.mem_of_getElem? hx)), Option.bind_some, w64_succ (by omega)]
    cases touchesB q x <;> rfl
  · rw [impl_TouchesAny.l0, lenI_eq, decide_eq_false (by omega), cond_false]
  · rw [allFrom_zero, show (l.all fun c => !touchesB q c) = !(l.any (touchesB q)) from by rw [List.not_any_eq_all_not]]
    cases l.any (touchesB q) <;> rfl

theorem laws_eqRow_eq (a b : Row) (ha : Row_b a) (hb : Row_b b) : laws_eqRow.f a b = some (decide (a = b)) := by
  have ha_Cells := ha
  have hb_Cells := hb
  unfold laws_eqRow.f
  by_cases c_Id : a.Id = b.Id
  case neg => rw [decide_eq_true c_Id, cond_true, decide_eq_false (fun e => c_Id (by rw [e]))]
  rw [decide_eq_false (fun e => e c_Id), cond_false]
  rw [laws_eqIntS_eq _ _ ha_Cells hb_Cells, Option.bind_some]
  by_cases c_Cells : a.Cells = b.Cells
  case neg => rw [decide_eq_false c_Cells, show bo3 false false true = true from rfl, cond_true, decide_eq_false (fun e => c_Cells (by rw [e]))]
  rw [decide_eq_true c_Cells, show bo3 true false true = false from rfl, cond_false]
  rw [decide_eq_true (by cases a; cases b; simp_all)]
theorem laws_eqChange_eq (a b : Change) (ha : Change_b a) (hb : Change_b b) : laws_eqChange.f a b = some (decide (a = b)) := by
  obtain ⟨ha_Old, ha_New⟩ := ha
  obtain ⟨hb_Old, hb_New⟩ := hb
  unfold laws_eqChange.f
  by_cases c_Table : a.Table = b.Table
  case neg => rw [decide_eq_true c_Table, cond_true, decide_eq_false (fun e => c_Table (by rw [e]))]
  rw [decide_eq_false (fun e => e c_Table), cond_false]
  by_cases c_Had : a.Had = b.Had
  case neg => rw [show bo3 a.Had (bo3 b.Had false true) b.Had = true from by revert c_Had; cases a.Had <;> cases b.Had <;> simp [bo3], cond_true, decide_eq_false (fun e => c_Had (by rw [e]))]
  rw [show bo3 a.Had (bo3 b.Had false true) b.Had = false from by rw [c_Had]; cases b.Had <;> rfl, cond_false]
  by_cases c_Has : a.Has = b.Has
  case neg => rw [show bo3 a.Has (bo3 b.Has false true) b.Has = true from by revert c_Has; cases a.Has <;> cases b.Has <;> simp [bo3], cond_true, decide_eq_false (fun e => c_Has (by rw [e]))]
  rw [show bo3 a.Has (bo3 b.Has false true) b.Has = false from by rw [c_Has]; cases b.Has <;> rfl, cond_false]
  rw [laws_eqRow_eq _ _ ha_Old hb_Old, Option.bind_some]
  by_cases c_Old : a.Old = b.Old
  case neg => rw [decide_eq_false c_Old, show bo3 false false true = true from rfl, cond_true, decide_eq_false (fun e => c_Old (by rw [e]))]
  rw [decide_eq_true c_Old, show bo3 true false true = false from rfl, cond_false]
  rw [laws_eqRow_eq _ _ ha_New hb_New, Option.bind_some]
  by_cases c_New : a.New = b.New
  case neg => rw [decide_eq_false c_New, show bo3 false false true = true from rfl, cond_true, decide_eq_false (fun e => c_New (by rw [e]))]
  rw [decide_eq_true c_New, show bo3 true false true = false from rfl, cond_false]
  rw [decide_eq_true (by cases a; cases b; simp_all)]
theorem laws_eqChangeS_eq (a b : List Change) (ha : ChangeS_b a) (hb : ChangeS_b b) : laws_eqChangeS.f a b = some (decide (a = b)) := by
  obtain ⟨ha, ha2⟩ := ha
  obtain ⟨hb, hb2⟩ := hb
  unfold laws_eqChangeS.f
  by_cases hl : a.length = b.length
  · rw [decide_eq_false (by simp only [lenI_eq]; omega), cond_false]
    refine (loop_eq (f := laws_eqChangeS.l0 a b) hl (some false) (some true) (fun k i x y hx hy => ?_) (fun k i hi => ?_) _ (by simp only [lenI_eq]; omega)).trans ?_
    · have hi := at_lt hx
      rw [laws_eqChangeS.l0, lenI_eq, decide_eq_true (by omega), cond_true, getO_nat, hx, Option.bind_some, getO_nat, hy, Option.bind_some, laws_eqChange_eq x y (ha2 x (List.mem_of_getElem? hx)) (hb2 y (List.mem_of_getElem? hy)), Option.bind_some, bo3_not, w64_succ (by omega)]
      by_cases c : x = y
      · simp [c]
      · simp [c]
    · rw [laws_eqChangeS.l0, lenI_eq, decide_eq_false (by omega), cond_false]
    · cases decide (a = b) <;> rfl
  · rw [decide_eq_true (by simp only [lenI_eq]; omega), cond_true, decide_eq_false (fun e => hl (by rw [e]))]
theorem TouchesAny_ok (q : Query) (b0 : Query_b q) (r0 : Query_r q) (z0 : sz_Query q ≤ 1048576) (l : List Change) (b1 : ChangeS_b l) (r1 : ChangeS_r l) (z1 : sz_ChangeS l ≤ 1048576) : ∃ x, spec_TouchesAny.f q l = some x ∧ impl_TouchesAny.f q l = some x :=
  ⟨_, spec_TouchesAny_eq q l b0 b1, impl_TouchesAny_eq q l b0 b1⟩

theorem laws_FnExactTouchesAny_pure (a0 : Query) (b0 : Query_b a0) (r0 : Query_r a0) (a1 : List Change) (b1 : ChangeS_b a1) (r1 : ChangeS_r a1) : laws_FnExactTouchesAny.f a0 a1 = some true := by
  unfold laws_FnExactTouchesAny.f
  have p0 := sz_Query_0 a0
  rw [laws_szQuery_eq _ _ (by omega) b0, Option.bind_some]
  by_cases c0 : 1048576 < sz_Query a0
  · rw [if_pos c0]; rfl
  rw [if_neg c0, decide_eq_false (by omega), cond_false]
  have p1 := sz_ChangeS_0 a1
  rw [laws_szChangeS_eq _ _ (by omega) b1, Option.bind_some]
  by_cases c1 : 1048576 - sz_Query a0 < sz_ChangeS a1
  · rw [if_pos c1]; rfl
  rw [if_neg c1, decide_eq_false (by omega), cond_false]
  obtain ⟨v0, hs, hi⟩ := TouchesAny_ok a0 b0 r0 (by omega) a1 b1 r1 (by omega)
  have t0 := laws_toQuery_eq a0 (by omega)
  have e0 : laws_eqQuery.f a0 a0 = some true := by rw [laws_eqQuery_eq _ _ b0 b0, decide_eq_true rfl]
  have t1 := laws_toChangeS_eq a1 (by omega)
  have e1 : laws_eqChangeS.f a1 a1 = some true := by rw [laws_eqChangeS_eq _ _ b1 b1, decide_eq_true rfl]
  simp only [t0, e0, t1, e1, hs, hi, Option.bind_some, bo3_self, bo3_F, bo3_T, gd_true, cond_false, ne_eq, not_true_eq_false, decide_false]
end Go.Proofs.Ytplgbjbpimbcbaa.L
