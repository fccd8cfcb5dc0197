/- What the pure functions give. -/
import Derived.Test.YtibmfkomdhnhbaaPv0
import Derived.Test.YtibmfkomdhnhbaaFxConcernedU
namespace Go.Proofs.Ytibmfkomdhnhbaa.L
open Go
set_option linter.unusedVariables false
set_option linter.unusedSimpArgs false
def sz_IntS (l : List Int) : Int := l.length
def IntS_b (l : List Int) : Prop := l.length ≤ 9223372036854775807
theorem sz_IntS_0 (l : List Int) : 0 ≤ sz_IntS l := by unfold sz_IntS; omega
def IntS_r (l : List Int) : Prop := ∀ x ∈ l, (-9223372036854775808 ≤ x ∧ x ≤ 9223372036854775807)
theorem laws_szIntS_eq (a : List Int) (n : Int) (hn : 0 ≤ n ∧ n ≤ 1048576) (hb : IntS_b a) : laws_szIntS.f a n = some (if n < sz_IntS a then -1 else n - sz_IntS a) := by
  unfold laws_szIntS.f sz_IntS
  unfold IntS_b at hb
  rw [lenI_eq, w64_id (by omega)]
  by_cases c : n < (a.length : Int)
  · rw [if_pos c, decide_eq_true (by omega), cond_true]
  · rw [if_neg c, decide_eq_false (by omega), cond_false]
def sz_Schema (x : Schema) : Int := sz_IntS x.Cols
def Schema_b (x : Schema) : Prop := IntS_b x.Cols
theorem sz_Schema_0 (x : Schema) : 0 ≤ sz_Schema x := by unfold sz_Schema; exact by have := sz_IntS_0 x.Cols;  omega
def Schema_r (x : Schema) : Prop := IntS_r x.Cols
theorem laws_szSchema_eq (a : Schema) (n : Int) (hn : 0 ≤ n ∧ n ≤ 1048576) (hb : Schema_b a) : laws_szSchema.f a n = some (if n < sz_Schema a then -1 else n - sz_Schema a) := by
  unfold laws_szSchema.f sz_Schema
  have h0 := hb
  have p_Cols := sz_IntS_0 a.Cols
  rw [laws_szIntS_eq _ _ (by omega) h0, Option.bind_some]
  by_cases c0 : n < sz_IntS a.Cols
  · rw [if_pos c0]; rfl
  · rw [if_neg c0, decide_eq_false (by omega), cond_false]
theorem laws_toIntS_eq (a : List Int) (h : sz_IntS a ≤ 1048576) : laws_toIntS.f a = some a := by
  unfold laws_toIntS.f
  unfold sz_IntS at h
  rw [lenI_eq, mkO_ok (by omega), Option.bind_some]
  refine loop_fill (f := laws_toIntS.l0 a) (l := a) some (fun k i s x y hx hy => ?_) (fun k s i hi => ?_) _ 0 _ (by omega) (by omega) (by rw [List.length_replicate]; omega) (by simp)
  · have hi := at_lt hx
    rw [laws_toIntS.l0, lenI_eq, decide_eq_true (by omega), cond_true, getO_nat, hx, Option.bind_some, getO_nat, hy, Option.bind_some, Option.bind_some, setI_nat, w64_succ (by omega)]
  · rw [laws_toIntS.l0, lenI_eq, decide_eq_false (by omega), cond_false]
theorem laws_toSchema_eq (a : Schema) (h : sz_Schema a ≤ 1048576) : laws_toSchema.f a = some a := by
  unfold sz_Schema at h
  have p_Cols := sz_IntS_0 a.Cols
  unfold laws_toSchema.f
  rw [laws_toIntS_eq _ (by omega), Option.bind_some]
theorem laws_eqIntS_eq (a b : List Int) (ha : IntS_b a) (hb : IntS_b b) : laws_eqIntS.f a b = some (decide (a = b)) := by
  unfold IntS_b at ha hb
  unfold laws_eqIntS.f
  by_cases hl : a.length = b.length
  · rw [decide_eq_false (by simp only [lenI_eq]; omega), cond_false]
    refine (loop_eq (f := laws_eqIntS.l0 a b) hl (some false) (some true) (fun k i x y hx hy => ?_) (fun k i hi => ?_) _ (by simp only [lenI_eq]; omega)).trans ?_
    · have hi := at_lt hx
      rw [laws_eqIntS.l0, lenI_eq, decide_eq_true (by omega), cond_true, getO_nat, hx, Option.bind_some, getO_nat, hy, Option.bind_some, w64_succ (by omega)]
      by_cases c : x = y
      · simp [c]
      · simp [c]
    · rw [laws_eqIntS.l0, lenI_eq, decide_eq_false (by omega), cond_false]
    · cases decide (a = b) <;> rfl
  · rw [decide_eq_true (by simp only [lenI_eq]; omega), cond_true, decide_eq_false (fun e => hl (by rw [e]))]
theorem laws_eqSchema_eq (a b : Schema) (ha : Schema_b a) (hb : Schema_b b) : laws_eqSchema.f a b = some (decide (a = b)) := by
  have ha_Cols := ha
  have hb_Cols := hb
  unfold laws_eqSchema.f
  rw [laws_eqIntS_eq _ _ ha_Cols hb_Cols, Option.bind_some]
  by_cases c_Cols : a.Cols = b.Cols
  case neg => rw [decide_eq_false c_Cols, show bo3 false false true = true from rfl, cond_true, decide_eq_false (fun e => c_Cols (by rw [e]))]
  rw [decide_eq_true c_Cols, show bo3 true false true = false from rfl, cond_false]
  rw [decide_eq_true (by cases a; cases b; simp_all)]
def Cond_r (x : Cond) : Prop := (-9223372036854775808 ≤ x.Col ∧ x.Col ≤ 9223372036854775807) ∧ (-9223372036854775808 ≤ x.Op ∧ x.Op ≤ 9223372036854775807) ∧ (-9223372036854775808 ≤ x.V ∧ x.V ≤ 9223372036854775807)
def sz_CondS (l : List Cond) : Int := l.length
def CondS_b (l : List Cond) : Prop := l.length ≤ 9223372036854775807
theorem sz_CondS_0 (l : List Cond) : 0 ≤ sz_CondS l := by unfold sz_CondS; omega
def CondS_r (l : List Cond) : Prop := ∀ x ∈ l, Cond_r x
theorem laws_szCondS_eq (a : List Cond) (n : Int) (hn : 0 ≤ n ∧ n ≤ 1048576) (hb : CondS_b a) : laws_szCondS.f a n = some (if n < sz_CondS a then -1 else n - sz_CondS a) := by
  unfold laws_szCondS.f sz_CondS
  unfold CondS_b at hb
  rw [lenI_eq, w64_id (by omega)]
  by_cases c : n < (a.length : Int)
  · rw [if_pos c, decide_eq_true (by omega), cond_true]
  · rw [if_neg c, decide_eq_false (by omega), cond_false]
def sz_Query (x : Query) : Int := sz_CondS x.Where + sz_IntS x.Show
def Query_b (x : Query) : Prop := CondS_b x.Where ∧ IntS_b x.Show
theorem sz_Query_0 (x : Query) : 0 ≤ sz_Query x := by unfold sz_Query; exact by have := sz_CondS_0 x.Where; have := sz_IntS_0 x.Show;  omega
def Query_r (x : Query) : Prop := (-9223372036854775808 ≤ x.Table ∧ x.Table ≤ 9223372036854775807) ∧ CondS_r x.Where ∧ (-9223372036854775808 ≤ x.Order ∧ x.Order ≤ 9223372036854775807) ∧ (-9223372036854775808 ≤ x.First ∧ x.First ≤ 9223372036854775807) ∧ IntS_r x.Show ∧ (-9223372036854775808 ≤ x.KidTable ∧ x.KidTable ≤ 9223372036854775807) ∧ (-9223372036854775808 ≤ x.KidCol ∧ x.KidCol ≤ 9223372036854775807)
theorem laws_szQuery_eq (a : Query) (n : Int) (hn : 0 ≤ n ∧ n ≤ 1048576) (hb : Query_b a) : laws_szQuery.f a n = some (if n < sz_Query a then -1 else n - sz_Query a) := by
  unfold laws_szQuery.f sz_Query
  obtain ⟨h0, h1⟩ := hb
  have p_Where := sz_CondS_0 a.Where
  have p_Show := sz_IntS_0 a.Show
  rw [laws_szCondS_eq _ _ (by omega) h0, Option.bind_some]
  by_cases c0 : n < sz_CondS a.Where
  · rw [if_pos c0, if_pos (by omega)]; rfl
  · rw [if_neg c0, decide_eq_false (by omega), cond_false]
    rw [laws_szIntS_eq _ _ (by omega) h1, Option.bind_some]
    by_cases c1 : n - sz_CondS a.Where < sz_IntS a.Show
    · rw [if_pos c1, if_pos (by omega)]; rfl
    · rw [if_neg c1, decide_eq_false (by omega), cond_false]
      rw [if_neg (by omega)]
      congr 1; omega
def sz_QueryS (l : List Query) : Int := l.length + (l.map sz_Query).sum
def QueryS_b (l : List Query) : Prop := l.length ≤ 9223372036854775807 ∧ ∀ x ∈ l, Query_b x
theorem sz_QueryS_0 (l : List Query) : 0 ≤ sz_QueryS l := by have := sum_nonneg sz_Query_0 l; unfold sz_QueryS; omega
def QueryS_r (l : List Query) : Prop := ∀ x ∈ l, Query_r x
theorem laws_szQueryS_eq (a : List Query) (n : Int) (hn : 0 ≤ n ∧ n ≤ 1048576) (hb : QueryS_b a) : laws_szQueryS.f a n = some (if n < sz_QueryS a then -1 else n - sz_QueryS a) := by
  unfold laws_szQueryS.f sz_QueryS
  obtain ⟨h1, h2⟩ := hb
  have p := sum_nonneg sz_Query_0 a
  rw [lenI_eq, w64_id (by omega)]
  by_cases c : n < (a.length : Int)
  · rw [if_pos (by omega), decide_eq_true (by omega), cond_true]
  · rw [decide_eq_false (by omega), cond_false]
    have key := loop_sz (f := laws_szQueryS.l0 a) (l := a) sz_Query sz_Query_0 (fun k i acc x hx h0 h0' => by
      have hi := at_lt hx
      rw [laws_szQueryS.l0, lenI_eq, decide_eq_true (by omega), cond_true, getO_nat, hx, Option.bind_some, laws_szQuery_eq x acc ⟨h0, h0'⟩ (h2 x (List.mem_of_getElem? hx)), Option.bind_some, w64_succ (by omega)]
      by_cases d : acc < sz_Query x
      · rw [if_pos d, if_pos d, decide_eq_true (by omega), cond_true]
      · rw [if_neg d, if_neg d, decide_eq_false (by omega), cond_false]) (fun k acc i hi => by
      rw [laws_szQueryS.l0, lenI_eq, decide_eq_false (by omega), cond_false]) (((a.length : Int) - 0).toNat + 1) 0 (n - a.length) (by omega) (by omega) (by omega) (by omega)
    rw [List.drop_zero] at key
    refine Eq.trans key ?_
    congr 1
    by_cases d : n - a.length < (a.map sz_Query).sum
    · rw [if_pos d, if_pos (by omega)]
    · rw [if_neg d, if_neg (by omega)]; omega
def sz_Row (x : Row) : Int := sz_IntS x.Cells
def Row_b (x : Row) : Prop := IntS_b x.Cells
theorem sz_Row_0 (x : Row) : 0 ≤ sz_Row x := by unfold sz_Row; exact by have := sz_IntS_0 x.Cells;  omega
def Row_r (x : Row) : Prop := (-9223372036854775808 ≤ x.Id ∧ x.Id ≤ 9223372036854775807) ∧ IntS_r x.Cells
theorem laws_szRow_eq (a : Row) (n : Int) (hn : 0 ≤ n ∧ n ≤ 1048576) (hb : Row_b a) : laws_szRow.f a n = some (if n < sz_Row a then -1 else n - sz_Row a) := by
  unfold laws_szRow.f sz_Row
  have h0 := hb
  have p_Cells := sz_IntS_0 a.Cells
  rw [laws_szIntS_eq _ _ (by omega) h0, Option.bind_some]
  by_cases c0 : n < sz_IntS a.Cells
  · rw [if_pos c0]; rfl
  · rw [if_neg c0, decide_eq_false (by omega), cond_false]
def sz_Change (x : Change) : Int := sz_Row x.Old + sz_Row x.New
def Change_b (x : Change) : Prop := Row_b x.Old ∧ Row_b x.New
theorem sz_Change_0 (x : Change) : 0 ≤ sz_Change x := by unfold sz_Change; exact by have := sz_Row_0 x.Old; have := sz_Row_0 x.New;  omega
def Change_r (x : Change) : Prop := (-9223372036854775808 ≤ x.Table ∧ x.Table ≤ 9223372036854775807) ∧ Row_r x.Old ∧ Row_r x.New
theorem laws_szChange_eq (a : Change) (n : Int) (hn : 0 ≤ n ∧ n ≤ 1048576) (hb : Change_b a) : laws_szChange.f a n = some (if n < sz_Change a then -1 else n - sz_Change a) := by
  unfold laws_szChange.f sz_Change
  obtain ⟨h0, h1⟩ := hb
  have p_Old := sz_Row_0 a.Old
  have p_New := sz_Row_0 a.New
  rw [laws_szRow_eq _ _ (by omega) h0, Option.bind_some]
  by_cases c0 : n < sz_Row a.Old
  · rw [if_pos c0, if_pos (by omega)]; rfl
  · rw [if_neg c0, decide_eq_false (by omega), cond_false]
    rw [laws_szRow_eq _ _ (by omega) h1, Option.bind_some]
    by_cases c1 : n - sz_Row a.Old < sz_Row a.New
    · rw [if_pos c1, if_pos (by omega)]; rfl
    · rw [if_neg c1, decide_eq_false (by omega), cond_false]
      rw [if_neg (by omega)]
      congr 1; omega
def sz_ChangeS (l : List Change) : Int := l.length + (l.map sz_Change).sum
def ChangeS_b (l : List Change) : Prop := l.length ≤ 9223372036854775807 ∧ ∀ x ∈ l, Change_b x
theorem sz_ChangeS_0 (l : List Change) : 0 ≤ sz_ChangeS l := by have := sum_nonneg sz_Change_0 l; unfold sz_ChangeS; omega
def ChangeS_r (l : List Change) : Prop := ∀ x ∈ l, Change_r x
theorem laws_szChangeS_eq (a : List Change) (n : Int) (hn : 0 ≤ n ∧ n ≤ 1048576) (hb : ChangeS_b a) : laws_szChangeS.f a n = some (if n < sz_ChangeS a then -1 else n - sz_ChangeS a) := by
  unfold laws_szChangeS.f sz_ChangeS
  obtain ⟨h1, h2⟩ := hb
  have p := sum_nonneg sz_Change_0 a
  rw [lenI_eq, w64_id (by omega)]
  by_cases c : n < (a.length : Int)
  · rw [if_pos (by omega), decide_eq_true (by omega), cond_true]
  · rw [decide_eq_false (by omega), cond_false]
    have key := loop_sz (f := laws_szChangeS.l0 a) (l := a) sz_Change sz_Change_0 (fun k i acc x hx h0 h0' => by
      have hi := at_lt hx
      rw [laws_szChangeS.l0, lenI_eq, decide_eq_true (by omega), cond_true, getO_nat, hx, Option.bind_some, laws_szChange_eq x acc ⟨h0, h0'⟩ (h2 x (List.mem_of_getElem? hx)), Option.bind_some, w64_succ (by omega)]
      by_cases d : acc < sz_Change x
      · rw [if_pos d, if_pos d, decide_eq_true (by omega), cond_true]
      · rw [if_neg d, if_neg d, decide_eq_false (by omega), cond_false]) (fun k acc i hi => by
      rw [laws_szChangeS.l0, lenI_eq, decide_eq_false (by omega), cond_false]) (((a.length : Int) - 0).toNat + 1) 0 (n - a.length) (by omega) (by omega) (by omega) (by omega)
    rw [List.drop_zero] at key
    refine Eq.trans key ?_
    congr 1
    by_cases d : n - a.length < (a.map sz_Change).sum
    · rw [if_pos d, if_pos (by omega)]
    · rw [if_neg d, if_neg (by omega)]; omega
theorem spec_l1In_eq (x y z : Int) : spec_l1In.f x y z = some (decide (y ≤ x ∧ x ≤ z)) := by
  unfold spec_l1In.f
  rw [bo3_and, Bool.decide_and]

def cellF (r : Row) (col : Int) : Int := if 0 ≤ col ∧ col ≤ (r.Cells.length : Int) - 1 then r.Cells.getD col.toNat 0 else 0
def aheadB (q : Query) (a b : Row) : Bool :=
  if q.Order = 0 then decide (a.Id < b.Id) else
    let x := cellF a (w64 (q.Order - 1)); let y := cellF b (w64 (q.Order - 1))
    if x = y then decide (a.Id < b.Id) else if q.Down then decide (y < x) else decide (x < y)

theorem spec_l9Cell_eq (r : Row) (col : Int) (h : Row_b r) : spec_l9Cell.f r col = some (cellF r col) := by
  have hl : r.Cells.length ≤ 9223372036854775807 := h
  unfold spec_l9Cell.f cellF
  rw [lenI_eq, w64_id (by omega), spec_l1In_eq, Option.bind_some, bo3_not]
  by_cases d : 0 ≤ col ∧ col ≤ (r.Cells.length : Int) - 1
  · rw [decide_eq_true d, Bool.not_true, cond_false, getO_Int d, Option.bind_some, if_pos d]
  · rw [decide_eq_false d, Bool.not_false, cond_true, if_neg d]

def cmpB (op v z : Int) : Bool := if op = 1 then decide (v = z) else if op = 2 then decide (v < z) else if op = 3 then decide (z < v) else if op = 4 then decide (v ≠ z) else false
def holdsB (c : Cond) (r : Row) : Bool := decide (0 ≤ c.Col ∧ c.Col ≤ (r.Cells.length : Int) - 1) && cmpB c.Op (r.Cells.getD c.Col.toNat 0) c.V
def matchesB (q : Query) (r : Row) : Bool := q.Where.all fun c => holdsB c r

theorem spec_l9Holds_eq (c : Cond) (r : Row) (h : Row_b r) : spec_l9Holds.f c r = some (holdsB c r) := by
  have hl : r.Cells.length ≤ 9223372036854775807 := h
  unfold spec_l9Holds.f holdsB
  rw [lenI_eq, w64_id (by omega), spec_l1In_eq, Option.bind_some, bo3_not]
  by_cases d : 0 ≤ c.Col ∧ c.Col ≤ (r.Cells.length : Int) - 1
  · rw [decide_eq_true d, Bool.not_true, cond_false, getO_Int d, Option.bind_some, Bool.true_and]
    simp only [cond_ite, decide_eq_true_eq, some_if, bo3_and, cmpB]
    all_goals ((repeat' split) <;> simp_all)
  · rw [decide_eq_false d, Bool.not_false, cond_true, Bool.false_and]

theorem spec_Matches_eq (q : Query) (r : Row) (hq : CondS_b q.Where) (h : Row_b r) : spec_Matches.f q r = some (matchesB q r) := by
  have hl : q.Where.length ≤ 9223372036854775807 := hq
  unfold spec_Matches.f
  refine (loop_all (f := spec_Matches.l0 q r) (l := q.Where) (fun _ c => holdsB c r) (some false) (some true) (fun k i x hx => ?_) (fun k i hi => ?_) _ 0 (by omega) (by (try simp only [lenI_eq]); omega)).trans ?_
  · have hi := at_lt hx
    rw [spec_Matches.l0, lenI_eq, decide_eq_true (by omega), cond_true, getO_nat, hx, Option.bind_some, spec_l9Holds_eq _ _ h, Option.bind_some, bo3_not, w64_succ (by omega)]
    cases holdsB x r <;> rfl
  · rw [spec_Matches.l0, lenI_eq, decide_eq_false (by omega), cond_false]
  · rw [allFrom_zero, matchesB]
    cases q.Where.all fun c => holdsB c r <;> rfl

def touchesB (q : Query) (c : Change) : Bool :=
  (decide (c.Table = q.Table) && (c.Had && matchesB q c.Old || c.Has && matchesB q c.New)) || (q.Kids && decide (c.Table = q.KidTable) && ((c.Had != c.Has) || (c.Had && decide (cellF c.Old q.KidCol ≠ cellF c.New q.KidCol))))

theorem spec_l12In_eq (q : Query) (c : Change) (hq : Query_b q) (hc : Change_b c) : spec_l12In.f q c = some (decide (c.Table = q.Table) && (c.Had && matchesB q c.Old || c.Has && matchesB q c.New)) := by
  unfold spec_l12In.f
  simp only [spec_Matches_eq _ _ hq.1 hc.1, spec_Matches_eq _ _ hq.1 hc.2, gd_of, Option.bind_some]
  cases decide (c.Table = q.Table) <;> cases c.Had <;> cases c.Has <;> cases matchesB q c.Old <;> cases matchesB q c.New <;> rfl

theorem spec_Touches_eq (q : Query) (c : Change) (hq : Query_b q) (hc : Change_b c) : spec_Touches.f q c = some (touchesB q c) := by
  unfold spec_Touches.f touchesB
  simp only [spec_l12In_eq _ _ hq hc, spec_l9Cell_eq _ _ hc.1, spec_l9Cell_eq _ _ hc.2, gd_of, Option.bind_some]
  generalize (decide (c.Table = q.Table) && (c.Had && matchesB q c.Old || c.Has && matchesB q c.New)) = b
  generalize cellF c.Old q.KidCol = x
  generalize cellF c.New q.KidCol = y
  rw [show decide (c.Table ≠ q.KidTable) = !decide (c.Table = q.KidTable) from by simp]
  cases b <;> cases q.Kids <;> cases decide (c.Table = q.KidTable) <;> cases c.Had <;> cases c.Has <;> first | rfl | (simp [bo3])

theorem spec_TouchesAny_eq (q : Query) (l : List Change) (hq : Query_b q) (hl : ChangeS_b l) : spec_TouchesAny.f q l = some (l.any (touchesB q)) := by
  obtain ⟨h1, h2⟩ := hl
  unfold spec_TouchesAny.f
  refine (loop_all (f := spec_TouchesAny.l0 q l) (l := l) (fun _ c => !touchesB q c) (some true) (some false) (fun k i x hx => ?_) (fun k i hi => ?_) _ 0 (by omega) (by (try simp only [lenI_eq]); omega)).trans ?_
  · have hi := at_lt hx
    rw [spec_TouchesAny.l0, lenI_eq, decide_eq_true (by omega), cond_true, getO_nat, hx, Option.bind_some, spec_Touches_eq _ _ hq (h2 x (List.mem_of_getElem? hx)), Option.bind_some, w64_succ (by omega)]
    cases touchesB q x <;> rfl
  · rw [spec_TouchesAny.l0, lenI_eq, decide_eq_false (by omega), cond_false]
  · rw [allFrom_zero, show (l.all fun c => !touchesB q c) = !(l.any (touchesB q)) from by rw [List.not_any_eq_all_not]]
    cases l.any (touchesB q) <;> rfl

def schemaB (s : Schema) : Bool := s.Cols.all (fun n => decide (1 ≤ n ∧ n ≤ 4)) && decide (1 ≤ (s.Cols.length : Int) ∧ (s.Cols.length : Int) ≤ 3)

theorem spec_SchemaOk_eq (s : Schema) (h : Schema_b s) : spec_SchemaOk.f s = some (schemaB s) := by
  have hl : s.Cols.length ≤ 9223372036854775807 := h
  unfold spec_SchemaOk.f joinK
  refine (loop_all (f := spec_SchemaOk.l0 s _) (l := s.Cols) (fun _ n => decide (1 ≤ n ∧ n ≤ 4)) (some false) (some (decide (1 ≤ (s.Cols.length : Int) ∧ (s.Cols.length : Int) ≤ 3))) (fun k i x hx => ?_) (fun k i hi => ?_) _ 0 (by omega) (by (try simp only [lenI_eq]); omega)).trans ?_
  · have hi := at_lt hx
    rw [spec_SchemaOk.l0, lenI_eq, decide_eq_true (by omega), cond_true, getO_nat, hx, Option.bind_some, spec_l1In_eq, Option.bind_some, bo3_not, w64_succ (by omega)]
    cases decide (1 ≤ x ∧ x ≤ 4) <;> rfl
  · rw [spec_SchemaOk.l0, lenI_eq, decide_eq_false (by omega), cond_false, spec_l1In_eq, Option.bind_some]
  · rw [allFrom_zero, schemaB]
    cases s.Cols.all fun n => decide (1 ≤ n ∧ n ≤ 4) <;> rfl

def kidsB (s : Schema) (q : Query) : Bool :=
  if q.Kids then decide (0 ≤ q.KidTable ∧ q.KidTable ≤ (s.Cols.length : Int) - 1) && decide (0 ≤ q.KidCol ∧ q.KidCol ≤ w64 (s.Cols.getD q.KidTable.toNat 0 - 1)) else decide (q.KidTable = 0) && decide (q.KidCol = 0)
def condB (cols : Int) (c : Cond) : Bool := decide (0 ≤ c.Col ∧ c.Col ≤ w64 (cols - 1)) && decide (1 ≤ c.Op ∧ c.Op ≤ 4) && decide (-1000000000 ≤ c.V ∧ c.V ≤ 1000000000)
def showB (cols : Int) (l : List Int) : Bool := allFrom (fun i x => decide (0 ≤ x ∧ x ≤ w64 (cols - 1)) && !(decide (0 < i) && decide (x ≤ l.getD (i - 1) 0))) l 0
def queryB (s : Schema) (q : Query) : Bool :=
  schemaB s && decide (0 ≤ q.Table ∧ q.Table ≤ (s.Cols.length : Int) - 1) &&
    (let cols := s.Cols.getD q.Table.toNat 0
     q.Where.all (condB cols) && showB cols q.Show && (decide (q.Where.length ≤ 3) && decide (0 ≤ q.Order ∧ q.Order ≤ cols) && (!q.Down || decide (0 < q.Order)) && decide (0 ≤ q.First ∧ q.First ≤ 24) && kidsB s q))
theorem show_step {r : Bool} {l : List Int} {i : Nat} {x : Int} (hx : l[i]? = some x) (hl : i < 9223372036854775807) : gd (bo3 r (decide (0 < (i : Int))) false) (getO l (w64 ((i : Int) - 1))) = some (bif bo3 r (decide (0 < (i : Int))) false then l.getD (i - 1) 0 else 0) := by
  refine gd_some _ fun h => ?_
  have h0 := of_decide_eq_true (bo_r h)
  have hi := at_lt hx
  rw [w64_id (by omega), show ((i : Int) - 1) = ((i - 1 : Nat) : Int) by omega, getO_nat, List.getD_eq_getElem?_getD, List.getElem?_eq_getElem (by omega)]
  rfl

theorem spec_QueryOk_eq (s : Schema) (q : Query) (h : Schema_b s) (hq : Query_b q) : spec_QueryOk.f s q = some (queryB s q) := by
  have hcl : s.Cols.length ≤ 9223372036854775807 := h
  obtain ⟨hw, hs⟩ := hq
  have hwl : q.Where.length ≤ 9223372036854775807 := hw
  have hsl : q.Show.length ≤ 9223372036854775807 := hs
  unfold spec_QueryOk.f queryB
  rw [spec_SchemaOk_eq _ h, Option.bind_some]
  cases schemaB s with
  | false => rfl
  | true =>
    rw [show bo3 (bo3 true false true) false true = true from rfl, gd_true, lenI_eq, w64_id (by omega), spec_l1In_eq, Option.bind_some]
    by_cases d : 0 ≤ q.Table ∧ q.Table ≤ (s.Cols.length : Int) - 1
    case neg => rw [decide_eq_false d]; rfl
    rw [decide_eq_true d, getO_Int d]
    generalize s.Cols.getD q.Table.toNat 0 = cols
    by_cases d3 : q.Where.length ≤ 3
    case neg =>
      rw [lenI_eq, decide_eq_true (by omega), show bo3 (bo3 (bo3 true false true) true (bo3 true false true)) true true = true from rfl, cond_true, decide_eq_false d3]
      simp
    rw [lenI_eq, decide_eq_false (by omega), show bo3 (bo3 (bo3 true false true) true (bo3 true false true)) true false = false from rfl, cond_false, decide_eq_true d3, Option.bind_some]
    simp only [joinK, Bool.true_and]
    refine (loop_all (f := spec_QueryOk.l0 q cols _) (l := q.Where) (fun _ c => condB cols c) (some false) (some (showB cols q.Show && (decide (0 ≤ q.Order ∧ q.Order ≤ cols) && (!q.Down || decide (0 < q.Order)) && decide (0 ≤ q.First ∧ q.First ≤ 24) && kidsB s q))) (fun k i x hx => ?_) (fun k i hi => ?_) _ 0 (by omega) (by (try simp only [lenI_eq]); omega)).trans ?_
    · have hi := at_lt hx
      rw [spec_QueryOk.l0, lenI_eq, decide_eq_true (by omega), cond_true, getO_nat, hx, Option.bind_some, spec_l1In_eq, Option.bind_some, spec_l1In_eq, spec_l1In_eq, w64_succ (by omega)]
      unfold condB
      cases decide (0 ≤ x.Col ∧ x.Col ≤ w64 (cols - 1)) <;> cases decide (1 ≤ x.Op ∧ x.Op ≤ 4) <;> cases decide (-1000000000 ≤ x.V ∧ x.V ≤ 1000000000) <;> rfl
    · rw [spec_QueryOk.l0, lenI_eq, decide_eq_false (by omega), cond_false]
      refine (loop_all (f := spec_QueryOk.l1 q cols _) (l := q.Show) (fun i x => decide (0 ≤ x ∧ x ≤ w64 (cols - 1)) && !(decide (0 < i) && decide (x ≤ q.Show.getD (i - 1) 0))) (some false) (some (decide (0 ≤ q.Order ∧ q.Order ≤ cols) && (!q.Down || decide (0 < q.Order)) && decide (0 ≤ q.First ∧ q.First ≤ 24) && kidsB s q)) (fun k i x hx => ?_) (fun k i hi => ?_) _ 0 (by omega) (by (try simp only [lenI_eq]); omega)).trans ?_
      · have hi := at_lt hx
        rw [spec_QueryOk.l1, lenI_eq, decide_eq_true (by omega), cond_true, getO_nat, hx, Option.bind_some, spec_l1In_eq, Option.bind_some, show_step hx (by omega), Option.bind_some, w64_succ (by omega)]
        rw [show decide (0 < (i : Int)) = decide (0 < i) from by simp]
        cases decide (0 ≤ x ∧ x ≤ w64 (cols - 1)) <;> cases decide (0 < i) <;> (try rfl)
        simp only [bo3_and, bo3_not, bo3_or, Bool.not_true, Bool.not_false, Bool.true_and, cond_true]
        cases decide (x ≤ q.Show.getD (i - 1) 0) <;> rfl
      · rw [spec_QueryOk.l1, lenI_eq, decide_eq_false (by omega), cond_false, spec_l1In_eq, Option.bind_some, spec_l1In_eq]
        by_cases e0 : 0 ≤ q.Order ∧ q.Order ≤ cols
        case neg => rw [decide_eq_false e0]; rfl
        rw [decide_eq_true e0, show bo3 (bo3 true false true) false true = true from rfl, gd_true, Option.bind_some]
        by_cases e1 : 0 ≤ q.First ∧ q.First ≤ 24
        case neg => rw [decide_eq_false e1]; simp [bo3]
        rw [decide_eq_true e1]
        have e2 : (bo3 (decide (q.Order = 0)) q.Down false) = !(!q.Down || decide (0 < q.Order)) := by
          cases q.Down with
          | false => cases decide (q.Order = 0) <;> rfl
          | true =>
            by_cases e3 : q.Order = 0
            · simp [e3, bo3]
            · have : 0 < q.Order := by omega
              simp [e3, bo3, this]
        rw [e2]
        cases hd : (!q.Down || decide (0 < q.Order)) with
        | false => simp [bo3]
        | true =>
          rw [show bo3 (bo3 (bo3 true false true) true (bo3 true false true)) true (!true) = false from rfl, cond_false, bo3_not]
          unfold kidsB
          cases q.Kids with
          | false => simp [bo3_and]
          | true =>
            rw [Bool.not_true, cond_false, spec_l1In_eq, Option.bind_some, if_pos rfl]
            by_cases d : 0 ≤ q.KidTable ∧ q.KidTable ≤ (s.Cols.length : Int) - 1
            · rw [decide_eq_true d, gd_true, getO_Int d, Option.bind_some, gd_true, spec_l1In_eq, Option.bind_some, bo3_and]
              simp
            · rw [decide_eq_false d, gd_false, Option.bind_some, gd_false, Option.bind_some, bo3_and]
              simp
      · unfold showB
        cases allFrom (fun i x => decide (0 ≤ x ∧ x ≤ w64 (cols - 1)) && !(decide (0 < i) && decide (x ≤ q.Show.getD (i - 1) 0))) q.Show 0 <;> rfl
    · rw [allFrom_zero]
      cases q.Where.all fun c => condB cols c <;> simp

def concP (s : Schema) (ch : List Change) (q : Query) : Bool := queryB s q && ch.any (touchesB q)
def concF (p : Query → Bool) : List Query → Int → List Int
  | [], _ => []
  | q :: l, i => if p q then i :: concF p l (i + 1) else concF p l (i + 1)
theorem concF_len {p : Query → Bool} : ∀ {l : List Query} {i : Int}, (concF p l i).length ≤ l.length
  | [], _ => Nat.le_refl _
  | q :: l, i => by
    have := concF_len (p := p) (l := l) (i := i + 1)
    unfold concF
    split <;> simp only [List.length_cons] <;> omega

theorem spec_Concerned_eq (s : Schema) (qs : List Query) (ch : List Change) (hs : Schema_b s) (hq : QueryS_b qs) (hc : ChangeS_b ch) (hz : qs.length ≤ 1048576) : spec_Concerned.f s qs ch = some (concF (concP s ch) qs 0) := by
  obtain ⟨hql, hq2⟩ := hq
  show spec_Concerned.l0 s qs ch (((lenI qs) - 0).toNat + 1) [] ((0 : Nat) : Int) = _
  have key : ∀ (k i : Nat) (acc : List Int), i ≤ qs.length → qs.length < i + k → acc.length ≤ i → spec_Concerned.l0 s qs ch k acc i = some (acc ++ concF (concP s ch) (qs.drop i) i) := by
    intro k
    induction k with
    | zero => intro i acc h h'; omega
    | succ k ih =>
      intro i acc h h' ha
      by_cases hi : i < qs.length
      · have hx : qs[i]? = some qs[i] := List.getElem?_eq_getElem hi
        have hxb := hq2 _ (List.mem_of_getElem? hx)
        rw [spec_Concerned.l0, lenI_eq, decide_eq_true (by omega), cond_true, getO_nat, hx, Option.bind_some, spec_QueryOk_eq _ _ hs hxb, Option.bind_some, spec_TouchesAny_eq _ _ hxb hc, List.drop_eq_getElem_cons hi, concF, w64_succ (by omega), show (i : Int) + 1 = ((i + 1 : Nat) : Int) from rfl]
        have e : ∀ b : Bool, gd b (some (ch.any (touchesB qs[i]))) = some (b && ch.any (touchesB qs[i])) := by intro b; cases b <;> rfl
        rw [e, Option.bind_some]
        have ep : bo3 (queryB s qs[i]) (queryB s qs[i] && ch.any (touchesB qs[i])) false = concP s ch qs[i] := by unfold concP; cases queryB s qs[i] <;> rfl
        rw [ep]
        by_cases hp : concP s ch qs[i] = true
        · rw [hp, cond_true, if_pos rfl, Option.bind_some, appO_ok (by simp only [List.length_cons, List.length_nil]; omega), Option.bind_some, ih (i + 1) _ (by omega) (by omega) (by simp; omega), List.append_assoc, List.singleton_append]
        · rw [if_neg hp, show concP s ch qs[i] = false from by simpa using hp, cond_false]
          exact ih (i + 1) acc (by omega) (by omega) (by omega)
      · rw [spec_Concerned.l0, lenI_eq, decide_eq_false (by omega), cond_false, List.drop_eq_nil_of_le (by omega), concF, List.append_nil]
  have := key (((lenI qs) - 0).toNat + 1) 0 [] (by omega) (by simp only [lenI_eq]; omega) (by simp)
  rw [List.drop_zero, List.nil_append] at this
  exact this

theorem laws_toCond_eq (a : Cond) : laws_toCond.f a = some a := rfl
theorem laws_toCondS_eq (a : List Cond) (h : sz_CondS a ≤ 1048576) : laws_toCondS.f a = some a := by
  unfold laws_toCondS.f
  unfold sz_CondS at h
  rw [lenI_eq, mkO_ok (by omega), Option.bind_some]
  refine loop_fill (f := laws_toCondS.l0 a) (l := a) some (fun k i s x y hx hy => ?_) (fun k s i hi => ?_) _ 0 _ (by omega) (by omega) (by rw [List.length_replicate]; omega) (by simp)
  · have hi := at_lt hx
    rw [laws_toCondS.l0, lenI_eq, decide_eq_true (by omega), cond_true, getO_nat, hx, Option.bind_some, laws_toCond_eq x, Option.bind_some, getO_nat, hy, Option.bind_some, Option.bind_some, setI_nat, w64_succ (by omega)]
  · rw [laws_toCondS.l0, lenI_eq, decide_eq_false (by omega), cond_false]
theorem laws_toQuery_eq (a : Query) (h : sz_Query a ≤ 1048576) : laws_toQuery.f a = some a := by
  unfold sz_Query at h
  have p_Where := sz_CondS_0 a.Where
  have p_Show := sz_IntS_0 a.Show
  unfold laws_toQuery.f
  rw [laws_toCondS_eq _ (by omega), Option.bind_some]
  rw [laws_toIntS_eq _ (by omega), Option.bind_some]
theorem laws_toQueryS_eq (a : List Query) (h : sz_QueryS a ≤ 1048576) : laws_toQueryS.f a = some a := by
  unfold laws_toQueryS.f
  unfold sz_QueryS at h
  have p := sum_nonneg sz_Query_0 a
  rw [lenI_eq, mkO_ok (by omega), Option.bind_some]
  refine loop_fill (f := laws_toQueryS.l0 a) (l := a) some (fun k i s x y hx hy => ?_) (fun k s i hi => ?_) _ 0 _ (by omega) (by omega) (by rw [List.length_replicate]; omega) (by simp)
  · have hi := at_lt hx
    rw [laws_toQueryS.l0, lenI_eq, decide_eq_true (by omega), cond_true, getO_nat, hx, Option.bind_some, laws_toQuery_eq x (by have := sum_mem sz_Query_0 (List.mem_of_getElem? hx); omega), Option.bind_some, getO_nat, hy, Option.bind_some, Option.bind_some, setI_nat, w64_succ (by omega)]
  · rw [laws_toQueryS.l0, lenI_eq, decide_eq_false (by omega), cond_false]
theorem laws_toRow_eq (a : Row) (h : sz_Row a ≤ 1048576) : laws_toRow.f a = some a := by
  unfold sz_Row at h
  have p_Cells := sz_IntS_0 a.Cells
  unfold laws_toRow.f
  rw [laws_toIntS_eq _ (by omega), Option.bind_some]
theorem laws_toChange_eq (a : Change) (h : sz_Change a ≤ 1048576) : laws_toChange.f a = some a := by
  unfold sz_Change at h
  have p_Old := sz_Row_0 a.Old
  have p_New := sz_Row_0 a.New
  unfold laws_toChange.f
  rw [laws_toRow_eq _ (by omega), Option.bind_some]
  rw [laws_toRow_eq _ (by omega), Option.bind_some]
theorem laws_toChangeS_eq (a : List Change) (h : sz_ChangeS a ≤ 1048576) : laws_toChangeS.f a = some a := by
  unfold laws_toChangeS.f
  unfold sz_ChangeS at h
  have p := sum_nonneg sz_Change_0 a
  rw [lenI_eq, mkO_ok (by omega), Option.bind_some]
  refine loop_fill (f := laws_toChangeS.l0 a) (l := a) some (fun k i s x y hx hy => ?_) (fun k s i hi => ?_) _ 0 _ (by omega) (by omega) (by rw [List.length_replicate]; omega) (by simp)
  · have hi := at_lt hx
    rw [laws_toChangeS.l0, lenI_eq, decide_eq_true (by omega), cond_true, getO_nat, hx, Option.bind_some, laws_toChange_eq x (by have := sum_mem sz_Change_0 (List.mem_of_getElem? hx); omega), Option.bind_some, getO_nat, hy, Option.bind_some, Option.bind_some, setI_nat, w64_succ (by omega)]
  · rw [laws_toChangeS.l0, lenI_eq, decide_eq_false (by omega), cond_false]
theorem impl_within_eq (x y z : Int) : impl_within.f x y z = some (decide (y ≤ x ∧ x ≤ z)) := by
  unfold impl_within.f
  rw [bo3_and, Bool.decide_and]

theorem impl_holds_eq (c : Cond) (r : Row) (h : Row_b r) : impl_holds.f c r = some (holdsB c r) := by
  have hl : r.Cells.length ≤ 9223372036854775807 := h
  unfold impl_holds.f holdsB
  rw [lenI_eq, w64_id (by omega), impl_within_eq, Option.bind_some, bo3_not]
  by_cases d : 0 ≤ c.Col ∧ c.Col ≤ (r.Cells.length : Int) - 1
  · rw [decide_eq_true d, Bool.not_true, cond_false, getO_Int d, Option.bind_some, Bool.true_and]
    simp only [cond_ite, decide_eq_true_eq, some_if, bo3_and, cmpB]
    all_goals ((repeat' split) <;> simp_all)
  · rw [decide_eq_false d, Bool.not_false, cond_true, Bool.false_and]

theorem impl_Matches_eq (q : Query) (r : Row) (hq : CondS_b q.Where) (h : Row_b r) : impl_Matches.f q r = some (matchesB q r) := by
  have hl : q.Where.length ≤ 9223372036854775807 := hq
  unfold impl_Matches.f
  refine (loop_all (f := impl_Matches.l0 q r) (l := q.Where) (fun _ c => holdsB c r) (some false) (some true) (fun k i x hx => ?_) (fun k i hi => ?_) _ 0 (by omega) (by (try simp only [lenI_eq]); omega)).trans ?_
  · have hi := at_lt hx
    rw [impl_Matches.l0, lenI_eq, decide_eq_true (by omega), cond_true, getO_nat, hx, Option.bind_some, impl_holds_eq _ _ h, Option.bind_some, bo3_not, w64_succ (by omega)]
    cases holdsB x r <;> rfl
  · rw [impl_Matches.l0, lenI_eq, decide_eq_false (by omega), cond_false]
  · rw [allFrom_zero, matchesB]
    cases q.Where.all fun c => holdsB c r <;> rfl

theorem impl_cellOf_eq (r : Row) (col : Int) (h : Row_b r) : impl_cellOf.f r col = some (cellF r col) := by
  have hl : r.Cells.length ≤ 9223372036854775807 := h
  unfold impl_cellOf.f cellF
  rw [lenI_eq, w64_id (by omega), impl_within_eq, Option.bind_some, bo3_not]
  by_cases d : 0 ≤ col ∧ col ≤ (r.Cells.length : Int) - 1
  · rw [decide_eq_true d, Bool.not_true, cond_false, getO_Int d, Option.bind_some, if_pos d]
  · rw [decide_eq_false d, Bool.not_false, cond_true, if_neg d]

theorem impl_Touches_eq (q : Query) (c : Change) (hq : Query_b q) (hc : Change_b c) : impl_Touches.f q c = some (touchesB q c) := by
  unfold impl_Touches.f touchesB
  simp only [impl_Matches_eq _ _ hq.1 hc.1, impl_Matches_eq _ _ hq.1 hc.2, impl_cellOf_eq _ _ hc.1, impl_cellOf_eq _ _ hc.2, gd_of, Option.bind_some]
  generalize cellF c.Old q.KidCol = x
  generalize cellF c.New q.KidCol = y
  generalize matchesB q c.Old = m
  generalize matchesB q c.New = n
  rw [show decide (c.Table ≠ q.KidTable) = !decide (c.Table = q.KidTable) from by simp]
  cases decide (c.Table = q.Table) <;> cases m <;> cases n <;> cases q.Kids <;> cases decide (c.Table = q.KidTable) <;> cases c.Had <;> cases c.Has <;> first | rfl | (simp [bo3])

theorem impl_TouchesAny_eq (q : Query) (l : List Change) (hq : Query_b q) (hl : ChangeS_b l) : impl_TouchesAny.f q l = some (l.any (touchesB q)) := by
  obtain ⟨h1, h2⟩ := hl
  unfold impl_TouchesAny.f
  refine (loop_all (f := impl_TouchesAny.l0 q l) (l := l) (fun _ c => !touchesB q c) (some true) (some false) (fun k i x hx => ?_) (fun k i hi => ?_) _ 0 (by omega) (by (try simp only [lenI_eq]); omega)).trans ?_
  · have hi := at_lt hx
    rw [impl_TouchesAny.l0, lenI_eq, decide_eq_true (by omega), cond_true, getO_nat, hx, Option.bind_some, impl_Touches_eq _ _ hq (h2 x (List.mem_of_getElem? hx)), Option.bind_some, w64_succ (by omega)]
    cases touchesB q x <;> rfl
  · rw [impl_TouchesAny.l0, lenI_eq, decide_eq_false (by omega), cond_false]
  · rw [allFrom_zero, show (l.all fun c => !touchesB q c) = !(l.any (touchesB q)) from by rw [List.not_any_eq_all_not]]
    cases l.any (touchesB q) <;> rfl

theorem impl_SchemaOk_eq (s : Schema) (h : Schema_b s) : impl_SchemaOk.f s = some (schemaB s) := by
  have hl : s.Cols.length ≤ 9223372036854775807 := h
  unfold impl_SchemaOk.f joinK
  refine (loop_all (f := impl_SchemaOk.l0 s _) (l := s.Cols) (fun _ n => decide (1 ≤ n ∧ n ≤ 4)) (some false) (some (decide (1 ≤ (s.Cols.length : Int) ∧ (s.Cols.length : Int) ≤ 3))) (fun k i x hx => ?_) (fun k i hi => ?_) _ 0 (by omega) (by (try simp only [lenI_eq]); omega)).trans ?_
  · have hi := at_lt hx
    rw [impl_SchemaOk.l0, lenI_eq, decide_eq_true (by omega), cond_true, getO_nat, hx, Option.bind_some, impl_within_eq, Option.bind_some, bo3_not, w64_succ (by omega)]
    cases decide (1 ≤ x ∧ x ≤ 4) <;> rfl
  · rw [impl_SchemaOk.l0, lenI_eq, decide_eq_false (by omega), cond_false, impl_within_eq, Option.bind_some]
  · rw [allFrom_zero, schemaB]
    cases s.Cols.all fun n => decide (1 ≤ n ∧ n ≤ 4) <;> rfl

theorem impl_hasTable_eq (s : Schema) (t : Int) (h : Schema_b s) : impl_hasTable.f s t = some (decide (0 ≤ t ∧ t ≤ (s.Cols.length : Int) - 1)) := by
  have hl : s.Cols.length ≤ 9223372036854775807 := h
  unfold impl_hasTable.f
  rw [lenI_eq, w64_id (by omega), impl_within_eq, Option.bind_some]

theorem impl_isNum_eq (n : Int) : impl_isNum.f n = some (decide (-1000000000 ≤ n ∧ n ≤ 1000000000)) := by
  unfold impl_isNum.f
  rw [impl_within_eq, Option.bind_some]

theorem impl_kidsFit_eq (s : Schema) (q : Query) (h : Schema_b s) : impl_kidsFit.f s q = some (kidsB s q) := by
  unfold impl_kidsFit.f kidsB
  rw [bo3_not]
  cases q.Kids with
  | false => simp [bo3_and]
  | true =>
    rw [Bool.not_true, cond_false, impl_hasTable_eq _ _ h, Option.bind_some, if_pos rfl]
    by_cases d : 0 ≤ q.KidTable ∧ q.KidTable ≤ (s.Cols.length : Int) - 1
    · rw [decide_eq_true d, gd_true, getO_Int d, Option.bind_some, gd_true, impl_within_eq, Option.bind_some, bo3_and]
    · rw [decide_eq_false d, gd_false, Option.bind_some, gd_false, Option.bind_some, bo3_and]
      rfl

theorem impl_QueryOk_eq (s : Schema) (q : Query) (h : Schema_b s) (hq : Query_b q) : impl_QueryOk.f s q = some (queryB s q) := by
  obtain ⟨hw, hs⟩ := hq
  have hwl : q.Where.length ≤ 9223372036854775807 := hw
  have hsl : q.Show.length ≤ 9223372036854775807 := hs
  unfold impl_QueryOk.f queryB
  rw [impl_SchemaOk_eq _ h, Option.bind_some]
  cases schemaB s with
  | false => rfl
  | true =>
    rw [show bo3 (bo3 true false true) false true = true from rfl, gd_true, impl_hasTable_eq _ _ h, Option.bind_some]
    by_cases d : 0 ≤ q.Table ∧ q.Table ≤ (s.Cols.length : Int) - 1
    case neg => rw [decide_eq_false d]; rfl
    rw [decide_eq_true d, show bo3 (bo3 true false true) true (bo3 true false true) = false from rfl, cond_false, getO_Int d, Option.bind_some]
    generalize s.Cols.getD q.Table.toNat 0 = cols
    simp only [joinK, Bool.true_and]
    refine (loop_all (f := impl_QueryOk.l0 q cols _) (l := q.Where) (fun _ c => condB cols c) (some false) (some (showB cols q.Show && (decide (q.Where.length ≤ 3) && decide (0 ≤ q.Order ∧ q.Order ≤ cols) && (!q.Down || decide (0 < q.Order)) && decide (0 ≤ q.First ∧ q.First ≤ 24) && kidsB s q))) (fun k i x hx => ?_) (fun k i hi => ?_) _ 0 (by omega) (by (try simp only [lenI_eq]); omega)).trans ?_
    · have hi := at_lt hx
      rw [impl_QueryOk.l0, lenI_eq, decide_eq_true (by omega), cond_true, getO_nat, hx, Option.bind_some, impl_within_eq, Option.bind_some, impl_within_eq, impl_isNum_eq, w64_succ (by omega)]
      unfold condB
      cases decide (0 ≤ x.Col ∧ x.Col ≤ w64 (cols - 1)) <;> cases decide (1 ≤ x.Op ∧ x.Op ≤ 4) <;> cases decide (-1000000000 ≤ x.V ∧ x.V ≤ 1000000000) <;> rfl
    · rw [impl_QueryOk.l0, lenI_eq, decide_eq_false (by omega), cond_false]
      refine (loop_all (f := impl_QueryOk.l1 q cols _) (l := q.Show) (fun i x => decide (0 ≤ x ∧ x ≤ w64 (cols - 1)) && !(decide (0 < i) && decide (x ≤ q.Show.getD (i - 1) 0))) (some false) (some (decide (q.Where.length ≤ 3) && decide (0 ≤ q.Order ∧ q.Order ≤ cols) && (!q.Down || decide (0 < q.Order)) && decide (0 ≤ q.First ∧ q.First ≤ 24) && kidsB s q)) (fun k i x hx => ?_) (fun k i hi => ?_) _ 0 (by omega) (by (try simp only [lenI_eq]); omega)).trans ?_
      · have hi := at_lt hx
        rw [impl_QueryOk.l1, lenI_eq, decide_eq_true (by omega), cond_true, getO_nat, hx, Option.bind_some, impl_within_eq, Option.bind_some, show_step hx (by omega), Option.bind_some, w64_succ (by omega)]
        rw [show decide (0 < (i : Int)) = decide (0 < i) from by simp]
        cases decide (0 ≤ x ∧ x ≤ w64 (cols - 1)) <;> cases decide (0 < i) <;> (try rfl)
        simp only [bo3_and, bo3_not, bo3_or, Bool.not_true, Bool.not_false, Bool.true_and, cond_true]
        cases decide (x ≤ q.Show.getD (i - 1) 0) <;> rfl
      · rw [impl_QueryOk.l1, lenI_eq, decide_eq_false (by omega), cond_false, impl_within_eq, Option.bind_some, impl_within_eq, impl_kidsFit_eq _ _ h]
        rw [show decide ((q.Where.length : Int) ≤ 3) = decide (q.Where.length ≤ 3) from by simp; omega]
        cases decide (q.Where.length ≤ 3) <;> cases decide (0 ≤ q.Order ∧ q.Order ≤ cols) <;> cases q.Down <;> cases decide (0 < q.Order) <;> cases decide (0 ≤ q.First ∧ q.First ≤ 24) <;> cases kidsB s q <;> rfl
      · unfold showB
        cases allFrom (fun i x => decide (0 ≤ x ∧ x ≤ w64 (cols - 1)) && !(decide (0 < i) && decide (x ≤ q.Show.getD (i - 1) 0))) q.Show 0 <;> rfl
    · rw [allFrom_zero]
      cases q.Where.all fun c => condB cols c <;> simp

theorem impl_Concerned_eq (s : Schema) (qs : List Query) (ch : List Change) (hs : Schema_b s) (hq : QueryS_b qs) (hc : ChangeS_b ch) (hz : qs.length ≤ 1048576) : impl_Concerned.f s qs ch = some (concF (concP s ch) qs 0) := by
  obtain ⟨hql, hq2⟩ := hq
  show impl_Concerned.l0 s qs ch (((lenI qs) - 0).toNat + 1) [] ((0 : Nat) : Int) = _
  have key : ∀ (k i : Nat) (acc : List Int), i ≤ qs.length → qs.length < i + k → acc.length ≤ i → impl_Concerned.l0 s qs ch k acc i = some (acc ++ concF (concP s ch) (qs.drop i) i) := by
    intro k
    induction k with
    | zero => intro i acc h h'; omega
    | succ k ih =>
      intro i acc h h' ha
      by_cases hi : i < qs.length
      · have hx : qs[i]? = some qs[i] := List.getElem?_eq_getElem hi
        have hxb := hq2 _ (List.mem_of_getElem? hx)
        rw [impl_Concerned.l0, lenI_eq, decide_eq_true (by omega), cond_true, getO_nat, hx, Option.bind_some, impl_QueryOk_eq _ _ hs hxb, Option.bind_some, impl_TouchesAny_eq _ _ hxb hc, List.drop_eq_getElem_cons hi, concF, w64_succ (by omega), show (i : Int) + 1 = ((i + 1 : Nat) : Int) from rfl]
        have e : ∀ b : Bool, gd b (some (ch.any (touchesB qs[i]))) = some (b && ch.any (touchesB qs[i])) := by intro b; cases b <;> rfl
        rw [e, Option.bind_some]
        have ep : bo3 (queryB s qs[i]) (queryB s qs[i] && ch.any (touchesB qs[i])) false = concP s ch qs[i] := by unfold concP; cases queryB s qs[i] <;> rfl
        rw [ep]
        by_cases hp : concP s ch qs[i] = true
        · rw [hp, cond_true, if_pos rfl, Option.bind_some, appO_ok (by simp only [List.length_cons, List.length_nil]; omega), Option.bind_some, ih (i + 1) _ (by omega) (by omega) (by simp; omega), List.append_assoc, List.singleton_append]
        · rw [if_neg hp, show concP s ch qs[i] = false from by simpa using hp, cond_false]
          exact ih (i + 1) acc (by omega) (by omega) (by omega)
      · rw [impl_Concerned.l0, lenI_eq, decide_eq_false (by omega), cond_false, List.drop_eq_nil_of_le (by omega), concF, List.append_nil]
  have := key (((lenI qs) - 0).toNat + 1) 0 [] (by omega) (by simp only [lenI_eq]; omega) (by simp)
  rw [List.drop_zero, List.nil_append] at this
  exact this

theorem laws_eqCond_eq (a b : Cond) : laws_eqCond.f a b = some (decide (a = b)) := by
  unfold laws_eqCond.f
  by_cases c_Col : a.Col = b.Col
  case neg => rw [decide_eq_true c_Col, cond_true, decide_eq_false (fun e => c_Col (by rw [e]))]
  rw [decide_eq_false (fun e => e c_Col), cond_false]
  by_cases c_Op : a.Op = b.Op
  case neg => rw [decide_eq_true c_Op, cond_true, decide_eq_false (fun e => c_Op (by rw [e]))]
  rw [decide_eq_false (fun e => e c_Op), cond_false]
  by_cases c_V : a.V = b.V
  case neg => rw [decide_eq_true c_V, cond_true, decide_eq_false (fun e => c_V (by rw [e]))]
  rw [decide_eq_false (fun e => e c_V), cond_false]
  rw [decide_eq_true (by cases a; cases b; simp_all)]
theorem laws_eqCondS_eq (a b : List Cond) (ha : CondS_b a) (hb : CondS_b b) : laws_eqCondS.f a b = some (decide (a = b)) := by
  unfold CondS_b at ha hb
  unfold laws_eqCondS.f
  by_cases hl : a.length = b.length
  · rw [decide_eq_false (by simp only [lenI_eq]; omega), cond_false]
    refine (loop_eq (f := laws_eqCondS.l0 a b) hl (some false) (some true) (fun k i x y hx hy => ?_) (fun k i hi => ?_) _ (by simp only [lenI_eq]; omega)).trans ?_
    · have hi := at_lt hx
      rw [laws_eqCondS.l0, lenI_eq, decide_eq_true (by omega), cond_true, getO_nat, hx, Option.bind_some, getO_nat, hy, Option.bind_some, laws_eqCond_eq x y, Option.bind_some, bo3_not, w64_succ (by omega)]
      by_cases c : x = y
      · simp [c]
      · simp [c]
    · rw [laws_eqCondS.l0, lenI_eq, decide_eq_false (by omega), cond_false]
    · cases decide (a = b) <;> rfl
  · rw [decide_eq_true (by simp only [lenI_eq]; omega), cond_true, decide_eq_false (fun e => hl (by rw [e]))]
theorem laws_eqQuery_eq (a b : Query) (ha : Query_b a) (hb : Query_b b) : laws_eqQuery.f a b = some (decide (a = b)) := by
  obtain ⟨ha_Where, ha_Show⟩ := ha
  obtain ⟨hb_Where, hb_Show⟩ := hb
  unfold laws_eqQuery.f
  by_cases c_Table : a.Table = b.Table
  case neg => rw [decide_eq_true c_Table, cond_true, decide_eq_false (fun e => c_Table (by rw [e]))]
  rw [decide_eq_false (fun e => e c_Table), cond_false]
  rw [laws_eqCondS_eq _ _ ha_Where hb_Where, Option.bind_some]
  by_cases c_Where : a.Where = b.Where
  case neg => rw [decide_eq_false c_Where, show bo3 false false true = true from rfl, cond_true, decide_eq_false (fun e => c_Where (by rw [e]))]
  rw [decide_eq_true c_Where, show bo3 true false true = false from rfl, cond_false]
  by_cases c_Order : a.Order = b.Order
  case neg => rw [decide_eq_true c_Order, cond_true, decide_eq_false (fun e => c_Order (by rw [e]))]
  rw [decide_eq_false (fun e => e c_Order), cond_false]
  by_cases c_Down : a.Down = b.Down
  case neg => rw [show bo3 a.Down (bo3 b.Down false true) b.Down = true from by revert c_Down; cases a.Down <;> cases b.Down <;> simp [bo3], cond_true, decide_eq_false (fun e => c_Down (by rw [e]))]
  rw [show bo3 a.Down (bo3 b.Down false true) b.Down = false from by rw [c_Down]; cases b.Down <;> rfl, cond_false]
  by_cases c_First : a.First = b.First
  case neg => rw [decide_eq_true c_First, cond_true, decide_eq_false (fun e => c_First (by rw [e]))]
  rw [decide_eq_false (fun e => e c_First), cond_false]
  rw [laws_eqIntS_eq _ _ ha_Show hb_Show, Option.bind_some]
  by_cases c_Show : a.Show = b.Show
  case neg => rw [decide_eq_false c_Show, show bo3 false false true = true from rfl, cond_true, decide_eq_false (fun e => c_Show (by rw [e]))]
  rw [decide_eq_true c_Show, show bo3 true false true = false from rfl, cond_false]
  by_cases c_Kids : a.Kids = b.Kids
  case neg => rw [show bo3 a.Kids (bo3 b.Kids false true) b.Kids = true from by revert c_Kids; cases a.Kids <;> cases b.Kids <;> simp [bo3], cond_true, decide_eq_false (fun e => c_Kids (by rw [e]))]
  rw [show bo3 a.Kids (bo3 b.Kids false true) b.Kids = false from by rw [c_Kids]; cases b.Kids <;> rfl, cond_false]
  by_cases c_KidTable : a.KidTable = b.KidTable
  case neg => rw [decide_eq_true c_KidTable, cond_true, decide_eq_false (fun e => c_KidTable (by rw [e]))]
  rw [decide_eq_false (fun e => e c_KidTable), cond_false]
  by_cases c_KidCol : a.KidCol = b.KidCol
  case neg => rw [decide_eq_true c_KidCol, cond_true, decide_eq_false (fun e => c_KidCol (by rw [e]))]
  rw [decide_eq_false (fun e => e c_KidCol), cond_false]
  rw [decide_eq_true (by cases a; cases b; simp_all)]
theorem laws_eqQueryS_eq (a b : List Query) (ha : QueryS_b a) (hb : QueryS_b b) : laws_eqQueryS.f a b = some (decide (a = b)) := by
  obtain ⟨ha, ha2⟩ := ha
  obtain ⟨hb, hb2⟩ := hb
  unfold laws_eqQueryS.f
  by_cases hl : a.length = b.length
  · rw [decide_eq_false (by simp only [lenI_eq]; omega), cond_false]
    refine (loop_eq (f := laws_eqQueryS.l0 a b) hl (some false) (some true) (fun k i x y hx hy => ?_) (fun k i hi => ?_) _ (by simp only [lenI_eq]; omega)).trans ?_
    · have hi := at_lt hx
      rw [laws_eqQueryS.l0, lenI_eq, decide_eq_true (by omega), cond_true, getO_nat, hx, Option.bind_some, getO_nat, hy, Option.bind_some, laws_eqQuery_eq x y (ha2 x (List.mem_of_getElem? hx)) (hb2 y (List.mem_of_getElem? hy)), Option.bind_some, bo3_not, w64_succ (by omega)]
      by_cases c : x = y
      · simp [c]
      · simp [c]
    · rw [laws_eqQueryS.l0, lenI_eq, decide_eq_false (by omega), cond_false]
    · cases decide (a = b) <;> rfl
  · rw [decide_eq_true (by simp only [lenI_eq]; omega), cond_true, decide_eq_false (fun e => hl (by rw [e]))]
theorem laws_eqRow_eq (a b : Row) (ha : Row_b a) (hb : Row_b b) : laws_eqRow.f a b = some (decide (a = b)) := by
  have ha_Cells := ha
  have hb_Cells := hb
  unfold laws_eqRow.f
  by_cases c_Id : a.Id = b.Id
  case neg => rw [decide_eq_true c_Id, cond_true, decide_eq_false (fun e => c_Id (by rw [e]))]
  rw [decide_eq_false (fun e => e c_Id), cond_false]
  rw [laws_eqIntS_eq _ _ ha_Cells hb_Cells, Option.bind_some]
  by_cases c_Cells : a.Cells = b.Cells
  case neg => rw [decide_eq_false c_Cells, show bo3 false false true = true from rfl, cond_true, decide_eq_false (fun e => c_Cells (by rw [e]))]
  rw [decide_eq_true c_Cells, show bo3 true false true = false from rfl, cond_false]
  rw [decide_eq_true (by cases a; cases b; simp_all)]
theorem laws_eqChange_eq (a b : Change) (ha : Change_b a) (hb : Change_b b) : laws_eqChange.f a b = some (decide (a = b)) := by
  obtain ⟨ha_Old, ha_New⟩ := ha
  obtain ⟨hb_Old, hb_New⟩ := hb
  unfold laws_eqChange.f
  by_cases c_Table : a.Table = b.Table
  case neg => rw [decide_eq_true c_Table, cond_true, decide_eq_false (fun e => c_Table (by rw [e]))]
  rw [decide_eq_false (fun e => e c_Table), cond_false]
  by_cases c_Had : a.Had = b.Had
  case neg => rw [show bo3 a.Had (bo3 b.Had false true) b.Had = true from by revert c_Had; cases a.Had <;> cases b.Had <;> simp [bo3], cond_true, decide_eq_false (fun e => c_Had (by rw [e]))]
  rw [show bo3 a.Had (bo3 b.Had false true) b.Had = false from by rw [c_Had]; cases b.Had <;> rfl, cond_false]
  by_cases c_Has : a.Has = b.Has
  case neg => rw [show bo3 a.Has (bo3 b.Has false true) b.Has = true from by revert c_Has; cases a.Has <;> cases b.Has <;> simp [bo3], cond_true, decide_eq_false (fun e => c_Has (by rw [e]))]
  rw [show bo3 a.Has (bo3 b.Has false true) b.Has = false from by rw [c_Has]; cases b.Has <;> rfl, cond_false]
  rw [laws_eqRow_eq _ _ ha_Old hb_Old, Option.bind_some]
  by_cases c_Old : a.Old = b.Old
  case neg => rw [decide_eq_false c_Old, show bo3 false false true = true from rfl, cond_true, decide_eq_false (fun e => c_Old (by rw [e]))]
  rw [decide_eq_true c_Old, show bo3 true false true = false from rfl, cond_false]
  rw [laws_eqRow_eq _ _ ha_New hb_New, Option.bind_some]
  by_cases c_New : a.New = b.New
  case neg => rw [decide_eq_false c_New, show bo3 false false true = true from rfl, cond_true, decide_eq_false (fun e => c_New (by rw [e]))]
  rw [decide_eq_true c_New, show bo3 true false true = false from rfl, cond_false]
  rw [decide_eq_true (by cases a; cases b; simp_all)]
theorem laws_eqChangeS_eq (a b : List Change) (ha : ChangeS_b a) (hb : ChangeS_b b) : laws_eqChangeS.f a b = some (decide (a = b)) := by
  obtain ⟨ha, ha2⟩ := ha
  obtain ⟨hb, hb2⟩ := hb
  unfold laws_eqChangeS.f
  by_cases hl : a.length = b.length
  · rw [decide_eq_false (by simp only [lenI_eq]; omega), cond_false]
    refine (loop_eq (f := laws_eqChangeS.l0 a b) hl (some false) (some true) (fun k i x y hx hy => ?_) (fun k i hi => ?_) _ (by simp only [lenI_eq]; omega)).trans ?_
    · have hi := at_lt hx
      rw [laws_eqChangeS.l0, lenI_eq, decide_eq_true (by omega), cond_true, getO_nat, hx, Option.bind_some, getO_nat, hy, Option.bind_some, laws_eqChange_eq x y (ha2 x (List.mem_of_getElem? hx)) (hb2 y (List.mem_of_getElem? hy)), Option.bind_some, bo3_not, w64_succ (by omega)]
      by_cases c : x = y
      · simp [c]
      · simp [c]
    · rw [laws_eqChangeS.l0, lenI_eq, decide_eq_false (by omega), cond_false]
    · cases decide (a = b) <;> rfl
  · rw [decide_eq_true (by simp only [lenI_eq]; omega), cond_true, decide_eq_false (fun e => hl (by rw [e]))]
def Hd_Int (x : Int) (q q' : Int) : Prop := x = q ∧ q' = q + 1
theorem Hd_Int_mono (x : Int) (q q' : Int) (h : Hd_Int x q q') : q ≤ q' := by
  obtain ⟨e0, rfl⟩ := h
  omega
theorem mark_IntS (l : List Int) (q : Int) (hq : 0 ≤ q) (hB : q + 16 * sz_IntS l ≤ 4611686018427387904) : ∃ l' q', laws_markIntS.f l q = some (l', q') ∧ laws_heldIntS.f l' q = some q' ∧ q ≤ q' ∧ q' ≤ q + 16 * sz_IntS l := by
  unfold sz_IntS at hB
  have hz : (l.length : Int) ≤ 288230376151711744 := by omega
  have step : ∀ k (i : Nat) (s : List Int) (x : Int) (q : Int), s.length = l.length → s[i]? = some x → 0 ≤ q → q + (fun _ => 16 * (1 + 0)) x ≤ 4611686018427387904 → ∃ x' q', laws_markIntS.l0 (k + 1) s q i = laws_markIntS.l0 k (s.set i x') q' ((i + 1 : Nat) : Int) ∧ q ≤ q' ∧ q' ≤ q + (fun _ => 16 * (1 + 0)) x ∧ Hd_Int x' q q' := by
    intro k i s x q hn hx hq hB
    have hi := at_lt hx
    have g0 : getO s i = some x := by rw [getO_nat, hx]
    have hB : q + 16 * (1 + 0) ≤ 4611686018427387904 := hB
    have w0 : w64 (q + 1) = q + 1 := w64_id (by omega)
    refine ⟨(q), q + 1, ?_, by omega, ?_, ⟨rfl, rfl⟩⟩
    · rw [laws_markIntS.l0, lenI_eq, decide_eq_true (by omega), cond_true]
      simp only [g0, get_set g0, setI_setI, Option.bind_some, w0]
      rw [w64_succ (by omega), setI_nat]
    · show _ ≤ q + 16 * (1 + 0); omega
  have last : ∀ k (s : List Int) (q : Int) (i : Nat), i = s.length → laws_markIntS.l0 (k + 1) s q i = some (s, q) := by
    intro k s q i hi
    rw [laws_markIntS.l0, lenI_eq, decide_eq_false (by omega), cond_false]
  obtain ⟨l', q', m, hl, _, lo, hi, hd⟩ := loop_mark (fm := laws_markIntS.l0) l.length 4611686018427387904 (fun _ => 16 * (1 + 0)) Hd_Int (fun _ => by decide) step last (((lenI l) - 0).toNat + 1) 0 l q rfl (by omega) (by simp only [lenI_eq]; omega) hq (by rw [List.drop_zero, sum_0]; omega)
  refine ⟨l', q', m, ?_, lo, ?_⟩
  · unfold laws_heldIntS.f
    refine loop_held (fh := laws_heldIntS.l0 l') (l := l') Hd_Int Hd_Int_mono (fun k i x q q' hx hd hq hB => ?_) (fun k q i hi => ?_) _ 0 q q' (by omega) (by simp only [lenI_eq]; omega) hq (by rw [List.drop_zero, sum_0] at hi; omega) (by rw [List.drop_zero] at hd; exact hd)
    · have hi := at_lt hx
      obtain ⟨e0, rfl⟩ := hd
      have w0 : w64 (q + 1) = q + 1 := w64_id (by omega)
      rw [laws_heldIntS.l0, lenI_eq, decide_eq_true (by omega), cond_true, getO_nat, hx, Option.bind_some]
      simp only [e0, w0, ne_eq, not_true_eq_false, decide_false, cond_false, Option.bind_some, bo3_self]
      rw [w64_succ (by omega)]
    · rw [laws_heldIntS.l0, lenI_eq, decide_eq_false (by omega), cond_false]
  · rw [List.drop_zero, sum_0] at hi; unfold sz_IntS; omega
theorem mark_Schema (x : Schema) (q : Int) (hq : 0 ≤ q) (hB : q + 16 * sz_Schema x ≤ 4611686018427387904) : ∃ s0 q', laws_markSchema.f x q = some ((Schema.mk s0), q') ∧ True ∧ q ≤ q' ∧ q' ≤ q + 16 * sz_Schema x := by
  unfold sz_Schema at hB ⊢
  have p_Cols := sz_IntS_0 x.Cols
  obtain ⟨s0, q0, m0, d0, a0, b0⟩ := mark_IntS x.Cols q (by omega) (by omega)
  have n0 : ¬ q0 < 0 := by omega
  refine ⟨s0, q0, ?_, ?_, by omega, by omega⟩
  · unfold laws_markSchema.f; simp only [m0, Option.bind_some]
  · trivial
def Hd_Cond (x : Cond) (q q' : Int) : Prop := x.Col = q ∧ x.Op = q + 1 ∧ x.V = q + 1 + 1 ∧ q' = q + 1 + 1 + 1
theorem Hd_Cond_mono (x : Cond) (q q' : Int) (h : Hd_Cond x q q') : q ≤ q' := by
  obtain ⟨e0, e1, e2, rfl⟩ := h
  omega
theorem mark_CondS (l : List Cond) (q : Int) (hq : 0 ≤ q) (hB : q + 16 * sz_CondS l ≤ 4611686018427387904) : ∃ l' q', laws_markCondS.f l q = some (l', q') ∧ True ∧ q ≤ q' ∧ q' ≤ q + 16 * sz_CondS l := by
  unfold sz_CondS at hB
  have hz : (l.length : Int) ≤ 288230376151711744 := by omega
  have step : ∀ k (i : Nat) (s : List Cond) (x : Cond) (q : Int), s.length = l.length → s[i]? = some x → 0 ≤ q → q + (fun _ => 16 * (1 + 0)) x ≤ 4611686018427387904 → ∃ x' q', laws_markCondS.l0 (k + 1) s q i = laws_markCondS.l0 k (s.set i x') q' ((i + 1 : Nat) : Int) ∧ q ≤ q' ∧ q' ≤ q + (fun _ => 16 * (1 + 0)) x ∧ Hd_Cond x' q q' := by
    intro k i s x q hn hx hq hB
    have hi := at_lt hx
    have g0 : getO s i = some x := by rw [getO_nat, hx]
    have hB : q + 16 * (1 + 0) ≤ 4611686018427387904 := hB
    have w0 : w64 (q + 1) = q + 1 := w64_id (by omega)
    have w1 : w64 (q + 1 + 1) = q + 1 + 1 := w64_id (by omega)
    have w2 : w64 (q + 1 + 1 + 1) = q + 1 + 1 + 1 := w64_id (by omega)
    refine ⟨(Cond.mk (q) (q + 1) (q + 1 + 1)), q + 1 + 1 + 1, ?_, by omega, ?_, ⟨rfl, rfl, rfl, rfl⟩⟩
    · rw [laws_markCondS.l0, lenI_eq, decide_eq_true (by omega), cond_true]
      simp only [g0, get_set g0, setI_setI, Option.bind_some, w0, w1, w2]
      rw [w64_succ (by omega), setI_nat]
    · show _ ≤ q + 16 * (1 + 0); omega
  have last : ∀ k (s : List Cond) (q : Int) (i : Nat), i = s.length → laws_markCondS.l0 (k + 1) s q i = some (s, q) := by
    intro k s q i hi
    rw [laws_markCondS.l0, lenI_eq, decide_eq_false (by omega), cond_false]
  obtain ⟨l', q', m, hl, _, lo, hi, hd⟩ := loop_mark (fm := laws_markCondS.l0) l.length 4611686018427387904 (fun _ => 16 * (1 + 0)) Hd_Cond (fun _ => by decide) step last (((lenI l) - 0).toNat + 1) 0 l q rfl (by omega) (by simp only [lenI_eq]; omega) hq (by rw [List.drop_zero, sum_0]; omega)
  refine ⟨l', q', m, ?_, lo, ?_⟩
  · trivial
  · rw [List.drop_zero, sum_0] at hi; unfold sz_CondS; omega
def Hd_Query (x : Query) (q q' : Int) : Prop := ∃ q1 q2, x.Table = q ∧ True ∧ q + 1 ≤ q1 ∧ x.Order = q1 ∧ x.Down = decide (Int.tmod (q1 + 1) 3 = 0) ∧ x.First = q1 + 1 + 1 ∧ laws_heldIntS.f x.Show (q1 + 1 + 1 + 1) = some q2 ∧ q1 + 1 + 1 + 1 ≤ q2 ∧ x.Kids = decide (Int.tmod (q2) 3 = 0) ∧ x.KidTable = q2 + 1 ∧ x.KidCol = q2 + 1 + 1 ∧ q' = q2 + 1 + 1 + 1
theorem Hd_Query_mono (x : Query) (q q' : Int) (h : Hd_Query x q q') : q ≤ q' := by
  obtain ⟨q1, q2, e0, d1, l1, e2, e3, e4, d5, l5, e6, e7, e8, rfl⟩ := h
  omega
theorem mark_QueryS (l : List Query) (q : Int) (hq : 0 ≤ q) (hB : q + 16 * sz_QueryS l ≤ 4611686018427387904) : ∃ l' q', laws_markQueryS.f l q = some (l', q') ∧ True ∧ q ≤ q' ∧ q' ≤ q + 16 * sz_QueryS l := by
  unfold sz_QueryS at hB
  have p0 := sum_nonneg sz_Query_0 l
  have step : ∀ k (i : Nat) (s : List Query) (x : Query) (q : Int), s.length = l.length → s[i]? = some x → 0 ≤ q → q + (fun x => 16 * (1 + sz_Query x)) x ≤ 4611686018427387904 → ∃ x' q', laws_markQueryS.l0 (k + 1) s q i = laws_markQueryS.l0 k (s.set i x') q' ((i + 1 : Nat) : Int) ∧ q ≤ q' ∧ q' ≤ q + (fun x => 16 * (1 + sz_Query x)) x ∧ Hd_Query x' q q' := by
    intro k i s x q hn hx hq hB
    have hi := at_lt hx
    have g0 : getO s i = some x := by rw [getO_nat, hx]
    have hB : q + 16 * (1 + sz_Query x) ≤ 4611686018427387904 := hB
    have hzx : sz_Query x ≤ 288230376151711744 := by omega
    unfold sz_Query at hB
    have p_Where := sz_CondS_0 x.Where
    have p_Show := sz_IntS_0 x.Show
    obtain ⟨c1, q1, m1, d1, a1, b1⟩ := mark_CondS x.Where (q + 1) (by omega) (by omega)
    obtain ⟨c5, q2, m5, d5, a5, b5⟩ := mark_IntS x.Show (q1 + 1 + 1 + 1) (by omega) (by omega)
    have w0 : w64 (q + 1) = q + 1 := w64_id (by omega)
    have w2 : w64 (q1 + 1) = q1 + 1 := w64_id (by omega)
    have w3 : w64 (q1 + 1 + 1) = q1 + 1 + 1 := w64_id (by omega)
    have w4 : w64 (q1 + 1 + 1 + 1) = q1 + 1 + 1 + 1 := w64_id (by omega)
    have w6 : w64 (q2 + 1) = q2 + 1 := w64_id (by omega)
    have w7 : w64 (q2 + 1 + 1) = q2 + 1 + 1 := w64_id (by omega)
    have w8 : w64 (q2 + 1 + 1 + 1) = q2 + 1 + 1 + 1 := w64_id (by omega)
    refine ⟨(Query.mk (q) (c1) (q1) ((decide (Int.tmod (q1 + 1) 3 = 0))) (q1 + 1 + 1) (c5) ((decide (Int.tmod (q2) 3 = 0))) (q2 + 1) (q2 + 1 + 1)), q2 + 1 + 1 + 1, ?_, by omega, ?_, ⟨q1, q2, rfl, d1, a1, rfl, rfl, rfl, d5, a5, rfl, rfl, rfl, rfl⟩⟩
    · rw [laws_markQueryS.l0, lenI_eq, decide_eq_true (by omega), cond_true]
      simp only [g0, get_set g0, setI_setI, Option.bind_some, m1, m5, w0, w2, w3, w4, w6, w7, w8]
      rw [w64_succ (by omega), setI_nat]
    · show _ ≤ q + 16 * (1 + sz_Query x); simp only [sz_Query]; omega
  have last : ∀ k (s : List Query) (q : Int) (i : Nat), i = s.length → laws_markQueryS.l0 (k + 1) s q i = some (s, q) := by
    intro k s q i hi
    rw [laws_markQueryS.l0, lenI_eq, decide_eq_false (by omega), cond_false]
  obtain ⟨l', q', m, hl, _, lo, hi, hd⟩ := loop_mark (fm := laws_markQueryS.l0) l.length 4611686018427387904 (fun x => 16 * (1 + sz_Query x)) Hd_Query (fun x => by have := sz_Query_0 x; show 0 ≤ 16 * (1 + sz_Query x); omega) step last (((lenI l) - 0).toNat + 1) 0 l q rfl (by omega) (by simp only [lenI_eq]; omega) hq (by rw [List.drop_zero, sum_c sz_Query]; omega)
  refine ⟨l', q', m, ?_, lo, ?_⟩
  · trivial
  · rw [List.drop_zero, sum_c sz_Query] at hi; unfold sz_QueryS; omega
def Hd_Change (x : Change) (q q' : Int) : Prop := ∃ q1, x.Table = q ∧ x.Had = decide (Int.tmod (q + 1) 3 = 0) ∧ x.Has = decide (Int.tmod (q + 1 + 1) 3 = 0) ∧ x.Old.Id = q + 1 + 1 + 1 ∧ laws_heldIntS.f x.Old.Cells (q + 1 + 1 + 1 + 1) = some q1 ∧ q + 1 + 1 + 1 + 1 ≤ q1 ∧ x.New.Id = q1 ∧ laws_heldIntS.f x.New.Cells (q1 + 1) = some q' ∧ q1 + 1 ≤ q'
theorem Hd_Change_mono (x : Change) (q q' : Int) (h : Hd_Change x q q') : q ≤ q' := by
  obtain ⟨q1, e0, e1, e2, e3, d4, l4, e5, d6, l6⟩ := h
  omega
theorem mark_ChangeS (l : List Change) (q : Int) (hq : 0 ≤ q) (hB : q + 16 * sz_ChangeS l ≤ 4611686018427387904) : ∃ l' q', laws_markChangeS.f l q = some (l', q') ∧ True ∧ q ≤ q' ∧ q' ≤ q + 16 * sz_ChangeS l := by
  unfold sz_ChangeS at hB
  have p0 := sum_nonneg sz_Change_0 l
  have step : ∀ k (i : Nat) (s : List Change) (x : Change) (q : Int), s.length = l.length → s[i]? = some x → 0 ≤ q → q + (fun x => 16 * (1 + sz_Change x)) x ≤ 4611686018427387904 → ∃ x' q', laws_markChangeS.l0 (k + 1) s q i = laws_markChangeS.l0 k (s.set i x') q' ((i + 1 : Nat) : Int) ∧ q ≤ q' ∧ q' ≤ q + (fun x => 16 * (1 + sz_Change x)) x ∧ Hd_Change x' q q' := by
    intro k i s x q hn hx hq hB
    have hi := at_lt hx
    have g0 : getO s i = some x := by rw [getO_nat, hx]
    have hB : q + 16 * (1 + sz_Change x) ≤ 4611686018427387904 := hB
    have hzx : sz_Change x ≤ 288230376151711744 := by omega
    simp only [sz_Change, sz_Row] at hB
    have p_Old_Cells := sz_IntS_0 x.Old.Cells
    have p_New_Cells := sz_IntS_0 x.New.Cells
    obtain ⟨c4, q1, m4, d4, a4, b4⟩ := mark_IntS x.Old.Cells (q + 1 + 1 + 1 + 1) (by omega) (by omega)
    obtain ⟨c6, q2, m6, d6, a6, b6⟩ := mark_IntS x.New.Cells (q1 + 1) (by omega) (by omega)
    have w0 : w64 (q + 1) = q + 1 := w64_id (by omega)
    have w1 : w64 (q + 1 + 1) = q + 1 + 1 := w64_id (by omega)
    have w2 : w64 (q + 1 + 1 + 1) = q + 1 + 1 + 1 := w64_id (by omega)
    have w3 : w64 (q + 1 + 1 + 1 + 1) = q + 1 + 1 + 1 + 1 := w64_id (by omega)
    have w5 : w64 (q1 + 1) = q1 + 1 := w64_id (by omega)
    refine ⟨(Change.mk (q) ((decide (Int.tmod (q + 1) 3 = 0))) ((decide (Int.tmod (q + 1 + 1) 3 = 0))) (Row.mk (q + 1 + 1 + 1) (c4)) (Row.mk (q1) (c6))), q2, ?_, by omega, ?_, ⟨q1, rfl, rfl, rfl, rfl, d4, a4, rfl, d6, a6⟩⟩
    · rw [laws_markChangeS.l0, lenI_eq, decide_eq_true (by omega), cond_true]
      simp only [g0, get_set g0, setI_setI, Option.bind_some, m4, m6, w0, w1, w2, w3, w5]
      rw [w64_succ (by omega), setI_nat]
    · show _ ≤ q + 16 * (1 + sz_Change x); simp only [sz_Change, sz_Row]; omega
  have last : ∀ k (s : List Change) (q : Int) (i : Nat), i = s.length → laws_markChangeS.l0 (k + 1) s q i = some (s, q) := by
    intro k s q i hi
    rw [laws_markChangeS.l0, lenI_eq, decide_eq_false (by omega), cond_false]
  obtain ⟨l', q', m, hl, _, lo, hi, hd⟩ := loop_mark (fm := laws_markChangeS.l0) l.length 4611686018427387904 (fun x => 16 * (1 + sz_Change x)) Hd_Change (fun x => by have := sz_Change_0 x; show 0 ≤ 16 * (1 + sz_Change x); omega) step last (((lenI l) - 0).toNat + 1) 0 l q rfl (by omega) (by simp only [lenI_eq]; omega) hq (by rw [List.drop_zero, sum_c sz_Change]; omega)
  refine ⟨l', q', m, ?_, lo, ?_⟩
  · trivial
  · rw [List.drop_zero, sum_c sz_Change] at hi; unfold sz_ChangeS; omega
theorem Concerned_ok (s : Schema) (b0 : Schema_b s) (r0 : Schema_r s) (z0 : sz_Schema s ≤ 1048576) (qs : List Query) (b1 : QueryS_b qs) (r1 : QueryS_r qs) (z1 : sz_QueryS qs ≤ 1048576) (ch : List Change) (b2 : ChangeS_b ch) (r2 : ChangeS_r ch) (z2 : sz_ChangeS ch ≤ 1048576) : ∃ v, spec_Concerned.f s qs ch = some v ∧ impl_Concerned.f s qs ch = some v ∧ IntS_b v ∧ sz_IntS v ≤ 1099511627776 := by
  have hz : qs.length ≤ 1048576 := by
    have := sum_nonneg sz_Query_0 qs
    unfold sz_QueryS at z1
    omega
  have hl := concF_len (p := concP s ch) (l := qs) (i := 0)
  exact ⟨_, spec_Concerned_eq s qs ch b0 b1 b2 hz, impl_Concerned_eq s qs ch b0 b1 b2 hz, by unfold IntS_b; omega, by unfold sz_IntS; omega⟩

theorem laws_FnExactConcerned_pure (a0 : Schema) (b0 : Schema_b a0) (r0 : Schema_r a0) (a1 : List Query) (b1 : QueryS_b a1) (r1 : QueryS_r a1) (a2 : List Change) (b2 : ChangeS_b a2) (r2 : ChangeS_r a2) : laws_FnExactConcerned.f a0 a1 a2 = some true := by
  unfold laws_FnExactConcerned.f
  have p0 := sz_Schema_0 a0
  rw [laws_szSchema_eq _ _ (by omega) b0, Option.bind_some]
  by_cases c0 : 1048576 < sz_Schema a0
  · rw [if_pos c0]; rfl
  rw [if_neg c0, decide_eq_false (by omega), cond_false]
  have p1 := sz_QueryS_0 a1
  rw [laws_szQueryS_eq _ _ (by omega) b1, Option.bind_some]
  by_cases c1 : 1048576 - sz_Schema a0 < sz_QueryS a1
  · rw [if_pos c1]; rfl
  rw [if_neg c1, decide_eq_false (by omega), cond_false]
  have p2 := sz_ChangeS_0 a2
  rw [laws_szChangeS_eq _ _ (by omega) b2, Option.bind_some]
  by_cases c2 : 1048576 - sz_Schema a0 - sz_QueryS a1 < sz_ChangeS a2
  · rw [if_pos c2]; rfl
  rw [if_neg c2, decide_eq_false (by omega), cond_false]
  obtain ⟨v0, hs, hi, bv0, zv0⟩ := Concerned_ok a0 b0 r0 (by omega) a1 b1 r1 (by omega) a2 b2 r2 (by omega)
  have t0 := laws_toSchema_eq a0 (by omega)
  have e0 : laws_eqSchema.f a0 a0 = some true := by rw [laws_eqSchema_eq _ _ b0 b0, decide_eq_true rfl]
  have t1 := laws_toQueryS_eq a1 (by omega)
  have e1 : laws_eqQueryS.f a1 a1 = some true := by rw [laws_eqQueryS_eq _ _ b1 b1, decide_eq_true rfl]
  have t2 := laws_toChangeS_eq a2 (by omega)
  have e2 : laws_eqChangeS.f a2 a2 = some true := by rw [laws_eqChangeS_eq _ _ b2 b2, decide_eq_true rfl]
  have ev0 : laws_eqIntS.f v0 v0 = some true := by rw [laws_eqIntS_eq _ _ bv0 bv0, decide_eq_true rfl]
  obtain ⟨g0_0, k0, mk0, dk0, lo0, hi0⟩ := mark_Schema a0 1 (by omega) (by omega)
  obtain ⟨g1_0, k1, mk1, dk1, lo1, hi1⟩ := mark_QueryS a1 k0 (by omega) (by omega)
  obtain ⟨g2_0, k2, mk2, dk2, lo2, hi2⟩ := mark_ChangeS a2 k1 (by omega) (by omega)
  have nk : ¬ k2 < 0 := by omega
  have pv0 := sz_IntS_0 v0
  obtain ⟨gw0_0, w0, mw0, dw0, low0, hiw0⟩ := mark_IntS v0 1 (by omega) (by omega)
  have nw0 : ¬ w0 < 0 := by omega
  simp only [t0, e0, t1, e1, t2, e2, ev0, mk0, mk1, mk2, nk, mw0, dw0, nw0, hs, hi, Option.bind_some, bo3_self, bo3_F, bo3_T, gd_true, cond_false, ne_eq, not_true_eq_false, decide_false]
end Go.Proofs.Ytibmfkomdhnhbaa.L
