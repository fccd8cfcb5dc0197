/- What the pure functions give. -/
import Derived.Test.YtibmfkomdhnhbaaPv0
import Derived.Test.YtibmfkomdhnhbaaFxViewChangesU
namespace Go.Proofs.Ytibmfkomdhnhbaa.L
open Go
set_option linter.unusedVariables false
set_option linter.unusedSimpArgs false
def Cond_r (x : Cond) : Prop := (-9223372036854775808 ≤ x.Col ∧ x.Col ≤ 9223372036854775807) ∧ (-9223372036854775808 ≤ x.Op ∧ x.Op ≤ 9223372036854775807) ∧ (-9223372036854775808 ≤ x.V ∧ x.V ≤ 9223372036854775807)
def sz_CondS (l : List Cond) : Int := l.length
def CondS_b (l : List Cond) : Prop := l.length ≤ 9223372036854775807
theorem sz_CondS_0 (l : List Cond) : 0 ≤ sz_CondS l := by unfold sz_CondS; omega
def CondS_r (l : List Cond) : Prop := ∀ x ∈ l, Cond_r x
theorem laws_szCondS_eq (a : List Cond) (n : Int) (hn : 0 ≤ n ∧ n ≤ 1048576) (hb : CondS_b a) : laws_szCondS.f a n = some (if n < sz_CondS a then -1 else n - sz_CondS a) := by
  unfold laws_szCondS.f sz_CondS
  unfold CondS_b at hb
  rw [lenI_eq, w64_id (by omega)]
  by_cases c : n < (a.length : Int)
  · rw [if_pos c, decide_eq_true (by omega), cond_true]
  · rw [if_neg c, decide_eq_false (by omega), cond_false]
def sz_IntS (l : List Int) : Int := l.length
def IntS_b (l : List Int) : Prop := l.length ≤ 9223372036854775807
theorem sz_IntS_0 (l : List Int) : 0 ≤ sz_IntS l := by unfold sz_IntS; omega
def IntS_r (l : List Int) : Prop := ∀ x ∈ l, (-9223372036854775808 ≤ x ∧ x ≤ 9223372036854775807)
theorem laws_szIntS_eq (a : List Int) (n : Int) (hn : 0 ≤ n ∧ n ≤ 1048576) (hb : IntS_b a) : laws_szIntS.f a n = some (if n < sz_IntS a then -1 else n - sz_IntS a) := by
  unfold laws_szIntS.f sz_IntS
  unfold IntS_b at hb
  rw [lenI_eq, w64_id (by omega)]
  by_cases c : n < (a.length : Int)
  · rw [if_pos c, decide_eq_true (by omega), cond_true]
  · rw [if_neg c, decide_eq_false (by omega), cond_false]
def sz_Query (x : Query) : Int := sz_CondS x.Where + sz_IntS x.Show
def Query_b (x : Query) : Prop := CondS_b x.Where ∧ IntS_b x.Show
theorem sz_Query_0 (x : Query) : 0 ≤ sz_Query x := by unfold sz_Query; exact by have := sz_CondS_0 x.Where; have := sz_IntS_0 x.Show;  omega
def Query_r (x : Query) : Prop := (-9223372036854775808 ≤ x.Table ∧ x.Table ≤ 9223372036854775807) ∧ CondS_r x.Where ∧ (-9223372036854775808 ≤ x.Order ∧ x.Order ≤ 9223372036854775807) ∧ (-9223372036854775808 ≤ x.First ∧ x.First ≤ 9223372036854775807) ∧ IntS_r x.Show ∧ (-9223372036854775808 ≤ x.KidTable ∧ x.KidTable ≤ 9223372036854775807) ∧ (-9223372036854775808 ≤ x.KidCol ∧ x.KidCol ≤ 9223372036854775807)
theorem laws_szQuery_eq (a : Query) (n : Int) (hn : 0 ≤ n ∧ n ≤ 1048576) (hb : Query_b a) : laws_szQuery.f a n = some (if n < sz_Query a then -1 else n - sz_Query a) := by
  unfold laws_szQuery.f sz_Query
  obtain ⟨h0, h1⟩ := hb
  have p_Where := sz_CondS_0 a.Where
  have p_Show := sz_IntS_0 a.Show
  rw [laws_szCondS_eq _ _ (by omega) h0, Option.bind_some]
  by_cases c0 : n < sz_CondS a.Where
  · rw [if_pos c0, if_pos (by omega)]; rfl
  · rw [if_neg c0, decide_eq_false (by omega), cond_false]
    rw [laws_szIntS_eq _ _ (by omega) h1, Option.bind_some]
    by_cases c1 : n - sz_CondS a.Where < sz_IntS a.Show
    · rw [if_pos c1, if_pos (by omega)]; rfl
    · rw [if_neg c1, decide_eq_false (by omega), cond_false]
      rw [if_neg (by omega)]
      congr 1; omega
def sz_Row (x : Row) : Int := sz_IntS x.Cells
def Row_b (x : Row) : Prop := IntS_b x.Cells
theorem sz_Row_0 (x : Row) : 0 ≤ sz_Row x := by unfold sz_Row; exact by have := sz_IntS_0 x.Cells;  omega
def Row_r (x : Row) : Prop := (-9223372036854775808 ≤ x.Id ∧ x.Id ≤ 9223372036854775807) ∧ IntS_r x.Cells
theorem laws_szRow_eq (a : Row) (n : Int) (hn : 0 ≤ n ∧ n ≤ 1048576) (hb : Row_b a) : laws_szRow.f a n = some (if n < sz_Row a then -1 else n - sz_Row a) := by
  unfold laws_szRow.f sz_Row
  have h0 := hb
  have p_Cells := sz_IntS_0 a.Cells
  rw [laws_szIntS_eq _ _ (by omega) h0, Option.bind_some]
  by_cases c0 : n < sz_IntS a.Cells
  · rw [if_pos c0]; rfl
  · rw [if_neg c0, decide_eq_false (by omega), cond_false]
def sz_RowS (l : List Row) : Int := l.length + (l.map sz_Row).sum
def RowS_b (l : List Row) : Prop := l.length ≤ 9223372036854775807 ∧ ∀ x ∈ l, Row_b x
theorem sz_RowS_0 (l : List Row) : 0 ≤ sz_RowS l := by have := sum_nonneg sz_Row_0 l; unfold sz_RowS; omega
def RowS_r (l : List Row) : Prop := ∀ x ∈ l, Row_r x
theorem laws_szRowS_eq (a : List Row) (n : Int) (hn : 0 ≤ n ∧ n ≤ 1048576) (hb : RowS_b a) : laws_szRowS.f a n = some (if n < sz_RowS a then -1 else n - sz_RowS a) := by
  unfold laws_szRowS.f sz_RowS
  obtain ⟨h1, h2⟩ := hb
  have p := sum_nonneg sz_Row_0 a
  rw [lenI_eq, w64_id (by omega)]
  by_cases c : n < (a.length : Int)
  · rw [if_pos (by omega), decide_eq_true (by omega), cond_true]
  · rw [decide_eq_false (by omega), cond_false]
    have key := loop_sz (f := laws_szRowS.l0 a) (l := a) sz_Row sz_Row_0 (fun k i acc x hx h0 h0' => by
      have hi := at_lt hx
      rw [laws_szRowS.l0, lenI_eq, decide_eq_true (by omega), cond_true, getO_nat, hx, Option.bind_some, laws_szRow_eq x acc ⟨h0, h0'⟩ (h2 x (List.mem_of_getElem? hx)), Option.bind_some, w64_succ (by omega)]
      by_cases d : acc < sz_Row x
      · rw [if_pos d, if_pos d, decide_eq_true (by omega), cond_true]
      · rw [if_neg d, if_neg d, decide_eq_false (by omega), cond_false]) (fun k acc i hi => by
      rw [laws_szRowS.l0, lenI_eq, decide_eq_false (by omega), cond_false]) (((a.length : Int) - 0).toNat + 1) 0 (n - a.length) (by omega) (by omega) (by omega) (by omega)
    rw [List.drop_zero] at key
    refine Eq.trans key ?_
    congr 1
    by_cases d : n - a.length < (a.map sz_Row).sum
    · rw [if_pos d, if_pos (by omega)]
    · rw [if_neg d, if_neg (by omega)]; omega
def Kid_r (x : Kid) : Prop := (-9223372036854775808 ≤ x.Id ∧ x.Id ≤ 9223372036854775807) ∧ (-9223372036854775808 ≤ x.N ∧ x.N ≤ 9223372036854775807)
def sz_KidS (l : List Kid) : Int := l.length
def KidS_b (l : List Kid) : Prop := l.length ≤ 9223372036854775807
theorem sz_KidS_0 (l : List Kid) : 0 ≤ sz_KidS l := by unfold sz_KidS; omega
def KidS_r (l : List Kid) : Prop := ∀ x ∈ l, Kid_r x
theorem laws_szKidS_eq (a : List Kid) (n : Int) (hn : 0 ≤ n ∧ n ≤ 1048576) (hb : KidS_b a) : laws_szKidS.f a n = some (if n < sz_KidS a then -1 else n - sz_KidS a) := by
  unfold laws_szKidS.f sz_KidS
  unfold KidS_b at hb
  rw [lenI_eq, w64_id (by omega)]
  by_cases c : n < (a.length : Int)
  · rw [if_pos c, decide_eq_true (by omega), cond_true]
  · rw [if_neg c, decide_eq_false (by omega), cond_false]
def sz_View (x : View) : Int := sz_Query x.Q + sz_RowS x.Rows + sz_KidS x.Kids
def View_b (x : View) : Prop := Query_b x.Q ∧ RowS_b x.Rows ∧ KidS_b x.Kids
theorem sz_View_0 (x : View) : 0 ≤ sz_View x := by unfold sz_View; exact by have := sz_Query_0 x.Q; have := sz_RowS_0 x.Rows; have := sz_KidS_0 x.Kids;  omega
def View_r (x : View) : Prop := Query_r x.Q ∧ RowS_r x.Rows ∧ KidS_r x.Kids
theorem laws_szView_eq (a : View) (n : Int) (hn : 0 ≤ n ∧ n ≤ 1048576) (hb : View_b a) : laws_szView.f a n = some (if n < sz_View a then -1 else n - sz_View a) := by
  unfold laws_szView.f sz_View
  obtain ⟨h0, h1, h2⟩ := hb
  have p_Q := sz_Query_0 a.Q
  have p_Rows := sz_RowS_0 a.Rows
  have p_Kids := sz_KidS_0 a.Kids
  rw [laws_szQuery_eq _ _ (by omega) h0, Option.bind_some]
  by_cases c0 : n < sz_Query a.Q
  · rw [if_pos c0, if_pos (by omega)]; rfl
  · rw [if_neg c0, decide_eq_false (by omega), cond_false]
    rw [laws_szRowS_eq _ _ (by omega) h1, Option.bind_some]
    by_cases c1 : n - sz_Query a.Q < sz_RowS a.Rows
    · rw [if_pos c1, if_pos (by omega)]; rfl
    · rw [if_neg c1, decide_eq_false (by omega), cond_false]
      rw [laws_szKidS_eq _ _ (by omega) h2, Option.bind_some]
      by_cases c2 : n - sz_Query a.Q - sz_RowS a.Rows < sz_KidS a.Kids
      · rw [if_pos c2, if_pos (by omega)]; rfl
      · rw [if_neg c2, decide_eq_false (by omega), cond_false]
        rw [if_neg (by omega)]
        congr 1; omega
theorem laws_toIntS_eq (a : List Int) (h : sz_IntS a ≤ 1048576) : laws_toIntS.f a = some a := by
  unfold laws_toIntS.f
  unfold sz_IntS at h
  rw [lenI_eq, mkO_ok (by omega), Option.bind_some]
  refine loop_fill (f := laws_toIntS.l0 a) (l := a) some (fun k i s x y hx hy => ?_) (fun k s i hi => ?_) _ 0 _ (by omega) (by omega) (by rw [List.length_replicate]; omega) (by simp)
  · have hi := at_lt hx
    rw [laws_toIntS.l0, lenI_eq, decide_eq_true (by omega), cond_true, getO_nat, hx, Option.bind_some, getO_nat, hy, Option.bind_some, Option.bind_some, setI_nat, w64_succ (by omega)]
  · rw [laws_toIntS.l0, lenI_eq, decide_eq_false (by omega), cond_false]
theorem laws_toRow_eq (a : Row) (h : sz_Row a ≤ 1048576) : laws_toRow.f a = some a := by
  unfold sz_Row at h
  have p_Cells := sz_IntS_0 a.Cells
  unfold laws_toRow.f
  rw [laws_toIntS_eq _ (by omega), Option.bind_some]
theorem laws_toRowS_eq (a : List Row) (h : sz_RowS a ≤ 1048576) : laws_toRowS.f a = some a := by
  unfold laws_toRowS.f
  unfold sz_RowS at h
  have p := sum_nonneg sz_Row_0 a
  rw [lenI_eq, mkO_ok (by omega), Option.bind_some]
  refine loop_fill (f := laws_toRowS.l0 a) (l := a) some (fun k i s x y hx hy => ?_) (fun k s i hi => ?_) _ 0 _ (by omega) (by omega) (by rw [List.length_replicate]; omega) (by simp)
  · have hi := at_lt hx
    rw [laws_toRowS.l0, lenI_eq, decide_eq_true (by omega), cond_true, getO_nat, hx, Option.bind_some, laws_toRow_eq x (by have := sum_mem sz_Row_0 (List.mem_of_getElem? hx); omega), Option.bind_some, getO_nat, hy, Option.bind_some, Option.bind_some, setI_nat, w64_succ (by omega)]
  · rw [laws_toRowS.l0, lenI_eq, decide_eq_false (by omega), cond_false]
theorem laws_toKid_eq (a : Kid) : laws_toKid.f a = some a := rfl
theorem laws_toKidS_eq (a : List Kid) (h : sz_KidS a ≤ 1048576) : laws_toKidS.f a = some a := by
  unfold laws_toKidS.f
  unfold sz_KidS at h
  rw [lenI_eq, mkO_ok (by omega), Option.bind_some]
  refine loop_fill (f := laws_toKidS.l0 a) (l := a) some (fun k i s x y hx hy => ?_) (fun k s i hi => ?_) _ 0 _ (by omega) (by omega) (by rw [List.length_replicate]; omega) (by simp)
  · have hi := at_lt hx
    rw [laws_toKidS.l0, lenI_eq, decide_eq_true (by omega), cond_true, getO_nat, hx, Option.bind_some, laws_toKid_eq x, Option.bind_some, getO_nat, hy, Option.bind_some, Option.bind_some, setI_nat, w64_succ (by omega)]
  · rw [laws_toKidS.l0, lenI_eq, decide_eq_false (by omega), cond_false]
theorem laws_toCond_eq (a : Cond) : laws_toCond.f a = some a := rfl
theorem laws_toCondS_eq (a : List Cond) (h : sz_CondS a ≤ 1048576) : laws_toCondS.f a = some a := by
  unfold laws_toCondS.f
  unfold sz_CondS at h
  rw [lenI_eq, mkO_ok (by omega), Option.bind_some]
  refine loop_fill (f := laws_toCondS.l0 a) (l := a) some (fun k i s x y hx hy => ?_) (fun k s i hi => ?_) _ 0 _ (by omega) (by omega) (by rw [List.length_replicate]; omega) (by simp)
  · have hi := at_lt hx
    rw [laws_toCondS.l0, lenI_eq, decide_eq_true (by omega), cond_true, getO_nat, hx, Option.bind_some, laws_toCond_eq x, Option.bind_some, getO_nat, hy, Option.bind_some, Option.bind_some, setI_nat, w64_succ (by omega)]
  · rw [laws_toCondS.l0, lenI_eq, decide_eq_false (by omega), cond_false]
theorem laws_toQuery_eq (a : Query) (h : sz_Query a ≤ 1048576) : laws_toQuery.f a = some a := by
  unfold sz_Query at h
  have p_Where := sz_CondS_0 a.Where
  have p_Show := sz_IntS_0 a.Show
  unfold laws_toQuery.f
  rw [laws_toCondS_eq _ (by omega), Option.bind_some]
  rw [laws_toIntS_eq _ (by omega), Option.bind_some]
theorem laws_toView_eq (a : View) (h : sz_View a ≤ 1048576) : laws_toView.f a = some a := by
  unfold sz_View at h
  have p_Q := sz_Query_0 a.Q
  have p_Rows := sz_RowS_0 a.Rows
  have p_Kids := sz_KidS_0 a.Kids
  unfold laws_toView.f
  rw [laws_toQuery_eq _ (by omega), Option.bind_some]
  rw [laws_toRowS_eq _ (by omega), Option.bind_some]
  rw [laws_toKidS_eq _ (by omega), Option.bind_some]
theorem laws_eqIntS_eq (a b : List Int) (ha : IntS_b a) (hb : IntS_b b) : laws_eqIntS.f a b = some (decide (a = b)) := by
  unfold IntS_b at ha hb
  unfold laws_eqIntS.f
  by_cases hl : a.length = b.length
  · rw [decide_eq_false (by simp only [lenI_eq]; omega), cond_false]
    refine (loop_eq (f := laws_eqIntS.l0 a b) hl (some false) (some true) (fun k i x y hx hy => ?_) (fun k i hi => ?_) _ (by simp only [lenI_eq]; omega)).trans ?_
    · have hi := at_lt hx
      rw [laws_eqIntS.l0, lenI_eq, decide_eq_true (by omega), cond_true, getO_nat, hx, Option.bind_some, getO_nat, hy, Option.bind_some, w64_succ (by omega)]
      by_cases c : x = y
      · simp [c]
      · simp [c]
    · rw [laws_eqIntS.l0, lenI_eq, decide_eq_false (by omega), cond_false]
    · cases decide (a = b) <;> rfl
  · rw [decide_eq_true (by simp only [lenI_eq]; omega), cond_true, decide_eq_false (fun e => hl (by rw [e]))]
theorem laws_eqRow_eq (a b : Row) (ha : Row_b a) (hb : Row_b b) : laws_eqRow.f a b = some (decide (a = b)) := by
  have ha_Cells := ha
  have hb_Cells := hb
  unfold laws_eqRow.f
  by_cases c_Id : a.Id = b.Id
  case neg => rw [decide_eq_true c_Id, cond_true, decide_eq_false (fun e => c_Id (by rw [e]))]
  rw [decide_eq_false (fun e => e c_Id), cond_false]
  rw [laws_eqIntS_eq _ _ ha_Cells hb_Cells, Option.bind_some]
  by_cases c_Cells : a.Cells = b.Cells
  case neg => rw [decide_eq_false c_Cells, show bo3 false false true = true from rfl, cond_true, decide_eq_false (fun e => c_Cells (by rw [e]))]
  rw [decide_eq_true c_Cells, show bo3 true false true = false from rfl, cond_false]
  rw [decide_eq_true (by cases a; cases b; simp_all)]
theorem laws_eqRowS_eq (a b : List Row) (ha : RowS_b a) (hb : RowS_b b) : laws_eqRowS.f a b = some (decide (a = b)) := by
  obtain ⟨ha, ha2⟩ := ha
  obtain ⟨hb, hb2⟩ := hb
  unfold laws_eqRowS.f
  by_cases hl : a.length = b.length
  · rw [decide_eq_false (by simp only [lenI_eq]; omega), cond_false]
    refine (loop_eq (f := laws_eqRowS.l0 a b) hl (some false) (some true) (fun k i x y hx hy => ?_) (fun k i hi => ?_) _ (by simp only [lenI_eq]; omega)).trans ?_
    · have hi := at_lt hx
      rw [laws_eqRowS.l0, lenI_eq, decide_eq_true (by omega), cond_true, getO_nat, hx, Option.bind_some, getO_nat, hy, Option.bind_some, laws_eqRow_eq x y (ha2 x (List.mem_of_getElem? hx)) (hb2 y (List.mem_of_getElem? hy)), Option.bind_some, bo3_not, w64_succ (by omega)]
      by_cases c : x = y
      · simp [c]
      · simp [c]
    · rw [laws_eqRowS.l0, lenI_eq, decide_eq_false (by omega), cond_false]
    · cases decide (a = b) <;> rfl
  · rw [decide_eq_true (by simp only [lenI_eq]; omega), cond_true, decide_eq_false (fun e => hl (by rw [e]))]
theorem laws_eqKid_eq (a b : Kid) : laws_eqKid.f a b = some (decide (a = b)) := by
  unfold laws_eqKid.f
  by_cases c_Id : a.Id = b.Id
  case neg => rw [decide_eq_true c_Id, cond_true, decide_eq_false (fun e => c_Id (by rw [e]))]
  rw [decide_eq_false (fun e => e c_Id), cond_false]
  by_cases c_N : a.N = b.N
  case neg => rw [decide_eq_true c_N, cond_true, decide_eq_false (fun e => c_N (by rw [e]))]
  rw [decide_eq_false (fun e => e c_N), cond_false]
  rw [decide_eq_true (by cases a; cases b; simp_all)]
theorem laws_eqKidS_eq (a b : List Kid) (ha : KidS_b a) (hb : KidS_b b) : laws_eqKidS.f a b = some (decide (a = b)) := by
  unfold KidS_b at ha hb
  unfold laws_eqKidS.f
  by_cases hl : a.length = b.length
  · rw [decide_eq_false (by simp only [lenI_eq]; omega), cond_false]
    refine (loop_eq (f := laws_eqKidS.l0 a b) hl (some false) (some true) (fun k i x y hx hy => ?_) (fun k i hi => ?_) _ (by simp only [lenI_eq]; omega)).trans ?_
    · have hi := at_lt hx
      rw [laws_eqKidS.l0, lenI_eq, decide_eq_true (by omega), cond_true, getO_nat, hx, Option.bind_some, getO_nat, hy, Option.bind_some, laws_eqKid_eq x y, Option.bind_some, bo3_not, w64_succ (by omega)]
      by_cases c : x = y
      · simp [c]
      · simp [c]
    · rw [laws_eqKidS.l0, lenI_eq, decide_eq_false (by omega), cond_false]
    · cases decide (a = b) <;> rfl
  · rw [decide_eq_true (by simp only [lenI_eq]; omega), cond_true, decide_eq_false (fun e => hl (by rw [e]))]
theorem laws_eqCond_eq (a b : Cond) : laws_eqCond.f a b = some (decide (a = b)) := by
  unfold laws_eqCond.f
  by_cases c_Col : a.Col = b.Col
  case neg => rw [decide_eq_true c_Col, cond_true, decide_eq_false (fun e => c_Col (by rw [e]))]
  rw [decide_eq_false (fun e => e c_Col), cond_false]
  by_cases c_Op : a.Op = b.Op
  case neg => rw [decide_eq_true c_Op, cond_true, decide_eq_false (fun e => c_Op (by rw [e]))]
  rw [decide_eq_false (fun e => e c_Op), cond_false]
  by_cases c_V : a.V = b.V
  case neg => rw [decide_eq_true c_V, cond_true, decide_eq_false (fun e => c_V (by rw [e]))]
  rw [decide_eq_false (fun e => e c_V), cond_false]
  rw [decide_eq_true (by cases a; cases b; simp_all)]
theorem laws_eqCondS_eq (a b : List Cond) (ha : CondS_b a) (hb : CondS_b b) : laws_eqCondS.f a b = some (decide (a = b)) := by
  unfold CondS_b at ha hb
  unfold laws_eqCondS.f
  by_cases hl : a.length = b.length
  · rw [decide_eq_false (by simp only [lenI_eq]; omega), cond_false]
    refine (loop_eq (f := laws_eqCondS.l0 a b) hl (some false) (some true) (fun k i x y hx hy => ?_) (fun k i hi => ?_) _ (by simp only [lenI_eq]; omega)).trans ?_
    · have hi := at_lt hx
      rw [laws_eqCondS.l0, lenI_eq, decide_eq_true (by omega), cond_true, getO_nat, hx, Option.bind_some, getO_nat, hy, Option.bind_some, laws_eqCond_eq x y, Option.bind_some, bo3_not, w64_succ (by omega)]
      by_cases c : x = y
      · simp [c]
      · simp [c]
    · rw [laws_eqCondS.l0, lenI_eq, decide_eq_false (by omega), cond_false]
    · cases decide (a = b) <;> rfl
  · rw [decide_eq_true (by simp only [lenI_eq]; omega), cond_true, decide_eq_false (fun e => hl (by rw [e]))]
theorem laws_eqQuery_eq (a b : Query) (ha : Query_b a) (hb : Query_b b) : laws_eqQuery.f a b = some (decide (a = b)) := by
  obtain ⟨ha_Where, ha_Show⟩ := ha
  obtain ⟨hb_Where, hb_Show⟩ := hb
  unfold laws_eqQuery.f
  by_cases c_Table : a.Table = b.Table
  case neg => rw [decide_eq_true c_Table, cond_true, decide_eq_false (fun e => c_Table (by rw [e]))]
  rw [decide_eq_false (fun e => e c_Table), cond_false]
  rw [laws_eqCondS_eq _ _ ha_Where hb_Where, Option.bind_some]
  by_cases c_Where : a.Where = b.Where
  case neg => rw [decide_eq_false c_Where, show bo3 false false true = true from rfl, cond_true, decide_eq_false (fun e => c_Where (by rw [e]))]
  rw [decide_eq_true c_Where, show bo3 true false true = false from rfl, cond_false]
  by_cases c_Order : a.Order = b.Order
  case neg => rw [decide_eq_true c_Order, cond_true, decide_eq_false (fun e => c_Order (by rw [e]))]
  rw [decide_eq_false (fun e => e c_Order), cond_false]
  by_cases c_Down : a.Down = b.Down
  case neg => rw [show bo3 a.Down (bo3 b.Down false true) b.Down = true from by revert c_Down; cases a.Down <;> cases b.Down <;> simp [bo3], cond_true, decide_eq_false (fun e => c_Down (by rw [e]))]
  rw [show bo3 a.Down (bo3 b.Down false true) b.Down = false from by rw [c_Down]; cases b.Down <;> rfl, cond_false]
  by_cases c_First : a.First = b.First
  case neg => rw [decide_eq_true c_First, cond_true, decide_eq_false (fun e => c_First (by rw [e]))]
  rw [decide_eq_false (fun e => e c_First), cond_false]
  rw [laws_eqIntS_eq _ _ ha_Show hb_Show, Option.bind_some]
  by_cases c_Show : a.Show = b.Show
  case neg => rw [decide_eq_false c_Show, show bo3 false false true = true from rfl, cond_true, decide_eq_false (fun e => c_Show (by rw [e]))]
  rw [decide_eq_true c_Show, show bo3 true false true = false from rfl, cond_false]
  by_cases c_Kids : a.Kids = b.Kids
  case neg => rw [show bo3 a.Kids (bo3 b.Kids false true) b.Kids = true from by revert c_Kids; cases a.Kids <;> cases b.Kids <;> simp [bo3], cond_true, decide_eq_false (fun e => c_Kids (by rw [e]))]
  rw [show bo3 a.Kids (bo3 b.Kids false true) b.Kids = false from by rw [c_Kids]; cases b.Kids <;> rfl, cond_false]
  by_cases c_KidTable : a.KidTable = b.KidTable
  case neg => rw [decide_eq_true c_KidTable, cond_true, decide_eq_false (fun e => c_KidTable (by rw [e]))]
  rw [decide_eq_false (fun e => e c_KidTable), cond_false]
  by_cases c_KidCol : a.KidCol = b.KidCol
  case neg => rw [decide_eq_true c_KidCol, cond_true, decide_eq_false (fun e => c_KidCol (by rw [e]))]
  rw [decide_eq_false (fun e => e c_KidCol), cond_false]
  rw [decide_eq_true (by cases a; cases b; simp_all)]
theorem laws_eqView_eq (a b : View) (ha : View_b a) (hb : View_b b) : laws_eqView.f a b = some (decide (a = b)) := by
  obtain ⟨ha_Q, ha_Rows, ha_Kids⟩ := ha
  obtain ⟨hb_Q, hb_Rows, hb_Kids⟩ := hb
  unfold laws_eqView.f
  rw [laws_eqQuery_eq _ _ ha_Q hb_Q, Option.bind_some]
  by_cases c_Q : a.Q = b.Q
  case neg => rw [decide_eq_false c_Q, show bo3 false false true = true from rfl, cond_true, decide_eq_false (fun e => c_Q (by rw [e]))]
  rw [decide_eq_true c_Q, show bo3 true false true = false from rfl, cond_false]
  rw [laws_eqRowS_eq _ _ ha_Rows hb_Rows, Option.bind_some]
  by_cases c_Rows : a.Rows = b.Rows
  case neg => rw [decide_eq_false c_Rows, show bo3 false false true = true from rfl, cond_true, decide_eq_false (fun e => c_Rows (by rw [e]))]
  rw [decide_eq_true c_Rows, show bo3 true false true = false from rfl, cond_false]
  rw [laws_eqKidS_eq _ _ ha_Kids hb_Kids, Option.bind_some]
  by_cases c_Kids : a.Kids = b.Kids
  case neg => rw [decide_eq_false c_Kids, show bo3 false false true = true from rfl, cond_true, decide_eq_false (fun e => c_Kids (by rw [e]))]
  rw [decide_eq_true c_Kids, show bo3 true false true = false from rfl, cond_false]
  rw [decide_eq_true (by cases a; cases b; simp_all)]
def sz_Change (x : Change) : Int := sz_Row x.Old + sz_Row x.New
def Change_b (x : Change) : Prop := Row_b x.Old ∧ Row_b x.New
theorem sz_Change_0 (x : Change) : 0 ≤ sz_Change x := by unfold sz_Change; exact by have := sz_Row_0 x.Old; have := sz_Row_0 x.New;  omega
def Change_r (x : Change) : Prop := (-9223372036854775808 ≤ x.Table ∧ x.Table ≤ 9223372036854775807) ∧ Row_r x.Old ∧ Row_r x.New
theorem laws_szChange_eq (a : Change) (n : Int) (hn : 0 ≤ n ∧ n ≤ 1048576) (hb : Change_b a) : laws_szChange.f a n = some (if n < sz_Change a then -1 else n - sz_Change a) := by
  unfold laws_szChange.f sz_Change
  obtain ⟨h0, h1⟩ := hb
  have p_Old := sz_Row_0 a.Old
  have p_New := sz_Row_0 a.New
  rw [laws_szRow_eq _ _ (by omega) h0, Option.bind_some]
  by_cases c0 : n < sz_Row a.Old
  · rw [if_pos c0, if_pos (by omega)]; rfl
  · rw [if_neg c0, decide_eq_false (by omega), cond_false]
    rw [laws_szRow_eq _ _ (by omega) h1, Option.bind_some]
    by_cases c1 : n - sz_Row a.Old < sz_Row a.New
    · rw [if_pos c1, if_pos (by omega)]; rfl
    · rw [if_neg c1, decide_eq_false (by omega), cond_false]
      rw [if_neg (by omega)]
      congr 1; omega
def sz_ChangeS (l : List Change) : Int := l.length + (l.map sz_Change).sum
def ChangeS_b (l : List Change) : Prop := l.length ≤ 9223372036854775807 ∧ ∀ x ∈ l, Change_b x
theorem sz_ChangeS_0 (l : List Change) : 0 ≤ sz_ChangeS l := by have := sum_nonneg sz_Change_0 l; unfold sz_ChangeS; omega
def ChangeS_r (l : List Change) : Prop := ∀ x ∈ l, Change_r x
theorem laws_szChangeS_eq (a : List Change) (n : Int) (hn : 0 ≤ n ∧ n ≤ 1048576) (hb : ChangeS_b a) : laws_szChangeS.f a n = some (if n < sz_ChangeS a then -1 else n - sz_ChangeS a) := by
  unfold laws_szChangeS.f sz_ChangeS
  obtain ⟨h1, h2⟩ := hb
  have p := sum_nonneg sz_Change_0 a
  rw [lenI_eq, w64_id (by omega)]
  by_cases c : n < (a.length : Int)
  · rw [if_pos (by omega), decide_eq_true (by omega), cond_true]
  · rw [decide_eq_false (by omega), cond_false]
    have key := loop_sz (f := laws_szChangeS.l0 a) (l := a) sz_Change sz_Change_0 (fun k i acc x hx h0 h0' => by
      have hi := at_lt hx
      rw [laws_szChangeS.l0, lenI_eq, decide_eq_true (by omega), cond_true, getO_nat, hx, Option.bind_some, laws_szChange_eq x acc ⟨h0, h0'⟩ (h2 x (List.mem_of_getElem? hx)), Option.bind_some, w64_succ (by omega)]
      by_cases d : acc < sz_Change x
      · rw [if_pos d, if_pos d, decide_eq_true (by omega), cond_true]
      · rw [if_neg d, if_neg d, decide_eq_false (by omega), cond_false]) (fun k acc i hi => by
      rw [laws_szChangeS.l0, lenI_eq, decide_eq_false (by omega), cond_false]) (((a.length : Int) - 0).toNat + 1) 0 (n - a.length) (by omega) (by omega) (by omega) (by omega)
    rw [List.drop_zero] at key
    refine Eq.trans key ?_
    congr 1
    by_cases d : n - a.length < (a.map sz_Change).sum
    · rw [if_pos d, if_pos (by omega)]
    · rw [if_neg d, if_neg (by omega)]; omega
theorem laws_toChange_eq (a : Change) (h : sz_Change a ≤ 1048576) : laws_toChange.f a = some a := by
  unfold sz_Change at h
  have p_Old := sz_Row_0 a.Old
  have p_New := sz_Row_0 a.New
  unfold laws_toChange.f
  rw [laws_toRow_eq _ (by omega), Option.bind_some]
  rw [laws_toRow_eq _ (by omega), Option.bind_some]
theorem laws_toChangeS_eq (a : List Change) (h : sz_ChangeS a ≤ 1048576) : laws_toChangeS.f a = some a := by
  unfold laws_toChangeS.f
  unfold sz_ChangeS at h
  have p := sum_nonneg sz_Change_0 a
  rw [lenI_eq, mkO_ok (by omega), Option.bind_some]
  refine loop_fill (f := laws_toChangeS.l0 a) (l := a) some (fun k i s x y hx hy => ?_) (fun k s i hi => ?_) _ 0 _ (by omega) (by omega) (by rw [List.length_replicate]; omega) (by simp)
  · have hi := at_lt hx
    rw [laws_toChangeS.l0, lenI_eq, decide_eq_true (by omega), cond_true, getO_nat, hx, Option.bind_some, laws_toChange_eq x (by have := sum_mem sz_Change_0 (List.mem_of_getElem? hx); omega), Option.bind_some, getO_nat, hy, Option.bind_some, Option.bind_some, setI_nat, w64_succ (by omega)]
  · rw [laws_toChangeS.l0, lenI_eq, decide_eq_false (by omega), cond_false]
theorem laws_eqChange_eq (a b : Change) (ha : Change_b a) (hb : Change_b b) : laws_eqChange.f a b = some (decide (a = b)) := by
  obtain ⟨ha_Old, ha_New⟩ := ha
  obtain ⟨hb_Old, hb_New⟩ := hb
  unfold laws_eqChange.f
  by_cases c_Table : a.Table = b.Table
  case neg => rw [decide_eq_true c_Table, cond_true, decide_eq_false (fun e => c_Table (by rw [e]))]
  rw [decide_eq_false (fun e => e c_Table), cond_false]
  by_cases c_Had : a.Had = b.Had
  case neg => rw [show bo3 a.Had (bo3 b.Had false true) b.Had = true from by revert c_Had; cases a.Had <;> cases b.Had <;> simp [bo3], cond_true, decide_eq_false (fun e => c_Had (by rw [e]))]
  rw [show bo3 a.Had (bo3 b.Had false true) b.Had = false from by rw [c_Had]; cases b.Had <;> rfl, cond_false]
  by_cases c_Has : a.Has = b.Has
  case neg => rw [show bo3 a.Has (bo3 b.Has false true) b.Has = true from by revert c_Has; cases a.Has <;> cases b.Has <;> simp [bo3], cond_true, decide_eq_false (fun e => c_Has (by rw [e]))]
  rw [show bo3 a.Has (bo3 b.Has false true) b.Has = false from by rw [c_Has]; cases b.Has <;> rfl, cond_false]
  rw [laws_eqRow_eq _ _ ha_Old hb_Old, Option.bind_some]
  by_cases c_Old : a.Old = b.Old
  case neg => rw [decide_eq_false c_Old, show bo3 false false true = true from rfl, cond_true, decide_eq_false (fun e => c_Old (by rw [e]))]
  rw [decide_eq_true c_Old, show bo3 true false true = false from rfl, cond_false]
  rw [laws_eqRow_eq _ _ ha_New hb_New, Option.bind_some]
  by_cases c_New : a.New = b.New
  case neg => rw [decide_eq_false c_New, show bo3 false false true = true from rfl, cond_true, decide_eq_false (fun e => c_New (by rw [e]))]
  rw [decide_eq_true c_New, show bo3 true false true = false from rfl, cond_false]
  rw [decide_eq_true (by cases a; cases b; simp_all)]
theorem laws_eqChangeS_eq (a b : List Change) (ha : ChangeS_b a) (hb : ChangeS_b b) : laws_eqChangeS.f a b = some (decide (a = b)) := by
  obtain ⟨ha, ha2⟩ := ha
  obtain ⟨hb, hb2⟩ := hb
  unfold laws_eqChangeS.f
  by_cases hl : a.length = b.length
  · rw [decide_eq_false (by simp only [lenI_eq]; omega), cond_false]
    refine (loop_eq (f := laws_eqChangeS.l0 a b) hl (some false) (some true) (fun k i x y hx hy => ?_) (fun k i hi => ?_) _ (by simp only [lenI_eq]; omega)).trans ?_
    · have hi := at_lt hx
      rw [laws_eqChangeS.l0, lenI_eq, decide_eq_true (by omega), cond_true, getO_nat, hx, Option.bind_some, getO_nat, hy, Option.bind_some, laws_eqChange_eq x y (ha2 x (List.mem_of_getElem? hx)) (hb2 y (List.mem_of_getElem? hy)), Option.bind_some, bo3_not, w64_succ (by omega)]
      by_cases c : x = y
      · simp [c]
      · simp [c]
    · rw [laws_eqChangeS.l0, lenI_eq, decide_eq_false (by omega), cond_false]
    · cases decide (a = b) <;> rfl
  · rw [decide_eq_true (by simp only [lenI_eq]; omega), cond_true, decide_eq_false (fun e => hl (by rw [e]))]
def Hd_Int (x : Int) (q q' : Int) : Prop := x = q ∧ q' = q + 1
theorem Hd_Int_mono (x : Int) (q q' : Int) (h : Hd_Int x q q') : q ≤ q' := by
  obtain ⟨e0, rfl⟩ := h
  omega
theorem mark_IntS (l : List Int) (q : Int) (hq : 0 ≤ q) (hB : q + 16 * sz_IntS l ≤ 4611686018427387904) : ∃ l' q', laws_markIntS.f l q = some (l', q') ∧ laws_heldIntS.f l' q = some q' ∧ q ≤ q' ∧ q' ≤ q + 16 * sz_IntS l := by
  unfold sz_IntS at hB
  have hz : (l.length : Int) ≤ 288230376151711744 := by omega
  have step : ∀ k (i : Nat) (s : List Int) (x : Int) (q : Int), s.length = l.length → s[i]? = some x → 0 ≤ q → q + (fun _ => 16 * (1 + 0)) x ≤ 4611686018427387904 → ∃ x' q', laws_markIntS.l0 (k + 1) s q i = laws_markIntS.l0 k (s.set i x') q' ((i + 1 : Nat) : Int) ∧ q ≤ q' ∧ q' ≤ q + (fun _ => 16 * (1 + 0)) x ∧ Hd_Int x' q q' := by
    intro k i s x q hn hx hq hB
    have hi := at_lt hx
    have g0 : getO s i = some x := by rw [getO_nat, hx]
    have hB : q + 16 * (1 + 0) ≤ 4611686018427387904 := hB
    have w0 : w64 (q + 1) = q + 1 := w64_id (by omega)
    refine ⟨(q), q + 1, ?_, by omega, ?_, ⟨rfl, rfl⟩⟩
    · rw [laws_markIntS.l0, lenI_eq, decide_eq_true (by omega), cond_true]
      simp only [g0, get_set g0, setI_setI, Option.bind_some, w0]
      rw [w64_succ (by omega), setI_nat]
    · show _ ≤ q + 16 * (1 + 0); omega
  have last : ∀ k (s : List Int) (q : Int) (i : Nat), i = s.length → laws_markIntS.l0 (k + 1) s q i = some (s, q) := by
    intro k s q i hi
    rw [laws_markIntS.l0, lenI_eq, decide_eq_false (by omega), cond_false]
  obtain ⟨l', q', m, hl, _, lo, hi, hd⟩ := loop_mark (fm := laws_markIntS.l0) l.length 4611686018427387904 (fun _ => 16 * (1 + 0)) Hd_Int (fun _ => by decide) step last (((lenI l) - 0).toNat + 1) 0 l q rfl (by omega) (by simp only [lenI_eq]; omega) hq (by rw [List.drop_zero, sum_0]; omega)
  refine ⟨l', q', m, ?_, lo, ?_⟩
  · unfold laws_heldIntS.f
    refine loop_held (fh := laws_heldIntS.l0 l') (l := l') Hd_Int Hd_Int_mono (fun k i x q q' hx hd hq hB => ?_) (fun k q i hi => ?_) _ 0 q q' (by omega) (by simp only [lenI_eq]; omega) hq (by rw [List.drop_zero, sum_0] at hi; omega) (by rw [List.drop_zero] at hd; exact hd)
    · have hi := at_lt hx
      obtain ⟨e0, rfl⟩ := hd
      have w0 : w64 (q + 1) = q + 1 := w64_id (by omega)
      rw [laws_heldIntS.l0, lenI_eq, decide_eq_true (by omega), cond_true, getO_nat, hx, Option.bind_some]
      simp only [e0, w0, ne_eq, not_true_eq_false, decide_false, cond_false, Option.bind_some, bo3_self]
      rw [w64_succ (by omega)]
    · rw [laws_heldIntS.l0, lenI_eq, decide_eq_false (by omega), cond_false]
  · rw [List.drop_zero, sum_0] at hi; unfold sz_IntS; omega
def Hd_Change (x : Change) (q q' : Int) : Prop := ∃ q1, x.Table = q ∧ x.Had = decide (Int.tmod (q + 1) 3 = 0) ∧ x.Has = decide (Int.tmod (q + 1 + 1) 3 = 0) ∧ x.Old.Id = q + 1 + 1 + 1 ∧ laws_heldIntS.f x.Old.Cells (q + 1 + 1 + 1 + 1) = some q1 ∧ q + 1 + 1 + 1 + 1 ≤ q1 ∧ x.New.Id = q1 ∧ laws_heldIntS.f x.New.Cells (q1 + 1) = some q' ∧ q1 + 1 ≤ q'
theorem Hd_Change_mono (x : Change) (q q' : Int) (h : Hd_Change x q q') : q ≤ q' := by
  obtain ⟨q1, e0, e1, e2, e3, d4, l4, e5, d6, l6⟩ := h
  omega
theorem mark_ChangeS (l : List Change) (q : Int) (hq : 0 ≤ q) (hB : q + 16 * sz_ChangeS l ≤ 4611686018427387904) : ∃ l' q', laws_markChangeS.f l q = some (l', q') ∧ True ∧ q ≤ q' ∧ q' ≤ q + 16 * sz_ChangeS l := by
  unfold sz_ChangeS at hB
  have p0 := sum_nonneg sz_Change_0 l
  have step : ∀ k (i : Nat) (s : List Change) (x : Change) (q : Int), s.length = l.length → s[i]? = some x → 0 ≤ q → q + (fun x => 16 * (1 + sz_Change x)) x ≤ 4611686018427387904 → ∃ x' q', laws_markChangeS.l0 (k + 1) s q i = laws_markChangeS.l0 k (s.set i x') q' ((i + 1 : Nat) : Int) ∧ q ≤ q' ∧ q' ≤ q + (fun x => 16 * (1 + sz_Change x)) x ∧ Hd_Change x' q q' := by
    intro k i s x q hn hx hq hB
    have hi := at_lt hx
    have g0 : getO s i = some x := by rw [getO_nat, hx]
    have hB : q + 16 * (1 + sz_Change x) ≤ 4611686018427387904 := hB
    have hzx : sz_Change x ≤ 288230376151711744 := by omega
    simp only [sz_Change, sz_Row] at hB
    have p_Old_Cells := sz_IntS_0 x.Old.Cells
    have p_New_Cells := sz_IntS_0 x.New.Cells
    obtain ⟨c4, q1, m4, d4, a4, b4⟩ := mark_IntS x.Old.Cells (q + 1 + 1 + 1 + 1) (by omega) (by omega)
    obtain ⟨c6, q2, m6, d6, a6, b6⟩ := mark_IntS x.New.Cells (q1 + 1) (by omega) (by omega)
    have w0 : w64 (q + 1) = q + 1 := w64_id (by omega)
    have w1 : w64 (q + 1 + 1) = q + 1 + 1 := w64_id (by omega)
    have w2 : w64 (q + 1 + 1 + 1) = q + 1 + 1 + 1 := w64_id (by omega)
    have w3 : w64 (q + 1 + 1 + 1 + 1) = q + 1 + 1 + 1 + 1 := w64_id (by omega)
    have w5 : w64 (q1 + 1) = q1 + 1 := w64_id (by omega)
    refine ⟨(Change.mk (q) ((decide (Int.tmod (q + 1) 3 = 0))) ((decide (Int.tmod (q + 1 + 1) 3 = 0))) (Row.mk (q + 1 + 1 + 1) (c4)) (Row.mk (q1) (c6))), q2, ?_, by omega, ?_, ⟨q1, rfl, rfl, rfl, rfl, d4, a4, rfl, d6, a6⟩⟩
    · rw [laws_markChangeS.l0, lenI_eq, decide_eq_true (by omega), cond_true]
      simp only [g0, get_set g0, setI_setI, Option.bind_some, m4, m6, w0, w1, w2, w3, w5]
      rw [w64_succ (by omega), setI_nat]
    · show _ ≤ q + 16 * (1 + sz_Change x); simp only [sz_Change, sz_Row]; omega
  have last : ∀ k (s : List Change) (q : Int) (i : Nat), i = s.length → laws_markChangeS.l0 (k + 1) s q i = some (s, q) := by
    intro k s q i hi
    rw [laws_markChangeS.l0, lenI_eq, decide_eq_false (by omega), cond_false]
  obtain ⟨l', q', m, hl, _, lo, hi, hd⟩ := loop_mark (fm := laws_markChangeS.l0) l.length 4611686018427387904 (fun x => 16 * (1 + sz_Change x)) Hd_Change (fun x => by have := sz_Change_0 x; show 0 ≤ 16 * (1 + sz_Change x); omega) step last (((lenI l) - 0).toNat + 1) 0 l q rfl (by omega) (by simp only [lenI_eq]; omega) hq (by rw [List.drop_zero, sum_c sz_Change]; omega)
  refine ⟨l', q', m, ?_, lo, ?_⟩
  · trivial
  · rw [List.drop_zero, sum_c sz_Change] at hi; unfold sz_ChangeS; omega
def Hd_Cond (x : Cond) (q q' : Int) : Prop := x.Col = q ∧ x.Op = q + 1 ∧ x.V = q + 1 + 1 ∧ q' = q + 1 + 1 + 1
theorem Hd_Cond_mono (x : Cond) (q q' : Int) (h : Hd_Cond x q q') : q ≤ q' := by
  obtain ⟨e0, e1, e2, rfl⟩ := h
  omega
theorem mark_CondS (l : List Cond) (q : Int) (hq : 0 ≤ q) (hB : q + 16 * sz_CondS l ≤ 4611686018427387904) : ∃ l' q', laws_markCondS.f l q = some (l', q') ∧ laws_heldCondS.f l' q = some q' ∧ q ≤ q' ∧ q' ≤ q + 16 * sz_CondS l := by
  unfold sz_CondS at hB
  have hz : (l.length : Int) ≤ 288230376151711744 := by omega
  have step : ∀ k (i : Nat) (s : List Cond) (x : Cond) (q : Int), s.length = l.length → s[i]? = some x → 0 ≤ q → q + (fun _ => 16 * (1 + 0)) x ≤ 4611686018427387904 → ∃ x' q', laws_markCondS.l0 (k + 1) s q i = laws_markCondS.l0 k (s.set i x') q' ((i + 1 : Nat) : Int) ∧ q ≤ q' ∧ q' ≤ q + (fun _ => 16 * (1 + 0)) x ∧ Hd_Cond x' q q' := by
    intro k i s x q hn hx hq hB
    have hi := at_lt hx
    have g0 : getO s i = some x := by rw [getO_nat, hx]
    have hB : q + 16 * (1 + 0) ≤ 4611686018427387904 := hB
    have w0 : w64 (q + 1) = q + 1 := w64_id (by omega)
    have w1 : w64 (q + 1 + 1) = q + 1 + 1 := w64_id (by omega)
    have w2 : w64 (q + 1 + 1 + 1) = q + 1 + 1 + 1 := w64_id (by omega)
    refine ⟨(Cond.mk (q) (q + 1) (q + 1 + 1)), q + 1 + 1 + 1, ?_, by omega, ?_, ⟨rfl, rfl, rfl, rfl⟩⟩
    · rw [laws_markCondS.l0, lenI_eq, decide_eq_true (by omega), cond_true]
      simp only [g0, get_set g0, setI_setI, Option.bind_some, w0, w1, w2]
      rw [w64_succ (by omega), setI_nat]
    · show _ ≤ q + 16 * (1 + 0); omega
  have last : ∀ k (s : List Cond) (q : Int) (i : Nat), i = s.length → laws_markCondS.l0 (k + 1) s q i = some (s, q) := by
    intro k s q i hi
    rw [laws_markCondS.l0, lenI_eq, decide_eq_false (by omega), cond_false]
  obtain ⟨l', q', m, hl, _, lo, hi, hd⟩ := loop_mark (fm := laws_markCondS.l0) l.length 4611686018427387904 (fun _ => 16 * (1 + 0)) Hd_Cond (fun _ => by decide) step last (((lenI l) - 0).toNat + 1) 0 l q rfl (by omega) (by simp only [lenI_eq]; omega) hq (by rw [List.drop_zero, sum_0]; omega)
  refine ⟨l', q', m, ?_, lo, ?_⟩
  · unfold laws_heldCondS.f
    refine loop_held (fh := laws_heldCondS.l0 l') (l := l') Hd_Cond Hd_Cond_mono (fun k i x q q' hx hd hq hB => ?_) (fun k q i hi => ?_) _ 0 q q' (by omega) (by simp only [lenI_eq]; omega) hq (by rw [List.drop_zero, sum_0] at hi; omega) (by rw [List.drop_zero] at hd; exact hd)
    · have hi := at_lt hx
      obtain ⟨e0, e1, e2, rfl⟩ := hd
      have w0 : w64 (q + 1) = q + 1 := w64_id (by omega)
      have w1 : w64 (q + 1 + 1) = q + 1 + 1 := w64_id (by omega)
      have w2 : w64 (q + 1 + 1 + 1) = q + 1 + 1 + 1 := w64_id (by omega)
      rw [laws_heldCondS.l0, lenI_eq, decide_eq_true (by omega), cond_true, getO_nat, hx, Option.bind_some]
      simp only [e0, e1, e2, w0, w1, w2, ne_eq, not_true_eq_false, decide_false, cond_false, Option.bind_some, bo3_self]
      rw [w64_succ (by omega)]
    · rw [laws_heldCondS.l0, lenI_eq, decide_eq_false (by omega), cond_false]
  · rw [List.drop_zero, sum_0] at hi; unfold sz_CondS; omega
theorem mark_Query (x : Query) (q : Int) (hq : 0 ≤ q) (hB : q + 16 * sz_Query x ≤ 4611686018427387904) : ∃ s0 s1 q', laws_markQuery.f x q = some ((Query.mk x.Table s0 x.Order x.Down x.First s1 x.Kids x.KidTable x.KidCol), q') ∧ laws_heldQuery.f (Query.mk x.Table s0 x.Order x.Down x.First s1 x.Kids x.KidTable x.KidCol) q = some q' ∧ q ≤ q' ∧ q' ≤ q + 16 * sz_Query x := by
  unfold sz_Query at hB ⊢
  have p_Where := sz_CondS_0 x.Where
  have p_Show := sz_IntS_0 x.Show
  obtain ⟨s0, q0, m0, d0, a0, b0⟩ := mark_CondS x.Where q (by omega) (by omega)
  have n0 : ¬ q0 < 0 := by omega
  obtain ⟨s1, q1, m1, d1, a1, b1⟩ := mark_IntS x.Show q0 (by omega) (by omega)
  have n1 : ¬ q1 < 0 := by omega
  refine ⟨s0, s1, q1, ?_, ?_, by omega, by omega⟩
  · unfold laws_markQuery.f; simp only [m0, m1, Option.bind_some]
  · unfold laws_heldQuery.f; simp only [d0, n0, d1, n1, decide_false, cond_false, Option.bind_some]
def Hd_Row (x : Row) (q q' : Int) : Prop := x.Id = q ∧ laws_heldIntS.f x.Cells (q + 1) = some q' ∧ q + 1 ≤ q'
theorem Hd_Row_mono (x : Row) (q q' : Int) (h : Hd_Row x q q') : q ≤ q' := by
  obtain ⟨e0, d1, l1⟩ := h
  omega
theorem mark_RowS (l : List Row) (q : Int) (hq : 0 ≤ q) (hB : q + 16 * sz_RowS l ≤ 4611686018427387904) : ∃ l' q', laws_markRowS.f l q = some (l', q') ∧ laws_heldRowS.f l' q = some q' ∧ q ≤ q' ∧ q' ≤ q + 16 * sz_RowS l := by
  unfold sz_RowS at hB
  have p0 := sum_nonneg sz_Row_0 l
  have step : ∀ k (i : Nat) (s : List Row) (x : Row) (q : Int), s.length = l.length → s[i]? = some x → 0 ≤ q → q + (fun x => 16 * (1 + sz_Row x)) x ≤ 4611686018427387904 → ∃ x' q', laws_markRowS.l0 (k + 1) s q i = laws_markRowS.l0 k (s.set i x') q' ((i + 1 : Nat) : Int) ∧ q ≤ q' ∧ q' ≤ q + (fun x => 16 * (1 + sz_Row x)) x ∧ Hd_Row x' q q' := by
    intro k i s x q hn hx hq hB
    have hi := at_lt hx
    have g0 : getO s i = some x := by rw [getO_nat, hx]
    have hB : q + 16 * (1 + sz_Row x) ≤ 4611686018427387904 := hB
    have hzx : sz_Row x ≤ 288230376151711744 := by omega
    unfold sz_Row at hB
    have p_Cells := sz_IntS_0 x.Cells
    obtain ⟨c1, q1, m1, d1, a1, b1⟩ := mark_IntS x.Cells (q + 1) (by omega) (by omega)
    have w0 : w64 (q + 1) = q + 1 := w64_id (by omega)
    refine ⟨(Row.mk (q) (c1)), q1, ?_, by omega, ?_, ⟨rfl, d1, a1⟩⟩
    · rw [laws_markRowS.l0, lenI_eq, decide_eq_true (by omega), cond_true]
      simp only [g0, get_set g0, setI_setI, Option.bind_some, m1, w0]
      rw [w64_succ (by omega), setI_nat]
    · show _ ≤ q + 16 * (1 + sz_Row x); simp only [sz_Row]; omega
  have last : ∀ k (s : List Row) (q : Int) (i : Nat), i = s.length → laws_markRowS.l0 (k + 1) s q i = some (s, q) := by
    intro k s q i hi
    rw [laws_markRowS.l0, lenI_eq, decide_eq_false (by omega), cond_false]
  obtain ⟨l', q', m, hl, _, lo, hi, hd⟩ := loop_mark (fm := laws_markRowS.l0) l.length 4611686018427387904 (fun x => 16 * (1 + sz_Row x)) Hd_Row (fun x => by have := sz_Row_0 x; show 0 ≤ 16 * (1 + sz_Row x); omega) step last (((lenI l) - 0).toNat + 1) 0 l q rfl (by omega) (by simp only [lenI_eq]; omega) hq (by rw [List.drop_zero, sum_c sz_Row]; omega)
  refine ⟨l', q', m, ?_, lo, ?_⟩
  · unfold laws_heldRowS.f
    refine loop_held (fh := laws_heldRowS.l0 l') (l := l') Hd_Row Hd_Row_mono (fun k i x q q' hx hd hq hB => ?_) (fun k q i hi => ?_) _ 0 q q' (by omega) (by simp only [lenI_eq]; omega) hq (by rw [List.drop_zero, sum_c sz_Row] at hi; omega) (by rw [List.drop_zero] at hd; exact hd)
    · have hi := at_lt hx
      obtain ⟨e0, d1, l1⟩ := hd
      have w0 : w64 (q + 1) = q + 1 := w64_id (by omega)
      have n1 : ¬ q' < 0 := by omega
      rw [laws_heldRowS.l0, lenI_eq, decide_eq_true (by omega), cond_true, getO_nat, hx, Option.bind_some]
      simp only [e0, d1, n1, w0, ne_eq, not_true_eq_false, decide_false, cond_false, Option.bind_some, bo3_self]
      rw [w64_succ (by omega)]
    · rw [laws_heldRowS.l0, lenI_eq, decide_eq_false (by omega), cond_false]
  · rw [List.drop_zero, sum_c sz_Row] at hi; unfold sz_RowS; omega
def Hd_Kid (x : Kid) (q q' : Int) : Prop := x.Id = q ∧ x.N = q + 1 ∧ q' = q + 1 + 1
theorem Hd_Kid_mono (x : Kid) (q q' : Int) (h : Hd_Kid x q q') : q ≤ q' := by
  obtain ⟨e0, e1, rfl⟩ := h
  omega
theorem mark_KidS (l : List Kid) (q : Int) (hq : 0 ≤ q) (hB : q + 16 * sz_KidS l ≤ 4611686018427387904) : ∃ l' q', laws_markKidS.f l q = some (l', q') ∧ laws_heldKidS.f l' q = some q' ∧ q ≤ q' ∧ q' ≤ q + 16 * sz_KidS l := by
  unfold sz_KidS at hB
  have hz : (l.length : Int) ≤ 288230376151711744 := by omega
  have step : ∀ k (i : Nat) (s : List Kid) (x : Kid) (q : Int), s.length = l.length → s[i]? = some x → 0 ≤ q → q + (fun _ => 16 * (1 + 0)) x ≤ 4611686018427387904 → ∃ x' q', laws_markKidS.l0 (k + 1) s q i = laws_markKidS.l0 k (s.set i x') q' ((i + 1 : Nat) : Int) ∧ q ≤ q' ∧ q' ≤ q + (fun _ => 16 * (1 + 0)) x ∧ Hd_Kid x' q q' := by
    intro k i s x q hn hx hq hB
    have hi := at_lt hx
    have g0 : getO s i = some x := by rw [getO_nat, hx]
    have hB : q + 16 * (1 + 0) ≤ 4611686018427387904 := hB
    have w0 : w64 (q + 1) = q + 1 := w64_id (by omega)
    have w1 : w64 (q + 1 + 1) = q + 1 + 1 := w64_id (by omega)
    refine ⟨(Kid.mk (q) (q + 1)), q + 1 + 1, ?_, by omega, ?_, ⟨rfl, rfl, rfl⟩⟩
    · rw [laws_markKidS.l0, lenI_eq, decide_eq_true (by omega), cond_true]
      simp only [g0, get_set g0, setI_setI, Option.bind_some, w0, w1]
      rw [w64_succ (by omega), setI_nat]
    · show _ ≤ q + 16 * (1 + 0); omega
  have last : ∀ k (s : List Kid) (q : Int) (i : Nat), i = s.length → laws_markKidS.l0 (k + 1) s q i = some (s, q) := by
    intro k s q i hi
    rw [laws_markKidS.l0, lenI_eq, decide_eq_false (by omega), cond_false]
  obtain ⟨l', q', m, hl, _, lo, hi, hd⟩ := loop_mark (fm := laws_markKidS.l0) l.length 4611686018427387904 (fun _ => 16 * (1 + 0)) Hd_Kid (fun _ => by decide) step last (((lenI l) - 0).toNat + 1) 0 l q rfl (by omega) (by simp only [lenI_eq]; omega) hq (by rw [List.drop_zero, sum_0]; omega)
  refine ⟨l', q', m, ?_, lo, ?_⟩
  · unfold laws_heldKidS.f
    refine loop_held (fh := laws_heldKidS.l0 l') (l := l') Hd_Kid Hd_Kid_mono (fun k i x q q' hx hd hq hB => ?_) (fun k q i hi => ?_) _ 0 q q' (by omega) (by simp only [lenI_eq]; omega) hq (by rw [List.drop_zero, sum_0] at hi; omega) (by rw [List.drop_zero] at hd; exact hd)
    · have hi := at_lt hx
      obtain ⟨e0, e1, rfl⟩ := hd
      have w0 : w64 (q + 1) = q + 1 := w64_id (by omega)
      have w1 : w64 (q + 1 + 1) = q + 1 + 1 := w64_id (by omega)
      rw [laws_heldKidS.l0, lenI_eq, decide_eq_true (by omega), cond_true, getO_nat, hx, Option.bind_some]
      simp only [e0, e1, w0, w1, ne_eq, not_true_eq_false, decide_false, cond_false, Option.bind_some, bo3_self]
      rw [w64_succ (by omega)]
    · rw [laws_heldKidS.l0, lenI_eq, decide_eq_false (by omega), cond_false]
  · rw [List.drop_zero, sum_0] at hi; unfold sz_KidS; omega
theorem mark_View (x : View) (q : Int) (hq : 0 ≤ q) (hB : q + 16 * sz_View x ≤ 4611686018427387904) : ∃ s0 s1 s2 s3 q', laws_markView.f x q = some ((View.mk (Query.mk x.Q.Table s0 x.Q.Order x.Q.Down x.Q.First s1 x.Q.Kids x.Q.KidTable x.Q.KidCol) s2 s3), q') ∧ laws_heldView.f (View.mk (Query.mk x.Q.Table s0 x.Q.Order x.Q.Down x.Q.First s1 x.Q.Kids x.Q.KidTable x.Q.KidCol) s2 s3) q = some q' ∧ q ≤ q' ∧ q' ≤ q + 16 * sz_View x := by
  unfold sz_View at hB ⊢
  have p_Q := sz_Query_0 x.Q
  have p_Rows := sz_RowS_0 x.Rows
  have p_Kids := sz_KidS_0 x.Kids
  obtain ⟨s0, s1, q0, m0, d0, a0, b0⟩ := mark_Query x.Q q (by omega) (by omega)
  have n0 : ¬ q0 < 0 := by omega
  obtain ⟨s2, q1, m1, d1, a1, b1⟩ := mark_RowS x.Rows q0 (by omega) (by omega)
  have n1 : ¬ q1 < 0 := by omega
  obtain ⟨s3, q2, m2, d2, a2, b2⟩ := mark_KidS x.Kids q1 (by omega) (by omega)
  have n2 : ¬ q2 < 0 := by omega
  refine ⟨s0, s1, s2, s3, q2, ?_, ?_, by omega, by omega⟩
  · unfold laws_markView.f; simp only [m0, m1, m2, Option.bind_some]
  · unfold laws_heldView.f; simp only [d0, n0, d1, n1, d2, n2, decide_false, cond_false, Option.bind_some]
theorem row_len {r : Row} {B : Int} (h : sz_Row r ≤ B) : (r.Cells.length : Int) ≤ B := by unfold sz_Row sz_IntS at h; exact h

theorem spec_l6Copy_eq (r : Row) (h : sz_Row r ≤ 1099511627776) : spec_l6Copy.f r = some r := by
  have := row_len h
  unfold spec_l6Copy.f
  rw [appO_ok (by simp only [List.length_nil]; omega), Option.bind_some, List.nil_append]

theorem spec_l6Rows_eq (l : List Row) (h : sz_RowS l ≤ 1099511627776) : spec_l6Rows.f l = some l := by
  unfold sz_RowS at h
  have p := sum_nonneg sz_Row_0 l
  unfold spec_l6Rows.f
  refine loop_copy (f := spec_l6Rows.l0 l) (l := l) some (fun k i x hx => ?_) (fun k s i hi => ?_) _ 0 (by omega) (by (try simp only [lenI_eq]); omega)
  · have hi := at_lt hx
    have hm := sum_mem sz_Row_0 (List.mem_of_getElem? hx)
    rw [spec_l6Rows.l0, lenI_eq, decide_eq_true (by omega), cond_true, getO_nat, hx, Option.bind_some, spec_l6Copy_eq x (by omega), Option.bind_some, Option.bind_some, appO_ok (by simp only [List.length_take, List.length_cons, List.length_nil]; omega), Option.bind_some, w64_succ (by omega)]
  · rw [spec_l6Rows.l0, lenI_eq, decide_eq_false (by omega), cond_false]

theorem spec_l9Copy_eq (q : Query) (h : sz_Query q ≤ 1099511627776) : spec_l9Copy.f q = some q := by
  have p1 := sz_CondS_0 q.Where
  have p2 := sz_IntS_0 q.Show
  unfold sz_Query at h
  unfold sz_CondS at p1 h
  unfold sz_IntS at p2 h
  unfold spec_l9Copy.f
  rw [appO_ok (by simp only [List.length_nil]; omega), Option.bind_some, appO_ok (by simp only [List.length_nil]; omega), Option.bind_some]
  rfl

theorem spec_l13Copy_eq (v : View) (h : sz_View v ≤ 1099511627776) : spec_l13Copy.f v = some v := by
  have p1 := sz_Query_0 v.Q
  have p2 := sz_RowS_0 v.Rows
  have p3 := sz_KidS_0 v.Kids
  unfold sz_View at h
  unfold sz_KidS at p3 h
  unfold spec_l13Copy.f
  rw [spec_l9Copy_eq _ (by omega), Option.bind_some, spec_l6Rows_eq _ (by omega), Option.bind_some, appO_ok (by simp only [List.length_nil]; omega), Option.bind_some]
  rfl

theorem spec_l1In_eq (x y z : Int) : spec_l1In.f x y z = some (decide (y ≤ x ∧ x ≤ z)) := by
  unfold spec_l1In.f
  rw [bo3_and, Bool.decide_and]

def cmpB (op v z : Int) : Bool := if op = 1 then decide (v = z) else if op = 2 then decide (v < z) else if op = 3 then decide (z < v) else if op = 4 then decide (v ≠ z) else false
def holdsB (c : Cond) (r : Row) : Bool := decide (0 ≤ c.Col ∧ c.Col ≤ (r.Cells.length : Int) - 1) && cmpB c.Op (r.Cells.getD c.Col.toNat 0) c.V
def matchesB (q : Query) (r : Row) : Bool := q.Where.all fun c => holdsB c r

theorem spec_l9Holds_eq (c : Cond) (r : Row) (h : Row_b r) : spec_l9Holds.f c r = some (holdsB c r) := by
  have hl : r.Cells.length ≤ 9223372036854775807 := h
  unfold spec_l9Holds.f holdsB
  rw [lenI_eq, w64_id (by omega), spec_l1In_eq, Option.bind_some, bo3_not]
  by_cases d : 0 ≤ c.Col ∧ c.Col ≤ (r.Cells.length : Int) - 1
  · rw [decide_eq_true d, Bool.not_true, cond_false, getO_Int d, Option.bind_some, Bool.true_and]
    simp only [cond_ite, decide_eq_true_eq, some_if, bo3_and, cmpB]
    all_goals ((repeat' split) <;> simp_all)
  · rw [decide_eq_false d, Bool.not_false, cond_true, Bool.false_and]

theorem spec_Matches_eq (q : Query) (r : Row) (hq : CondS_b q.Where) (h : Row_b r) : spec_Matches.f q r = some (matchesB q r) := by
  have hl : q.Where.length ≤ 9223372036854775807 := hq
  unfold spec_Matches.f
  refine (loop_all (f := spec_Matches.l0 q r) (l := q.Where) (fun _ c => holdsB c r) (some false) (some true) (fun k i x hx => ?_) (fun k i hi => ?_) _ 0 (by omega) (by (try simp only [lenI_eq]); omega)).trans ?_
  · have hi := at_lt hx
    rw [spec_Matches.l0, lenI_eq, decide_eq_true (by omega), cond_true, getO_nat, hx, Option.bind_some, spec_l9Holds_eq _ _ h, Option.bind_some, bo3_not, w64_succ (by omega)]
    cases holdsB x r <;> rfl
  · rw [spec_Matches.l0, lenI_eq, decide_eq_false (by omega), cond_false]
  · rw [allFrom_zero, matchesB]
    cases q.Where.all fun c => holdsB c r <;> rfl

def rowAtF : List Row → Int → Int → Int
  | [], _, _ => -1
  | r :: l, id, i => if r.Id = id then i else rowAtF l id (i + 1)

theorem spec_RowAt_eq (l : List Row) (id : Int) (h : l.length ≤ 9223372036854775807) : spec_RowAt.f l id = some (rowAtF l id 0) := by
  have key : ∀ (k i : Nat), i ≤ l.length → l.length < i + k → spec_RowAt.l0 l id k i = some (rowAtF (l.drop i) id i) := by
    intro k
    induction k with
    | zero => intro i h h'; omega
    | succ k ih =>
      intro i h h'
      by_cases hi : i < l.length
      · have hx : l[i]? = some l[i] := List.getElem?_eq_getElem hi
        rw [spec_RowAt.l0, lenI_eq, decide_eq_true (by omega), cond_true, getO_nat, hx, Option.bind_some, List.drop_eq_getElem_cons hi, rowAtF, w64_succ (by omega)]
        by_cases e : (l[i]).Id = id
        · rw [decide_eq_true e, cond_true, if_pos e]
        · rw [decide_eq_false e, cond_false, if_neg e]
          exact ih (i + 1) (by omega) (by omega)
      · rw [spec_RowAt.l0, lenI_eq, decide_eq_false (by omega), cond_false, List.drop_eq_nil_of_le (by omega), rowAtF]
  have := key (((lenI l) - 0).toNat + 1) 0 (by omega) (by simp only [lenI_eq]; omega)
  rw [List.drop_zero] at this
  exact this

def isId (id : Int) (r : Row) : Bool := decide (r.Id = id)
def isGt (id : Int) (r : Row) : Bool := decide (id < r.Id)
def idxI (p : Row → Bool) (l : List Row) : Int := if l.findIdx p < l.length then (l.findIdx p : Int) else -1
def rowDropF (l : List Row) (id : Int) : List Row := l.eraseIdx (l.findIdx (isId id))
def rowPutF (l : List Row) (r : Row) : List Row := if l.findIdx (isId r.Id) < l.length then l.set (l.findIdx (isId r.Id)) r else l.take (l.findIdx (isGt r.Id)) ++ [r] ++ l.drop (l.findIdx (isGt r.Id))
theorem rowAtF_idx : ∀ (l : List Row) (id i : Int), rowAtF l id i = if l.findIdx (isId id) < l.length then i + (l.findIdx (isId id) : Int) else -1
  | [], _, _ => rfl
  | r :: l, id, i => by
    rw [rowAtF, rowAtF_idx l id (i + 1), List.findIdx_cons]
    by_cases e : r.Id = id
    · rw [if_pos e, isId, decide_eq_true e]; simp
    · rw [if_neg e, isId, decide_eq_false e]
      simp only [cond_false, List.length_cons]
      by_cases h : l.findIdx (isId id) < l.length
      · rw [if_pos h, if_pos (by omega)]; omega
      · rw [if_neg h, if_neg (by omega)]
theorem rowAt_0 (l : List Row) (id : Int) : rowAtF l id 0 = idxI (isId id) l := by
  rw [rowAtF_idx, idxI]
  split
  · omega
  · rfl
theorem idxI_nn {p : Row → Bool} {l : List Row} : 0 ≤ idxI p l ↔ l.findIdx p < l.length := by
  unfold idxI
  split
  · simp_all
  · simp_all
theorem idxI_pos {p : Row → Bool} {l : List Row} (h : l.findIdx p < l.length) : idxI p l = (l.findIdx p : Int) := if_pos h
theorem idxI_neg {p : Row → Bool} {l : List Row} (h : ¬ l.findIdx p < l.length) : idxI p l = -1 := if_neg h
theorem sum_append {α : Type} (s : α → Int) (a b : List α) : ((a ++ b).map s).sum = (a.map s).sum + (b.map s).sum := by rw [List.map_append, List.sum_append]
theorem sum_take_drop {α : Type} (s : α → Int) (l : List α) (k : Nat) : (l.map s).sum = ((l.take k).map s).sum + ((l.drop k).map s).sum := by rw [← sum_append, List.take_append_drop]
theorem sum_set {α : Type} {s : α → Int} (hs : ∀ x, 0 ≤ s x) (x : α) : ∀ (l : List α) (i : Nat), ((l.set i x).map s).sum ≤ (l.map s).sum + s x
  | [], i => by simp [hs x]
  | a :: l, 0 => by simp only [List.set_cons_zero, List.map_cons, List.sum_cons]; have := hs a; omega
  | a :: l, i + 1 => by simp only [List.set_cons_succ, List.map_cons, List.sum_cons]; have := sum_set hs x l i; omega
theorem sum_erase {α : Type} {s : α → Int} (hs : ∀ x, 0 ≤ s x) : ∀ (l : List α) (i : Nat), ((l.eraseIdx i).map s).sum ≤ (l.map s).sum
  | [], i => by simp
  | a :: l, 0 => by simp only [List.eraseIdx_cons_zero, List.map_cons, List.sum_cons]; have := hs a; omega
  | a :: l, i + 1 => by simp only [List.eraseIdx_cons_succ, List.map_cons, List.sum_cons]; have := sum_erase hs l i; omega
theorem rowDrop_len (l : List Row) (id : Int) : (rowDropF l id).length ≤ l.length := by unfold rowDropF; rw [List.length_eraseIdx]; split <;> omega
theorem rowDrop_sz (l : List Row) (id : Int) : sz_RowS (rowDropF l id) ≤ sz_RowS l := by
  have h1 := rowDrop_len l id
  have h2 := sum_erase sz_Row_0 l (l.findIdx (isId id))
  unfold sz_RowS
  unfold rowDropF at *
  omega
theorem rowPut_len (l : List Row) (r : Row) : (rowPutF l r).length ≤ l.length + 1 := by
  unfold rowPutF
  split
  · rw [List.length_set]; omega
  · simp; omega
theorem rowPut_sz (l : List Row) (r : Row) : sz_RowS (rowPutF l r) ≤ sz_RowS l + 1 + sz_Row r := by
  have h1 := rowPut_len l r
  unfold sz_RowS
  have h2 : ((rowPutF l r).map sz_Row).sum ≤ (l.map sz_Row).sum + sz_Row r := by
    unfold rowPutF
    split
    · exact sum_set sz_Row_0 r l _
    · rw [sum_append, sum_append, sum_take_drop sz_Row l (l.findIdx (isGt r.Id))]
      simp
      omega
  omega
theorem mem_rowDrop {l : List Row} {id : Int} {x : Row} (h : x ∈ rowDropF l id) : x ∈ l := List.mem_of_mem_eraseIdx h
theorem mem_rowPut {l : List Row} {r x : Row} (h : x ∈ rowPutF l r) : x = r ∨ x ∈ l := by
  unfold rowPutF at h
  split at h
  · rcases List.mem_or_eq_of_mem_set h with h | h
    · exact .inr h
    · exact .inl h
  · rcases List.mem_append.1 h with h | h
    · rcases List.mem_append.1 h with h | h
      · exact .inr (List.mem_of_mem_take h)
      · exact .inl (List.mem_singleton.1 h)
    · exact .inr (List.mem_of_mem_drop h)
theorem rowDrop_b {l : List Row} (h : RowS_b l) (id : Int) : RowS_b (rowDropF l id) := ⟨by have := rowDrop_len l id; have := h.1; omega, fun x hx => h.2 x (mem_rowDrop hx)⟩
theorem rowPut_b {l : List Row} (h : RowS_b l) (hl : l.length < 9223372036854775807) {r : Row} (hr : Row_b r) : RowS_b (rowPutF l r) := ⟨by have := rowPut_len l r; omega, fun x hx => by
  rcases mem_rowPut hx with rfl | hx
  · exact hr
  · exact h.2 x hx⟩
theorem findIdx_take {α : Type} (p : α → Bool) (l : List α) {i : Nat} {x : α} (hx : l[i]? = some x) : (l.take (i + 1)).findIdx p = if (l.take i).findIdx p < i then (l.take i).findIdx p else if p x then i else i + 1 := by
  have hi := at_lt hx
  have hl : (l.take i).length = i := by rw [List.length_take]; omega
  rw [take_snoc hx, List.findIdx_append, hl]
  by_cases h : (l.take i).findIdx p < i
  · rw [if_pos h, if_pos h]
  · rw [if_neg h, if_neg h]
    cases hp : p x <;> simp [List.findIdx_cons, hp] <;> omega

theorem spec_RowDrop_eq (l : List Row) (id : Int) (h : sz_RowS l ≤ 1099511627776) : spec_RowDrop.f l id = some (rowDropF l id) := by
  unfold sz_RowS at h
  have p := sum_nonneg sz_Row_0 l
  unfold spec_RowDrop.f
  rw [spec_RowAt_eq _ _ (by omega), Option.bind_some, rowAt_0]
  generalize hd : l.findIdx (isId id) = d
  have key : ∀ (k i : Nat), i ≤ l.length → l.length < i + k → spec_RowDrop.l0 l (idxI (isId id) l) k ((l.take i).eraseIdx d) i = some (rowDropF l id) := by
    intro k
    induction k with
    | zero => intro i h h'; omega
    | succ k ih =>
      intro i h0 h'
      by_cases hi : i < l.length
      · have hx : l[i]? = some l[i] := List.getElem?_eq_getElem hi
        have hm := sum_mem sz_Row_0 (List.mem_of_getElem? hx)
        have ht : (l.take i).length = i := by rw [List.length_take]; omega
        rw [spec_RowDrop.l0, lenI_eq, decide_eq_true (by omega), cond_true]
        have hs := ih (i + 1) (by omega) (by omega)
        rw [take_snoc hx] at hs
        by_cases e : d = i
        · have ei : idxI (isId id) l = (i : Int) := by rw [idxI_pos (by omega), hd, e]
          rw [ei] at hs ⊢
          rw [decide_eq_false (by omega), cond_false, w64_succ (by omega)]
          rw [e] at hs ⊢
          rw [List.eraseIdx_of_length_le (by omega)]
          rw [List.eraseIdx_append_of_length_le (by omega), ht] at hs
          simpa using hs
        · have ei : ¬ (i : Int) = idxI (isId id) l := by
            unfold idxI; split <;> omega
          rw [decide_eq_true ei, cond_true, getO_nat, hx, Option.bind_some, spec_l6Copy_eq _ (by omega), Option.bind_some, Option.bind_some, appO_ok (by
            have : ((l.take i).eraseIdx d).length ≤ i := by rw [List.length_eraseIdx]; split <;> omega
            simp only [List.length_cons, List.length_nil]; omega), Option.bind_some, w64_succ (by omega)]
          by_cases e2 : d < i
          · rw [List.eraseIdx_append_of_lt_length (by omega)] at hs
            exact hs
          · rw [List.eraseIdx_of_length_le (by simp; omega)] at hs
            rw [List.eraseIdx_of_length_le (by omega)]
            exact hs
      · rw [spec_RowDrop.l0, lenI_eq, decide_eq_false (by omega), cond_false, List.take_of_length_le (by omega), ← hd]
        rfl
  have := key (((lenI l) - 0).toNat + 1) 0 (by omega) (by simp only [lenI_eq]; omega)
  rw [List.take_zero, List.eraseIdx_nil] at this
  exact this

def cellF (r : Row) (col : Int) : Int := if 0 ≤ col ∧ col ≤ (r.Cells.length : Int) - 1 then r.Cells.getD col.toNat 0 else 0
def aheadB (q : Query) (a b : Row) : Bool :=
  if q.Order = 0 then decide (a.Id < b.Id) else
    let x := cellF a (w64 (q.Order - 1)); let y := cellF b (w64 (q.Order - 1))
    if x = y then decide (a.Id < b.Id) else if q.Down then decide (y < x) else decide (x < y)

theorem spec_l9Cell_eq (r : Row) (col : Int) (h : Row_b r) : spec_l9Cell.f r col = some (cellF r col) := by
  have hl : r.Cells.length ≤ 9223372036854775807 := h
  unfold spec_l9Cell.f cellF
  rw [lenI_eq, w64_id (by omega), spec_l1In_eq, Option.bind_some, bo3_not]
  by_cases d : 0 ≤ col ∧ col ≤ (r.Cells.length : Int) - 1
  · rw [decide_eq_true d, Bool.not_true, cond_false, getO_Int d, Option.bind_some, if_pos d]
  · rw [decide_eq_false d, Bool.not_false, cond_true, if_neg d]

theorem spec_Ahead_eq (q : Query) (a b : Row) (ha : Row_b a) (hb : Row_b b) : spec_Ahead.f q a b = some (aheadB q a b) := by
  unfold spec_Ahead.f aheadB
  rw [spec_l9Cell_eq _ _ ha, spec_l9Cell_eq _ _ hb]
  simp only [Option.bind_some, cond_ite, decide_eq_true_eq, some_if, bo3_not, bo3_xor, ne_eq, ite_not]
  all_goals (
    generalize cellF a (w64 (q.Order - 1)) = x
    generalize cellF b (w64 (q.Order - 1)) = y
    by_cases h0 : q.Order = 0
    · simp [h0]
    · by_cases h1 : x = y
      · simp [h0, h1]
      · cases hd : q.Down with
        | true =>
          simp only [h0, h1, if_false, if_true, Option.some.injEq, decide_eq_true_eq]
          by_cases h2 : x < y
          · simp [h2]; try omega
          · simp [h2]; try omega
        | false =>
          simp only [h0, h1, if_false, Option.some.injEq, decide_eq_true_eq]
          by_cases h2 : x < y
          · simp [h2]; try omega
          · simp [h2]; try omega)

def isKid (id : Int) (k : Kid) : Bool := decide (id ≤ k.Id)
def kidPutF (l : List Kid) (id by_ : Int) : List Kid :=
  match l[l.findIdx (isKid id)]? with
  | some k => if k.Id = id then (if 0 < w64 (k.N + by_) then l.set (l.findIdx (isKid id)) ⟨id, w64 (k.N + by_)⟩ else l.eraseIdx (l.findIdx (isKid id)))
    else (if 0 < by_ then l.take (l.findIdx (isKid id)) ++ [⟨id, by_⟩] ++ l.drop (l.findIdx (isKid id)) else l)
  | none => if 0 < by_ then l ++ [⟨id, by_⟩] else l
def kidMid (l : List Kid) (id by_ : Int) : List Kid :=
  match l[l.findIdx (isKid id)]? with
  | some k => if k.Id = id then (if 0 < w64 (k.N + by_) then l.set (l.findIdx (isKid id)) ⟨id, w64 (k.N + by_)⟩ else l.eraseIdx (l.findIdx (isKid id)))
    else (if 0 < by_ then l.take (l.findIdx (isKid id)) ++ [⟨id, by_⟩] ++ l.drop (l.findIdx (isKid id)) else l)
  | none => l
theorem kid_mid {l : List Kid} {id by_ : Int} (h : l.findIdx (isKid id) < l.length) : kidMid l id by_ = kidPutF l id by_ := by
  unfold kidMid kidPutF
  rw [List.getElem?_eq_getElem h]
theorem kidPut_len (l : List Kid) (id by_ : Int) : (kidPutF l id by_).length ≤ l.length + 1 := by
  unfold kidPutF
  split
  · split
    · split
      · rw [List.length_set]; omega
      · rw [List.length_eraseIdx]; split <;> omega
    · split
      · simp; omega
      · omega
  · split
    · simp
    · omega
theorem findIdx_takeA {α : Type} (p : α → Bool) (l : List α) {i : Nat} {x : α} (hx : l[i]? = some x) (hn : ¬ (l.take i).findIdx p < i) : (p x = true → l.findIdx p = i) ∧ (p x = false → ¬ (l.take (i + 1)).findIdx p < i + 1) := by
  have hi := at_lt hx
  have hl : (l.take i).length = i := by rw [List.length_take]; omega
  constructor
  · intro hp
    have e : l = l.take i ++ x :: l.drop (i + 1) := by
      conv => lhs; rw [← List.take_append_drop i l, List.drop_eq_getElem_cons hi]
      rw [List.getElem?_eq_getElem hi] at hx
      rw [Option.some.inj hx]
    rw [e, List.findIdx_append, hl, if_neg hn, List.findIdx_cons, hp]
    simp
  · intro hp
    rw [take_snoc hx, List.findIdx_append, hl, if_neg hn, List.findIdx_cons, hp]
    simp
    omega

def putF (q : Query) (l : List Row) (r : Row) : List Row := l.take (l.findIdx (aheadB q r)) ++ [r] ++ l.drop (l.findIdx (aheadB q r))
theorem put_len (q : Query) (l : List Row) (r : Row) : (putF q l r).length = l.length + 1 := by
  have hle := List.findIdx_le_length (xs := l) (p := aheadB q r)
  simp [putF]; omega
theorem put_sz (q : Query) (l : List Row) (r : Row) : sz_RowS (putF q l r) = sz_RowS l + 1 + sz_Row r := by
  have h1 := put_len q l r
  unfold sz_RowS
  have h2 : ((putF q l r).map sz_Row).sum = (l.map sz_Row).sum + sz_Row r := by
    unfold putF
    rw [sum_append, sum_append, sum_take_drop sz_Row l (l.findIdx (aheadB q r))]
    simp
    omega
  omega
theorem mem_put {q : Query} {l : List Row} {r x : Row} (h : x ∈ putF q l r) : x = r ∨ x ∈ l := by
  unfold putF at h
  rcases List.mem_append.1 h with h | h
  · rcases List.mem_append.1 h with h | h
    · exact .inr (List.mem_of_mem_take h)
    · exact .inl (List.mem_singleton.1 h)
  · exact .inr (List.mem_of_mem_drop h)

theorem spec_l11Put_2 (q : Query) (l : List Row) (r : Row) (K : List Row → Bool → Int → Option (List Row)) : ∀ (k i : Nat) (acc : List Row), i ≤ l.length → l.length < i + k → (acc.length : Int) + (l.length - i : Nat) ≤ 1099511627777 → (l.length : Int) ≤ 1099511627776 →
    spec_l11Put.l0 q l r K k acc true i = K (acc ++ l.drop i) true l.length := by
  intro k
  induction k with
  | zero => intro i acc h h'; omega
  | succ k ih =>
    intro i acc h h' hz hl
    by_cases hi : i < l.length
    · have hx : l[i]? = some l[i] := List.getElem?_eq_getElem hi
      rw [spec_l11Put.l0, lenI_eq, decide_eq_true (by omega), cond_true, bo3_T, gd_false, Option.bind_some, gd_false, Option.bind_some, bo3_F, cond_false, getO_nat, hx, Option.bind_some, ltO, if_pos (by omega), Option.bind_some, Option.bind_some, appO_ok (by simp only [List.length_cons, List.length_nil]; omega), Option.bind_some, w64_succ (by omega), ih (i + 1) _ (by omega) (by omega) (by simp only [List.length_append, List.length_cons, List.length_nil]; omega) hl, List.drop_eq_getElem_cons hi]
      simp
    · obtain rfl : i = l.length := by omega
      rw [spec_l11Put.l0, lenI_eq, decide_eq_false (by omega), cond_false, List.drop_eq_nil_of_le (by omega), List.append_nil]
theorem spec_l11Put_1 (q : Query) (l : List Row) (r : Row) (hl : (l.length : Int) ≤ 1099511627776) (hb : ∀ x ∈ l, Row_b x) (hr : Row_b r) (hz : sz_Row r ≤ 1099511627776) : ∀ (k i : Nat), i ≤ l.length → l.length < i + k → ¬ (l.take i).findIdx (aheadB q r) < i →
    spec_l11Put.l0 q l r (fun y1 y2 y3 => bif (bo3 y2 false true) then (spec_l6Copy.f r).bind fun r48 => (some [r48]).bind fun l49 => (appO 32 y1 l49).bind fun l50 => some l50 else some y1) k (l.take i) false i = some (putF q l r) := by
  intro k
  induction k with
  | zero => intro i h h'; omega
  | succ k ih =>
    intro i h h' hn
    by_cases hi : i < l.length
    · have hx : l[i]? = some l[i] := List.getElem?_eq_getElem hi
      have ht : (l.take i).length = i := by rw [List.length_take]; omega
      obtain ⟨f1, f2⟩ := findIdx_takeA (aheadB q r) l hx hn
      rw [spec_l11Put.l0, lenI_eq, decide_eq_true (by omega), cond_true, bo3_F, gd_true, getO_nat, hx, Option.bind_some, gd_true, spec_Ahead_eq q r _ hr (hb _ (List.getElem_mem hi)), Option.bind_some, bo3_T, w64_succ (by omega)]
      cases hp : aheadB q r l[i] with
      | false =>
        rw [cond_false, Option.bind_some, ltO, if_pos (by omega), Option.bind_some, Option.bind_some, appO_ok (by simp only [ht, List.length_cons, List.length_nil]; omega), Option.bind_some, ← take_snoc hx]
        exact ih (i + 1) (by omega) (by omega) (f2 hp)
      | true =>
        rw [cond_true, spec_l6Copy_eq _ hz, Option.bind_some, Option.bind_some, appO_ok (by simp only [ht, List.length_cons, List.length_nil]; omega), Option.bind_some, Option.bind_some, ltO, if_pos (by omega), Option.bind_some, Option.bind_some, appO_ok (by simp only [List.length_append, ht, List.length_cons, List.length_nil]; omega), Option.bind_some, spec_l11Put_2 q l r _ k (i + 1) _ (by omega) (by omega) (by simp only [List.length_append, ht, List.length_cons, List.length_nil]; omega) hl, bo3_T, cond_false]
        unfold putF
        rw [f1 hp, List.drop_eq_getElem_cons hi]
        simp
    · rw [List.take_of_length_le (by omega)] at hn ⊢
      have hle := List.findIdx_le_length (xs := l) (p := aheadB q r)
      have e : l.findIdx (aheadB q r) = l.length := by omega
      rw [spec_l11Put.l0, lenI_eq, decide_eq_false (by omega), cond_false, bo3_F, cond_true, spec_l6Copy_eq _ hz, Option.bind_some, Option.bind_some, appO_ok (by simp only [List.length_cons, List.length_nil]; omega), Option.bind_some]
      unfold putF
      rw [e, List.take_length, List.drop_length, List.append_nil]
theorem spec_l11Put_eq (q : Query) (l : List Row) (r : Row) (hl : (l.length : Int) ≤ 1099511627776) (hb : ∀ x ∈ l, Row_b x) (hr : Row_b r) (hz : sz_Row r ≤ 1099511627776) : spec_l11Put.f q l r = some (putF q l r) := by
  unfold spec_l11Put.f
  simp only [joinK]
  have := spec_l11Put_1 q l r hl hb hr hz (((lenI l) - 0).toNat + 1) 0 (by omega) (by rw [lenI_eq]; omega) (by omega)
  rw [List.take_zero] at this
  exact this

theorem spec_KidPut_2 (l : List Kid) (id by_ : Int) (K : List Kid → Bool → Option (List Kid)) : ∀ (k i : Nat) (acc : List Kid), i ≤ l.length → l.length < i + k → (acc.length : Int) + (l.length - i : Nat) ≤ 1099511627777 → (l.length : Int) ≤ 1099511627776 →
    spec_KidPut.l0 l id by_ K k acc true i = K (acc ++ l.drop i) true := by
  intro k
  induction k with
  | zero => intro i acc h h'; omega
  | succ k ih =>
    intro i acc h h' hz hl
    by_cases hi : i < l.length
    · have hx : l[i]? = some l[i] := List.getElem?_eq_getElem hi
      rw [spec_KidPut.l0, lenI_eq, decide_eq_true (by omega), cond_true, getO_nat, hx, Option.bind_some, bo3_T, bo3_F, cond_false, Option.bind_some, appO_ok (by simp only [List.length_cons, List.length_nil]; omega), Option.bind_some, w64_succ (by omega), ih (i + 1) _ (by omega) (by omega) (by simp only [List.length_append, List.length_cons, List.length_nil]; omega) hl, List.drop_eq_getElem_cons hi]
      simp
    · rw [spec_KidPut.l0, lenI_eq, decide_eq_false (by omega), cond_false, List.drop_eq_nil_of_le (by omega), List.append_nil]
theorem spec_KidPut_3 (l : List Kid) (id by_ : Int) (K : List Kid → Bool → Option (List Kid)) (hl : (l.length : Int) ≤ 1099511627776) (k i : Nat) (x : Kid) (hx : l[i]? = some x) (hp : id ≤ x.Id) (h' : l.length < i + (k + 1)) (hf : l.findIdx (isKid id) = i) :
    spec_KidPut.l0 l id by_ K (k + 1) (l.take i) false i = K (kidMid l id by_) true := by
  have hi := at_lt hx
  have ht : (l.take i).length = i := by rw [List.length_take]; omega
  have hdr : l.drop i = x :: l.drop (i + 1) := by
    rw [List.drop_eq_getElem_cons hi]
    rw [List.getElem?_eq_getElem hi] at hx
    rw [Option.some.inj hx]
  have hm : kidMid l id by_ = if x.Id = id then (if 0 < w64 (x.N + by_) then l.set i ⟨id, w64 (x.N + by_)⟩ else l.eraseIdx i) else (if 0 < by_ then l.take i ++ [⟨id, by_⟩] ++ l.drop i else l) := by
    unfold kidMid
    rw [hf, hx]
  rw [hm, spec_KidPut.l0, lenI_eq, decide_eq_true (by omega), cond_true, getO_nat, hx, Option.bind_some, w64_succ (by omega), decide_eq_true hp, bo3_F, bo3_T, cond_true]
  simp only [joinK]
  by_cases e : x.Id = id
  · rw [if_pos e, decide_eq_true e, cond_true]
    by_cases n0 : 0 < w64 (x.N + by_)
    · rw [if_pos n0, decide_eq_true n0, cond_true, Option.bind_some, appO_ok (by simp only [ht, List.length_cons, List.length_nil]; omega), Option.bind_some, cond_true, spec_KidPut_2 l id by_ _ k (i + 1) _ (by omega) (by omega) (by simp only [List.length_append, ht, List.length_cons, List.length_nil]; omega) hl, List.set_eq_take_append_cons_drop, if_pos hi, List.append_assoc]
      rfl
    · rw [if_neg n0, decide_eq_false n0, cond_false, cond_true, spec_KidPut_2 l id by_ _ k (i + 1) _ (by omega) (by omega) (by simp only [ht]; omega) hl, List.eraseIdx_eq_take_drop_succ]
  · rw [if_neg e, decide_eq_false e, cond_false]
    by_cases n0 : 0 < by_
    · rw [if_pos n0, decide_eq_true n0, cond_true, Option.bind_some, appO_ok (by simp only [ht, List.length_cons, List.length_nil]; omega), Option.bind_some, cond_false, Option.bind_some, appO_ok (by simp only [List.length_append, ht, List.length_cons, List.length_nil]; omega), Option.bind_some, spec_KidPut_2 l id by_ _ k (i + 1) _ (by omega) (by omega) (by simp only [List.length_append, ht, List.length_cons, List.length_nil]; omega) hl, hdr, List.append_assoc]
      rfl
    · rw [if_neg n0, decide_eq_false n0, cond_false, cond_false, Option.bind_some, appO_ok (by simp only [ht, List.length_cons, List.length_nil]; omega), Option.bind_some, spec_KidPut_2 l id by_ _ k (i + 1) _ (by omega) (by omega) (by simp only [List.length_append, ht, List.length_cons, List.length_nil]; omega) hl, List.append_assoc, List.singleton_append, ← hdr, List.take_append_drop]
theorem spec_KidPut_1 (l : List Kid) (id by_ : Int) (K : List Kid → Bool → Option (List Kid)) (hl : (l.length : Int) ≤ 1099511627776) : ∀ (k i : Nat), i ≤ l.length → l.length < i + k → ¬ (l.take i).findIdx (isKid id) < i →
    spec_KidPut.l0 l id by_ K k (l.take i) false i = if l.findIdx (isKid id) < l.length then K (kidMid l id by_) true else K l false := by
  intro k
  induction k with
  | zero => intro i h h'; omega
  | succ k ih =>
    intro i h h' hn
    by_cases hi : i < l.length
    · obtain ⟨x, hx⟩ : ∃ x, l[i]? = some x := ⟨_, List.getElem?_eq_getElem hi⟩
      have ht : (l.take i).length = i := by rw [List.length_take]; omega
      obtain ⟨f1, f2⟩ := findIdx_takeA (isKid id) l hx hn
      by_cases hp : id ≤ x.Id
      · have hf := f1 (decide_eq_true hp)
        rw [if_pos (by omega)]
        exact spec_KidPut_3 l id by_ K hl k i x hx hp h' hf
      · have := f2 (decide_eq_false hp)
        rw [spec_KidPut.l0, lenI_eq, decide_eq_true (by omega), cond_true, getO_nat, hx, Option.bind_some, w64_succ (by omega), decide_eq_false hp, bo3_F, bo3_T, cond_false, Option.bind_some, appO_ok (by simp only [ht, List.length_cons, List.length_nil]; omega), Option.bind_some, ← take_snoc hx]
        exact ih (i + 1) (by omega) (by omega) this
    · rw [List.take_of_length_le (by omega)] at hn ⊢
      rw [spec_KidPut.l0, lenI_eq, decide_eq_false (by omega), cond_false, if_neg (by omega)]
theorem spec_KidPut_eq (l : List Kid) (id by_ : Int) (h : (l.length : Int) ≤ 1099511627776) : spec_KidPut.f l id by_ = some (kidPutF l id by_) := by
  unfold spec_KidPut.f
  simp only [joinK]
  have hle := List.findIdx_le_length (xs := l) (p := isKid id)
  refine (spec_KidPut_1 l id by_ _ h (((lenI l) - 0).toNat + 1) 0 (by omega) (by rw [lenI_eq]; omega) (by omega)).trans ?_
  by_cases c : l.findIdx (isKid id) < l.length
  · rw [if_pos c, kid_mid c]
    rfl
  · rw [if_neg c, bo3_F, bo3_T]
    unfold kidPutF
    rw [List.getElem?_eq_none (by omega)]
    by_cases n0 : 0 < by_
    · rw [decide_eq_true n0, cond_true, Option.bind_some, appO_ok (by simp only [List.length_cons, List.length_nil]; omega), Option.bind_some]
      simp only [if_pos n0]
    · rw [decide_eq_false n0, cond_false]
      simp only [if_neg n0]

def chRows (v : View) (c : Change) : List Row :=
  if c.Table = v.Q.Table then (if (c.Has && matchesB v.Q c.New) = true then putF v.Q (if c.Had = true then rowDropF v.Rows c.Old.Id else v.Rows) c.New else (if c.Had = true then rowDropF v.Rows c.Old.Id else v.Rows)) else v.Rows
def chKids (v : View) (c : Change) : List Kid :=
  if v.Q.Kids = true ∧ c.Table = v.Q.KidTable then (if c.Has = true then kidPutF (if c.Had = true then kidPutF v.Kids (cellF c.Old v.Q.KidCol) (-1) else v.Kids) (cellF c.New v.Q.KidCol) 1 else (if c.Had = true then kidPutF v.Kids (cellF c.Old v.Q.KidCol) (-1) else v.Kids)) else v.Kids
def viewCh (v : View) (c : Change) : View := ⟨v.Q, chRows v c, chKids v c⟩
theorem chRows_sz (v : View) (c : Change) : sz_RowS (chRows v c) ≤ sz_RowS v.Rows + 1 + sz_Change c := by
  have n1 := sz_Row_0 c.Old
  have n2 := sz_Row_0 c.New
  have d := rowDrop_sz v.Rows c.Old.Id
  have p1 := put_sz v.Q v.Rows c.New
  have p2 := put_sz v.Q (rowDropF v.Rows c.Old.Id) c.New
  unfold chRows sz_Change
  split
  · split
    · split <;> omega
    · split <;> omega
  · omega
theorem chRows_mem {v : View} {c : Change} {x : Row} (h : x ∈ chRows v c) : x = c.New ∨ x ∈ v.Rows := by
  unfold chRows at h
  split at h
  · split at h
    · rcases mem_put h with h | h
      · exact .inl h
      · split at h
        · exact .inr (mem_rowDrop h)
        · exact .inr h
    · split at h
      · exact .inr (mem_rowDrop h)
      · exact .inr h
  · exact .inr h
theorem chKids_len (v : View) (c : Change) : (chKids v c).length ≤ v.Kids.length + 2 := by
  have k1 := kidPut_len v.Kids (cellF c.Old v.Q.KidCol) (-1)
  have k2 := kidPut_len v.Kids (cellF c.New v.Q.KidCol) 1
  have k3 := kidPut_len (kidPutF v.Kids (cellF c.Old v.Q.KidCol) (-1)) (cellF c.New v.Q.KidCol) 1
  unfold chKids
  split
  · split
    · split <;> omega
    · split <;> omega
  · omega
/-- A view, bounded. -/
def VB (v : View) : Prop := Query_b v.Q ∧ (∀ x ∈ v.Rows, Row_b x)
theorem viewCh_b {v : View} {c : Change} (h : VB v) (hc : Change_b c) : VB (viewCh v c) := ⟨h.1, fun x hx => by
  rcases chRows_mem hx with rfl | hx
  · exact hc.2
  · exact h.2 x hx⟩
theorem viewCh_sz (v : View) (c : Change) : sz_View (viewCh v c) ≤ sz_View v + 3 + sz_Change c := by
  have h1 := chRows_sz v c
  have h2 := chKids_len v c
  unfold sz_View viewCh sz_KidS
  dsimp only
  omega
theorem VB_view {v : View} (h : VB v) (hz : sz_View v ≤ 9223372036854775807) : View_b v := by
  have p1 := sz_Query_0 v.Q
  have p2 := sz_RowS_0 v.Rows
  have p3 := sz_KidS_0 v.Kids
  have p4 := sum_nonneg sz_Row_0 v.Rows
  unfold sz_View at hz
  unfold sz_RowS at p2 hz
  unfold sz_KidS at p3 hz
  refine ⟨h.1, ⟨by omega, h.2⟩, ?_⟩
  unfold KidS_b
  omega

theorem spec_ViewChange_eq (v : View) (c : Change) (hv : VB v) (hz : sz_View v ≤ 549755813888) (hc : Change_b c) (hzc : sz_Change c ≤ 1048576) : spec_ViewChange.f v c = some (viewCh v c) := by
  have p1 := sz_Query_0 v.Q
  have p2 := sz_RowS_0 v.Rows
  have p3 := sz_KidS_0 v.Kids
  have p4 := sum_nonneg sz_Row_0 v.Rows
  have n1 := sz_Row_0 c.Old
  have n2 := sz_Row_0 c.New
  have hzv := hz
  unfold sz_View at hzv
  unfold sz_Change at hzc
  have d := rowDrop_sz v.Rows c.Old.Id
  have dl := rowDrop_len v.Rows c.Old.Id
  have hkl : (v.Kids.length : Int) ≤ 549755813888 := by unfold sz_KidS at hzv p3; omega
  have hrl : (v.Rows.length : Int) ≤ 549755813888 := by unfold sz_RowS at hzv p2; omega
  have k1 := kidPut_len v.Kids (cellF c.Old v.Q.KidCol) (-1)
  unfold spec_ViewChange.f
  rw [spec_l13Copy_eq v (by omega), Option.bind_some]
  simp only [joinK]
  have hKids : ∀ (y2 : List Row), (bif (bo3 v.Q.Kids (decide (c.Table = v.Q.KidTable)) false) then (bif c.Had then (spec_l9Cell.f c.Old v.Q.KidCol).bind fun r31 => (spec_KidPut.f v.Kids r31 (-1)).bind fun r32 => (bif c.Has then (spec_l9Cell.f c.New v.Q.KidCol).bind fun r34 => (spec_KidPut.f r32 r34 1).bind fun r35 => some (View.mk v.Q y2 r35) else some (View.mk v.Q y2 r32)) else (bif c.Has then (spec_l9Cell.f c.New v.Q.KidCol).bind fun r34 => (spec_KidPut.f v.Kids r34 1).bind fun r35 => some (View.mk v.Q y2 r35) else some (View.mk v.Q y2 v.Kids))) else some (View.mk v.Q y2 v.Kids)) = some ⟨v.Q, y2, chKids v c⟩ := by
    intro y2
    rw [spec_l9Cell_eq _ _ hc.1, spec_l9Cell_eq _ _ hc.2]
    simp only [Option.bind_some]
    rw [spec_KidPut_eq v.Kids _ _ (by omega)]
    simp only [Option.bind_some]
    rw [spec_KidPut_eq _ _ _ (show ((kidPutF v.Kids (cellF c.Old v.Q.KidCol) (-1)).length : Int) ≤ 1099511627776 by omega), spec_KidPut_eq v.Kids _ _ (by omega)]
    simp only [Option.bind_some]
    unfold chKids
    by_cases hT : c.Table = v.Q.KidTable
    · rw [decide_eq_true hT]
      cases hK : v.Q.Kids <;> cases hH : c.Had <;> cases hS : c.Has <;> simp [hT, bo3_F, bo3_T]
    · rw [decide_eq_false hT]
      cases hK : v.Q.Kids <;> simp [hT, bo3_F, bo3_T]
  simp only [hKids]
  rw [spec_Matches_eq v.Q c.New hv.1.1 hc.2, gd_of]
  simp only [Option.bind_some]
  rw [spec_RowDrop_eq _ _ (by omega)]
  simp only [Option.bind_some]
  rw [spec_l11Put_eq v.Q v.Rows c.New (by omega) hv.2 hc.2 (by omega), spec_l11Put_eq v.Q (rowDropF v.Rows c.Old.Id) c.New (by omega) (fun x hx => hv.2 x (mem_rowDrop hx)) hc.2 (by omega)]
  simp only [Option.bind_some]
  unfold viewCh chRows
  by_cases hT : c.Table = v.Q.Table
  · rw [decide_eq_true hT, if_pos hT]
    cases hH : c.Had <;> cases hS : c.Has <;> cases hM : matchesB v.Q c.New <;> simp [bo3_F, bo3_T]
  · rw [decide_eq_false hT, if_neg hT]
    rfl

def viewChs (v : View) (l : List Change) : View := l.foldl viewCh v
theorem viewChs_sz : ∀ (l : List Change) (v : View), sz_View (viewChs v l) ≤ sz_View v + 3 * sz_ChangeS l
  | [], v => by simp [viewChs, sz_ChangeS]
  | c :: l, v => by
    have h1 := viewChs_sz l (viewCh v c)
    have h2 := viewCh_sz v c
    have h3 := sz_Change_0 c
    unfold sz_ChangeS at *
    unfold viewChs at *
    simp only [List.foldl_cons, List.length_cons, List.map_cons, List.sum_cons]
    omega
theorem viewChs_b : ∀ {l : List Change} {v : View}, VB v → (∀ c ∈ l, Change_b c) → VB (viewChs v l)
  | [], v, h, _ => h
  | c :: l, v, h, hc => viewChs_b (l := l) (viewCh_b h (hc c (List.mem_cons_self ..))) (fun x hx => hc x (List.mem_cons_of_mem _ hx))

theorem spec_ViewChanges_l0 (l : List Change) (hc : ∀ c ∈ l, Change_b c ∧ sz_Change c ≤ 1048576) (hl : (l.length : Int) ≤ 1048576) : ∀ (k i : Nat) (o : View), i ≤ l.length → l.length < i + k → VB o → sz_View o + 3 * sz_ChangeS (l.drop i) ≤ 549755813888 →
    spec_ViewChanges.l0 l k o.Q.Table o.Q.Where o.Q.Order o.Q.Down o.Q.First o.Q.Show o.Q.Kids o.Q.KidTable o.Q.KidCol o.Rows o.Kids i = some (viewChs o (l.drop i)) := by
  intro k
  induction k with
  | zero => intro i o h h'; omega
  | succ k ih =>
    intro i o h h' hb hz
    by_cases hi : i < l.length
    · have hx : l[i]? = some l[i] := List.getElem?_eq_getElem hi
      obtain ⟨m1, m2⟩ := hc _ (List.getElem_mem hi)
      have eo : View.mk (Query.mk o.Q.Table o.Q.Where o.Q.Order o.Q.Down o.Q.First o.Q.Show o.Q.Kids o.Q.KidTable o.Q.KidCol) o.Rows o.Kids = o := rfl
      have n0 := sz_ChangeS_0 (l.drop (i + 1))
      have n1 := sz_Change_0 l[i]
      have hs := viewCh_sz o l[i]
      rw [List.drop_eq_getElem_cons hi] at hz ⊢
      have hzc : sz_ChangeS (l[i] :: l.drop (i + 1)) = 1 + sz_Change l[i] + sz_ChangeS (l.drop (i + 1)) := by
        unfold sz_ChangeS
        simp only [List.length_cons, List.map_cons, List.sum_cons]
        omega
      rw [hzc] at hz
      rw [spec_ViewChanges.l0, lenI_eq, decide_eq_true (by omega), cond_true, getO_nat, hx, Option.bind_some, eo, spec_ViewChange_eq _ _ hb (by omega) m1 m2, Option.bind_some, w64_succ (by omega)]
      exact ih (i + 1) _ (by omega) (by omega) (viewCh_b hb m1) (by omega)
    · rw [spec_ViewChanges.l0, lenI_eq, decide_eq_false (by omega), cond_false, List.drop_eq_nil_of_le (by omega)]
      rfl
theorem spec_ViewChanges_eq (v : View) (l : List Change) (hv : VB v) (hz : sz_View v ≤ 1048576) (hb : ChangeS_b l) (hzl : sz_ChangeS l ≤ 1048576) : spec_ViewChanges.f v l = some (viewChs v l) := by
  have p := sum_nonneg sz_Change_0 l
  have hzl' := hzl
  unfold sz_ChangeS at hzl'
  unfold spec_ViewChanges.f
  rw [spec_l13Copy_eq v (by omega), Option.bind_some]
  have := spec_ViewChanges_l0 l (fun c hc => ⟨hb.2 c hc, by have := sum_mem sz_Change_0 hc; omega⟩) (by omega) (((lenI l) - 0).toNat + 1) 0 v (by omega) (by rw [lenI_eq]; omega) hv (by rw [List.drop_zero]; omega)
  rw [List.drop_zero] at this
  exact this

theorem impl_copyInts_eq (l : List Int) (h : (l.length : Int) ≤ 1099511627776) : impl_copyInts.f l = some l := by
  unfold impl_copyInts.f
  rw [appO_ok (by simp only [List.length_nil]; omega), Option.bind_some, List.nil_append]

theorem impl_copyRow_eq (r : Row) (h : sz_Row r ≤ 1099511627776) : impl_copyRow.f r = some r := by
  unfold impl_copyRow.f
  rw [impl_copyInts_eq _ (row_len h), Option.bind_some]

theorem impl_copyRows_eq (l : List Row) (h : sz_RowS l ≤ 1099511627776) : impl_copyRows.f l = some l := by
  unfold sz_RowS at h
  have p := sum_nonneg sz_Row_0 l
  unfold impl_copyRows.f
  refine loop_copy (f := impl_copyRows.l0 l) (l := l) some (fun k i x hx => ?_) (fun k s i hi => ?_) _ 0 (by omega) (by (try simp only [lenI_eq]); omega)
  · have hi := at_lt hx
    have hm := sum_mem sz_Row_0 (List.mem_of_getElem? hx)
    rw [impl_copyRows.l0, lenI_eq, decide_eq_true (by omega), cond_true, getO_nat, hx, Option.bind_some, impl_copyRow_eq x (by omega), Option.bind_some, Option.bind_some, appO_ok (by simp only [List.length_take, List.length_cons, List.length_nil]; omega), Option.bind_some, w64_succ (by omega)]
  · rw [impl_copyRows.l0, lenI_eq, decide_eq_false (by omega), cond_false]

theorem impl_copyQuery_eq (q : Query) (h : sz_Query q ≤ 1099511627776) : impl_copyQuery.f q = some q := by
  have p1 := sz_CondS_0 q.Where
  have p2 := sz_IntS_0 q.Show
  unfold sz_Query at h
  unfold sz_CondS at p1 h
  unfold sz_IntS at p2 h
  unfold impl_copyQuery.f
  rw [appO_ok (by simp only [List.length_nil]; omega), Option.bind_some, impl_copyInts_eq _ (by omega), Option.bind_some]
  rfl

theorem impl_copyView_eq (v : View) (h : sz_View v ≤ 1099511627776) : impl_copyView.f v = some v := by
  have p1 := sz_Query_0 v.Q
  have p2 := sz_RowS_0 v.Rows
  have p3 := sz_KidS_0 v.Kids
  unfold sz_View at h
  unfold sz_KidS at p3 h
  unfold impl_copyView.f
  rw [impl_copyQuery_eq _ (by omega), Option.bind_some, impl_copyRows_eq _ (by omega), Option.bind_some, appO_ok (by simp only [List.length_nil]; omega), Option.bind_some]
  rfl

theorem impl_within_eq (x y z : Int) : impl_within.f x y z = some (decide (y ≤ x ∧ x ≤ z)) := by
  unfold impl_within.f
  rw [bo3_and, Bool.decide_and]

theorem impl_holds_eq (c : Cond) (r : Row) (h : Row_b r) : impl_holds.f c r = some (holdsB c r) := by
  have hl : r.Cells.length ≤ 9223372036854775807 := h
  unfold impl_holds.f holdsB
  rw [lenI_eq, w64_id (by omega), impl_within_eq, Option.bind_some, bo3_not]
  by_cases d : 0 ≤ c.Col ∧ c.Col ≤ (r.Cells.length : Int) - 1
  · rw [decide_eq_true d, Bool.not_true, cond_false, getO_Int d, Option.bind_some, Bool.true_and]
    simp only [cond_ite, decide_eq_true_eq, some_if, bo3_and, cmpB]
    all_goals ((repeat' split) <;> simp_all)
  · rw [decide_eq_false d, Bool.not_false, cond_true, Bool.false_and]

theorem impl_Matches_eq (q : Query) (r : Row) (hq : CondS_b q.Where) (h : Row_b r) : impl_Matches.f q r = some (matchesB q r) := by
  have hl : q.Where.length ≤ 9223372036854775807 := hq
  unfold impl_Matches.f
  refine (loop_all (f := impl_Matches.l0 q r) (l := q.Where) (fun _ c => holdsB c r) (some false) (some true) (fun k i x hx => ?_) (fun k i hi => ?_) _ 0 (by omega) (by (try simp only [lenI_eq]); omega)).trans ?_
  · have hi := at_lt hx
    rw [impl_Matches.l0, lenI_eq, decide_eq_true (by omega), cond_true, getO_nat, hx, Option.bind_some, impl_holds_eq _ _ h, Option.bind_some, bo3_not, w64_succ (by omega)]
    cases holdsB x r <;> rfl
  · rw [impl_Matches.l0, lenI_eq, decide_eq_false (by omega), cond_false]
  · rw [allFrom_zero, matchesB]
    cases q.Where.all fun c => holdsB c r <;> rfl



theorem slices_IndexFunc_impl_Row__impl_RowAt_1_eq (l : List Row) (id : Int) (h : l.length ≤ 9223372036854775807) : slices_IndexFunc_impl_Row__impl_RowAt_1.f l id = some (rowAtF l id 0) := by
  have key : ∀ (k i : Nat), i ≤ l.length → l.length < i + k → slices_IndexFunc_impl_Row__impl_RowAt_1.l0 l id k i = some (rowAtF (l.drop i) id i) := by
    intro k
    induction k with
    | zero => intro i h h'; omega
    | succ k ih =>
      intro i h h'
      by_cases hi : i < l.length
      · have hx : l[i]? = some l[i] := List.getElem?_eq_getElem hi
        rw [slices_IndexFunc_impl_Row__impl_RowAt_1.l0, lenI_eq, decide_eq_true (by omega), cond_true, getO_nat, hx, Option.bind_some, impl_RowAt_1.f, Option.bind_some, List.drop_eq_getElem_cons hi, rowAtF, w64_succ (by omega)]
        by_cases e : (l[i]).Id = id
        · rw [decide_eq_true e, cond_true, if_pos e]
        · rw [decide_eq_false e, cond_false, if_neg e]
          exact ih (i + 1) (by omega) (by omega)
      · rw [slices_IndexFunc_impl_Row__impl_RowAt_1.l0, lenI_eq, decide_eq_false (by omega), cond_false, List.drop_eq_nil_of_le (by omega), rowAtF]
  have := key (((lenI l) - 0).toNat + 1) 0 (by omega) (by simp only [lenI_eq]; omega)
  rw [List.drop_zero] at this
  exact this

theorem impl_RowAt_eq (l : List Row) (id : Int) (h : l.length ≤ 9223372036854775807) : impl_RowAt.f l id = some (rowAtF l id 0) := by
  unfold impl_RowAt.f
  rw [slices_IndexFunc_impl_Row__impl_RowAt_1_eq l id h, Option.bind_some]



theorem impl_RowDrop_eq (l : List Row) (id : Int) (h : sz_RowS l ≤ 1099511627776) : impl_RowDrop.f l id = some (rowDropF l id) := by
  have h' := h
  unfold sz_RowS at h'
  have p := sum_nonneg sz_Row_0 l
  unfold impl_RowDrop.f
  rw [impl_copyRows_eq _ h, Option.bind_some, impl_RowAt_eq _ _ (by omega), Option.bind_some, rowAt_0]
  by_cases c : l.findIdx (isId id) < l.length
  · rw [idxI_pos c, decide_eq_true (by omega), cond_true, slices_Delete_impl_Row.f, delO, w64_succ (by omega), if_pos ⟨by omega, by omega, by omega⟩, Option.bind_some]
    unfold rowDropF
    rw [List.eraseIdx_eq_take_drop_succ, Int.toNat_natCast, Int.toNat_natCast]
  · rw [idxI_neg c, decide_eq_false (by omega), cond_false]
    unfold rowDropF
    rw [List.eraseIdx_of_length_le (by omega)]

theorem impl_cellOf_eq (r : Row) (col : Int) (h : Row_b r) : impl_cellOf.f r col = some (cellF r col) := by
  have hl : r.Cells.length ≤ 9223372036854775807 := h
  unfold impl_cellOf.f cellF
  rw [lenI_eq, w64_id (by omega), impl_within_eq, Option.bind_some, bo3_not]
  by_cases d : 0 ≤ col ∧ col ≤ (r.Cells.length : Int) - 1
  · rw [decide_eq_true d, Bool.not_true, cond_false, getO_Int d, Option.bind_some, if_pos d]
  · rw [decide_eq_false d, Bool.not_false, cond_true, if_neg d]

theorem impl_Ahead_eq (q : Query) (a b : Row) (ha : Row_b a) (hb : Row_b b) : impl_Ahead.f q a b = some (aheadB q a b) := by
  unfold impl_Ahead.f aheadB
  rw [impl_cellOf_eq _ _ ha, impl_cellOf_eq _ _ hb]
  simp only [Option.bind_some, cond_ite, decide_eq_true_eq, some_if, bo3_not, bo3_xor, ne_eq, ite_not]
  all_goals (
    generalize cellF a (w64 (q.Order - 1)) = x
    generalize cellF b (w64 (q.Order - 1)) = y
    by_cases h0 : q.Order = 0
    · simp [h0]
    · by_cases h1 : x = y
      · simp [h0, h1]
      · cases hd : q.Down with
        | true =>
          simp only [h0, h1, if_false, if_true, Option.some.injEq, decide_eq_true_eq]
          by_cases h2 : x < y
          · simp [h2]; try omega
          · simp [h2]; try omega
        | false =>
          simp only [h0, h1, if_false, Option.some.injEq, decide_eq_true_eq]
          by_cases h2 : x < y
          · simp [h2]; try omega
          · simp [h2]; try omega)



theorem slices_IndexFunc_impl_Row__impl_rowPut_1_eq (l : List Row) (q : Query) (r : Row) (h : l.length ≤ 9223372036854775807) (hb : ∀ x ∈ l, Row_b x) (hr : Row_b r) : slices_IndexFunc_impl_Row__impl_rowPut_1.f l q r = some (idxI (aheadB q r) l) := by
  have key : ∀ (k i : Nat), i ≤ l.length → l.length < i + k → ¬ (l.take i).findIdx (aheadB q r) < i → slices_IndexFunc_impl_Row__impl_rowPut_1.l0 l q r k i = some (idxI (aheadB q r) l) := by
    intro k
    induction k with
    | zero => intro i h h'; omega
    | succ k ih =>
      intro i h0 h' hn
      by_cases hi : i < l.length
      · have hx : l[i]? = some l[i] := List.getElem?_eq_getElem hi
        obtain ⟨f1, f2⟩ := findIdx_takeA (aheadB q r) l hx hn
        rw [slices_IndexFunc_impl_Row__impl_rowPut_1.l0, lenI_eq, decide_eq_true (by omega), cond_true, getO_nat, hx, Option.bind_some, impl_rowPut_1.f, impl_Ahead_eq q r _ hr (hb _ (List.getElem_mem hi)), Option.bind_some, Option.bind_some, w64_succ (by omega)]
        cases e : aheadB q r l[i] with
        | true => rw [cond_true, idxI_pos (by rw [f1 e]; exact hi), f1 e]
        | false => rw [cond_false]; exact ih (i + 1) (by omega) (by omega) (f2 e)
      · rw [List.take_of_length_le (by omega)] at hn
        rw [slices_IndexFunc_impl_Row__impl_rowPut_1.l0, lenI_eq, decide_eq_false (by omega), cond_false, idxI_neg (by omega)]
  exact key (((lenI l) - 0).toNat + 1) 0 (by omega) (by simp only [lenI_eq]; omega) (by omega)



theorem impl_rowPut_eq (q : Query) (l : List Row) (r : Row) (h : sz_RowS l ≤ 1099511627776) (hb : ∀ x ∈ l, Row_b x) (hr : Row_b r) (hz : sz_Row r ≤ 1099511627776) : impl_rowPut.f q l r = some (putF q l r) := by
  have h' := h
  unfold sz_RowS at h'
  have p := sum_nonneg sz_Row_0 l
  unfold impl_rowPut.f
  rw [slices_IndexFunc_impl_Row__impl_rowPut_1_eq l q r (by omega) hb hr, Option.bind_some]
  simp only [joinK]
  have ins : ∀ y : Nat, y ≤ l.length → ((impl_copyRows.f l).bind fun r5 => (impl_copyRow.f r).bind fun r6 => (some [r6]).bind fun l7 => (slices_Insert_impl_Row.f r5 (y : Int) l7).bind fun r8 => some r8) = some (l.take y ++ [r] ++ l.drop y) := by
    intro y hy
    rw [impl_copyRows_eq _ h, Option.bind_some, impl_copyRow_eq _ hz, Option.bind_some, Option.bind_some, slices_Insert_impl_Row.f, insO, if_pos ⟨rfl, by omega, by omega, by simp; omega, by simp; omega⟩, Option.bind_some, Int.toNat_natCast]
  unfold putF
  by_cases d : l.findIdx (aheadB q r) < l.length
  · rw [idxI_pos d, decide_eq_false (by omega), cond_false]
    exact ins _ (by omega)
  · have hle := List.findIdx_le_length (xs := l) (p := aheadB q r)
    have e : l.findIdx (aheadB q r) = l.length := by omega
    rw [idxI_neg d, decide_eq_true (by omega), cond_true, lenI_eq, e]
    exact ins _ (Nat.le_refl _)





theorem impl_KidPut_l0 (l : List Kid) (id : Int) (K : Int → Option (List Kid)) (hl : (l.length : Int) ≤ 1099511627776) : ∀ (k i : Nat), i ≤ l.length → l.length < i + k → ¬ (l.take i).findIdx (isKid id) < i →
    impl_KidPut.l0 id l K k i = K (l.findIdx (isKid id) : Int) := by
  intro k
  induction k with
  | zero => intro i h h'; omega
  | succ k ih =>
    intro i h h' hn
    by_cases hi : i < l.length
    · have hx : l[i]? = some l[i] := List.getElem?_eq_getElem hi
      obtain ⟨f1, f2⟩ := findIdx_takeA (isKid id) l hx hn
      rw [impl_KidPut.l0, lenI_eq, decide_eq_true (by omega), gd_true, getO_nat, hx, Option.bind_some, bo3_T, w64_succ (by omega)]
      by_cases c : l[i].Id < id
      · rw [decide_eq_true c, cond_true]
        exact ih (i + 1) (by omega) (by omega) (f2 (decide_eq_false (by omega)))
      · rw [decide_eq_false c, cond_false, f1 (decide_eq_true (by omega))]
    · rw [List.take_of_length_le (by omega)] at hn
      have hle := List.findIdx_le_length (xs := l) (p := isKid id)
      rw [impl_KidPut.l0, lenI_eq, decide_eq_false (by omega), gd_false, Option.bind_some, bo3_F, cond_false]
      congr 1
      omega
theorem impl_KidPut_eq (l : List Kid) (id by_ : Int) (h : (l.length : Int) ≤ 1099511627776) : impl_KidPut.f l id by_ = some (kidPutF l id by_) := by
  unfold impl_KidPut.f
  rw [appO_ok (by simp; omega), Option.bind_some, List.nil_append]
  simp only [joinK]
  refine (impl_KidPut_l0 l id _ h (((lenI l) - 0).toNat + 1) 0 (by omega) (by rw [lenI_eq]; omega) (by omega)).trans ?_
  have hle := List.findIdx_le_length (xs := l) (p := isKid id)
  unfold kidPutF
  by_cases c : l.findIdx (isKid id) < l.length
  · have hx : l[l.findIdx (isKid id)]? = some l[l.findIdx (isKid id)] := List.getElem?_eq_getElem c
    rw [lenI_eq, decide_eq_false (by omega), bo3_F, gd_true, getO_nat, hx, Option.bind_some, bo3_F]
    dsimp only
    generalize hk : l[l.findIdx (isKid id)] = x at *
    generalize hn : l.findIdx (isKid id) = n at *
    by_cases e : x.Id = id
    · rw [decide_eq_false (show ¬ x.Id ≠ id from fun h => h e), cond_false, if_pos e, Option.bind_some, Option.bind_some, setI_nat, getO_nat, List.getElem?_set_self c, Option.bind_some, e]
      dsimp only
      by_cases n0 : 0 < w64 (x.N + by_)
      · rw [decide_eq_false (by omega), cond_false, if_pos n0]
      · rw [decide_eq_true (by omega), cond_true, if_neg n0, slices_Delete_impl_Kid.f, delO, w64_succ (by omega), if_pos ⟨by omega, by omega, by rw [List.length_set]; omega⟩, Option.bind_some, Int.toNat_natCast, Int.toNat_natCast, List.eraseIdx_eq_take_drop_succ, List.take_set_of_le (Nat.le_refl _), List.drop_set_of_lt (by omega)]
    · rw [decide_eq_true (show x.Id ≠ id from e), cond_true, if_neg e]
      by_cases n0 : 0 < by_
      · rw [decide_eq_false (by omega), cond_false, if_pos n0, Option.bind_some, slices_Insert_impl_Kid.f, insO, if_pos ⟨rfl, by omega, by omega, by simp; omega, by simp; omega⟩, Option.bind_some, Int.toNat_natCast]
      · rw [decide_eq_true (by omega), cond_true, if_neg n0]
  · have e : l.findIdx (isKid id) = l.length := by omega
    rw [lenI_eq, e, decide_eq_true rfl, bo3_T, gd_false, Option.bind_some, bo3_T, cond_true, List.getElem?_eq_none (by omega)]
    dsimp only
    by_cases n0 : 0 < by_
    · rw [decide_eq_false (by omega), cond_false, if_pos n0, Option.bind_some, slices_Insert_impl_Kid.f, insO, if_pos ⟨rfl, by omega, by omega, by simp; omega, by simp; omega⟩, Option.bind_some, Int.toNat_natCast, List.take_length, List.drop_length, List.append_nil]
    · rw [decide_eq_true (by omega), cond_true, if_neg n0]

theorem impl_ViewChange_eq (v : View) (c : Change) (hv : VB v) (hz : sz_View v ≤ 549755813888) (hc : Change_b c) (hzc : sz_Change c ≤ 1048576) : impl_ViewChange.f v c = some (viewCh v c) := by
  have p1 := sz_Query_0 v.Q
  have p2 := sz_RowS_0 v.Rows
  have p3 := sz_KidS_0 v.Kids
  have p4 := sum_nonneg sz_Row_0 v.Rows
  have n1 := sz_Row_0 c.Old
  have n2 := sz_Row_0 c.New
  have hzv := hz
  unfold sz_View at hzv
  unfold sz_Change at hzc
  have d := rowDrop_sz v.Rows c.Old.Id
  have dl := rowDrop_len v.Rows c.Old.Id
  have hkl : (v.Kids.length : Int) ≤ 549755813888 := by unfold sz_KidS at hzv p3; omega
  have hrl : (v.Rows.length : Int) ≤ 549755813888 := by unfold sz_RowS at hzv p2; omega
  have k1 := kidPut_len v.Kids (cellF c.Old v.Q.KidCol) (-1)
  unfold impl_ViewChange.f
  rw [impl_copyView_eq v (by omega), Option.bind_some]
  simp only [joinK]
  have hKids : ∀ (y2 : List Row), (bif (bo3 v.Q.Kids (decide (c.Table = v.Q.KidTable)) false) then (bif c.Had then (impl_cellOf.f c.Old v.Q.KidCol).bind fun r31 => (impl_KidPut.f v.Kids r31 (-1)).bind fun r32 => (bif c.Has then (impl_cellOf.f c.New v.Q.KidCol).bind fun r34 => (impl_KidPut.f r32 r34 1).bind fun r35 => some (View.mk v.Q y2 r35) else some (View.mk v.Q y2 r32)) else (bif c.Has then (impl_cellOf.f c.New v.Q.KidCol).bind fun r34 => (impl_KidPut.f v.Kids r34 1).bind fun r35 => some (View.mk v.Q y2 r35) else some (View.mk v.Q y2 v.Kids))) else some (View.mk v.Q y2 v.Kids)) = some ⟨v.Q, y2, chKids v c⟩ := by
    intro y2
    rw [impl_cellOf_eq _ _ hc.1, impl_cellOf_eq _ _ hc.2]
    simp only [Option.bind_some]
    rw [impl_KidPut_eq v.Kids _ _ (by omega)]
    simp only [Option.bind_some]
    rw [impl_KidPut_eq _ _ _ (show ((kidPutF v.Kids (cellF c.Old v.Q.KidCol) (-1)).length : Int) ≤ 1099511627776 by omega), impl_KidPut_eq v.Kids _ _ (by omega)]
    simp only [Option.bind_some]
    unfold chKids
    by_cases hT : c.Table = v.Q.KidTable
    · rw [decide_eq_true hT]
      cases hK : v.Q.Kids <;> cases hH : c.Had <;> cases hS : c.Has <;> simp [hT, bo3_F, bo3_T]
    · rw [decide_eq_false hT]
      cases hK : v.Q.Kids <;> simp [hT, bo3_F, bo3_T]
  simp only [hKids]
  rw [impl_Matches_eq v.Q c.New hv.1.1 hc.2, gd_of]
  simp only [Option.bind_some]
  rw [impl_RowDrop_eq _ _ (by omega)]
  simp only [Option.bind_some]
  rw [impl_rowPut_eq v.Q v.Rows c.New (by omega) hv.2 hc.2 (by omega), impl_rowPut_eq v.Q (rowDropF v.Rows c.Old.Id) c.New (by omega) (fun x hx => hv.2 x (mem_rowDrop hx)) hc.2 (by omega)]
  simp only [Option.bind_some]
  unfold viewCh chRows
  by_cases hT : c.Table = v.Q.Table
  · rw [decide_eq_true hT, if_pos hT]
    cases hH : c.Had <;> cases hS : c.Has <;> cases hM : matchesB v.Q c.New <;> simp [bo3_F, bo3_T]
  · rw [decide_eq_false hT, if_neg hT]
    rfl

theorem impl_ViewChanges_l0 (l : List Change) (hc : ∀ c ∈ l, Change_b c ∧ sz_Change c ≤ 1048576) (hl : (l.length : Int) ≤ 1048576) : ∀ (k i : Nat) (o : View), i ≤ l.length → l.length < i + k → VB o → sz_View o + 3 * sz_ChangeS (l.drop i) ≤ 549755813888 →
    impl_ViewChanges.l0 l k o.Q.Table o.Q.Where o.Q.Order o.Q.Down o.Q.First o.Q.Show o.Q.Kids o.Q.KidTable o.Q.KidCol o.Rows o.Kids i = some (viewChs o (l.drop i)) := by
  intro k
  induction k with
  | zero => intro i o h h'; omega
  | succ k ih =>
    intro i o h h' hb hz
    by_cases hi : i < l.length
    · have hx : l[i]? = some l[i] := List.getElem?_eq_getElem hi
      obtain ⟨m1, m2⟩ := hc _ (List.getElem_mem hi)
      have eo : View.mk (Query.mk o.Q.Table o.Q.Where o.Q.Order o.Q.Down o.Q.First o.Q.Show o.Q.Kids o.Q.KidTable o.Q.KidCol) o.Rows o.Kids = o := rfl
      have n0 := sz_ChangeS_0 (l.drop (i + 1))
      have n1 := sz_Change_0 l[i]
      have hs := viewCh_sz o l[i]
      rw [List.drop_eq_getElem_cons hi] at hz ⊢
      have hzc : sz_ChangeS (l[i] :: l.drop (i + 1)) = 1 + sz_Change l[i] + sz_ChangeS (l.drop (i + 1)) := by
        unfold sz_ChangeS
        simp only [List.length_cons, List.map_cons, List.sum_cons]
        omega
      rw [hzc] at hz
      rw [impl_ViewChanges.l0, lenI_eq, decide_eq_true (by omega), cond_true, getO_nat, hx, Option.bind_some, eo, impl_ViewChange_eq _ _ hb (by omega) m1 m2, Option.bind_some, w64_succ (by omega)]
      exact ih (i + 1) _ (by omega) (by omega) (viewCh_b hb m1) (by omega)
    · rw [impl_ViewChanges.l0, lenI_eq, decide_eq_false (by omega), cond_false, List.drop_eq_nil_of_le (by omega)]
      rfl
theorem impl_ViewChanges_eq (v : View) (l : List Change) (hv : VB v) (hz : sz_View v ≤ 1048576) (hb : ChangeS_b l) (hzl : sz_ChangeS l ≤ 1048576) : impl_ViewChanges.f v l = some (viewChs v l) := by
  have p := sum_nonneg sz_Change_0 l
  have hzl' := hzl
  unfold sz_ChangeS at hzl'
  unfold impl_ViewChanges.f
  rw [impl_copyView_eq v (by omega), Option.bind_some]
  have := impl_ViewChanges_l0 l (fun c hc => ⟨hb.2 c hc, by have := sum_mem sz_Change_0 hc; omega⟩) (by omega) (((lenI l) - 0).toNat + 1) 0 v (by omega) (by rw [lenI_eq]; omega) hv (by rw [List.drop_zero]; omega)
  rw [List.drop_zero] at this
  exact this

theorem ViewChanges_ok (v : View) (b0 : View_b v) (r0 : View_r v) (z0 : sz_View v ≤ 1048576) (l : List Change) (b1 : ChangeS_b l) (r1 : ChangeS_r l) (z1 : sz_ChangeS l ≤ 1048576) : ∃ v0, spec_ViewChanges.f v l = some v0 ∧ impl_ViewChanges.f v l = some v0 ∧ View_b v0 ∧ sz_View v0 ≤ 1099511627776 := by
  have hv : VB v := ⟨b0.1, b0.2.1.2⟩
  have hz := viewChs_sz l v
  exact ⟨viewChs v l, spec_ViewChanges_eq v l hv z0 b1 z1, impl_ViewChanges_eq v l hv z0 b1 z1, VB_view (viewChs_b hv b1.2) (by omega), by omega⟩

theorem laws_FnExactViewChanges_pure (a0 : View) (b0 : View_b a0) (r0 : View_r a0) (a1 : List Change) (b1 : ChangeS_b a1) (r1 : ChangeS_r a1) : laws_FnExactViewChanges.f a0 a1 = some true := by
  unfold laws_FnExactViewChanges.f
  have p0 := sz_View_0 a0
  rw [laws_szView_eq _ _ (by omega) b0, Option.bind_some]
  by_cases c0 : 1048576 < sz_View a0
  · rw [if_pos c0]; rfl
  rw [if_neg c0, decide_eq_false (by omega), cond_false]
  have p1 := sz_ChangeS_0 a1
  rw [laws_szChangeS_eq _ _ (by omega) b1, Option.bind_some]
  by_cases c1 : 1048576 - sz_View a0 < sz_ChangeS a1
  · rw [if_pos c1]; rfl
  rw [if_neg c1, decide_eq_false (by omega), cond_false]
  obtain ⟨v0, hs, hi, bv0, zv0⟩ := ViewChanges_ok a0 b0 r0 (by omega) a1 b1 r1 (by omega)
  have t0 := laws_toView_eq a0 (by omega)
  have e0 : laws_eqView.f a0 a0 = some true := by rw [laws_eqView_eq _ _ b0 b0, decide_eq_true rfl]
  have t1 := laws_toChangeS_eq a1 (by omega)
  have e1 : laws_eqChangeS.f a1 a1 = some true := by rw [laws_eqChangeS_eq _ _ b1 b1, decide_eq_true rfl]
  have ev0 : laws_eqView.f v0 v0 = some true := by rw [laws_eqView_eq _ _ bv0 bv0, decide_eq_true rfl]
  obtain ⟨g0_0, g0_1, g0_2, g0_3, k0, mk0, dk0, lo0, hi0⟩ := mark_View a0 1 (by omega) (by omega)
  obtain ⟨g1_0, k1, mk1, dk1, lo1, hi1⟩ := mark_ChangeS a1 k0 (by omega) (by omega)
  have nk : ¬ k1 < 0 := by omega
  have pv0 := sz_View_0 v0
  obtain ⟨gw0_0, gw0_1, gw0_2, gw0_3, w0, mw0, dw0, low0, hiw0⟩ := mark_View v0 1 (by omega) (by omega)
  have nw0 : ¬ w0 < 0 := by omega
  simp only [t0, e0, t1, e1, ev0, mk0, mk1, nk, mw0, dw0, nw0, hs, hi, Option.bind_some, bo3_self, bo3_F, bo3_T, gd_true, cond_false, ne_eq, not_true_eq_false, decide_false]
end Go.Proofs.Ytibmfkomdhnhbaa.L
