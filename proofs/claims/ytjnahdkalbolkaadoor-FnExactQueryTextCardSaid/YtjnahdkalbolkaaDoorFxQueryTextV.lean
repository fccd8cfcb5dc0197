/- What the pure functions give. -/
import Derived.Test.YtjnahdkalbolkaaDoorPv0
import Derived.Test.YtjnahdkalbolkaaDoorFxQueryTextU
namespace Go.Proofs.YtjnahdkalbolkaaDoor.L
open Go
set_option linter.unusedVariables false
set_option linter.unusedSimpArgs false
def sz_IntS (l : List Int) : Int := l.length
def IntS_b (l : List Int) : Prop := l.length ≤ 9223372036854775807
theorem sz_IntS_0 (l : List Int) : 0 ≤ sz_IntS l := by unfold sz_IntS; omega
def IntS_r (l : List Int) : Prop := ∀ x ∈ l, (-9223372036854775808 ≤ x ∧ x ≤ 9223372036854775807)
theorem laws_eqIntS_eq (a b : List Int) (ha : IntS_b a) (hb : IntS_b b) : laws_eqIntS.f a b = some (decide (a = b)) := by
  unfold IntS_b at ha hb
  unfold laws_eqIntS.f
  by_cases hl : a.length = b.length
  · rw [decide_eq_false (by simp only [lenI_eq]; omega), cond_false]
    refine (loop_eq (f := laws_eqIntS.l0 a b) hl (some false) (some true) (fun k i x y hx hy => ?_) (fun k i hi => ?_) _ (by simp only [lenI_eq]; omega)).trans ?_
    · have hi := at_lt hx
      rw [laws_eqIntS.l0, lenI_eq, decide_eq_true (by omega), cond_true, getO_nat, hx, Option.bind_some, getO_nat, hy, Option.bind_some, w64_succ (by omega)]
      by_cases c : x = y
      · simp [c]
      · simp [c]
    · rw [laws_eqIntS.l0, lenI_eq, decide_eq_false (by omega), cond_false]
    · cases decide (a = b) <;> rfl
  · rw [decide_eq_true (by simp only [lenI_eq]; omega), cond_true, decide_eq_false (fun e => hl (by rw [e]))]
def sz_Schema (x : Schema) : Int := sz_IntS x.Cols
def Schema_b (x : Schema) : Prop := IntS_b x.Cols
theorem sz_Schema_0 (x : Schema) : 0 ≤ sz_Schema x := by unfold sz_Schema; exact by have := sz_IntS_0 x.Cols;  omega
def Schema_r (x : Schema) : Prop := IntS_r x.Cols
theorem laws_eqSchema_eq (a b : Schema) (ha : Schema_b a) (hb : Schema_b b) : laws_eqSchema.f a b = some (decide (a = b)) := by
  have ha_Cols := ha
  have hb_Cols := hb
  unfold laws_eqSchema.f
  rw [laws_eqIntS_eq _ _ ha_Cols hb_Cols, Option.bind_some]
  by_cases c_Cols : a.Cols = b.Cols
  case neg => rw [decide_eq_false c_Cols, show bo3 false false true = true from rfl, cond_true, decide_eq_false (fun e => c_Cols (by rw [e]))]
  rw [decide_eq_true c_Cols, show bo3 true false true = false from rfl, cond_false]
  rw [decide_eq_true (by cases a; cases b; simp_all)]
def Cond_r (x : Cond) : Prop := (-9223372036854775808 ≤ x.Col ∧ x.Col ≤ 9223372036854775807) ∧ (-9223372036854775808 ≤ x.Op ∧ x.Op ≤ 9223372036854775807) ∧ (-9223372036854775808 ≤ x.V ∧ x.V ≤ 9223372036854775807)
theorem laws_eqCond_eq (a b : Cond) : laws_eqCond.f a b = some (decide (a = b)) := by
  unfold laws_eqCond.f
  by_cases c_Col : a.Col = b.Col
  case neg => rw [decide_eq_true c_Col, cond_true, decide_eq_false (fun e => c_Col (by rw [e]))]
  rw [decide_eq_false (fun e => e c_Col), cond_false]
  by_cases c_Op : a.Op = b.Op
  case neg => rw [decide_eq_true c_Op, cond_true, decide_eq_false (fun e => c_Op (by rw [e]))]
  rw [decide_eq_false (fun e => e c_Op), cond_false]
  by_cases c_V : a.V = b.V
  case neg => rw [decide_eq_true c_V, cond_true, decide_eq_false (fun e => c_V (by rw [e]))]
  rw [decide_eq_false (fun e => e c_V), cond_false]
  rw [decide_eq_true (by cases a; cases b; simp_all)]
def sz_CondS (l : List Cond) : Int := l.length
def CondS_b (l : List Cond) : Prop := l.length ≤ 9223372036854775807
theorem sz_CondS_0 (l : List Cond) : 0 ≤ sz_CondS l := by unfold sz_CondS; omega
def CondS_r (l : List Cond) : Prop := ∀ x ∈ l, Cond_r x
theorem laws_eqCondS_eq (a b : List Cond) (ha : CondS_b a) (hb : CondS_b b) : laws_eqCondS.f a b = some (decide (a = b)) := by
  unfold CondS_b at ha hb
  unfold laws_eqCondS.f
  by_cases hl : a.length = b.length
  · rw [decide_eq_false (by simp only [lenI_eq]; omega), cond_false]
    refine (loop_eq (f := laws_eqCondS.l0 a b) hl (some false) (some true) (fun k i x y hx hy => ?_) (fun k i hi => ?_) _ (by simp only [lenI_eq]; omega)).trans ?_
    · have hi := at_lt hx
      rw [laws_eqCondS.l0, lenI_eq, decide_eq_true (by omega), cond_true, getO_nat, hx, Option.bind_some, getO_nat, hy, Option.bind_some, laws_eqCond_eq x y, Option.bind_some, bo3_not, w64_succ (by omega)]
      by_cases c : x = y
      · simp [c]
      · simp [c]
    · rw [laws_eqCondS.l0, lenI_eq, decide_eq_false (by omega), cond_false]
    · cases decide (a = b) <;> rfl
  · rw [decide_eq_true (by simp only [lenI_eq]; omega), cond_true, decide_eq_false (fun e => hl (by rw [e]))]
def sz_Query (x : Query) : Int := sz_CondS x.Where + sz_IntS x.Show
def Query_b (x : Query) : Prop := CondS_b x.Where ∧ IntS_b x.Show
theorem sz_Query_0 (x : Query) : 0 ≤ sz_Query x := by unfold sz_Query; exact by have := sz_CondS_0 x.Where; have := sz_IntS_0 x.Show;  omega
def Query_r (x : Query) : Prop := (-9223372036854775808 ≤ x.Table ∧ x.Table ≤ 9223372036854775807) ∧ CondS_r x.Where ∧ (-9223372036854775808 ≤ x.Order ∧ x.Order ≤ 9223372036854775807) ∧ (-9223372036854775808 ≤ x.First ∧ x.First ≤ 9223372036854775807) ∧ IntS_r x.Show ∧ (-9223372036854775808 ≤ x.KidTable ∧ x.KidTable ≤ 9223372036854775807) ∧ (-9223372036854775808 ≤ x.KidCol ∧ x.KidCol ≤ 9223372036854775807)
theorem laws_eqQuery_eq (a b : Query) (ha : Query_b a) (hb : Query_b b) : laws_eqQuery.f a b = some (decide (a = b)) := by
  obtain ⟨ha_Where, ha_Show⟩ := ha
  obtain ⟨hb_Where, hb_Show⟩ := hb
  unfold laws_eqQuery.f
  by_cases c_Table : a.Table = b.Table
  case neg => rw [decide_eq_true c_Table, cond_true, decide_eq_false (fun e => c_Table (by rw [e]))]
  rw [decide_eq_false (fun e => e c_Table), cond_false]
  rw [laws_eqCondS_eq _ _ ha_Where hb_Where, Option.bind_some]
  by_cases c_Where : a.Where = b.Where
  case neg => rw [decide_eq_false c_Where, show bo3 false false true = true from rfl, cond_true, decide_eq_false (fun e => c_Where (by rw [e]))]
  rw [decide_eq_true c_Where, show bo3 true false true = false from rfl, cond_false]
  by_cases c_Order : a.Order = b.Order
  case neg => rw [decide_eq_true c_Order, cond_true, decide_eq_false (fun e => c_Order (by rw [e]))]
  rw [decide_eq_false (fun e => e c_Order), cond_false]
  by_cases c_Down : a.Down = b.Down
  case neg => rw [show bo3 a.Down (bo3 b.Down false true) b.Down = true from by revert c_Down; cases a.Down <;> cases b.Down <;> simp [bo3], cond_true, decide_eq_false (fun e => c_Down (by rw [e]))]
  rw [show bo3 a.Down (bo3 b.Down false true) b.Down = false from by rw [c_Down]; cases b.Down <;> rfl, cond_false]
  by_cases c_First : a.First = b.First
  case neg => rw [decide_eq_true c_First, cond_true, decide_eq_false (fun e => c_First (by rw [e]))]
  rw [decide_eq_false (fun e => e c_First), cond_false]
  rw [laws_eqIntS_eq _ _ ha_Show hb_Show, Option.bind_some]
  by_cases c_Show : a.Show = b.Show
  case neg => rw [decide_eq_false c_Show, show bo3 false false true = true from rfl, cond_true, decide_eq_false (fun e => c_Show (by rw [e]))]
  rw [decide_eq_true c_Show, show bo3 true false true = false from rfl, cond_false]
  by_cases c_Kids : a.Kids = b.Kids
  case neg => rw [show bo3 a.Kids (bo3 b.Kids false true) b.Kids = true from by revert c_Kids; cases a.Kids <;> cases b.Kids <;> simp [bo3], cond_true, decide_eq_false (fun e => c_Kids (by rw [e]))]
  rw [show bo3 a.Kids (bo3 b.Kids false true) b.Kids = false from by rw [c_Kids]; cases b.Kids <;> rfl, cond_false]
  by_cases c_KidTable : a.KidTable = b.KidTable
  case neg => rw [decide_eq_true c_KidTable, cond_true, decide_eq_false (fun e => c_KidTable (by rw [e]))]
  rw [decide_eq_false (fun e => e c_KidTable), cond_false]
  by_cases c_KidCol : a.KidCol = b.KidCol
  case neg => rw [decide_eq_true c_KidCol, cond_true, decide_eq_false (fun e => c_KidCol (by rw [e]))]
  rw [decide_eq_false (fun e => e c_KidCol), cond_false]
  rw [decide_eq_true (by cases a; cases b; simp_all)]
theorem laws_szIntS_eq (a : List Int) (n : Int) (hn : 0 ≤ n ∧ n ≤ 1048576) (hb : IntS_b a) : laws_szIntS.f a n = some (if n < sz_IntS a then -1 else n - sz_IntS a) := by
  unfold laws_szIntS.f sz_IntS
  unfold IntS_b at hb
  rw [lenI_eq, w64_id (by omega)]
  by_cases c : n < (a.length : Int)
  · rw [if_pos c, decide_eq_true (by omega), cond_true]
  · rw [if_neg c, decide_eq_false (by omega), cond_false]
theorem laws_szSchema_eq (a : Schema) (n : Int) (hn : 0 ≤ n ∧ n ≤ 1048576) (hb : Schema_b a) : laws_szSchema.f a n = some (if n < sz_Schema a then -1 else n - sz_Schema a) := by
  unfold laws_szSchema.f sz_Schema
  have h0 := hb
  have p_Cols := sz_IntS_0 a.Cols
  rw [laws_szIntS_eq _ _ (by omega) h0, Option.bind_some]
  by_cases c0 : n < sz_IntS a.Cols
  · rw [if_pos c0]; rfl
  · rw [if_neg c0, decide_eq_false (by omega), cond_false]
theorem laws_szCondS_eq (a : List Cond) (n : Int) (hn : 0 ≤ n ∧ n ≤ 1048576) (hb : CondS_b a) : laws_szCondS.f a n = some (if n < sz_CondS a then -1 else n - sz_CondS a) := by
  unfold laws_szCondS.f sz_CondS
  unfold CondS_b at hb
  rw [lenI_eq, w64_id (by omega)]
  by_cases c : n < (a.length : Int)
  · rw [if_pos c, decide_eq_true (by omega), cond_true]
  · rw [if_neg c, decide_eq_false (by omega), cond_false]
theorem laws_szQuery_eq (a : Query) (n : Int) (hn : 0 ≤ n ∧ n ≤ 1048576) (hb : Query_b a) : laws_szQuery.f a n = some (if n < sz_Query a then -1 else n - sz_Query a) := by
  unfold laws_szQuery.f sz_Query
  obtain ⟨h0, h1⟩ := hb
  have p_Where := sz_CondS_0 a.Where
  have p_Show := sz_IntS_0 a.Show
  rw [laws_szCondS_eq _ _ (by omega) h0, Option.bind_some]
  by_cases c0 : n < sz_CondS a.Where
  · rw [if_pos c0, if_pos (by omega)]; rfl
  · rw [if_neg c0, decide_eq_false (by omega), cond_false]
    rw [laws_szIntS_eq _ _ (by omega) h1, Option.bind_some]
    by_cases c1 : n - sz_CondS a.Where < sz_IntS a.Show
    · rw [if_pos c1, if_pos (by omega)]; rfl
    · rw [if_neg c1, decide_eq_false (by omega), cond_false]
      rw [if_neg (by omega)]
      congr 1; omega
theorem spec_l1In_eq (x y z : Int) : spec_l1In.f x y z = some (decide (y ≤ x ∧ x ≤ z)) := by
  unfold spec_l1In.f
  rw [bo3_and, Bool.decide_and]

def schemaB (s : Schema) : Bool := s.Cols.all (fun n => decide (1 ≤ n ∧ n ≤ 4)) && decide (1 ≤ (s.Cols.length : Int) ∧ (s.Cols.length : Int) ≤ 3)

theorem spec_SchemaOk_eq (s : Schema) (h : Schema_b s) : spec_SchemaOk.f s = some (schemaB s) := by
  have hl : s.Cols.length ≤ 9223372036854775807 := h
  unfold spec_SchemaOk.f joinK
  refine (loop_all (f := spec_SchemaOk.l0 s _) (l := s.Cols) (fun _ n => decide (1 ≤ n ∧ n ≤ 4)) (some false) (some (decide (1 ≤ (s.Cols.length : Int) ∧ (s.Cols.length : Int) ≤ 3))) (fun k i x hx => ?_) (fun k i hi => ?_) _ 0 (by omega) (by (try simp only [lenI_eq]); omega)).trans ?_
  · have hi := at_lt hx
    rw [spec_SchemaOk.l0, lenI_eq, decide_eq_true (by omega), cond_true, getO_nat, hx, Option.bind_some, spec_l1In_eq, Option.bind_some, bo3_not, w64_succ (by omega)]
    cases decide (1 ≤ x ∧ x ≤ 4) <;> rfl
  · rw [spec_SchemaOk.l0, lenI_eq, decide_eq_false (by omega), cond_false, spec_l1In_eq, Option.bind_some]
  · rw [allFrom_zero, schemaB]
    cases s.Cols.all fun n => decide (1 ≤ n ∧ n ≤ 4) <;> rfl

def kidsB (s : Schema) (q : Query) : Bool :=
  if q.Kids then decide (0 ≤ q.KidTable ∧ q.KidTable ≤ (s.Cols.length : Int) - 1) && decide (0 ≤ q.KidCol ∧ q.KidCol ≤ w64 (s.Cols.getD q.KidTable.toNat 0 - 1)) else decide (q.KidTable = 0) && decide (q.KidCol = 0)
def condB (cols : Int) (c : Cond) : Bool := decide (0 ≤ c.Col ∧ c.Col ≤ w64 (cols - 1)) && decide (1 ≤ c.Op ∧ c.Op ≤ 4) && decide (-1000000000 ≤ c.V ∧ c.V ≤ 1000000000)
def showB (cols : Int) (l : List Int) : Bool := allFrom (fun i x => decide (0 ≤ x ∧ x ≤ w64 (cols - 1)) && !(decide (0 < i) && decide (x ≤ l.getD (i - 1) 0))) l 0
def queryB (s : Schema) (q : Query) : Bool :=
  schemaB s && decide (0 ≤ q.Table ∧ q.Table ≤ (s.Cols.length : Int) - 1) &&
    (let cols := s.Cols.getD q.Table.toNat 0
     q.Where.all (condB cols) && showB cols q.Show && (decide (q.Where.length ≤ 3) && decide (0 ≤ q.Order ∧ q.Order ≤ cols) && (!q.Down || decide (0 < q.Order)) && decide (0 ≤ q.First ∧ q.First ≤ 24) && kidsB s q))
theorem show_step {r : Bool} {l : List Int} {i : Nat} {x : Int} (hx : l[i]? = some x) (hl : i < 9223372036854775807) : gd (bo3 r (decide (0 < (i : Int))) false) (getO l (w64 ((i : Int) - 1))) = some (bif bo3 r (decide (0 < (i : Int))) false then l.getD (i - 1) 0 else 0) := by
  refine gd_some _ fun h => ?_
  have h0 := of_decide_eq_true (bo_r h)
  have hi := at_lt hx
  rw [w64_id (by omega), show ((i : Int) - 1) = ((i - 1 : Nat) : Int) by omega, getO_nat, List.getD_eq_getElem?_getD, List.getElem?_eq_getElem (by omega)]
  rfl

theorem spec_QueryOk_eq (s : Schema) (q : Query) (h : Schema_b s) (hq : Query_b q) : spec_QueryOk.f s q = some (queryB s q) := by
  have hcl : s.Cols.length ≤ 9223372036854775807 := h
  obtain ⟨hw, hs⟩ := hq
  have hwl : q.Where.length ≤ 9223372036854775807 := hw
  have hsl : q.Show.length ≤ 9223372036854775807 := hs
  unfold spec_QueryOk.f queryB
  rw [spec_SchemaOk_eq _ h, Option.bind_some]
  cases schemaB s with
  | false => rfl
  | true =>
    rw [show bo3 (bo3 true false true) false true = true from rfl, gd_true, lenI_eq, w64_id (by omega), spec_l1In_eq, Option.bind_some]
    by_cases d : 0 ≤ q.Table ∧ q.Table ≤ (s.Cols.length : Int) - 1
    case neg => rw [decide_eq_false d]; rfl
    rw [decide_eq_true d, getO_Int d]
    generalize s.Cols.getD q.Table.toNat 0 = cols
    by_cases d3 : q.Where.length ≤ 3
    case neg =>
      rw [lenI_eq, decide_eq_true (by omega), show bo3 (bo3 (bo3 true false true) true (bo3 true false true)) true true = true from rfl, cond_true, decide_eq_false d3]
      simp
    rw [lenI_eq, decide_eq_false (by omega), show bo3 (bo3 (bo3 true false true) true (bo3 true false true)) true false = false from rfl, cond_false, decide_eq_true d3, Option.bind_some]
    simp only [joinK, Bool.true_and]
    refine (loop_all (f := spec_QueryOk.l0 q cols _) (l := q.Where) (fun _ c => condB cols c) (some false) (some (showB cols q.Show && (decide (0 ≤ q.Order ∧ q.Order ≤ cols) && (!q.Down || decide (0 < q.Order)) && decide (0 ≤ q.First ∧ q.First ≤ 24) && kidsB s q))) (fun k i x hx => ?_) (fun k i hi => ?_) _ 0 (by omega) (by (try simp only [lenI_eq]); omega)).trans ?_
    · have hi := at_lt hx
      rw [spec_QueryOk.l0, lenI_eq, decide_eq_true (by omega), cond_true, getO_nat, hx, Option.bind_some, spec_l1In_eq, Option.bind_some, spec_l1In_eq, spec_l1In_eq, w64_succ (by omega)]
      unfold condB
      cases decide (0 ≤ x.Col ∧ x.Col ≤ w64 (cols - 1)) <;> cases decide (1 ≤ x.Op ∧ x.Op ≤ 4) <;> cases decide (-1000000000 ≤ x.V ∧ x.V ≤ 1000000000) <;> rfl
    · rw [spec_QueryOk.l0, lenI_eq, decide_eq_false (by omega), cond_false]
      refine (loop_all (f := spec_QueryOk.l1 q cols _) (l := q.Show) (fun i x => decide (0 ≤ x ∧ x ≤ w64 (cols - 1)) && !(decide (0 < i) && decide (x ≤ q.Show.getD (i - 1) 0))) (some false) (some (decide (0 ≤ q.Order ∧ q.Order ≤ cols) && (!q.Down || decide (0 < q.Order)) && decide (0 ≤ q.First ∧ q.First ≤ 24) && kidsB s q)) (fun k i x hx => ?_) (fun k i hi => ?_) _ 0 (by omega) (by (try simp only [lenI_eq]); omega)).trans ?_
      · have hi := at_lt hx
        rw [spec_QueryOk.l1, lenI_eq, decide_eq_true (by omega), cond_true, getO_nat, hx, Option.bind_some, spec_l1In_eq, Option.bind_some, show_step hx (by omega), Option.bind_some, w64_succ (by omega)]
        rw [show decide (0 < (i : Int)) = decide (0 < i) from by simp]
        cases decide (0 ≤ x ∧ x ≤ w64 (cols - 1)) <;> cases decide (0 < i) <;> (try rfl)
        simp only [bo3_and, bo3_not, bo3_or, Bool.not_true, Bool.not_false, Bool.true_and, cond_true]
        cases decide (x ≤ q.Show.getD (i - 1) 0) <;> rfl
      · rw [spec_QueryOk.l1, lenI_eq, decide_eq_false (by omega), cond_false, spec_l1In_eq, Option.bind_some, spec_l1In_eq]
        by_cases e0 : 0 ≤ q.Order ∧ q.Order ≤ cols
        case neg => rw [decide_eq_false e0]; rfl
        rw [decide_eq_true e0, show bo3 (bo3 true false true) false true = true from rfl, gd_true, Option.bind_some]
        by_cases e1 : 0 ≤ q.First ∧ q.First ≤ 24
        case neg => rw [decide_eq_false e1]; simp [bo3]
        rw [decide_eq_true e1]
        have e2 : (bo3 (decide (q.Order = 0)) q.Down false) = !(!q.Down || decide (0 < q.Order)) := by
          cases q.Down with
          | false => cases decide (q.Order = 0) <;> rfl
          | true =>
            by_cases e3 : q.Order = 0
            · simp [e3, bo3]
            · have : 0 < q.Order := by omega
              simp [e3, bo3, this]
        rw [e2]
        cases hd : (!q.Down || decide (0 < q.Order)) with
        | false => simp [bo3]
        | true =>
          rw [show bo3 (bo3 (bo3 true false true) true (bo3 true false true)) true (!true) = false from rfl, cond_false, bo3_not]
          unfold kidsB
          cases q.Kids with
          | false => simp [bo3_and]
          | true =>
            rw [Bool.not_true, cond_false, spec_l1In_eq, Option.bind_some, if_pos rfl]
            by_cases d : 0 ≤ q.KidTable ∧ q.KidTable ≤ (s.Cols.length : Int) - 1
            · rw [decide_eq_true d, gd_true, getO_Int d, Option.bind_some, gd_true, spec_l1In_eq, Option.bind_some, bo3_and]
              simp
            · rw [decide_eq_false d, gd_false, Option.bind_some, gd_false, Option.bind_some, bo3_and]
              simp
      · unfold showB
        cases allFrom (fun i x => decide (0 ≤ x ∧ x ≤ w64 (cols - 1)) && !(decide (0 < i) && decide (x ≤ q.Show.getD (i - 1) 0))) q.Show 0 <;> rfl
    · rw [allFrom_zero]
      cases q.Where.all fun c => condB cols c <;> simp

def bl (l : List UInt8) : ByteArray := ⟨l.toArray⟩
theorem bl_sa (a b : List UInt8) : Ls.sa (bl a) (bl b) = bl (a ++ b) := by
  show (bl a ++ bl b) = _
  apply ByteArray.ext
  simp [bl]
theorem bl_size (a : List UInt8) : (bl a).size = a.length := rfl
theorem bsO_one (n : Nat) (h : n < 256) : bsO [(n : Int)] = bl [UInt8.ofNat n] := rfl
def digs (u : Nat) : List UInt8 := if u = 0 then [] else Lib.decDigits u
theorem digs_step {u : Nat} (h : 0 < u) : digs u = digs (u / 10) ++ [UInt8.ofNat (48 + u % 10)] := by
  unfold digs
  rw [if_neg (by omega), Lib.decDigits]
  split
  · rename_i c
    rw [if_pos (by omega)]
    have : u % 10 = u := by omega
    rw [this]; rfl
  · rw [if_neg (by omega)]
theorem wrap8 {n : Nat} (h : n < 256) : IntKind.wrap .u8 (n : Int) = n := by simp [IntKind.wrap, IntKind.signed, IntKind.bits]; omega
theorem smO_ok {x y : ByteArray} (h : (x.size + y.size : Int) ≤ 9223372036854775807) : smO x y = some () := by unfold smO; rw [if_pos h]
theorem decDigits_len : ∀ (k u : Nat), u < 10 ^ k → (digs u).length ≤ k := by
  intro k
  induction k with
  | zero => intro u h; have : u = 0 := by simpa using h
            subst this; simp [digs]
  | succ k ih =>
    intro u h
    by_cases h0 : u = 0
    · subst h0; simp [digs]
    · rw [digs_step (by omega)]
      have := ih (u / 10) (by rw [Nat.pow_succ] at h; omega)
      simp only [List.length_append, List.length_cons, List.length_nil]; omega

theorem l2Digits_l0 (K : Bool → ByteArray → Option ByteArray) (b : Bool) : ∀ (k u : Nat) (neg : Bool) (l : List UInt8), u < 10 ^ k → u ≤ 9223372036854775808 → l.length + k ≤ 1000 → spec_l2Digits.l0 K (k + 1) (if neg = true then -(u : Int) else u) b (bl l) = K b (bl (digs u ++ l)) := by
  intro k
  induction k with
  | zero =>
    intro u neg l h _ _
    have : u = 0 := by simpa using h
    subst this
    rw [spec_l2Digits.l0]
    cases neg <;> simp [digs]
  | succ k ih =>
    intro u neg l h hu hl
    rw [spec_l2Digits.l0]
    by_cases h0 : u = 0
    · subst h0
      cases neg <;> simp [digs]
    · have hz : (if neg = true then -(u : Int) else u) ≠ 0 := by cases neg <;> simp <;> omega
      have hd : u / 10 < 10 ^ k := by rw [Nat.pow_succ] at h; omega
      have hdiv : w64 (Int.tdiv (if neg = true then -(u : Int) else u) 10) = (if neg = true then -((u / 10 : Nat) : Int) else ((u / 10 : Nat) : Int)) := by
        cases neg with
        | true => simp only [if_true]; rw [Int.neg_tdiv, Int.tdiv_eq_ediv_of_nonneg (by omega), w64_id (by omega)]; omega
        | false => simp only [if_false, Bool.false_eq_true]; rw [Int.tdiv_eq_ediv_of_nonneg (by omega), w64_id (by omega)]; omega
      have hm : Int.tmod (if neg = true then -(u : Int) else u) 10 = (if neg = true then -((u % 10 : Nat) : Int) else ((u % 10 : Nat) : Int)) := by
        cases neg with
        | true => simp only [if_true]; rw [Int.neg_tmod, Int.tmod_eq_emod_of_nonneg (by omega)]; omega
        | false => simp only [if_false, Bool.false_eq_true]; rw [Int.tmod_eq_emod_of_nonneg (by omega)]; omega
      rw [decide_eq_true hz, cond_true, hdiv, hm, digs_step (by omega)]
      have hsm : smO (bl [UInt8.ofNat (48 + u % 10)]) (bl l) = some () := smO_ok (by rw [bl_size, bl_size]; simp only [List.length_cons, List.length_nil]; omega)
      have fin : spec_l2Digits.l0 K (k + 1) (if neg = true then -((u / 10 : Nat) : Int) else ((u / 10 : Nat) : Int)) b (Ls.sa (bl [UInt8.ofNat (48 + u % 10)]) (bl l)) = K b (bl (digs (u / 10) ++ [UInt8.ofNat (48 + u % 10)] ++ l)) := by
        rw [bl_sa, ih (u / 10) neg _ hd (by omega) (by simp only [List.length_append, List.length_cons, List.length_nil]; omega)]
        simp
      by_cases hneg : (if neg = true then -((u % 10 : Nat) : Int) else ((u % 10 : Nat) : Int)) < 0
      · have hn : neg = true := by cases neg <;> simp_all <;> omega
        subst hn
        simp only [if_true] at hneg fin ⊢
        rw [decide_eq_true hneg, cond_true, w64_id (x := 0 - -((u % 10 : Nat) : Int)) (by omega), w64_id (by omega), show (48 : Int) + (0 - -((u % 10 : Nat) : Int)) = ((48 + u % 10 : Nat) : Int) by omega, wrap8 (by omega), Option.bind_some, bsO_one _ (by omega), Option.bind_some, hsm, Option.bind_some, fin]
      · have hv : (if neg = true then -((u % 10 : Nat) : Int) else ((u % 10 : Nat) : Int)) = ((u % 10 : Nat) : Int) := by cases neg <;> simp at hneg ⊢ <;> omega
        rw [decide_eq_false hneg, cond_false, hv, w64_id (by omega), show (48 : Int) + ((u % 10 : Nat) : Int) = ((48 + u % 10 : Nat) : Int) by omega, wrap8 (by omega), Option.bind_some, bsO_one _ (by omega), Option.bind_some, hsm, Option.bind_some, fin]
theorem spec_l2Digits_eq (n : Int) (h : -9223372036854775808 ≤ n ∧ n ≤ 9223372036854775807) : spec_l2Digits.f n = some (bl (Lib.itoa n)) := by
  unfold spec_l2Digits.f
  by_cases h0 : n = 0
  · subst h0
    rw [decide_eq_true rfl, cond_true, show Lib.itoa 0 = [48] by rw [Lib.itoa, if_neg (by omega), Lib.decDigits, dif_pos (by decide)]; rfl]
    rfl
  · rw [decide_eq_false h0, cond_false, joinK_eq]
    have key := l2Digits_l0 (fun (y2 : Bool) (y3 : ByteArray) =>
      bif y2 then (
      (smO (ByteArray.mk #[45]) y3).bind fun u20 =>
      some (Ls.sa (ByteArray.mk #[45]) y3))
      else (
      some y3)) (decide (n < 0)) 29 n.natAbs (decide (n < 0)) [] (by omega) (by omega) (by simp)
    have hn : (if decide (n < 0) = true then -((n.natAbs : Nat) : Int) else (n.natAbs : Nat)) = n := by
      by_cases c : n < 0
      · rw [if_pos (by simpa using c)]; omega
      · rw [if_neg (by simpa using c)]; omega
    rw [hn] at key
    have hlen := decDigits_len 29 n.natAbs (by omega)
    refine key.trans ?_
    rw [List.append_nil]
    have hdg : digs n.natAbs = Lib.decDigits n.natAbs := by unfold digs; rw [if_neg (by omega)]
    by_cases c : n < 0
    · rw [decide_eq_true c, cond_true, show ByteArray.mk #[45] = bl [45] from rfl, smO_ok (by rw [bl_size, bl_size]; simp only [List.length_cons, List.length_nil]; omega), Option.bind_some, bl_sa, hdg]
      simp [Lib.itoa, c]
    · rw [decide_eq_false c, cond_false, hdg]
      simp [Lib.itoa, c]
      try congr 2; omega

theorem spec_l10Signs_eq : spec_l10Signs.f = some [ByteArray.mk #[], ByteArray.mk #[61], ByteArray.mk #[60], ByteArray.mk #[62], ByteArray.mk #[33]] := rfl

theorem strconv_Itoa_eq (n : Int) (h : -9223372036854775808 ≤ n ∧ n ≤ 9223372036854775807) : strconv_Itoa.f n = some (bl (Lib.itoa n)) := by
  unfold strconv_Itoa.f itoaO
  rw [if_pos h]; rfl

def sgn (op : Int) : List UInt8 := if op = 1 then [61] else if op = 2 then [60] else if op = 3 then [62] else [33]
def condW (c : Cond) : List (List UInt8) := [[119, 104, 101, 114, 101], Lib.itoa c.Col, sgn c.Op, Lib.itoa c.V]
def whereW (l : List Cond) : List (List UInt8) := l.flatMap condW
def downW (q : Query) : List (List UInt8) := if q.Down = true then [[100, 111, 119, 110]] else []
def orderW (q : Query) : List (List UInt8) := if q.Order ≠ 0 then [111, 114, 100, 101, 114] :: Lib.itoa (q.Order - 1) :: downW q else []
def firstW (q : Query) : List (List UInt8) := if q.First ≠ 0 then [[102, 105, 114, 115, 116], Lib.itoa q.First] else []
def showW (l : List Int) : List (List UInt8) := if l = [] then [] else [115, 104, 111, 119] :: l.map Lib.itoa
def kidsW (q : Query) : List (List UInt8) := if q.Kids = true then [[107, 105, 100, 115], Lib.itoa q.KidTable, Lib.itoa q.KidCol] else []
def restW (q : Query) : List (List UInt8) := Lib.itoa q.Table :: (whereW q.Where ++ (orderW q ++ (firstW q ++ (showW q.Show ++ kidsW q))))
def qwords (q : Query) : List (List UInt8) := [102, 114, 111, 109] :: restW q
abbrev jt (ws : List (List UInt8)) : List UInt8 := Lib.joinTail [32] ws
def qtext (q : Query) : List UInt8 := [102, 114, 111, 109] ++ jt (restW q)
theorem jt_nil : jt [] = [] := rfl
theorem jt_cons (w : List UInt8) (ws : List (List UInt8)) : jt (w :: ws) = 32 :: w ++ jt ws := by simp [Lib.joinTail]
theorem jt_app (a b : List (List UInt8)) : jt (a ++ b) = jt a ++ jt b := by simp [Lib.joinTail]
theorem qtext_join (q : Query) : Lib.join (qwords q) [32] = qtext q := Lib.join_cons _ _ _
theorem itoa_len {n : Int} {k : Nat} (hk : 0 < k) (h : n.natAbs < 10 ^ k) : (Lib.itoa n).length ≤ k + 1 := by
  have h1 := decDigits_len k n.natAbs h
  unfold digs at h1
  unfold Lib.itoa
  by_cases h0 : n.natAbs = 0
  · have : n = 0 := by omega
    subst this
    rw [if_neg (by omega), show (0 : Int).toNat = 0 from rfl, Lib.decDigits, dif_pos (by decide)]
    simp
  · rw [if_neg h0] at h1
    split
    · simp only [List.length_cons]; omega
    · rw [show n.toNat = n.natAbs by omega]; omega
theorem itoa_len11 {n : Int} (h : -1000000000 ≤ n ∧ n ≤ 1000000000) : (Lib.itoa n).length ≤ 11 := itoa_len (k := 10) (by decide) (by omega)
theorem addO_bl {a b : List UInt8} (h : a.length + b.length ≤ 4611686018427387904) : addO (bl a) (bl b) = some (bl (a ++ b)) := by
  unfold addO
  rw [if_pos (by rw [bl_size, bl_size]; omega)]
  exact congrArg some (bl_sa a b)
/-- What is asked of a question that is right, in numbers. -/
structure QRight (q : Query) : Prop where
  t : 0 ≤ q.Table ∧ q.Table ≤ 2
  w : q.Where.length ≤ 3
  c : ∀ c ∈ q.Where, (0 ≤ c.Col ∧ c.Col ≤ 3) ∧ (1 ≤ c.Op ∧ c.Op ≤ 4) ∧ (-1000000000 ≤ c.V ∧ c.V ≤ 1000000000)
  o : 0 ≤ q.Order ∧ q.Order ≤ 4
  d : q.Down = true → 0 < q.Order
  f : 0 ≤ q.First ∧ q.First ≤ 24
  s : ∀ x ∈ q.Show, 0 ≤ x ∧ x ≤ 3
  sl : q.Show.length ≤ 4
  k : 0 ≤ q.KidTable ∧ q.KidTable ≤ 2
  kc : 0 ≤ q.KidCol ∧ q.KidCol ≤ 3
  k0 : q.Kids = false → q.KidTable = 0 ∧ q.KidCol = 0
theorem show_up {cols : Int} {l : List Int} (h : showB cols l = true) : ∀ (i : Nat) x, l[i]? = some x → (i : Int) ≤ x := by
  unfold showB at h
  rw [allFrom_iff] at h
  intro i
  induction i with
  | zero =>
    intro x hx
    have := h 0 x hx
    simp only [Bool.and_eq_true, decide_eq_true_eq] at this
    have := this.1
    omega
  | succ i ih =>
    intro x hx
    have hi := at_lt hx
    have hy := List.getElem?_eq_getElem (show i < l.length by omega)
    have h1 := ih _ hy
    have := h (i + 1) x hx
    simp only [Bool.and_eq_true, decide_eq_true_eq, Bool.not_eq_true', Bool.and_eq_false_iff, decide_eq_false_iff_not, Nat.add_sub_cancel, List.getD_eq_getElem?_getD, hy, Option.getD_some] at this
    obtain ⟨_, h2⟩ := this
    rcases h2 with h2 | h2
    · omega
    · omega
theorem cols_at {s : Schema} (hs : schemaB s = true) {t : Int} (ht : 0 ≤ t ∧ t ≤ (s.Cols.length : Int) - 1) : 1 ≤ s.Cols.getD t.toNat 0 ∧ s.Cols.getD t.toNat 0 ≤ 4 := by
  unfold schemaB at hs
  rw [Bool.and_eq_true, List.all_eq_true] at hs
  have hx := List.getElem?_eq_getElem (show t.toNat < s.Cols.length by omega)
  rw [List.getD_eq_getElem?_getD, hx, Option.getD_some]
  exact of_decide_eq_true (hs.1 _ (List.getElem_mem _))
theorem queryB_QR {s : Schema} {q : Query} (h : queryB s q = true) : QRight q := by
  unfold queryB kidsB at h
  dsimp only at h
  simp only [Bool.and_eq_true, decide_eq_true_eq, List.all_eq_true, Bool.or_eq_true, Bool.not_eq_true'] at h
  obtain ⟨⟨hs, ht⟩, ⟨hw, hsh⟩, ⟨⟨⟨h3, ho⟩, hd⟩, hf⟩, hk⟩ := h
  have hc := cols_at hs ht
  have hs' := hs
  unfold schemaB at hs'
  rw [Bool.and_eq_true] at hs'
  have hl := of_decide_eq_true hs'.2
  generalize s.Cols.getD q.Table.toNat 0 = cols at *
  have hup := show_up hsh
  have hsh' := hsh
  unfold showB at hsh'
  rw [allFrom_iff] at hsh'
  have hx : ∀ (i : Nat) x, q.Show[i]? = some x → 0 ≤ x ∧ x ≤ 3 := by
    intro i x hx
    have := hsh' i x hx
    simp only [Bool.and_eq_true, decide_eq_true_eq] at this
    have h1 := this.1
    rw [w64_id (by omega)] at h1
    omega
  refine ⟨by omega, h3, ?_, by omega, ?_, hf, ?_, ?_, ?_, ?_, ?_⟩
  · intro c hc'
    have := hw c hc'
    unfold condB at this
    simp only [Bool.and_eq_true, decide_eq_true_eq] at this
    rw [w64_id (by omega)] at this
    omega
  · intro h
    rcases hd with hd | hd
    · rw [h] at hd; cases hd
    · exact hd
  · intro x hm
    obtain ⟨i, hi⟩ := List.mem_iff_getElem?.1 hm
    exact hx i x hi
  · by_cases hlen : q.Show.length ≤ 4
    · exact hlen
    · have hy := List.getElem?_eq_getElem (show 4 < q.Show.length by omega)
      have := hup 4 _ hy
      have := hx 4 _ hy
      omega
  · split at hk
    · have := of_decide_eq_true ((Bool.and_eq_true _ _).mp hk).1
      omega
    · have := of_decide_eq_true ((Bool.and_eq_true _ _).mp hk).1
      omega
  · split at hk
    · have h1 := of_decide_eq_true ((Bool.and_eq_true _ _).mp hk).1
      have h2 := of_decide_eq_true ((Bool.and_eq_true _ _).mp hk).2
      have hc2 := cols_at hs h1
      rw [w64_id (by omega)] at h2
      omega
    · have := of_decide_eq_true ((Bool.and_eq_true _ _).mp hk).2
      omega
  · intro h0
    rw [h0, if_neg (by simp)] at hk
    exact ⟨of_decide_eq_true ((Bool.and_eq_true _ _).mp hk).1, of_decide_eq_true ((Bool.and_eq_true _ _).mp hk).2⟩
/-- The words' lengths. -/
theorem len_jt (ws : List (List UInt8)) : (jt ws).length = ws.length + Lib.lens ws := by
  have := Lib.joinTail_length [32] ws
  simpa using this
theorem sgn_len (o : Int) : (sgn o).length = 1 := by unfold sgn; (repeat' split) <;> rfl
theorem jt_where {l : List Cond} (h : ∀ c ∈ l, (0 ≤ c.Col ∧ c.Col ≤ 3) ∧ (1 ≤ c.Op ∧ c.Op ≤ 4) ∧ (-1000000000 ≤ c.V ∧ c.V ≤ 1000000000)) : (jt (whereW l)).length ≤ 32 * l.length ∧ (whereW l).length = 4 * l.length := by
  induction l with
  | nil => exact ⟨Nat.le_refl _, rfl⟩
  | cons c l ih =>
    have h1 := h c (by simp)
    have h2 := ih fun c hc => h c (by simp [hc])
    have e1 := itoa_len11 (n := c.Col) (by omega)
    have e2 := itoa_len11 (n := c.V) (by omega)
    have e3 := sgn_len c.Op
    have : whereW (c :: l) = condW c ++ whereW l := rfl
    rw [this, jt_app, List.length_append, List.length_append, h2.2]
    simp only [condW, jt_cons, jt_nil, List.length_append, List.length_cons, List.length_nil]
    omega
theorem jt_show {l : List Int} (h : ∀ x ∈ l, 0 ≤ x ∧ x ≤ 3) : (jt (l.map Lib.itoa)).length ≤ 12 * l.length := by
  induction l with
  | nil => exact Nat.le_refl _
  | cons x l ih =>
    have h1 := itoa_len11 (n := x) (by have := h x (by simp); omega)
    have h2 := ih fun x hx => h x (by simp [hx])
    rw [List.map_cons, jt_cons]
    simp only [List.length_append, List.length_cons]
    omega
theorem jt_showW {l : List Int} (h : ∀ x ∈ l, 0 ≤ x ∧ x ≤ 3) : (jt (showW l)).length ≤ 12 * l.length + 5 := by
  unfold showW
  have := jt_show h
  split
  · simp [jt_nil]
  · rw [jt_cons]; simp only [List.length_append, List.length_cons, List.length_nil]; omega
theorem len_qtext {q : Query} (h : QRight q) : (qtext q).length ≤ 300 := by
  have h1 := jt_where h.c
  have h2 := jt_showW h.s
  have hw := h.w
  have hsl := h.sl
  have e1 := itoa_len11 (n := q.Table) (by have := h.t; omega)
  have e2 := itoa_len11 (n := q.Order - 1) (by have := h.o; omega)
  have e3 := itoa_len11 (n := q.First) (by have := h.f; omega)
  have e4 := itoa_len11 (n := q.KidTable) (by have := h.k; omega)
  have e5 := itoa_len11 (n := q.KidCol) (by have := h.kc; omega)
  have g1 : (jt (orderW q)).length ≤ 24 := by
    unfold orderW downW
    split
    · split <;> simp only [jt_cons, jt_nil, List.length_append, List.length_cons, List.length_nil] <;> omega
    · simp [jt_nil]
  have g2 : (jt (firstW q)).length ≤ 24 := by
    unfold firstW
    split
    · simp only [jt_cons, jt_nil, List.length_append, List.length_cons, List.length_nil]; omega
    · simp [jt_nil]
  have g3 : (jt (kidsW q)).length ≤ 36 := by
    unfold kidsW
    split
    · simp only [jt_cons, jt_nil, List.length_append, List.length_cons, List.length_nil]; omega
    · simp [jt_nil]
  unfold qtext restW
  rw [jt_cons]
  simp only [jt_app, List.length_append, List.length_cons, List.length_nil]
  omega

theorem sgn_at {o : Int} (h : 1 ≤ o ∧ o ≤ 4) : getO [ByteArray.mk #[], ByteArray.mk #[61], ByteArray.mk #[60], ByteArray.mk #[62], ByteArray.mk #[33]] o = some (bl (sgn o)) := by
  have : o = 1 ∨ o = 2 ∨ o = 3 ∨ o = 4 := by omega
  rcases this with rfl | rfl | rfl | rfl <;> rfl
theorem bind_sm {α β : Type} (a : α) (f : α → Option β) : (some a).bind f = f a := rfl
theorem mk_bl (l : List UInt8) : ByteArray.mk l.toArray = bl l := rfl
theorem sqt_l0 (q : Query) (K : ByteArray → Option ByteArray) (h : ∀ c ∈ q.Where, (0 ≤ c.Col ∧ c.Col ≤ 3) ∧ (1 ≤ c.Op ∧ c.Op ≤ 4) ∧ (-1000000000 ≤ c.V ∧ c.V ≤ 1000000000)) (hl : q.Where.length ≤ 3) : ∀ (k i : Nat) (t : List UInt8), i ≤ q.Where.length → q.Where.length < i + k → t.length ≤ 1000 + 100 * i → spec_QueryText.l0 q K k (bl t) (i : Int) = K (bl (t ++ jt (whereW (q.Where.drop i)))) := by
  intro k
  induction k with
  | zero => intro i t h1 h2; omega
  | succ k ih =>
    intro i t h1 h2 h3
    rw [spec_QueryText.l0, lenI_eq]
    by_cases hi : i < q.Where.length
    · have hx := List.getElem?_eq_getElem hi
      have hc := h _ (List.getElem_mem hi)
      have e1 := itoa_len11 (n := q.Where[i].Col) (by omega)
      have e2 := itoa_len11 (n := q.Where[i].V) (by omega)
      have e3 := sgn_len q.Where[i].Op
      rw [decide_eq_true (by omega), cond_true, getO_nat, hx, bind_sm, show ByteArray.mk #[32, 119, 104, 101, 114, 101, 32] = bl [32, 119, 104, 101, 114, 101, 32] from rfl, show ByteArray.mk #[32] = bl [32] from rfl,
        addO_bl (by simp only [List.length_cons, List.length_nil]; omega), bind_sm, spec_l2Digits_eq _ (by omega), bind_sm, addO_bl (by simp only [List.length_append, List.length_cons, List.length_nil]; omega), bind_sm, addO_bl (by simp only [List.length_append, List.length_cons, List.length_nil]; omega), bind_sm,
        spec_l10Signs_eq, bind_sm, sgn_at hc.2.1, bind_sm, addO_bl (by simp only [List.length_append, List.length_cons, List.length_nil]; omega), bind_sm, addO_bl (by simp only [List.length_append, List.length_cons, List.length_nil]; omega), bind_sm,
        spec_l2Digits_eq _ (by omega), bind_sm, addO_bl (by simp only [List.length_append, List.length_cons, List.length_nil]; omega), bind_sm, w64_succ (by omega), ih (i + 1) _ (by omega) (by omega) (by simp only [List.length_append, List.length_cons, List.length_nil]; omega), List.drop_eq_getElem_cons hi]
      congr 2
      rw [show whereW (q.Where[i] :: q.Where.drop (i + 1)) = condW q.Where[i] ++ whereW (q.Where.drop (i + 1)) from rfl, jt_app]
      simp [condW, jt_cons, jt_nil]
    · rw [decide_eq_false (by omega), cond_false, List.drop_eq_nil_of_le (by omega)]
      simp [whereW, jt_nil]
theorem sqt_l1 (q : Query) (K : ByteArray → Option ByteArray) (h : ∀ x ∈ q.Show, 0 ≤ x ∧ x ≤ 3) (hl : q.Show.length ≤ 4) : ∀ (k i : Nat) (t : List UInt8), i ≤ q.Show.length → q.Show.length < i + k → t.length ≤ 2000 + 100 * i → spec_QueryText.l1 q K k (bl t) (i : Int) = K (bl (t ++ jt (if i = 0 then showW q.Show else (q.Show.drop i).map Lib.itoa))) := by
  intro k
  induction k with
  | zero => intro i t h1 h2; omega
  | succ k ih =>
    intro i t h1 h2 h3
    rw [spec_QueryText.l1, lenI_eq]
    by_cases hi : i < q.Show.length
    · have hx := List.getElem?_eq_getElem hi
      have hc := h _ (List.getElem_mem hi)
      have e1 := itoa_len11 (n := q.Show[i]) (by omega)
      have hne : q.Show ≠ [] := List.length_pos_iff.1 (by omega)
      rw [decide_eq_true (by omega), cond_true, joinK_eq]
      have go : ∀ t' : List UInt8, t'.length ≤ 2050 + 100 * i → ((addO (bl t') (ByteArray.mk #[32])).bind fun s66 => (getO q.Show (i : Int)).bind fun x67 => (spec_l2Digits.f x67).bind fun r68 => (addO s66 r68).bind fun s69 => spec_QueryText.l1 q K k s69 (w64 ((i : Int) + 1))) = K (bl (t' ++ jt ((q.Show.drop i).map Lib.itoa))) := by
        intro t' ht'
        rw [show ByteArray.mk #[32] = bl [32] from rfl, addO_bl (by simp only [List.length_cons, List.length_nil]; omega), bind_sm, getO_nat, hx, bind_sm, spec_l2Digits_eq _ (by omega), bind_sm, addO_bl (by simp only [List.length_append, List.length_cons, List.length_nil]; omega), bind_sm, w64_succ (by omega), ih (i + 1) _ (by omega) (by omega) (by simp only [List.length_append, List.length_cons, List.length_nil]; omega), if_neg (by omega), List.drop_eq_getElem_cons hi, List.map_cons, jt_cons]
        congr 2
        simp
      by_cases h0 : i = 0
      · subst h0
        rw [decide_eq_true (by omega), cond_true, show ByteArray.mk #[32, 115, 104, 111, 119] = bl [32, 115, 104, 111, 119] from rfl, addO_bl (by simp only [List.length_cons, List.length_nil]; omega), bind_sm]
        refine (go _ (by simp only [List.length_append, List.length_cons, List.length_nil]; omega)).trans ?_
        rw [if_pos rfl, List.drop_zero]
        unfold showW
        rw [if_neg hne, jt_cons]
        congr 2
        simp
      · rw [decide_eq_false (by omega), cond_false, if_neg h0]
        exact go _ (by omega)
    · rw [decide_eq_false (by omega), cond_false, List.drop_eq_nil_of_le (by omega)]
      have : (if i = 0 then showW q.Show else ([] : List Int).map Lib.itoa) = [] := by
        split
        · have : q.Show = [] := List.length_eq_zero_iff.1 (by omega)
          rw [this]; rfl
        · rfl
      rw [this, jt_nil, List.append_nil]
theorem sqt_order (q : Query) (Q : QRight q) (K : ByteArray → Option ByteArray) (t : List UInt8) (hl : t.length ≤ 3000) : (bif (decide (q.Order ≠ 0)) then ((addO (bl t) (ByteArray.mk #[32, 111, 114, 100, 101, 114, 32])).bind fun s35 => (spec_l2Digits.f (w64 (q.Order - 1))).bind fun r36 => (addO s35 r36).bind fun s37 => bif q.Down then ((addO s37 (ByteArray.mk #[32, 100, 111, 119, 110])).bind fun s39 => K s39) else K s37) else K (bl t)) = K (bl (t ++ jt (orderW q))) := by
  have ho := Q.o
  have e1 := itoa_len11 (n := q.Order - 1) (by omega)
  unfold orderW downW
  by_cases h : q.Order = 0
  · rw [decide_eq_false (by simp [h]), if_neg (by simp [h]), cond_false, jt_nil, List.append_nil]
  · rw [decide_eq_true h, if_pos h, cond_true, w64_id (by omega), show ByteArray.mk #[32, 111, 114, 100, 101, 114, 32] = bl [32, 111, 114, 100, 101, 114, 32] from rfl, addO_bl (by simp only [List.length_cons, List.length_nil]; omega), bind_sm, spec_l2Digits_eq _ (by omega), bind_sm, addO_bl (by simp only [List.length_append, List.length_cons, List.length_nil]; omega), bind_sm]
    cases hd : q.Down with
    | false => rw [cond_false, if_neg (by simp)]; congr 2; simp [jt_cons, jt_nil]
    | true =>
      rw [cond_true, show ByteArray.mk #[32, 100, 111, 119, 110] = bl [32, 100, 111, 119, 110] from rfl, addO_bl (by simp only [List.length_append, List.length_cons, List.length_nil]; omega), bind_sm, if_pos rfl]
      congr 2
      simp [jt_cons, jt_nil]
theorem sqt_first (q : Query) (Q : QRight q) (K : ByteArray → Option ByteArray) (t : List UInt8) (hl : t.length ≤ 4000) : (bif (decide (q.First ≠ 0)) then ((addO (bl t) (ByteArray.mk #[32, 102, 105, 114, 115, 116, 32])).bind fun s43 => (spec_l2Digits.f q.First).bind fun r44 => (addO s43 r44).bind fun s45 => K s45) else K (bl t)) = K (bl (t ++ jt (firstW q))) := by
  have hf := Q.f
  have e1 := itoa_len11 (n := q.First) (by omega)
  unfold firstW
  by_cases h : q.First = 0
  · rw [decide_eq_false (by simp [h]), if_neg (by simp [h]), cond_false, jt_nil, List.append_nil]
  · rw [decide_eq_true h, if_pos h, cond_true, show ByteArray.mk #[32, 102, 105, 114, 115, 116, 32] = bl [32, 102, 105, 114, 115, 116, 32] from rfl, addO_bl (by simp only [List.length_cons, List.length_nil]; omega), bind_sm, spec_l2Digits_eq _ (by omega), bind_sm, addO_bl (by simp only [List.length_append, List.length_cons, List.length_nil]; omega), bind_sm]
    congr 2
    simp [jt_cons, jt_nil]
theorem sqt_kids (q : Query) (Q : QRight q) (t : List UInt8) (hl : t.length ≤ 5000) : (bif q.Kids then ((addO (bl t) (ByteArray.mk #[32, 107, 105, 100, 115, 32])).bind fun s71 => (spec_l2Digits.f q.KidTable).bind fun r72 => (addO s71 r72).bind fun s73 => (addO s73 (ByteArray.mk #[32])).bind fun s74 => (spec_l2Digits.f q.KidCol).bind fun r75 => (addO s74 r75).bind fun s76 => some s76) else some (bl t)) = some (bl (t ++ jt (kidsW q))) := by
  have hk := Q.k
  have hkc := Q.kc
  have e1 := itoa_len11 (n := q.KidTable) (by omega)
  have e2 := itoa_len11 (n := q.KidCol) (by omega)
  unfold kidsW
  cases hK : q.Kids with
  | true =>
    rw [if_pos rfl, cond_true, show ByteArray.mk #[32, 107, 105, 100, 115, 32] = bl [32, 107, 105, 100, 115, 32] from rfl, show ByteArray.mk #[32] = bl [32] from rfl, addO_bl (by simp only [List.length_cons, List.length_nil]; omega), bind_sm, spec_l2Digits_eq _ (by omega), bind_sm, addO_bl (by simp only [List.length_append, List.length_cons, List.length_nil]; omega), bind_sm, addO_bl (by simp only [List.length_append, List.length_cons, List.length_nil]; omega), bind_sm, spec_l2Digits_eq _ (by omega), bind_sm, addO_bl (by simp only [List.length_append, List.length_cons, List.length_nil]; omega), bind_sm]
    congr 2
    simp [jt_cons, jt_nil]
  | false => rw [if_neg (by simp), cond_false, jt_nil, List.append_nil]
theorem spec_QueryText_eq (s : Schema) (q : Query) (hs : Schema_b s) (hb : Query_b q) : spec_QueryText.f s q = some (bl (if queryB s q = true then qtext q else [])) := by
  unfold spec_QueryText.f
  rw [spec_QueryOk_eq s q hs hb, bind_sm, bo3_not]
  by_cases hq : queryB s q = true
  · have Q := queryB_QR hq
    have ht := Q.t
    have hlq := len_qtext Q
    have hW := Q.w
    have hsl := Q.sl
    have e1 := itoa_len11 (n := q.Table) (by omega)
    rw [hq, if_pos rfl, Bool.not_true, cond_false, spec_l2Digits_eq _ (by omega), bind_sm, show ByteArray.mk #[102, 114, 111, 109, 32] = bl [102, 114, 111, 109, 32] from rfl, addO_bl (by simp only [List.length_cons, List.length_nil]; omega), bind_sm, joinK_eq, show (((lenI q.Where) - 0).toNat + 1) = q.Where.length + 1 by rw [lenI_eq]; omega]
    have e : qtext q = ((((([102, 114, 111, 109, 32] ++ Lib.itoa q.Table) ++ jt (whereW q.Where)) ++ jt (orderW q)) ++ jt (firstW q)) ++ jt (showW q.Show)) ++ jt (kidsW q) := by simp [qtext, restW, jt_cons, jt_app]
    have el := congrArg List.length e
    simp only [List.length_append] at el
    refine (sqt_l0 q _ Q.c Q.w _ 0 _ (by omega) (by omega) (by simp; omega)).trans ?_
    rw [List.drop_zero, joinK_eq]
    refine (sqt_order q Q _ _ (by simp only [List.length_append]; omega)).trans ?_
    rw [joinK_eq]
    refine (sqt_first q Q _ _ (by simp only [List.length_append]; omega)).trans ?_
    rw [joinK_eq, show (((lenI q.Show) - 0).toNat + 1) = q.Show.length + 1 by rw [lenI_eq]; omega]
    refine (sqt_l1 q _ Q.s Q.sl _ 0 _ (by omega) (by omega) (by simp only [List.length_append]; omega)).trans ?_
    rw [if_pos rfl]
    refine (sqt_kids q Q _ (by simp only [List.length_append]; omega)).trans ?_
    rw [← e]
  · rw [Bool.not_eq_true] at hq
    rw [hq, if_neg (by simp)]
    rfl

theorem laws_toIntS_eq (a : List Int) (h : sz_IntS a ≤ 1048576) : laws_toIntS.f a = some a := by
  unfold laws_toIntS.f
  unfold sz_IntS at h
  rw [lenI_eq, mkO_ok (by omega), Option.bind_some]
  refine loop_fill (f := laws_toIntS.l0 a) (l := a) some (fun k i s x y hx hy => ?_) (fun k s i hi => ?_) _ 0 _ (by omega) (by omega) (by rw [List.length_replicate]; omega) (by simp)
  · have hi := at_lt hx
    rw [laws_toIntS.l0, lenI_eq, decide_eq_true (by omega), cond_true, getO_nat, hx, Option.bind_some, getO_nat, hy, Option.bind_some, Option.bind_some, setI_nat, w64_succ (by omega)]
  · rw [laws_toIntS.l0, lenI_eq, decide_eq_false (by omega), cond_false]
theorem laws_toSchema_eq (a : Schema) (h : sz_Schema a ≤ 1048576) : laws_toSchema.f a = some a := by
  unfold sz_Schema at h
  have p_Cols := sz_IntS_0 a.Cols
  unfold laws_toSchema.f
  rw [laws_toIntS_eq _ (by omega), Option.bind_some]
theorem laws_toCond_eq (a : Cond) : laws_toCond.f a = some a := rfl
theorem laws_toCondS_eq (a : List Cond) (h : sz_CondS a ≤ 1048576) : laws_toCondS.f a = some a := by
  unfold laws_toCondS.f
  unfold sz_CondS at h
  rw [lenI_eq, mkO_ok (by omega), Option.bind_some]
  refine loop_fill (f := laws_toCondS.l0 a) (l := a) some (fun k i s x y hx hy => ?_) (fun k s i hi => ?_) _ 0 _ (by omega) (by omega) (by rw [List.length_replicate]; omega) (by simp)
  · have hi := at_lt hx
    rw [laws_toCondS.l0, lenI_eq, decide_eq_true (by omega), cond_true, getO_nat, hx, Option.bind_some, laws_toCond_eq x, Option.bind_some, getO_nat, hy, Option.bind_some, Option.bind_some, setI_nat, w64_succ (by omega)]
  · rw [laws_toCondS.l0, lenI_eq, decide_eq_false (by omega), cond_false]
theorem laws_toQuery_eq (a : Query) (h : sz_Query a ≤ 1048576) : laws_toQuery.f a = some a := by
  unfold sz_Query at h
  have p_Where := sz_CondS_0 a.Where
  have p_Show := sz_IntS_0 a.Show
  unfold laws_toQuery.f
  rw [laws_toCondS_eq _ (by omega), Option.bind_some]
  rw [laws_toIntS_eq _ (by omega), Option.bind_some]
theorem impl_within_eq (x y z : Int) : impl_within.f x y z = some (decide (y ≤ x ∧ x ≤ z)) := by
  unfold impl_within.f
  rw [bo3_and, Bool.decide_and]

theorem impl_SchemaOk_eq (s : Schema) (h : Schema_b s) : impl_SchemaOk.f s = some (schemaB s) := by
  have hl : s.Cols.length ≤ 9223372036854775807 := h
  unfold impl_SchemaOk.f joinK
  refine (loop_all (f := impl_SchemaOk.l0 s _) (l := s.Cols) (fun _ n => decide (1 ≤ n ∧ n ≤ 4)) (some false) (some (decide (1 ≤ (s.Cols.length : Int) ∧ (s.Cols.length : Int) ≤ 3))) (fun k i x hx => ?_) (fun k i hi => ?_) _ 0 (by omega) (by (try simp only [lenI_eq]); omega)).trans ?_
  · have hi := at_lt hx
    rw [impl_SchemaOk.l0, lenI_eq, decide_eq_true (by omega), cond_true, getO_nat, hx, Option.bind_some, impl_within_eq, Option.bind_some, bo3_not, w64_succ (by omega)]
    cases decide (1 ≤ x ∧ x ≤ 4) <;> rfl
  · rw [impl_SchemaOk.l0, lenI_eq, decide_eq_false (by omega), cond_false, impl_within_eq, Option.bind_some]
  · rw [allFrom_zero, schemaB]
    cases s.Cols.all fun n => decide (1 ≤ n ∧ n ≤ 4) <;> rfl

theorem impl_hasTable_eq (s : Schema) (t : Int) (h : Schema_b s) : impl_hasTable.f s t = some (decide (0 ≤ t ∧ t ≤ (s.Cols.length : Int) - 1)) := by
  have hl : s.Cols.length ≤ 9223372036854775807 := h
  unfold impl_hasTable.f
  rw [lenI_eq, w64_id (by omega), impl_within_eq, Option.bind_some]

theorem impl_isNum_eq (n : Int) : impl_isNum.f n = some (decide (-1000000000 ≤ n ∧ n ≤ 1000000000)) := by
  unfold impl_isNum.f
  rw [impl_within_eq, Option.bind_some]

theorem impl_kidsFit_eq (s : Schema) (q : Query) (h : Schema_b s) : impl_kidsFit.f s q = some (kidsB s q) := by
  unfold impl_kidsFit.f kidsB
  rw [bo3_not]
  cases q.Kids with
  | false => simp [bo3_and]
  | true =>
    rw [Bool.not_true, cond_false, impl_hasTable_eq _ _ h, Option.bind_some, if_pos rfl]
    by_cases d : 0 ≤ q.KidTable ∧ q.KidTable ≤ (s.Cols.length : Int) - 1
    · rw [decide_eq_true d, gd_true, getO_Int d, Option.bind_some, gd_true, impl_within_eq, Option.bind_some, bo3_and]
    · rw [decide_eq_false d, gd_false, Option.bind_some, gd_false, Option.bind_some, bo3_and]
      rfl

theorem impl_QueryOk_eq (s : Schema) (q : Query) (h : Schema_b s) (hq : Query_b q) : impl_QueryOk.f s q = some (queryB s q) := by
  obtain ⟨hw, hs⟩ := hq
  have hwl : q.Where.length ≤ 9223372036854775807 := hw
  have hsl : q.Show.length ≤ 9223372036854775807 := hs
  unfold impl_QueryOk.f queryB
  rw [impl_SchemaOk_eq _ h, Option.bind_some]
  cases schemaB s with
  | false => rfl
  | true =>
    rw [show bo3 (bo3 true false true) false true = true from rfl, gd_true, impl_hasTable_eq _ _ h, Option.bind_some]
    by_cases d : 0 ≤ q.Table ∧ q.Table ≤ (s.Cols.length : Int) - 1
    case neg => rw [decide_eq_false d]; rfl
    rw [decide_eq_true d, show bo3 (bo3 true false true) true (bo3 true false true) = false from rfl, cond_false, getO_Int d, Option.bind_some]
    generalize s.Cols.getD q.Table.toNat 0 = cols
    simp only [joinK, Bool.true_and]
    refine (loop_all (f := impl_QueryOk.l0 q cols _) (l := q.Where) (fun _ c => condB cols c) (some false) (some (showB cols q.Show && (decide (q.Where.length ≤ 3) && decide (0 ≤ q.Order ∧ q.Order ≤ cols) && (!q.Down || decide (0 < q.Order)) && decide (0 ≤ q.First ∧ q.First ≤ 24) && kidsB s q))) (fun k i x hx => ?_) (fun k i hi => ?_) _ 0 (by omega) (by (try simp only [lenI_eq]); omega)).trans ?_
    · have hi := at_lt hx
      rw [impl_QueryOk.l0, lenI_eq, decide_eq_true (by omega), cond_true, getO_nat, hx, Option.bind_some, impl_within_eq, Option.bind_some, impl_within_eq, impl_isNum_eq, w64_succ (by omega)]
      unfold condB
      cases decide (0 ≤ x.Col ∧ x.Col ≤ w64 (cols - 1)) <;> cases decide (1 ≤ x.Op ∧ x.Op ≤ 4) <;> cases decide (-1000000000 ≤ x.V ∧ x.V ≤ 1000000000) <;> rfl
    · rw [impl_QueryOk.l0, lenI_eq, decide_eq_false (by omega), cond_false]
      refine (loop_all (f := impl_QueryOk.l1 q cols _) (l := q.Show) (fun i x => decide (0 ≤ x ∧ x ≤ w64 (cols - 1)) && !(decide (0 < i) && decide (x ≤ q.Show.getD (i - 1) 0))) (some false) (some (decide (q.Where.length ≤ 3) && decide (0 ≤ q.Order ∧ q.Order ≤ cols) && (!q.Down || decide (0 < q.Order)) && decide (0 ≤ q.First ∧ q.First ≤ 24) && kidsB s q)) (fun k i x hx => ?_) (fun k i hi => ?_) _ 0 (by omega) (by (try simp only [lenI_eq]); omega)).trans ?_
      · have hi := at_lt hx
        rw [impl_QueryOk.l1, lenI_eq, decide_eq_true (by omega), cond_true, getO_nat, hx, Option.bind_some, impl_within_eq, Option.bind_some, show_step hx (by omega), Option.bind_some, w64_succ (by omega)]
        rw [show decide (0 < (i : Int)) = decide (0 < i) from by simp]
        cases decide (0 ≤ x ∧ x ≤ w64 (cols - 1)) <;> cases decide (0 < i) <;> (try rfl)
        simp only [bo3_and, bo3_not, bo3_or, Bool.not_true, Bool.not_false, Bool.true_and, cond_true]
        cases decide (x ≤ q.Show.getD (i - 1) 0) <;> rfl
      · rw [impl_QueryOk.l1, lenI_eq, decide_eq_false (by omega), cond_false, impl_within_eq, Option.bind_some, impl_within_eq, impl_kidsFit_eq _ _ h]
        rw [show decide ((q.Where.length : Int) ≤ 3) = decide (q.Where.length ≤ 3) from by simp; omega]
        cases decide (q.Where.length ≤ 3) <;> cases decide (0 ≤ q.Order ∧ q.Order ≤ cols) <;> cases q.Down <;> cases decide (0 < q.Order) <;> cases decide (0 ≤ q.First ∧ q.First ≤ 24) <;> cases kidsB s q <;> rfl
      · unfold showB
        cases allFrom (fun i x => decide (0 ≤ x ∧ x ≤ w64 (cols - 1)) && !(decide (0 < i) && decide (x ≤ q.Show.getD (i - 1) 0))) q.Show 0 <;> rfl
    · rw [allFrom_zero]
      cases q.Where.all fun c => condB cols c <;> simp

theorem impl_digits_eq (n : Int) (h : -9223372036854775808 ≤ n ∧ n ≤ 9223372036854775807) : impl_digits.f n = some (bl (Lib.itoa n)) := by
  unfold impl_digits.f
  rw [strconv_Itoa_eq n h]; rfl

theorem strings_Join_eq (ws : List (List UInt8)) (sep : List UInt8) (h : ws.length ≤ 140737488355328) (h2 : (Lib.join ws sep).length ≤ 140737488355328) : strings_Join.f (ws.map bl) (bl sep) = some (bl (Lib.join ws sep)) := by
  have e : (ws.map bl).map (·.data.toList) = ws := by simp [bl, Function.comp_def]
  have e2 : (bl sep).data.toList = sep := by simp [bl]
  unfold strings_Join.f joinO
  rw [e, e2, if_pos ⟨by simpa using h, h2⟩]
  rfl

theorem ss_sgn {o : Int} (h : 1 ≤ o ∧ o ≤ 4) : cutS (ByteArray.mk #[61, 60, 62, 33]) (w64 (o - 1)) o = some () ∧ Ls.ss (ByteArray.mk #[61, 60, 62, 33]) (w64 (o - 1)) o = bl (sgn o) := by
  have : o = 1 ∨ o = 2 ∨ o = 3 ∨ o = 4 := by omega
  rcases this with rfl | rfl | rfl | rfl
  · exact ⟨by decide, by decide⟩
  · exact ⟨by decide, by decide⟩
  · exact ⟨by decide, by decide⟩
  · exact ⟨by decide, by decide⟩
theorem bind_one {α β : Type} (a : α) (f : α → Option β) : (some a).bind f = f a := rfl
theorem iqt_l0 (q : Query) (K : List ByteArray → Option ByteArray) (h : ∀ c ∈ q.Where, (0 ≤ c.Col ∧ c.Col ≤ 3) ∧ (1 ≤ c.Op ∧ c.Op ≤ 4) ∧ (-1000000000 ≤ c.V ∧ c.V ≤ 1000000000)) (hl : q.Where.length ≤ 3) : ∀ (k i : Nat) (ws : List (List UInt8)), i ≤ q.Where.length → q.Where.length < i + k → ws.length ≤ 100 + 4 * i → impl_QueryText.l0 q K k (ws.map bl) (i : Int) = K ((ws ++ whereW (q.Where.drop i)).map bl) := by
  intro k
  induction k with
  | zero => intro i ws h1 h2; omega
  | succ k ih =>
    intro i ws h1 h2 h3
    rw [impl_QueryText.l0, lenI_eq]
    by_cases hi : i < q.Where.length
    · have hx := List.getElem?_eq_getElem hi
      have hc := h _ (List.getElem_mem hi)
      rw [decide_eq_true (by omega), cond_true, getO_nat, hx, bind_one, impl_digits_eq _ (by omega), bind_one, (ss_sgn hc.2.1).1, bind_one, impl_digits_eq _ (by omega), bind_one, (ss_sgn hc.2.1).2, bind_one,
        appO_ok (by simp only [List.length_map, List.length_cons, List.length_nil]; omega), bind_one, w64_succ (by omega)]
      have e : ws.map bl ++ [ByteArray.mk #[119, 104, 101, 114, 101], bl (Lib.itoa q.Where[i].Col), bl (sgn q.Where[i].Op), bl (Lib.itoa q.Where[i].V)] = (ws ++ condW q.Where[i]).map bl := by
        rw [List.map_append]; rfl
      rw [e, ih (i + 1) _ (by omega) (by omega) (by simp only [List.length_append, condW, List.length_cons, List.length_nil]; omega), List.drop_eq_getElem_cons hi]
      congr 2
      rw [List.append_assoc]
      rfl
    · rw [decide_eq_false (by omega), cond_false, List.drop_eq_nil_of_le (by omega)]
      simp [whereW]
theorem iqt_l1 (q : Query) (K : List ByteArray → Option ByteArray) (h : ∀ x ∈ q.Show, 0 ≤ x ∧ x ≤ 3) (hl : q.Show.length ≤ 4) : ∀ (k i : Nat) (ws : List (List UInt8)), i ≤ q.Show.length → q.Show.length < i + k → ws.length ≤ 100 + i → impl_QueryText.l1 q K k (ws.map bl) (i : Int) = K ((ws ++ (q.Show.drop i).map Lib.itoa).map bl) := by
  intro k
  induction k with
  | zero => intro i ws h1 h2; omega
  | succ k ih =>
    intro i ws h1 h2 h3
    rw [impl_QueryText.l1, lenI_eq]
    by_cases hi : i < q.Show.length
    · have hx := List.getElem?_eq_getElem hi
      have hc := h _ (List.getElem_mem hi)
      rw [decide_eq_true (by omega), cond_true, getO_nat, hx, bind_one, impl_digits_eq _ (by omega), bind_one, bind_one,
        appO_ok (by simp only [List.length_map, List.length_cons, List.length_nil]; omega), bind_one, w64_succ (by omega)]
      have e : ws.map bl ++ [bl (Lib.itoa q.Show[i])] = (ws ++ [Lib.itoa q.Show[i]]).map bl := by
        rw [List.map_append]; rfl
      rw [e, ih (i + 1) _ (by omega) (by omega) (by simp only [List.length_append, List.length_cons, List.length_nil]; omega), List.drop_eq_getElem_cons hi]
      congr 2
      rw [List.append_assoc]
      rfl
    · rw [decide_eq_false (by omega), cond_false, List.drop_eq_nil_of_le (by omega)]
      simp
theorem iqt_kids (q : Query) (Q : QRight q) (K : List ByteArray → Option ByteArray) (ws : List (List UInt8)) (hl : ws.length ≤ 100) : (bif q.Kids then ((impl_digits.f q.KidTable).bind fun r72 => (impl_digits.f q.KidCol).bind fun r73 => (some [(ByteArray.mk #[107, 105, 100, 115]), r72, r73]).bind fun l74 => (appO 16 (ws.map bl) l74).bind fun l75 => K l75) else K (ws.map bl)) = K ((ws ++ kidsW q).map bl) := by
  have hk := Q.k
  have hkc := Q.kc
  unfold kidsW
  cases hK : q.Kids with
  | true =>
    rw [if_pos rfl, cond_true, impl_digits_eq _ (by omega), bind_one, impl_digits_eq _ (by omega), bind_one, bind_one, appO_ok (by simp only [List.length_map, List.length_cons, List.length_nil]; omega), bind_one, List.map_append]
    rfl
  | false => rw [if_neg (by simp), List.append_nil, cond_false]
theorem iqt_show (q : Query) (Q : QRight q) (K : List ByteArray → Option ByteArray) (ws : List (List UInt8)) (hl : ws.length ≤ 90) : (bif (decide (0 < (lenI q.Show))) then ((some [(ByteArray.mk #[115, 104, 111, 119])]).bind fun l47 => (appO 16 (ws.map bl) l47).bind fun l48 => impl_QueryText.l1 q K (((lenI q.Show) - 0).toNat + 1) l48 0) else K (ws.map bl)) = K ((ws ++ showW q.Show).map bl) := by
  have hsl := Q.sl
  unfold showW
  rw [lenI_eq]
  by_cases h : q.Show = []
  · rw [h, if_pos rfl, decide_eq_false (by simp), cond_false, List.append_nil]
  · have : 0 < q.Show.length := List.length_pos_iff.2 h
    rw [if_neg h, decide_eq_true (by omega), cond_true, bind_one, appO_ok (by simp only [List.length_map, List.length_cons, List.length_nil]; omega), bind_one]
    have e : ws.map bl ++ [ByteArray.mk #[115, 104, 111, 119]] = (ws ++ [[115, 104, 111, 119]]).map bl := by rw [List.map_append]; rfl
    rw [e, fuel_len, show (0 : Int) = ((0 : Nat) : Int) from rfl, iqt_l1 q K Q.s Q.sl _ 0 _ (by omega) (by omega) (by simp; omega), List.drop_zero, List.append_assoc]
    rfl
theorem iqt_first (q : Query) (Q : QRight q) (K : List ByteArray → Option ByteArray) (ws : List (List UInt8)) (hl : ws.length ≤ 90) : (bif (decide (q.First ≠ 0)) then ((impl_digits.f q.First).bind fun r41 => (some [(ByteArray.mk #[102, 105, 114, 115, 116]), r41]).bind fun l42 => (appO 16 (ws.map bl) l42).bind fun l43 => K l43) else K (ws.map bl)) = K ((ws ++ firstW q).map bl) := by
  have hf := Q.f
  unfold firstW
  by_cases h : q.First = 0
  · rw [decide_eq_false (by simp [h]), if_neg (by simp [h]), cond_false, List.append_nil]
  · rw [decide_eq_true h, if_pos h, cond_true, impl_digits_eq _ (by omega), bind_one, bind_one, appO_ok (by simp only [List.length_map, List.length_cons, List.length_nil]; omega), bind_one, List.map_append]
    rfl
theorem iqt_order (q : Query) (Q : QRight q) (K : List ByteArray → Option ByteArray) (ws : List (List UInt8)) (hl : ws.length ≤ 80) : (bif (decide (q.Order ≠ 0)) then ((impl_digits.f (w64 (q.Order - 1))).bind fun r32 => (some [(ByteArray.mk #[111, 114, 100, 101, 114]), r32]).bind fun l33 => (appO 16 (ws.map bl) l33).bind fun l34 => bif q.Down then ((some [(ByteArray.mk #[100, 111, 119, 110])]).bind fun l36 => (appO 16 l34 l36).bind fun l37 => K l37) else K l34) else K (ws.map bl)) = K ((ws ++ orderW q).map bl) := by
  have ho := Q.o
  unfold orderW downW
  by_cases h : q.Order = 0
  · rw [decide_eq_false (by simp [h]), if_neg (by simp [h]), cond_false, List.append_nil]
  · rw [decide_eq_true h, if_pos h, cond_true, w64_id (by omega), impl_digits_eq _ (by omega), bind_one, bind_one, appO_ok (by simp only [List.length_map, List.length_cons, List.length_nil]; omega), bind_one]
    cases hd : q.Down with
    | false => rw [cond_false, if_neg (by simp), List.map_append]; rfl
    | true =>
      rw [cond_true, bind_one, appO_ok (by simp only [List.length_map, List.length_append, List.length_cons, List.length_nil]; omega), bind_one, if_pos rfl, List.map_append, List.append_assoc]
      rfl
theorem impl_QueryText_eq (s : Schema) (q : Query) (hs : Schema_b s) (hb : Query_b q) : impl_QueryText.f s q = some (bl (if queryB s q = true then qtext q else [])) := by
  unfold impl_QueryText.f
  rw [impl_QueryOk_eq s q hs hb, bind_one, bo3_not]
  by_cases hq : queryB s q = true
  · have Q := queryB_QR hq
    have wl := (jt_where Q.c).2
    have ht := Q.t
    have hlq := len_qtext Q
    have hW := Q.w
    have hsl := Q.sl
    rw [hq, if_pos rfl, Bool.not_true, cond_false, impl_digits_eq _ (by omega), bind_one, bind_one, joinK_eq, show (((lenI q.Where) - 0).toNat + 1) = q.Where.length + 1 by rw [lenI_eq]; omega]
    have e0 : [ByteArray.mk #[102, 114, 111, 109], bl (Lib.itoa q.Table)] = [[102, 114, 111, 109], Lib.itoa q.Table].map bl := rfl
    rw [e0]
    have l1 : (orderW q).length ≤ 3 := by unfold orderW downW; (repeat' split) <;> simp
    have l2 : (firstW q).length ≤ 2 := by unfold firstW; split <;> simp
    have l3 : (showW q.Show).length ≤ 5 := by unfold showW; split <;> simp <;> omega
    have l4 : (kidsW q).length ≤ 3 := by unfold kidsW; split <;> simp
    refine (iqt_l0 q _ Q.c Q.w _ 0 _ (by omega) (by omega) (by simp)).trans ?_
    rw [List.drop_zero, joinK_eq]
    refine (iqt_order q Q _ _ (by simp; omega)).trans ?_
    rw [joinK_eq]
    refine (iqt_first q Q _ _ (by simp; omega)).trans ?_
    rw [joinK_eq]
    refine (iqt_show q Q _ _ (by simp; omega)).trans ?_
    rw [joinK_eq]
    refine (iqt_kids q Q _ _ (by simp; omega)).trans ?_
    have e : ((((([[102, 114, 111, 109], Lib.itoa q.Table] ++ whereW q.Where) ++ orderW q) ++ firstW q) ++ showW q.Show) ++ kidsW q) = qwords q := by simp [qwords, restW]
    rw [e]
    have := strings_Join_eq (qwords q) [32] (by rw [← e]; simp; omega) (by rw [qtext_join]; omega)
    rw [qtext_join] at this
    rw [show ByteArray.mk #[32] = bl [32] from rfl, this]
    rfl
  · rw [Bool.not_eq_true] at hq
    rw [hq, if_neg (by simp)]
    rfl

theorem QueryText_ok (s : Schema) (b0 : Schema_b s) (r0 : Schema_r s) (z0 : sz_Schema s ≤ 1048576) (q : Query) (b1 : Query_b q) (r1 : Query_r q) (z1 : sz_Query q ≤ 1048576) : ∃ v, spec_QueryText.f s q = some v ∧ impl_QueryText.f s q = some v :=
  ⟨_, spec_QueryText_eq s q b0 b1, impl_QueryText_eq s q b0 b1⟩

theorem laws_FnExactQueryText_pure (a0 : Schema) (b0 : Schema_b a0) (r0 : Schema_r a0) (a1 : Query) (b1 : Query_b a1) (r1 : Query_r a1) : laws_FnExactQueryText.f a0 a1 = some true := by
  unfold laws_FnExactQueryText.f
  have p0 := sz_Schema_0 a0
  rw [laws_szSchema_eq _ _ (by omega) b0, Option.bind_some]
  by_cases c0 : 1048576 < sz_Schema a0
  · rw [if_pos c0]; rfl
  rw [if_neg c0, decide_eq_false (by omega), cond_false]
  have p1 := sz_Query_0 a1
  rw [laws_szQuery_eq _ _ (by omega) b1, Option.bind_some]
  by_cases c1 : 1048576 - sz_Schema a0 < sz_Query a1
  · rw [if_pos c1]; rfl
  rw [if_neg c1, decide_eq_false (by omega), cond_false]
  obtain ⟨v0, hs, hi⟩ := QueryText_ok a0 b0 r0 (by omega) a1 b1 r1 (by omega)
  have t0 := laws_toSchema_eq a0 (by omega)
  have e0 : laws_eqSchema.f a0 a0 = some true := by rw [laws_eqSchema_eq _ _ b0 b0, decide_eq_true rfl]
  have t1 := laws_toQuery_eq a1 (by omega)
  have e1 : laws_eqQuery.f a1 a1 = some true := by rw [laws_eqQuery_eq _ _ b1 b1, decide_eq_true rfl]
  simp only [t0, e0, t1, e1, sc_nes, hs, hi, Option.bind_some, bo3_self, bo3_F, bo3_T, gd_true, cond_false, ne_eq, not_true_eq_false, decide_false]
end Go.Proofs.YtjnahdkalbolkaaDoor.L
