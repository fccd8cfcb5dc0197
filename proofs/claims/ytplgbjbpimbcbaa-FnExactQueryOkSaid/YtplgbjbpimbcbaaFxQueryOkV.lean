/- What the pure functions give. -/
import Derived.Test.YtplgbjbpimbcbaaPv0
import Derived.Test.YtplgbjbpimbcbaaFxQueryOkU
namespace Go.Proofs.Ytplgbjbpimbcbaa.L
open Go
set_option linter.unusedVariables false
set_option linter.unusedSimpArgs false
def sz_IntS (l : List Int) : Int := l.length
def IntS_b (l : List Int) : Prop := l.length ≤ 9223372036854775807
theorem sz_IntS_0 (l : List Int) : 0 ≤ sz_IntS l := by unfold sz_IntS; omega
def IntS_r (l : List Int) : Prop := ∀ x ∈ l, (-9223372036854775808 ≤ x ∧ x ≤ 9223372036854775807)
theorem laws_szIntS_eq (a : List Int) (n : Int) (hn : 0 ≤ n ∧ n ≤ 1048576) (hb : IntS_b a) : laws_szIntS.f a n = some (if n < sz_IntS a then -1 else n - sz_IntS a) := by
  unfold laws_szIntS.f sz_IntS
  unfold IntS_b at hb
  rw [lenI_eq, w64_id (by omega)]
  by_cases c : n < (a.length : Int)
  · rw [if_pos c, decide_eq_true (by omega), cond_true]
  · rw [if_neg c, decide_eq_false (by omega), cond_false]
def sz_Schema (x : Schema) : Int := sz_IntS x.Cols
def Schema_b (x : Schema) : Prop := IntS_b x.Cols
theorem sz_Schema_0 (x : Schema) : 0 ≤ sz_Schema x := by unfold sz_Schema; exact by have := sz_IntS_0 x.Cols;  omega
def Schema_r (x : Schema) : Prop := IntS_r x.Cols
theorem laws_szSchema_eq (a : Schema) (n : Int) (hn : 0 ≤ n ∧ n ≤ 1048576) (hb : Schema_b a) : laws_szSchema.f a n = some (if n < sz_Schema a then -1 else n - sz_Schema a) := by
  unfold laws_szSchema.f sz_Schema
  have h0 := hb
  have p_Cols := sz_IntS_0 a.Cols
  rw [laws_szIntS_eq _ _ (by omega) h0, Option.bind_some]
  by_cases c0 : n < sz_IntS a.Cols
  · rw [if_pos c0]; rfl
  · rw [if_neg c0, decide_eq_false (by omega), cond_false]
def Cond_r (x : Cond) : Prop := (-9223372036854775808 ≤ x.Col ∧ x.Col ≤ 9223372036854775807) ∧ (-9223372036854775808 ≤ x.Op ∧ x.Op ≤ 9223372036854775807) ∧ (-9223372036854775808 ≤ x.V ∧ x.V ≤ 9223372036854775807)
def sz_CondS (l : List Cond) : Int := l.length
def CondS_b (l : List Cond) : Prop := l.length ≤ 9223372036854775807
theorem sz_CondS_0 (l : List Cond) : 0 ≤ sz_CondS l := by unfold sz_CondS; omega
def CondS_r (l : List Cond) : Prop := ∀ x ∈ l, Cond_r x
theorem laws_szCondS_eq (a : List Cond) (n : Int) (hn : 0 ≤ n ∧ n ≤ 1048576) (hb : CondS_b a) : laws_szCondS.f a n = some (if n < sz_CondS a then -1 else n - sz_CondS a) := by
  unfold laws_szCondS.f sz_CondS
  unfold CondS_b at hb
  rw [lenI_eq, w64_id (by omega)]
  by_cases c : n < (a.length : Int)
  · rw [if_pos c, decide_eq_true (by omega), cond_true]
  · rw [if_neg c, decide_eq_false (by omega), cond_false]
def sz_Query (x : Query) : Int := sz_CondS x.Where + sz_IntS x.Show
def Query_b (x : Query) : Prop := CondS_b x.Where ∧ IntS_b x.Show
theorem sz_Query_0 (x : Query) : 0 ≤ sz_Query x := by unfold sz_Query; exact by have := sz_CondS_0 x.Where; have := sz_IntS_0 x.Show;  omega
def Query_r (x : Query) : Prop := (-9223372036854775808 ≤ x.Table ∧ x.Table ≤ 9223372036854775807) ∧ CondS_r x.Where ∧ (-9223372036854775808 ≤ x.Order ∧ x.Order ≤ 9223372036854775807) ∧ (-9223372036854775808 ≤ x.First ∧ x.First ≤ 9223372036854775807) ∧ IntS_r x.Show ∧ (-9223372036854775808 ≤ x.KidTable ∧ x.KidTable ≤ 9223372036854775807) ∧ (-9223372036854775808 ≤ x.KidCol ∧ x.KidCol ≤ 9223372036854775807)
theorem laws_szQuery_eq (a : Query) (n : Int) (hn : 0 ≤ n ∧ n ≤ 1048576) (hb : Query_b a) : laws_szQuery.f a n = some (if n < sz_Query a then -1 else n - sz_Query a) := by
  unfold laws_szQuery.f sz_Query
  obtain ⟨h0, h1⟩ := hb
  have p_Where := sz_CondS_0 a.Where
  have p_Show := sz_IntS_0 a.Show
  rw [laws_szCondS_eq _ _ (by omega) h0, Option.bind_some]
  by_cases c0 : n < sz_CondS a.Where
  · rw [if_pos c0, if_pos (by omega)]; rfl
  · rw [if_neg c0, decide_eq_false (by omega), cond_false]
    rw [laws_szIntS_eq _ _ (by omega) h1, Option.bind_some]
    by_cases c1 : n - sz_CondS a.Where < sz_IntS a.Show
    · rw [if_pos c1, if_pos (by omega)]; rfl
    · rw [if_neg c1, decide_eq_false (by omega), cond_false]
      rw [if_neg (by omega)]
      congr 1; omega
theorem laws_toIntS_eq (a : List Int) (h : sz_IntS a ≤ 1048576) : laws_toIntS.f a = some a := by
  unfold laws_toIntS.f
  unfold sz_IntS at h
  rw [lenI_eq, mkO_ok (by omega), Option.bind_some]
  refine loop_fill (f := laws_toIntS.l0 a) (l := a) some (fun k i s x y hx hy => ?_) (fun k s i hi => ?_) _ 0 _ (by omega) (by omega) (by rw [List.length_replicate]; omega) (by simp)
  · have hi := at_lt hx
    rw [laws_toIntS.l0, lenI_eq, decide_eq_true (by omega), cond_true, getO_nat, hx, Option.bind_some, getO_nat, hy, Option.bind_some, Option.bind_some, setI_nat, w64_succ (by omega)]
  · rw [laws_toIntS.l0, lenI_eq, decide_eq_false (by omega), cond_false]
theorem laws_toSchema_eq (a : Schema) (h : sz_Schema a ≤ 1048576) : laws_toSchema.f a = some a := by
  unfold sz_Schema at h
  have p_Cols := sz_IntS_0 a.Cols
  unfold laws_toSchema.f
  rw [laws_toIntS_eq _ (by omega), Option.bind_some]
theorem laws_toCond_eq (a : Cond) : laws_toCond.f a = some a := rfl
theorem laws_toCondS_eq (a : List Cond) (h : sz_CondS a ≤ 1048576) : laws_toCondS.f a = some a := by
  unfold laws_toCondS.f
  unfold sz_CondS at h
  rw [lenI_eq, mkO_ok (by omega), Option.bind_some]
  refine loop_fill (f := laws_toCondS.l0 a) (l := a) some (fun k i s x y hx hy => ?_) (fun k s i hi => ?_) _ 0 _ (by omega) (by omega) (by rw [List.length_replicate]; omega) (by simp)
  · have hi := at_lt hx
    rw [laws_toCondS.l0, lenI_eq, decide_eq_true (by omega), cond_true, getO_nat, hx, Option.bind_some, laws_toCond_eq x, Option.bind_some, getO_nat, hy, Option.bind_some, Option.bind_some, setI_nat, w64_succ (by omega)]
  · rw [laws_toCondS.l0, lenI_eq, decide_eq_false (by omega), cond_false]
theorem laws_toQuery_eq (a : Query) (h : sz_Query a ≤ 1048576) : laws_toQuery.f a = some a := by
  unfold sz_Query at h
  have p_Where := sz_CondS_0 a.Where
  have p_Show := sz_IntS_0 a.Show
  unfold laws_toQuery.f
  rw [laws_toCondS_eq _ (by omega), Option.bind_some]
  rw [laws_toIntS_eq _ (by omega), Option.bind_some]
theorem spec_l1In_eq (x y z : Int) : spec_l1In.f x y z = some (decide (y ≤ x ∧ x ≤ z)) := by
  unfold spec_l1In.f
  rw [bo3_and, Bool.decide_and]

def schemaB (s : Schema) : Bool := s.Cols.all (fun n => decide (1 ≤ n ∧ n ≤ 4)) && decide (1 ≤ (s.Cols.length : Int) ∧ (s.Cols.length : Int) ≤ 3)

theorem spec_SchemaOk_eq (s : Schema) (h : Schema_b s) : spec_SchemaOk.f s = some (schemaB s) := by
  have hl : s.Cols.length ≤ 9223372036854775807 := h
  unfold spec_SchemaOk.f joinK
  refine (loop_all (f := spec_SchemaOk.l0 s _) (l := s.Cols) (fun _ n => decide (1 ≤ n ∧ n ≤ 4)) (some false) (some (decide (1 ≤ (s.Cols.length : Int) ∧ (s.Cols.length : Int) ≤ 3))) (fun k i x hx => ?_) (fun k i hi => ?_) _ 0 (by omega) (by (try simp only [lenI_eq]); omega)).trans ?_
  · have hi := at_lt hx
    rw [spec_SchemaOk.l0, lenI_eq, decide_eq_true (by omega), cond_true, getO_nat, hx, Option.bind_some, spec_l1In_eq, Option.bind_some, bo3_not, w64_succ (by omega)]
    cases decide (1 ≤ x ∧ x ≤ 4) <;> rfl
  · rw [spec_SchemaOk.l0, lenI_eq, decide_eq_false (by omega), cond_false, spec_l1In_eq, Option.bind_some]
  · rw [allFrom_zero, schemaB]
    cases s.Cols.all fun n => decide (1 ≤ n ∧ n ≤ 4) <;> rfl

def kidsB (s : Schema) (q : Query) : Bool :=
  if q.Kids then decide (0 ≤ q.KidTable ∧ q.KidTable ≤ (s.Cols.length : Int) - 1) && decide (0 ≤ q.KidCol ∧ q.KidCol ≤ w64 (s.Cols.getD q.KidTable.toNat 0 - 1)) else decide (q.KidTable = 0) && decide (q.KidCol = 0)
def condB (cols : Int) (c : Cond) : Bool := decide (0 ≤ c.Col ∧ c.Col ≤ w64 (cols - 1)) && decide (1 ≤ c.Op ∧ c.Op ≤ 4) && decide (-1000000000 ≤ c.V ∧ c.V ≤ 1000000000)
def showB (cols : Int) (l : List Int) : Bool := allFrom (fun i x => decide (0 ≤ x ∧ x ≤ w64 (cols - 1)) && !(decide (0 < i) && decide (x ≤ l.getD (i - 1) 0))) l 0
def queryB (s : Schema) (q : Query) : Bool :=
  schemaB s && decide (0 ≤ q.Table ∧ q.Table ≤ (s.Cols.length : Int) - 1) &&
    (let cols := s.Cols.getD q.Table.toNat 0
     q.Where.all (condB cols) && showB cols q.Show && (decide (q.Where.length ≤ 3) && decide (0 ≤ q.Order ∧ q.Order ≤ cols) && (!q.Down || decide (0 < q.Order)) && decide (0 ≤ q.First ∧ q.First ≤ 24) && kidsB s q))
theorem show_step {r : Bool} {l : List Int} {i : Nat} {x : Int} (hx : l[i]? = some x) (hl : i < 9223372036854775807) : gd (bo3 r (decide (0 < (i : Int))) false) (getO l (w64 ((i : Int) - 1))) = some (bif bo3 r (decide (0 < (i : Int))) false then l.getD (i - 1) 0 else 0) := by
  refine gd_some _ fun h => ?_
  have h0 := of_decide_eq_true (bo_r h)
  have hi := at_lt hx
  rw [w64_id (by omega), show ((i : Int) - 1) = ((i - 1 : Nat) : Int) by omega, getO_nat, List.getD_eq_getElem?_getD, List.getElem?_eq_getElem (by omega)]
  rfl

theorem spec_QueryOk_eq (s : Schema) (q : Query) (h : Schema_b s) (hq : Query_b q) : spec_QueryOk.f s q = some (queryB s q) := by
  have hcl : s.Cols.length ≤ 9223372036854775807 := h
  obtain ⟨hw, hs⟩ := hq
  have hwl : q.Where.length ≤ 9223372036854775807 := hw
  have hsl : q.Show.length ≤ 9223372036854775807 := hs
  unfold spec_QueryOk.f queryB
  rw [spec_SchemaOk_eq _ h, Option.bind_some]
  cases schemaB s with
  | false => rfl
  | true =>
    rw [show bo3 (bo3 true false true) false true = true from rfl, gd_true, lenI_eq, w64_id (by omega), spec_l1In_eq, Option.bind_some]
    by_cases d : 0 ≤ q.Table ∧ q.Table ≤ (s.Cols.length : Int) - 1
    case neg => rw [decide_eq_false d]; rfl
    rw [decide_eq_true d, getO_Int d]
    generalize s.Cols.getD q.Table.toNat 0 = cols
    by_cases d3 : q.Where.length ≤ 3
    case neg =>
      rw [lenI_eq, decide_eq_true (by omega), show bo3 (bo3 (bo3 true false true) true (bo3 true false true)) true true = true from rfl, cond_true, decide_eq_false d3]
      simp
    rw [lenI_eq, decide_eq_false (by omega), show bo3 (bo3 (bo3 true false true) true (bo3 true false true)) true false = false from rfl, cond_false, decide_eq_true d3, Option.bind_some]
    simp only [joinK, Bool.true_and]
    refine (loop_all (f := spec_QueryOk.l0 q cols _) (l := q.Where) (fun _ c => condB cols c) (some false) (some (showB cols q.Show && (decide (0 ≤ q.Order ∧ q.Order ≤ cols) && (!q.Down || decide (0 < q.Order)) && decide (0 ≤ q.First ∧ q.First ≤ 24) && kidsB s q))) (fun k i x hx => ?_) (fun k i hi => ?_) _ 0 (by omega) (by (try simp only [lenI_eq]); omega)).trans ?_
    · have hi := at_lt hx
      rw [spec_QueryOk.l0, lenI_eq, decide_eq_true (by omega), cond_true, getO_nat, hx, Option.bind_some, spec_l1In_eq, Option.bind_some, spec_l1In_eq, spec_l1In_eq, w64_succ (by omega)]
      unfold condB
      cases decide (0 ≤ x.Col ∧ x.Col ≤ w64 (cols - 1)) <;> cases decide (1 ≤ x.Op ∧ x.Op ≤ 4) <;> cases decide (-1000000000 ≤ x.V ∧ x.V ≤ 1000000000) <;> rfl
    · rw [spec_QueryOk.l0, lenI_eq, decide_eq_false (by omega), cond_false]
      refine (loop_all (f := spec_QueryOk.l1 q cols _) (l := q.Show) (fun i x => decide (0 ≤ x ∧ x ≤ w64 (cols - 1)) && !(decide (0 < i) && decide (x ≤ q.Show.getD (i - 1) 0))) (some false) (some (decide (0 ≤ q.Order ∧ q.Order ≤ cols) && (!q.Down || decide (0 < q.Order)) && decide (0 ≤ q.First ∧ q.First ≤ 24) && kidsB s q)) (fun k i x hx => ?_) (fun k i hi => ?_) _ 0 (by omega) (by (try simp only [lenI_eq]); omega)).trans ?_
      · have hi := at_lt hx
        rw [spec_QueryOk.l1, lenI_eq, decide_eq_true (by omega), cond_true, getO_nat, hx, Option.bind_some, spec_l1In_eq, Option.bind_some, show_step hx (by omega), Option.bind_some, w64_succ (by omega)]
        rw [show decide (0 < (i : Int)) = decide (0 < i) from by simp]
        cases decide (0 ≤ x ∧ x ≤ w64 (cols - 1)) <;> cases decide (0 < i) <;> (try rfl)
        simp only [bo3_and, bo3_not, bo3_or, Bool.not_true, Bool.not_false, Bool.true_and, cond_true]
        cases decide (x ≤ q.Show.getD (i - 1) 0) <;> rfl
      · rw [spec_QueryOk.l1, lenI_eq, decide_eq_false (by omega), cond_false, spec_l1In_eq, Option.bind_some, spec_l1In_eq]
        by_cases e0 : 0 ≤ q.Order ∧ q.Order ≤ cols
        case neg => rw [decide_eq_false e0]; rfl
        rw [decide_eq_true e0, show bo3 (bo3 true false true) false true = true from rfl, gd_true, Option.bind_some]
        by_cases e1 : 0 ≤ q.First ∧ q.First ≤ 24
        case neg => rw [decide_eq_false e1]; simp [bo3]
        rw [decide_eq_true e1]
        have e2 : (bo3 (decide (q.Order = 0)) q.Down false) = !(!q.Down || decide (0 < q.Order)) := by
          cases q.Down with
          | false => cases decide (q.Order = 0) <;> rfl
          | true =>
            by_cases e3 : q.Order = 0
            · simp [e3, bo3]
            · have : 0 < q.Order := by omega
              simp [e3, bo3, this]
        rw [e2]
        cases hd : (!q.Down || decide (0 < q.Order)) with
        | false => simp [bo3]
        | true =>
          rw [show bo3 (bo3 (bo3 true false true) true (bo3 true false true)) true (!true) = false from rfl, cond_false, bo3_not]
          unfold kidsB
          cases q.Kids with
          | false => simp [bo3_and]
          | true =>
            rw [Bool.not_true, cond_false, spec_l1In_eq, Option.bind_some, if_pos rfl]
            by_cases d : 0 ≤ q.KidTable ∧ q.KidTable ≤ (s.Cols.length : Int) - 1
            · rw [decide_eq_true d, gd_true, getO_Int d, Option.bind_some, gd_true, spec_l1In_eq, Option.bind_some, bo3_and]
              simp
            · rw [decide_eq_false d, gd_false, Option.bind_some, gd_false, Option.bind_some, bo3_and]
              simp
      · unfold showB
        cases allFrom (fun i x => decide (0 ≤ x ∧ x ≤ w64 (cols - 1)) && !(decide (0 < i) && decide (x ≤ q.Show.getD (i - 1) 0))) q.Show 0 <;> rfl
    · rw [allFrom_zero]
      cases q.Where.all fun c => condB cols c <;> simp

theorem impl_within_eq (x y z : Int) : impl_within.f x y z = some (decide (y ≤ x ∧ x ≤ z)) := by
  unfold impl_within.f
  rw [bo3_and, Bool.decide_and]

theorem impl_SchemaOk_eq (s : Schema) (h : Schema_b s) : impl_SchemaOk.f s = some (schemaB s) := by
  have hl : s.Cols.length ≤ 9223372036854775807 := h
  unfold impl_SchemaOk.f joinK
  refine (loop_all (f := impl_SchemaOk.l0 s _) (l := s.Cols) (fun _ n => decide (1 ≤ n ∧ n ≤ 4)) (some false) (some (decide (1 ≤ (s.Cols.length : Int) ∧ (s.Cols.length : Int) ≤ 3))) (fun k i x hx => ?_) (fun k i hi => ?_) _ 0 (by omega) (by (try simp only [lenI_eq]); omega)).trans ?_
  · have hi := at_lt hx
    rw [impl_SchemaOk.l0, lenI_eq, decide_eq_true (by omega), cond_true, getO_nat, hx, Option.bind_some, impl_within_eq, Option.bind_some, bo3_not, w64_succ (by omega)]
    cases decide (1 ≤ x ∧ x ≤ 4) <;> rfl
  · rw [impl_SchemaOk.l0, lenI_eq, decide_eq_false (by omega), cond_false, impl_within_eq, Option.bind_some]
  · rw [allFrom_zero, schemaB]
    cases s.Cols.all fun n => decide (1 ≤ n ∧ n ≤ 4) <;> rfl

theorem impl_hasTable_eq (s : Schema) (t : Int) (h : Schema_b s) : impl_hasTable.f s t = some (decide (0 ≤ t ∧ t ≤ (s.Cols.length : Int) - 1)) := by
  have hl : s.Cols.length ≤ 9223372036854775807 := h
  unfold impl_hasTable.f
  rw [lenI_eq, w64_id (by omega), impl_within_eq, Option.bind_some]

theorem impl_isNum_eq (n : Int) : impl_isNum.f n = some (decide (-1000000000 ≤ n ∧ n ≤ 1000000000)) := by
  unfold impl_isNum.f
  rw [impl_within_eq, Option.bind_some]

theorem impl_kidsFit_eq (s : Schema) (q : Query) (h : Schema_b s) : impl_kidsFit.f s q = some (kidsB s q) := by
  unfold impl_kidsFit.f kidsB
  rw [bo3_not]
  cases q.Kids with
  | false => simp [bo3_and]
  | true =>
    rw [Bool.not_true, cond_false, impl_hasTable_eq _ _ h, Option.bind_some, if_pos rfl]
    by_cases d : 0 ≤ q.KidTable ∧ q.KidTable ≤ (s.Cols.length : Int) - 1
    · rw [decide_eq_true d, gd_true, getO_Int d, Option.bind_some, gd_true, impl_within_eq, Option.bind_some, bo3_and]
    · rw [decide_eq_false d, gd_false, Option.bind_some, gd_false, Option.bind_some, bo3_and]
      rfl

theorem impl_QueryOk_eq (s : Schema) (q : Query) (h : Schema_b s) (hq : Query_b q) : impl_QueryOk.f s q = some (queryB s q) := by
  obtain ⟨hw, hs⟩ := hq
  have hwl : q.Where.length ≤ 9223372036854775807 := hw
  have hsl : q.Show.length ≤ 9223372036854775807 := hs
  unfold impl_QueryOk.f queryB
  rw [impl_SchemaOk_eq _ h, Option.bind_some]
  cases schemaB s with
  | false => rfl
  | true =>
    rw [show bo3 (bo3 true false true) false true = true from rfl, gd_true, impl_hasTable_eq _ _ h, Option.bind_some]
    by_cases d : 0 ≤ q.Table ∧ q.Table ≤ (s.Cols.length : Int) - 1
    case neg => rw [decide_eq_false d]; rfl
    rw [decide_eq_true d, show bo3 (bo3 true false true) true (bo3 true false true) = false from rfl, cond_false, getO_Int d, Option.bind_some]
    generalize s.Cols.getD q.Table.toNat 0 = cols
    simp only [joinK, Bool.true_and]
    refine (loop_all (f := impl_QueryOk.l0 q cols _) (l := q.Where) (fun _ c => condB cols c) (some false) (some (showB cols q.Show && (decide (q.Where.length ≤ 3) && decide (0 ≤ q.Order ∧ q.Order ≤ cols) && (!q.Down || decide (0 < q.Order)) && decide (0 ≤ q.First ∧ q.First ≤ 24) && kidsB s q))) (fun k i x hx => ?_) (fun k i hi => ?_) _ 0 (by omega) (by (try simp only [lenI_eq]); omega)).trans ?_
    · have hi := at_lt hx
      rw [impl_QueryOk.l0, lenI_eq, decide_eq_true (by omega), cond_true, getO_nat, hx, Option.bind_some, impl_within_eq, Option.bind_some, impl_within_eq, impl_isNum_eq, w64_succ (by omega)]
      unfold condB
      cases decide (0 ≤ x.Col ∧ x.Col ≤ w64 (cols - 1)) <;> cases decide (1 ≤ x.Op ∧ x.Op ≤ 4) <;> cases decide (-1000000000 ≤ x.V ∧ x.V ≤ 1000000000) <;> rfl
    · rw [impl_QueryOk.l0, lenI_eq, decide_eq_false (by omega), cond_false]
      refine (loop_all (f := impl_QueryOk.l1 q cols _) (l := q.Show) (fun i x => decide (0 ≤ x ∧ x ≤ w64 (cols - 1)) && !(decide (0 < i) && decide (x ≤ q.Show.getD (i - 1) 0))) (some false) (some (decide (q.Where.length ≤ 3) && decide (0 ≤ q.Order ∧ q.Order ≤ cols) && (!q.Down || decide (0 < q.Order)) && decide (0 ≤ q.First ∧ q.First ≤ 24) && kidsB s q)) (fun k i x hx => ?_) (fun k i hi => ?_) _ 0 (by omega) (by (try simp only [lenI_eq]); omega)).trans ?_
      · have hi := at_lt hx
        rw [impl_QueryOk.l1, lenI_eq, decide_eq_true (by omega), cond_true, getO_nat, hx, Option.bind_some, impl_within_eq, Option.bind_some, show_step hx (by omega), Option.bind_some, w64_succ (by omega)]
        rw [show decide (0 < (i : Int)) = decide (0 < i) from by simp]
        cases decide (0 ≤ x ∧ x ≤ w64 (cols - 1)) <;> cases decide (0 < i) <;> (try rfl)
        simp only [bo3_and, bo3_not, bo3_or, Bool.not_true, Bool.not_false, Bool.true_and, cond_true]
        cases decide (x ≤ q.Show.getD (i - 1) 0) <;> rfl
      · rw [impl_QueryOk.l1, lenI_eq, decide_eq_false (by omega), cond_false, impl_within_eq, Option.bind_some, impl_within_eq, impl_kidsFit_eq _ _ h]
        rw [show decide ((q.Where.length : Int) ≤ 3) = decide (q.Where.length ≤ 3) from by simp; omega]
        cases decide (q.Where.length ≤ 3) <;> cases decide (0 ≤ q.Order ∧ q.Order ≤ cols) <;> cases q.Down <;> cases decide (0 < q.Order) <;> cases decide (0 ≤ q.First ∧ q.First ≤ 24) <;> cases kidsB s q <;> rfl
      · unfold showB
        cases allFrom (fun i x => decide (0 ≤ x ∧ x ≤ w64 (cols - 1)) && !(decide (0 < i) && decide (x ≤ q.Show.getD (i - 1) 0))) q.Show 0 <;> rfl
    · rw [allFrom_zero]
      cases q.Where.all fun c => condB cols c <;> simp

theorem laws_eqIntS_eq (a b : List Int) (ha : IntS_b a) (hb : IntS_b b) : laws_eqIntS.f a b = some (decide (a = b)) := by
  unfold IntS_b at ha hb
  unfold laws_eqIntS.f
  by_cases hl : a.length = b.length
  · rw [decide_eq_false (by simp only [lenI_eq]; omega), cond_false]
    refine (loop_eq (f := laws_eqIntS.l0 a b) hl (some false) (some true) (fun k i x y hx hy => ?_) (fun k i hi => ?_) _ (by simp only [lenI_eq]; omega)).trans ?_
    · have hi := at_lt hx
      rw [laws_eqIntS.l0, lenI_eq, decide_eq_true (by omega), cond_true, getO_nat, hx, Option.bind_some, getO_nat, hy, Option.bind_some, w64_succ (by omega)]
      by_cases c : x = y
      · simp [c]
      · simp [c]
    · rw [laws_eqIntS.l0, lenI_eq, decide_eq_false (by omega), cond_false]
    · cases decide (a = b) <;> rfl
  · rw [decide_eq_true (by simp only [lenI_eq]; omega), cond_true, decide_eq_false (fun e => hl (by rw [e]))]
theorem laws_eqSchema_eq (a b : Schema) (ha : Schema_b a) (hb : Schema_b b) : laws_eqSchema.f a b = some (decide (a = b)) := by
  have ha_Cols := ha
  have hb_Cols := hb
  unfold laws_eqSchema.f
  rw [laws_eqIntS_eq _ _ ha_Cols hb_Cols, Option.bind_some]
  by_cases c_Cols : a.Cols = b.Cols
  case neg => rw [decide_eq_false c_Cols, show bo3 false false true = true from rfl, cond_true, decide_eq_false (fun e => c_Cols (by rw [e]))]
  rw [decide_eq_true c_Cols, show bo3 true false true = false from rfl, cond_false]
  rw [decide_eq_true (by cases a; cases b; simp_all)]
theorem laws_eqCond_eq (a b : Cond) : laws_eqCond.f a b = some (decide (a = b)) := by
  unfold laws_eqCond.f
  by_cases c_Col : a.Col = b.Col
  case neg => rw [decide_eq_true c_Col, cond_true, decide_eq_false (fun e => c_Col (by rw [e]))]
  rw [decide_eq_false (fun e => e c_Col), cond_false]
  by_cases c_Op : a.Op = b.Op
  case neg => rw [decide_eq_true c_Op, cond_true, decide_eq_false (fun e => c_Op (by rw [e]))]
  rw [decide_eq_false (fun e => e c_Op), cond_false]
  by_cases c_V : a.V = b.V
  case neg => rw [decide_eq_true c_V, cond_true, decide_eq_false (fun e => c_V (by rw [e]))]
  rw [decide_eq_false (fun e => e c_V), cond_false]
  rw [decide_eq_true (by cases a; cases b; simp_all)]
theorem laws_eqCondS_eq (a b : List Cond) (ha : CondS_b a) (hb : CondS_b b) : laws_eqCondS.f a b = some (decide (a = b)) := by
  unfold CondS_b at ha hb
  unfold laws_eqCondS.f
  by_cases hl : a.length = b.length
  · rw [decide_eq_false (by simp only [lenI_eq]; omega), cond_false]
    refine (loop_eq (f := laws_eqCondS.l0 a b) hl (some false) (some true) (fun k i x y hx hy => ?_) (fun k i hi => ?_) _ (by simp only [lenI_eq]; omega)).trans ?_
    · have hi := at_lt hx
      rw [laws_eqCondS.l0, lenI_eq, decide_eq_true (by omega), cond_true, getO_nat, hx, Option.bind_some, getO_nat, hy, Option.bind_some, laws_eqCond_eq x y, Option.bind_some, bo3_not, w64_succ (by omega)]
      by_cases c : x = y
      · simp [c]
      · simp [c]
    · rw [laws_eqCondS.l0, lenI_eq, decide_eq_false (by omega), cond_false]
    · cases decide (a = b) <;> rfl
  · rw [decide_eq_true (by simp only [lenI_eq]; omega), cond_true, decide_eq_false (fun e => hl (by rw [e]))]
theorem laws_eqQuery_eq (a b : Query) (ha : Query_b a) (hb : Query_b b) : laws_eqQuery.f a b = some (decide (a = b)) := by
  obtain ⟨ha_Where, ha_Show⟩ := ha
  obtain ⟨hb_Where, hb_Show⟩ := hb
  unfold laws_eqQuery.f
  by_cases c_Table : a.Table = b.Table
  case neg => rw [decide_eq_true c_Table, cond_true, decide_eq_false (fun e => c_Table (by rw [e]))]
  rw [decide_eq_false (fun e => e c_Table), cond_false]
  rw [laws_eqCondS_eq _ _ ha_Where hb_Where, Option.bind_some]
  by_cases c_Where : a.Where = b.Where
  case neg => rw [decide_eq_false c_Where, show bo3 false false true = true from rfl, cond_true, decide_eq_false (fun e => c_Where (by rw [e]))]
  rw [decide_eq_true c_Where, show bo3 true false true = false from rfl, cond_false]
  by_cases c_Order : a.Order = b.Order
  case neg => rw [decide_eq_true c_Order, cond_true, decide_eq_false (fun e => c_Order (by rw [e]))]
  rw [decide_eq_false (fun e => e c_Order), cond_false]
  by_cases c_Down : a.Down = b.Down
  case neg => rw [show bo3 a.Down (bo3 b.Down false true) b.Down = true from by revert c_Down; cases a.Down <;> cases b.Down <;> simp [bo3], cond_true, decide_eq_false (fun e => c_Down (by rw [e]))]
  rw [show bo3 a.Down (bo3 b.Down false true) b.Down = false from by rw [c_Down]; cases b.Down <;> rfl, cond_false]
  by_cases c_First : a.First = b.First
  case neg => rw [decide_eq_true c_First, cond_true, decide_eq_false (fun e => c_First (by rw [e]))]
  rw [decide_eq_false (fun e => e c_First), cond_false]
  rw [laws_eqIntS_eq _ _ ha_Show hb_Show, Option.bind_some]
  by_cases c_Show : a.Show = b.Show
  case neg => rw [decide_eq_false c_Show, show bo3 false false true = true from rfl, cond_true, decide_eq_false (fun e => c_Show (by rw [e]))]
  rw [decide_eq_true c_Show, show bo3 true false true = false from rfl, cond_false]
  by_cases c_Kids : a.Kids = b.Kids
  case neg => rw [show bo3 a.Kids (bo3 b.Kids false true) b.Kids = true from by revert c_Kids; cases a.Kids <;> cases b.Kids <;> simp [bo3], cond_true, decide_eq_false (fun e => c_Kids (by rw [e]))]
  rw [show bo3 a.Kids (bo3 b.Kids false true) b.Kids = false from by rw [c_Kids]; cases b.Kids <;> rfl, cond_false]
  by_cases c_KidTable : a.KidTable = b.KidTable
  case neg => rw [decide_eq_true c_KidTable, cond_true, decide_eq_false (fun e => c_KidTable (by rw [e]))]
  rw [decide_eq_false (fun e => e c_KidTable), cond_false]
  by_cases c_KidCol : a.KidCol = b.KidCol
  case neg => rw [decide_eq_true c_KidCol, cond_true, decide_eq_false (fun e => c_KidCol (by rw [e]))]
  rw [decide_eq_false (fun e => e c_KidCol), cond_false]
  rw [decide_eq_true (by cases a; cases b; simp_all)]
theorem QueryOk_ok (s : Schema) (b0 : Schema_b s) (r0 : Schema_r s) (z0 : sz_Schema s ≤ 1048576) (q : Query) (b1 : Query_b q) (r1 : Query_r q) (z1 : sz_Query q ≤ 1048576) : ∃ v, spec_QueryOk.f s q = some v ∧ impl_QueryOk.f s q = some v :=
  ⟨_, spec_QueryOk_eq s q b0 b1, impl_QueryOk_eq s q b0 b1⟩

theorem laws_FnExactQueryOk_pure (a0 : Schema) (b0 : Schema_b a0) (r0 : Schema_r a0) (a1 : Query) (b1 : Query_b a1) (r1 : Query_r a1) : laws_FnExactQueryOk.f a0 a1 = some true := by
  unfold laws_FnExactQueryOk.f
  have p0 := sz_Schema_0 a0
  rw [laws_szSchema_eq _ _ (by omega) b0, Option.bind_some]
  by_cases c0 : 1048576 < sz_Schema a0
  · rw [if_pos c0]; rfl
  rw [if_neg c0, decide_eq_false (by omega), cond_false]
  have p1 := sz_Query_0 a1
  rw [laws_szQuery_eq _ _ (by omega) b1, Option.bind_some]
  by_cases c1 : 1048576 - sz_Schema a0 < sz_Query a1
  · rw [if_pos c1]; rfl
  rw [if_neg c1, decide_eq_false (by omega), cond_false]
  obtain ⟨v, hs, hi⟩ := QueryOk_ok a0 b0 r0 (by omega) a1 b1 r1 (by omega)
  have t0 := laws_toSchema_eq a0 (by omega)
  have e0 : laws_eqSchema.f a0 a0 = some true := by rw [laws_eqSchema_eq _ _ b0 b0, decide_eq_true rfl]
  have t1 := laws_toQuery_eq a1 (by omega)
  have e1 : laws_eqQuery.f a1 a1 = some true := by rw [laws_eqQuery_eq _ _ b1 b1, decide_eq_true rfl]
  simp only [t0, e0, t1, e1, hs, hi, Option.bind_some, bo3_self, bo3_tt, cond_false, ne_eq, not_true_eq_false, decide_false]
end Go.Proofs.Ytplgbjbpimbcbaa.L
