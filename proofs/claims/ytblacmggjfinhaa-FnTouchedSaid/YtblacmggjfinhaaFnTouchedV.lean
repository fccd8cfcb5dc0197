/- What the pure functions give. -/
import Derived.Test.YtblacmggjfinhaaPv0
import Derived.Test.YtblacmggjfinhaaFnTouchedU
namespace Go.Proofs.Ytblacmggjfinhaa.L
open Go
set_option linter.unusedVariables false
set_option linter.unusedSimpArgs false
theorem impl_within_eq (x y z : Int) : impl_within.f x y z = some (decide (y ≤ x ∧ x ≤ z)) := by
  unfold impl_within.f
  rw [bo3_and, Bool.decide_and]

def sz_IntS (l : List Int) : Int := l.length
def IntS_b (l : List Int) : Prop := l.length ≤ 9223372036854775807
theorem sz_IntS_0 (l : List Int) : 0 ≤ sz_IntS l := by unfold sz_IntS; omega
def IntS_r (l : List Int) : Prop := ∀ x ∈ l, (-9223372036854775808 ≤ x ∧ x ≤ 9223372036854775807)
def sz_Row (x : Row) : Int := sz_IntS x.Cells
def Row_b (x : Row) : Prop := IntS_b x.Cells
theorem sz_Row_0 (x : Row) : 0 ≤ sz_Row x := by unfold sz_Row; exact by have := sz_IntS_0 x.Cells;  omega
def Row_r (x : Row) : Prop := (-9223372036854775808 ≤ x.Id ∧ x.Id ≤ 9223372036854775807) ∧ IntS_r x.Cells
def cmpB (op v z : Int) : Bool := if op = 1 then decide (v = z) else if op = 2 then decide (v < z) else if op = 3 then decide (z < v) else if op = 4 then decide (v ≠ z) else false
def holdsB (c : Cond) (r : Row) : Bool := decide (0 ≤ c.Col ∧ c.Col ≤ (r.Cells.length : Int) - 1) && cmpB c.Op (r.Cells.getD c.Col.toNat 0) c.V
def matchesB (q : Query) (r : Row) : Bool := q.Where.all fun c => holdsB c r

theorem impl_holds_eq (c : Cond) (r : Row) (h : Row_b r) : impl_holds.f c r = some (holdsB c r) := by
  have hl : r.Cells.length ≤ 9223372036854775807 := h
  unfold impl_holds.f holdsB
  rw [lenI_eq, w64_id (by omega), impl_within_eq, Option.bind_some, bo3_not]
  by_cases d : 0 ≤ c.Col ∧ c.Col ≤ (r.Cells.length : Int) - 1
  · rw [decide_eq_true d, Bool.not_true, cond_false, getO_Int d, Option.bind_some, Bool.true_and]
    simp only [cond_ite, decide_eq_true_eq, some_if, bo3_and, cmpB]
    all_goals ((repeat' split) <;> simp_all)
  · rw [decide_eq_false d, Bool.not_false, cond_true, Bool.false_and]

def Cond_r (x : Cond) : Prop := (-9223372036854775808 ≤ x.Col ∧ x.Col ≤ 9223372036854775807) ∧ (-9223372036854775808 ≤ x.Op ∧ x.Op ≤ 9223372036854775807) ∧ (-9223372036854775808 ≤ x.V ∧ x.V ≤ 9223372036854775807)
def sz_CondS (l : List Cond) : Int := l.length
def CondS_b (l : List Cond) : Prop := l.length ≤ 9223372036854775807
theorem sz_CondS_0 (l : List Cond) : 0 ≤ sz_CondS l := by unfold sz_CondS; omega
def CondS_r (l : List Cond) : Prop := ∀ x ∈ l, Cond_r x
theorem impl_Matches_eq (q : Query) (r : Row) (hq : CondS_b q.Where) (h : Row_b r) : impl_Matches.f q r = some (matchesB q r) := by
  have hl : q.Where.length ≤ 9223372036854775807 := hq
  unfold impl_Matches.f
  refine (loop_all (f := impl_Matches.l0 q r) (l := q.Where) (fun _ c => holdsB c r) (some false) (some true) (fun k i x hx => ?_) (fun k i hi => ?_) _ 0 (by omega) (by (try simp only [lenI_eq]); omega)).trans ?_
  · have hi := at_lt hx
    rw [impl_Matches.l0, lenI_eq, decide_eq_true (by omega), cond_true, getO_nat, hx, Option.bind_some, impl_holds_eq _ _ h, Option.bind_some, bo3_not, w64_succ (by omega)]
    cases holdsB x r <;> rfl
  · rw [impl_Matches.l0, lenI_eq, decide_eq_false (by omega), cond_false]
  · rw [allFrom_zero, matchesB]
    cases q.Where.all fun c => holdsB c r <;> rfl

def cellF (r : Row) (col : Int) : Int := if 0 ≤ col ∧ col ≤ (r.Cells.length : Int) - 1 then r.Cells.getD col.toNat 0 else 0
def aheadB (q : Query) (a b : Row) : Bool :=
  if q.Order = 0 then decide (a.Id < b.Id) else
    let x := cellF a (w64 (q.Order - 1)); let y := cellF b (w64 (q.Order - 1))
    if x = y then decide (a.Id < b.Id) else if q.Down then decide (y < x) else decide (x < y)

theorem impl_cellOf_eq (r : Row) (col : Int) (h : Row_b r) : impl_cellOf.f r col = some (cellF r col) := by
  have hl : r.Cells.length ≤ 9223372036854775807 := h
  unfold impl_cellOf.f cellF
  rw [lenI_eq, w64_id (by omega), impl_within_eq, Option.bind_some, bo3_not]
  by_cases d : 0 ≤ col ∧ col ≤ (r.Cells.length : Int) - 1
  · rw [decide_eq_true d, Bool.not_true, cond_false, getO_Int d, Option.bind_some, if_pos d]
  · rw [decide_eq_false d, Bool.not_false, cond_true, if_neg d]

def sz_Change (x : Change) : Int := sz_Row x.Old + sz_Row x.New
def Change_b (x : Change) : Prop := Row_b x.Old ∧ Row_b x.New
theorem sz_Change_0 (x : Change) : 0 ≤ sz_Change x := by unfold sz_Change; exact by have := sz_Row_0 x.Old; have := sz_Row_0 x.New;  omega
def Change_r (x : Change) : Prop := (-9223372036854775808 ≤ x.Table ∧ x.Table ≤ 9223372036854775807) ∧ Row_r x.Old ∧ Row_r x.New
def sz_Query (x : Query) : Int := sz_CondS x.Where + sz_IntS x.Show
def Query_b (x : Query) : Prop := CondS_b x.Where ∧ IntS_b x.Show
theorem sz_Query_0 (x : Query) : 0 ≤ sz_Query x := by unfold sz_Query; exact by have := sz_CondS_0 x.Where; have := sz_IntS_0 x.Show;  omega
def Query_r (x : Query) : Prop := (-9223372036854775808 ≤ x.Table ∧ x.Table ≤ 9223372036854775807) ∧ CondS_r x.Where ∧ (-9223372036854775808 ≤ x.Order ∧ x.Order ≤ 9223372036854775807) ∧ (-9223372036854775808 ≤ x.First ∧ x.First ≤ 9223372036854775807) ∧ IntS_r x.Show ∧ (-9223372036854775808 ≤ x.KidTable ∧ x.KidTable ≤ 9223372036854775807) ∧ (-9223372036854775808 ≤ x.KidCol ∧ x.KidCol ≤ 9223372036854775807)
def touchesB (q : Query) (c : Change) : Bool :=
  (decide (c.Table = q.Table) && (c.Had && matchesB q c.Old || c.Has && matchesB q c.New)) || (q.Kids && decide (c.Table = q.KidTable) && ((c.Had != c.Has) || (c.Had && decide (cellF c.Old q.KidCol ≠ cellF c.New q.KidCol))))

theorem impl_Touches_eq (q : Query) (c : Change) (hq : Query_b q) (hc : Change_b c) : impl_Touches.f q c = some (touchesB q c) := by
  unfold impl_Touches.f touchesB
  simp only [impl_Matches_eq _ _ hq.1 hc.1, impl_Matches_eq _ _ hq.1 hc.2, impl_cellOf_eq _ _ hc.1, impl_cellOf_eq _ _ hc.2, gd_of, Option.bind_some]
  generalize cellF c.Old q.KidCol = x
  generalize cellF c.New q.KidCol = y
  generalize matchesB q c.Old = m
  generalize matchesB q c.New = n
  rw [show decide (c.Table ≠ q.KidTable) = !decide (c.Table = q.KidTable) from by simp]
  cases decide (c.Table = q.Table) <;> cases m <;> cases n <;> cases q.Kids <;> cases decide (c.Table = q.KidTable) <;> cases c.Had <;> cases c.Has <;> first | rfl | (simp [bo3])

def sz_ChangeS (l : List Change) : Int := l.length + (l.map sz_Change).sum
def ChangeS_b (l : List Change) : Prop := l.length ≤ 9223372036854775807 ∧ ∀ x ∈ l, Change_b x
theorem sz_ChangeS_0 (l : List Change) : 0 ≤ sz_ChangeS l := by have := sum_nonneg sz_Change_0 l; unfold sz_ChangeS; omega
def ChangeS_r (l : List Change) : Prop := ∀ x ∈ l, Change_r x
theorem impl_TouchesAny_eq (q : Query) (l : List Change) (hq : Query_b q) (hl : ChangeS_b l) : impl_TouchesAny.f q l = some (l.any (touchesB q)) := by
  obtain ⟨h1, h2⟩ := hl
  unfold impl_TouchesAny.f
  refine (loop_all (f := impl_TouchesAny.l0 q l) (l := l) (fun _ c => !touchesB q c) (some true) (some false) (fun k i x hx => ?_) (fun k i hi => ?_) _ 0 (by omega) (by (try simp only [lenI_eq]); omega)).trans ?_
  · have hi := at_lt hx
    rw [impl_TouchesAny.l0, lenI_eq, decide_eq_true (by omega), cond_true, getO_nat, hx, Option.bind_some, impl_Touches_eq _ _ hq (h2 x (List.mem_of_getElem? hx)), Option.bind_some, w64_succ (by omega)]
    cases touchesB q x <;> rfl
  · rw [impl_TouchesAny.l0, lenI_eq, decide_eq_false (by omega), cond_false]
  · rw [allFrom_zero, show (l.all fun c => !touchesB q c) = !(l.any (touchesB q)) from by rw [List.not_any_eq_all_not]]
    cases l.any (touchesB q) <;> rfl

def schemaB (s : Schema) : Bool := s.Cols.all (fun n => decide (1 ≤ n ∧ n ≤ 4)) && decide (1 ≤ (s.Cols.length : Int) ∧ (s.Cols.length : Int) ≤ 3)

def sz_Schema (x : Schema) : Int := sz_IntS x.Cols
def Schema_b (x : Schema) : Prop := IntS_b x.Cols
theorem sz_Schema_0 (x : Schema) : 0 ≤ sz_Schema x := by unfold sz_Schema; exact by have := sz_IntS_0 x.Cols;  omega
def Schema_r (x : Schema) : Prop := IntS_r x.Cols
theorem impl_SchemaOk_eq (s : Schema) (h : Schema_b s) : impl_SchemaOk.f s = some (schemaB s) := by
  have hl : s.Cols.length ≤ 9223372036854775807 := h
  unfold impl_SchemaOk.f joinK
  refine (loop_all (f := impl_SchemaOk.l0 s _) (l := s.Cols) (fun _ n => decide (1 ≤ n ∧ n ≤ 4)) (some false) (some (decide (1 ≤ (s.Cols.length : Int) ∧ (s.Cols.length : Int) ≤ 3))) (fun k i x hx => ?_) (fun k i hi => ?_) _ 0 (by omega) (by (try simp only [lenI_eq]); omega)).trans ?_
  · have hi := at_lt hx
    rw [impl_SchemaOk.l0, lenI_eq, decide_eq_true (by omega), cond_true, getO_nat, hx, Option.bind_some, impl_within_eq, Option.bind_some, bo3_not, w64_succ (by omega)]
    cases decide (1 ≤ x ∧ x ≤ 4) <;> rfl
  · rw [impl_SchemaOk.l0, lenI_eq, decide_eq_false (by omega), cond_false, impl_within_eq, Option.bind_some]
  · rw [allFrom_zero, schemaB]
    cases s.Cols.all fun n => decide (1 ≤ n ∧ n ≤ 4) <;> rfl

theorem impl_hasTable_eq (s : Schema) (t : Int) (h : Schema_b s) : impl_hasTable.f s t = some (decide (0 ≤ t ∧ t ≤ (s.Cols.length : Int) - 1)) := by
  have hl : s.Cols.length ≤ 9223372036854775807 := h
  unfold impl_hasTable.f
  rw [lenI_eq, w64_id (by omega), impl_within_eq, Option.bind_some]

theorem impl_isNum_eq (n : Int) : impl_isNum.f n = some (decide (-1000000000 ≤ n ∧ n ≤ 1000000000)) := by
  unfold impl_isNum.f
  rw [impl_within_eq, Option.bind_some]

def kidsB (s : Schema) (q : Query) : Bool :=
  if q.Kids then decide (0 ≤ q.KidTable ∧ q.KidTable ≤ (s.Cols.length : Int) - 1) && decide (0 ≤ q.KidCol ∧ q.KidCol ≤ w64 (s.Cols.getD q.KidTable.toNat 0 - 1)) else decide (q.KidTable = 0) && decide (q.KidCol = 0)
def condB (cols : Int) (c : Cond) : Bool := decide (0 ≤ c.Col ∧ c.Col ≤ w64 (cols - 1)) && decide (1 ≤ c.Op ∧ c.Op ≤ 4) && decide (-1000000000 ≤ c.V ∧ c.V ≤ 1000000000)
def showB (cols : Int) (l : List Int) : Bool := allFrom (fun i x => decide (0 ≤ x ∧ x ≤ w64 (cols - 1)) && !(decide (0 < i) && decide (x ≤ l.getD (i - 1) 0))) l 0
def queryB (s : Schema) (q : Query) : Bool :=
  schemaB s && decide (0 ≤ q.Table ∧ q.Table ≤ (s.Cols.length : Int) - 1) &&
    (let cols := s.Cols.getD q.Table.toNat 0
     q.Where.all (condB cols) && showB cols q.Show && (decide (q.Where.length ≤ 3) && decide (0 ≤ q.Order ∧ q.Order ≤ cols) && (!q.Down || decide (0 < q.Order)) && decide (0 ≤ q.First ∧ q.First ≤ 24) && kidsB s q))
theorem show_step {r : Bool} {l : List Int} {i : Nat} {x : Int} (hx : l[i]? = some x) (hl : i < 9223372036854775807) : gd (bo3 r (decide (0 < (i : Int))) false) (getO l (w64 ((i : Int) - 1))) = some (bif bo3 r (decide (0 < (i : Int))) false then l.getD (i - 1) 0 else 0) := by
  refine gd_some _ fun h => ?_
  have h0 := of_decide_eq_true (bo_r h)
  have hi := at_lt hx
  rw [w64_id (by omega), show ((i : Int) - 1) = ((i - 1 : Nat) : Int) by omega, getO_nat, List.getD_eq_getElem?_getD, List.getElem?_eq_getElem (by omega)]
  rfl

theorem impl_kidsFit_eq (s : Schema) (q : Query) (h : Schema_b s) : impl_kidsFit.f s q = some (kidsB s q) := by
  unfold impl_kidsFit.f kidsB
  rw [bo3_not]
  cases q.Kids with
  | false => simp [bo3_and]
  | true =>
    rw [Bool.not_true, cond_false, impl_hasTable_eq _ _ h, Option.bind_some, if_pos rfl]
    by_cases d : 0 ≤ q.KidTable ∧ q.KidTable ≤ (s.Cols.length : Int) - 1
    · rw [decide_eq_true d, gd_true, getO_Int d, Option.bind_some, gd_true, impl_within_eq, Option.bind_some, bo3_and]
    · rw [decide_eq_false d, gd_false, Option.bind_some, gd_false, Option.bind_some, bo3_and]
      rfl

theorem impl_QueryOk_eq (s : Schema) (q : Query) (h : Schema_b s) (hq : Query_b q) : impl_QueryOk.f s q = some (queryB s q) := by
  obtain ⟨hw, hs⟩ := hq
  have hwl : q.Where.length ≤ 9223372036854775807 := hw
  have hsl : q.Show.length ≤ 9223372036854775807 := hs
  unfold impl_QueryOk.f queryB
  rw [impl_SchemaOk_eq _ h, Option.bind_some]
  cases schemaB s with
  | false => rfl
  | true =>
    rw [show bo3 (bo3 true false true) false true = true from rfl, gd_true, impl_hasTable_eq _ _ h, Option.bind_some]
    by_cases d : 0 ≤ q.Table ∧ q.Table ≤ (s.Cols.length : Int) - 1
    case neg => rw [decide_eq_false d]; rfl
    rw [decide_eq_true d, show bo3 (bo3 true false true) true (bo3 true false true) = false from rfl, cond_false, getO_Int d, Option.bind_some]
    generalize s.Cols.getD q.Table.toNat 0 = cols
    simp only [joinK, Bool.true_and]
    refine (loop_all (f := impl_QueryOk.l0 q cols _) (l := q.Where) (fun _ c => condB cols c) (some false) (some (showB cols q.Show && (decide (q.Where.length ≤ 3) && decide (0 ≤ q.Order ∧ q.Order ≤ cols) && (!q.Down || decide (0 < q.Order)) && decide (0 ≤ q.First ∧ q.First ≤ 24) && kidsB s q))) (fun k i x hx => ?_) (fun k i hi => ?_) _ 0 (by omega) (by (try simp only [lenI_eq]); omega)).trans ?_
    · have hi := at_lt hx
      rw [impl_QueryOk.l0, lenI_eq, decide_eq_true (by omega), cond_true, getO_nat, hx, Option.bind_some, impl_within_eq, Option.bind_some, impl_within_eq, impl_isNum_eq, w64_succ (by omega)]
      unfold condB
      cases decide (0 ≤ x.Col ∧ x.Col ≤ w64 (cols - 1)) <;> cases decide (1 ≤ x.Op ∧ x.Op ≤ 4) <;> cases decide (-1000000000 ≤ x.V ∧ x.V ≤ 1000000000) <;> rfl
    · rw [impl_QueryOk.l0, lenI_eq, decide_eq_false (by omega), cond_false]
      refine (loop_all (f := impl_QueryOk.l1 q cols _) (l := q.Show) (fun i x => decide (0 ≤ x ∧ x ≤ w64 (cols - 1)) && !(decide (0 < i) && decide (x ≤ q.Show.getD (i - 1) 0))) (some false) (some (decide (q.Where.length ≤ 3) && decide (0 ≤ q.Order ∧ q.Order ≤ cols) && (!q.Down || decide (0 < q.Order)) && decide (0 ≤ q.First ∧ q.First ≤ 24) && kidsB s q)) (fun k i x hx => ?_) (fun k i hi => ?_) _ 0 (by omega) (by (try simp only [lenI_eq]); omega)).trans ?_
      · have hi := at_lt hx
        rw [impl_QueryOk.l1, lenI_eq, decide_eq_true (by omega), cond_true, getO_nat, hx, Option.bind_some, impl_within_eq, Option.bind_some, show_step hx (by omega), Option.bind_some, w64_succ (by omega)]
        rw [show decide (0 < (i : Int)) = decide (0 < i) from by simp]
        cases decide (0 ≤ x ∧ x ≤ w64 (cols - 1)) <;> cases decide (0 < i) <;> (try rfl)
        simp only [bo3_and, bo3_not, bo3_or, Bool.not_true, Bool.not_false, Bool.true_and, cond_true]
        cases decide (x ≤ q.Show.getD (i - 1) 0) <;> rfl
      · rw [impl_QueryOk.l1, lenI_eq, decide_eq_false (by omega), cond_false, impl_within_eq, Option.bind_some, impl_within_eq, impl_kidsFit_eq _ _ h]
        rw [show decide ((q.Where.length : Int) ≤ 3) = decide (q.Where.length ≤ 3) from by simp; omega]
        cases decide (q.Where.length ≤ 3) <;> cases decide (0 ≤ q.Order ∧ q.Order ≤ cols) <;> cases q.Down <;> cases decide (0 < q.Order) <;> cases decide (0 ≤ q.First ∧ q.First ≤ 24) <;> cases kidsB s q <;> rfl
      · unfold showB
        cases allFrom (fun i x => decide (0 ≤ x ∧ x ≤ w64 (cols - 1)) && !(decide (0 < i) && decide (x ≤ q.Show.getD (i - 1) 0))) q.Show 0 <;> rfl
    · rw [allFrom_zero]
      cases q.Where.all fun c => condB cols c <;> simp

def sz_QueryS (l : List Query) : Int := l.length + (l.map sz_Query).sum
def QueryS_b (l : List Query) : Prop := l.length ≤ 9223372036854775807 ∧ ∀ x ∈ l, Query_b x
theorem sz_QueryS_0 (l : List Query) : 0 ≤ sz_QueryS l := by have := sum_nonneg sz_Query_0 l; unfold sz_QueryS; omega
def QueryS_r (l : List Query) : Prop := ∀ x ∈ l, Query_r x
def concP (s : Schema) (ch : List Change) (q : Query) : Bool := queryB s q && ch.any (touchesB q)
def concF (p : Query → Bool) : List Query → Int → List Int
  | [], _ => []
  | q :: l, i => if p q then i :: concF p l (i + 1) else concF p l (i + 1)
theorem concF_len {p : Query → Bool} : ∀ {l : List Query} {i : Int}, (concF p l i).length ≤ l.length
  | [], _ => Nat.le_refl _
  | q :: l, i => by
    have := concF_len (p := p) (l := l) (i := i + 1)
    unfold concF
    split <;> simp only [List.length_cons] <;> omega

theorem impl_Concerned_eq (s : Schema) (qs : List Query) (ch : List Change) (hs : Schema_b s) (hq : QueryS_b qs) (hc : ChangeS_b ch) (hz : qs.length ≤ 1048576) : impl_Concerned.f s qs ch = some (concF (concP s ch) qs 0) := by
  obtain ⟨hql, hq2⟩ := hq
  show impl_Concerned.l0 s qs ch (((lenI qs) - 0).toNat + 1) [] ((0 : Nat) : Int) = _
  have key : ∀ (k i : Nat) (acc : List Int), i ≤ qs.length → qs.length < i + k → acc.length ≤ i → impl_Concerned.l0 s qs ch k acc i = some (acc ++ concF (concP s ch) (qs.drop i) i) := by
    intro k
    induction k with
    | zero => intro i acc h h'; omega
    | succ k ih =>
      intro i acc h h' ha
      by_cases hi : i < qs.length
      · have hx : qs[i]? = some qs[i] := List.getElem?_eq_getElem hi
        have hxb := hq2 _ (List.mem_of_getElem? hx)
        rw [impl_Concerned.l0, lenI_eq, decide_eq_true (by omega), cond_true, getO_nat, hx, Option.bind_some, impl_QueryOk_eq _ _ hs hxb, Option.bind_some, impl_TouchesAny_eq _ _ hxb hc, List.drop_eq_getElem_cons hi, concF, w64_succ (by omega), show (i : Int) + 1 = ((i + 1 : Nat) : Int) from rfl]
        have e : ∀ b : Bool, gd b (some (ch.any (touchesB qs[i]))) = some (b && ch.any (touchesB qs[i])) := by intro b; cases b <;> rfl
        rw [e, Option.bind_some]
        have ep : bo3 (queryB s qs[i]) (queryB s qs[i] && ch.any (touchesB qs[i])) false = concP s ch qs[i] := by unfold concP; cases queryB s qs[i] <;> rfl
        rw [ep]
        by_cases hp : concP s ch qs[i] = true
        · rw [hp, cond_true, if_pos rfl, Option.bind_some, appO_ok (by simp only [List.length_cons, List.length_nil]; omega), Option.bind_some, ih (i + 1) _ (by omega) (by omega) (by simp; omega), List.append_assoc, List.singleton_append]
        · rw [if_neg hp, show concP s ch qs[i] = false from by simpa using hp, cond_false]
          exact ih (i + 1) acc (by omega) (by omega) (by omega)
      · rw [impl_Concerned.l0, lenI_eq, decide_eq_false (by omega), cond_false, List.drop_eq_nil_of_le (by omega), concF, List.append_nil]
  have := key (((lenI qs) - 0).toNat + 1) 0 [] (by omega) (by simp only [lenI_eq]; omega) (by simp)
  rw [List.drop_zero, List.nil_append] at this
  exact this

theorem laws_sameInts_eq (a b : List Int) (ha : a.length ≤ 9223372036854775807) (hb : b.length ≤ 9223372036854775807) : laws_sameInts.f a b = some (decide (a = b)) := by
  unfold laws_sameInts.f
  rw [lenI_eq, lenI_eq]
  by_cases hl : a.length = b.length
  · rw [decide_eq_false (by omega), cond_false]
    have key : ∀ (k i : Nat), i ≤ a.length → a.length < i + k → laws_sameInts.l0 a b k i = some (decide (a.drop i = b.drop i)) := by
      intro k
      induction k with
      | zero => intro i h1 h2; omega
      | succ k ih =>
        intro i h1 h2
        rw [laws_sameInts.l0, lenI_eq]
        by_cases hi : i < a.length
        · rw [decide_eq_true (by omega), cond_true, getO_nat, List.getElem?_eq_getElem hi, Option.bind_some, getO_nat, List.getElem?_eq_getElem (by omega), Option.bind_some, w64_succ (by omega)]
          have e1 : a.drop i = a[i] :: a.drop (i + 1) := List.drop_eq_getElem_cons hi
          have e2 : b.drop i = b[i] :: b.drop (i + 1) := List.drop_eq_getElem_cons (by omega)
          rw [e1, e2]
          by_cases e : a[i] = b[i]
          · rw [decide_eq_false (by simpa using e), cond_false, ih (i + 1) (by omega) (by omega), e]
            exact congrArg some (decide_eq_decide.2 ⟨fun h => by rw [h], fun h => (List.cons.inj h).2⟩)
          · rw [decide_eq_true (by simpa using e), cond_true, decide_eq_false (fun h => e (List.cons.inj h).1)]
        · rw [decide_eq_false (by omega), cond_false, List.drop_eq_nil_of_le (by omega), List.drop_eq_nil_of_le (by omega)]
          rfl
    have := key (((a.length : Int) - 0).toNat + 1) 0 (by omega) (by omega)
    simpa using this
  · rw [decide_eq_true (by omega), cond_true, decide_eq_false (fun e => hl (by rw [e]))]

theorem spec_l1In_eq (x y z : Int) : spec_l1In.f x y z = some (decide (y ≤ x ∧ x ≤ z)) := by
  unfold spec_l1In.f
  rw [bo3_and, Bool.decide_and]

theorem spec_l9Holds_eq (c : Cond) (r : Row) (h : Row_b r) : spec_l9Holds.f c r = some (holdsB c r) := by
  have hl : r.Cells.length ≤ 9223372036854775807 := h
  unfold spec_l9Holds.f holdsB
  rw [lenI_eq, w64_id (by omega), spec_l1In_eq, Option.bind_some, bo3_not]
  by_cases d : 0 ≤ c.Col ∧ c.Col ≤ (r.Cells.length : Int) - 1
  · rw [decide_eq_true d, Bool.not_true, cond_false, getO_Int d, Option.bind_some, Bool.true_and]
    simp only [cond_ite, decide_eq_true_eq, some_if, bo3_and, cmpB]
    all_goals ((repeat' split) <;> simp_all)
  · rw [decide_eq_false d, Bool.not_false, cond_true, Bool.false_and]

theorem spec_Matches_eq (q : Query) (r : Row) (hq : CondS_b q.Where) (h : Row_b r) : spec_Matches.f q r = some (matchesB q r) := by
  have hl : q.Where.length ≤ 9223372036854775807 := hq
  unfold spec_Matches.f
  refine (loop_all (f := spec_Matches.l0 q r) (l := q.Where) (fun _ c => holdsB c r) (some false) (some true) (fun k i x hx => ?_) (fun k i hi => ?_) _ 0 (by omega) (by (try simp only [lenI_eq]); omega)).trans ?_
  · have hi := at_lt hx
    rw [spec_Matches.l0, lenI_eq, decide_eq_true (by omega), cond_true, getO_nat, hx, Option.bind_some, spec_l9Holds_eq _ _ h, Option.bind_some, bo3_not, w64_succ (by omega)]
    cases holdsB x r <;> rfl
  · rw [spec_Matches.l0, lenI_eq, decide_eq_false (by omega), cond_false]
  · rw [allFrom_zero, matchesB]
    cases q.Where.all fun c => holdsB c r <;> rfl

theorem spec_l12In_eq (q : Query) (c : Change) (hq : Query_b q) (hc : Change_b c) : spec_l12In.f q c = some (decide (c.Table = q.Table) && (c.Had && matchesB q c.Old || c.Has && matchesB q c.New)) := by
  unfold spec_l12In.f
  simp only [spec_Matches_eq _ _ hq.1 hc.1, spec_Matches_eq _ _ hq.1 hc.2, gd_of, Option.bind_some]
  cases decide (c.Table = q.Table) <;> cases c.Had <;> cases c.Has <;> cases matchesB q c.Old <;> cases matchesB q c.New <;> rfl

theorem spec_l9Cell_eq (r : Row) (col : Int) (h : Row_b r) : spec_l9Cell.f r col = some (cellF r col) := by
  have hl : r.Cells.length ≤ 9223372036854775807 := h
  unfold spec_l9Cell.f cellF
  rw [lenI_eq, w64_id (by omega), spec_l1In_eq, Option.bind_some, bo3_not]
  by_cases d : 0 ≤ col ∧ col ≤ (r.Cells.length : Int) - 1
  · rw [decide_eq_true d, Bool.not_true, cond_false, getO_Int d, Option.bind_some, if_pos d]
  · rw [decide_eq_false d, Bool.not_false, cond_true, if_neg d]

theorem spec_Touches_eq (q : Query) (c : Change) (hq : Query_b q) (hc : Change_b c) : spec_Touches.f q c = some (touchesB q c) := by
  unfold spec_Touches.f touchesB
  simp only [spec_l12In_eq _ _ hq hc, spec_l9Cell_eq _ _ hc.1, spec_l9Cell_eq _ _ hc.2, gd_of, Option.bind_some]
  generalize (decide (c.Table = q.Table) && (c.Had && matchesB q c.Old || c.Has && matchesB q c.New)) = b
  generalize cellF c.Old q.KidCol = x
  generalize cellF c.New q.KidCol = y
  rw [show decide (c.Table ≠ q.KidTable) = !decide (c.Table = q.KidTable) from by simp]
  cases b <;> cases q.Kids <;> cases decide (c.Table = q.KidTable) <;> cases c.Had <;> cases c.Has <;> first | rfl | (simp [bo3])

theorem spec_TouchesAny_eq (q : Query) (l : List Change) (hq : Query_b q) (hl : ChangeS_b l) : spec_TouchesAny.f q l = some (l.any (touchesB q)) := by
  obtain ⟨h1, h2⟩ := hl
  unfold spec_TouchesAny.f
  refine (loop_all (f := spec_TouchesAny.l0 q l) (l := l) (fun _ c => !touchesB q c) (some true) (some false) (fun k i x hx => ?_) (fun k i hi => ?_) _ 0 (by omega) (by (try simp only [lenI_eq]); omega)).trans ?_
  · have hi := at_lt hx
    rw [spec_TouchesAny.l0, lenI_eq, decide_eq_true (by omega), cond_true, getO_nat, hx, Option.bind_some, spec_Touches_eq _ _ hq (h2 x (List.mem_of_getElem? hx)), Option.bind_some, w64_succ (by omega)]
    cases touchesB q x <;> rfl
  · rw [spec_TouchesAny.l0, lenI_eq, decide_eq_false (by omega), cond_false]
  · rw [allFrom_zero, show (l.all fun c => !touchesB q c) = !(l.any (touchesB q)) from by rw [List.not_any_eq_all_not]]
    cases l.any (touchesB q) <;> rfl

theorem spec_SchemaOk_eq (s : Schema) (h : Schema_b s) : spec_SchemaOk.f s = some (schemaB s) := by
  have hl : s.Cols.length ≤ 9223372036854775807 := h
  unfold spec_SchemaOk.f joinK
  refine (loop_all (f := spec_SchemaOk.l0 s _) (l := s.Cols) (fun _ n => decide (1 ≤ n ∧ n ≤ 4)) (some false) (some (decide (1 ≤ (s.Cols.length : Int) ∧ (s.Cols.length : Int) ≤ 3))) (fun k i x hx => ?_) (fun k i hi => ?_) _ 0 (by omega) (by (try simp only [lenI_eq]); omega)).trans ?_
  · have hi := at_lt hx
    rw [spec_SchemaOk.l0, lenI_eq, decide_eq_true (by omega), cond_true, getO_nat, hx, Option.bind_some, spec_l1In_eq, Option.bind_some, bo3_not, w64_succ (by omega)]
    cases decide (1 ≤ x ∧ x ≤ 4) <;> rfl
  · rw [spec_SchemaOk.l0, lenI_eq, decide_eq_false (by omega), cond_false, spec_l1In_eq, Option.bind_some]
  · rw [allFrom_zero, schemaB]
    cases s.Cols.all fun n => decide (1 ≤ n ∧ n ≤ 4) <;> rfl

theorem spec_QueryOk_eq (s : Schema) (q : Query) (h : Schema_b s) (hq : Query_b q) : spec_QueryOk.f s q = some (queryB s q) := by
  have hcl : s.Cols.length ≤ 9223372036854775807 := h
  obtain ⟨hw, hs⟩ := hq
  have hwl : q.Where.length ≤ 9223372036854775807 := hw
  have hsl : q.Show.length ≤ 9223372036854775807 := hs
  unfold spec_QueryOk.f queryB
  rw [spec_SchemaOk_eq _ h, Option.bind_some]
  cases schemaB s with
  | false => rfl
  | true =>
    rw [show bo3 (bo3 true false true) false true = true from rfl, gd_true, lenI_eq, w64_id (by omega), spec_l1In_eq, Option.bind_some]
    by_cases d : 0 ≤ q.Table ∧ q.Table ≤ (s.Cols.length : Int) - 1
    case neg => rw [decide_eq_false d]; rfl
    rw [decide_eq_true d, getO_Int d]
    generalize s.Cols.getD q.Table.toNat 0 = cols
    by_cases d3 : q.Where.length ≤ 3
    case neg =>
      rw [lenI_eq, decide_eq_true (by omega), show bo3 (bo3 (bo3 true false true) true (bo3 true false true)) true true = true from rfl, cond_true, decide_eq_false d3]
      simp
    rw [lenI_eq, decide_eq_false (by omega), show bo3 (bo3 (bo3 true false true) true (bo3 true false true)) true false = false from rfl, cond_false, decide_eq_true d3, Option.bind_some]
    simp only [joinK, Bool.true_and]
    refine (loop_all (f := spec_QueryOk.l0 q cols _) (l := q.Where) (fun _ c => condB cols c) (some false) (some (showB cols q.Show && (decide (0 ≤ q.Order ∧ q.Order ≤ cols) && (!q.Down || decide (0 < q.Order)) && decide (0 ≤ q.First ∧ q.First ≤ 24) && kidsB s q))) (fun k i x hx => ?_) (fun k i hi => ?_) _ 0 (by omega) (by (try simp only [lenI_eq]); omega)).trans ?_
    · have hi := at_lt hx
      rw [spec_QueryOk.l0, lenI_eq, decide_eq_true (by omega), cond_true, getO_nat, hx, Option.bind_some, spec_l1In_eq, Option.bind_some, spec_l1In_eq, spec_l1In_eq, w64_succ (by omega)]
      unfold condB
      cases decide (0 ≤ x.Col ∧ x.Col ≤ w64 (cols - 1)) <;> cases decide (1 ≤ x.Op ∧ x.Op ≤ 4) <;> cases decide (-1000000000 ≤ x.V ∧ x.V ≤ 1000000000) <;> rfl
    · rw [spec_QueryOk.l0, lenI_eq, decide_eq_false (by omega), cond_false]
      refine (loop_all (f := spec_QueryOk.l1 q cols _) (l := q.Show) (fun i x => decide (0 ≤ x ∧ x ≤ w64 (cols - 1)) && !(decide (0 < i) && decide (x ≤ q.Show.getD (i - 1) 0))) (some false) (some (decide (0 ≤ q.Order ∧ q.Order ≤ cols) && (!q.Down || decide (0 < q.Order)) && decide (0 ≤ q.First ∧ q.First ≤ 24) && kidsB s q)) (fun k i x hx => ?_) (fun k i hi => ?_) _ 0 (by omega) (by (try simp only [lenI_eq]); omega)).trans ?_
      · have hi := at_lt hx
        rw [spec_QueryOk.l1, lenI_eq, decide_eq_true (by omega), cond_true, getO_nat, hx, Option.bind_some, spec_l1In_eq, Option.bind_some, show_step hx (by omega), Option.bind_some, w64_succ (by omega)]
        rw [show decide (0 < (i : Int)) = decide (0 < i) from by simp]
        cases decide (0 ≤ x ∧ x ≤ w64 (cols - 1)) <;> cases decide (0 < i) <;> (try rfl)
        simp only [bo3_and, bo3_not, bo3_or, Bool.not_true, Bool.not_false, Bool.true_and, cond_true]
        cases decide (x ≤ q.Show.getD (i - 1) 0) <;> rfl
      · rw [spec_QueryOk.l1, lenI_eq, decide_eq_false (by omega), cond_false, spec_l1In_eq, Option.bind_some, spec_l1In_eq]
        by_cases e0 : 0 ≤ q.Order ∧ q.Order ≤ cols
        case neg => rw [decide_eq_false e0]; rfl
        rw [decide_eq_true e0, show bo3 (bo3 true false true) false true = true from rfl, gd_true, Option.bind_some]
        by_cases e1 : 0 ≤ q.First ∧ q.First ≤ 24
        case neg => rw [decide_eq_false e1]; simp [bo3]
        rw [decide_eq_true e1]
        have e2 : (bo3 (decide (q.Order = 0)) q.Down false) = !(!q.Down || decide (0 < q.Order)) := by
          cases q.Down with
          | false => cases decide (q.Order = 0) <;> rfl
          | true =>
            by_cases e3 : q.Order = 0
            · simp [e3, bo3]
            · have : 0 < q.Order := by omega
              simp [e3, bo3, this]
        rw [e2]
        cases hd : (!q.Down || decide (0 < q.Order)) with
        | false => simp [bo3]
        | true =>
          rw [show bo3 (bo3 (bo3 true false true) true (bo3 true false true)) true (!true) = false from rfl, cond_false, bo3_not]
          unfold kidsB
          cases q.Kids with
          | false => simp [bo3_and]
          | true =>
            rw [Bool.not_true, cond_false, spec_l1In_eq, Option.bind_some, if_pos rfl]
            by_cases d : 0 ≤ q.KidTable ∧ q.KidTable ≤ (s.Cols.length : Int) - 1
            · rw [decide_eq_true d, gd_true, getO_Int d, Option.bind_some, gd_true, spec_l1In_eq, Option.bind_some, bo3_and]
              simp
            · rw [decide_eq_false d, gd_false, Option.bind_some, gd_false, Option.bind_some, bo3_and]
              simp
      · unfold showB
        cases allFrom (fun i x => decide (0 ≤ x ∧ x ≤ w64 (cols - 1)) && !(decide (0 < i) && decide (x ≤ q.Show.getD (i - 1) 0))) q.Show 0 <;> rfl
    · rw [allFrom_zero]
      cases q.Where.all fun c => condB cols c <;> simp

theorem spec_Concerned_eq (s : Schema) (qs : List Query) (ch : List Change) (hs : Schema_b s) (hq : QueryS_b qs) (hc : ChangeS_b ch) (hz : qs.length ≤ 1048576) : spec_Concerned.f s qs ch = some (concF (concP s ch) qs 0) := by
  obtain ⟨hql, hq2⟩ := hq
  show spec_Concerned.l0 s qs ch (((lenI qs) - 0).toNat + 1) [] ((0 : Nat) : Int) = _
  have key : ∀ (k i : Nat) (acc : List Int), i ≤ qs.length → qs.length < i + k → acc.length ≤ i → spec_Concerned.l0 s qs ch k acc i = some (acc ++ concF (concP s ch) (qs.drop i) i) := by
    intro k
    induction k with
    | zero => intro i acc h h'; omega
    | succ k ih =>
      intro i acc h h' ha
      by_cases hi : i < qs.length
      · have hx : qs[i]? = some qs[i] := List.getElem?_eq_getElem hi
        have hxb := hq2 _ (List.mem_of_getElem? hx)
        rw [spec_Concerned.l0, lenI_eq, decide_eq_true (by omega), cond_true, getO_nat, hx, Option.bind_some, spec_QueryOk_eq _ _ hs hxb, Option.bind_some, spec_TouchesAny_eq _ _ hxb hc, List.drop_eq_getElem_cons hi, concF, w64_succ (by omega), show (i : Int) + 1 = ((i + 1 : Nat) : Int) from rfl]
        have e : ∀ b : Bool, gd b (some (ch.any (touchesB qs[i]))) = some (b && ch.any (touchesB qs[i])) := by intro b; cases b <;> rfl
        rw [e, Option.bind_some]
        have ep : bo3 (queryB s qs[i]) (queryB s qs[i] && ch.any (touchesB qs[i])) false = concP s ch qs[i] := by unfold concP; cases queryB s qs[i] <;> rfl
        rw [ep]
        by_cases hp : concP s ch qs[i] = true
        · rw [hp, cond_true, if_pos rfl, Option.bind_some, appO_ok (by simp only [List.length_cons, List.length_nil]; omega), Option.bind_some, ih (i + 1) _ (by omega) (by omega) (by simp; omega), List.append_assoc, List.singleton_append]
        · rw [if_neg hp, show concP s ch qs[i] = false from by simpa using hp, cond_false]
          exact ih (i + 1) acc (by omega) (by omega) (by omega)
      · rw [spec_Concerned.l0, lenI_eq, decide_eq_false (by omega), cond_false, List.drop_eq_nil_of_le (by omega), concF, List.append_nil]
  have := key (((lenI qs) - 0).toNat + 1) 0 [] (by omega) (by simp only [lenI_eq]; omega) (by simp)
  rw [List.drop_zero, List.nil_append] at this
  exact this

/-- A cursor that is right. -/
def CI (b : List Int) (i : Int) : Prop := 0 ≤ i ∧ i ≤ b.length ∧ (b.length : Int) ≤ 1048576
theorem and_le (x : Int) (m : Nat) (hm : m < 9223372036854775808) : 0 ≤ Ls.ar .and .i64 x m ∧ Ls.ar .and .i64 x m ≤ m := by
  show 0 ≤ IntKind.i64.wrap _ ∧ IntKind.i64.wrap _ ≤ _
  have h : (BitVec.ofInt IntKind.i64.bits x &&& BitVec.ofInt IntKind.i64.bits m).toNat ≤ m := by
    rw [BitVec.toNat_and]
    refine Nat.le_trans Nat.and_le_right ?_
    rw [BitVec.toNat_ofInt]
    have : ((m : Int) % (2 ^ IntKind.i64.bits : Nat)).toNat = m := by
      rw [Int.emod_eq_of_lt (by omega) (by show (m : Int) < ((2 ^ 64 : Nat) : Int); omega)]
      omega
    omega
  rw [IntKind.wrap_i64]
  omega
theorem l1Byte_ok {b : List Int} {i : Int} (h : Int) (hc : CI b i) : ∃ i' h' x, spec_l1Byte.f (l1Cur.mk b i h) = some (l1Cur.mk b i' h', x) ∧ CI b i' ∧ 0 ≤ x ∧ x ≤ 255 := by
  obtain ⟨h0, h1, h2⟩ := hc
  unfold spec_l1Byte.f
  dsimp only
  by_cases hi : i < (b.length : Int)
  · rw [lenI_eq, decide_eq_true hi, cond_true, getO_pos h0, List.getElem?_eq_getElem (by omega), Option.bind_some]
    exact ⟨_, _, _, rfl, ⟨by rw [w64_id (by omega)]; omega, by rw [w64_id (by omega)]; omega, h2⟩, and_le _ 255 (by omega)⟩
  · rw [lenI_eq, decide_eq_false hi, cond_false]
    exact ⟨_, _, _, rfl, ⟨h0, h1, h2⟩, and_le _ 255 (by omega)⟩
theorem tmod_lt {x n : Int} (hx : 0 ≤ x) (hn : 0 < n) : 0 ≤ Int.tmod x n ∧ Int.tmod x n < n := ⟨Int.tmod_nonneg _ hx, Int.tmod_lt_of_pos _ hn⟩
theorem l1Below_ok {b : List Int} {i : Int} (h : Int) (n : Int) (hc : CI b i) : ∃ i' h' x, spec_l1Below.f (l1Cur.mk b i h) n = some (l1Cur.mk b i' h', x) ∧ CI b i' ∧ 0 ≤ x ∧ (0 < n → x < n) ∧ (n ≤ 0 → x = 0) := by
  unfold spec_l1Below.f
  by_cases h0 : n ≤ 0
  · rw [decide_eq_true h0, cond_true]
    exact ⟨_, _, _, rfl, hc, by omega, fun _ => by omega, fun _ => rfl⟩
  have hz : nzO n = some () := by unfold nzO; rw [if_pos (by omega)]
  rw [decide_eq_false h0, cond_false]
  obtain ⟨i1, h1, x1, e1, k1, l1, u1⟩ := l1Byte_ok h hc
  by_cases hn : n ≤ 256
  · rw [decide_eq_true hn, cond_true, e1, Option.bind_some, hz, Option.bind_some]
    have := tmod_lt (n := n) l1 (by omega)
    exact ⟨_, _, _, rfl, k1, this.1, fun _ => this.2, fun _ => by omega⟩
  · obtain ⟨i2, h2, x2, e2, k2, l2, u2⟩ := l1Byte_ok h1 k1
    obtain ⟨i3, h3, x3, e3, k3, l3, u3⟩ := l1Byte_ok h2 k2
    obtain ⟨i4, h4, x4, e4, k4, l4, u4⟩ := l1Byte_ok h3 k3
    rw [decide_eq_false hn, cond_false, e1, Option.bind_some]
    dsimp only
    rw [e2, Option.bind_some]
    dsimp only
    rw [e3, Option.bind_some]
    dsimp only
    rw [e4, Option.bind_some, hz, Option.bind_some]
    dsimp only
    rw [w64_id (x := x1 * 16777216) (by omega), w64_id (x := x2 * 65536) (by omega), w64_id (x := x3 * 256) (by omega), w64_id (x := x1 * 16777216 + x2 * 65536) (by omega), w64_id (x := x1 * 16777216 + x2 * 65536 + x3 * 256) (by omega), w64_id (by omega)]
    have := tmod_lt (n := n) (show 0 ≤ x1 * 16777216 + x2 * 65536 + x3 * 256 + x4 by omega) (by omega)
    exact ⟨_, _, _, rfl, k4, this.1, fun _ => this.2, fun _ => by omega⟩
theorem l1New_ok (l : List Int) (hl : (l.length : Int) ≤ 1048576) : ∃ h, spec_l1New.f l = some (l1Cur.mk l 0 h) ∧ CI l 0 := by
  have key : ∀ (k i : Nat) (h : Int), i ≤ l.length → l.length < i + k → ∃ h', spec_l1New.l0 l k h i = some (l1Cur.mk l 0 h') := by
    intro k
    induction k with
    | zero => intro i h h1 h2; omega
    | succ k ih =>
      intro i h h1 h2
      rw [spec_l1New.l0]
      by_cases c : bo3 (decide ((i : Int) < lenI l)) (decide ((i : Int) < 4000)) false = true
      · have hi : i < l.length := by
          rw [bo3_and, Bool.and_eq_true] at c
          have := of_decide_eq_true c.1
          rw [lenI_eq] at this
          omega
        rw [c, cond_true, getO_nat, List.getElem?_eq_getElem hi, Option.bind_some, w64_succ (by omega)]
        exact ih (i + 1) _ (by omega) (by omega)
      · rw [Bool.not_eq_true] at c
        rw [c, cond_false]
        exact ⟨_, rfl⟩
  unfold spec_l1New.f
  obtain ⟨h, e⟩ := key (((lenI l) - 0).toNat + 1) 0 (w64 (17333 + lenI l)) (by omega) (by rw [lenI_eq]; omega)
  exact ⟨h, e, by omega, by omega, hl⟩




theorem spec_l7Schema_eq (s : Schema) (h : sz_Schema s ≤ 1099511627776) : spec_l7Schema.f s = some s := by
  have : (s.Cols.length : Int) ≤ 1099511627776 := by unfold sz_Schema sz_IntS at h; exact h
  unfold spec_l7Schema.f
  rw [appO_ok (by simp only [List.length_nil]; omega), Option.bind_some, List.nil_append]

def sz_RowS (l : List Row) : Int := l.length + (l.map sz_Row).sum
def RowS_b (l : List Row) : Prop := l.length ≤ 9223372036854775807 ∧ ∀ x ∈ l, Row_b x
theorem sz_RowS_0 (l : List Row) : 0 ≤ sz_RowS l := by have := sum_nonneg sz_Row_0 l; unfold sz_RowS; omega
def RowS_r (l : List Row) : Prop := ∀ x ∈ l, Row_r x
def rowB (s : Schema) (t : Int) (r : Row) : Bool :=
  schemaB s && decide (0 ≤ t ∧ t ≤ (s.Cols.length : Int) - 1) && decide (1 ≤ r.Id ∧ r.Id ≤ 999) && decide ((r.Cells.length : Int) = s.Cols.getD t.toNat 0) && r.Cells.all fun n => decide (-1000000000 ≤ n ∧ n ≤ 1000000000)
def rowsB (s : Schema) (t : Int) (rows : List Row) : Bool :=
  allFrom (fun i r => rowB s t r && !(decide (0 < i) && decide (r.Id ≤ (rows.getD (i - 1) default).Id))) rows 0 && (schemaB s && decide (0 ≤ t ∧ t ≤ (s.Cols.length : Int) - 1) && decide (rows.length ≤ 24))
theorem schema_len {s : Schema} (h : schemaB s = true) : s.Cols.length ≤ 3 := by
  unfold schemaB at h
  rw [Bool.and_eq_true] at h
  have := of_decide_eq_true h.2
  omega
theorem rows_row {s : Schema} {t : Int} {rows : List Row} (h : rowsB s t rows = true) {i : Nat} {r : Row} (hr : rows[i]? = some r) : rowB s t r = true := by
  unfold rowsB at h
  rw [Bool.and_eq_true] at h
  have := allFrom_iff.1 h.1 i r hr
  rw [Bool.and_eq_true] at this
  exact this.1
theorem rows_len {s : Schema} {t : Int} {rows : List Row} (h : rowsB s t rows = true) : rows.length ≤ 24 := by
  unfold rowsB at h
  simp only [Bool.and_eq_true, decide_eq_true_eq] at h
  exact h.2.2
theorem row_cells {s : Schema} {t : Int} {r : Row} (h : rowB s t r = true) : (r.Cells.length : Int) = s.Cols.getD t.toNat 0 := by
  unfold rowB at h
  simp only [Bool.and_eq_true, decide_eq_true_eq] at h
  exact h.1.2

def sz_RowSS (l : List (List Row)) : Int := l.length + (l.map sz_RowS).sum
def RowSS_b (l : List (List Row)) : Prop := l.length ≤ 9223372036854775807 ∧ ∀ x ∈ l, RowS_b x
theorem sz_RowSS_0 (l : List (List Row)) : 0 ≤ sz_RowSS l := by have := sum_nonneg sz_RowS_0 l; unfold sz_RowSS; omega
def RowSS_r (l : List (List Row)) : Prop := ∀ x ∈ l, RowS_r x
def sz_Store (x : Store) : Int := sz_Schema x.Schema + sz_RowSS x.Tables
def Store_b (x : Store) : Prop := Schema_b x.Schema ∧ RowSS_b x.Tables
theorem sz_Store_0 (x : Store) : 0 ≤ sz_Store x := by unfold sz_Store; exact by have := sz_Schema_0 x.Schema; have := sz_RowSS_0 x.Tables;  omega
def Store_r (x : Store) : Prop := Schema_r x.Schema ∧ (-9223372036854775808 ≤ x.Version ∧ x.Version ≤ 9223372036854775807) ∧ RowSS_r x.Tables
def storeB (s : Store) : Bool :=
  schemaB s.Schema && decide (0 ≤ s.Version ∧ s.Version ≤ 100000) && decide (s.Tables.length = s.Schema.Cols.length) && allFrom (fun i rows => rowsB s.Schema (i : Int) rows) s.Tables 0
theorem store_table {s : Store} (h : storeB s = true) {i : Nat} {rows : List Row} (hr : s.Tables[i]? = some rows) : rowsB s.Schema i rows = true := by
  unfold storeB at h
  rw [Bool.and_eq_true] at h
  exact allFrom_iff.1 h.2 i rows hr
theorem store_len {s : Store} (h : storeB s = true) : s.Tables.length = s.Schema.Cols.length ∧ schemaB s.Schema = true := by
  unfold storeB at h
  simp only [Bool.and_eq_true, decide_eq_true_eq] at h
  exact ⟨h.1.2, h.1.1.1⟩

def rowAtF : List Row → Int → Int → Int
  | [], _, _ => -1
  | r :: l, id, i => if r.Id = id then i else rowAtF l id (i + 1)

theorem row_len {r : Row} {B : Int} (h : sz_Row r ≤ B) : (r.Cells.length : Int) ≤ B := by unfold sz_Row sz_IntS at h; exact h

def isId (id : Int) (r : Row) : Bool := decide (r.Id = id)
def isGt (id : Int) (r : Row) : Bool := decide (id < r.Id)
def idxI (p : Row → Bool) (l : List Row) : Int := if l.findIdx p < l.length then (l.findIdx p : Int) else -1
def rowDropF (l : List Row) (id : Int) : List Row := l.eraseIdx (l.findIdx (isId id))
def rowPutF (l : List Row) (r : Row) : List Row := if l.findIdx (isId r.Id) < l.length then l.set (l.findIdx (isId r.Id)) r else l.take (l.findIdx (isGt r.Id)) ++ [r] ++ l.drop (l.findIdx (isGt r.Id))
theorem rowAtF_idx : ∀ (l : List Row) (id i : Int), rowAtF l id i = if l.findIdx (isId id) < l.length then i + (l.findIdx (isId id) : Int) else -1
  | [], _, _ => rfl
  | r :: l, id, i => by
    rw [rowAtF, rowAtF_idx l id (i + 1), List.findIdx_cons]
    by_cases e : r.Id = id
    · rw [if_pos e, isId, decide_eq_true e]; simp
    · rw [if_neg e, isId, decide_eq_false e]
      simp only [cond_false, List.length_cons]
      by_cases h : l.findIdx (isId id) < l.length
      · rw [if_pos h, if_pos (by omega)]; omega
      · rw [if_neg h, if_neg (by omega)]
theorem rowAt_0 (l : List Row) (id : Int) : rowAtF l id 0 = idxI (isId id) l := by
  rw [rowAtF_idx, idxI]
  split
  · omega
  · rfl
theorem idxI_nn {p : Row → Bool} {l : List Row} : 0 ≤ idxI p l ↔ l.findIdx p < l.length := by
  unfold idxI
  split
  · simp_all
  · simp_all
theorem idxI_pos {p : Row → Bool} {l : List Row} (h : l.findIdx p < l.length) : idxI p l = (l.findIdx p : Int) := if_pos h
theorem idxI_neg {p : Row → Bool} {l : List Row} (h : ¬ l.findIdx p < l.length) : idxI p l = -1 := if_neg h
theorem sum_append {α : Type} (s : α → Int) (a b : List α) : ((a ++ b).map s).sum = (a.map s).sum + (b.map s).sum := by rw [List.map_append, List.sum_append]
theorem sum_take_drop {α : Type} (s : α → Int) (l : List α) (k : Nat) : (l.map s).sum = ((l.take k).map s).sum + ((l.drop k).map s).sum := by rw [← sum_append, List.take_append_drop]
theorem sum_set {α : Type} {s : α → Int} (hs : ∀ x, 0 ≤ s x) (x : α) : ∀ (l : List α) (i : Nat), ((l.set i x).map s).sum ≤ (l.map s).sum + s x
  | [], i => by simp [hs x]
  | a :: l, 0 => by simp only [List.set_cons_zero, List.map_cons, List.sum_cons]; have := hs a; omega
  | a :: l, i + 1 => by simp only [List.set_cons_succ, List.map_cons, List.sum_cons]; have := sum_set hs x l i; omega
theorem sum_erase {α : Type} {s : α → Int} (hs : ∀ x, 0 ≤ s x) : ∀ (l : List α) (i : Nat), ((l.eraseIdx i).map s).sum ≤ (l.map s).sum
  | [], i => by simp
  | a :: l, 0 => by simp only [List.eraseIdx_cons_zero, List.map_cons, List.sum_cons]; have := hs a; omega
  | a :: l, i + 1 => by simp only [List.eraseIdx_cons_succ, List.map_cons, List.sum_cons]; have := sum_erase hs l i; omega
theorem rowDrop_len (l : List Row) (id : Int) : (rowDropF l id).length ≤ l.length := by unfold rowDropF; rw [List.length_eraseIdx]; split <;> omega
theorem rowDrop_sz (l : List Row) (id : Int) : sz_RowS (rowDropF l id) ≤ sz_RowS l := by
  have h1 := rowDrop_len l id
  have h2 := sum_erase sz_Row_0 l (l.findIdx (isId id))
  unfold sz_RowS
  unfold rowDropF at *
  omega
theorem rowPut_len (l : List Row) (r : Row) : (rowPutF l r).length ≤ l.length + 1 := by
  unfold rowPutF
  split
  · rw [List.length_set]; omega
  · simp; omega
theorem rowPut_sz (l : List Row) (r : Row) : sz_RowS (rowPutF l r) ≤ sz_RowS l + 1 + sz_Row r := by
  have h1 := rowPut_len l r
  unfold sz_RowS
  have h2 : ((rowPutF l r).map sz_Row).sum ≤ (l.map sz_Row).sum + sz_Row r := by
    unfold rowPutF
    split
    · exact sum_set sz_Row_0 r l _
    · rw [sum_append, sum_append, sum_take_drop sz_Row l (l.findIdx (isGt r.Id))]
      simp
      omega
  omega
theorem mem_rowDrop {l : List Row} {id : Int} {x : Row} (h : x ∈ rowDropF l id) : x ∈ l := List.mem_of_mem_eraseIdx h
theorem mem_rowPut {l : List Row} {r x : Row} (h : x ∈ rowPutF l r) : x = r ∨ x ∈ l := by
  unfold rowPutF at h
  split at h
  · rcases List.mem_or_eq_of_mem_set h with h | h
    · exact .inr h
    · exact .inl h
  · rcases List.mem_append.1 h with h | h
    · rcases List.mem_append.1 h with h | h
      · exact .inr (List.mem_of_mem_take h)
      · exact .inl (List.mem_singleton.1 h)
    · exact .inr (List.mem_of_mem_drop h)
theorem rowDrop_b {l : List Row} (h : RowS_b l) (id : Int) : RowS_b (rowDropF l id) := ⟨by have := rowDrop_len l id; have := h.1; omega, fun x hx => h.2 x (mem_rowDrop hx)⟩
theorem rowPut_b {l : List Row} (h : RowS_b l) (hl : l.length < 9223372036854775807) {r : Row} (hr : Row_b r) : RowS_b (rowPutF l r) := ⟨by have := rowPut_len l r; omega, fun x hx => by
  rcases mem_rowPut hx with rfl | hx
  · exact hr
  · exact h.2 x hx⟩
theorem findIdx_take {α : Type} (p : α → Bool) (l : List α) {i : Nat} {x : α} (hx : l[i]? = some x) : (l.take (i + 1)).findIdx p = if (l.take i).findIdx p < i then (l.take i).findIdx p else if p x then i else i + 1 := by
  have hi := at_lt hx
  have hl : (l.take i).length = i := by rw [List.length_take]; omega
  rw [take_snoc hx, List.findIdx_append, hl]
  by_cases h : (l.take i).findIdx p < i
  · rw [if_pos h, if_pos h]
  · rw [if_neg h, if_neg h]
    cases hp : p x <;> simp [List.findIdx_cons, hp] <;> omega

def noChange : Change := ⟨0, false, false, ⟨0, []⟩, ⟨0, []⟩⟩
def noStore : Store := ⟨⟨[]⟩, 0, []⟩
def tableB (s : Schema) (t : Int) : Bool := decide (0 ≤ t ∧ t ≤ (s.Cols.length : Int) - 1)
def tableOf (s : Store) (t : Int) : List Row := s.Tables.getD t.toNat []
def setTable (s : Store) (t : Int) (rows : List Row) : Store := ⟨s.Schema, s.Version, s.Tables.set t.toNat rows⟩
theorem table_rows {s : Store} (hs : storeB s = true) {t : Nat} (ht : t < s.Tables.length) : rowsB s.Schema t (tableOf s t) = true := by
  unfold tableOf
  rw [Int.toNat_natCast, List.getD_eq_getElem?_getD, List.getElem?_eq_getElem ht, Option.getD_some]
  exact store_table hs (List.getElem?_eq_getElem ht)
theorem setTable_b {s : Store} (bs : Store_b s) (t : Int) {rows : List Row} (h : RowS_b rows) : Store_b (setTable s t rows) := by
  refine ⟨bs.1, by unfold setTable; simpa using bs.2.1, fun x hx => ?_⟩
  rcases List.mem_or_eq_of_mem_set hx with hx | rfl
  · exact bs.2.2 x hx
  · exact h
theorem setTable_sz (s : Store) (t : Int) (rows : List Row) : sz_Store (setTable s t rows) ≤ sz_Store s + sz_RowS rows := by
  unfold sz_Store sz_RowSS setTable
  have := sum_set sz_RowS_0 rows s.Tables t.toNat
  simp only [List.length_set]
  omega
theorem tableOf_b {s : Store} (bs : Store_b s) (t : Int) : RowS_b (tableOf s t) := by
  unfold tableOf
  rw [List.getD_eq_getElem?_getD]
  cases h : s.Tables[t.toNat]? with
  | none => exact ⟨by simp, by simp⟩
  | some x => exact bs.2.2 x (List.mem_of_getElem? h)
theorem tableOf_sz (s : Store) (t : Int) : sz_RowS (tableOf s t) ≤ sz_Store s := by
  unfold tableOf sz_Store sz_RowSS
  have p1 := sz_Schema_0 s.Schema
  have p2 := sum_nonneg sz_RowS_0 s.Tables
  rw [List.getD_eq_getElem?_getD]
  cases h : s.Tables[t.toNat]? with
  | none => simp [sz_RowS]; omega
  | some x => have := sum_mem sz_RowS_0 (List.mem_of_getElem? h); simp only [Option.getD_some]; omega
theorem row_getD {rows : List Row} (h : RowS_b rows) (i : Nat) : Row_b (rows.getD i ⟨0, []⟩) ∧ sz_Row (rows.getD i ⟨0, []⟩) ≤ sz_RowS rows := by
  rw [List.getD_eq_getElem?_getD]
  have p := sum_nonneg sz_Row_0 rows
  unfold sz_RowS
  cases hx : rows[i]? with
  | none => exact ⟨by simp [Row_b, IntS_b], by simp [sz_Row, sz_IntS]; omega⟩
  | some x => have := sum_mem sz_Row_0 (List.mem_of_getElem? hx); exact ⟨h.2 x (List.mem_of_getElem? hx), by simp only [Option.getD_some]; omega⟩
theorem noChange_b : Change_b noChange ∧ sz_Change noChange = 0 := ⟨⟨by simp [Row_b, IntS_b, noChange], by simp [Row_b, IntS_b, noChange]⟩, by simp [sz_Change, sz_Row, sz_IntS, noChange]⟩
theorem noStore_b : Store_b noStore ∧ sz_Store noStore = 0 := ⟨⟨by simp [Schema_b, IntS_b, noStore], by simp [noStore], by simp [noStore]⟩, by simp [sz_Store, sz_Schema, sz_IntS, sz_RowSS, noStore]⟩

theorem spec_StoreNew_eq (s : Schema) (hb : Schema_b s) (hz : sz_Schema s ≤ 1099511627776) : spec_StoreNew.f s = some (if schemaB s = true then (⟨s, 0, List.replicate s.Cols.length []⟩, true) else (noStore, false)) := by
  unfold spec_StoreNew.f
  rw [spec_SchemaOk_eq _ hb, Option.bind_some]
  cases hs : schemaB s with
  | false => rfl
  | true =>
    have := schema_len hs
    rw [show bo3 true false true = false from rfl, cond_false, if_pos rfl, spec_l7Schema_eq _ hz, Option.bind_some, lenI_eq, mkO_ok (by omega), Option.bind_some, Int.toNat_natCast]

/-- A schema that is not too great. -/
def SB (s : Schema) : Prop := s.Cols.length ≤ 6 ∧ ∀ x ∈ s.Cols, -1 ≤ x ∧ x ≤ 5
theorem SB.b {s : Schema} (h : SB s) : Schema_b s := by unfold Schema_b IntS_b; have := h.1; omega
theorem snoc_all {α : Type} {p : α → Prop} {l : List α} {x : α} (h : ∀ y ∈ l, p y) (hx : p x) : ∀ y ∈ l ++ [x], p y := fun y hy => by
  rcases List.mem_append.1 hy with hy | hy
  · exact h y hy
  · rw [List.mem_singleton.1 hy]; exact hx

theorem l6DrawSchema_l0 (a : l1Cur) : ∀ (k i : Nat) (ci h : Int) (l : List Int), CI a.b ci → l.length = i → i ≤ 3 → 4 ≤ i + k → (∀ x ∈ l, 1 ≤ x ∧ x ≤ 4) →
    ∃ ci' h' l', spec_l6DrawSchema.l0 a k ci h l i = some (l1Cur.mk a.b ci' h', Schema.mk l') ∧ CI a.b ci' ∧ (i < 1 ∨ 1 ≤ i) ∧ l'.length ≤ 3 ∧ i ≤ l'.length ∧ 1 ≤ l'.length ∧ ∀ x ∈ l', 1 ≤ x ∧ x ≤ 4 := by
  intro k
  induction k with
  | zero => intro i ci h l hc hl h1 h2; omega
  | succ k ih =>
    intro i ci h l hc hl h1 h2 hx
    obtain ⟨c1, h1', x1, e1, k1, l1, u1, _⟩ := l1Below_ok h 3 hc
    have hx3 := u1 (by omega)
    rw [spec_l6DrawSchema.l0, e1, Option.bind_some]
    dsimp only
    rw [w64_id (by omega)]
    by_cases c : (i : Int) < 1 + x1
    · obtain ⟨c2, h2', x2, e2, k2, l2, u2, _⟩ := l1Below_ok h1' 4 k1
      have hx4 := u2 (by omega)
      rw [decide_eq_true c, cond_true, e2, Option.bind_some]
      dsimp only
      rw [w64_id (by omega), Option.bind_some, appO_ok (by simp only [List.length_cons, List.length_nil]; omega), Option.bind_some, w64_succ (by omega)]
      obtain ⟨ci', h', l', q1, q2, q3, q4, q5, q6, q7⟩ := ih (i + 1) c2 h2' (l ++ [1 + x2]) k2 (by simp [hl]) (by omega) (by omega) (snoc_all hx (by omega))
      exact ⟨ci', h', l', q1, q2, by omega, q4, by omega, q6, q7⟩
    · rw [decide_eq_false c, cond_false]
      exact ⟨_, _, _, rfl, k1, by omega, by omega, by omega, by omega, hx⟩
theorem l6DrawSchema_ok {b : List Int} {i : Int} (h : Int) (hc : CI b i) : ∃ i' h' s, spec_l6DrawSchema.f (l1Cur.mk b i h) = some (l1Cur.mk b i' h', s) ∧ CI b i' ∧ s.Cols.length ≤ 3 ∧ 1 ≤ s.Cols.length ∧ ∀ x ∈ s.Cols, 1 ≤ x ∧ x ≤ 4 := by
  unfold spec_l6DrawSchema.f
  obtain ⟨ci', h', l', q1, q2, q3, q4, q5, q6, q7⟩ := l6DrawSchema_l0 (l1Cur.mk b i h) 1000 0 i h [] hc rfl (by omega) (by omega) (by simp)
  exact ⟨_, _, _, q1, q2, q4, q6, q7⟩

theorem spec_l6Copy_eq (r : Row) (h : sz_Row r ≤ 1099511627776) : spec_l6Copy.f r = some r := by
  have := row_len h
  unfold spec_l6Copy.f
  rw [appO_ok (by simp only [List.length_nil]; omega), Option.bind_some, List.nil_append]

theorem spec_RowAt_eq (l : List Row) (id : Int) (h : l.length ≤ 9223372036854775807) : spec_RowAt.f l id = some (rowAtF l id 0) := by
  have key : ∀ (k i : Nat), i ≤ l.length → l.length < i + k → spec_RowAt.l0 l id k i = some (rowAtF (l.drop i) id i) := by
    intro k
    induction k with
    | zero => intro i h h'; omega
    | succ k ih =>
      intro i h h'
      by_cases hi : i < l.length
      · have hx : l[i]? = some l[i] := List.getElem?_eq_getElem hi
        rw [spec_RowAt.l0, lenI_eq, decide_eq_true (by omega), cond_true, getO_nat, hx, Option.bind_some, List.drop_eq_getElem_cons hi, rowAtF, w64_succ (by omega)]
        by_cases e : (l[i]).Id = id
        · rw [decide_eq_true e, cond_true, if_pos e]
        · rw [decide_eq_false e, cond_false, if_neg e]
          exact ih (i + 1) (by omega) (by omega)
      · rw [spec_RowAt.l0, lenI_eq, decide_eq_false (by omega), cond_false, List.drop_eq_nil_of_le (by omega), rowAtF]
  have := key (((lenI l) - 0).toNat + 1) 0 (by omega) (by simp only [lenI_eq]; omega)
  rw [List.drop_zero] at this
  exact this

theorem spec_RowDrop_eq (l : List Row) (id : Int) (h : sz_RowS l ≤ 1099511627776) : spec_RowDrop.f l id = some (rowDropF l id) := by
  unfold sz_RowS at h
  have p := sum_nonneg sz_Row_0 l
  unfold spec_RowDrop.f
  rw [spec_RowAt_eq _ _ (by omega), Option.bind_some, rowAt_0]
  generalize hd : l.findIdx (isId id) = d
  have key : ∀ (k i : Nat), i ≤ l.length → l.length < i + k → spec_RowDrop.l0 l (idxI (isId id) l) k ((l.take i).eraseIdx d) i = some (rowDropF l id) := by
    intro k
    induction k with
    | zero => intro i h h'; omega
    | succ k ih =>
      intro i h0 h'
      by_cases hi : i < l.length
      · have hx : l[i]? = some l[i] := List.getElem?_eq_getElem hi
        have hm := sum_mem sz_Row_0 (List.mem_of_getElem? hx)
        have ht : (l.take i).length = i := by rw [List.length_take]; omega
        rw [spec_RowDrop.l0, lenI_eq, decide_eq_true (by omega), cond_true]
        have hs := ih (i + 1) (by omega) (by omega)
        rw [take_snoc hx] at hs
        by_cases e : d = i
        · have ei : idxI (isId id) l = (i : Int) := by rw [idxI_pos (by omega), hd, e]
          rw [ei] at hs ⊢
          rw [decide_eq_false (by omega), cond_false, w64_succ (by omega)]
          rw [e] at hs ⊢
          rw [List.eraseIdx_of_length_le (by omega)]
          rw [List.eraseIdx_append_of_length_le (by omega), ht] at hs
          simpa using hs
        · have ei : ¬ (i : Int) = idxI (isId id) l := by
            unfold idxI; split <;> omega
          rw [decide_eq_true ei, cond_true, getO_nat, hx, Option.bind_some, spec_l6Copy_eq _ (by omega), Option.bind_some, Option.bind_some, appO_ok (by
            have : ((l.take i).eraseIdx d).length ≤ i := by rw [List.length_eraseIdx]; split <;> omega
            simp only [List.length_cons, List.length_nil]; omega), Option.bind_some, w64_succ (by omega)]
          by_cases e2 : d < i
          · rw [List.eraseIdx_append_of_lt_length (by omega)] at hs
            exact hs
          · rw [List.eraseIdx_of_length_le (by simp; omega)] at hs
            rw [List.eraseIdx_of_length_le (by omega)]
            exact hs
      · rw [spec_RowDrop.l0, lenI_eq, decide_eq_false (by omega), cond_false, List.take_of_length_le (by omega), ← hd]
        rfl
  have := key (((lenI l) - 0).toNat + 1) 0 (by omega) (by simp only [lenI_eq]; omega)
  rw [List.take_zero, List.eraseIdx_nil] at this
  exact this

theorem spec_RowPut_l0 (r : Row) (l : List Row) (K : Int → Option (List Row)) (hl : l.length < 9223372036854775807) : ∀ (k i : Nat) (at_ : Int), i ≤ l.length → i < k → spec_RowPut.l0 r l K k at_ ((i : Int) - 1) = K (if (l.take i).findIdx (isGt r.Id) < i then ((l.take i).findIdx (isGt r.Id) : Int) else at_) := by
  intro k
  induction k with
  | zero => intro i at_ h h'; omega
  | succ k ih =>
    intro i at_ h h'
    cases i with
    | zero => rw [spec_RowPut.l0, decide_eq_false (by omega), cond_false, if_neg (by omega)]
    | succ i =>
      have hx : l[i]? = some l[i] := List.getElem?_eq_getElem (by omega)
      have e1 : ((i + 1 : Nat) : Int) - 1 = (i : Int) := by omega
      rw [spec_RowPut.l0, e1, decide_eq_true (by omega), cond_true, getO_nat, hx, Option.bind_some, w64_id (by omega), ih i _ (by omega) (by omega), ih i _ (by omega) (by omega), findIdx_take _ _ hx]
      by_cases c : (l.take i).findIdx (isGt r.Id) < i
      · simp only [if_pos c]
        rw [if_pos (by omega)]
        cases decide (r.Id < l[i].Id) <;> rfl
      · simp only [if_neg c]
        rw [isGt]
        cases hc : decide (r.Id < l[i].Id)
        · simp
        · simp
theorem spec_RowPut_eq (l : List Row) (r : Row) (h : sz_RowS l ≤ 1099511627776) (hr : sz_Row r ≤ 1099511627776) : spec_RowPut.f l r = some (rowPutF l r) := by
  have hz := rowDrop_sz l r.Id
  have hdl := rowDrop_len l r.Id
  have h' := h
  unfold sz_RowS at h'
  have p := sum_nonneg sz_Row_0 l
  have cut : ∀ (y : Nat), y ≤ (rowDropF l r.Id).length → ((cutO (rowDropF l r.Id) 0 (y : Int)).bind fun l17 => (appO 32 [] l17).bind fun l18 => (spec_l6Copy.f r).bind fun r19 => (some [r19]).bind fun l20 => (appO 32 l18 l20).bind fun l21 => (cutO (rowDropF l r.Id) (y : Int) (lenI (rowDropF l r.Id))).bind fun l22 => (appO 32 l21 l22).bind fun l23 => some l23) = some ((rowDropF l r.Id).take y ++ [r] ++ (rowDropF l r.Id).drop y) := by
    intro y hy
    rw [cutO_ok ⟨by omega, by omega, by omega⟩, Option.bind_some, appO_ok (by simp; omega), Option.bind_some, spec_l6Copy_eq _ hr, Option.bind_some, Option.bind_some, appO_ok (by simp; omega), Option.bind_some, lenI_eq, cutO_ok ⟨by omega, by omega, by omega⟩, Option.bind_some, appO_ok (by simp; omega), Option.bind_some]
    simp
  unfold spec_RowPut.f
  rw [spec_RowDrop_eq _ _ h, Option.bind_some]
  simp only [joinK]
  rw [spec_RowAt_eq _ _ (by omega), Option.bind_some, rowAt_0]
  unfold rowPutF
  by_cases c : l.findIdx (isId r.Id) < l.length
  · rw [if_pos c, idxI_pos c, decide_eq_true (by omega), cond_true, Option.bind_some]
    rw [cut _ (by unfold rowDropF; rw [List.length_eraseIdx]; split <;> omega)]
    rw [List.set_eq_take_append_cons_drop, if_pos c]
    unfold rowDropF
    rw [List.eraseIdx_eq_take_drop_succ]
    have hl : (l.take (l.findIdx (isId r.Id))).length = l.findIdx (isId r.Id) := by rw [List.length_take]; omega
    rw [List.take_left' hl, List.drop_left' hl]
    simp
  · have hd : rowDropF l r.Id = l := by unfold rowDropF; exact List.eraseIdx_of_length_le (by omega)
    rw [hd] at cut
    rw [if_neg c, idxI_neg c, decide_eq_false (by omega), cond_false, hd, lenI_eq, w64_id (by omega), spec_RowPut_l0 r l _ (by omega) _ _ _ (Nat.le_refl _) (by omega), List.take_length]
    have hle := List.findIdx_le_length (xs := l) (p := isGt r.Id)
    split
    · rw [lenI_eq] at cut
      exact cut _ hle
    · rename_i hn
      rw [lenI_eq] at cut
      have e : l.findIdx (isGt r.Id) = l.length := by omega
      rw [e]
      exact cut _ (Nat.le_refl _)

theorem l6DrawRow_l0 (a : l1Cur) (n : Int) (hn : n ≤ 5) (id : Int) : ∀ (k i : Nat) (ci h : Int) (l : List Int), CI a.b ci → l.length = i → (i : Int) ≤ n ∨ i = 0 → 0 < k → n < i + k → (∀ x ∈ l, 0 ≤ x ∧ x ≤ 5) →
    ∃ ci' h' l', spec_l6DrawRow.l0 a n k ci h id l i = some (l1Cur.mk a.b ci' h', Row.mk id l') ∧ CI a.b ci' ∧ ((l'.length : Int) = n ∨ n < 0 ∧ l'.length = 0) ∧ ∀ x ∈ l', 0 ≤ x ∧ x ≤ 5 := by
  intro k
  induction k with
  | zero => intro i ci h l hc hl h0 h1 h2; omega
  | succ k ih =>
    intro i ci h l hc hl h0 h1 h2 hx
    rw [spec_l6DrawRow.l0]
    by_cases c : (i : Int) < n
    · obtain ⟨c2, h2', x2, e2, k2, l2, u2, _⟩ := l1Below_ok h 6 hc
      have hx4 := u2 (by omega)
      rw [decide_eq_true c, cond_true, e2, Option.bind_some]
      dsimp only
      rw [Option.bind_some, appO_ok (by simp only [List.length_cons, List.length_nil]; omega), Option.bind_some, w64_succ (by omega)]
      exact ih (i + 1) c2 h2' (l ++ [x2]) k2 (by simp [hl]) (by omega) (by omega) (by omega) (snoc_all hx (by omega))
    · rw [decide_eq_false c, cond_false]
      exact ⟨_, _, _, rfl, hc, by omega, hx⟩
theorem l6DrawRow_ok {b : List Int} {i : Int} (h : Int) (n : Int) (hn : n ≤ 5) (hc : CI b i) : ∃ i' h' r, spec_l6DrawRow.f (l1Cur.mk b i h) n = some (l1Cur.mk b i' h', r) ∧ CI b i' ∧ 1 ≤ r.Id ∧ r.Id ≤ 12 ∧ ((r.Cells.length : Int) = n ∨ n < 0 ∧ r.Cells.length = 0) ∧ ∀ x ∈ r.Cells, 0 ≤ x ∧ x ≤ 5 := by
  unfold spec_l6DrawRow.f
  obtain ⟨i1, h1, x1, e1, k1, l1, u1, _⟩ := l1Below_ok h 12 hc
  have := u1 (by omega)
  rw [e1, Option.bind_some]
  dsimp only
  rw [w64_id (by omega)]
  obtain ⟨ci', h', l', q1, q2, q3, q4⟩ := l6DrawRow_l0 (l1Cur.mk b i h) n hn (1 + x1) ((n - 0).toNat + 1) 0 i1 h1 [] k1 rfl (by omega) (by omega) (by omega) (by simp)
  exact ⟨_, _, _, q1, q2, by dsimp only; omega, by dsimp only; omega, q3, q4⟩

def sz_Mut (x : Mut) : Int := sz_Row x.Row
def Mut_b (x : Mut) : Prop := Row_b x.Row
theorem sz_Mut_0 (x : Mut) : 0 ≤ sz_Mut x := by unfold sz_Mut; exact by have := sz_Row_0 x.Row;  omega
def Mut_r (x : Mut) : Prop := (-9223372036854775808 ≤ x.Kind ∧ x.Kind ≤ 9223372036854775807) ∧ (-9223372036854775808 ≤ x.Table ∧ x.Table ≤ 9223372036854775807) ∧ Row_r x.Row
def mutB (s : Schema) (m : Mut) : Bool :=
  bif decide (m.Kind = 3) then schemaB s && tableB s m.Table && decide (1 ≤ m.Row.Id ∧ m.Row.Id ≤ 999) && decide (m.Row.Cells.length = 0)
  else decide (1 ≤ m.Kind ∧ m.Kind ≤ 2) && rowB s m.Table m.Row
def mutStep (s : Store) (m : Mut) : Store × Change × Bool :=
  let rows := tableOf s m.Table
  let i := rows.findIdx (isId m.Row.Id)
  if (decide (i < rows.length) == decide (m.Kind = 1)) = true ∨ m.Kind = 1 ∧ rows.length = 24 then (s, noChange, false)
  else (setTable s m.Table (if m.Kind = 3 then rowDropF rows m.Row.Id else rowPutF rows m.Row), ⟨m.Table, decide (m.Kind ≠ 1), decide (m.Kind ≠ 3), if m.Kind = 1 then ⟨0, []⟩ else rows.getD i ⟨0, []⟩, if m.Kind = 3 then ⟨0, []⟩ else m.Row⟩, true)
def mutDoF (s : Store) (m : Mut) : Store × Change × Bool := if storeB s = true then (if mutB s.Schema m = true then mutStep s m else (s, noChange, false)) else (noStore, noChange, false)
theorem mut_table {s : Store} {m : Mut} (hs : storeB s = true) (hm : mutB s.Schema m = true) : 0 ≤ m.Table ∧ m.Table.toNat < s.Tables.length ∧ (m.Kind = 1 ∨ m.Kind = 2 ∨ m.Kind = 3) := by
  have hl := (store_len hs).1
  have h : (0 ≤ m.Table ∧ m.Table ≤ (s.Schema.Cols.length : Int) - 1) ∧ (m.Kind = 1 ∨ m.Kind = 2 ∨ m.Kind = 3) := by
    unfold mutB at hm
    by_cases e : m.Kind = 3
    · rw [decide_eq_true e, cond_true] at hm
      simp only [Bool.and_eq_true] at hm
      exact ⟨of_decide_eq_true hm.1.1.2, .inr (.inr e)⟩
    · rw [decide_eq_false e, cond_false] at hm
      unfold rowB at hm
      simp only [Bool.and_eq_true, decide_eq_true_eq] at hm
      exact ⟨hm.2.1.1.1.2, by omega⟩
  exact ⟨h.1.1, by omega, h.2⟩

theorem mutDo_b (s : Store) (m : Mut) (bs : Store_b s) (bm : Mut_b m) : Store_b (mutDoF s m).1 ∧ sz_Store (mutDoF s m).1 ≤ 2 * sz_Store s + sz_Mut m + 1 ∧ Change_b (mutDoF s m).2.1 ∧ sz_Change (mutDoF s m).2.1 ≤ sz_Store s + sz_Mut m := by
  have q1 := sz_Store_0 s
  have q2 := sz_Mut_0 m
  have z1 := noChange_b
  have z2 := noStore_b
  unfold mutDoF
  by_cases hs : storeB s = true
  · rw [if_pos hs]
    by_cases hm : mutB s.Schema m = true
    · rw [if_pos hm]
      unfold mutStep
      dsimp only
      have tb := tableOf_b bs m.Table
      have tz := tableOf_sz s m.Table
      have bm' : Row_b m.Row := bm
      have hm1 : sz_Mut m = sz_Row m.Row := rfl
      split
      · exact ⟨bs, by dsimp only; omega, z1.1, by rw [z1.2]; omega⟩
      · dsimp only
        have rl : (tableOf s m.Table).length ≤ 24 := by
          obtain ⟨h0, h1, _⟩ := mut_table hs hm
          have := table_rows hs h1
          rw [Int.toNat_of_nonneg h0] at this
          exact rows_len this
        have rb : RowS_b (if m.Kind = 3 then rowDropF (tableOf s m.Table) m.Row.Id else rowPutF (tableOf s m.Table) m.Row) := by
          split
          · exact rowDrop_b tb _
          · exact rowPut_b tb (by omega) bm'
        have rz : sz_RowS (if m.Kind = 3 then rowDropF (tableOf s m.Table) m.Row.Id else rowPutF (tableOf s m.Table) m.Row) ≤ sz_Store s + 1 + sz_Mut m := by
          split
          · have := rowDrop_sz (tableOf s m.Table) m.Row.Id; omega
          · have := rowPut_sz (tableOf s m.Table) m.Row; omega
        have zz := setTable_sz s m.Table (if m.Kind = 3 then rowDropF (tableOf s m.Table) m.Row.Id else rowPutF (tableOf s m.Table) m.Row)
        obtain ⟨gb, gz⟩ := row_getD tb ((tableOf s m.Table).findIdx (isId m.Row.Id))
        have g0 := sz_Row_0 m.Row
        have nb : Row_b ⟨0, []⟩ ∧ sz_Row ⟨0, []⟩ = 0 := ⟨by simp [Row_b, IntS_b], by simp [sz_Row, sz_IntS]⟩
        refine ⟨setTable_b bs _ rb, by omega, ⟨?_, ?_⟩, ?_⟩
        · dsimp only; split
          · exact nb.1
          · exact gb
        · dsimp only; split
          · exact nb.1
          · exact bm'
        · unfold sz_Change
          dsimp only
          by_cases k1 : m.Kind = 1
          · rw [if_pos k1, if_neg (show ¬ m.Kind = 3 by omega), nb.2]; omega
          · rw [if_neg k1]
            split <;> omega
    · rw [if_neg hm]
      exact ⟨bs, by dsimp only; omega, z1.1, by dsimp only; rw [z1.2]; omega⟩
  · rw [if_neg hs]
    exact ⟨z2.1, by dsimp only; rw [z2.2]; omega, z1.1, by dsimp only; rw [z1.2]; omega⟩

theorem rowS_of_sz {l : List Row} (h : sz_RowS l ≤ 9223372036854775807) : RowS_b l := by
  unfold sz_RowS at h
  have p := sum_nonneg sz_Row_0 l
  exact ⟨by omega, fun x hx => by
    have := sum_mem sz_Row_0 hx
    have h2 : sz_Row x ≤ 9223372036854775807 := by omega
    unfold sz_Row sz_IntS at h2
    unfold Row_b IntS_b
    omega⟩
theorem store_of_sz {s : Store} (h : sz_Store s ≤ 9223372036854775807) : Store_b s := by
  unfold sz_Store sz_RowSS at h
  have p1 := sz_Schema_0 s.Schema
  have p2 := sum_nonneg sz_RowS_0 s.Tables
  refine ⟨?_, by omega, fun x hx => rowS_of_sz (by have := sum_mem sz_RowS_0 hx; omega)⟩
  have h2 : sz_Schema s.Schema ≤ 9223372036854775807 := by omega
  unfold sz_Schema sz_IntS at h2
  unfold Schema_b IntS_b
  omega
theorem sum_le {α : Type} {s : α → Int} {B : Int} : ∀ {l : List α}, (∀ x ∈ l, s x ≤ B) → (l.map s).sum ≤ l.length * B
  | [], _ => by simp
  | x :: l, h => by
    have h1 := h x (List.mem_cons_self ..)
    have h2 := sum_le (l := l) fun y hy => h y (List.mem_cons_of_mem _ hy)
    simp only [List.map_cons, List.sum_cons, List.length_cons]
    rw [show ((l.length + 1 : Nat) : Int) * B = l.length * B + B by rw [Int.natCast_add, Int.add_mul]; simp]
    omega
theorem rowB_sz {s : Schema} {t : Int} {r : Row} (h : rowB s t r = true) : sz_Row r ≤ 4 := by
  have hc := row_cells h
  unfold rowB at h
  simp only [Bool.and_eq_true, decide_eq_true_eq] at h
  obtain ⟨⟨⟨⟨hs, ht⟩, _⟩, _⟩, _⟩ := h
  unfold schemaB at hs
  rw [Bool.and_eq_true, List.all_eq_true] at hs
  have hlt : t.toNat < s.Cols.length := by omega
  have := of_decide_eq_true (hs.1 _ (List.getElem_mem hlt))
  rw [List.getD_eq_getElem?_getD, List.getElem?_eq_getElem hlt, Option.getD_some] at hc
  unfold sz_Row sz_IntS
  omega
theorem rowsB_sz {s : Schema} {t : Int} {rows : List Row} (h : rowsB s t rows = true) : sz_RowS rows ≤ 120 := by
  have hl := rows_len h
  have := sum_le (s := sz_Row) (B := 4) (l := rows) fun x hx => by
    obtain ⟨i, hi⟩ := List.getElem?_of_mem hx
    exact rowB_sz (rows_row h hi)
  unfold sz_RowS
  omega
theorem store_small {s : Store} (h : storeB s = true) : Store_b s ∧ sz_Store s ≤ 1000 := by
  have hz : sz_Store s ≤ 1000 := by
    obtain ⟨hl, hs⟩ := store_len h
    have h3 := schema_len hs
    have := sum_le (s := sz_RowS) (B := 120) (l := s.Tables) fun x hx => by
      obtain ⟨i, hi⟩ := List.getElem?_of_mem hx
      exact rowsB_sz (store_table h hi)
    unfold sz_Store sz_RowSS sz_Schema sz_IntS
    omega
  exact ⟨store_of_sz (by omega), hz⟩

def sz_MutS (l : List Mut) : Int := l.length + (l.map sz_Mut).sum
def MutS_b (l : List Mut) : Prop := l.length ≤ 9223372036854775807 ∧ ∀ x ∈ l, Mut_b x
theorem sz_MutS_0 (l : List Mut) : 0 ≤ sz_MutS l := by have := sum_nonneg sz_Mut_0 l; unfold sz_MutS; omega
def MutS_r (l : List Mut) : Prop := ∀ x ∈ l, Mut_r x
def runMuts : Store → List Change → List Mut → Option (Store × List Change)
  | s, acc, [] => some (s, acc)
  | s, acc, m :: l => if (mutDoF s m).2.2 = true then runMuts (mutDoF s m).1 (acc ++ [(mutDoF s m).2.1]) l else none
def batchF (s : Store) (l : List Mut) : Store × List Change × Bool :=
  if storeB s = true then (if (1 ≤ (l.length : Int) ∧ (l.length : Int) ≤ 5) ∧ s.Version ≠ 100000 then (match runMuts s [] l with
    | some (t, cs) => (⟨t.Schema, s.Version + 1, t.Tables⟩, cs, true)
    | none => (s, [], false)) else (s, [], false)) else (noStore, [], false)
theorem mutDo_ok {s : Store} {m : Mut} (h : (mutDoF s m).2.2 = true) : storeB s = true ∧ mutB s.Schema m = true ∧ mutDoF s m = mutStep s m ∧ (mutDoF s m).1.Version = s.Version ∧ (mutDoF s m).1.Schema = s.Schema := by
  unfold mutDoF at *
  by_cases hs : storeB s = true
  · rw [if_pos hs] at *
    by_cases hm : mutB s.Schema m = true
    · rw [if_pos hm] at *
      refine ⟨hs, hm, rfl, ?_⟩
      unfold mutStep at *
      dsimp only at *
      split at h
      · simp at h
      · rename_i c
        rw [if_neg c]
        exact ⟨rfl, rfl⟩
    · rw [if_neg hm] at h
      simp at h
  · rw [if_neg hs] at h
    simp at h
/-- What a batch's way holds: bounded, of the first store's version. -/
def BInv (v : Int) (s : Store) (acc : List Change) (n : Nat) : Prop := Store_b s ∧ sz_Store s ≤ 4000000 ∧ s.Version = v ∧ acc.length = n ∧ sz_ChangeS acc ≤ n * 6000000 ∧ ChangeS_b acc
theorem BInv.step {v : Int} {s : Store} {acc : List Change} {n : Nat} (h : BInv v s acc n) {m : Mut} (bm : Mut_b m) (hz : sz_Mut m ≤ 1048576) (hn : n < 100000) (hok : (mutDoF s m).2.2 = true) : BInv v (mutDoF s m).1 (acc ++ [(mutDoF s m).2.1]) (n + 1) := by
  obtain ⟨h1, h2, h3, h4, h5, h6⟩ := h
  obtain ⟨k1, k2, k3, k4, k5⟩ := mutDo_ok hok
  obtain ⟨b1, b2, b3, b4⟩ := mutDo_b s m h1 bm
  have sm := (store_small k1).2
  refine ⟨b1, by omega, k4.trans h3, by simp [h4], ?_, ⟨by simp; omega, fun x hx => ?_⟩⟩
  · unfold sz_ChangeS at *
    rw [sum_append]
    simp only [List.length_append, List.length_cons, List.length_nil, List.map_cons, List.map_nil, List.sum_cons, List.sum_nil]
    rw [show ((n + 1 : Nat) : Int) * 6000000 = n * 6000000 + 6000000 by omega]
    omega
  · rcases List.mem_append.1 hx with hx | hx
    · exact h6.2 x hx
    · rw [List.mem_singleton.1 hx]; exact b3
theorem runMuts_inv {v : Int} : ∀ {l : List Mut} {s : Store} {acc : List Change} {n : Nat} {t : Store} {cs : List Change}, BInv v s acc n → (∀ m ∈ l, Mut_b m ∧ sz_Mut m ≤ 1048576) → n + l.length < 100000 → runMuts s acc l = some (t, cs) → BInv v t cs (n + l.length)
  | [], s, acc, n, t, cs, h, _, _, he => by
    rw [runMuts] at he
    cases he
    exact h
  | m :: l, s, acc, n, t, cs, h, hm, hn, he => by
    rw [runMuts] at he
    split at he
    · rename_i hok
      have hl : n + (m :: l).length = n + 1 + l.length := by simp only [List.length_cons]; omega
      rw [hl]
      have hn' : n + 1 + l.length < 100000 := by rw [← hl]; exact hn
      exact runMuts_inv (h.step (hm m (List.mem_cons_self ..)).1 (hm m (List.mem_cons_self ..)).2 (by omega) hok) (fun x hx => hm x (List.mem_cons_of_mem _ hx)) hn' he
    · cases he

theorem row_eq (a b : Row) : decide (a = b) = (decide (a.Id = b.Id) && decide (a.Cells = b.Cells)) := by
  cases a; cases b
  rw [Bool.eq_iff_iff]
  simp

def zeroB (r : Row) : Bool := decide (r.Id = 0) && decide (r.Cells.length = 0)
def hasId (rows : List Row) (id : Int) : Bool := decide (rows.findIdx (isId id) < rows.length)
def thereB (rows : List Row) (r : Row) : Bool := decide (rows[rows.findIdx (isId r.Id)]? = some r)
/-- The rows behind a change, if it can be made. -/
def turnRows (rows : List Row) (c : Change) : List Row := let r1 := if c.Had = true then rowDropF rows c.Old.Id else rows; if c.Has = true then rowPutF r1 c.New else r1
def turnB (s : Store) (c : Change) : Bool :=
  tableB s.Schema c.Table && (!c.Had || thereB (tableOf s c.Table) c.Old) && (!c.Has || !hasId (if c.Had = true then rowDropF (tableOf s c.Table) c.Old.Id else tableOf s c.Table) c.New.Id)
def turnF (s : Store) (c : Change) : Store := setTable s c.Table (turnRows (tableOf s c.Table) c)
def fitsB (c : Change) : Bool := (c.Had || c.Has) && (c.Had || zeroB c.Old) && (c.Has || zeroB c.New)
def stepB (s : Store) (c : Change) : Bool := fitsB c && turnB s c && storeB (turnF s c)
def runCh : Store → List Change → Option Store
  | s, [] => some s
  | s, c :: l => if stepB s c = true then runCh (turnF s c) l else none
def forwardF (s : Store) (l : List Change) : Store × Bool :=
  if storeB s = true ∧ (1 ≤ (l.length : Int) ∧ (l.length : Int) ≤ 5) ∧ s.Version ≠ 100000 then (match runCh s l with
    | some t => (⟨t.Schema, s.Version + 1, t.Tables⟩, true)
    | none => (noStore, false)) else (noStore, false)
theorem storeB_version {s : Store} (v : Int) (h : storeB s = true) : storeB ⟨s.Schema, v, s.Tables⟩ = decide (0 ≤ v ∧ v ≤ 100000) := by
  unfold storeB at *
  simp only [Bool.and_eq_true] at h
  obtain ⟨⟨⟨h1, h2⟩, h3⟩, h4⟩ := h
  simp only [h1, h3, h4, Bool.true_and, Bool.and_true]
theorem store_v {s : Store} (h : storeB s = true) : 0 ≤ s.Version ∧ s.Version ≤ 100000 := by
  unfold storeB at h
  simp only [Bool.and_eq_true, decide_eq_true_eq] at h
  exact h.1.1.2
theorem tableB_iff {s : Store} (hs : storeB s = true) {t : Int} : tableB s.Schema t = true ↔ 0 ≤ t ∧ t.toNat < s.Tables.length := by
  have := (store_len hs).1
  unfold tableB
  rw [decide_eq_true_eq]
  omega
theorem table_get {s : Store} {t : Int} (h : t.toNat < s.Tables.length) : s.Tables[t.toNat]? = some (tableOf s t) := by unfold tableOf; rw [List.getD_eq_getElem?_getD, List.getElem?_eq_getElem h]; rfl
theorem findIdx_isId {rows : List Row} {id : Int} (h : rows.findIdx (isId id) < rows.length) : (rows[rows.findIdx (isId id)]).Id = id := by
  have := List.findIdx_getElem (w := h)
  exact of_decide_eq_true this
theorem there_has {rows : List Row} {r : Row} (h : thereB rows r = true) : rows.findIdx (isId r.Id) < rows.length ∧ r ∈ rows := by
  unfold thereB at h
  rw [decide_eq_true_eq] at h
  exact ⟨at_lt h, List.mem_of_getElem? h⟩
theorem turn_b {s : Store} (hs : storeB s = true) {c : Change} (hc : sz_Change c ≤ 1048576) : Store_b (turnF s c) ∧ sz_Store (turnF s c) ≤ 2000000 ∧ (turnF s c).Version = s.Version ∧ (turnF s c).Schema = s.Schema := by
  obtain ⟨hb, hz⟩ := store_small hs
  have hz1 := tableOf_sz s c.Table
  have z2 := setTable_sz s c.Table (turnRows (tableOf s c.Table) c)
  have z3 : sz_RowS (turnRows (tableOf s c.Table) c) ≤ 1000 + 1 + 1048576 := by
    have n1 := sz_Row_0 c.Old
    have n2 := sz_Row_0 c.New
    unfold sz_Change at hc
    unfold turnRows
    dsimp only
    have d := rowDrop_sz (tableOf s c.Table) c.Old.Id
    split
    · split
      · have := rowPut_sz (rowDropF (tableOf s c.Table) c.Old.Id) c.New; omega
      · have := rowPut_sz (tableOf s c.Table) c.New; omega
    · split <;> omega
  unfold turnF
  have hq : sz_Store (setTable s c.Table (turnRows (tableOf s c.Table) c)) ≤ 2000000 := by omega
  exact ⟨store_of_sz (by omega), hq, rfl, rfl⟩
theorem idx_RowAt {rows : List Row} {id : Int} : decide (0 ≤ idxI (isId id) rows) = hasId rows id := decide_eq_decide.2 idxI_nn
theorem mem_set_self {α : Type} {l : List α} {i : Nat} {x : α} (h : i < l.length) : (l.set i x)[i]? = some x := by rw [List.getElem?_set_self h]
theorem put_mem (l : List Row) (r : Row) : r ∈ rowPutF l r := by
  unfold rowPutF
  split
  · rename_i h; exact List.mem_of_getElem? (mem_set_self h)
  · simp
/-- If the store behind is right, so is the row that came. -/
theorem turn_row {s : Store} (hs : storeB s = true) {c : Change} (ht : tableB s.Schema c.Table = true) (h : storeB (turnF s c) = true) (hh : c.Has = true) : rowB s.Schema c.Table c.New = true := by
  obtain ⟨h0, h1⟩ := (tableB_iff hs).1 ht
  have hg : (turnF s c).Tables[c.Table.toNat]? = some (turnRows (tableOf s c.Table) c) := mem_set_self h1
  have hr := store_table h hg
  have hm : c.New ∈ turnRows (tableOf s c.Table) c := by
    unfold turnRows
    dsimp only
    rw [if_pos hh]
    exact put_mem _ _
  obtain ⟨i, hi⟩ := List.getElem?_of_mem hm
  have := rows_row hr hi
  rw [Int.toNat_of_nonneg h0] at this
  exact this
theorem there_row {s : Store} (hs : storeB s = true) {t : Int} (ht : tableB s.Schema t = true) {r : Row} (h : thereB (tableOf s t) r = true) : rowB s.Schema t r = true := by
  obtain ⟨h0, h1⟩ := (tableB_iff hs).1 ht
  have hr := table_rows hs h1
  rw [Int.toNat_of_nonneg h0] at hr
  obtain ⟨i, hi⟩ := List.getElem?_of_mem (there_has h).2
  exact rows_row hr hi

/-- Rows in order of their Ids. -/
def UpR (l : List Row) : Prop := l.Pairwise fun a b => a.Id < b.Id
theorem UpR_ids {l : List Row} : UpR l ↔ (l.map Row.Id).Pairwise (· < ·) := by
  unfold UpR; rw [List.pairwise_map]
theorem up_find {l : List Row} {i : Nat} {x : Row} (p : Row → Bool) (hx : l[i]? = some x) (h : p x = true) : l.findIdx p ≤ i := by
  rcases Nat.lt_or_ge i (l.findIdx p) with hlt | hge
  · have := List.not_of_lt_findIdx hlt
    have e := (List.getElem?_eq_some_iff.1 hx).2
    rw [e, h] at this
    cases this
  · exact hge
theorem up_put {l : List Row} (h : UpR l) (r : Row) : UpR (rowPutF l r) := by
  unfold rowPutF
  split
  · rename_i hi
    rw [UpR_ids, List.map_set]
    have e := findIdx_isId hi
    generalize l.findIdx (isId r.Id) = k at hi e
    have hl : k < (l.map Row.Id).length := by rw [List.length_map]; exact hi
    have e2 : (l.map Row.Id)[k] = r.Id := by rw [List.getElem_map]; exact e
    rw [← e2, List.set_getElem_self]
    exact UpR_ids.1 h
  · rename_i hi
    have hle := List.findIdx_le_length (xs := l) (p := isGt r.Id)
    have hne : ∀ x ∈ l, x.Id ≠ r.Id := fun x hx e => by
      obtain ⟨i, hi'⟩ := List.getElem?_of_mem hx
      have := up_find (isId r.Id) hi' (by unfold isId; exact decide_eq_true e)
      have := at_lt hi'
      omega
    have h1 : ∀ x ∈ l.take (l.findIdx (isGt r.Id)), x.Id < r.Id := fun x hx => by
      obtain ⟨i, hi'⟩ := List.getElem?_of_mem hx
      rw [List.getElem?_take] at hi'
      split at hi'
      · rename_i hlt
        have := List.not_of_lt_findIdx hlt
        rw [(List.getElem?_eq_some_iff.1 hi').2] at this
        have := of_decide_eq_false this
        have := hne x (List.mem_of_getElem? hi')
        omega
      · cases hi'
    have h2 : ∀ x ∈ l.drop (l.findIdx (isGt r.Id)), r.Id < x.Id := fun x hx => by
      obtain ⟨i, hi'⟩ := List.getElem?_of_mem hx
      rw [List.getElem?_drop] at hi'
      have hlt := at_lt hi'
      have hk : l.findIdx (isGt r.Id) < l.length := by omega
      have hg : r.Id < (l[l.findIdx (isGt r.Id)]).Id := of_decide_eq_true (List.findIdx_getElem (w := hk))
      rcases Nat.eq_zero_or_pos i with rfl | hp
      · have e := (List.getElem?_eq_some_iff.1 hi').2
        rw [← e]; simpa using hg
      · have := List.pairwise_iff_getElem.1 h (l.findIdx (isGt r.Id)) (l.findIdx (isGt r.Id) + i) hk hlt (by omega)
        rw [(List.getElem?_eq_some_iff.1 hi').2] at this
        omega
    unfold UpR at *
    rw [List.append_assoc, List.pairwise_append, List.pairwise_append]
    refine ⟨h.sublist (List.take_sublist _ _), ⟨List.pairwise_singleton _ _, h.sublist (List.drop_sublist _ _), fun a ha b hb => ?_⟩, fun a ha b hb => ?_⟩
    · rw [List.mem_singleton.1 ha]; exact h2 b hb
    · rcases List.mem_append.1 hb with hb | hb
      · rw [List.mem_singleton.1 hb]; exact h1 a ha
      · have := h1 a ha; have := h2 b hb; omega
/-- A drawn row, drawn rows. -/
def DRw (n : Int) (r : Row) : Prop := 1 ≤ r.Id ∧ r.Id ≤ 12 ∧ (r.Cells.length : Int) = n ∧ ∀ x ∈ r.Cells, 0 ≤ x ∧ x ≤ 5
def DRs (n : Int) (l : List Row) : Prop := UpR l ∧ ∀ r ∈ l, DRw n r
theorem DRs.put {n : Int} {l : List Row} (h : DRs n l) {r : Row} (hr : DRw n r) : DRs n (rowPutF l r) := ⟨up_put h.1 r, fun x hx => by
  rcases mem_rowPut hx with rfl | hx
  · exact hr
  · exact h.2 x hx⟩
theorem DRs.sz {n : Int} {l : List Row} (hn : n ≤ 5) (h : DRs n l) {k : Nat} (hk : l.length ≤ k) : sz_RowS l ≤ k * 6 := by
  have := sum_le (s := sz_Row) (B := 5) (l := l) fun x hx => by
    have := (h.2 x hx).2.2.1
    unfold sz_Row sz_IntS; omega
  unfold sz_RowS; omega
theorem DRw.sz {n : Int} {r : Row} (hn : n ≤ 5) (h : DRw n r) : sz_Row r ≤ 5 := by
  have := h.2.2.1
  unfold sz_Row sz_IntS; omega
theorem up_rowsB {s : Schema} {t : Int} {l : List Row} (hs : schemaB s = true) (ht : 0 ≤ t ∧ t ≤ (s.Cols.length : Int) - 1) (hl : l.length ≤ 24) (hu : UpR l) (hr : ∀ r ∈ l, rowB s t r = true) : rowsB s t l = true := by
  unfold rowsB
  rw [hs, decide_eq_true ht, decide_eq_true hl]
  simp only [Bool.and_true]
  rw [allFrom_iff]
  intro i x hx
  rw [hr x (List.mem_of_getElem? hx), Bool.true_and, Bool.not_eq_true', ← Bool.not_eq_true]
  intro h
  simp only [Bool.and_eq_true, decide_eq_true_eq] at h
  obtain ⟨h0, h1⟩ := h
  have hlt := at_lt hx
  have := List.pairwise_iff_getElem.1 hu (i - 1) i (by omega) hlt (by omega)
  rw [(List.getElem?_eq_some_iff.1 hx).2] at this
  rw [List.getD_eq_getElem?_getD, List.getElem?_eq_getElem (by omega), Option.getD_some] at h1
  omega
theorem DRw.rowB {s : Schema} {t : Nat} {r : Row} (hs : schemaB s = true) (ht : t < s.Cols.length) (h : DRw (s.Cols.getD t 0) r) : rowB s t r = true := by
  unfold Go.Proofs.Ytblacmggjfinhaa.L.rowB
  rw [hs, decide_eq_true (by omega), decide_eq_true (by have := h.1; have := h.2.1; omega), decide_eq_true (by rw [Int.toNat_natCast]; exact h.2.2.1)]
  simp only [Bool.true_and]
  rw [List.all_eq_true]
  intro x hx
  exact decide_eq_true (by have := h.2.2.2 x hx; omega)
/-- A store as drawn. -/
structure DSt (s : Store) : Prop where
  ok : storeB s = true
  v : 0 ≤ s.Version ∧ s.Version ≤ 4
  rows : ∀ t rows, s.Tables[t]? = some rows → rows.length ≤ 8 ∧ DRs (s.Schema.Cols.getD t 0) rows
theorem schema_SB {s : Schema} (h : schemaB s = true) : SB s := by
  unfold schemaB at h
  rw [Bool.and_eq_true, List.all_eq_true, decide_eq_true_eq] at h
  exact ⟨by omega, fun x hx => by have := of_decide_eq_true (h.1 x hx); omega⟩
theorem DSt.SB {s : Store} (h : DSt s) : SB s.Schema := schema_SB (store_len h.ok).2

theorem l6DrawRows_l0 (a : l1Cur) (n : Int) (hn : 0 ≤ n ∧ n ≤ 5) : ∀ (k i : Nat) (ci h : Int) (l : List Row), CI a.b ci → l.length ≤ i → i ≤ 8 → 9 ≤ i + k → DRs n l →
    ∃ ci' h' l', spec_l6DrawRows.l0 a n k ci h l i = some (l1Cur.mk a.b ci' h', l') ∧ CI a.b ci' ∧ l'.length ≤ 8 ∧ DRs n l' := by
  intro k
  induction k with
  | zero => intro i ci h l hc hl h1 h2; omega
  | succ k ih =>
    intro i ci h l hc hl h1 h2 hd
    obtain ⟨c1, h1', x1, e1, k1, l1, u1, _⟩ := l1Below_ok h 9 hc
    have hx3 := u1 (by omega)
    rw [spec_l6DrawRows.l0, e1, Option.bind_some]
    dsimp only
    by_cases c : (i : Int) < x1
    · obtain ⟨c2, h2', r, e2, k2, r1, r2, r3, r4⟩ := l6DrawRow_ok h1' n hn.2 k1
      have hr : DRw n r := ⟨r1, r2, by omega, r4⟩
      have := hd.sz hn.2 (k := 8) (by omega)
      have := hr.sz hn.2
      rw [decide_eq_true c, cond_true, e2, Option.bind_some]
      dsimp only
      rw [spec_RowPut_eq _ _ (by omega) (by omega), Option.bind_some, w64_succ (by omega)]
      have := rowPut_len l r
      exact ih (i + 1) c2 h2' _ k2 (by omega) (by omega) (by omega) (hd.put hr)
    · rw [decide_eq_false c, cond_false]
      exact ⟨_, _, _, rfl, k1, by omega, hd⟩
theorem l6DrawRows_ok {b : List Int} {i : Int} (h : Int) (n : Int) (hn : 0 ≤ n ∧ n ≤ 5) (hc : CI b i) : ∃ i' h' l, spec_l6DrawRows.f (l1Cur.mk b i h) n = some (l1Cur.mk b i' h', l) ∧ CI b i' ∧ l.length ≤ 8 ∧ DRs n l := by
  unfold spec_l6DrawRows.f
  exact l6DrawRows_l0 (l1Cur.mk b i h) n hn 1000 0 i h [] hc (by simp) (by omega) (by omega) ⟨List.Pairwise.nil, by simp⟩

theorem l7DrawRight_l0 (a : l1Cur) (s : Schema) (v : Int) (ts : List (List Row)) (ok : Bool) (hs : schemaB s = true) : ∀ (k i : Nat) (ci h : Int) (l : List (List Row)), CI a.b ci → l.length = s.Cols.length → i ≤ l.length → l.length < i + k → (∀ t rows, t < i → l[t]? = some rows → rows.length ≤ 8 ∧ DRs (s.Cols.getD t 0) rows) →
    ∃ ci' h' l', (∀ K, spec_l7DrawRight.l0 a (⟨s, v, ts⟩, ok) K k ci h l i = K ci' h' l') ∧ CI a.b ci' ∧ l'.length = s.Cols.length ∧ ∀ t rows, l'[t]? = some rows → rows.length ≤ 8 ∧ DRs (s.Cols.getD t 0) rows := by
  intro k
  induction k with
  | zero => intro i ci h l hc hl h1 h2; omega
  | succ k ih =>
    intro i ci h l hc hl h1 h2 hd
    have h3 := schema_len hs
    by_cases c : i < l.length
    · have hi : i < s.Cols.length := by omega
      have hcol : 1 ≤ s.Cols[i] ∧ s.Cols[i] ≤ 4 := by
        unfold schemaB at hs
        rw [Bool.and_eq_true, List.all_eq_true] at hs
        exact of_decide_eq_true (hs.1 _ (List.getElem_mem hi))
      have hg : s.Cols.getD i 0 = s.Cols[i] := by rw [List.getD_eq_getElem?_getD, List.getElem?_eq_getElem hi]; rfl
      obtain ⟨c1, h1', rows, e1, k1, r1, r2⟩ := l6DrawRows_ok h s.Cols[i] (by omega) hc
      obtain ⟨ci', h', l', q1, q2, q3, q4⟩ := ih (i + 1) c1 h1' (l.set i rows) k1 (by rw [List.length_set]; exact hl) (by rw [List.length_set]; omega) (by rw [List.length_set]; omega) (fun t q ht hq => by
        by_cases e : t = i
        · subst e
          rw [List.getElem?_set_self (by omega)] at hq
          cases hq
          rw [hg]; exact ⟨r1, r2⟩
        · rw [List.getElem?_set_ne (fun e' => e e'.symm)] at hq
          exact hd t q (by omega) hq)
      refine ⟨ci', h', l', fun K => ?_, q2, q3, q4⟩
      rw [spec_l7DrawRight.l0, lenI_eq, decide_eq_true (by omega), cond_true]
      dsimp only
      rw [getO_nat, List.getElem?_eq_getElem hi, Option.bind_some, e1, Option.bind_some, getO_nat, List.getElem?_eq_getElem c, Option.bind_some, Option.bind_some, setI_nat, w64_succ (by omega)]
      exact q1 K
    · refine ⟨ci, h, l, fun K => ?_, hc, hl, fun t rows hq => hd t rows (by have := at_lt hq; omega) hq⟩
      rw [spec_l7DrawRight.l0, lenI_eq, decide_eq_false (by omega), cond_false]
theorem l7DrawRight_ok {b : List Int} {i : Int} (h : Int) (hc : CI b i) : ∃ i' h' s, spec_l7DrawRight.f (l1Cur.mk b i h) = some (l1Cur.mk b i' h', s) ∧ CI b i' ∧ DSt s := by
  unfold spec_l7DrawRight.f
  obtain ⟨c1, h1, s, e1, k1, l1, l2, l3⟩ := l6DrawSchema_ok h hc
  have hs : schemaB s = true := by
    unfold schemaB
    rw [decide_eq_true (by omega), Bool.and_true, List.all_eq_true]
    exact fun x hx => decide_eq_true (l3 x hx)
  rw [e1, Option.bind_some]
  dsimp only
  rw [spec_StoreNew_eq s (by unfold Schema_b IntS_b; omega) (by unfold sz_Schema sz_IntS; omega), if_pos hs, Option.bind_some, joinK_eq]
  dsimp only
  obtain ⟨c2, h2, l, e2, k2, m1, m2⟩ := l7DrawRight_l0 (l1Cur.mk b i h) s 0 (List.replicate s.Cols.length []) true hs (((lenI (List.replicate s.Cols.length ([] : List Row))) - 0).toNat + 1) 0 c1 h1 (List.replicate s.Cols.length []) k1 (by simp) (by omega) (by rw [lenI_eq]; simp) (fun t rows ht => by omega)
  rw [show ((0 : Nat) : Int) = 0 from rfl] at e2
  rw [e2]
  obtain ⟨c3, h3, x3, e3, k3, l3', u3, _⟩ := l1Below_ok h2 5 k2
  have := u3 (by omega)
  dsimp only at e3 ⊢
  rw [e3, Option.bind_some]
  refine ⟨_, _, _, rfl, k3, ?_, ⟨l3', by dsimp only; omega⟩, m2⟩
  unfold storeB
  dsimp only
  rw [hs, decide_eq_true (by omega), decide_eq_true m1]
  simp only [Bool.true_and]
  rw [allFrom_iff]
  intro t rows ht
  obtain ⟨p1, p2⟩ := m2 t rows ht
  have hlt := at_lt ht
  exact up_rowsB hs (by omega) (by omega) p2.1 fun r hr => (p2.2 r hr).rowB hs (by omega)

theorem l1Once_ok {b : List Int} {i : Int} (h : Int) (n : Int) (hc : CI b i) : ∃ i' h' x, spec_l1Once.f (l1Cur.mk b i h) n = some (l1Cur.mk b i' h', x) ∧ CI b i' := by
  unfold spec_l1Once.f
  obtain ⟨i1, h1, x1, e1, k1, _⟩ := l1Below_ok h n hc
  rw [e1, Option.bind_some]
  exact ⟨_, _, _, rfl, k1⟩

theorem l1PickInt_ok {b : List Int} {i : Int} (h : Int) {l : List Int} (hl : l ≠ []) (hc : CI b i) : ∃ i' h' x, spec_l1PickInt.f (l1Cur.mk b i h) l = some (l1Cur.mk b i' h', x) ∧ CI b i' ∧ x ∈ l := by
  unfold spec_l1PickInt.f
  obtain ⟨i1, h1, x1, e1, k1, l1, u1, _⟩ := l1Below_ok h (lenI l) hc
  have hp : 0 < l.length := by cases l with | nil => exact absurd rfl hl | cons x l => simp
  rw [lenI_eq] at u1
  have hx := u1 (by omega)
  have hlt : x1.toNat < l.length := by omega
  rw [e1, Option.bind_some, getO_pos l1, List.getElem?_eq_getElem hlt, Option.bind_some]
  exact ⟨_, _, _, rfl, k1, List.getElem_mem hlt⟩

theorem spec_l1Max_eq (x y : Int) : spec_l1Max.f x y = some (max x y) := by
  unfold spec_l1Max.f
  by_cases h : y < x
  · rw [decide_eq_true h, cond_true, show max x y = x by omega]
  · rw [decide_eq_false h, cond_false, show max x y = y by omega]

/-- A question that is not too great. -/
def QB (q : Query) : Prop := q.Where.length ≤ 4 ∧ q.Show.length ≤ 6
def Qr3 (q : Query) : Prop := q.Where.length ≤ 3 ∧ q.Show.length ≤ 5
theorem Qr3.qb {q : Query} (h : Qr3 q) : QB q := ⟨by have := h.1; omega, by have := h.2; omega⟩
theorem QB.b {q : Query} (h : QB q) : Query_b q := by
  have h1 := h.1
  have h2 := h.2
  exact ⟨by unfold CondS_b; omega, by unfold IntS_b; omega⟩

theorem l9DrawRight_l0 (a : l1Cur) (y : Int) : ∀ (k i : Nat) (ci h : Int) (l : List Cond), CI a.b ci → l.length = i → i ≤ 2 → 3 ≤ i + k →
    ∃ ci' h' l', (∀ K, spec_l9DrawRight.l0 a y K k ci h l i = K ci' h' l') ∧ CI a.b ci' ∧ l'.length ≤ 3 := by
  intro k
  induction k with
  | zero => intro i ci h l hc hl h1 h2; omega
  | succ k ih =>
    intro i ci h l hc hl h1 h2
    obtain ⟨c1, h1', x1, e1, k1, l1, u1, _⟩ := l1Below_ok h 3 hc
    have hx3 := u1 (by omega)
    by_cases c : (i : Int) < x1
    · obtain ⟨c2, h2', x2, e2, k2, l2, u2, _⟩ := l1Below_ok h1' y k1
      obtain ⟨c3, h3', x3, e3, k3, l3, u3, _⟩ := l1Below_ok h2' 4 k2
      obtain ⟨c4, h4', x4, e4, k4, l4, u4, _⟩ := l1Below_ok h3' 6 k3
      obtain ⟨ci', h', l', q1, q2, q3⟩ := ih (i + 1) c4 h4' (l ++ [Cond.mk x2 (w64 (1 + x3)) x4]) k4 (by simp [hl]) (by omega) (by omega)
      refine ⟨ci', h', l', fun K => ?_, q2, q3⟩
      rw [spec_l9DrawRight.l0, e1, Option.bind_some]
      dsimp only
      rw [decide_eq_true c, cond_true, e2, Option.bind_some]
      dsimp only
      rw [e3, Option.bind_some]
      dsimp only
      rw [e4, Option.bind_some]
      dsimp only
      rw [Option.bind_some, appO_ok (by simp only [List.length_cons, List.length_nil]; omega), Option.bind_some, w64_succ (by omega)]
      exact q1 K
    · refine ⟨c1, h1', l, fun K => ?_, k1, by omega⟩
      rw [spec_l9DrawRight.l0, e1, Option.bind_some]
      dsimp only
      rw [decide_eq_false c, cond_false]
theorem l9DrawRight_l1 (a : l1Cur) (y : Int) (hy : y ≤ 5) (d : Bool) : ∀ (k i : Nat) (ci h : Int) (l : List Int), CI a.b ci → l.length ≤ i → (i : Int) ≤ y ∨ i = 0 → 0 < k → y < i + k →
    ∃ ci' h' l', (∀ K, spec_l9DrawRight.l1 a y K k ci h d l i = K ci' h' d l') ∧ CI a.b ci' ∧ l'.length ≤ 5 := by
  intro k
  induction k with
  | zero => intro i ci h l hc hl h0 h1 h2; omega
  | succ k ih =>
    intro i ci h l hc hl h0 h1 h2
    by_cases c : (i : Int) < y
    · obtain ⟨c2, h2', x2, e2, k2⟩ := l1Once_ok h 2 hc
      cases x2 with
      | true =>
        obtain ⟨ci', h', l', q1, q2, q3⟩ := ih (i + 1) c2 h2' (l ++ [(i : Int)]) k2 (by simp only [List.length_append, List.length_cons, List.length_nil]; omega) (by omega) (by omega) (by omega)
        refine ⟨ci', h', l', fun K => ?_, q2, q3⟩
        rw [spec_l9DrawRight.l1, decide_eq_true c, cond_true, e2, Option.bind_some, w64_succ (by omega)]
        dsimp only
        rw [cond_true, Option.bind_some, appO_ok (by simp only [List.length_cons, List.length_nil]; omega), Option.bind_some]
        exact q1 K
      | false =>
        obtain ⟨ci', h', l', q1, q2, q3⟩ := ih (i + 1) c2 h2' l k2 (by omega) (by omega) (by omega) (by omega)
        refine ⟨ci', h', l', fun K => ?_, q2, q3⟩
        rw [spec_l9DrawRight.l1, decide_eq_true c, cond_true, e2, Option.bind_some, w64_succ (by omega)]
        dsimp only
        rw [cond_false]
        exact q1 K
    · refine ⟨ci, h, l, fun K => ?_, hc, by omega⟩
      rw [spec_l9DrawRight.l1, decide_eq_false c, cond_false]
theorem l9DrawRight_end (a : l1Cur) (s : Schema) (q1 : Int) (w : List Cond) (o f : Int) (hs : SB s) (hw : w.length ≤ 3) : ∀ (ci h : Int) (d : Bool) (l : List Int), CI a.b ci → l.length ≤ 5 →
    ∃ ci' h' q, ((spec_l1Once.f (l1Cur.mk a.b ci h) 2).bind fun r130 =>
      bif r130.2 then (
      (spec_l1Max.f (lenI s.Cols) 1).bind fun r132 =>
      (spec_l1Below.f (l1Cur.mk a.b r130.1.i r130.1.h) r132).bind fun r133 =>
      bif (decide (r133.2 < (lenI s.Cols))) then (
      (getO s.Cols r133.2).bind fun x135 =>
      (spec_l1Max.f x135 1).bind fun r136 =>
      (spec_l1Below.f (l1Cur.mk a.b r133.1.i r133.1.h) r136).bind fun r137 =>
      some ((l1Cur.mk a.b r137.1.i r137.1.h), (Query.mk q1 w o d f l true r133.2 r137.2)))
      else (
      some ((l1Cur.mk a.b r133.1.i r133.1.h), (Query.mk q1 w o d f l true r133.2 0))))
      else (
      some ((l1Cur.mk a.b r130.1.i r130.1.h), (Query.mk q1 w o d f l false 0 0)))) = some (l1Cur.mk a.b ci' h', q) ∧ CI a.b ci' ∧ Qr3 q := by
  intro ci h d l hc hl
  obtain ⟨c2, h2, x2, e2, k2⟩ := l1Once_ok h 2 hc
  rw [e2, Option.bind_some]
  dsimp only
  cases x2 with
  | false => rw [cond_false]; exact ⟨_, _, _, rfl, k2, by dsimp only [Qr3]; omega⟩
  | true =>
    rw [cond_true, spec_l1Max_eq, Option.bind_some]
    obtain ⟨c3, h3, x3, e3, k3, l3, u3, _⟩ := l1Below_ok h2 (max (lenI s.Cols) 1) k2
    rw [e3, Option.bind_some]
    dsimp only
    by_cases c : x3 < lenI s.Cols
    · rw [decide_eq_true c, cond_true, getO_pos l3, List.getElem?_eq_getElem (by rw [lenI_eq] at c; omega), Option.bind_some, spec_l1Max_eq, Option.bind_some]
      obtain ⟨c4, h4, x4, e4, k4, _⟩ := l1Below_ok h3 (max (s.Cols[x3.toNat]'(by rw [lenI_eq] at c; omega)) 1) k3
      rw [e4, Option.bind_some]
      exact ⟨_, _, _, rfl, k4, by dsimp only [Qr3]; omega⟩
    · rw [decide_eq_false c, cond_false]
      exact ⟨_, _, _, rfl, k3, by dsimp only [Qr3]; omega⟩
theorem l9DrawRight_K (a : l1Cur) (s : Schema) (hs : SB s) (q1 : Int) (c0 h0 : Int) (hc : CI a.b c0) (y3 : Int) (hy : 1 ≤ y3 ∧ y3 ≤ 5) : ∃ i' h' q, (joinK (fun (y8 : Int) (y9 : Int) (y10 : List Cond) =>
  (spec_l1Below.f (l1Cur.mk a.b y8 y9) (w64 (y3 + 1))).bind fun r64 =>
  (gd (decide (0 < r64.2)) (spec_l1Once.f (l1Cur.mk a.b r64.1.i r64.1.h) 2)).bind fun r65 =>
  (some [0, 0, 1, 2, 3, 5]).bind fun l70 =>
  (spec_l1PickInt.f (l1Cur.mk a.b (ci3 (decide (0 < r64.2)) r65.1.i r64.1.i) (ci3 (decide (0 < r64.2)) r65.1.h r64.1.h)) l70).bind fun r71 =>
  joinK (fun (y72 : Int) (y73 : Int) (y74 : Bool) (y75 : List Int) =>
  (spec_l1Once.f (l1Cur.mk a.b y72 y73) 2).bind fun r130 =>
  bif r130.2 then (
  (spec_l1Max.f (lenI s.Cols) 1).bind fun r132 =>
  (spec_l1Below.f (l1Cur.mk a.b r130.1.i r130.1.h) r132).bind fun r133 =>
  bif (decide (r133.2 < (lenI s.Cols))) then (
  (getO s.Cols r133.2).bind fun x135 =>
  (spec_l1Max.f x135 1).bind fun r136 =>
  (spec_l1Below.f (l1Cur.mk a.b r133.1.i r133.1.h) r136).bind fun r137 =>
  some ((l1Cur.mk a.b r137.1.i r137.1.h), (Query.mk q1 y10 r64.2 y74 r71.2 y75 true r133.2 r137.2)))
  else (
  some ((l1Cur.mk a.b r133.1.i r133.1.h), (Query.mk q1 y10 r64.2 y74 r71.2 y75 true r133.2 0))))
  else (
  some ((l1Cur.mk a.b r130.1.i r130.1.h), (Query.mk q1 y10 r64.2 y74 r71.2 y75 false 0 0)))) (fun K76 =>
  spec_l9DrawRight.l1 a y3 K76 ((y3 - 0).toNat + 1) r71.1.i r71.1.h (bo3 (decide (0 < r64.2)) r65.2 false) [] 0)) (fun K11 =>
  spec_l9DrawRight.l0 a y3 K11 1000 c0 h0 [] 0)) = some (l1Cur.mk a.b i' h', q) ∧ CI a.b i' ∧ Qr3 q := by
  rw [joinK_eq]
  obtain ⟨c1, h1, w, e1, k1, w1⟩ := l9DrawRight_l0 a y3 1000 0 c0 h0 [] hc rfl (by omega) (by omega)
  rw [show ((0 : Nat) : Int) = 0 from rfl] at e1
  rw [e1]
  obtain ⟨c2, h2, x2, e2, k2, _⟩ := l1Below_ok h1 (w64 (y3 + 1)) k1
  rw [e2, Option.bind_some]
  dsimp only
  have hmid : ∃ c3 h3 d3, (gd (decide (0 < x2)) (spec_l1Once.f (l1Cur.mk a.b c2 h2) 2)).bind (fun r65 => some (ci3 (decide (0 < x2)) r65.1.i c2, ci3 (decide (0 < x2)) r65.1.h h2, bo3 (decide (0 < x2)) r65.2 false)) = some (c3, h3, d3) ∧ CI a.b c3 := by
    by_cases c : 0 < x2
    · obtain ⟨c3, h3, x3, e3, k3⟩ := l1Once_ok h2 2 k2
      rw [decide_eq_true c, gd_true, e3, Option.bind_some]
      exact ⟨_, _, _, rfl, k3⟩
    · rw [decide_eq_false c, gd_false, Option.bind_some]
      exact ⟨_, _, _, rfl, k2⟩
  obtain ⟨c3, h3, d3, e3, k3⟩ := hmid
  have hm2 : ∀ {β : Type} (G : Int → Int → Bool → Option β), (gd (decide (0 < x2)) (spec_l1Once.f (l1Cur.mk a.b c2 h2) 2)).bind (fun r65 => G (ci3 (decide (0 < x2)) r65.1.i c2) (ci3 (decide (0 < x2)) r65.1.h h2) (bo3 (decide (0 < x2)) r65.2 false)) = G c3 h3 d3 := fun G => by
    have := congrArg (fun o => o.bind fun t => G t.1 t.2.1 t.2.2) e3
    simpa only [Option.bind_assoc, Option.bind_some] using this
  obtain ⟨c4, h4, x4, e4, k4, m4⟩ := l1PickInt_ok (l := [0, 0, 1, 2, 3, 5]) h3 (by simp) k3
  simp only [Option.bind_some]
  refine (?_ : ∃ i' h' q, _ = some (l1Cur.mk a.b i' h', q) ∧ CI a.b i' ∧ Qr3 q)
  have hm3 := hm2 (fun ci hh dd => (spec_l1PickInt.f (l1Cur.mk a.b ci hh) [0, 0, 1, 2, 3, 5]).bind fun r71 =>
    joinK (fun (y72 : Int) (y73 : Int) (y74 : Bool) (y75 : List Int) =>
    (spec_l1Once.f (l1Cur.mk a.b y72 y73) 2).bind fun r130 =>
    bif r130.2 then (
    (spec_l1Max.f (lenI s.Cols) 1).bind fun r132 =>
    (spec_l1Below.f (l1Cur.mk a.b r130.1.i r130.1.h) r132).bind fun r133 =>
    bif (decide (r133.2 < (lenI s.Cols))) then (
    (getO s.Cols r133.2).bind fun x135 =>
    (spec_l1Max.f x135 1).bind fun r136 =>
    (spec_l1Below.f (l1Cur.mk a.b r133.1.i r133.1.h) r136).bind fun r137 =>
    some ((l1Cur.mk a.b r137.1.i r137.1.h), (Query.mk q1 w x2 y74 r71.2 y75 true r133.2 r137.2)))
    else (
    some ((l1Cur.mk a.b r133.1.i r133.1.h), (Query.mk q1 w x2 y74 r71.2 y75 true r133.2 0))))
    else (
    some ((l1Cur.mk a.b r130.1.i r130.1.h), (Query.mk q1 w x2 y74 r71.2 y75 false 0 0)))) (fun K76 =>
    spec_l9DrawRight.l1 a y3 K76 ((y3 - 0).toNat + 1) r71.1.i r71.1.h dd [] 0))
  rw [hm3, e4, Option.bind_some, joinK_eq]
  obtain ⟨c5, h5, sh, e5, k5, l5⟩ := l9DrawRight_l1 a y3 hy.2 d3 ((y3 - 0).toNat + 1) 0 c4 h4 [] k4 (by simp) (by omega) (by omega) (by omega)
  rw [show ((0 : Nat) : Int) = 0 from rfl] at e5
  dsimp only at e5 ⊢
  rw [e5]
  exact l9DrawRight_end a s q1 w x2 x4 hs w1 c5 h5 d3 sh k5 l5
theorem l9DrawRight_ok {b : List Int} {i : Int} (h : Int) (s : Schema) (hs : SB s) (hc : CI b i) : ∃ i' h' q, spec_l9DrawRight.f (l1Cur.mk b i h) s = some (l1Cur.mk b i' h', q) ∧ CI b i' ∧ Qr3 q := by
  unfold spec_l9DrawRight.f
  rw [bnd_some (spec_l1Max_eq _ _)]
  obtain ⟨c1, h1, x1, e1, k1, l1, _⟩ := l1Below_ok h (max (lenI s.Cols) 1) hc
  rw [e1, Option.bind_some]
  dsimp only
  rw [joinK_eq]
  by_cases c : x1 < lenI s.Cols
  · have hlt : x1.toNat < s.Cols.length := by rw [lenI_eq] at c; omega
    rw [decide_eq_true c, cond_true, getO_pos l1, List.getElem?_eq_getElem hlt, Option.bind_some, bnd_some (spec_l1Max_eq _ _)]
    have := hs.2 _ (List.getElem_mem hlt)
    have k := l9DrawRight_K (l1Cur.mk b i h) s hs x1 c1 h1 k1 (max s.Cols[x1.toNat] 1) (by omega)
    exact k
  · rw [decide_eq_false c, cond_false]
    exact l9DrawRight_K (l1Cur.mk b i h) s hs x1 c1 h1 k1 1 (by omega)

theorem spec_RowOk_eq (s : Schema) (t : Int) (r : Row) (hs : Schema_b s) (hr : Row_b r) : spec_RowOk.f s t r = some (rowB s t r) := by
  have hl : s.Cols.length ≤ 9223372036854775807 := hs
  have hrl : r.Cells.length ≤ 9223372036854775807 := hr
  unfold spec_RowOk.f rowB
  rw [spec_SchemaOk_eq _ hs, Option.bind_some, lenI_eq, w64_id (by omega), spec_l1In_eq, spec_l1In_eq]
  cases schemaB s with
  | false => rfl
  | true =>
    by_cases d : 0 ≤ t ∧ t ≤ (s.Cols.length : Int) - 1
    case neg => rw [decide_eq_false d]; rfl
    rw [decide_eq_true d, getO_Int d]
    by_cases d2 : 1 ≤ r.Id ∧ r.Id ≤ 999
    case neg => rw [decide_eq_false d2]; rfl
    rw [decide_eq_true d2]
    simp only [bo3_F, bo3_T, gd_true, Option.bind_some, Bool.true_and]
    by_cases d3 : (r.Cells.length : Int) = s.Cols.getD t.toNat 0
    case neg => rw [show decide (lenI r.Cells ≠ s.Cols.getD t.toNat 0) = true from decide_eq_true d3, decide_eq_false d3]; rfl
    rw [show decide (lenI r.Cells ≠ s.Cols.getD t.toNat 0) = false from decide_eq_false (fun h => h d3), decide_eq_true d3, cond_false, Bool.true_and]
    refine (loop_all (f := spec_RowOk.l0 r) (l := r.Cells) (fun _ n => decide (-1000000000 ≤ n ∧ n ≤ 1000000000)) (some false) (some true) (fun k i x hx => ?_) (fun k i hi => ?_) _ 0 (by omega) (by (try simp only [lenI_eq]); omega)).trans ?_
    · have hi := at_lt hx
      rw [spec_RowOk.l0, lenI_eq, decide_eq_true (by omega), cond_true, getO_nat, hx, Option.bind_some, spec_l1In_eq, Option.bind_some, bo3_not, w64_succ (by omega)]
      cases decide (-1000000000 ≤ x ∧ x ≤ 1000000000) <;> rfl
    · rw [spec_RowOk.l0, lenI_eq, decide_eq_false (by omega), cond_false]
    · rw [allFrom_zero]
      cases r.Cells.all fun n => decide (-1000000000 ≤ n ∧ n ≤ 1000000000) <;> rfl

theorem spec_RowsOk_eq (s : Schema) (t : Int) (rows : List Row) (hs : Schema_b s) (hr : RowS_b rows) : spec_RowsOk.f s t rows = some (rowsB s t rows) := by
  have hl : s.Cols.length ≤ 9223372036854775807 := hs
  obtain ⟨hrl, hr2⟩ := hr
  unfold spec_RowsOk.f rowsB
  simp only [joinK]
  refine (loop_all (f := spec_RowsOk.l0 s t rows _) (l := rows) (fun i r => rowB s t r && !(decide (0 < i) && decide (r.Id ≤ (rows.getD (i - 1) default).Id))) (some false) (some (schemaB s && decide (0 ≤ t ∧ t ≤ (s.Cols.length : Int) - 1) && decide (rows.length ≤ 24))) (fun k i x hx => ?_) (fun k i hi => ?_) _ 0 (by omega) (by (try simp only [lenI_eq]); omega)).trans ?_
  · have hi := at_lt hx
    rw [spec_RowsOk.l0, lenI_eq, decide_eq_true (by omega), cond_true, getO_nat, hx, Option.bind_some, spec_RowOk_eq _ _ _ hs (hr2 x (List.mem_of_getElem? hx)), Option.bind_some, prev_step hx (by omega), Option.bind_some, w64_succ (by omega)]
    rw [show decide (0 < (i : Int)) = decide (0 < i) from by simp]
    cases rowB s t x <;> cases decide (0 < i) <;> (try rfl)
    simp only [bo3_F, bo3_T, Bool.true_and, cond_true]
    by_cases e : x.Id ≤ (rows.getD (i - 1) default).Id
    · simp [e]
    · simp [e]
  · rw [spec_RowsOk.l0, lenI_eq, decide_eq_false (by omega), cond_false, spec_SchemaOk_eq _ hs, Option.bind_some]
    first | rw [impl_hasTable_eq _ _ hs] | rw [lenI_eq s.Cols, w64_id (by omega), spec_l1In_eq]
    have e24 : decide ((rows.length : Int) ≤ 24) = decide (rows.length ≤ 24) := by rw [decide_eq_decide]; omega
    simp only [lenI_eq, e24]
    generalize decide (0 ≤ t ∧ t ≤ (s.Cols.length : Int) - 1) = b1
    generalize decide (rows.length ≤ 24) = b2
    cases schemaB s <;> cases b1 <;> cases b2 <;> rfl
  · cases allFrom (fun i r => rowB s t r && !(decide (0 < i) && decide (r.Id ≤ (rows.getD (i - 1) default).Id))) rows 0 <;> rfl

theorem spec_version (v : Int) : spec_l1In.f v 0 100000 = some (decide (0 ≤ v ∧ v ≤ 100000)) := spec_l1In_eq _ _ _

theorem spec_StoreOk_eq (s : Store) (hb : Store_b s) : spec_StoreOk.f s = some (storeB s) := by
  obtain ⟨hs, ht, ht2⟩ := hb
  have hl : s.Schema.Cols.length ≤ 9223372036854775807 := hs
  unfold spec_StoreOk.f storeB
  rw [spec_SchemaOk_eq _ hs, Option.bind_some, spec_version]
  cases schemaB s.Schema with
  | false => rfl
  | true =>
    by_cases d : 0 ≤ s.Version ∧ s.Version ≤ 100000
    case neg => rw [decide_eq_false d]; rfl
    rw [decide_eq_true d]
    by_cases d2 : s.Tables.length = s.Schema.Cols.length
    case neg =>
      rw [show decide (lenI s.Tables ≠ lenI s.Schema.Cols) = true from decide_eq_true (by simp only [lenI_eq]; omega), decide_eq_false d2]
      rfl
    rw [show decide (lenI s.Tables ≠ lenI s.Schema.Cols) = false from decide_eq_false (by simp only [lenI_eq]; omega), decide_eq_true d2]
    simp only [bo3_F, bo3_T, gd_true, Option.bind_some, Bool.true_and, cond_false]
    refine (loop_all (f := spec_StoreOk.l0 s) (l := s.Tables) (fun i rows => rowsB s.Schema (i : Int) rows) (some false) (some true) (fun k i x hx => ?_) (fun k i hi => ?_) _ 0 (by omega) (by (try simp only [lenI_eq]); omega)).trans ?_
    · have hi := at_lt hx
      rw [spec_StoreOk.l0, lenI_eq, decide_eq_true (by omega), cond_true, getO_nat, hx, Option.bind_some, spec_RowsOk_eq _ _ _ hs (ht2 x (List.mem_of_getElem? hx)), Option.bind_some, bo3_not, w64_succ (by omega)]
      cases rowsB s.Schema i x <;> rfl
    · rw [spec_StoreOk.l0, lenI_eq, decide_eq_false (by omega), cond_false]
    · cases allFrom (fun i rows => rowsB s.Schema (i : Int) rows) s.Tables 0 <;> rfl

theorem spec_l6Rows_eq (l : List Row) (h : sz_RowS l ≤ 1099511627776) : spec_l6Rows.f l = some l := by
  unfold sz_RowS at h
  have p := sum_nonneg sz_Row_0 l
  unfold spec_l6Rows.f
  refine loop_copy (f := spec_l6Rows.l0 l) (l := l) some (fun k i x hx => ?_) (fun k s i hi => ?_) _ 0 (by omega) (by (try simp only [lenI_eq]); omega)
  · have hi := at_lt hx
    have hm := sum_mem sz_Row_0 (List.mem_of_getElem? hx)
    rw [spec_l6Rows.l0, lenI_eq, decide_eq_true (by omega), cond_true, getO_nat, hx, Option.bind_some, spec_l6Copy_eq x (by omega), Option.bind_some, Option.bind_some, appO_ok (by simp only [List.length_take, List.length_cons, List.length_nil]; omega), Option.bind_some, w64_succ (by omega)]
  · rw [spec_l6Rows.l0, lenI_eq, decide_eq_false (by omega), cond_false]

theorem spec_l7Copy_eq (s : Store) (h : sz_Store s ≤ 1099511627776) : spec_l7Copy.f s = some s := by
  unfold sz_Store sz_RowSS at h
  have p1 := sz_Schema_0 s.Schema
  have p2 := sum_nonneg sz_RowS_0 s.Tables
  unfold spec_l7Copy.f
  rw [spec_l7Schema_eq _ (by omega), Option.bind_some]
  refine loop_copy (f := spec_l7Copy.l0 s s.Schema) (l := s.Tables) (fun t => some ⟨s.Schema, s.Version, t⟩) (fun k i x hx => ?_) (fun k t i hi => ?_) _ 0 (by omega) (by (try simp only [lenI_eq]); omega)
  · have hi := at_lt hx
    have hm := sum_mem sz_RowS_0 (List.mem_of_getElem? hx)
    rw [spec_l7Copy.l0, lenI_eq, decide_eq_true (by omega), cond_true, getO_nat, hx, Option.bind_some, spec_l6Rows_eq x (by omega), Option.bind_some, Option.bind_some, appO_ok (by simp only [List.length_take, List.length_cons, List.length_nil]; omega), Option.bind_some, w64_succ (by omega)]
  · rw [spec_l7Copy.l0, lenI_eq, decide_eq_false (by omega), cond_false]

theorem spec_MutOk_eq (s : Schema) (m : Mut) (hs : Schema_b s) (hm : Mut_b m) : spec_MutOk.f s m = some (mutB s m) := by
  have hl : s.Cols.length ≤ 9223372036854775807 := hs
  unfold spec_MutOk.f mutB
  by_cases e : m.Kind = 3
  · rw [decide_eq_true e, cond_true, cond_true, spec_SchemaOk_eq _ hs, Option.bind_some, spec_l1In_eq, spec_l1In_eq, lenI_eq, lenI_eq, w64_id (by omega), gd_of, Option.bind_some, gd_of, Option.bind_some]
    have e2 : decide ((m.Row.Cells.length : Int) = 0) = decide (m.Row.Cells.length = 0) := by congr 1; apply propext; omega
    rw [e2]
    unfold tableB
    cases schemaB s <;> cases decide (0 ≤ m.Table ∧ m.Table ≤ (s.Cols.length : Int) - 1) <;> cases decide (1 ≤ m.Row.Id ∧ m.Row.Id ≤ 999) <;> cases decide (m.Row.Cells.length = 0) <;> rfl
  · rw [decide_eq_false e, cond_false, cond_false, spec_l1In_eq, Option.bind_some, spec_RowOk_eq _ _ _ hs hm, gd_of, Option.bind_some]
    cases decide (1 ≤ m.Kind ∧ m.Kind ≤ 2) <;> cases rowB s m.Table m.Row <;> rfl

theorem spec_l7Do_eq (s : Store) (m : Mut) (hs : storeB s = true) (hm : mutB s.Schema m = true) (hz : sz_Store s ≤ 1099511627776) (hz2 : sz_Mut m ≤ 1099511627776) : spec_l7Do.f s m = some (mutStep s m) := by
  obtain ⟨h0, h1, h2⟩ := mut_table hs hm
  have hz' := hz
  unfold sz_Store sz_RowSS at hz'
  unfold sz_Mut at hz2
  have p1 := sz_Schema_0 s.Schema
  have hx : s.Tables[m.Table.toNat]? = some (tableOf s m.Table) := by unfold tableOf; rw [List.getD_eq_getElem?_getD, List.getElem?_eq_getElem h1]; rfl
  have hm' := sum_mem sz_RowS_0 (List.mem_of_getElem? hx)
  have hzr : sz_RowS (tableOf s m.Table) ≤ 1099511627776 := by omega
  have hzr' := hzr
  unfold sz_RowS at hzr'
  have p2 := sum_nonneg sz_Row_0 (tableOf s m.Table)
  unfold spec_l7Do.f mutStep setTable
  rw [getO_pos h0, hx, Option.bind_some, spec_RowAt_eq _ _ (by omega), Option.bind_some, rowAt_0, lenI_eq]
  generalize tableOf s m.Table = rows at *
  have e24 : decide ((rows.length : Int) = 24) = decide (rows.length = 24) := by congr 1; apply propext; omega
  have hset : ∀ v, (some (setI s.Tables m.Table v)) = some (s.Tables.set m.Table.toNat v) := fun v => rfl
  rw [e24]
  simp only [spec_l6Copy_eq _ hz2, spec_RowPut_eq _ _ hzr hz2, spec_RowDrop_eq _ _ hzr, Option.bind_some, hset]
  by_cases c : rows.findIdx (isId m.Row.Id) < rows.length
  · have hg : rows[rows.findIdx (isId m.Row.Id)]? = some (rows.getD (rows.findIdx (isId m.Row.Id)) ⟨0, []⟩) := by rw [List.getD_eq_getElem?_getD, List.getElem?_eq_getElem c]; rfl
    have hm2 := sum_mem sz_Row_0 (List.mem_of_getElem? hg)
    rw [idxI_pos c, decide_eq_true (show (0 : Int) ≤ (rows.findIdx (isId m.Row.Id) : Int) by omega), getO_nat, hg]
    simp only [Option.bind_some, spec_l6Copy_eq _ (show sz_Row (rows.getD (rows.findIdx (isId m.Row.Id)) ⟨0, []⟩) ≤ 1099511627776 by omega)]
    rcases h2 with h2 | h2 | h2 <;> simp [h2, c, bo3_F, bo3_T, noChange]
  · rw [idxI_neg c]
    rcases h2 with h2 | h2 | h2
    · by_cases d : rows.length = 24 <;> simp [h2, c, d, bo3_F, bo3_T, noChange]
    · simp [h2, c, bo3_F, bo3_T, noChange]
    · simp [h2, c, bo3_F, bo3_T, noChange]

theorem spec_MutDo_eq (s : Store) (m : Mut) (bs : Store_b s) (bm : Mut_b m) (hz : sz_Store s ≤ 1099511627776) (hz2 : sz_Mut m ≤ 1099511627776) : spec_MutDo.f s m = some (mutDoF s m) := by
  unfold spec_MutDo.f mutDoF
  rw [spec_StoreOk_eq _ bs, Option.bind_some, bo3_not]
  cases hs : storeB s with
  | false => rfl
  | true =>
    rw [spec_MutOk_eq _ _ bs.1 bm, Option.bind_some, bo3_not]
    cases hm : mutB s.Schema m with
    | false => rw [spec_l7Copy_eq _ hz]; rfl
    | true =>
      rw [spec_l7Copy_eq _ hz]
      simp only [Bool.not_true, cond_false, if_true, Option.bind_some, spec_l7Do_eq _ _ hs hm hz hz2, bo3_not]
      unfold mutStep
      dsimp only
      split <;> rfl

theorem spec_BatchDo_l0 (s : Store) (l : List Mut) (hz : sz_Store s ≤ 1099511627776) (hv : 0 ≤ s.Version ∧ s.Version ≤ 100000) (hl : l.length ≤ 5) (hm : ∀ m ∈ l, Mut_b m ∧ sz_Mut m ≤ 1048576) : ∀ (k i : Nat) (o : Store) (acc : List Change), i ≤ l.length → l.length < i + k → BInv s.Version o acc i →
    spec_BatchDo.l0 s l k o.Schema.Cols o.Version o.Tables acc i = some (match runMuts o acc (l.drop i) with
      | some (t, cs) => (⟨t.Schema, s.Version + 1, t.Tables⟩, cs, true)
      | none => (s, [], false)) := by
  intro k
  induction k with
  | zero => intro i o acc h h'; omega
  | succ k ih =>
    intro i o acc h h' hI
    by_cases hi : i < l.length
    · have hx : l[i]? = some l[i] := List.getElem?_eq_getElem hi
      obtain ⟨m1, m2⟩ := hm _ (List.getElem_mem hi)
      have eo : (Store.mk (Schema.mk o.Schema.Cols) o.Version o.Tables) = o := rfl
      have h4 := hI.2.2.2.1
      rw [spec_BatchDo.l0, lenI_eq, decide_eq_true (by omega), cond_true, getO_nat, hx, Option.bind_some, eo, spec_MutDo_eq _ _ hI.1 m1 (by have := hI.2.1; omega) (by omega), Option.bind_some, spec_l7Copy_eq _ hz, Option.bind_some, Option.bind_some, bo3_not, appO_ok (by simp only [h4, List.length_cons, List.length_nil]; omega), Option.bind_some, w64_succ (by omega), List.drop_eq_getElem_cons hi, runMuts]
      cases hok : (mutDoF o l[i]).2.2 with
      | false => rfl
      | true =>
        have := ih (i + 1) _ _ (by omega) (by omega) (hI.step m1 m2 (by omega) hok)
        simp only [Bool.not_true, cond_false, if_true]
        exact this
    · rw [spec_BatchDo.l0, lenI_eq, decide_eq_false (by omega), cond_false, List.drop_eq_nil_of_le (by omega), runMuts, w64_id (by omega)]
theorem spec_BatchDo_eq (s : Store) (l : List Mut) (bs : Store_b s) (hz : sz_Store s ≤ 1048576) (bl : MutS_b l) (hzl : sz_MutS l ≤ 1048576) : spec_BatchDo.f s l = some (batchF s l) := by
  have p := sum_nonneg sz_Mut_0 l
  unfold sz_MutS at hzl
  unfold spec_BatchDo.f batchF
  rw [spec_StoreOk_eq _ bs, Option.bind_some, bo3_not, spec_l1In_eq, Option.bind_some, spec_l7Copy_eq _ (by omega), Option.bind_some, Option.bind_some, lenI_eq]
  cases hs : storeB s with
  | false => rfl
  | true =>
    simp only [Bool.not_true, cond_false, if_true]
    have hv : 0 ≤ s.Version ∧ s.Version ≤ 100000 := by
      unfold storeB at hs
      simp only [Bool.and_eq_true, decide_eq_true_eq] at hs
      exact hs.1.1.2
    by_cases c : 1 ≤ (l.length : Int) ∧ (l.length : Int) ≤ 5
    · rw [decide_eq_true c]
      by_cases d : s.Version = 100000
      · rw [decide_eq_true d, if_neg (fun e => e.2 d)]; rfl
      · rw [decide_eq_false d, if_pos ⟨c, d⟩]
        simp only [bo3_not, Bool.not_true, bo3_F, cond_false]
        have := spec_BatchDo_l0 s l (by omega) hv (by omega) (fun m hm => ⟨bl.2 m hm, by have := sum_mem sz_Mut_0 hm; omega⟩) (((l.length : Int) - 0).toNat + 1) 0 s [] (by omega) (by omega) ⟨bs, by omega, rfl, rfl, by simp [sz_ChangeS], by simp [ChangeS_b]⟩
        rw [List.drop_zero] at this
        exact this
    · rw [decide_eq_false c, if_neg (fun e => c e.1)]
      rfl

/-- What a drawn change is, at most. -/
def MB (m : Mut) : Prop := m.Row.Cells.length ≤ 5
theorem MB.b {m : Mut} (h : MB m) : Mut_b m ∧ sz_Mut m ≤ 5 := by
  unfold MB at h
  exact ⟨by unfold Mut_b Row_b IntS_b; omega, by unfold sz_Mut sz_Row sz_IntS; omega⟩
theorem l7DrawMut_end (b : List Int) (t y16 y17 y18 y15 : Int) (l : List Int) (hl : l.length ≤ 5) (hc : CI b y15) : ∃ i' h' m, ((spec_l1Below.f (l1Cur.mk b y15 y16) 25).bind fun r43 =>
  bif (decide (r43.2 = 0)) then (
  (spec_l1Below.f (l1Cur.mk b r43.1.i r43.1.h) 5).bind fun r45 =>
  some ((l1Cur.mk b r45.1.i r45.1.h), (Mut.mk r45.2 t (Row.mk y18 l))))
  else (
  bif (decide (r43.2 = 1)) then (
  (spec_l1Below.f (l1Cur.mk b r43.1.i r43.1.h) 5).bind fun r47 =>
  some ((l1Cur.mk b r47.1.i r47.1.h), (Mut.mk y17 (w64 (r47.2 - 1)) (Row.mk y18 l))))
  else (
  bif (decide (r43.2 = 2)) then (
  (some [0, 999, 1000]).bind fun l49 =>
  (spec_l1PickInt.f (l1Cur.mk b r43.1.i r43.1.h) l49).bind fun r50 =>
  some ((l1Cur.mk b r50.1.i r50.1.h), (Mut.mk y17 t (Row.mk r50.2 l))))
  else (
  some ((l1Cur.mk b r43.1.i r43.1.h), (Mut.mk y17 t (Row.mk y18 l))))))) = some (l1Cur.mk b i' h', m) ∧ CI b i' ∧ MB m := by
  obtain ⟨c1, h1, x1, e1, k1, _⟩ := l1Below_ok y16 25 hc
  rw [e1, Option.bind_some]
  dsimp only
  by_cases q0 : x1 = 0
  · obtain ⟨c2, h2, x2, e2, k2, _⟩ := l1Below_ok h1 5 k1
    rw [decide_eq_true q0, cond_true, e2, Option.bind_some]
    exact ⟨_, _, _, rfl, k2, hl⟩
  rw [decide_eq_false q0, cond_false]
  by_cases q1 : x1 = 1
  · obtain ⟨c2, h2, x2, e2, k2, _⟩ := l1Below_ok h1 5 k1
    rw [decide_eq_true q1, cond_true, e2, Option.bind_some]
    exact ⟨_, _, _, rfl, k2, hl⟩
  rw [decide_eq_false q1, cond_false]
  by_cases q2 : x1 = 2
  · obtain ⟨c2, h2, x2, e2, k2, _⟩ := l1PickInt_ok (l := [0, 999, 1000]) h1 (by simp) k1
    rw [decide_eq_true q2, cond_true, Option.bind_some, e2, Option.bind_some]
    exact ⟨_, _, _, rfl, k2, hl⟩
  rw [decide_eq_false q2, cond_false]
  exact ⟨_, _, _, rfl, k1, hl⟩
theorem l7DrawMut_ok {b : List Int} {i : Int} (h : Int) (s : Store) (hs : SB s.Schema) (hc : CI b i) : ∃ i' h' m, spec_l7DrawMut.f (l1Cur.mk b i h) s = some (l1Cur.mk b i' h', m) ∧ CI b i' ∧ MB m := by
  unfold spec_l7DrawMut.f
  rw [bnd_some (spec_l1Max_eq _ _)]
  obtain ⟨c1, h1, x1, e1, k1, l1, _⟩ := l1Below_ok h (max (lenI s.Tables) 1) hc
  rw [bnd_some e1]
  dsimp only
  by_cases q : bo3 (decide ((lenI s.Tables) ≤ x1)) true (decide ((lenI s.Schema.Cols) ≤ x1)) = true
  · rw [q, cond_true]
    exact ⟨_, _, _, rfl, k1, by simp [MB]⟩
  rw [Bool.not_eq_true] at q
  rw [q, cond_false]
  rw [bo3_or, Bool.or_eq_false_iff, decide_eq_false_iff_not, decide_eq_false_iff_not, lenI_eq, lenI_eq] at q
  have ht : x1.toNat < s.Tables.length := by omega
  have hcl : x1.toNat < s.Schema.Cols.length := by omega
  have hcol := hs.2 _ (List.getElem_mem hcl)
  obtain ⟨c2, h2, x2, e2, k2, l2, u2, _⟩ := l1Below_ok h1 3 k1
  obtain ⟨c3, h3, r, e3, k3, r1, r2, r3, r4⟩ := l6DrawRow_ok h2 s.Schema.Cols[x1.toNat] (by omega) k2
  have hrl : r.Cells.length ≤ 5 := by omega
  rw [bnd_some e2]
  dsimp only
  rw [getO_pos l1, List.getElem?_eq_getElem hcl, Option.bind_some, bnd_some e3]
  dsimp only
  rw [joinK_eq]
  have key : ∀ (y15 y16 y17 y18 : Int), CI b y15 → ∃ i' h' m, (joinK (fun (y40 : List Int) =>
    (spec_l1Below.f (l1Cur.mk b y15 y16) 25).bind fun r43 =>
    bif (decide (r43.2 = 0)) then (
    (spec_l1Below.f (l1Cur.mk b r43.1.i r43.1.h) 5).bind fun r45 =>
    some ((l1Cur.mk b r45.1.i r45.1.h), (Mut.mk r45.2 x1 (Row.mk y18 y40))))
    else (
    bif (decide (r43.2 = 1)) then (
    (spec_l1Below.f (l1Cur.mk b r43.1.i r43.1.h) 5).bind fun r47 =>
    some ((l1Cur.mk b r47.1.i r47.1.h), (Mut.mk y17 (w64 (r47.2 - 1)) (Row.mk y18 y40))))
    else (
    bif (decide (r43.2 = 2)) then (
    (some [0, 999, 1000]).bind fun l49 =>
    (spec_l1PickInt.f (l1Cur.mk b r43.1.i r43.1.h) l49).bind fun r50 =>
    some ((l1Cur.mk b r50.1.i r50.1.h), (Mut.mk y17 x1 (Row.mk r50.2 y40))))
    else (
    some ((l1Cur.mk b r43.1.i r43.1.h), (Mut.mk y17 x1 (Row.mk y18 y40))))))) (fun K41 =>
    bif (decide (y17 = 3)) then (
    K41 [])
    else (
    K41 r.Cells))) = some (l1Cur.mk b i' h', m) ∧ CI b i' ∧ MB m := by
    intro y15 y16 y17 y18 hy
    rw [joinK_eq]
    cases decide (y17 = 3) with
    | true => exact l7DrawMut_end b x1 y16 y17 y18 y15 [] (by simp) hy
    | false => exact l7DrawMut_end b x1 y16 y17 y18 y15 r.Cells hrl hy
  generalize hd : decide ((w64 (1 + x2)) ≠ 1) = d
  have hg : ∃ x20, gd d (getO s.Tables x1) = some x20 ∧ (d = true → s.Tables[x1.toNat] = x20) := by
    cases d with
    | true => rw [gd_true, getO_pos l1, List.getElem?_eq_getElem ht]; exact ⟨_, rfl, fun _ => rfl⟩
    | false => exact ⟨_, gd_false _, fun h => by cases h⟩
  obtain ⟨x20, e20, hx20⟩ := hg
  rw [bnd_some e20]
  generalize hd2 : bo3 d (decide (0 < lenI x20)) false = d2
  cases d2 with
  | false =>
    rw [gd_false, Option.bind_some]
    rw [bo3_F, cond_false]
    exact key _ _ _ _ k3
  | true =>
    rw [bo3_and, Bool.and_eq_true, decide_eq_true_eq] at hd2
    obtain ⟨c4, h4, x4, e4, k4⟩ := l1Once_ok h3 9 k3
    rw [gd_true, bnd_some e4]
    dsimp only
    cases x4 with
    | true => exact key _ _ _ _ k4
    | false =>
      have e := hx20 hd2.1
      rw [show bo3 true (bo3 false false true) false = true from rfl, cond_true, getO_pos l1, List.getElem?_eq_getElem ht, Option.bind_some, e]
      obtain ⟨c5, h5, x5, e5, k5, l5, u5, _⟩ := l1Below_ok h4 (lenI x20) k4
      have := u5 hd2.2
      have ct : ∀ x y : Int, ci3 true x y = x := fun _ _ => rfl
      simp only [ct]
      rw [bnd_some e5]
      dsimp only
      rw [getO_pos l5, List.getElem?_eq_getElem (by rw [lenI_eq] at this; omega), Option.bind_some]
      exact key _ _ _ _ k5

theorem mutDo_sb {s : Store} {m : Mut} (h : (mutDoF s m).2.2 = true) (bm : Mut_b m) (zm : sz_Mut m ≤ 1000) : SB (mutDoF s m).1.Schema ∧ Store_b (mutDoF s m).1 ∧ sz_Store (mutDoF s m).1 ≤ 4000 := by
  obtain ⟨h1, h2, h3, h4, h5⟩ := mutDo_ok h
  obtain ⟨s1, s2⟩ := store_small h1
  obtain ⟨b1, b2, _⟩ := mutDo_b s m s1 bm
  exact ⟨by rw [h5]; exact schema_SB (store_len h1).2, b1, by omega⟩
theorem l7DrawBatch_l0 (a : l1Cur) : ∀ (k i : Nat) (ci h : Int) (s : Store) (l : List Mut), CI a.b ci → l.length ≤ i → i ≤ 3 → 4 ≤ i + k → SB s.Schema → Store_b s → sz_Store s ≤ 1048576 → (∀ m ∈ l, MB m) →
    ∃ ci' h' l', spec_l7DrawBatch.l0 a k ci h s.Schema.Cols s.Version s.Tables l i = some (l1Cur.mk a.b ci' h', l') ∧ CI a.b ci' ∧ l'.length ≤ 3 ∧ ∀ m ∈ l', MB m := by
  intro k
  induction k with
  | zero => intro i ci h s l hc hl h1 h2; omega
  | succ k ih =>
    intro i ci h s l hc hl h1 h2 hs bs zs hm
    obtain ⟨c1, h1', x1, e1, k1, l1, u1, _⟩ := l1Below_ok h 3 hc
    have hx3 := u1 (by omega)
    rw [spec_l7DrawBatch.l0, bnd_some e1]
    dsimp only
    rw [w64_id (by omega)]
    by_cases c : (i : Int) < 1 + x1
    · obtain ⟨c2, h2', m, e2, k2, mb⟩ := l7DrawMut_ok h1' s hs k1
      obtain ⟨bm, zm⟩ := mb.b
      rw [decide_eq_true c, cond_true, show (Store.mk (Schema.mk s.Schema.Cols) s.Version s.Tables) = s from rfl, bnd_some e2]
      dsimp only
      rw [bnd_some (spec_MutDo_eq s m bs bm (by omega) (by omega)), joinK_eq]
      have step : ∀ (s' : Store) (ci2 hh2 : Int) (keep : Bool), SB s'.Schema → Store_b s' → sz_Store s' ≤ 1048576 → CI a.b ci2 → ∃ ci' h' l', (bif keep then (
          (some [m]).bind fun l31 =>
          (appO 48 l l31).bind fun l32 =>
          spec_l7DrawBatch.l0 a k ci2 hh2 s'.Schema.Cols s'.Version s'.Tables l32 (w64 (i + 1)))
          else (
          spec_l7DrawBatch.l0 a k ci2 hh2 s'.Schema.Cols s'.Version s'.Tables l (w64 (i + 1)))) = some (l1Cur.mk a.b ci' h', l') ∧ CI a.b ci' ∧ l'.length ≤ 3 ∧ ∀ m ∈ l', MB m := by
        intro s' ci2 hh2 keep hs' bs' zs' hc2
        cases keep with
        | true =>
          rw [cond_true, Option.bind_some, appO_ok (by simp only [List.length_cons, List.length_nil]; omega), Option.bind_some, w64_succ (by omega)]
          exact ih (i + 1) ci2 hh2 s' (l ++ [m]) hc2 (by simp only [List.length_append, List.length_cons, List.length_nil]; omega) (by omega) (by omega) hs' bs' zs' (snoc_all hm mb)
        | false =>
          rw [cond_false, w64_succ (by omega)]
          exact ih (i + 1) ci2 hh2 s' l hc2 (by omega) (by omega) (by omega) hs' bs' zs' hm
      cases hok : (mutDoF s m).2.2 with
      | true =>
        obtain ⟨s1, s2, s3⟩ := mutDo_sb hok bm (by omega)
        rw [cond_true]
        dsimp only
        rw [show bo3 true false true = false from rfl, gd_false, Option.bind_some]
        exact step (mutDoF s m).1 c2 h2' true s1 s2 (by omega) k2
      | false =>
        obtain ⟨c3, h3, x3, e3, k3⟩ := l1Once_ok h2' 9 k2
        rw [cond_false]
        dsimp only
        rw [show bo3 false false true = true from rfl, gd_true, bnd_some e3]
        exact step s c3 h3 x3 hs bs zs k3
    · rw [decide_eq_false c, cond_false]
      exact ⟨_, _, _, rfl, k1, by omega, hm⟩
theorem l7DrawBatch_ok {b : List Int} {i : Int} (h : Int) (s : Store) (hs : SB s.Schema) (bs : Store_b s) (zs : sz_Store s ≤ 1048576) (hc : CI b i) : ∃ i' h' l, spec_l7DrawBatch.f (l1Cur.mk b i h) s = some (l1Cur.mk b i' h', l) ∧ CI b i' ∧ l.length ≤ 3 ∧ ∀ m ∈ l, MB m := by
  unfold spec_l7DrawBatch.f
  exact l7DrawBatch_l0 (l1Cur.mk b i h) 1000 0 i h s [] hc (by simp) (by omega) (by omega) hs bs zs (by simp)
theorem MBs {l : List Mut} (hl : l.length ≤ 3) (h : ∀ m ∈ l, MB m) : MutS_b l ∧ sz_MutS l ≤ 20 := by
  have := sum_le (s := sz_Mut) (B := 5) (l := l) fun x hx => (h x hx).b.2
  exact ⟨⟨by omega, fun x hx => (h x hx).b.1⟩, by unfold sz_MutS; omega⟩
/-- What comes of a batch: a few changes of rows that are right. -/
def CB (c : Change) : Prop := c.Old.Cells.length ≤ 4 ∧ c.New.Cells.length ≤ 4
theorem CB.b {c : Change} (h : CB c) : Change_b c ∧ sz_Change c ≤ 8 := by
  obtain ⟨h1, h2⟩ := h
  exact ⟨⟨by unfold Row_b IntS_b; omega, by unfold Row_b IntS_b; omega⟩, by unfold sz_Change sz_Row sz_IntS; omega⟩
theorem CBs {l : List Change} {k : Nat} (hl : l.length ≤ k) (h : ∀ c ∈ l, CB c) : sz_ChangeS l ≤ 9 * k ∧ ∀ c ∈ l, Change_b c := by
  have := sum_le (s := sz_Change) (B := 8) (l := l) fun x hx => (h x hx).b.2
  exact ⟨by unfold sz_ChangeS; omega, fun x hx => (h x hx).b.1⟩
theorem mutDo_CB {s : Store} {m : Mut} (h : (mutDoF s m).2.2 = true) : CB (mutDoF s m).2.1 := by
  obtain ⟨h1, h2, h3, _⟩ := mutDo_ok h
  obtain ⟨t1, t2, t3⟩ := mut_table h1 h2
  rw [h3] at h ⊢
  unfold mutStep at *
  dsimp only at *
  split at h
  · simp at h
  · rename_i c
    rw [if_neg c]
    have hrow : ∀ i, ((tableOf s m.Table).getD i ⟨0, []⟩).Cells.length ≤ 4 := fun i => by
      rw [List.getD_eq_getElem?_getD]
      cases hx : (tableOf s m.Table)[i]? with
      | none => simp
      | some r =>
        have := rowB_sz (rows_row (table_rows h1 t2) (i := i) (r := r) (by rw [Int.toNat_of_nonneg t1]; exact hx))
        unfold sz_Row sz_IntS at this
        simp only [Option.getD_some]; omega
    refine ⟨?_, ?_⟩
    · dsimp only
      split
      · simp
      · exact hrow _
    · dsimp only
      split
      · simp
      · rename_i hk
        unfold mutB at h2
        rw [decide_eq_false hk, cond_false, Bool.and_eq_true] at h2
        have := rowB_sz h2.2
        unfold sz_Row sz_IntS at this
        omega
theorem runMuts_CB : ∀ {l : List Mut} {s : Store} {acc : List Change} {t : Store} {cs : List Change}, (∀ c ∈ acc, CB c) → runMuts s acc l = some (t, cs) → cs.length = acc.length + l.length ∧ ∀ c ∈ cs, CB c
  | [], s, acc, t, cs, h, he => by rw [runMuts] at he; cases he; exact ⟨rfl, h⟩
  | m :: l, s, acc, t, cs, h, he => by
    rw [runMuts] at he
    split at he
    · rename_i hok
      obtain ⟨h1, h2⟩ := runMuts_CB (snoc_all h (mutDo_CB hok)) he
      exact ⟨by rw [h1]; simp; omega, h2⟩
    · cases he
theorem batch_CB (s : Store) (l : List Mut) : (batchF s l).2.1.length ≤ l.length ∧ ∀ c ∈ (batchF s l).2.1, CB c := by
  unfold batchF
  split
  · split
    · cases hr : runMuts s [] l with
      | none => simp
      | some q =>
        obtain ⟨t, cs⟩ := q
        obtain ⟨h1, h2⟩ := runMuts_CB (by simp) hr
        exact ⟨by dsimp only; rw [h1]; simp, h2⟩
    · simp
  · simp

theorem l12Draw_ok {b : List Int} {i : Int} (h : Int) (hc : CI b i) : ∃ i' h' s q l, spec_l12Draw.f (l1Cur.mk b i h) = some (l1Cur.mk b i' h', s, q, l) ∧ CI b i' ∧ DSt s ∧ Qr3 q ∧ l.length ≤ 3 ∧ ∀ c ∈ l, CB c := by
  unfold spec_l12Draw.f
  obtain ⟨c1, h1, s, e1, k1, d1⟩ := l7DrawRight_ok h hc
  rw [bnd_some e1]
  dsimp only
  obtain ⟨c2, h2, q, e2, k2, d2⟩ := l9DrawRight_ok h1 s.Schema d1.SB k1
  obtain ⟨s1, s2⟩ := store_small d1.ok
  rw [bnd_some e2]
  dsimp only
  obtain ⟨c3, h3, l, e3, k3, l3, m3⟩ := l7DrawBatch_ok h2 s d1.SB s1 (by omega) k2
  obtain ⟨m4, m5⟩ := MBs l3 m3
  rw [bnd_some e3]
  dsimp only
  rw [bnd_some (spec_BatchDo_eq s l s1 (by omega) m4 (by omega))]
  obtain ⟨n1, n2⟩ := batch_CB s l
  exact ⟨_, _, _, _, _, rfl, k3, d1, d2, by omega, n2⟩

theorem DrawTouchesAny_ok (code : List Int) (hl : (code.length : Int) ≤ 1048576) : ∃ q l, spec_DrawTouchesAny.f code = some (q, l) ∧ Qr3 q ∧ l.length ≤ 3 ∧ ∀ c ∈ l, CB c := by
  unfold spec_DrawTouchesAny.f
  obtain ⟨h0, e0, k0⟩ := l1New_ok code hl
  rw [bnd_some e0]
  obtain ⟨i1, h1, s, q, l, e1, k1, d1, d2, d3, d4⟩ := l12Draw_ok h0 k0
  rw [bnd_some e1]
  exact ⟨_, _, rfl, d2, d3, d4⟩

theorem laws_big_eq (l : List Int) : laws_big.f l = some (decide (1048576 < (l.length : Int))) := by unfold laws_big.f; rw [lenI_eq]

theorem DrawTouches_ok (code : List Int) (hl : (code.length : Int) ≤ 1048576) : ∃ q c, spec_DrawTouches.f code = some (q, c) ∧ Qr3 q ∧ CB c := by
  unfold spec_DrawTouches.f
  obtain ⟨h0, e0, k0⟩ := l1New_ok code hl
  rw [bnd_some e0]
  obtain ⟨i1, h1, s, q, l, e1, k1, d1, d2, d3, d4⟩ := l12Draw_ok h0 k0
  rw [bnd_some e1]
  dsimp only
  obtain ⟨c3, h3, x3, e3, k3, _⟩ := l1Below_ok h1 3 k1
  rw [bnd_some e3]
  dsimp only
  obtain ⟨c4, h4, x4, e4, k4⟩ := l1Once_ok h3 2 k3
  rw [bnd_some e4]
  dsimp only
  obtain ⟨c5, h5, x5, e5, k5⟩ := l1Once_ok h4 2 k4
  rw [bnd_some e5]
  dsimp only
  rw [lenI_eq]
  by_cases c : (0 : Int) < (l.length : Int)
  · rw [decide_eq_true c, gd_true]
    obtain ⟨c6, h6, x6, e6, k6⟩ := l1Once_ok h5 6 k5
    rw [bnd_some e6]
    have ct : ∀ x y : Int, ci3 true x y = x := fun _ _ => rfl
    cases x6 with
    | true => exact ⟨_, _, rfl, d2, by simp [CB]⟩
    | false =>
      rw [show bo3 true (bo3 false false true) false = true from rfl, cond_true]
      simp only [ct]
      obtain ⟨c7, h7, x7, e7, k7, l7, u7, _⟩ := l1Below_ok h6 (l.length : Int) k6
      have := u7 c
      rw [bnd_some e7]
      dsimp only
      rw [getO_pos l7, List.getElem?_eq_getElem (by omega), Option.bind_some]
      exact ⟨_, _, rfl, d2, d4 _ (List.getElem_mem (by omega))⟩
  · rw [decide_eq_false c, gd_false, Option.bind_some]
    exact ⟨_, _, rfl, d2, by simp [CB]⟩

theorem l9Draw_ok {b : List Int} {i : Int} (h : Int) (s : Schema) (hs : SB s) (hc : CI b i) : ∃ i' h' q, spec_l9Draw.f (l1Cur.mk b i h) s = some (l1Cur.mk b i' h', q) ∧ CI b i' ∧ QB q := by
  unfold spec_l9Draw.f
  obtain ⟨i1, h1, q, e1, k1, q1, q2⟩ := l9DrawRight_ok h s hs hc
  obtain ⟨i2, h2, x2, e2, k2, _⟩ := l1Below_ok h1 25 k1
  rw [bnd_some e1]
  dsimp only
  rw [bnd_some e2]
  dsimp only
  by_cases c0 : x2 = 0
  · obtain ⟨i3, h3, x3, e3, k3, _⟩ := l1Below_ok h2 5 k2
    rw [decide_eq_true c0, cond_true, bnd_some e3]
    exact ⟨_, _, _, rfl, k3, by dsimp only; omega, by dsimp only; omega⟩
  rw [decide_eq_false c0, cond_false]
  by_cases c1 : x2 = 1
  · obtain ⟨i3, h3, x3, e3, k3, _⟩ := l1Below_ok h2 6 k2
    obtain ⟨i4, h4, x4, e4, k4, _⟩ := l1Below_ok h3 6 k3
    obtain ⟨i5, h5, x5, e5, k5, _⟩ := l1PickInt_ok (l := [0, 1000000001]) h4 (by simp) k4
    rw [decide_eq_true c1, cond_true, bnd_some e3]
    dsimp only
    rw [bnd_some e4, Option.bind_some]
    dsimp only
    rw [bnd_some e5, Option.bind_some, appO_ok (by simp only [List.length_cons, List.length_nil]; omega), Option.bind_some]
    exact ⟨_, _, _, rfl, k5, by simp only [List.length_append, List.length_cons, List.length_nil]; omega, by dsimp only; omega⟩
  rw [decide_eq_false c1, cond_false]
  by_cases c2 : x2 = 2
  · obtain ⟨i3, h3, x3, e3, k3, _⟩ := l1Below_ok h2 7 k2
    rw [decide_eq_true c2, cond_true, bnd_some e3]
    exact ⟨_, _, _, rfl, k3, by dsimp only; omega, by dsimp only; omega⟩
  rw [decide_eq_false c2, cond_false]
  by_cases c3 : x2 = 3
  · obtain ⟨i3, h3, x3, e3, k3, _⟩ := l1PickInt_ok (l := [-1, 24, 25]) h2 (by simp) k2
    rw [decide_eq_true c3, cond_true, Option.bind_some, bnd_some e3]
    exact ⟨_, _, _, rfl, k3, by dsimp only; omega, by dsimp only; omega⟩
  rw [decide_eq_false c3, cond_false]
  by_cases c4 : x2 = 4
  · obtain ⟨i3, h3, x3, e3, k3, _⟩ := l1Below_ok h2 5 k2
    rw [decide_eq_true c4, cond_true, bnd_some e3, Option.bind_some, appO_ok (by simp only [List.length_cons, List.length_nil]; omega), Option.bind_some]
    exact ⟨_, _, _, rfl, k3, by dsimp only; omega, by simp only [List.length_append, List.length_cons, List.length_nil]; omega⟩
  rw [decide_eq_false c4, cond_false]
  by_cases c5 : x2 = 5
  · obtain ⟨i3, h3, x3, e3, k3, _⟩ := l1Below_ok h2 6 k2
    rw [decide_eq_true c5, cond_true, bnd_some e3]
    exact ⟨_, _, _, rfl, k3, by dsimp only; omega, by dsimp only; omega⟩
  rw [decide_eq_false c5, cond_false]
  exact ⟨_, _, _, rfl, k2, by omega, by omega⟩

theorem DrawConcerned_l0 (a a' : l1Cur) (s : Schema) (v : Int) (ts : List (List Row)) (q0 : Query) (ch : List Change) (hs : SB s) : ∀ (k i : Nat) (ci h : Int) (l : List Query), CI a.b ci → l.length ≤ i + 1 → i ≤ 3 → 4 ≤ i + k → (∀ q ∈ l, QB q) →
    ∃ l', spec_DrawConcerned.l0 a (a', ⟨s, v, ts⟩, q0, ch) k ci h l i = some (s, l', ch) ∧ l'.length ≤ 4 ∧ ∀ q ∈ l', QB q := by
  intro k
  induction k with
  | zero => intro i ci h l hc hl h1 h2; omega
  | succ k ih =>
    intro i ci h l hc hl h1 h2 hq
    obtain ⟨c1, h1', x1, e1, k1, l1, u1, _⟩ := l1Below_ok h 4 hc
    have := u1 (by omega)
    rw [spec_DrawConcerned.l0, bnd_some e1]
    dsimp only
    by_cases c : (i : Int) < x1
    · obtain ⟨c2, h2', q, e2, k2, d2⟩ := l9Draw_ok h1' s hs k1
      rw [decide_eq_true c, cond_true, bnd_some e2]
      dsimp only
      rw [Option.bind_some, appO_ok (by simp only [List.length_cons, List.length_nil]; omega), Option.bind_some, w64_succ (by omega)]
      exact ih (i + 1) c2 h2' (l ++ [q]) k2 (by simp only [List.length_append, List.length_cons, List.length_nil]; omega) (by omega) (by omega) (snoc_all hq d2)
    · rw [decide_eq_false c, cond_false]
      exact ⟨_, rfl, by omega, hq⟩
theorem DrawConcerned_ok (code : List Int) (hl : (code.length : Int) ≤ 1048576) : ∃ s l ch, spec_DrawConcerned.f code = some (s, l, ch) ∧ SB s ∧ l.length ≤ 4 ∧ (∀ q ∈ l, QB q) ∧ ch.length ≤ 3 ∧ ∀ c ∈ ch, CB c := by
  unfold spec_DrawConcerned.f
  obtain ⟨h0, e0, k0⟩ := l1New_ok code hl
  rw [bnd_some e0]
  obtain ⟨i1, h1, s, q, ch, e1, k1, d1, d2, d3, d4⟩ := l12Draw_ok h0 k0
  rw [bnd_some e1, Option.bind_some]
  obtain ⟨l', f1, f2, f3⟩ := DrawConcerned_l0 (l1Cur.mk code 0 h0) (l1Cur.mk code i1 h1) s.Schema s.Version s.Tables q ch d1.SB 1000 0 i1 h1 [q] k1 (by simp) (by omega) (by omega) (fun x hx => by rw [List.mem_singleton.1 hx]; exact d2.qb)
  exact ⟨_, _, _, f1, d1.SB, f2, f3, d3, d4⟩

theorem concF_at {p : Query → Bool} : ∀ {l : List Query} {j : Int} {x : Int}, x ∈ concF p l j → j ≤ x ∧ x < j + l.length ∧ ∃ q, l[(x - j).toNat]? = some q ∧ p q = true
  | [], j, x, h => by simp [concF] at h
  | q :: l, j, x, h => by
    rw [concF] at h
    have rest : x ∈ concF p l (j + 1) → j ≤ x ∧ x < j + (q :: l).length ∧ ∃ q', (q :: l)[(x - j).toNat]? = some q' ∧ p q' = true := fun h => by
      obtain ⟨h1, h2, q', h3, h4⟩ := concF_at h
      refine ⟨by omega, by simp only [List.length_cons]; omega, q', ?_, h4⟩
      rw [show (x - j).toNat = (x - (j + 1)).toNat + 1 by omega, List.getElem?_cons_succ]
      exact h3
    split at h
    · rename_i hp
      rcases List.mem_cons.1 h with rfl | h
      · exact ⟨by omega, by simp only [List.length_cons]; omega, q, by simp, hp⟩
      · exact rest h
    · exact rest h
theorem concF_up {p : Query → Bool} : ∀ (l : List Query) (j : Int), (concF p l j).Pairwise (· < ·)
  | [], j => List.Pairwise.nil
  | q :: l, j => by
    rw [concF]
    split
    · exact List.Pairwise.cons (fun x hx => by have := (concF_at hx).1; omega) (concF_up l (j + 1))
    · exact concF_up l (j + 1)
theorem laws_FnTouched_l0 (s : Schema) (qs : List Query) (ch : List Change) (hq : ∀ q ∈ qs, QB q) (hql : qs.length ≤ 4) (hc : ChangeS_b ch) (K : Unit → Option Bool) : ∀ (k i : Nat), i ≤ (concF (concP s ch) qs 0).length → (concF (concP s ch) qs 0).length < i + k →
    laws_FnTouched.l0 (s, qs, ch) (concF (concP s ch) qs 0) K k i = K () := by
  have hlen := concF_len (p := concP s ch) (l := qs) (i := 0)
  intro k
  induction k with
  | zero => intro i h h'; omega
  | succ k ih =>
    intro i h h'
    rw [laws_FnTouched.l0, lenI_eq]
    by_cases hi : i < (concF (concP s ch) qs 0).length
    · have hx : (concF (concP s ch) qs 0)[i]? = some (concF (concP s ch) qs 0)[i] := List.getElem?_eq_getElem hi
      generalize hxe : (concF (concP s ch) qs 0)[i] = x at hx
      obtain ⟨a1, a2, q, a3, a4⟩ := concF_at (List.mem_of_getElem? hx)
      rw [Int.sub_zero] at a3
      have hqb := (hq q (List.mem_of_getElem? a3)).b
      have hany : impl_TouchesAny.f q ch = some true := by
        rw [impl_TouchesAny_eq q ch hqb hc]
        unfold concP at a4
        rw [Bool.and_eq_true] at a4
        rw [a4.2]
      rw [decide_eq_true (by omega), cond_true]
      have fin : ∀ (b : Bool) , b = false → ((gd (bo3 b false true) (getO (concF (concP s ch) qs 0) i)).bind fun x51 =>
          (gd (bo3 b false true) (getO qs x51)).bind fun x52 =>
          (gd (bo3 b false true) (impl_TouchesAny.f x52 ch)).bind fun r53 =>
          bif (bo3 b true (bo3 r53 false true)) then some false else laws_FnTouched.l0 (s, qs, ch) (concF (concP s ch) qs 0) K k (w64 ((i : Int) + 1))) = K () := by
        rintro b rfl
        rw [show bo3 false false true = true from rfl, gd_true, getO_nat, hx, Option.bind_some, gd_true, getO_pos a1, a3, Option.bind_some, gd_true, hany, Option.bind_some, w64_succ (by omega)]
        exact ih (i + 1) (by omega) (by omega)
      by_cases h0 : 0 < i
      · have hy : (concF (concP s ch) qs 0)[i - 1]? = some (concF (concP s ch) qs 0)[i - 1] := List.getElem?_eq_getElem (by omega)
        have hlt := List.pairwise_iff_getElem.1 (concF_up (p := concP s ch) qs 0) (i - 1) i (by omega) hi (by omega)
        rw [hxe] at hlt
        rw [decide_eq_true (by omega), gd_true, w64_id (by omega), show ((i : Int) - 1) = ((i - 1 : Nat) : Int) by omega, getO_nat, hy, Option.bind_some, gd_true, getO_nat, hx, Option.bind_some, decide_eq_false (by omega)]
        have := fin (bo3 true false false) rfl
        rw [getO_nat, hx] at this
        exact this
      · rw [decide_eq_false (by omega), gd_false, Option.bind_some, gd_false, Option.bind_some]
        exact fin _ rfl
    · rw [decide_eq_false (by omega), cond_false]
theorem laws_FnTouched_pure (a0 : List Int) (b0 : IntS_b a0) (r0 : ∀ y ∈ a0, 0 ≤ y ∧ y ≤ 255) : laws_FnTouched.f a0 = some true := by
  unfold laws_FnTouched.f
  rw [laws_big_eq, Option.bind_some]
  by_cases hb : 1048576 < (a0.length : Int)
  · rw [decide_eq_true hb]; rfl
  rw [decide_eq_false hb, cond_false]
  obtain ⟨q, c, e1, q1, c1⟩ := DrawTouches_ok a0 (by omega)
  obtain ⟨s, qs, ch, e2, s2, l2, q2, l3, c2⟩ := DrawConcerned_ok a0 (by omega)
  obtain ⟨p, m, e3, p3, l4, c3⟩ := DrawTouchesAny_ok a0 (by omega)
  have chb : ChangeS_b ch := ⟨by omega, fun x hx => (c2 x hx).b.1⟩
  have mb : ChangeS_b m := ⟨by omega, fun x hx => (c3 x hx).b.1⟩
  have qsb : QueryS_b qs := ⟨by omega, fun x hx => (q2 x hx).b⟩
  rw [bnd_some e1]
  dsimp only
  rw [bnd_some (impl_Touches_eq q c q1.qb.b c1.b.1), bnd_some (spec_Touches_eq q c q1.qb.b c1.b.1)]
  have ht : bo3 (bo3 (touchesB q c) (bo3 (touchesB q c) false true) (touchesB q c)) true (bo3 (bo3 (touchesB q c) (decide (c.Table ≠ q.Table)) false) (bo3 (bo3 q.Kids false true) true (decide (c.Table ≠ q.KidTable))) false) = false := by
    by_cases t1 : c.Table = q.Table
    · rw [decide_eq_false (by simpa using t1)]
      cases touchesB q c <;> rfl
    · by_cases t2 : q.Kids = true ∧ c.Table = q.KidTable
      · rw [decide_eq_false (p := c.Table ≠ q.KidTable) (by simpa using t2.2), t2.1]
        cases touchesB q c <;> cases decide (c.Table ≠ q.Table) <;> rfl
      · have : touchesB q c = false := by
          unfold touchesB
          rw [decide_eq_false t1]
          simp only [Bool.false_and, Bool.false_or, Bool.and_eq_false_iff]
          left
          cases hk : q.Kids with
          | false => exact .inl rfl
          | true => exact .inr (decide_eq_false fun h => t2 ⟨hk, h⟩)
        rw [this]; rfl
  rw [ht, cond_false, bnd_some e2]
  dsimp only
  have hlen := concF_len (p := concP s ch) (l := qs) (i := 0)
  rw [bnd_some (impl_Concerned_eq s qs ch s2.b qsb chb (by omega)), bnd_some (spec_Concerned_eq s qs ch s2.b qsb chb (by omega)), bnd_some (laws_sameInts_eq _ _ (by omega) (by omega)), decide_eq_true rfl, show bo3 true false true = false from rfl, cond_false, joinK_eq]
  have := laws_FnTouched_l0 s qs ch q2 l2 chb (fun _ => (spec_DrawTouchesAny.f a0).bind fun r79 =>
    (impl_TouchesAny.f r79.1 r79.2).bind fun r80 =>
    (spec_TouchesAny.f r79.1 r79.2).bind fun r81 =>
    some (bo3 r80 r81 (bo3 r81 false true))) (((lenI (concF (concP s ch) qs 0)) - 0).toNat + 1) 0 (by omega) (by rw [lenI_eq]; omega)
  rw [show ((0 : Nat) : Int) = 0 from rfl] at this
  rw [this, bnd_some e3]
  dsimp only
  rw [bnd_some (impl_TouchesAny_eq p m p3.qb.b mb), bnd_some (spec_TouchesAny_eq p m p3.qb.b mb)]
  cases m.any (touchesB p) <;> rfl

end Go.Proofs.Ytblacmggjfinhaa.L
