/- What the pure functions give. -/
import Derived.Test.YtbhleignjmcdiaaGreatDoorFnUntouchedPv0
import Derived.Test.YtbhleignjmcdiaaGreatDoorFnUntouchedU
namespace Go.Proofs.YtbhleignjmcdiaaGreatDoor.L
open Go
set_option linter.unusedVariables false
set_option linter.unusedSimpArgs false
theorem qRB (x y z : Int) : qdB.f x y z = some (decide (y ≤ x ∧ x ≤ z)) := by
 unfold qdB.f
 rw [qWF, Bool.decide_and]
def qFD (l : List Int) : Int := l.length
def IntS_b (l : List Int) : Prop := l.length ≤ 9223372036854775807
theorem qlS (l : List Int) : 0 ≤ qFD l := by unfold qFD; omega
def qKY (l : List Int) : Prop := ∀ x ∈ l, (-9223372036854775808 ≤ x ∧ x ≤ 9223372036854775807)
def qBC (x : Row) : Int := qFD x.Cells
def Row_b (x : Row) : Prop := IntS_b x.Cells
theorem qgC (x : Row) : 0 ≤ qBC x := by unfold qBC; exact by have := qlS x.Cells;  omega
def Row_r (x : Row) : Prop := (-9223372036854775808 ≤ x.Id ∧ x.Id ≤ 9223372036854775807) ∧ qKY x.Cells
def cmpB (op v z : Int) : Bool := if op = 1 then decide (v = z) else if op = 2 then decide (v < z) else if op = 3 then decide (z < v) else if op = 4 then decide (v ≠ z) else false
def holdsB (c : Cond) (r : Row) : Bool := decide (0 ≤ c.Col ∧ c.Col ≤ (r.Cells.length : Int) - 1) && cmpB c.Op (r.Cells.getD c.Col.toNat 0) c.V
def matchesB (q : Query) (r : Row) : Bool := q.Where.all fun c => holdsB c r
theorem qwQ (c : Cond) (r : Row) (h : Row_b r) : qiH.f c r = some (holdsB c r) := by
 have hl : r.Cells.length ≤ 9223372036854775807 := h
 unfold qiH.f holdsB
 rw [qG, qJB (by omega), qRB, Option.bind_some, qOC]
 by_cases d : 0 ≤ c.Col ∧ c.Col ≤ (r.Cells.length : Int) - 1
 ·
  rw [decide_eq_true d, Bool.not_true, cond_false, qJG d, Option.bind_some, Bool.true_and]
  simp only [qtQ, decide_eq_true_eq, qXU, qWF, cmpB]
  all_goals ((repeat' split) <;> simp_all)
 rw [decide_eq_false d, Bool.not_false, cond_true, Bool.false_and]
def qTd (x : Cond) : Prop := (-9223372036854775808 ≤ x.Col ∧ x.Col ≤ 9223372036854775807) ∧ (-9223372036854775808 ≤ x.Op ∧ x.Op ≤ 9223372036854775807) ∧ (-9223372036854775808 ≤ x.V ∧ x.V ≤ 9223372036854775807)
def qca (l : List Cond) : Int := l.length
def qeN (l : List Cond) : Prop := l.length ≤ 9223372036854775807
def qRc (l : List Cond) : Prop := ∀ x ∈ l, qTd x
theorem qdG (q : Query) (r : Row) (hq : qeN q.Where) (h : Row_b r) : qUC.f q r = some (matchesB q r) := by
 have hl : q.Where.length ≤ 9223372036854775807 := hq
 unfold qUC.f
 refine (qYD (f := qUC.l0 q r) (l := q.Where) (fun _ c => holdsB c r) (some false) (some true) (fun k i x hx => ?_) (fun k i hi => ?_) _ 0 (by omega) (by (try simp only [qG]); omega)).trans ?_
 ·
  have hi := at_lt hx
  rw [qUC.l0, qG, decide_eq_true (by omega), cond_true, qv, hx, Option.bind_some, qwQ _ _ h, Option.bind_some, qOC, qu (by omega)]
  cases holdsB x r <;> rfl
 · rw [qUC.l0, qG, decide_eq_false (by omega), cond_false]
 rw [qLD, matchesB]
 cases q.Where.all fun c => holdsB c r <;> rfl
def cellF (r : Row) (col : Int) : Int := if 0 ≤ col ∧ col ≤ (r.Cells.length : Int) - 1 then r.Cells.getD col.toNat 0 else 0
def aheadB (q : Query) (a b : Row) : Bool :=
 if q.Order = 0 then decide (a.Id < b.Id) else
  let x := cellF a (w64 (q.Order - 1)); let y := cellF b (w64 (q.Order - 1))
  if x = y then decide (a.Id < b.Id) else if q.Down then decide (y < x) else decide (x < y)
theorem qsE (r : Row) (col : Int) (h : Row_b r) : qAE.f r col = some (cellF r col) := by
 have hl : r.Cells.length ≤ 9223372036854775807 := h
 unfold qAE.f cellF
 rw [qG, qJB (by omega), qRB, Option.bind_some, qOC]
 by_cases d : 0 ≤ col ∧ col ≤ (r.Cells.length : Int) - 1
 · rw [decide_eq_true d, Bool.not_true, cond_false, qJG d, Option.bind_some, if_pos d]
 rw [decide_eq_false d, Bool.not_false, cond_true, if_neg d]
def qeG (x : Change) : Int := qBC x.Old + qBC x.New
def qEI (x : Change) : Prop := Row_b x.Old ∧ Row_b x.New
def qda (x : Change) : Prop := (-9223372036854775808 ≤ x.Table ∧ x.Table ≤ 9223372036854775807) ∧ Row_r x.Old ∧ Row_r x.New
def qea (x : Query) : Int := qca x.Where + qFD x.Show
def qfG (x : Query) : Prop := qeN x.Where ∧ IntS_b x.Show
def qSc (x : Query) : Prop := (-9223372036854775808 ≤ x.Table ∧ x.Table ≤ 9223372036854775807) ∧ qRc x.Where ∧ (-9223372036854775808 ≤ x.Order ∧ x.Order ≤ 9223372036854775807) ∧ (-9223372036854775808 ≤ x.First ∧ x.First ≤ 9223372036854775807) ∧ qKY x.Show ∧ (-9223372036854775808 ≤ x.KidTable ∧ x.KidTable ≤ 9223372036854775807) ∧ (-9223372036854775808 ≤ x.KidCol ∧ x.KidCol ≤ 9223372036854775807)
def touchesB (q : Query) (c : Change) : Bool :=
 (decide (c.Table = q.Table) && (c.Had && matchesB q c.Old || c.Has && matchesB q c.New)) || (q.Kids && decide (c.Table = q.KidTable) && ((c.Had != c.Has) || (c.Had && decide (cellF c.Old q.KidCol ≠ cellF c.New q.KidCol))))
theorem qfN (q : Query) (c : Change) (hq : qfG q) (hc : qEI c) : qrF.f q c = some (touchesB q c) := by
 unfold qrF.f touchesB
 simp only [qdG _ _ hq.1 hc.1, qdG _ _ hq.1 hc.2, qsE _ _ hc.1, qsE _ _ hc.2, gd_of, Option.bind_some]
 generalize cellF c.Old q.KidCol = x
 generalize cellF c.New q.KidCol = y
 generalize matchesB q c.Old = m
 generalize matchesB q c.New = n
 rw [show decide (c.Table ≠ q.KidTable) = !decide (c.Table = q.KidTable) from by simp]
 cases decide (c.Table = q.Table) <;> cases m <;> cases n <;> cases q.Kids <;> cases decide (c.Table = q.KidTable) <;> cases c.Had <;> cases c.Has <;> first | rfl | (simp [bo3])
def qYJ (l : List Change) : Int := l.length + (l.map qeG).sum
def qgG (l : List Change) : Prop := l.length ≤ 9223372036854775807 ∧ ∀ x ∈ l, qEI x
def qUd (l : List Change) : Prop := ∀ x ∈ l, qda x
theorem qFH (q : Query) (l : List Change) (hq : qfG q) (hl : qgG l) : qpB.f q l = some (l.any (touchesB q)) := by
 obtain ⟨h1, h2⟩ := hl
 unfold qpB.f
 refine (qYD (f := qpB.l0 q l) (l := l) (fun _ c => !touchesB q c) (some true) (some false) (fun k i x hx => ?_) (fun k i hi => ?_) _ 0 (by omega) (by (try simp only [qG]); omega)).trans ?_
 ·
  have hi := at_lt hx
  rw [qpB.l0, qG, decide_eq_true (by omega), cond_true, qv, hx, Option.bind_some, qfN _ _ hq (h2 x (List.mem_of_getElem? hx)), Option.bind_some, qu (by omega)]
  cases touchesB q x <;> rfl
 · rw [qpB.l0, qG, decide_eq_false (by omega), cond_false]
 rw [qLD, show (l.all fun c => !touchesB q c) = !(l.any (touchesB q)) from by rw [List.not_any_eq_all_not]]
 cases l.any (touchesB q) <;> rfl
theorem qVC (x y z : Int) : qnC.f x y z = some (decide (y ≤ x ∧ x ≤ z)) := by
 unfold qnC.f
 rw [qWF, Bool.decide_and]
theorem qgN (c : Cond) (r : Row) (h : Row_b r) : qsF.f c r = some (holdsB c r) := by
 have hl : r.Cells.length ≤ 9223372036854775807 := h
 unfold qsF.f holdsB
 rw [qG, qJB (by omega), qVC, Option.bind_some, qOC]
 by_cases d : 0 ≤ c.Col ∧ c.Col ≤ (r.Cells.length : Int) - 1
 ·
  rw [decide_eq_true d, Bool.not_true, cond_false, qJG d, Option.bind_some, Bool.true_and]
  simp only [qtQ, decide_eq_true_eq, qXU, qWF, cmpB]
  all_goals ((repeat' split) <;> simp_all)
 rw [decide_eq_false d, Bool.not_false, cond_true, Bool.false_and]
theorem qtI (q : Query) (r : Row) (hq : qeN q.Where) (h : Row_b r) : qaC.f q r = some (matchesB q r) := by
 have hl : q.Where.length ≤ 9223372036854775807 := hq
 unfold qaC.f
 refine (qYD (f := qaC.l0 q r) (l := q.Where) (fun _ c => holdsB c r) (some false) (some true) (fun k i x hx => ?_) (fun k i hi => ?_) _ 0 (by omega) (by (try simp only [qG]); omega)).trans ?_
 ·
  have hi := at_lt hx
  rw [qaC.l0, qG, decide_eq_true (by omega), cond_true, qv, hx, Option.bind_some, qgN _ _ h, Option.bind_some, qOC, qu (by omega)]
  cases holdsB x r <;> rfl
 · rw [qaC.l0, qG, decide_eq_false (by omega), cond_false]
 rw [qLD, matchesB]
 cases q.Where.all fun c => holdsB c r <;> rfl
theorem qxQ (q : Query) (c : Change) (hq : qfG q) (hc : qEI c) : qjH.f q c = some (decide (c.Table = q.Table) && (c.Had && matchesB q c.Old || c.Has && matchesB q c.New)) := by
 unfold qjH.f
 simp only [qtI _ _ hq.1 hc.1, qtI _ _ hq.1 hc.2, gd_of, Option.bind_some]
 cases decide (c.Table = q.Table) <;> cases c.Had <;> cases c.Has <;> cases matchesB q c.Old <;> cases matchesB q c.New <;> rfl
theorem qoJ (r : Row) (col : Int) (h : Row_b r) : qXF.f r col = some (cellF r col) := by
 have hl : r.Cells.length ≤ 9223372036854775807 := h
 unfold qXF.f cellF
 rw [qG, qJB (by omega), qVC, Option.bind_some, qOC]
 by_cases d : 0 ≤ col ∧ col ≤ (r.Cells.length : Int) - 1
 · rw [decide_eq_true d, Bool.not_true, cond_false, qJG d, Option.bind_some, if_pos d]
 rw [decide_eq_false d, Bool.not_false, cond_true, if_neg d]
theorem qhN (q : Query) (c : Change) (hq : qfG q) (hc : qEI c) : qtF.f q c = some (touchesB q c) := by
 unfold qtF.f touchesB
 simp only [qxQ _ _ hq hc, qoJ _ _ hc.1, qoJ _ _ hc.2, gd_of, Option.bind_some]
 generalize (decide (c.Table = q.Table) && (c.Had && matchesB q c.Old || c.Has && matchesB q c.New)) = b
 generalize cellF c.Old q.KidCol = x
 generalize cellF c.New q.KidCol = y
 rw [show decide (c.Table ≠ q.KidTable) = !decide (c.Table = q.KidTable) from by simp]
 cases b <;> cases q.Kids <;> cases decide (c.Table = q.KidTable) <;> cases c.Had <;> cases c.Has <;> first | rfl | (simp [bo3])
theorem qnK (q : Query) (l : List Change) (hq : qfG q) (hl : qgG l) : qvB.f q l = some (l.any (touchesB q)) := by
 obtain ⟨h1, h2⟩ := hl
 unfold qvB.f
 refine (qYD (f := qvB.l0 q l) (l := l) (fun _ c => !touchesB q c) (some true) (some false) (fun k i x hx => ?_) (fun k i hi => ?_) _ 0 (by omega) (by (try simp only [qG]); omega)).trans ?_
 ·
  have hi := at_lt hx
  rw [qvB.l0, qG, decide_eq_true (by omega), cond_true, qv, hx, Option.bind_some, qhN _ _ hq (h2 x (List.mem_of_getElem? hx)), Option.bind_some, qu (by omega)]
  cases touchesB q x <;> rfl
 · rw [qvB.l0, qG, decide_eq_false (by omega), cond_false]
 rw [qLD, show (l.all fun c => !touchesB q c) = !(l.any (touchesB q)) from by rw [List.not_any_eq_all_not]]
 cases l.any (touchesB q) <;> rfl
def qHE (x : Schema) : Int := qFD x.Cols
def qJD (x : Schema) : Prop := IntS_b x.Cols
theorem qEF (x : Schema) : 0 ≤ qHE x := by unfold qHE; exact by have := qlS x.Cols;  omega
def qfa (x : Schema) : Prop := qKY x.Cols
theorem qbD (s : Schema) (t : Int) (h : qJD s) : qHD.f s t = some (decide (0 ≤ t ∧ t ≤ (s.Cols.length : Int) - 1)) := by
 have hl : s.Cols.length ≤ 9223372036854775807 := h
 unfold qHD.f
 rw [qG, qJB (by omega), qRB, Option.bind_some]
theorem qFI (n : Int) : qYF.f n = some (decide (-1000000000 ≤ n ∧ n ≤ 1000000000)) := by
 unfold qYF.f
 rw [qRB, Option.bind_some]
def schemaB (s : Schema) : Bool := s.Cols.all (fun n => decide (1 ≤ n ∧ n ≤ 4)) && decide (1 ≤ (s.Cols.length : Int) ∧ (s.Cols.length : Int) ≤ 3)
def kidsB (s : Schema) (q : Query) : Bool :=
 if q.Kids then decide (0 ≤ q.KidTable ∧ q.KidTable ≤ (s.Cols.length : Int) - 1) && decide (0 ≤ q.KidCol ∧ q.KidCol ≤ w64 (s.Cols.getD q.KidTable.toNat 0 - 1)) else decide (q.KidTable = 0) && decide (q.KidCol = 0)
def condB (cols : Int) (c : Cond) : Bool := decide (0 ≤ c.Col ∧ c.Col ≤ w64 (cols - 1)) && decide (1 ≤ c.Op ∧ c.Op ≤ 4) && decide (-1000000000 ≤ c.V ∧ c.V ≤ 1000000000)
def showB (cols : Int) (l : List Int) : Bool := allFrom (fun i x => decide (0 ≤ x ∧ x ≤ w64 (cols - 1)) && !(decide (0 < i) && decide (x ≤ l.getD (i - 1) 0))) l 0
def queryB (s : Schema) (q : Query) : Bool :=
  schemaB s && decide (0 ≤ q.Table ∧ q.Table ≤ (s.Cols.length : Int) - 1) &&
    (let cols := s.Cols.getD q.Table.toNat 0
     q.Where.all (condB cols) && showB cols q.Show && (decide (q.Where.length ≤ 3) && decide (0 ≤ q.Order ∧ q.Order ≤ cols) && (!q.Down || decide (0 < q.Order)) && decide (0 ≤ q.First ∧ q.First ≤ 24) && kidsB s q))
theorem qLY {r : Bool} {l : List Int} {i : Nat} {x : Int} (hx : l[i]? = some x) (hl : i < 9223372036854775807) : gd (bo3 r (decide (0 < (i : Int))) false) (getO l (w64 ((i : Int) - 1))) = some (bif bo3 r (decide (0 < (i : Int))) false then l.getD (i - 1) 0 else 0) := by
 refine qJY _ fun h => ?_
 have h0 := of_decide_eq_true (bo_r h)
 have hi := at_lt hx
 rw [qJB (by omega), show ((i : Int) - 1) = ((i - 1 : Nat) : Int) by omega, qv, List.getD_eq_getElem?_getD, List.getElem?_eq_getElem (by omega)]
 rfl
theorem qiN (s : Schema) (q : Query) (h : qJD s) : quF.f s q = some (kidsB s q) := by
 unfold quF.f kidsB
 rw [qOC]
 cases q.Kids with
 | false => simp [qWF]
 | true =>
  rw [Bool.not_true, cond_false, qbD _ _ h, Option.bind_some, if_pos rfl]
  by_cases d : 0 ≤ q.KidTable ∧ q.KidTable ≤ (s.Cols.length : Int) - 1
  · rw [decide_eq_true d, qqC, qJG d, Option.bind_some, qqC, qRB, Option.bind_some, qWF]
  rw [decide_eq_false d, qhF, Option.bind_some, qhF, Option.bind_some, qWF]
  rfl
theorem qIE (s : Schema) (h : qJD s) : qmB.f s = some (schemaB s) := by
 have hl : s.Cols.length ≤ 9223372036854775807 := h
 unfold qmB.f joinK
 refine (qYD (f := qmB.l0 s _) (l := s.Cols) (fun _ n => decide (1 ≤ n ∧ n ≤ 4)) (some false) (some (decide (1 ≤ (s.Cols.length : Int) ∧ (s.Cols.length : Int) ≤ 3))) (fun k i x hx => ?_) (fun k i hi => ?_) _ 0 (by omega) (by (try simp only [qG]); omega)).trans ?_
 ·
  have hi := at_lt hx
  rw [qmB.l0, qG, decide_eq_true (by omega), cond_true, qv, hx, Option.bind_some, qRB, Option.bind_some, qOC, qu (by omega)]
  cases decide (1 ≤ x ∧ x ≤ 4) <;> rfl
 · rw [qmB.l0, qG, decide_eq_false (by omega), cond_false, qRB, Option.bind_some]
 rw [qLD, schemaB]
 cases s.Cols.all fun n => decide (1 ≤ n ∧ n ≤ 4) <;> rfl
theorem qOF (s : Schema) (q : Query) (h : qJD s) (hq : qfG q) : qXB.f s q = some (queryB s q) := by
 obtain ⟨hw, hs⟩ := hq
 have hwl : q.Where.length ≤ 9223372036854775807 := hw
 have hsl : q.Show.length ≤ 9223372036854775807 := hs
 unfold qXB.f queryB
 rw [qIE _ h, Option.bind_some]
 cases schemaB s with
 | false => rfl
 | true =>
  rw [show bo3 (bo3 true false true) false true = true from rfl, qqC, qbD _ _ h, Option.bind_some]
  by_cases d : 0 ≤ q.Table ∧ q.Table ≤ (s.Cols.length : Int) - 1
  case neg => rw [decide_eq_false d]; rfl
  rw [decide_eq_true d, show bo3 (bo3 true false true) true (bo3 true false true) = false from rfl, cond_false, qJG d, Option.bind_some]
  generalize s.Cols.getD q.Table.toNat 0 = cols
  simp only [joinK, Bool.true_and]
  refine (qYD (f := qXB.l0 q cols _) (l := q.Where) (fun _ c => condB cols c) (some false) (some (showB cols q.Show && (decide (q.Where.length ≤ 3) && decide (0 ≤ q.Order ∧ q.Order ≤ cols) && (!q.Down || decide (0 < q.Order)) && decide (0 ≤ q.First ∧ q.First ≤ 24) && kidsB s q))) (fun k i x hx => ?_) (fun k i hi => ?_) _ 0 (by omega) (by (try simp only [qG]); omega)).trans ?_
  ·
   have hi := at_lt hx
   rw [qXB.l0, qG, decide_eq_true (by omega), cond_true, qv, hx, Option.bind_some, qRB, Option.bind_some, qRB, qFI, qu (by omega)]
   unfold condB
   cases decide (0 ≤ x.Col ∧ x.Col ≤ w64 (cols - 1)) <;> cases decide (1 ≤ x.Op ∧ x.Op ≤ 4) <;> cases decide (-1000000000 ≤ x.V ∧ x.V ≤ 1000000000) <;> rfl
  ·
   rw [qXB.l0, qG, decide_eq_false (by omega), cond_false]
   refine (qYD (f := qXB.l1 q cols _) (l := q.Show) (fun i x => decide (0 ≤ x ∧ x ≤ w64 (cols - 1)) && !(decide (0 < i) && decide (x ≤ q.Show.getD (i - 1) 0))) (some false) (some (decide (q.Where.length ≤ 3) && decide (0 ≤ q.Order ∧ q.Order ≤ cols) && (!q.Down || decide (0 < q.Order)) && decide (0 ≤ q.First ∧ q.First ≤ 24) && kidsB s q)) (fun k i x hx => ?_) (fun k i hi => ?_) _ 0 (by omega) (by (try simp only [qG]); omega)).trans ?_
   ·
    have hi := at_lt hx
    rw [qXB.l1, qG, decide_eq_true (by omega), cond_true, qv, hx, Option.bind_some, qRB, Option.bind_some, qLY hx (by omega), Option.bind_some, qu (by omega)]
    rw [show decide (0 < (i : Int)) = decide (0 < i) from by simp]
    cases decide (0 ≤ x ∧ x ≤ w64 (cols - 1)) <;> cases decide (0 < i) <;> (try rfl)
    simp only [qWF, qOC, qIY, Bool.not_true, Bool.not_false, Bool.true_and, cond_true]
    cases decide (x ≤ q.Show.getD (i - 1) 0) <;> rfl
   ·
    rw [qXB.l1, qG, decide_eq_false (by omega), cond_false, qRB, Option.bind_some, qRB, qiN _ _ h]
    rw [show decide ((q.Where.length : Int) ≤ 3) = decide (q.Where.length ≤ 3) from by simp; omega]
    cases decide (q.Where.length ≤ 3) <;> cases decide (0 ≤ q.Order ∧ q.Order ≤ cols) <;> cases q.Down <;> cases decide (0 < q.Order) <;> cases decide (0 ≤ q.First ∧ q.First ≤ 24) <;> cases kidsB s q <;> rfl
   unfold showB
   cases allFrom (fun i x => decide (0 ≤ x ∧ x ≤ w64 (cols - 1)) && !(decide (0 < i) && decide (x ≤ q.Show.getD (i - 1) 0))) q.Show 0 <;> rfl
  rw [qLD]
  cases q.Where.all fun c => condB cols c <;> simp
def qVd (l : List Query) : Int := l.length + (l.map qea).sum
def qga (l : List Query) : Prop := l.length ≤ 9223372036854775807 ∧ ∀ x ∈ l, qfG x
def qie (l : List Query) : Prop := ∀ x ∈ l, qSc x
def concP (s : Schema) (ch : List Change) (q : Query) : Bool := queryB s q && ch.any (touchesB q)
def concF (p : Query → Bool) : List Query → Int → List Int
 | [], _ => []
 | q :: l, i => if p q then i :: concF p l (i + 1) else concF p l (i + 1)
theorem qbL (s : Schema) (qs : List Query) (ch : List Change) (hs : qJD s) (hq : qga qs) (hc : qgG ch) (hz : qs.length ≤ 1048576) : qyB.f s qs ch = some (concF (concP s ch) qs 0) := by
 obtain ⟨hql, hq2⟩ := hq
 show qyB.l0 s qs ch (((lenI qs) - 0).toNat + 1) [] ((0 : Nat) : Int) = _
 have key : ∀ (k i : Nat) (acc : List Int), i ≤ qs.length → qs.length < i + k → acc.length ≤ i → qyB.l0 s qs ch k acc i = some (acc ++ concF (concP s ch) (qs.drop i) i) := by
  intro k
  induction k with
  | zero => intro i acc h h'; omega
  | succ k ih =>
   intro i acc h h' ha
   by_cases hi : i < qs.length
   ·
    have hx : qs[i]? = some qs[i] := List.getElem?_eq_getElem hi
    have hxb := hq2 _ (List.mem_of_getElem? hx)
    rw [qyB.l0, qG, decide_eq_true (by omega), cond_true, qv, hx, Option.bind_some, qOF _ _ hs hxb, Option.bind_some, qFH _ _ hxb hc, List.drop_eq_getElem_cons hi, concF, qu (by omega), show (i : Int) + 1 = ((i + 1 : Nat) : Int) from rfl]
    have e : ∀ b : Bool, gd b (some (ch.any (touchesB qs[i]))) = some (b && ch.any (touchesB qs[i])) := by intro b; cases b <;> rfl
    rw [e, Option.bind_some]
    have ep : bo3 (queryB s qs[i]) (queryB s qs[i] && ch.any (touchesB qs[i])) false = concP s ch qs[i] := by unfold concP; cases queryB s qs[i] <;> rfl
    rw [ep]
    by_cases hp : concP s ch qs[i] = true
    · rw [hp, cond_true, if_pos rfl, Option.bind_some, qwC (by simp only [List.length_cons, List.length_nil]; omega), Option.bind_some, ih (i + 1) _ (by omega) (by omega) (by simp; omega), List.append_assoc, List.singleton_append]
    rw [if_neg hp, show concP s ch qs[i] = false from by simpa using hp, cond_false]
    exact ih (i + 1) acc (by omega) (by omega) (by omega)
   rw [qyB.l0, qG, decide_eq_false (by omega), cond_false, List.drop_eq_nil_of_le (by omega), concF, List.append_nil]
 have := key (((lenI qs) - 0).toNat + 1) 0 [] (by omega) (by simp only [qG]; omega) (by simp)
 rw [List.drop_zero, List.nil_append] at this
 exact this
mutual
def szj : Json → Int
 | ⟨_, _, _, l, ns⟩ => szL l + (ns.length : Int)
def szL : List Json → Int
 | [] => 0
 | x :: l => 1 + szj x + szL l
end
mutual
def dpj : Json → Nat
 | ⟨_, _, _, l, _⟩ => dpL l + 1
def dpL : List Json → Nat
 | [] => 0
 | x :: l => max (dpj x) (dpL l)
end
mutual
theorem szj_0 : ∀ x : Json, 0 ≤ szj x
 | ⟨_, _, _, l, ns⟩ => by have := szL_0 l; rw [szj]; omega
theorem szL_0 : ∀ l : List Json, 0 ≤ szL l
 | [] => by rw [szL]; omega
 | x :: l => by have := szj_0 x; have := szL_0 l; rw [szL]; omega
end
theorem qMY : ∀ l : List Json, szL l = (l.map fun x => 1 + szj x).sum
 | [] => by simp [szL]
 | x :: l => by rw [szL, qMY l, List.map_cons, List.sum_cons]
theorem qNY : ∀ l : List Json, (l.length : Int) ≤ szL l
 | [] => by simp [szL]
 | x :: l => by have := qNY l; have := szj_0 x; rw [szL]; simp only [List.length_cons]; omega
theorem qTc {l : List Json} {x : Json} (h : x ∈ l) : 1 + szj x ≤ szL l := by
 rw [qMY]; exact qcE (s := fun x => 1 + szj x) (fun x => by have := szj_0 x; omega) h
theorem qOY : ∀ {l : List Json} {x : Json}, x ∈ l → dpj x ≤ dpL l
 | y :: l, x, h => by
  rw [dpL]
  rcases List.mem_cons.1 h with rfl | h
  · omega
  have := qOY h; omega
theorem qbb (x : Json) : szj x = szL x.List_ + (x.Names.length : Int) := by cases x; rw [szj]
theorem qmS (x : Json) : dpj x = dpL x.List_ + 1 := by cases x; rw [dpj]
def qUc (x : Json) : Int := szj x + (if dpj x ≤ 500 then 0 else 4611686018427387904)
def qoe (x : Json) : Prop := qUc x ≤ 1099511627776
theorem ba_eq {x y : ByteArray} : (x.toList == y.toList) = decide (x = y) := by
 have h : x.toList = y.toList ↔ x = y := by
  constructor
  ·
   intro h
   have : x.data.toList = y.data.toList := by
    have e : ∀ z : ByteArray, z.toList = z.data.toList := fun z => ByteArray.toList_eq z
    rw [← e, ← e]; exact h
   cases x; cases y; simp_all
  rintro rfl; rfl
 by_cases c : x = y
 · subst c; simp
 rw [decide_eq_false c]
 simp only [beq_eq_false_iff_ne, ne_eq]
 exact fun e => c (h.1 e)
theorem qYU (x y : ByteArray) : Ls.sc .neq x y = decide (x ≠ y) := by
 show (!(x.toList == y.toList)) = _
 rw [ba_eq]; by_cases c : x = y <;> simp [c]
theorem qVc (x y : ByteArray) : Ls.sc .eql x y = decide (x = y) := by
 show (x.toList == y.toList) = _
 rw [ba_eq]
def txtB (s : ByteArray) : Bool := (s.data.toList.all fun b => decide (32 ≤ b.toNat ∧ b.toNat ≤ 126)) && decide (s.size ≤ 60)
def namesB (l : List ByteArray) : Bool := allFrom (fun i x => txtB x && !(decide (0 < i) && Ls.sc .geq (l.getD (i - 1) default) x)) l 0
theorem sx_at {s : ByteArray} {i : Nat} {b : UInt8} (h : s.data.toList[i]? = some b) : Ls.sx s (i : Int) = (b.toNat : Int) := by
 show ((s.data.toList.getD (i : Int).toNat 0).toNat : Int) = _
 rw [Int.toNat_natCast, List.getD_eq_getElem?_getD, h]; rfl
theorem qcb (s : ByteArray) : Ls.sl s = (s.data.toList.length : Int) := by
 show (s.size : Int) = _
 rw [Array.length_toList]; rfl
theorem qyQ (s : ByteArray) : s.size = s.data.toList.length := by rw [Array.length_toList]; rfl
theorem qWd {s : ByteArray} {i : Nat} (h : i < s.data.toList.length) : inS s (i : Int) = some () := by
 unfold inS; rw [if_pos]; rw [qyQ]; omega
def ownB (j : Json) : Bool :=
 bif (decide (0 < j.List_.length) && decide (j.Kind ≠ 4) && decide (j.Kind ≠ 5)) || (decide (0 < j.Names.length) && decide (j.Kind ≠ 5)) then false else
 bif (decide (j.N ≠ 0) && decide (j.Kind ≠ 1) && decide (j.Kind ≠ 2)) || (decide (j.S ≠ ByteArray.mk #[]) && decide (j.Kind ≠ 3)) then false else
 if j.Kind = 1 then decide (0 ≤ j.N ∧ j.N ≤ 1) else if j.Kind = 2 then decide (-1000000000 ≤ j.N ∧ j.N ≤ 1000000000) else if j.Kind = 3 then txtB j.S else
 if j.Kind = 5 then decide (j.Names.length = j.List_.length) && namesB j.Names else decide (j.Kind = 0) || decide (j.Kind = 4)
def capL (f : Json → Int) : Int → List Json → Int
 | n, [] => n
 | n, x :: l => if 400 < n + f x then 401 else capL f (n + f x) l
def sizeF : Nat → Json → Int
 | 0, _ => 401
 | d + 1, j => if ownB j = true then capL (sizeF d) 1 j.List_ else 401
theorem qzP {f : Json → Int} (hf : ∀ x, 1 ≤ f x ∧ f x ≤ 401) : ∀ (l : List Json) (n : Int), 1 ≤ n → n ≤ 401 → 1 ≤ capL f n l ∧ capL f n l ≤ 401
 | [], n, h, h' => ⟨h, h'⟩
 | x :: l, n, h, h' => by
  rw [capL]
  have := hf x
  split
  · omega
  exact qzP hf l _ (by omega) (by omega)
theorem qhG : ∀ (d : Nat) (j : Json), 1 ≤ sizeF d j ∧ sizeF d j ≤ 401
 | 0, j => by rw [sizeF]; omega
 | d + 1, j => by
  rw [sizeF]
  split
  · exact qzP (qhG d) _ _ (by omega) (by omega)
  omega
def jsonB (j : Json) : Bool := decide (sizeF 6 j ≤ 400)
mutual
def Jw : Json → Prop
 | ⟨_, _, s, l, ns⟩ => (s.size : Int) ≤ 4611686018427387904 ∧ (∀ x ∈ ns, (x.size : Int) ≤ 4611686018427387904) ∧ (ns.length : Int) ≤ 4611686018427387904 ∧ (l.length : Int) ≤ 4611686018427387904 ∧ JwL l
def JwL : List Json → Prop
 | [] => True
 | x :: l => Jw x ∧ JwL l
end
theorem qPY : ∀ {l : List Json}, JwL l → ∀ {x}, x ∈ l → Jw x
 | y :: l, h, x, hx => by
  rw [JwL] at h
  rcases List.mem_cons.1 hx with rfl | hx
  · exact h.1
  exact qPY h.2 hx
theorem qdb : ∀ {l : List Json}, (∀ x ∈ l, Jw x) → JwL l
 | [], _ => by rw [JwL]; trivial
 | y :: l, h => by rw [JwL]; exact ⟨h y (by simp), qdb fun x hx => h x (by simp [hx])⟩
theorem Jw_eq (j : Json) : Jw j ↔ (j.S.size : Int) ≤ 4611686018427387904 ∧ (∀ x ∈ j.Names, (x.size : Int) ≤ 4611686018427387904) ∧ (j.Names.length : Int) ≤ 4611686018427387904 ∧ (j.List_.length : Int) ≤ 4611686018427387904 ∧ ∀ x ∈ j.List_, Jw x := by
 cases j
 rw [Jw]
 exact ⟨fun ⟨a, b, c, d, e⟩ => ⟨a, b, c, d, fun x hx => qPY e hx⟩, fun ⟨a, b, c, d, e⟩ => ⟨a, b, c, d, qdb e⟩⟩
def k3B (j : Json) : Bool := (decide (j.Kind ≠ 3) && decide (j.S ≠ ByteArray.mk #[])) || ((decide (j.Kind = 3) || decide (4 ≤ j.Kind)) && decide (j.N ≠ 0)) || (decide (j.Kind < 4) && decide (0 < j.List_.length)) ||
 !(if j.Kind = 5 then namesB j.Names && decide (j.Names.length = j.List_.length) else decide (j.Names.length = 0))
def preB (j : Json) : Bool := if j.Kind = 0 then decide (j.N = 0) else if j.Kind = 1 then decide (0 ≤ j.N ∧ j.N ≤ 1) else if j.Kind = 2 then decide (-1000000000 ≤ j.N ∧ j.N ≤ 1000000000) else if j.Kind = 3 then txtB j.S else decide (j.Kind = 4) || decide (j.Kind = 5)
theorem qXd (j : Json) : ownB j = (preB j && !k3B j) := by
 unfold ownB preB k3B
 have e2 : decide (j.Names.length = 0) = !decide (0 < j.Names.length) := by
  cases j.Names <;> simp
 have e7 : decide (j.N ≠ 0) = !decide (j.N = 0) := by by_cases c : j.N = 0 <;> simp [c]
 rw [e2, e7]
 generalize decide (0 < j.List_.length) = b1
 generalize decide (0 < j.Names.length) = b2
 generalize decide (j.S ≠ ByteArray.mk #[]) = b3
 generalize decide (j.Names.length = j.List_.length) = b4
 generalize namesB j.Names = b5
 generalize txtB j.S = b6
 generalize decide (0 ≤ j.N ∧ j.N ≤ 1) = b8
 generalize decide (-1000000000 ≤ j.N ∧ j.N ≤ 1000000000) = b9
 generalize decide (j.N = 0) = b7
 by_cases k0 : j.Kind = 0
 · simp [k0]; cases b1 <;> cases b2 <;> cases b3 <;> cases b7 <;> simp
 by_cases k1 : j.Kind = 1
 · simp [k1]; cases b1 <;> cases b2 <;> cases b3 <;> cases b8 <;> simp
 by_cases k2 : j.Kind = 2
 · simp [k2]; cases b1 <;> cases b2 <;> cases b3 <;> cases b9 <;> simp
 by_cases k3 : j.Kind = 3
 · simp [k3]; cases b1 <;> cases b2 <;> cases b6 <;> cases b7 <;> simp
 by_cases k4 : j.Kind = 4
 · simp [k4]; cases b1 <;> cases b2 <;> cases b3 <;> cases b7 <;> simp
 by_cases k5 : j.Kind = 5
 · simp [k5]; cases b3 <;> cases b7 <;> cases b4 <;> cases b5 <;> simp
 simp [k0, k1, k2, k3, k4, k5]
theorem qzO (s : ByteArray) (hs : (s.data.toList.length : Int) ≤ 4611686018427387904) : ∀ (k i : Nat), i ≤ s.data.toList.length → s.data.toList.length < i + k → qBD.l0 s k (s.data.toList.length : Int) i = some (((s.data.toList.drop i).all fun b => decide (32 ≤ b.toNat ∧ b.toNat ≤ 126)) && decide (s.size ≤ 60)) := by
 intro k
 induction k with
 | zero => intro i h h'; omega
 | succ k ih =>
  intro i h h'
  rw [qBD.l0]
  by_cases hi : i < s.data.toList.length
  ·
   have hx := List.getElem?_eq_getElem hi
   have hb : (s.data.toList[i]).toNat < 256 := UInt8.toNat_lt _
   rw [decide_eq_true (by omega), cond_true, qWd hi, Option.bind_some, sx_at hx, qJB (by omega), qRB, Option.bind_some, List.drop_eq_getElem_cons hi, List.all_cons, qu (by omega), ih (i + 1) (by omega) (by omega), qOC]
   by_cases c : 32 ≤ (s.data.toList[i]).toNat ∧ (s.data.toList[i]).toNat ≤ 126
   · rw [decide_eq_true (by omega), decide_eq_true c]; simp
   rw [decide_eq_false (by omega), decide_eq_false c]; simp
  rw [decide_eq_false (by omega), cond_false, List.drop_eq_nil_of_le (by omega), qcb, qyQ]
  simp
  omega
theorem qpJ (s : ByteArray) (hs : (s.size : Int) ≤ 4611686018427387904) : qBD.f s = some (txtB s) := by
 unfold qBD.f txtB
 rw [qyQ] at hs
 rw [qcb]
 exact qzO s hs _ 0 (by omega) (by omega)
theorem qJW (l : List ByteArray) (i : Nat) (x : ByteArray) (r : Bool) (hx : l[i]? = some x) (hl : (l.length : Int) ≤ 4611686018427387904) : (gd (bo3 (bo3 (bo3 r false true) false true) (decide (0 < (i : Int))) false) (getO l (w64 ((i : Int) - 1)))) = some (bif (r && decide (0 < i)) then l.getD (i - 1) default else default) := by
 have hi := at_lt hx
 cases r with
 | false => rfl
 | true =>
  by_cases c : 0 < i
  ·
   rw [decide_eq_true (by omega), decide_eq_true c, show bo3 (bo3 (bo3 true false true) false true) true false = true from rfl, qqC, qJB (by omega), show (i : Int) - 1 = ((i - 1 : Nat) : Int) by omega, qv, List.getD_eq_getElem?_getD, List.getElem?_eq_getElem (by omega)]
   rfl
  rw [decide_eq_false (by omega), decide_eq_false c]; rfl
theorem qjN (l : List ByteArray) (hl : (l.length : Int) ≤ 4611686018427387904) (hs : ∀ x ∈ l, (x.size : Int) ≤ 4611686018427387904) : qjC.f l = some (namesB l) := by
 unfold qjC.f namesB
 refine (qYD (f := qjC.l0 l) (l := l) (fun i x => txtB x && !(decide (0 < i) && Ls.sc .geq (l.getD (i - 1) default) x)) (some false) (some true) (fun k i x hx => ?_) (fun k i hi => ?_) _ 0 (by omega) (by rw [qG]; omega)).trans ?_
 ·
  have hi := at_lt hx
  rw [qjC.l0, qG, decide_eq_true (by omega), cond_true, qv, hx, Option.bind_some, qpJ x (hs x (List.mem_of_getElem? hx)), Option.bind_some, qJW l i x _ hx hl, Option.bind_some, qu (by omega)]
  cases txtB x with
  | false => rfl
  | true =>
   by_cases c : 0 < i
   ·
    have c' : 0 < (i : Int) := by omega
    rw [decide_eq_true c, decide_eq_true c']
    cases hg : Ls.sc .geq (l.getD (i - 1) default) x <;> simp [bo3, hg] <;> simp_all
   have c' : ¬ 0 < (i : Int) := by omega
   rw [decide_eq_false c, decide_eq_false c']
   simp [bo3]
 · rw [qjC.l0, qG, decide_eq_false (by omega), cond_false]
 cases allFrom (fun i x => txtB x && !(decide (0 < i) && Ls.sc .geq (l.getD (i - 1) default) x)) l 0 <;> rfl
theorem qzQ (j : Json) (h : Jw j) : qkH.f j = some (ownB j) := by
 obtain ⟨h1, h2, h3, h4, _⟩ := (Jw_eq j).1 h
 unfold qkH.f ownB
 rw [qpJ _ h1, qjN _ h3 h2, qRB, qFI, qG, qG, qYU]
 have e1 : decide (0 < (j.List_.length : Int)) = decide (0 < j.List_.length) := decide_eq_decide.2 (by omega)
 have e2 : decide (0 < (j.Names.length : Int)) = decide (0 < j.Names.length) := decide_eq_decide.2 (by omega)
 have e3 : decide ((j.Names.length : Int) = j.List_.length) = decide (j.Names.length = j.List_.length) := decide_eq_decide.2 (by omega)
 rw [e1, e2, e3]
 simp only [qWF, qIY]
 generalize decide (0 < j.List_.length) = b1
 generalize decide (0 < j.Names.length) = b2
 generalize decide (j.S ≠ ByteArray.mk #[]) = b3
 generalize decide (j.Names.length = j.List_.length) = b4
 generalize namesB j.Names = b5
 generalize txtB j.S = b6
 by_cases k1 : j.Kind = 1
 ·
  simp [k1]
  cases b1 <;> cases b2 <;> cases b3 <;> simp
 by_cases k2 : j.Kind = 2
 ·
  simp [k2]
  cases b1 <;> cases b2 <;> cases b3 <;> simp
 by_cases k3 : j.Kind = 3
 ·
  simp [k3]
  cases b1 <;> cases b2 <;> cases decide (j.N = 0) <;> simp
 by_cases k5 : j.Kind = 5
 ·
  simp [k5]
  cases b4 <;> cases b3 <;> cases decide (j.N = 0) <;> simp [gd]
 simp only [k1, k2, k3, k5, if_false, decide_false, cond_false, ne_eq, not_false_eq_true, decide_true, Bool.and_true, bo3]
 have e9 : (decide ¬j.Kind = 4) = !decide (j.Kind = 4) := by by_cases c : j.Kind = 4 <;> simp [c]
 have e7 : (decide ¬j.N = 0) = !decide (j.N = 0) := by by_cases c : j.N = 0 <;> simp [c]
 rw [e9, e7]
 generalize decide (j.N = 0) = b7'
 generalize decide (j.Kind = 0) = b8
 generalize decide (j.Kind = 4) = b9'
 cases b1 <;> cases b2 <;> cases b3 <;> cases b7' <;> cases b8 <;> cases b9' <;> simp
theorem qAP (j : Json) (d : Int) (self : Json → Int → Option Int) (f : Json → Int) (hf : ∀ x, 1 ≤ f x ∧ f x ≤ 401) (hl : (j.List_.length : Int) ≤ 4611686018427387904) (hs : ∀ x ∈ j.List_, self x (w64 (d - 1)) = some (f x)) :
  ∀ (k i : Nat) (n : Int), i ≤ j.List_.length → j.List_.length < i + k → 1 ≤ n → n ≤ 401 → qiB.l0 j d self k n i = some (capL f n (j.List_.drop i)) := by
 intro k
 induction k with
 | zero => intro i n h h'; omega
 | succ k ih =>
  intro i n h h' hn hn'
  rw [qiB.l0, qG]
  by_cases hi : i < j.List_.length
  ·
   have := hf j.List_[i]
   rw [decide_eq_true (by omega), cond_true, qv, List.getElem?_eq_getElem hi, Option.bind_some, hs _ (List.getElem_mem hi), Option.bind_some, qJB (by omega), List.drop_eq_getElem_cons hi, capL, qu (by omega)]
   by_cases c : 400 < n + f j.List_[i]
   · rw [decide_eq_true c, cond_true, if_pos c]
   rw [decide_eq_false c, cond_false, if_neg c]
   exact ih (i + 1) _ (by omega) (by omega) (by omega) (by omega)
  rw [decide_eq_false (by omega), cond_false, List.drop_eq_nil_of_le (by omega), capL]
theorem qAR : ∀ (k d : Nat) (j : Json), d < k → d ≤ 1000 → Jw j → qiB.g k j d = some (sizeF d j) := by
 intro k
 induction k with
 | zero => intro d j h; omega
 | succ k ih =>
  intro d j h hd hj
  obtain ⟨h1, h2, h3, h4, h5⟩ := (Jw_eq j).1 hj
  rw [qiB.g, qiB.b, qzQ j hj]
  cases d with
  | zero => rw [decide_eq_true (by omega), sizeF]; rfl
  | succ d =>
   rw [decide_eq_false (by omega), sizeF]
   cases ho : ownB j with
   | false => rfl
   | true =>
    rw [if_pos rfl]
    simp only [qOC, Bool.not_false, qqC, Option.bind_some, bo3_F, Bool.not_true, cond_false]
    exact qAP j ((d + 1 : Nat) : Int) (qiB.g k) (sizeF d) (qhG d) h4 (fun x hx => by
     rw [qJB (by omega), show ((d + 1 : Nat) : Int) - 1 = (d : Int) by omega]
     exact ih d x (by omega) (by omega) (h5 x hx)) (((lenI j.List_) - 0).toNat + 1) 0 1 (by omega) (by rw [qG]; omega) (by omega) (by omega)
theorem qqJ (j : Json) (h : Jw j) : qCF.f j = some (jsonB j) := by
 unfold qCF.f qiB.f
 have := qAR 20 6 j (by omega) (by omega) h
 rw [show (6 : Int) = ((6 : Nat) : Int) from rfl, this, Option.bind_some]
 rfl
theorem qhI (a b : List ByteArray) (ha : (a.length : Int) ≤ 9223372036854775807) : qVB.f a b = some (decide (a = b)) := by
 unfold qVB.f
 by_cases hl : a.length = b.length
 ·
  rw [decide_eq_false (by simp only [qG]; omega), cond_false]
  refine (qQc (f := qVB.l0 a b) hl (some false) (some true) (fun k i x y hx hy => ?_) (fun k i hi => ?_) _ (by simp only [qG]; omega)).trans ?_
  ·
   have hi := at_lt hx
   rw [qVB.l0, qG, decide_eq_true (by omega), cond_true, qv, hx, Option.bind_some, qv, hy, Option.bind_some, qYU, qu (by omega)]
   by_cases c : x = y
   · simp [c]
   simp [c]
  · rw [qVB.l0, qG, decide_eq_false (by omega), cond_false]
  cases decide (a = b) <;> rfl
 rw [decide_eq_true (by simp only [qG]; omega), cond_true, decide_eq_false (fun e => hl (by rw [e]))]
theorem qiG (self : Json → Json → Option Bool) (a : List Json) (hl : (a.length : Int) ≤ 9223372036854775806) (h : ∀ x ∈ a, self x x = some true) : qP.f self a a = some true := by
 unfold qP.f
 rw [decide_eq_false (by simp), cond_false]
 refine (qYD (f := qP.l0 a a self) (l := a) (fun _ _ => true) (some false) (some true) (fun k' i x hx => ?_) (fun k' i hi => ?_) _ 0 (by omega) (by rw [qG]; omega)).trans ?_
 ·
  have hi := at_lt hx
  rw [qP.l0, qG, decide_eq_true (by omega), cond_true, qv, hx, Option.bind_some, Option.bind_some, h x (List.mem_of_getElem? hx), Option.bind_some, qOC, Bool.not_true, cond_false, qu (by omega), cond_true]
 · rw [qP.l0, qG, decide_eq_false (by omega), cond_false]
 rw [qLD (q := fun _ => true), List.all_eq_true.2 fun _ _ => rfl]; rfl
theorem qnS : ∀ (k : Nat) (a : Json), dpj a < k → szj a ≤ 1000000000 → qrC.g k a a = some true := by
 intro k
 induction k with
 | zero => intro a h; omega
 | succ k ih =>
  intro a hd hs
  rw [qbb] at hs
  rw [qmS] at hd
  have l0 := qNY a.List_
  have l1 := szL_0 a.List_
  rw [qrC.g, qrC.b, qVc, qhI _ _ (by omega), qiG _ _ (by omega) fun x hx => ih x (by have := qOY hx; omega) (by have := qTc hx; omega)]
  simp only [decide_true, bo3_F, bo3_T, qqC, Option.bind_some]
theorem qkN (a : Json) (hd : dpj a < 20) (hs : szj a ≤ 1000000000) : qrC.f a a = some true := qnS 20 a hd hs
def bl (l : List UInt8) : ByteArray := ⟨l.toArray⟩
theorem bl_sa (a b : List UInt8) : Ls.sa (bl a) (bl b) = bl (a ++ b) := by
 show (bl a ++ bl b) = _
 apply ByteArray.ext
 simp [bl]
theorem qQY (a : List UInt8) : (bl a).size = a.length := rfl
def digs (u : Nat) : List UInt8 := if u = 0 then [] else Lib.decDigits u
theorem qjG {u : Nat} (h : 0 < u) : digs u = digs (u / 10) ++ [UInt8.ofNat (48 + u % 10)] := by
 unfold digs
 rw [if_neg (by omega), Lib.decDigits]
 split
 ·
  rename_i c
  rw [if_pos (by omega)]
  have : u % 10 = u := by omega
  rw [this]; rfl
 rw [if_neg (by omega)]
theorem qYd {x y : ByteArray} (h : (x.size + y.size : Int) ≤ 9223372036854775807) : smO x y = some () := by unfold smO; rw [if_pos h]
theorem qBR : ∀ (k u : Nat), u < 10 ^ k → (digs u).length ≤ k := by
  intro k
  induction k with
  | zero => intro u h; have : u = 0 := by simpa using h
            subst this; simp [digs]
  | succ k ih =>
    intro u h
    by_cases h0 : u = 0
    · subst h0; simp [digs]
    · rw [qjG (by omega)]
      have := ih (u / 10) (by rw [Nat.pow_succ] at h; omega)
      simp only [List.length_append, List.length_cons, List.length_nil]; omega
section
variable {α : Type}
theorem qGI {A B : List α} {x : α} {i : Int} (h : i = A.length) : getO (A ++ x :: B) i = some x := by
 subst h; rw [qv, List.getElem?_append_right (Nat.le_refl _), Nat.sub_self]; rfl
theorem qxM {A B : List α} {x y : α} {i : Int} (h : i = A.length) : setI (A ++ x :: B) i y = A ++ y :: B := by
 subst h; rw [quQ, List.set_append_right _ _ (Nat.le_refl _), Nat.sub_self]; rfl
theorem qoS (A B C : List α) (x y : α) : A ++ x :: (B ++ y :: C) = (A ++ x :: B) ++ y :: C := by simp
theorem qyM {A B C : List α} {x y : α} {j : Int} (h : j = A.length + 1 + B.length) : getO (A ++ x :: (B ++ y :: C)) j = some y := by
 rw [qoS]; exact qGI (by simp; omega)
theorem swapA {A B C : List α} {x y : α} {i j : Int} (hi : i = A.length) (hj : j = A.length + 1 + B.length) : setI (setI (A ++ x :: (B ++ y :: C)) i y) j x = A ++ y :: (B ++ x :: C) := by
 rw [qxM hi, qoS, qxM (by simp; omega), ← qoS]
theorem swapB {A B C : List α} {x y : α} {i j : Int} (hi : i = A.length) (hj : j = A.length + 1 + B.length) : setI (setI (A ++ x :: (B ++ y :: C)) j x) i y = A ++ y :: (B ++ x :: C) := by
 rw [qoS, qxM (by simp; omega), ← qoS, qxM hi]
theorem qRV {i j : Int} (h : i ≠ j) : neO i j = some () := by unfold neO; rw [if_neg h]
theorem qzM {A B C : List α} {c : Nat} (h1 : A.length ≤ c) (h2 : c < A.length + B.length) : getO (A ++ (B ++ C)) (c : Int) = B[c - A.length]? := by
 rw [qv, List.getElem?_append_right h1, List.getElem?_append_left (by omega)]
theorem bsearch {R : Type} {f : Nat → Int → Int → R} {K : Int → R} (B : Nat → Bool) (lo hi : Nat) (mono : ∀ c c', lo ≤ c → c ≤ c' → c' < hi → B c = false → B c' = false)
  (hstep : ∀ k (i j : Nat), lo ≤ i → i < j → j ≤ hi → f (k + 1) i j = if B ((i + j) / 2) = true then f k (((i + j) / 2 + 1 : Nat) : Int) j else f k i (((i + j) / 2 : Nat) : Int)) (hend : ∀ k (i : Nat), f (k + 1) i i = K i) :
  ∀ (k i j : Nat), lo ≤ i → i ≤ j → j ≤ hi → j - i < k → ∃ t : Nat, i ≤ t ∧ t ≤ j ∧ f k i j = K t ∧ (∀ c, i ≤ c → c < t → B c = true) ∧ (∀ c, t ≤ c → c < j → B c = false) := by
 intro k
 induction k with
 | zero => intro i j _ _ _ h; omega
 | succ k ih =>
  intro i j h1 h2 h3 h4
  by_cases hij : i < j
  ·
   rw [hstep k i j h1 hij h3]
   cases hb : B ((i + j) / 2) with
   | true =>
    rw [if_pos rfl]
    obtain ⟨t, t1, t2, t3, t4, t5⟩ := ih ((i + j) / 2 + 1) j (by omega) (by omega) h3 (by omega)
    refine ⟨t, by omega, t2, t3, fun c c1 c2 => ?_, t5⟩
    by_cases hc : (i + j) / 2 + 1 ≤ c
    · exact t4 c hc c2
    cases hx : B c with
    | true => rfl
    | false => rw [mono c ((i + j) / 2) (by omega) (by omega) (by omega) hx] at hb; cases hb
   | false =>
    rw [if_neg (by simp)]
    obtain ⟨t, t1, t2, t3, t4, t5⟩ := ih i ((i + j) / 2) h1 (by omega) (by omega) (by omega)
    refine ⟨t, t1, by omega, t3, t4, fun c c1 c2 => ?_⟩
    by_cases hc : c < (i + j) / 2
    · exact t5 c c1 hc
    exact mono _ c (by omega) (by omega) (by omega) hb
  obtain rfl : i = j := by omega
  exact ⟨i, Nat.le_refl _, Nat.le_refl _, hend k i, fun c c1 c2 => by omega, fun c c1 c2 => by omega⟩
theorem qlN {x : Int} {n : Nat} (h : x = n) (hn : n ≤ 9223372036854775807) : w64 (Ls.ar .shr .u64 (IntKind.wrap .u64 (w64 x)) 1) = ((n / 2 : Nat) : Int) := by
 subst h
 have e0 : w64 (n : Int) = n := qJB (by omega)
 have e : IntKind.wrap .u64 (n : Int) = n := by simp [IntKind.wrap, IntKind.signed, IntKind.bits]; omega
 rw [e0, e]
 have e2 : Ls.ar .shr .u64 (n : Int) 1 = (n : Int) / 2 := by
  show Int.fdiv (n : Int) (2 ^ min (1 : Int).toNat IntKind.u64.bits) = _
  have : (2 : Int) ^ min (1 : Int).toNat IntKind.u64.bits = 2 := by decide
  rw [this, Int.fdiv_eq_ediv_of_nonneg _ (by omega)]
 rw [e2, qJB (by omega)]
 omega
end
theorem qSV : ∀ x : List UInt8, Op.bytesLess x x = false
 | [] => rfl
 | a :: x => by
  rw [Op.bytesLess, qSV x]
  have : ¬ a < a := by rw [UInt8.lt_iff_toNat_lt]; omega
  simp [this]
theorem qAQ : ∀ {x y z : List UInt8}, Op.bytesLess x y = true → Op.bytesLess y z = true → Op.bytesLess x z = true
 | [], _, [], _, h => by cases ‹List UInt8› <;> simp [Op.bytesLess] at h
 | [], _, c :: z, _, _ => rfl
 | a :: x, [], z, h, _ => by simp [Op.bytesLess] at h
 | a :: x, b :: y, [], _, h => by simp [Op.bytesLess] at h
 | a :: x, b :: y, c :: z, h, h' => by
  simp only [Op.bytesLess, Bool.or_eq_true, decide_eq_true_eq, Bool.and_eq_true, beq_iff_eq, UInt8.lt_iff_toNat_lt] at *
  rcases h with h | ⟨rfl, h⟩
  ·
   rcases h' with h' | ⟨rfl, h'⟩
   · left; omega
   left; exact h
  rcases h' with h' | ⟨rfl, h'⟩
  · left; exact h'
  right; exact ⟨rfl, qAQ h h'⟩
theorem qTV : ∀ {x y : List UInt8}, x ≠ y → Op.bytesLess x y = false → Op.bytesLess y x = true
 | [], [], h, _ => absurd rfl h
 | [], b :: y, _, h => by simp [Op.bytesLess] at h
 | a :: x, [], _, _ => rfl
 | a :: x, b :: y, hne, h => by
  simp only [Op.bytesLess, Bool.or_eq_false_iff, Bool.and_eq_false_iff, decide_eq_false_iff_not, Bool.or_eq_true, decide_eq_true_eq, Bool.and_eq_true, beq_iff_eq, UInt8.lt_iff_toNat_lt] at *
  obtain ⟨h1, h2⟩ := h
  by_cases e : a = b
  ·
   subst e
   right
   refine ⟨rfl, qTV (fun e => hne (by rw [e])) ?_⟩
   rcases h2 with h2 | h2
   · simp at h2
   exact h2
  left
  have : a.toNat ≠ b.toNat := fun e' => e (UInt8.toNat_inj.1 e')
  omega
def nlt (x y : ByteArray) : Bool := Ls.sc .lss x y
theorem qCR (x : ByteArray) : nlt x x = false := qSV x.toList
theorem qmN {x y z : ByteArray} (h : nlt x y = true) (h' : nlt y z = true) : nlt x z = true := qAQ h h'
theorem toList_inj {x y : ByteArray} (h : x.toList = y.toList) : x = y := by
 have : (x.toList == y.toList) = true := by rw [h]; simp
 rw [ba_eq] at this
 exact of_decide_eq_true this
theorem qRY {x y : ByteArray} (hne : x ≠ y) (h : nlt x y = false) : nlt y x = true := qTV (fun e => hne (toList_inj e)) h
theorem qDR {x y : ByteArray} (h : nlt x y = true) : nlt y x = false := by
 cases h' : nlt y x with
 | false => rfl
 | true => have := qmN h h'; rw [qCR] at this; cases this
abbrev NV := ByteArray × Int
def numJ (n : Int) : Json := ⟨2, n, ByteArray.empty, [], []⟩
def objJ (P : List NV) : Json := ⟨5, 0, ByteArray.empty, P.map fun p => numJ p.2, P.map (·.1)⟩
def Sn (P : List NV) : Prop := P.Pairwise fun a b => nlt a.1 b.1 = true
def putP (P : List NV) (p : NV) : List NV := (P.filter fun x => nlt x.1 p.1) ++ p :: (P.filter fun x => nlt p.1 x.1)
theorem qUV {P : List NV} {p x : NV} : x ∈ putP P p ↔ x = p ∨ (x ∈ P ∧ x.1 ≠ p.1) := by
 unfold putP
 rw [List.mem_append, List.mem_cons, List.mem_filter, List.mem_filter]
 constructor
 ·
  rintro (⟨h, h'⟩ | h | ⟨h, h'⟩)
  · exact .inr ⟨h, fun e => by rw [e, qCR] at h'; cases h'⟩
  · exact .inl h
  exact .inr ⟨h, fun e => by rw [e, qCR] at h'; cases h'⟩
 rintro (h | ⟨h, h'⟩)
 · exact .inr (.inl h)
 cases c : nlt x.1 p.1 with
 | true => exact .inl ⟨h, rfl⟩
 | false => exact .inr (.inr ⟨h, qRY h' c⟩)
theorem qWc {P : List NV} {p : NV} (h : Sn P) : Sn (putP P p) := by
 unfold putP
 refine List.pairwise_append.2 ⟨h.filter _, List.pairwise_cons.2 ⟨fun x hx => (List.mem_filter.1 hx).2, h.filter _⟩, fun a ha b hb => ?_⟩
 have h1 := (List.mem_filter.1 ha).2
 rcases List.mem_cons.1 hb with rfl | hb
 · exact h1
 exact qmN h1 (List.mem_filter.1 hb).2
theorem qha (P : List NV) (p : NV) : (putP P p).length ≤ P.length + 1 := by
 unfold putP
 rw [List.length_append, List.length_cons]
 have h1 : (P.filter fun x => nlt x.1 p.1).length + (P.filter fun x => nlt p.1 x.1).length ≤ P.length := by
  induction P with
  | nil => simp
  | cons a P ih =>
   simp only [List.filter_cons, List.length_cons]
   cases c1 : nlt a.1 p.1 with
   | true => rw [qDR c1]; simp; omega
   | false =>
    cases c2 : nlt p.1 a.1 <;> simp <;> omega
 omega
def foldP (P : List NV) : List NV := P.foldl putP []
theorem qBQ (P : List NV) (p : NV) : foldP (P ++ [p]) = putP (foldP P) p := by unfold foldP; rw [List.foldl_append]; rfl
theorem qpS (P : List NV) : (foldP P).length ≤ P.length := by
 have : ∀ (P acc : List NV), (P.foldl putP acc).length ≤ P.length + acc.length := by
  intro P
  induction P with
  | nil => intro acc; simp
  | cons p P ih => intro acc; have := ih (putP acc p); have := qha acc p; simp only [List.foldl_cons, List.length_cons]; omega
 simpa [foldP] using this P []
theorem qER (P : List NV) : Sn (foldP P) := by
 have : ∀ (P acc : List NV), Sn acc → Sn (P.foldl putP acc) := by
  intro P
  induction P with
  | nil => intro acc h; exact h
  | cons p P ih => intro acc h; exact ih _ (qWc h)
 exact this P [] List.Pairwise.nil
def Fn1 (P : List NV) : Prop := ∀ x ∈ P, ∀ y ∈ P, x.1 = y.1 → x = y
theorem qnN : ∀ (P : List NV), Fn1 P → ∀ x, x ∈ foldP P ↔ x ∈ P := by
 have : ∀ (n : Nat) (P : List NV), P.length = n → Fn1 P → ∀ x, x ∈ foldP P ↔ x ∈ P := by
  intro n
  induction n with
  | zero => intro P h _ x; rw [List.length_eq_zero_iff.1 h]; exact Iff.rfl
  | succ n ih =>
   intro P h hf x
   obtain ⟨Q, p, rfl⟩ : ∃ Q p, P = Q ++ [p] := ⟨P.dropLast, P.getLast (by rintro rfl; simp at h), (List.dropLast_concat_getLast _).symm⟩
   have ihq := ih Q (by simpa using h) (fun a ha b hb => hf a (by simp [ha]) b (by simp [hb]))
   rw [qBQ, qUV, ihq x, List.mem_append, List.mem_singleton]
   constructor
   ·
    rintro (h | h)
    · exact .inr h
    exact .inl h.1
   rintro (h | h)
   ·
    by_cases e : x.1 = p.1
    · exact .inl (hf x (by simp [h]) p (by simp) e)
    exact .inr ⟨h, e⟩
   exact .inl h
 exact fun P => this P.length P rfl
theorem Sn.unique {P Q : List NV} (h : Sn P) (h' : Sn Q) (e : ∀ x, x ∈ P ↔ x ∈ Q) : P = Q := by
 have nd : ∀ {R : List NV}, Sn R → R.Nodup := fun h => List.nodup_iff_pairwise_ne.2 (h.imp fun h e => by rw [e, qCR] at h; cases h)
 exact List.Perm.eq_of_pairwise (fun a b _ _ h1 h2 => by rw [qDR h1] at h2; cases h2) h h' ((List.perm_ext_iff_of_nodup (nd h) (nd h')).2 e)
theorem qKW {P Q : List NV} (h : Fn1 P) (h' : Fn1 Q) (e : ∀ x, x ∈ P ↔ x ∈ Q) : foldP P = foldP Q :=
 (qER P).unique (qER Q) fun x => by rw [qnN P h, qnN Q h']; exact e x
def nullJ : Json := ⟨0, 0, ByteArray.empty, [], []⟩
def orJ (j : Json) : Json := if jsonB j = true then j else nullJ
theorem qrJ (j : Json) (h : Jw j) : qDF.f j = some (orJ j) := by
 unfold qDF.f orJ
 rw [qqJ j h, Option.bind_some, qOC]
 cases jsonB j <;> rfl
def colN (c : Int) : ByteArray := Ls.sa (ByteArray.mk #[99]) (bl (Lib.itoa c))
def colP (r : Row) (c : Int) : NV := (colN c, cellF r c)
def idP (r : Row) : NV := (ByteArray.mk #[105, 100], r.Id)
def kidsP (n : Int) : NV := (ByteArray.mk #[107, 105, 100, 115], n)
def kidsL (q : Query) (n : Int) : List NV := if q.Kids = true then [kidsP n] else []
def rowObj (q : Query) (r : Row) (n : Int) : Json := objJ (foldP (q.Show.map (colP r) ++ [idP r] ++ kidsL q n))
theorem qMK (c : Int) : colN c = bl (99 :: Lib.itoa c) := by
 unfold colN
 rw [show ByteArray.mk #[99] = bl [99] from rfl, bl_sa]; rfl
theorem qqS {a b : List UInt8} (h : bl a = bl b) : a = b := by
 have : (bl a).data.toList = (bl b).data.toList := by rw [h]
 simpa [bl] using this
theorem qia : ∀ (k u v : Nat), u < 10 ^ k → v < 10 ^ k → digs u = digs v → u = v := by
 intro k
 induction k with
 | zero => intro u v h h' _; simp at h h'; omega
 | succ k ih =>
  intro u v h h' e
  rw [Nat.pow_succ] at h h'
  by_cases hu : u = 0
  ·
   by_cases hv : v = 0
   · omega
   rw [qjG (u := v) (by omega)] at e
   subst hu
   simp [digs] at e
  by_cases hv : v = 0
  ·
   rw [qjG (u := u) (by omega)] at e
   subst hv
   simp [digs] at e
  rw [qjG (by omega), qjG (u := v) (by omega)] at e
  obtain ⟨e1, e2⟩ := List.append_inj' e rfl
  have h1 := ih _ _ (by omega) (by omega) e1
  simp only [List.cons.injEq, and_true] at e2
  have h2 : (UInt8.ofNat (48 + u % 10)).toNat = (UInt8.ofNat (48 + v % 10)).toNat := by rw [e2]
  simp only [UInt8.toNat_ofNat'] at h2
  omega
theorem qZJ {u : Nat} (h : 0 < u) : Lib.decDigits u = digs u := by unfold digs; rw [if_neg (by omega)]
theorem qVV : Lib.decDigits 0 = [48] := by rw [Lib.decDigits, dif_pos (by decide)]; rfl
theorem qXc : ∀ (k u : Nat), u < 10 ^ k → ∀ b ∈ digs u, 48 ≤ b.toNat := by
  intro k
  induction k with
  | zero => intro u h b hb; have : u = 0 := by simpa using h
            subst this; simp [digs] at hb
  | succ k ih =>
    intro u h b hb
    by_cases h0 : u = 0
    · subst h0; simp [digs] at hb
    · rw [qjG (by omega)] at hb
      rw [Nat.pow_succ] at h
      rcases List.mem_append.1 hb with hb | hb
      · exact ih _ (by omega) b hb
      · rw [List.mem_singleton.1 hb, UInt8.toNat_ofNat']; omega
theorem qCQ {u : Nat} (h : u < 10 ^ 29) : ∀ {l : List UInt8}, digs u = l → ∀ {x y}, l = x :: y → 0 < u → x ≠ 48 := by
 have : ∀ (k u : Nat), u < 10 ^ k → 0 < u → ∃ x y, digs u = x :: y ∧ x ≠ 48 := by
  intro k
  induction k with
  | zero => intro u h h0; simp at h; omega
  | succ k ih =>
   intro u h h0
   rw [Nat.pow_succ] at h
   rw [qjG h0]
   by_cases c : u / 10 = 0
   ·
    rw [c]
    refine ⟨UInt8.ofNat (48 + u % 10), [], by simp [digs], fun e => ?_⟩
    have : (UInt8.ofNat (48 + u % 10)).toNat = 48 := by rw [e]; rfl
    rw [UInt8.toNat_ofNat'] at this
    omega
   obtain ⟨x, y, e1, e2⟩ := ih (u / 10) (by omega) (by omega)
   exact ⟨x, y ++ [UInt8.ofNat (48 + u % 10)], by rw [e1]; rfl, e2⟩
 intro l hl x y hxy h0
 obtain ⟨x', y', e1, e2⟩ := this 29 u h h0
 rw [hl, hxy] at e1
 simp only [List.cons.injEq] at e1
 rw [e1.1]; exact e2
theorem qWV {a b : Int} (ha : -9223372036854775808 ≤ a ∧ a ≤ 9223372036854775807) (hb : -9223372036854775808 ≤ b ∧ b ≤ 9223372036854775807) (h : Lib.itoa a = Lib.itoa b) : a = b := by
 have key : ∀ u v : Nat, u ≤ 9223372036854775808 → v ≤ 9223372036854775808 → Lib.decDigits u = Lib.decDigits v → u = v := fun u v hu hv e => by
  by_cases u0 : u = 0
  ·
   by_cases v0 : v = 0
   · omega
   exfalso
   subst u0
   rw [qVV, qZJ (by omega)] at e
   exact qCQ (u := v) (by omega) e.symm rfl (by omega) rfl
  by_cases v0 : v = 0
  ·
   exfalso
   subst v0
   rw [qVV, qZJ (by omega)] at e
   exact qCQ (u := u) (by omega) e rfl (by omega) rfl
  rw [qZJ (by omega), qZJ (by omega)] at e
  exact qia 29 u v (by omega) (by omega) e
 have hd : ∀ u : Nat, u ≤ 9223372036854775808 → ∀ x ∈ Lib.decDigits u, 48 ≤ x.toNat := fun u hu x hx => by
  by_cases u0 : u = 0
  · subst u0; rw [qVV] at hx; rw [List.mem_singleton.1 hx]; decide
  rw [qZJ (by omega)] at hx; exact qXc 29 u (by omega) x hx
 unfold Lib.itoa at h
 by_cases c1 : a < 0 <;> by_cases c2 : b < 0
 ·
  rw [if_pos c1, if_pos c2] at h
  have := key _ _ (by omega) (by omega) (List.cons.inj h).2
  omega
 ·
  rw [if_pos c1, if_neg c2] at h
  have := hd b.toNat (by omega) 45 (by rw [← h]; simp)
  simp at this
 ·
  rw [if_neg c1, if_pos c2] at h
  have := hd a.toNat (by omega) 45 (by rw [h]; simp)
  simp at this
 rw [if_neg c1, if_neg c2] at h
 have := key _ _ (by omega) (by omega) h
 omega
theorem qcL (c : Int) : colN c ≠ ByteArray.mk #[105, 100] := fun e => by
 rw [qMK, show ByteArray.mk #[105, 100] = bl [105, 100] from rfl] at e
 have := qqS e
 simp at this
theorem quI (c : Int) : colN c ≠ ByteArray.mk #[107, 105, 100, 115] := fun e => by
 rw [qMK, show ByteArray.mk #[107, 105, 100, 115] = bl [107, 105, 100, 115] from rfl] at e
 have := qqS e
 simp at this
theorem qdL : (ByteArray.mk #[105, 100]) ≠ ByteArray.mk #[107, 105, 100, 115] := fun e => by
 rw [show ByteArray.mk #[105, 100] = bl [105, 100] from rfl, show ByteArray.mk #[107, 105, 100, 115] = bl [107, 105, 100, 115] from rfl] at e
 have := qqS e
 simp at this
def In64 (l : List Int) : Prop := ∀ x ∈ l, -9223372036854775808 ≤ x ∧ x ≤ 9223372036854775807
theorem qeb {r : Row} {n : Int} {q : Query} {P : List NV} {cols : List Int} (hc : In64 cols) (h : ∀ x ∈ P, (∃ c ∈ cols, x = colP r c) ∨ x = idP r ∨ x = kidsP n) : Fn1 P := fun x hx y hy e => by
 rcases h x hx with ⟨c, c1, rfl⟩ | rfl | rfl <;> rcases h y hy with ⟨d, d1, rfl⟩ | rfl | rfl
 ·
  have e : colN c = colN d := e
  rw [qMK, qMK] at e
  rw [qWV (hc c c1) (hc d d1) (List.cons.inj (qqS e)).2]
 · exact absurd e (qcL c)
 · exact absurd e (quI c)
 · exact absurd e.symm (qcL d)
 · rfl
 · exact absurd e qdL
 · exact absurd e.symm (quI d)
 · exact absurd e.symm qdL
 rfl
theorem qXV (n : Int) (h : -9223372036854775808 ≤ n ∧ n ≤ 9223372036854775807) : (Lib.itoa n).length ≤ 30 := by
 have hd : ∀ u : Nat, u ≤ 9223372036854775808 → (Lib.decDigits u).length ≤ 29 := fun u hu => by
  by_cases u0 : u = 0
  · subst u0; rw [qVV]; simp
  rw [qZJ (by omega)]; exact qBR 29 u (by omega)
 unfold Lib.itoa
 split
 · have := hd n.natAbs (by omega); simp only [List.length_cons]; omega
 have := hd n.toNat (by omega); omega
theorem qSY (n : Int) (h : -9223372036854775808 ≤ n ∧ n ≤ 9223372036854775807) : (colN n).size ≤ 31 := by
 rw [qMK, qQY]
 have := qXV n h
 simp only [List.length_cons]; omega
theorem put_c (n : Int) (h : -9223372036854775808 ≤ n ∧ n ≤ 9223372036854775807) : smO (ByteArray.mk #[99]) (bl (Lib.itoa n)) = some () := qYd (by
 rw [qQY, show (ByteArray.mk #[99]).size = 1 from rfl]
 have := qXV n h
 omega)
theorem qLW {P : List NV} {x : NV} : x ∈ foldP P → x ∈ P := by
 have : ∀ (P acc : List NV), x ∈ P.foldl putP acc → x ∈ P ∨ x ∈ acc := by
  intro P
  induction P with
  | nil => intro acc h; exact .inr h
  | cons p P ih =>
   intro acc h
   rcases ih _ h with h | h
   · exact .inl (List.mem_cons_of_mem _ h)
   rcases qUV.1 h with rfl | h
   · exact .inl (List.mem_cons_self ..)
   exact .inr h.1
 intro h
 exact (this P [] h).elim id (by simp)
theorem qfb (n : Int) : Jw (numJ n) := (Jw_eq _).2 ⟨by show ((0 : Nat) : Int) ≤ _; omega, by simp [numJ], by simp [numJ], by simp [numJ], by simp [numJ]⟩
theorem qZd {P : List NV} (hl : P.length ≤ 4194304) (hs : ∀ x ∈ P, x.1.size ≤ 31) : Jw (objJ P) := (Jw_eq _).2 ⟨by show ((0 : Nat) : Int) ≤ _; omega, fun x hx => by
 obtain ⟨p, hp, rfl⟩ := List.mem_map.1 hx
 have := hs p hp
 omega, by simp only [objJ, List.length_map]; omega, by simp only [objJ, List.length_map]; omega, fun x hx => by
 obtain ⟨p, hp, rfl⟩ := List.mem_map.1 hx
 exact qfb _⟩
theorem qYc (P : List NV) : szj (objJ P) = 2 * (P.length : Int) ∧ dpj (objJ P) ≤ 2 := by
 have h1 : ∀ l : List NV, szL (l.map fun p => numJ p.2) = l.length ∧ dpL (l.map fun p => numJ p.2) ≤ 1 := by
  intro l
  induction l with
  | nil => simp [szL, dpL]
  | cons p l ih =>
   have e1 : szj (numJ p.2) = 0 := by simp [numJ, szj, szL]
   have e2 : dpj (numJ p.2) = 1 := by simp [numJ, dpj, dpL]
   rw [List.map_cons, szL, dpL, e1, e2, ih.1, List.length_cons]
   omega
 have := h1 P
 refine ⟨?_, ?_⟩
 ·
  show szj ⟨5, 0, ByteArray.empty, _, _⟩ = _
  rw [szj, this.1, List.length_map]; omega
 show dpj ⟨5, 0, ByteArray.empty, _, _⟩ ≤ _
 rw [dpj]; omega
theorem qMW {q : Query} {r : Row} {n : Int} (hc : In64 q.Show) : ∀ x ∈ foldP (q.Show.map (colP r) ++ [idP r] ++ kidsL q n), x.1.size ≤ 31 := fun x hx => by
 have := qLW hx
 simp only [List.mem_append, List.mem_map, List.mem_singleton] at this
 rcases this with (⟨c, h1, rfl⟩ | rfl) | h
 · exact qSY c (hc c h1)
 · show (ByteArray.mk #[105, 100]).size ≤ 31; decide
 unfold kidsL at h
 split at h
 · rw [List.mem_singleton.1 h]; show (ByteArray.mk #[107, 105, 100, 115]).size ≤ 31; decide
 simp at h
theorem qFR {q : Query} {r : Row} {n : Int} (hc : In64 q.Show) (hl : q.Show.length ≤ 2097152) : Jw (rowObj q r n) ∧ szj (rowObj q r n) ≤ 8388608 ∧ dpj (rowObj q r n) ≤ 2 := by
 have h1 := qpS (q.Show.map (colP r) ++ [idP r] ++ kidsL q n)
 have h2 : (kidsL q n).length ≤ 1 := by unfold kidsL; split <;> simp
 simp only [List.length_append, List.length_map, List.length_singleton] at h1
 have := qYc (foldP (q.Show.map (colP r) ++ [idP r] ++ kidsL q n))
 exact ⟨qZd (by omega) (qMW hc), by unfold rowObj; omega, by unfold rowObj; omega⟩
def qWB (l : List Row) : Int := l.length + (l.map qBC).sum
def qZI (l : List Row) : Prop := l.length ≤ 9223372036854775807 ∧ ∀ x ∈ l, Row_b x
theorem qnD (l : List Row) : 0 ≤ qWB l := by have := qAC qgC l; unfold qWB; omega
def qad (l : List Row) : Prop := ∀ x ∈ l, Row_r x
theorem qYV {f : Json → Int} (hf : ∀ x, 1 ≤ f x ∧ f x ≤ 401) : ∀ (l : List Json) (n : Int), 0 ≤ n → n ≤ 400 → capL f n l ≤ 400 → capL f n l = n + (l.map f).sum ∧ ∀ x ∈ l, f x ≤ 400
 | [], n, _, _, _ => by simp [capL]
 | x :: l, n, h0, hn, h => by
  have hfx := hf x
  rw [capL] at h ⊢
  split at h
  · omega
  rename_i c
  rw [if_neg c]
  obtain ⟨h1, h2⟩ := qYV hf l (n + f x) (by omega) (by omega) h
  refine ⟨by rw [h1, List.map_cons, List.sum_cons]; omega, fun y hy => ?_⟩
  rcases List.mem_cons.1 hy with rfl | hy
  · omega
  exact h2 y hy
theorem qTY {j : Json} (h : ownB j = true) : j.Names.length ≤ j.List_.length := by
 rw [qXd, Bool.and_eq_true] at h
 have h2 := h.2
 unfold k3B at h2
 simp only [Bool.not_eq_true', Bool.or_eq_false_iff] at h2
 have h3 := h2.2
 by_cases k5 : j.Kind = 5
 ·
  rw [if_pos k5] at h3
  simp only [Bool.not_eq_false', Bool.and_eq_true, decide_eq_true_eq] at h3
  omega
 rw [if_neg k5] at h3
 simp only [Bool.not_eq_false', decide_eq_true_eq] at h3
 omega
theorem qrS : ∀ (d : Nat) (j : Json), sizeF d j ≤ 400 → szj j ≤ 2 * sizeF d j - 2 ∧ dpj j ≤ d
 | 0, j, h => by rw [sizeF] at h; omega
 | d + 1, j, h => by
  rw [sizeF] at h ⊢
  split at h
  ·
   rename_i ho
   rw [if_pos ho]
   obtain ⟨h1, h2⟩ := qYV (qhG d) j.List_ 1 (by omega) (by omega) h
   have hn := qTY ho
   rw [h1, qbb, qmS]
   have hL : ∀ l : List Json, (∀ x ∈ l, sizeF d x ≤ 400) → szL l + (l.length : Int) ≤ 2 * (l.map (sizeF d)).sum ∧ dpL l ≤ d := by
    intro l
    induction l with
    | nil => intro _; simp [szL, dpL]
    | cons x l ih =>
     intro hx
     obtain ⟨a1, a2⟩ := ih fun y hy => hx y (by simp [hy])
     obtain ⟨b1, b2⟩ := qrS d x (hx x (by simp))
     rw [szL, dpL, List.map_cons, List.sum_cons, List.length_cons]
     exact ⟨by omega, by omega⟩
   obtain ⟨c1, c2⟩ := hL j.List_ h2
   exact ⟨by omega, by omega⟩
  omega
theorem qDQ : ∀ (d e : Nat) (j : Json), dpj j ≤ d → dpj j ≤ e → sizeF d j = sizeF e j
 | 0, e, j, h, _ => by rw [qmS] at h; omega
 | d + 1, 0, j, _, h => by rw [qmS] at h; omega
 | d + 1, e + 1, j, h, h' => by
  rw [qmS] at h h'
  rw [sizeF, sizeF]
  have : ∀ (l : List Json) (n : Int), dpL l ≤ d → dpL l ≤ e → capL (sizeF d) n l = capL (sizeF e) n l := by
   intro l
   induction l with
   | nil => intro n _ _; rfl
   | cons x l ih =>
    intro n h1 h2
    rw [dpL] at h1 h2
    rw [capL, capL, qDQ d e x (by omega) (by omega), ih _ (by omega) (by omega)]
  rw [this j.List_ 1 (by omega) (by omega)]
def docsF (q : Query) (kids : List Int) : List Row → Nat → List Json
 | [], _ => []
 | r :: l, i => rowObj q r (kids.getD i 0) :: docsF q kids l (i + 1)
def firstF (q : Query) (n : Nat) : Nat := if q.First = 0 then n else if q.First ≤ 0 then 0 else min n q.First.toNat
def docObj (q : Query) (rows : List Row) (kids : List Int) : Json := ⟨5, 0, ByteArray.empty, [numJ rows.length, ⟨4, 0, ByteArray.empty, docsF q kids (rows.take (firstF q rows.length)) 0, []⟩], [ByteArray.mk #[99, 111, 117, 110, 116], ByteArray.mk #[114, 111, 119, 115]]⟩
def docOfF (q : Query) (rows : List Row) (kids : List Int) : Json := orJ (docObj q rows kids)
theorem qsS (q : Query) (n : Nat) : firstF q n ≤ n := by unfold firstF; split <;> (try split) <;> omega
theorem qoK (q : Query) (kids : List Int) : ∀ (l : List Row) (i : Nat), (docsF q kids l i).length = l.length
 | [], _ => rfl
 | r :: l, i => by rw [docsF, List.length_cons, List.length_cons, qoK q kids l]
theorem qEQ (q : Query) (kids : List Int) : ∀ (l : List Row) (i : Nat) (r : Row), docsF q kids (l ++ [r]) i = docsF q kids l i ++ [rowObj q r (kids.getD (i + l.length) 0)]
 | [], i, r => rfl
 | x :: l, i, r => by
  rw [List.cons_append, docsF, qEQ q kids l, docsF, List.cons_append, List.length_cons, Nat.add_assoc, Nat.add_comm 1]
theorem qpK {q : Query} {kids : List Int} : ∀ {l : List Row} {i : Nat} {x : Json}, x ∈ docsF q kids l i → ∃ r n, x = rowObj q r n
 | r :: l, i, x, h => by
  rw [docsF] at h
  rcases List.mem_cons.1 h with rfl | h
  · exact ⟨_, _, rfl⟩
  exact qpK h
theorem qZV {q : Query} {rows : List Row} {kids : List Int} (hc : In64 q.Show) (hl : q.Show.length ≤ 2097152) (hr : rows.length ≤ 2097152) : Jw (docObj q rows kids) := by
 refine (Jw_eq _).2 ⟨by show ((0 : Nat) : Int) ≤ _; omega, fun x hx => ?_, by simp [docObj], by simp [docObj], fun x hx => ?_⟩
 ·
  simp only [docObj, List.mem_cons, List.not_mem_nil, or_false] at hx
  rcases hx with rfl | rfl
  · show ((5 : Nat) : Int) ≤ _; omega
  show ((4 : Nat) : Int) ≤ _; omega
 simp only [docObj, List.mem_cons, List.not_mem_nil, or_false] at hx
 rcases hx with rfl | rfl
 · exact qfb _
 refine (Jw_eq _).2 ⟨by show ((0 : Nat) : Int) ≤ _; omega, by simp, by simp, ?_, fun x hx => ?_⟩
 ·
  dsimp only
  rw [qoK, List.length_take]; omega
 obtain ⟨r, n, rfl⟩ := qpK hx
 exact (qFR hc hl).1
theorem qNW {q : Query} {rows : List Row} {kids : List Int} (hc : In64 q.Show) (hl : q.Show.length ≤ 2097152) {x : Json} (hx : x ∈ docsF q kids (rows.take (firstF q rows.length)) 0) (hb : jsonB x = false) : jsonB (docObj q rows kids) = false := by
 unfold jsonB at *
 rw [decide_eq_false_iff_not] at *
 intro h
 obtain ⟨r, n, rfl⟩ := qpK hx
 have hd := (qFR (q := q) (r := r) (n := n) hc hl).2.2
 rw [sizeF] at h
 split at h
 ·
  obtain ⟨_, h2⟩ := qYV (qhG 5) _ 1 (by omega) (by omega) h
  have h3 := h2 ⟨4, 0, ByteArray.empty, docsF q kids (rows.take (firstF q rows.length)) 0, []⟩ (by simp [docObj])
  rw [sizeF] at h3
  split at h3
  ·
   obtain ⟨_, h4⟩ := qYV (qhG 4) _ 1 (by omega) (by omega) h3
   have := h4 _ hx
   rw [qDQ 4 6 _ (by omega) (by omega)] at this
   exact hb this
  omega
 omega
theorem qPF (j : Json) (hw : Jw j) (h : jsonB j = true) : qjE.f j j = some true := by
 have h' := h
 unfold jsonB at h'
 rw [decide_eq_true_eq] at h'
 obtain ⟨h1, h2⟩ := qrS 6 j h'
 unfold qjE.f
 rw [qqJ j hw, h, Option.bind_some, qqC, Option.bind_some, bo3_T, qqC, qkN j (by omega) (by omega)]
 rfl
theorem qeL (v : Int) : qTE.f v = some (decide (0 ≤ v ∧ v ≤ 100000)) := by
 unfold qTE.f
 rw [qRB, Option.bind_some]
def rowB (s : Schema) (t : Int) (r : Row) : Bool :=
 schemaB s && decide (0 ≤ t ∧ t ≤ (s.Cols.length : Int) - 1) && decide (1 ≤ r.Id ∧ r.Id ≤ 999) && decide ((r.Cells.length : Int) = s.Cols.getD t.toNat 0) && r.Cells.all fun n => decide (-1000000000 ≤ n ∧ n ≤ 1000000000)
def rowsB (s : Schema) (t : Int) (rows : List Row) : Bool :=
 allFrom (fun i r => rowB s t r && !(decide (0 < i) && decide (r.Id ≤ (rows.getD (i - 1) default).Id))) rows 0 && (schemaB s && decide (0 ≤ t ∧ t ≤ (s.Cols.length : Int) - 1) && decide (rows.length ≤ 24))
theorem qfL {s : Schema} (h : schemaB s = true) : s.Cols.length ≤ 3 := by
 unfold schemaB at h
 rw [Bool.and_eq_true] at h
 have := of_decide_eq_true h.2
 omega
theorem qaJ {s : Schema} {t : Int} {rows : List Row} (h : rowsB s t rows = true) {i : Nat} {r : Row} (hr : rows[i]? = some r) : rowB s t r = true := by
 unfold rowsB at h
 rw [Bool.and_eq_true] at h
 have := qzD.1 h.1 i r hr
 rw [Bool.and_eq_true] at this
 exact this.1
theorem qbJ {s : Schema} {t : Int} {rows : List Row} (h : rowsB s t rows = true) : rows.length ≤ 24 := by
 unfold rowsB at h
 simp only [Bool.and_eq_true, decide_eq_true_eq] at h
 exact h.2.2
theorem qtS {s : Schema} {t : Int} {r : Row} (h : rowB s t r = true) : (r.Cells.length : Int) = s.Cols.getD t.toNat 0 := by
 unfold rowB at h
 simp only [Bool.and_eq_true, decide_eq_true_eq] at h
 exact h.1.2
theorem qqK (s : Schema) (t : Int) (r : Row) (hs : qJD s) (hr : Row_b r) : qPD.f s t r = some (rowB s t r) := by
 have hrl : r.Cells.length ≤ 9223372036854775807 := hr
 unfold qPD.f rowB
 simp only [joinK]
 refine (qYD (f := qPD.l0 r _) (l := r.Cells) (fun _ n => decide (-1000000000 ≤ n ∧ n ≤ 1000000000)) (some false) (some (schemaB s && decide (0 ≤ t ∧ t ≤ (s.Cols.length : Int) - 1) && decide (1 ≤ r.Id ∧ r.Id ≤ 999) && decide ((r.Cells.length : Int) = s.Cols.getD t.toNat 0))) (fun k i x hx => ?_) (fun k i hi => ?_) _ 0 (by omega) (by (try simp only [qG]); omega)).trans ?_
 ·
  have hi := at_lt hx
  rw [qPD.l0, qG, decide_eq_true (by omega), cond_true, qv, hx, Option.bind_some, qFI, Option.bind_some, qOC, qu (by omega)]
  cases decide (-1000000000 ≤ x ∧ x ≤ 1000000000) <;> rfl
 ·
  rw [qPD.l0, qG, decide_eq_false (by omega), cond_false, qIE _ hs, Option.bind_some, qbD _ _ hs, qRB]
  cases schemaB s with
  | false => rfl
  | true =>
   by_cases d : 0 ≤ t ∧ t ≤ (s.Cols.length : Int) - 1
   case neg => rw [decide_eq_false d]; rfl
   rw [decide_eq_true d, qJG d]
   simp only [bo3_F, bo3_T, qqC, Option.bind_some, Bool.true_and, gd_of, cond_true]
   by_cases d3 : (r.Cells.length : Int) = s.Cols.getD t.toNat 0
   · simp [d3, bo3]
   simp [d3, bo3]; exact Bool.and_comm _ _
 rw [qLD]
 cases r.Cells.all fun n => decide (-1000000000 ≤ n ∧ n ≤ 1000000000) <;> simp
theorem qBP (s : Schema) (t : Int) (rows : List Row) (hs : qJD s) (hr : qZI rows) : qCD.f s t rows = some (rowsB s t rows) := by
 have hl : s.Cols.length ≤ 9223372036854775807 := hs
 obtain ⟨hrl, hr2⟩ := hr
 unfold qCD.f rowsB
 simp only [joinK]
 refine (qYD (f := qCD.l0 s t rows _) (l := rows) (fun i r => rowB s t r && !(decide (0 < i) && decide (r.Id ≤ (rows.getD (i - 1) default).Id))) (some false) (some (schemaB s && decide (0 ≤ t ∧ t ≤ (s.Cols.length : Int) - 1) && decide (rows.length ≤ 24))) (fun k i x hx => ?_) (fun k i hi => ?_) _ 0 (by omega) (by (try simp only [qG]); omega)).trans ?_
 ·
  have hi := at_lt hx
  rw [qCD.l0, qG, decide_eq_true (by omega), cond_true, qv, hx, Option.bind_some, qqK _ _ _ hs (hr2 x (List.mem_of_getElem? hx)), Option.bind_some, qkS hx (by omega), Option.bind_some, qu (by omega)]
  rw [show decide (0 < (i : Int)) = decide (0 < i) from by simp]
  cases rowB s t x <;> cases decide (0 < i) <;> (try rfl)
  simp only [bo3_F, bo3_T, Bool.true_and, cond_true]
  by_cases e : x.Id ≤ (rows.getD (i - 1) default).Id
  · simp [e]
  simp [e]
 ·
  rw [qCD.l0, qG, decide_eq_false (by omega), cond_false, qIE _ hs, Option.bind_some]
  first | rw [qbD _ _ hs] | rw [qG s.Cols, qJB (by omega), qVC]
  have e24 : decide ((rows.length : Int) ≤ 24) = decide (rows.length ≤ 24) := by rw [decide_eq_decide]; omega
  simp only [qG, e24]
  generalize decide (0 ≤ t ∧ t ≤ (s.Cols.length : Int) - 1) = b1
  generalize decide (rows.length ≤ 24) = b2
  cases schemaB s <;> cases b1 <;> cases b2 <;> rfl
 cases allFrom (fun i r => rowB s t r && !(decide (0 < i) && decide (r.Id ≤ (rows.getD (i - 1) default).Id))) rows 0 <;> rfl
def qAF (l : List (List Row)) : Int := l.length + (l.map qWB).sum
def qZc (l : List (List Row)) : Prop := l.length ≤ 9223372036854775807 ∧ ∀ x ∈ l, qZI x
theorem qOW (l : List (List Row)) : 0 ≤ qAF l := by have := qAC qnD l; unfold qAF; omega
def qac (l : List (List Row)) : Prop := ∀ x ∈ l, qad x
def qjB (x : Store) : Int := qHE x.Schema + qAF x.Tables
def qgD (x : Store) : Prop := qJD x.Schema ∧ qZc x.Tables
theorem qPW (x : Store) : 0 ≤ qjB x := by unfold qjB; exact by have := qEF x.Schema; have := qOW x.Tables;  omega
def qne (x : Store) : Prop := qfa x.Schema ∧ (-9223372036854775808 ≤ x.Version ∧ x.Version ≤ 9223372036854775807) ∧ qac x.Tables
def storeB (s : Store) : Bool :=
 schemaB s.Schema && decide (0 ≤ s.Version ∧ s.Version ≤ 100000) && decide (s.Tables.length = s.Schema.Cols.length) && allFrom (fun i rows => rowsB s.Schema (i : Int) rows) s.Tables 0
theorem qNK {s : Store} (h : storeB s = true) {i : Nat} {rows : List Row} (hr : s.Tables[i]? = some rows) : rowsB s.Schema i rows = true := by
 unfold storeB at h
 rw [Bool.and_eq_true] at h
 exact qzD.1 h.2 i rows hr
theorem qtE {s : Store} (h : storeB s = true) : s.Tables.length = s.Schema.Cols.length ∧ schemaB s.Schema = true := by
 unfold storeB at h
 simp only [Bool.and_eq_true, decide_eq_true_eq] at h
 exact ⟨h.1.2, h.1.1.1⟩
theorem quS (v : Int) : qTE.f v = some (decide (0 ≤ v ∧ v ≤ 100000)) := qeL v
theorem qoD (s : Store) (hb : qgD s) : quB.f s = some (storeB s) := by
 obtain ⟨hs, ht, ht2⟩ := hb
 have hl : s.Schema.Cols.length ≤ 9223372036854775807 := hs
 unfold quB.f storeB
 rw [qIE _ hs, Option.bind_some, quS]
 cases schemaB s.Schema with
 | false => rfl
 | true =>
  by_cases d : 0 ≤ s.Version ∧ s.Version ≤ 100000
  case neg => rw [decide_eq_false d]; rfl
  rw [decide_eq_true d]
  by_cases d2 : s.Tables.length = s.Schema.Cols.length
  case neg =>
   rw [show decide (lenI s.Tables ≠ lenI s.Schema.Cols) = true from decide_eq_true (by simp only [qG]; omega), decide_eq_false d2]
   rfl
  rw [show decide (lenI s.Tables ≠ lenI s.Schema.Cols) = false from decide_eq_false (by simp only [qG]; omega), decide_eq_true d2]
  simp only [bo3_F, bo3_T, qqC, Option.bind_some, Bool.true_and, cond_false]
  refine (qYD (f := quB.l0 s) (l := s.Tables) (fun i rows => rowsB s.Schema (i : Int) rows) (some false) (some true) (fun k i x hx => ?_) (fun k i hi => ?_) _ 0 (by omega) (by (try simp only [qG]); omega)).trans ?_
  ·
   have hi := at_lt hx
   rw [quB.l0, qG, decide_eq_true (by omega), cond_true, qv, hx, Option.bind_some, qBP _ _ _ hs (ht2 x (List.mem_of_getElem? hx)), Option.bind_some, qOC, qu (by omega)]
   cases rowsB s.Schema i x <;> rfl
  · rw [quB.l0, qG, decide_eq_false (by omega), cond_false]
  cases allFrom (fun i rows => rowsB s.Schema (i : Int) rows) s.Tables 0 <;> rfl
theorem qaI (l : List Int) (h : (l.length : Int) ≤ 1099511627776) : qkE.f l = some l := by
 unfold qkE.f
 rw [qwC (by simp only [List.length_nil]; omega), Option.bind_some, List.nil_append]
theorem qUY {r : Row} {B : Int} (h : qBC r ≤ B) : (r.Cells.length : Int) ≤ B := by unfold qBC qFD at h; exact h
theorem qpD (r : Row) (h : qBC r ≤ 1099511627776) : qxC.f r = some r := by
 unfold qxC.f
 rw [qaI _ (qUY h), Option.bind_some]
theorem qGR (q : Query) (a b : Row) (ha : Row_b a) (hb : Row_b b) : qlH.f q a b = some (aheadB q a b) := by
 unfold qlH.f aheadB
 rw [qsE _ _ ha, qsE _ _ hb]
 simp only [Option.bind_some, qtQ, decide_eq_true_eq, qXU, qOC, qPc, ne_eq, ite_not]
 all_goals (
  generalize cellF a (w64 (q.Order - 1)) = x
  generalize cellF b (w64 (q.Order - 1)) = y
  by_cases h0 : q.Order = 0
  · simp [h0]
  by_cases h1 : x = y
  · simp [h0, h1]
  cases hd : q.Down with
  | true =>
   simp only [h0, h1, if_false, if_true, Option.some.injEq, decide_eq_true_eq]
   by_cases h2 : x < y
   · simp [h2]; try omega
   simp [h2]; try omega
  | false =>
   simp only [h0, h1, if_false, Option.some.injEq, decide_eq_true_eq]
   by_cases h2 : x < y
   · simp [h2]; try omega
   simp [h2]; try omega)
theorem qvI (q : Query) (a b : Row) : aheadB q a b = true ↔ (q.Order = 0 ∧ a.Id < b.Id) ∨ (q.Order ≠ 0 ∧ ((cellF a (w64 (q.Order - 1)) = cellF b (w64 (q.Order - 1)) ∧ a.Id < b.Id) ∨ (q.Down = true ∧ cellF b (w64 (q.Order - 1)) < cellF a (w64 (q.Order - 1))) ∨ (q.Down = false ∧ cellF a (w64 (q.Order - 1)) < cellF b (w64 (q.Order - 1))))) := by
 unfold aheadB
 by_cases h0 : q.Order = 0
 ·
  rw [if_pos h0, decide_eq_true_eq]
  exact ⟨fun h => .inl ⟨h0, h⟩, fun h => h.elim (fun h => h.2) (fun h => absurd h0 h.1)⟩
 rw [if_neg h0]
 dsimp only
 generalize cellF a (w64 (q.Order - 1)) = x
 generalize cellF b (w64 (q.Order - 1)) = y
 by_cases e : x = y
 ·
  rw [if_pos e, decide_eq_true_eq]
  constructor
  · exact fun h => .inr ⟨h0, .inl ⟨e, h⟩⟩
  rintro (h | ⟨_, h | h | h⟩)
  · exact absurd h.1 h0
  · exact h.2
  · omega
  omega
 rw [if_neg e]
 cases q.Down with
 | true =>
  rw [if_pos rfl, decide_eq_true_eq]
  constructor
  · exact fun h => .inr ⟨h0, .inr (.inl ⟨rfl, h⟩)⟩
  rintro (h | ⟨_, h | h | h⟩)
  · exact absurd h.1 h0
  · exact absurd h.1 e
  · exact h.2
  cases h.1
 | false =>
  rw [if_neg (by simp), decide_eq_true_eq]
  constructor
  · exact fun h => .inr ⟨h0, .inr (.inr ⟨rfl, h⟩)⟩
  rintro (h | ⟨_, h | h | h⟩)
  · exact absurd h.1 h0
  · exact absurd h.1 e
  · cases h.1
  exact h.2
theorem qQW {q : Query} {a b : Row} (h : aheadB q a b = true) : aheadB q b a = false := by
 rw [← Bool.not_eq_true, qvI]
 rw [qvI] at h
 cases hd : q.Down <;> simp only [hd, true_and, false_and, false_or, or_false, Bool.false_eq_true, Bool.true_eq_false] at h ⊢ <;> omega
theorem qkG {q : Query} {a b : Row} (hi : a.Id ≠ b.Id) (h : aheadB q a b = false) : aheadB q b a = true := by
 rw [qvI]
 rw [← Bool.not_eq_true, qvI] at h
 cases hd : q.Down <;> simp only [hd, true_and, false_and, false_or, or_false, Bool.false_eq_true, Bool.true_eq_false] at h ⊢ <;> omega
theorem qHI {q : Query} {a b c : Row} (h1 : aheadB q a b = true) (h2 : aheadB q b c = true) : aheadB q a c = true := by
 rw [qvI] at *
 cases hd : q.Down <;> simp only [hd, true_and, false_and, false_or, or_false, Bool.false_eq_true, Bool.true_eq_false] at h1 h2 ⊢ <;> omega
def Srt (q : Query) (l : List Row) : Prop := l.Pairwise fun a b => aheadB q a b = true
def Dst (l : List Row) : Prop := l.Pairwise fun a b => a.Id ≠ b.Id
theorem Dst.perm {l l' : List Row} (h : Dst l) (p : l.Perm l') : Dst l' := (p.pairwise_iff (fun h e => h e.symm)).1 h
theorem Dst.app {l l' : List Row} (h : Dst (l ++ l')) : Dst l ∧ Dst l' ∧ ∀ a ∈ l, ∀ b ∈ l', a.Id ≠ b.Id := List.pairwise_append.1 h
theorem Srt.unique {q : Query} {l l' : List Row} (h : Srt q l) (h' : Srt q l') (p : l.Perm l') : l = l' :=
 List.Perm.eq_of_pairwise (fun a b _ _ h1 h2 => by rw [qQW h1] at h2; cases h2) h h' p
theorem Srt.app {q : Query} {l l' : List Row} : Srt q (l ++ l') ↔ Srt q l ∧ Srt q l' ∧ ∀ a ∈ l, ∀ b ∈ l', aheadB q a b = true := List.pairwise_append
theorem Srt.at {q : Query} {l : List Row} (h : Srt q l) {i j : Nat} {x y : Row} (hij : i < j) (hx : l[i]? = some x) (hy : l[j]? = some y) : aheadB q x y = true := by
 obtain ⟨h1, rfl⟩ := List.getElem?_eq_some_iff.1 hx
 obtain ⟨h2, rfl⟩ := List.getElem?_eq_some_iff.1 hy
 exact List.pairwise_iff_getElem.1 h i j h1 h2 hij
theorem qmE (a b : Row) (q : Query) (ha : Row_b a) (hb : Row_b b) : qMD.f a b q = some (if aheadB q a b = true then -1 else 1) := by
 unfold qMD.f
 rw [qGR q a b ha hb, Option.bind_some]
 cases aheadB q a b <;> rfl
theorem qRW (a1 : Int) (q : Query) (K : List Row → Option (List Row)) : ∀ (k : Nat) (n : Nat) (P S1 S2 R : List Row) (x : Row) (j : Int), S1.length = n → n < k → a1 = P.length → j = P.length + S1.length → (P ++ (S1 ++ x :: (S2 ++ R))).length ≤ 1000000 →
  (∀ y ∈ S1 ++ x :: S2, Row_b y) → Dst (S1 ++ x :: S2) → Srt q (S1 ++ S2) → (∀ y ∈ S2, aheadB q x y = true) →
  ∃ S', qD.l1 a1 q K k (P ++ (S1 ++ x :: (S2 ++ R))) j = K (P ++ (S' ++ R)) ∧ S'.Perm (S1 ++ x :: S2) ∧ Srt q S' := by
 intro k
 induction k with
 | zero => intro n P S1 S2 R x j _ h; omega
 | succ k ih =>
  intro n P S1 S2 R x j hn hk h1 h2 hlen hb hd hs hx
  simp only [List.length_append, List.length_cons] at hlen
  rw [qD.l1]
  have fin : Srt q (S1 ++ x :: S2) → ∃ S', K (P ++ (S1 ++ x :: (S2 ++ R))) = K (P ++ (S' ++ R)) ∧ S'.Perm (S1 ++ x :: S2) ∧ Srt q S' := fun h => ⟨S1 ++ x :: S2, by simp, List.Perm.refl _, h⟩
  cases n with
  | zero =>
   obtain rfl := List.length_eq_zero_iff.1 hn
   rw [decide_eq_false (by simp at h2; omega), qhF, Option.bind_some, qhF, Option.bind_some, qhF, Option.bind_some, bo3_F, cond_false]
   exact fin (List.pairwise_cons.2 ⟨hx, hs⟩)
  | succ n =>
   obtain ⟨S, y, rfl⟩ : ∃ S y, S1 = S ++ [y] := ⟨S1.dropLast, S1.getLast (by rintro rfl; simp at hn), (List.dropLast_concat_getLast _).symm⟩
   simp only [List.length_append, List.length_cons, List.length_nil] at hn h2 hlen
   have hpos : (P ++ (S ++ [y] ++ x :: (S2 ++ R))) = (P ++ S) ++ y :: ([] ++ x :: (S2 ++ R)) := by simp
   have lps : (P ++ S).length = P.length + S.length := List.length_append
   have e1 : getO (P ++ (S ++ [y] ++ x :: (S2 ++ R))) j = some x := by rw [hpos]; exact qyM (by simp only [List.length_nil]; omega)
   have e2 : getO (P ++ (S ++ [y] ++ x :: (S2 ++ R))) (w64 (j - 1)) = some y := by rw [hpos, qJB (by omega)]; exact qGI (by omega)
   have by_ : Row_b y := hb y (by simp)
   have bx : Row_b x := hb x (by simp)
   rw [decide_eq_true (by omega), e1, qqC, Option.bind_some, e2, qqC, Option.bind_some, qqC, qmE x y q bx by_, Option.bind_some, bo3_T, Option.bind_some, Option.bind_some]
   cases hc : aheadB q x y with
   | true =>
    rw [if_pos rfl, decide_eq_true (by omega), cond_true, qRV (by rw [qJB (by omega)]; omega), Option.bind_some, Option.bind_some, hpos, qJB (by omega), swapB (by omega) (by simp only [List.length_nil]; omega)]
    obtain ⟨S', g1, g2, g3⟩ := ih n P S (y :: S2) R x (j - 1) (by omega) (by omega) h1 (by omega) (by simp only [List.length_append, List.length_cons]; omega) (fun z hz => hb z (by simp at hz ⊢; rcases hz with h | h | h | h <;> simp [h])) (hd.perm (by simpa using List.Perm.append_left S (List.Perm.swap x y S2))) (by simpa using hs) (fun z hz => by
     rcases List.mem_cons.1 hz with rfl | h
     · exact hc
     exact hx z h)
    refine ⟨S', ?_, g2.trans (by simpa using List.Perm.append_left S (List.Perm.swap y x S2)), g3⟩
    rw [← g1]; simp
   | false =>
    rw [if_neg (by simp), decide_eq_false (by omega), cond_false]
    have hne : x.Id ≠ y.Id := fun e => (hd.app.2.2 y (by simp) x (by simp)) e.symm
    have hyx := qkG hne hc
    refine fin (Srt.app.2 ⟨(Srt.app.1 hs).1, List.pairwise_cons.2 ⟨hx, (Srt.app.1 hs).2.1⟩, fun a ha b hb' => ?_⟩)
    have hax : aheadB q a x = true := by
     rcases List.mem_append.1 ha with h | h
     · exact qHI ((Srt.app.1 (Srt.app.1 hs).1).2.2 a h y (by simp)) hyx
     rw [List.mem_singleton.1 h]; exact hyx
    rcases List.mem_cons.1 hb' with rfl | h
    · exact hax
    exact qHI hax (hx b h)
theorem qSW (a1 a2 : Int) (q : Query) : ∀ (k : Nat) (P S T R : List Row) (i : Int), T.length < k → a1 = P.length → i = P.length + S.length → a2 = P.length + S.length + T.length → (P ++ (S ++ (T ++ R))).length ≤ 1000000 →
  (∀ y ∈ S ++ T, Row_b y) → Dst (S ++ T) → Srt q S →
  ∃ S', qD.l0 a1 a2 q k (P ++ (S ++ (T ++ R))) i = some (P ++ (S' ++ R)) ∧ S'.Perm (S ++ T) ∧ Srt q S' := by
 intro k
 induction k with
 | zero => intro P S T R i h; omega
 | succ k ih =>
  intro P S T R i hk h1 h2 h3 hlen hb hd hs
  have hlen0 := hlen
  simp only [List.length_append] at hlen
  rw [qD.l0]
  cases T with
  | nil =>
   simp only [List.length_nil] at h3
   rw [decide_eq_false (by omega), cond_false]
   exact ⟨S, by simp, by simp, hs⟩
  | cons x T =>
   simp only [List.length_cons] at h3 hlen hk
   rw [decide_eq_true (by omega), cond_true, qTC]
   have hd' : Dst (S ++ [x] ++ T) := by simpa using hd
   obtain ⟨S', g1, g2, g3⟩ := qRW a1 q (fun y17 => qD.l0 a1 a2 q k y17 (w64 (i + 1))) ((i - a1).toNat + 1) S.length P S [] (T ++ R) x i rfl (by omega) h1 h2 (by simp only [List.length_append, List.length_cons, List.length_nil]; omega) (fun y hy => hb y (by simp at hy ⊢; rcases hy with h | h <;> simp [h])) (by simpa using hd'.app.1) (by simpa using hs) (by simp)
   have ls : S'.length = S.length + 1 := by rw [g2.length_eq]; simp
   have gp : S'.Perm (S ++ [x]) := by simpa using g2
   rw [List.nil_append] at g1
   rw [show P ++ (S ++ (x :: T ++ R)) = P ++ (S ++ x :: (T ++ R)) by simp, g1, qJB (by omega)]
   obtain ⟨S'', f1, f2, f3⟩ := ih P S' T R (i + 1) (by omega) h1 (by omega) (by omega) (by simp only [List.length_append]; omega) (fun y hy => by
    rcases List.mem_append.1 hy with h | h
    ·
     have := gp.mem_iff.1 h
     exact hb y (by simp at this ⊢; rcases this with h | h <;> simp [h])
    exact hb y (by simp [h])) (hd'.perm (gp.symm.append_right T)) g3
   exact ⟨S'', f1, f2.trans (by simpa using gp.append_right T), f3⟩
theorem qgL {a1 a2 : Int} (q : Query) {P T R : List Row} (h1 : a1 = P.length) (h2 : a2 = P.length + T.length) (hlen : (P ++ (T ++ R)).length ≤ 1000000) (hb : ∀ y ∈ T, Row_b y) (hd : Dst T) :
  ∃ S, qD.f (P ++ (T ++ R)) a1 a2 q = some (P ++ (S ++ R)) ∧ S.Perm T ∧ Srt q S := by
 unfold qD.f
 have hlen' := hlen
 simp only [List.length_append] at hlen'
 rw [qJB (by omega)]
 cases T with
 | nil =>
  simp only [List.length_nil] at h2
  refine ⟨[], ?_, List.Perm.refl _, List.Pairwise.nil⟩
  rw [qD.l0, decide_eq_false (by omega), cond_false]
 | cons x T =>
  simp only [List.length_cons] at h2 hlen'
  have := qSW a1 a2 q ((a2 - (a1 + 1)).toNat + 1) P [x] T R (a1 + 1) (by omega) h1 (by simp only [List.length_cons, List.length_nil]; omega) (by simp only [List.length_cons, List.length_nil]; omega) (by simp only [List.length_append, List.length_cons, List.length_nil]; omega) (by simpa using hb) (by simpa using hd) (by simp [Srt])
  simpa using this
theorem qvS (a1 a2 a3 : Int) : ∀ (k : Nat) (X Y A B C : List Row) (i : Int), X.length = Y.length → 0 ≤ i → i + X.length ≤ 1000000 → (A ++ (X ++ (B ++ (Y ++ C)))).length ≤ 1000000 → a1 + i = A.length → a2 + i = A.length + X.length + B.length → a3 = i + X.length → X.length < k →
  qF.l0 a1 a2 a3 k (A ++ (X ++ (B ++ (Y ++ C)))) i = some (A ++ (Y ++ (B ++ (X ++ C)))) := by
 intro k
 induction k with
 | zero => intro X Y A B C i _ _ _ _ _ _ _ h; omega
 | succ k ih =>
  intro X Y A B C i hl h0 hi hlen h1 h2 h3 hk
  rw [qF.l0]
  cases X with
  | nil =>
   cases Y with
   | cons y Y => simp at hl
   | nil => rw [decide_eq_false (by simp at h3; omega), cond_false]
  | cons x X =>
   cases Y with
   | nil => simp at hl
   | cons y Y =>
    simp only [List.length_append, List.length_cons] at *
    have e1 : w64 (a1 + i) = A.length := by rw [qJB (by omega), h1]
    have lxb : (X ++ B).length = X.length + B.length := List.length_append
    have e2 : w64 (a2 + i) = A.length + 1 + (X ++ B).length := by rw [qJB (by omega), h2]; omega
    have e : A ++ (x :: X ++ (B ++ (y :: Y ++ C))) = A ++ x :: ((X ++ B) ++ y :: (Y ++ C)) := by simp
    rw [decide_eq_true (by omega), cond_true, e1, e2, e, qyM rfl, Option.bind_some, qGI rfl, Option.bind_some, qRV (by omega), Option.bind_some, Option.bind_some, swapA rfl rfl, qJB (by omega)]
    have := ih X Y (A ++ [y]) (B ++ [x]) C (i + 1) (by omega) (by omega) (by omega) (by simp only [List.length_append, List.length_cons, List.length_nil]; omega) (by simp only [List.length_append, List.length_cons, List.length_nil]; omega) (by simp only [List.length_append, List.length_cons, List.length_nil]; omega) (by omega) (by omega)
    simpa using this
theorem qwI {a1 a2 a3 : Int} (q : Query) {X Y A B C : List Row} (hl : X.length = Y.length) (hlen : (A ++ (X ++ (B ++ (Y ++ C)))).length ≤ 1000000) (h1 : a1 = A.length) (h2 : a2 = A.length + X.length + B.length) (h3 : a3 = X.length) :
  qF.f (A ++ (X ++ (B ++ (Y ++ C)))) a1 a2 a3 q = some (A ++ (Y ++ (B ++ (X ++ C)))) := by
 unfold qF.f
 have hlen' := hlen
 simp only [List.length_append] at hlen'
 exact qvS a1 a2 a3 _ X Y A B C 0 hl (by omega) (by omega) hlen (by omega) (by omega) (by omega) (by omega)
theorem qVY (q : Query) (a2 : Int) : ∀ (k : Nat) (X Y P Q : List Row), X ≠ [] → Y ≠ [] → X.length + Y.length < k → (P ++ (X ++ (Y ++ Q))).length ≤ 1000000 → a2 = P.length + X.length →
  qH.l0 a2 q (fun y1 y2 => (qF.f y1 (w64 (a2 - y2)) a2 y2 q).bind fun r24 => some r24) k (P ++ (X ++ (Y ++ Q))) X.length Y.length = some (P ++ (Y ++ (X ++ Q))) := by
 intro k
 induction k with
 | zero => intro X Y P Q _ _ h; omega
 | succ k ih =>
  intro X Y P Q hx hy hk hlen h2
  have lx : 0 < X.length := List.length_pos_iff.2 hx
  have ly : 0 < Y.length := List.length_pos_iff.2 hy
  simp only [List.length_append] at hlen
  rw [qH.l0]
  by_cases he : X.length = Y.length
  ·
   rw [decide_eq_false (by omega), cond_false, qJB (by omega)]
   have := qwI (a1 := a2 - X.length) (a2 := a2) (a3 := X.length) q (X := X) (Y := Y) (A := P) (B := []) (C := Q) he (by simp only [List.length_append, List.length_nil]; omega) (by omega) (by simp only [List.length_nil]; omega) rfl
   simp only [List.nil_append] at this
   rw [this]; rfl
  rw [decide_eq_true (by omega), cond_true]
  by_cases hg : Y.length < X.length
  ·
   rw [decide_eq_true (by omega), cond_true, qJB (by omega), qJB (by omega)]
   obtain ⟨X1, X2, rfl, l1⟩ : ∃ X1 X2, X = X1 ++ X2 ∧ X1.length = Y.length := ⟨X.take Y.length, X.drop Y.length, (List.take_append_drop ..).symm, by rw [List.length_take]; omega⟩
   rw [List.length_append] at *
   have := qwI (a1 := a2 - (X1.length + X2.length : Nat)) (a2 := a2) (a3 := Y.length) q (X := X1) (Y := Y) (A := P) (B := X2) (C := Q) l1 (by simp only [List.length_append]; omega) (by omega) (by omega) (by omega)
   rw [show P ++ (X1 ++ X2 ++ (Y ++ Q)) = P ++ (X1 ++ (X2 ++ (Y ++ Q))) by simp, this, Option.bind_some]
   have h := ih X2 X1 (P ++ Y) Q (by rintro rfl; simp at *; omega) (by rintro rfl; simp at *; omega) (by omega) (by simp only [List.length_append]; omega) (by simp only [List.length_append]; omega)
   rw [show ((X1.length + X2.length : Nat) : Int) - Y.length = X2.length by omega, show (Y.length : Int) = X1.length by omega]
   simpa using h
  rw [decide_eq_false (by omega), cond_false, qJB (by omega), qJB (x := a2 + Y.length) (by omega), qJB (by omega), qJB (by omega)]
  obtain ⟨Y1, Y2, rfl, l1⟩ : ∃ Y1 Y2, Y = Y1 ++ Y2 ∧ Y2.length = X.length := ⟨Y.take (Y.length - X.length), Y.drop (Y.length - X.length), (List.take_append_drop ..).symm, by rw [List.length_drop]; omega⟩
  rw [List.length_append] at *
  have := qwI (a1 := a2 - X.length) (a2 := a2 + (Y1.length + Y2.length : Nat) - X.length) (a3 := X.length) q (X := X) (Y := Y2) (A := P) (B := Y1) (C := Q) l1.symm (by simp only [List.length_append]; omega) (by omega) (by omega) (by omega)
  rw [show P ++ (X ++ (Y1 ++ Y2 ++ Q)) = P ++ (X ++ (Y1 ++ (Y2 ++ Q))) by simp, this, Option.bind_some]
  have h := ih Y2 Y1 P (X ++ Q) (by rintro rfl; simp at *; omega) (by rintro rfl; simp at *; omega) (by omega) (by simp only [List.length_append]; omega) (by omega)
  rw [show ((Y1.length + Y2.length : Nat) : Int) - X.length = Y1.length by omega, show (X.length : Int) = Y2.length by omega]
  simpa using h
theorem qWY (q : Query) {a1 a2 a3 : Int} {X Y P Q : List Row} (hx : X ≠ []) (hy : Y ≠ []) (hlen : (P ++ (X ++ (Y ++ Q))).length ≤ 900) (h1 : a1 = P.length) (h2 : a2 = P.length + X.length) (h3 : a3 = P.length + X.length + Y.length) :
  qH.f (P ++ (X ++ (Y ++ Q))) a1 a2 a3 q = some (P ++ (Y ++ (X ++ Q))) := by
 unfold qH.f
 simp only [List.length_append] at hlen
 rw [qTC, qJB (by omega), qJB (by omega), show a2 - a1 = X.length by omega, show a3 - a2 = Y.length by omega]
 exact qVY q a2 1000 X Y P Q hx hy (by omega) (by simp only [List.length_append]; omega) h2
theorem Srt.tr1 {q : Query} {l : List Row} (h : Srt q l) {i j : Nat} {x y z : Row} (hij : i ≤ j) (hx : l[i]? = some x) (hy : l[j]? = some y) (hz : aheadB q y z = true) : aheadB q x z = true := by
 rcases Nat.lt_or_ge i j with h1 | h1
 · exact qHI (h.at h1 hx hy) hz
 obtain rfl : i = j := by omega
 rw [hx] at hy; cases hy; exact hz
theorem Srt.tr2 {q : Query} {l : List Row} (h : Srt q l) {i j : Nat} {x y z : Row} (hij : i ≤ j) (hx : l[i]? = some x) (hy : l[j]? = some y) (hz : aheadB q z x = true) : aheadB q z y = true := by
 rcases Nat.lt_or_ge i j with h1 | h1
 · exact qHI hz (h.at h1 hx hy)
 obtain rfl : i = j := by omega
 rw [hx] at hy; cases hy; exact hz
theorem symUp (y4 : Int) : ∀ (k : Nat) (Y A C : List Row) (x : Row) (i : Int), Y.length < k → i = A.length → y4 = A.length + 1 + Y.length → (A ++ x :: (Y ++ C)).length ≤ 1000000 →
  qA.l1 y4 k (A ++ x :: (Y ++ C)) i = some (A ++ (Y ++ x :: C)) := by
 intro k
 induction k with
 | zero => intro Y A C x i h; omega
 | succ k ih =>
  intro Y A C x i hk h1 h2 hlen
  simp only [List.length_append, List.length_cons] at hlen
  rw [qA.l1, qJB (x := y4 - 1) (by omega)]
  cases Y with
  | nil =>
   simp only [List.length_nil] at h2
   rw [decide_eq_false (by omega), cond_false]; rfl
  | cons y Y =>
   simp only [List.length_cons] at h2 hk hlen
   rw [decide_eq_true (by omega), cond_true, qJB (by omega), show A ++ x :: (y :: Y ++ C) = A ++ x :: ([] ++ y :: (Y ++ C)) by simp, qyM (by simp only [List.length_nil]; omega), Option.bind_some, qGI h1, Option.bind_some, qRV (by omega), Option.bind_some, Option.bind_some, swapA h1 (by simp only [List.length_nil]; omega)]
   have := ih Y (A ++ [y]) C x (i + 1) (by omega) (by simp only [List.length_append, List.length_cons, List.length_nil]; omega) (by simp only [List.length_append, List.length_cons, List.length_nil]; omega) (by simp only [List.length_append, List.length_cons, List.length_nil]; omega)
   simpa using this
theorem symDown (y39 : Int) : ∀ (k n : Nat) (Y A C : List Row) (x : Row) (i : Int), Y.length = n → n < k → i = A.length + Y.length → y39 = A.length → (A ++ (Y ++ x :: C)).length ≤ 1000000 →
  qA.l3 y39 k (A ++ (Y ++ x :: C)) i = some (A ++ x :: (Y ++ C)) := by
 intro k
 induction k with
 | zero => intro n Y A C x i _ h; omega
 | succ k ih =>
  intro n Y A C x i hn hk h1 h2 hlen
  simp only [List.length_append, List.length_cons] at hlen
  rw [qA.l3]
  cases n with
  | zero =>
   obtain rfl := List.length_eq_zero_iff.1 hn
   rw [decide_eq_false (by simp at h1; omega), cond_false]; rfl
  | succ n =>
   obtain ⟨S, y, rfl⟩ : ∃ S y, Y = S ++ [y] := ⟨Y.dropLast, Y.getLast (by rintro rfl; simp at hn), (List.dropLast_concat_getLast _).symm⟩
   simp only [List.length_append, List.length_cons, List.length_nil] at hn h1 hlen
   have lps : (A ++ S).length = A.length + S.length := List.length_append
   rw [decide_eq_true (by omega), cond_true, qJB (by omega), show A ++ (S ++ [y] ++ x :: C) = (A ++ S) ++ y :: ([] ++ x :: C) by simp, qGI (by omega), Option.bind_some, qyM (by simp only [List.length_nil]; omega), Option.bind_some, qRV (by omega), Option.bind_some, Option.bind_some, swapB (by omega) (by simp only [List.length_nil]; omega)]
   have := ih n S A (y :: C) x (i - 1) (by omega) (by omega) (by omega) h2 (by simp only [List.length_append, List.length_cons]; omega)
   simpa using this
theorem symOne (self : List Row → Int → Int → Int → Query → Option (List Row)) (q : Query) {P R Q : List Row} {x : Row} {a m b : Int} (ha : a = P.length) (hm : m = P.length + 1) (hb' : b = P.length + 1 + R.length) (hlen : (P ++ ([x] ++ (R ++ Q))).length ≤ 900) (hb : ∀ y ∈ [x] ++ R, Row_b y) (hd : Dst ([x] ++ R)) (hR : Srt q R) :
  ∃ M, qA.b self (P ++ ([x] ++ (R ++ Q))) a m b q = some (P ++ (M ++ Q)) ∧ M.Perm ([x] ++ R) ∧ Srt q M := by
 have hlen' := hlen
 simp only [List.length_append, List.length_cons, List.length_nil] at hlen'
 unfold qA.b
 rw [qTC, qJB (x := m - a) (by omega), decide_eq_true (by omega), cond_true, qTC]
 have hx : Row_b x := hb x (by simp)
 have hR' : ∀ c, P.length + 1 ≤ c → c < P.length + 1 + R.length → ∃ y, R[c - (P.length + 1)]? = some y ∧ y ∈ R ∧ getO (P ++ ([x] ++ (R ++ Q))) (c : Int) = some y := by
  intro c h1 h2
  have h3 : c - (P.length + 1) < R.length := by omega
  refine ⟨R[c - (P.length + 1)], List.getElem?_eq_getElem h3, List.getElem_mem h3, ?_⟩
  rw [show P ++ ([x] ++ (R ++ Q)) = (P ++ [x]) ++ (R ++ Q) by simp, qzM (by simp; omega) (by simp; omega)]
  simp only [List.length_append, List.length_cons, List.length_nil]
  exact List.getElem?_eq_getElem h3
 have h0 : getO (P ++ ([x] ++ (R ++ Q))) a = some x := qGI ha
 generalize hK : (fun y4 => qA.l1 y4 ((w64 (y4 - 1) - a).toNat + 1) (P ++ ([x] ++ (R ++ Q))) a) = K
 obtain ⟨t, t1, t2, t3, t4, t5⟩ := bsearch (f := fun k i j => qA.l0 (P ++ ([x] ++ (R ++ Q))) a q K k i j) (K := K) (fun c => aheadB q (R.getD (c - (P.length + 1)) default) x) (P.length + 1) (P.length + 1 + R.length)
  (fun c c' h1 h2 h3 h4 => by
   obtain ⟨y, e1, _, _⟩ := hR' c h1 (by omega)
   obtain ⟨y', e2, _, _⟩ := hR' c' (by omega) h3
   rw [List.getD_eq_getElem?_getD, e1, Option.getD_some] at h4
   rw [List.getD_eq_getElem?_getD, e2, Option.getD_some]
   cases hh : aheadB q y' x with
   | false => rfl
   | true => rw [hR.tr1 (by omega) e1 e2 hh] at h4; cases h4)
  (fun k i j h1 h2 h3 => by
   obtain ⟨y, e1, hy, e2⟩ := hR' ((i + j) / 2) (by omega) (by omega)
   show qA.l0 _ a q K (k + 1) i j = _
   rw [qA.l0, decide_eq_true (by omega), cond_true, qlN (n := i + j) (by omega) (by omega), e2, Option.bind_some, h0, Option.bind_some, qmE y x q (hb y (by simp [hy])) hx, Option.bind_some, List.getD_eq_getElem?_getD, e1, Option.getD_some, qu (by omega)]
   cases aheadB q y x with
   | true => rw [if_pos rfl, decide_eq_true (by omega), cond_true, if_pos rfl]
   | false => rw [if_neg (by simp), decide_eq_false (by omega), cond_false, if_neg (by simp)])
  (fun k i => by
   show qA.l0 _ a q K (k + 1) i i = _
   rw [qA.l0, decide_eq_false (by omega), cond_false])
  ((b - m).toNat + 1) (P.length + 1) (P.length + 1 + R.length) (Nat.le_refl _) (by omega) (Nat.le_refl _) (by omega)
 rw [show m = ((P.length + 1 : Nat) : Int) by omega, show b = ((P.length + 1 + R.length : Nat) : Int) by omega] at *
 rw [t3, ← hK]
 obtain ⟨R1, R2, eR, l1⟩ : ∃ R1 R2, R = R1 ++ R2 ∧ R1.length = t - (P.length + 1) := ⟨R.take (t - (P.length + 1)), R.drop (t - (P.length + 1)), (List.take_append_drop ..).symm, by rw [List.length_take]; omega⟩
 have lR : R.length = R1.length + R2.length := by rw [eR, List.length_append]
 have s1 : ∀ y ∈ R1, aheadB q y x = true := fun y hy => by
  obtain ⟨i, hi⟩ := List.getElem?_of_mem hy
  have hi' := at_lt hi
  have := t4 (P.length + 1 + i) (by omega) (by omega)
  rw [Nat.add_sub_cancel_left, List.getD_eq_getElem?_getD, eR, List.getElem?_append_left hi', hi] at this
  exact this
 have s2 : ∀ y ∈ R2, aheadB q x y = true := fun y hy => by
  obtain ⟨i, hi⟩ := List.getElem?_of_mem hy
  have hi' := at_lt hi
  have := t5 (P.length + 1 + (R1.length + i)) (by omega) (by omega)
  rw [Nat.add_sub_cancel_left, List.getD_eq_getElem?_getD, eR, List.getElem?_append_right (by omega), Nat.add_sub_cancel_left, hi] at this
  exact qkG (fun e => hd.app.2.2 x (by simp) y (by rw [eR]; simp [hy]) e.symm) this
 refine ⟨R1 ++ x :: R2, ?_, ?_, ?_⟩
 ·
  have := symUp (t : Int) ((w64 ((t : Int) - 1) - a).toNat + 1) R1 P (R2 ++ Q) x a (by rw [qJB (by omega)]; omega) ha (by omega) (by simp only [List.length_append, List.length_cons]; omega)
  rw [eR]
  simpa using this
 · rw [eR]; exact List.perm_middle
 ·
  rw [eR] at hR
  exact Srt.app.2 ⟨(Srt.app.1 hR).1, List.pairwise_cons.2 ⟨s2, (Srt.app.1 hR).2.1⟩, fun y hy z hz => by
   rcases List.mem_cons.1 hz with rfl | h
   · exact s1 y hy
   exact (Srt.app.1 hR).2.2 y hy z h⟩
theorem symLast (self : List Row → Int → Int → Int → Query → Option (List Row)) (q : Query) {P L Q : List Row} {x : Row} {a m b : Int} (hL0 : L.length ≠ 1) (ha : a = P.length) (hm : m = P.length + L.length) (hb' : b = P.length + L.length + 1) (hlen : (P ++ (L ++ ([x] ++ Q))).length ≤ 900) (hb : ∀ y ∈ L ++ [x], Row_b y) (hd : Dst (L ++ [x])) (hL : Srt q L) :
  ∃ M, qA.b self (P ++ (L ++ ([x] ++ Q))) a m b q = some (P ++ (M ++ Q)) ∧ M.Perm (L ++ [x]) ∧ Srt q M := by
 have hlen' := hlen
 simp only [List.length_append, List.length_cons, List.length_nil] at hlen'
 unfold qA.b
 rw [qTC, qJB (x := m - a) (by omega), decide_eq_false (by omega), cond_false, qTC, qJB (x := b - m) (by omega), decide_eq_true (by omega), cond_true, qTC]
 have hx : Row_b x := hb x (by simp)
 have hL' : ∀ c, P.length ≤ c → c < P.length + L.length → ∃ y, L[c - P.length]? = some y ∧ y ∈ L ∧ getO (P ++ (L ++ ([x] ++ Q))) (c : Int) = some y := by
  intro c h1 h2
  have h3 : c - P.length < L.length := by omega
  refine ⟨L[c - P.length], List.getElem?_eq_getElem h3, List.getElem_mem h3, ?_⟩
  rw [qzM (by omega) (by omega)]
  exact List.getElem?_eq_getElem h3
 have h0 : getO (P ++ (L ++ ([x] ++ Q))) m = some x := by
  rw [show P ++ (L ++ ([x] ++ Q)) = (P ++ L) ++ x :: Q by simp]
  exact qGI (by simp only [List.length_append]; omega)
 generalize hK : (fun y39 => qA.l3 y39 ((m - y39).toNat + 1) (P ++ (L ++ ([x] ++ Q))) m) = K
 obtain ⟨t, t1, t2, t3, t4, t5⟩ := bsearch (f := fun k i j => qA.l2 (P ++ (L ++ ([x] ++ Q))) m q K k i j) (K := K) (fun c => !aheadB q x (L.getD (c - P.length) default)) P.length (P.length + L.length)
  (fun c c' h1 h2 h3 h4 => by
   obtain ⟨y, e1, _, _⟩ := hL' c h1 (by omega)
   obtain ⟨y', e2, _, _⟩ := hL' c' (by omega) h3
   rw [List.getD_eq_getElem?_getD, e1, Option.getD_some] at h4
   rw [List.getD_eq_getElem?_getD, e2, Option.getD_some]
   cases hh : aheadB q x y with
   | false => rw [hh] at h4; cases h4
   | true => rw [hL.tr2 (by omega) e1 e2 hh]; rfl)
  (fun k i j h1 h2 h3 => by
   obtain ⟨y, e1, hy, e2⟩ := hL' ((i + j) / 2) (by omega) (by omega)
   show qA.l2 _ m q K (k + 1) i j = _
   rw [qA.l2, decide_eq_true (by omega), cond_true, qlN (n := i + j) (by omega) (by omega), h0, Option.bind_some, e2, Option.bind_some, qmE x y q hx (hb y (by simp [hy])), Option.bind_some, List.getD_eq_getElem?_getD, e1, Option.getD_some, qu (by omega), qOC]
   cases aheadB q x y with
   | true => rw [if_pos rfl, decide_eq_true (by omega), Bool.not_true, cond_false, if_neg (by simp)]
   | false => rw [if_neg (by simp), decide_eq_false (by omega), Bool.not_false, cond_true, if_pos rfl])
  (fun k i => by
   show qA.l2 _ m q K (k + 1) i i = _
   rw [qA.l2, decide_eq_false (by omega), cond_false])
  ((m - a).toNat + 1) P.length (P.length + L.length) (Nat.le_refl _) (by omega) (Nat.le_refl _) (by omega)
 rw [show a = ((P.length : Nat) : Int) by omega, show m = ((P.length + L.length : Nat) : Int) by omega] at *
 rw [t3, ← hK]
 obtain ⟨L1, L2, eL, l1⟩ : ∃ L1 L2, L = L1 ++ L2 ∧ L1.length = t - P.length := ⟨L.take (t - P.length), L.drop (t - P.length), (List.take_append_drop ..).symm, by rw [List.length_take]; omega⟩
 have lL : L.length = L1.length + L2.length := by rw [eL, List.length_append]
 have s1 : ∀ y ∈ L1, aheadB q y x = true := fun y hy => by
  obtain ⟨i, hi⟩ := List.getElem?_of_mem hy
  have hi' := at_lt hi
  have := t4 (P.length + i) (by omega) (by omega)
  rw [Nat.add_sub_cancel_left, List.getD_eq_getElem?_getD, eL, List.getElem?_append_left hi', hi, Option.getD_some, Bool.not_eq_true'] at this
  exact qkG (fun e => hd.app.2.2 y (by rw [eL]; simp [hy]) x (by simp) e.symm) this
 have s2 : ∀ y ∈ L2, aheadB q x y = true := fun y hy => by
  obtain ⟨i, hi⟩ := List.getElem?_of_mem hy
  have hi' := at_lt hi
  have := t5 (P.length + (L1.length + i)) (by omega) (by omega)
  rw [Nat.add_sub_cancel_left, List.getD_eq_getElem?_getD, eL, List.getElem?_append_right (by omega), Nat.add_sub_cancel_left, hi, Option.getD_some, Bool.not_eq_false'] at this
  exact this
 refine ⟨L1 ++ x :: L2, ?_, ?_, ?_⟩
 ·
  have lpl : (P ++ L1).length = P.length + L1.length := List.length_append
  have := symDown (t : Int) ((((P.length + L.length : Nat) : Int) - t).toNat + 1) L2.length L2 (P ++ L1) Q x ((P.length + L.length : Nat) : Int) rfl (by omega) (by omega) (by omega) (by simp only [List.length_append, List.length_cons]; omega)
  rw [eL] at this ⊢
  simpa using this
 · rw [eL]; simpa using List.Perm.append_left L1 (List.perm_append_comm (l₁ := [x]) (l₂ := L2))
 ·
  rw [eL] at hL
  exact Srt.app.2 ⟨(Srt.app.1 hL).1, List.pairwise_cons.2 ⟨s2, (Srt.app.1 hL).2.1⟩, fun y hy z hz => by
   rcases List.mem_cons.1 hz with rfl | h
   · exact s1 y hy
   exact (Srt.app.1 hL).2.2 y hy z h⟩
theorem symIf (self : List Row → Int → Int → Int → Query → Option (List Row)) (q : Query) {P L R Q : List Row} {a m b : Int} (K : List Row → Option (List Row)) (ha : a = P.length) (hm : m = P.length + L.length) (hb' : b = P.length + L.length + R.length) (hL : Srt q L) (hR : Srt q R)
  (ih : L ≠ [] → R ≠ [] → ∃ M, self (P ++ (L ++ (R ++ Q))) a m b q = some (P ++ (M ++ Q)) ∧ M.Perm (L ++ R) ∧ Srt q M) :
  ∃ M, (bif (bo3 (decide (a < m)) (decide (m < b)) false) then ((self (P ++ (L ++ (R ++ Q))) a m b q).bind fun r => K r) else K (P ++ (L ++ (R ++ Q)))) = K (P ++ (M ++ Q)) ∧ M.Perm (L ++ R) ∧ Srt q M := by
 by_cases h1 : L = []
 ·
  subst h1
  simp only [List.length_nil] at hm
  rw [decide_eq_false (by omega), bo3_F, cond_false]
  exact ⟨R, rfl, List.Perm.refl _, hR⟩
 ·
  by_cases h2 : R = []
  ·
   subst h2
   simp only [List.length_nil] at hb'
   rw [decide_eq_false (p := m < b) (by omega), qWF, Bool.and_false, cond_false]
   exact ⟨L, rfl, by simp, hL⟩
  have g1 : 0 < L.length := List.length_pos_iff.2 h1
  have g2 : 0 < R.length := List.length_pos_iff.2 h2
  obtain ⟨M, e1, e2, e3⟩ := ih h1 h2
  rw [decide_eq_true (by omega), decide_eq_true (by omega), bo3_T, cond_true, e1]
  exact ⟨M, rfl, e2, e3⟩
theorem symRot (q : Query) {P L R Q : List Row} {a m b : Int} (K : List Row → Int → Option (List Row)) (ha : a = P.length) (hm : m = P.length + L.length) (hb' : b = P.length + L.length + R.length) (hlen : (P ++ (L ++ (R ++ Q))).length ≤ 900) :
  (bif (bo3 (decide (a < m)) (decide (m < b)) false) then ((qH.f (P ++ (L ++ (R ++ Q))) a m b q).bind fun r => K r b) else K (P ++ (L ++ (R ++ Q))) b) = K (P ++ (R ++ (L ++ Q))) b := by
 by_cases h1 : L = []
 ·
  subst h1
  simp only [List.length_nil] at hm
  rw [decide_eq_false (by omega), bo3_F, cond_false]
  rfl
 ·
  by_cases h2 : R = []
  ·
   subst h2
   simp only [List.length_nil] at hb'
   rw [decide_eq_false (p := m < b) (by omega), qWF, Bool.and_false, cond_false]
   rfl
  have g1 : 0 < L.length := List.length_pos_iff.2 h1
  have g2 : 0 < R.length := List.length_pos_iff.2 h2
  rw [decide_eq_true (by omega), decide_eq_true (by omega), bo3_T, cond_true, qWY q h1 h2 hlen ha hm hb', Option.bind_some]
theorem symSearch (q : Query) (K : Int → Option (List Row)) {P L R Q : List Row} (hlen : (P ++ (L ++ (R ++ Q))).length ≤ 900) (hb : ∀ y ∈ L ++ R, Row_b y) (hL : Srt q L) (hR : Srt q R) (lo hi : Nat) (p : Nat) (h1 : P.length ≤ lo) (h2 : hi ≤ P.length + L.length) (hle : lo ≤ hi) (h3 : ∀ c, lo ≤ c → c < hi → P.length + L.length ≤ p - c ∧ c ≤ p ∧ p - c < P.length + L.length + R.length) (k : Nat) (hk : hi - lo < k) :
  ∃ t : Nat, lo ≤ t ∧ t ≤ hi ∧ qA.l4 (P ++ (L ++ (R ++ Q))) q K k lo hi p = K t ∧
   (∀ c, lo ≤ c → c < t → ∀ x y, L[c - P.length]? = some x → R[p - c - (P.length + L.length)]? = some y → aheadB q y x = false) ∧
   (∀ c, t ≤ c → c < hi → ∀ x y, L[c - P.length]? = some x → R[p - c - (P.length + L.length)]? = some y → aheadB q y x = true) := by
 simp only [List.length_append] at hlen
 have hL' : ∀ c, P.length ≤ c → c < P.length + L.length → ∃ y, L[c - P.length]? = some y ∧ y ∈ L ∧ getO (P ++ (L ++ (R ++ Q))) (c : Int) = some y := by
  intro c h1 h2
  have h3 : c - P.length < L.length := by omega
  refine ⟨L[c - P.length], List.getElem?_eq_getElem h3, List.getElem_mem h3, ?_⟩
  rw [qzM (by omega) (by omega)]
  exact List.getElem?_eq_getElem h3
 have hR' : ∀ c, P.length + L.length ≤ c → c < P.length + L.length + R.length → ∃ y, R[c - (P.length + L.length)]? = some y ∧ y ∈ R ∧ getO (P ++ (L ++ (R ++ Q))) (c : Int) = some y := by
  intro c h1 h2
  have h3 : c - (P.length + L.length) < R.length := by omega
  refine ⟨R[c - (P.length + L.length)], List.getElem?_eq_getElem h3, List.getElem_mem h3, ?_⟩
  rw [show P ++ (L ++ (R ++ Q)) = (P ++ L) ++ (R ++ Q) by simp, qzM (by simp only [List.length_append]; omega) (by simp only [List.length_append]; omega)]
  simp only [List.length_append]
  exact List.getElem?_eq_getElem h3
 obtain ⟨t, t1, t2, t3, t4, t5⟩ := bsearch (f := fun k i j => qA.l4 (P ++ (L ++ (R ++ Q))) q K k i j p) (K := K) (fun c => !aheadB q (R.getD (p - c - (P.length + L.length)) default) (L.getD (c - P.length) default)) lo hi
  (fun c c' g1 g2 g3 g4 => by
   obtain ⟨x, e1, _, _⟩ := hL' c (by omega) (by omega)
   obtain ⟨x', e2, _, _⟩ := hL' c' (by omega) (by omega)
   obtain ⟨u1, u2, u3⟩ := h3 c g1 (by omega)
   obtain ⟨v1, v2, v3⟩ := h3 c' (by omega) g3
   obtain ⟨y, f1, _, _⟩ := hR' (p - c) u1 u3
   obtain ⟨y', f2, _, _⟩ := hR' (p - c') v1 v3
   rw [List.getD_eq_getElem?_getD, f1, Option.getD_some, List.getD_eq_getElem?_getD, e1, Option.getD_some] at g4
   rw [List.getD_eq_getElem?_getD, f2, Option.getD_some, List.getD_eq_getElem?_getD, e2, Option.getD_some]
   cases hh : aheadB q y x with
   | false => rw [hh] at g4; cases g4
   | true => rw [hR.tr1 (by omega) f2 f1 (hL.tr2 (by omega) e1 e2 hh)]; rfl)
  (fun k i j g1 g2 g3 => by
   obtain ⟨u1, u2, u3⟩ := h3 ((i + j) / 2) (by omega) (by omega)
   obtain ⟨x, e1, hx, e2⟩ := hL' ((i + j) / 2) (by omega) (by omega)
   obtain ⟨y, f1, hy, f2⟩ := hR' (p - (i + j) / 2) u1 u3
   show qA.l4 _ q K (k + 1) i j p = _
   rw [qA.l4, decide_eq_true (by omega), cond_true, qlN (n := i + j) (by omega) (by omega), qJB (x := (p : Int) - _) (by omega), show (p : Int) - ((i + j) / 2 : Nat) = ((p - (i + j) / 2 : Nat) : Int) by omega, f2, Option.bind_some, e2, Option.bind_some, qmE y x q (hb y (by simp [hy])) (hb x (by simp [hx])), Option.bind_some, List.getD_eq_getElem?_getD, f1, Option.getD_some, List.getD_eq_getElem?_getD, e1, Option.getD_some, qu (by omega), qOC]
   cases aheadB q y x with
   | true => rw [if_pos rfl, decide_eq_true (by omega), Bool.not_true, cond_false, if_neg (by simp)]
   | false => rw [if_neg (by simp), decide_eq_false (by omega), Bool.not_false, cond_true, if_pos rfl])
  (fun k i => by
   show qA.l4 _ q K (k + 1) i i p = _
   rw [qA.l4, decide_eq_false (by omega), cond_false])
  k lo hi (Nat.le_refl _) hle (Nat.le_refl _) hk
 refine ⟨t, t1, t2, t3, fun c g1 g2 x y e f => ?_, fun c g1 g2 x y e f => ?_⟩
 ·
  have := t4 c g1 g2
  rw [List.getD_eq_getElem?_getD, f, Option.getD_some, List.getD_eq_getElem?_getD, e, Option.getD_some, Bool.not_eq_true'] at this
  exact this
 ·
  have := t5 c g1 g2
  rw [List.getD_eq_getElem?_getD, f, Option.getD_some, List.getD_eq_getElem?_getD, e, Option.getD_some, Bool.not_eq_false'] at this
  exact this
theorem qja {R : Type} {c : Bool} {a1 a2 a3 a4 b1 b2 b3 b4 : Int} (k : Int → Int → Int → Int → Option R) : joinK k (fun K => bif c then K a1 a2 a3 a4 else K b1 b2 b3 b4) = k (bif c then a1 else b1) (bif c then a2 else b2) (bif c then a3 else b3) (bif c then a4 else b4) := by cases c <;> rfl
theorem symFin (self : List Row → Int → Int → Int → Query → Option (List Row)) (q : Query) {P L1 L2 R1 R2 Q : List Row} {a m b t mid e : Int} (ha : a = P.length) (ht : t = P.length + L1.length) (hm : m = t + L2.length) (hmid : mid = t + R1.length) (he : e = m + R1.length) (hb' : b = e + R2.length) (hlen : P.length + (L1.length + (L2.length + (R1.length + (R2.length + Q.length)))) ≤ 900)
  (hd' : Dst (L1 ++ L2 ++ (R1 ++ R2))) (hL' : Srt q (L1 ++ L2)) (hR' : Srt q (R1 ++ R2)) (i1 : ∀ x ∈ L1, ∀ y ∈ R2, aheadB q x y = true) (i2 : ∀ y ∈ R1, ∀ x ∈ L2, aheadB q y x = true)
  (ih1 : L1 ≠ [] → R1 ≠ [] → ∃ M, self (P ++ (L1 ++ (R1 ++ (L2 ++ (R2 ++ Q))))) a t mid q = some (P ++ (M ++ (L2 ++ (R2 ++ Q)))) ∧ M.Perm (L1 ++ R1) ∧ Srt q M)
  (ih2 : ∀ M1 : List Row, M1.length = L1.length + R1.length → L2 ≠ [] → R2 ≠ [] → ∃ M, self ((P ++ M1) ++ (L2 ++ (R2 ++ Q))) mid e b q = some ((P ++ M1) ++ (M ++ Q)) ∧ M.Perm (L2 ++ R2) ∧ Srt q M) :
  ∃ M, joinK (fun (y105 : List Row) (y106 : Int) => joinK (fun (y115 : List Row) =>
 bif (bo3 (decide (mid < y106)) (decide (y106 < b)) false) then (
 (self y115 mid y106 b q).bind fun r130 =>
 some r130)
 else (
 some y115)) (fun K116 =>
 bif (bo3 (decide (a < t)) (decide (t < mid)) false) then (
 (self y105 a t mid q).bind fun r123 =>
 K116 r123)
 else (
 K116 y105))) (fun K107 =>
 bif (bo3 (decide (t < m)) (decide (m < e)) false) then (
 (qH.f (P ++ L1 ++ (L2 ++ (R1 ++ (R2 ++ Q)))) t m e q).bind fun r114 =>
 K107 r114 e)
 else (
 K107 (P ++ L1 ++ (L2 ++ (R1 ++ (R2 ++ Q)))) e)) = some (P ++ (M ++ Q)) ∧ M.Perm (L1 ++ L2 ++ (R1 ++ R2)) ∧ Srt q M := by
 have sL := Srt.app.1 hL'
 have sR := Srt.app.1 hR'
 have perm : (L1 ++ L2 ++ (R1 ++ R2)).Perm ((L1 ++ R1) ++ (L2 ++ R2)) := by
  simp only [List.append_assoc]
  refine List.Perm.append_left L1 ?_
  rw [← List.append_assoc, ← List.append_assoc]
  exact List.Perm.append_right R2 List.perm_append_comm
 have lp1 : (P ++ L1).length = P.length + L1.length := List.length_append
 have rot := symRot q (P := P ++ L1) (L := L2) (R := R1) (Q := R2 ++ Q) (a := t) (m := m) (b := e) (fun (y105 : List Row) (y106 : Int) => joinK (fun (y115 : List Row) =>
 bif (bo3 (decide (mid < y106)) (decide (y106 < b)) false) then (
 (self y115 mid y106 b q).bind fun r130 =>
 some r130)
 else (
 some y115)) (fun K116 =>
 bif (bo3 (decide (a < t)) (decide (t < mid)) false) then (
 (self y105 a t mid q).bind fun r123 =>
 K116 r123)
 else (
 K116 y105))) (by omega) (by omega) (by omega) (by simp only [List.length_append]; omega)
 obtain ⟨M1, s1, p1, m1⟩ := symIf self q (P := P) (L := L1) (R := R1) (Q := L2 ++ (R2 ++ Q)) (a := a) (m := t) (b := mid) (fun y115 => bif (bo3 (decide (mid < e)) (decide (e < b)) false) then ((self y115 mid e b q).bind fun r130 => some r130) else (some y115)) ha (by omega) (by omega) sL.1 sR.1 ih1
 have lM : M1.length = L1.length + R1.length := by rw [p1.length_eq, List.length_append]
 have lpm : (P ++ M1).length = P.length + M1.length := List.length_append
 obtain ⟨M2, s2, p2, m2⟩ := symIf self q (P := P ++ M1) (L := L2) (R := R2) (Q := Q) (a := mid) (m := e) (b := b) (fun r => some r) (by omega) (by omega) (by omega) sL.2.1 sR.2.1 (ih2 M1 lM)
 refine ⟨M1 ++ M2, ?_, ?_, Srt.app.2 ⟨m1, m2, fun x hx y hy => ?_⟩⟩
 ·
  rw [qTC]
  rw [rot, qTC, List.append_assoc P L1]
  rw [s1, ← List.append_assoc P M1, s2]
  simp
 · exact (p1.append p2).trans perm.symm
 ·
  have hx := p1.mem_iff.1 hx
  have hy := p2.mem_iff.1 hy
  rcases List.mem_append.1 hx with hx | hx <;> rcases List.mem_append.1 hy with hy | hy
  · exact sL.2.2 x hx y hy
  · exact i1 x hx y hy
  · exact i2 x hx y hy
  exact sR.2.2 x hx y hy
theorem symMid (self : List Row → Int → Int → Int → Query → Option (List Row)) (q : Query) {P L R Q : List Row} {a m b : Int} (hL1 : L.length ≠ 1) (hR1 : R.length ≠ 1) (hL0 : L ≠ []) (hR0 : R ≠ []) (ha : a = P.length) (hm : m = P.length + L.length) (hb' : b = P.length + L.length + R.length) (hlen : (P ++ (L ++ (R ++ Q))).length ≤ 900)
  (hb : ∀ y ∈ L ++ R, Row_b y) (hd : Dst (L ++ R)) (hL : Srt q L) (hR : Srt q R)
  (ih : ∀ P' L' R' Q' : List Row, L' ≠ [] → R' ≠ [] → L'.length + R'.length < L.length + R.length → (P' ++ (L' ++ (R' ++ Q'))).length ≤ 900 → (∀ y ∈ L' ++ R', y ∈ L ++ R) → Dst (L' ++ R') → Srt q L' → Srt q R' → ∀ a' m' b' : Int, a' = P'.length → m' = P'.length + L'.length → b' = P'.length + L'.length + R'.length →
   ∃ M, self (P' ++ (L' ++ (R' ++ Q'))) a' m' b' q = some (P' ++ (M ++ Q')) ∧ M.Perm (L' ++ R') ∧ Srt q M) :
  ∃ M, qA.b self (P ++ (L ++ (R ++ Q))) a m b q = some (P ++ (M ++ Q)) ∧ M.Perm (L ++ R) ∧ Srt q M := by
 have hlen' := hlen
 simp only [List.length_append] at hlen'
 have lL : 0 < L.length := List.length_pos_iff.2 hL0
 have lR : 0 < R.length := List.length_pos_iff.2 hR0
 unfold qA.b
 rw [qTC, qJB (x := m - a) (by omega), decide_eq_false (by omega), cond_false, qTC, qJB (x := b - m) (by omega), decide_eq_false (by omega), cond_false]
 obtain ⟨mid, hmid⟩ : ∃ mid : Nat, mid = (P.length + (P.length + L.length + R.length)) / 2 := ⟨_, rfl⟩
 rw [qlN (x := a + b) (n := P.length + (P.length + L.length + R.length)) (by omega) (by omega), ← hmid, qJB (x := (mid : Int) + m) (by omega), qJB (x := (mid : Int) + m - b) (by omega)]
 obtain ⟨lo, hi, hlo, hhi, hcase⟩ : ∃ lo hi : Nat, (if (mid : Int) < m then (mid : Int) + m - b else a) = lo ∧ (if (mid : Int) < m then (mid : Int) else m) = hi ∧ ((mid < P.length + L.length ∧ (lo : Int) = mid + m - b ∧ hi = mid) ∨ (P.length + L.length ≤ mid ∧ lo = P.length ∧ hi = P.length + L.length)) := by
  by_cases c : (mid : Int) < m
  · exact ⟨(mid + m - b).toNat, mid, by rw [if_pos c]; omega, by rw [if_pos c], .inl ⟨by omega, by omega, rfl⟩⟩
  · exact ⟨P.length, P.length + L.length, by rw [if_neg c]; omega, by rw [if_neg c]; omega, .inr ⟨by omega, rfl, rfl⟩⟩
 have q1 : ∀ x : Int, (bif decide ((mid : Int) < m) then x else x) = x := fun x => by cases decide ((mid : Int) < m) <;> rfl
 have q2 : (bif decide ((mid : Int) < m) then (mid : Int) + m - b else a) = lo := by rw [← hlo]; by_cases c : (mid : Int) < m <;> simp [c]
 have q3 : (bif decide ((mid : Int) < m) then (mid : Int) else m) = hi := by rw [← hhi]; by_cases c : (mid : Int) < m <;> simp [c]
 rw [qja, q1, q1, q2, q3]
 rw [qTC]
 have hp : w64 (((mid : Int) + m) - 1) = ((mid + (P.length + L.length) - 1 : Nat) : Int) := by rw [qJB (by omega)]; omega
 rw [hp]
 generalize hK : (fun (y77 : Int) => joinK (fun (y105 : List Row) (y106 : Int) => _) _) = K
 obtain ⟨t, t1, t2, t3, t4, t5⟩ := symSearch q K (Q := Q) hlen hb hL hR lo hi (mid + (P.length + L.length) - 1) (by omega) (by omega) (by omega) (fun c c1 c2 => by omega) (((hi : Int) - lo).toNat + 1) (by omega)
 rw [t3, ← hK]
 clear hK t3
 obtain ⟨L1, L2, eL, l1⟩ : ∃ L1 L2, L = L1 ++ L2 ∧ L1.length = t - P.length := ⟨L.take (t - P.length), L.drop (t - P.length), (List.take_append_drop ..).symm, by rw [List.length_take]; omega⟩
 obtain ⟨R1, R2, eR, r1⟩ : ∃ R1 R2, R = R1 ++ R2 ∧ R1.length = mid - t := ⟨R.take (mid - t), R.drop (mid - t), (List.take_append_drop ..).symm, by rw [List.length_take]; omega⟩
 have nL : L.length = L1.length + L2.length := by rw [eL, List.length_append]
 have nR : R.length = R1.length + R2.length := by rw [eR, List.length_append]
 obtain ⟨e, he⟩ : ∃ e : Nat, (e : Int) = mid + m - t := ⟨(mid + m - t).toNat, by omega⟩
 have aR : ∀ (i : Nat) y, R1[i]? = some y → R[i]? = some y := fun i y h => by rw [eR, List.getElem?_append_left (at_lt h)]; exact h
 have aR2 : ∀ (i : Nat) y, R2[i]? = some y → R[R1.length + i]? = some y := fun i y h => by rw [eR, List.getElem?_append_right (by omega), Nat.add_sub_cancel_left]; exact h
 have aL : ∀ (i : Nat) y, L1[i]? = some y → L[i]? = some y := fun i y h => by rw [eL, List.getElem?_append_left (at_lt h)]; exact h
 have aL2 : ∀ (i : Nat) y, L2[i]? = some y → L[L1.length + i]? = some y := fun i y h => by rw [eL, List.getElem?_append_right (by omega), Nat.add_sub_cancel_left]; exact h
 have i1 : ∀ x ∈ L1, ∀ y ∈ R2, aheadB q x y = true := fun x hx y hy => by
  obtain ⟨i, hi'⟩ := List.getElem?_of_mem hx
  obtain ⟨j, hj'⟩ := List.getElem?_of_mem hy
  have bi := at_lt hi'
  have bj := at_lt hj'
  have g1 : L[t - 1 - P.length]? = some (L[t - 1 - P.length]'(by omega)) := List.getElem?_eq_getElem (by omega)
  have g2 : R[mid + (P.length + L.length) - 1 - (t - 1) - (P.length + L.length)]? = some (R[mid + (P.length + L.length) - 1 - (t - 1) - (P.length + L.length)]'(by omega)) := List.getElem?_eq_getElem (by omega)
  have h := t4 (t - 1) (by omega) (by omega) _ _ g1 g2
  have hne := hd.app.2.2 _ (List.mem_of_getElem? g1) _ (List.mem_of_getElem? g2)
  have h2 := qkG (fun e => hne e.symm) h
  exact hR.tr2 (i := mid + (P.length + L.length) - 1 - (t - 1) - (P.length + L.length)) (by omega) g2 (aR2 j y hj') (hL.tr1 (by omega) (aL i x hi') g1 h2)
 have i2 : ∀ y ∈ R1, ∀ x ∈ L2, aheadB q y x = true := fun y hy x hx => by
  obtain ⟨i, hi'⟩ := List.getElem?_of_mem hx
  obtain ⟨j, hj'⟩ := List.getElem?_of_mem hy
  have bi := at_lt hi'
  have bj := at_lt hj'
  have g1 : L[t - P.length]? = some (L[t - P.length]'(by omega)) := List.getElem?_eq_getElem (by omega)
  have g2 : R[mid + (P.length + L.length) - 1 - t - (P.length + L.length)]? = some (R[mid + (P.length + L.length) - 1 - t - (P.length + L.length)]'(by omega)) := List.getElem?_eq_getElem (by omega)
  have h := t5 t (by omega) (by omega) _ _ g1 g2
  exact hR.tr1 (by omega) (aR j y hj') g2 (hL.tr2 (by omega) g1 (aL2 i x hi') h)
 have hL' := hL
 rw [eL] at hL'
 have hR' := hR
 rw [eR] at hR'
 have sL := Srt.app.1 hL'
 have sR := Srt.app.1 hR'
 have hd' := hd
 rw [eL, eR] at hd'
 have perm : (L1 ++ L2 ++ (R1 ++ R2)).Perm ((L1 ++ R1) ++ (L2 ++ R2)) := by
  simp only [List.append_assoc]
  refine List.Perm.append_left L1 ?_
  rw [← List.append_assoc, ← List.append_assoc]
  exact List.Perm.append_right R2 List.perm_append_comm
 have d2 := (hd'.perm perm).app
 have mem1 : ∀ y ∈ L1 ++ R1, y ∈ L ++ R := fun y hy => by rw [eL, eR]; simp at hy ⊢; rcases hy with h | h <;> simp [h]
 have mem2 : ∀ y ∈ L2 ++ R2, y ∈ L ++ R := fun y hy => by rw [eL, eR]; simp at hy ⊢; rcases hy with h | h <;> simp [h]
 have fin := symFin self q (P := P) (L1 := L1) (L2 := L2) (R1 := R1) (R2 := R2) (Q := Q) (a := a) (m := m) (b := b) (t := t) (mid := mid) (e := e) ha (by omega) (by omega) (by omega) (by omega) (by omega) (by omega) hd' hL' hR' i1 i2
  (fun h1 h2 => ih P L1 R1 (L2 ++ (R2 ++ Q)) h1 h2 (by omega) (by simp only [List.length_append]; omega) mem1 d2.1 sL.1 sR.1 a t mid ha (by omega) (by omega))
  (fun M1 lM h1 h2 => by
   have lpm : (P ++ M1).length = P.length + M1.length := List.length_append
   exact ih (P ++ M1) L2 R2 Q h1 h2 (by omega) (by simp only [List.length_append]; omega) mem2 d2.2.1 sL.2.1 sR.2.1 mid e b (by omega) (by omega) (by omega))
 dsimp only
 rw [qJB (x := (mid : Int) + m - t) (by omega), ← he]
 rw [show P ++ (L ++ (R ++ Q)) = (P ++ L1) ++ (L2 ++ (R1 ++ (R2 ++ Q))) by rw [eL, eR]; simp, eL, eR]
 exact fin
theorem qTW (q : Query) : ∀ (k : Nat) (P L R Q : List Row), L ≠ [] → R ≠ [] → L.length + R.length < k → (P ++ (L ++ (R ++ Q))).length ≤ 900 → (∀ y ∈ L ++ R, Row_b y) → Dst (L ++ R) → Srt q L → Srt q R → ∀ a m b : Int, a = P.length → m = P.length + L.length → b = P.length + L.length + R.length →
  ∃ M, qA.g k (P ++ (L ++ (R ++ Q))) a m b q = some (P ++ (M ++ Q)) ∧ M.Perm (L ++ R) ∧ Srt q M := by
 intro k
 induction k with
 | zero => intro P L R Q _ _ h; omega
 | succ k ih =>
  intro P L R Q hL0 hR0 hk hlen hb hd hL hR a m b ha hm hb'
  rw [qA.g]
  by_cases c1 : L.length = 1
  ·
   obtain ⟨x, rfl⟩ := List.length_eq_one_iff.1 c1
   simp only [List.length_cons, List.length_nil] at hm hb'
   exact symOne _ q ha hm hb' hlen hb hd hR
  by_cases c2 : R.length = 1
  ·
   obtain ⟨x, rfl⟩ := List.length_eq_one_iff.1 c2
   simp only [List.length_cons, List.length_nil] at hb'
   exact symLast _ q c1 ha hm hb' hlen hb hd hL
  exact symMid _ q c1 c2 hL0 hR0 ha hm hb' hlen hb hd hL hR fun P' L' R' Q' h1 h2 h3 h4 h5 h6 h7 h8 a' m' b' g1 g2 g3 => ih P' L' R' Q' h1 h2 (by omega) h4 (fun y hy => hb y (h5 y hy)) h6 h7 h8 a' m' b' g1 g2 g3
theorem qZU (q : Query) {P L R Q : List Row} (hL0 : L ≠ []) (hR0 : R ≠ []) (hlen : (P ++ (L ++ (R ++ Q))).length ≤ 900) (hb : ∀ y ∈ L ++ R, Row_b y) (hd : Dst (L ++ R)) (hL : Srt q L) (hR : Srt q R) {a m b : Int} (ha : a = P.length) (hm : m = P.length + L.length) (hb' : b = P.length + L.length + R.length) :
  ∃ M, qA.f (P ++ (L ++ (R ++ Q))) a m b q = some (P ++ (M ++ Q)) ∧ M.Perm (L ++ R) ∧ Srt q M := by
 have hlen' := hlen
 simp only [List.length_append] at hlen'
 exact qTW q 1000 P L R Q hL0 hR0 (by omega) hlen hb hd hL hR a m b ha hm hb'
theorem qXY (q : Query) (l : List Row) (h : l.length ≤ 24) (hb : ∀ y ∈ l, Row_b y) (hd : Dst l) : ∃ M, qC.f l (l.length : Int) q = some M ∧ M.Perm l ∧ Srt q M := by
 unfold qC.f
 rw [qTC]
 by_cases h20 : l.length < 20
 ·
  obtain ⟨S, e1, e2, e3⟩ := qgL (a1 := 0) (a2 := l.length) q (P := []) (T := l) (R := []) rfl (by simp) (by simp; omega) hb hd
  rw [show ((l.length : Int) - 20).toNat + 2 = 1 + 1 by omega, qC.l0, decide_eq_false (by omega), cond_false]
  simp only [List.nil_append, List.append_nil] at e1
  rw [e1, Option.bind_some, qC.l1, decide_eq_false (by omega), cond_false]
  exact ⟨S, rfl, e2, e3⟩
 obtain ⟨A, B, rfl, lA⟩ : ∃ A B, l = A ++ B ∧ A.length = 20 := ⟨l.take 20, l.drop 20, (List.take_append_drop ..).symm, by rw [List.length_take]; omega⟩
 rw [List.length_append] at h
 have lAB : (A ++ B).length = A.length + B.length := List.length_append
 obtain ⟨S, e1, e2, e3⟩ := qgL (a1 := 0) (a2 := 20) q (P := []) (T := A) (R := B) rfl (by simp only [List.length_nil]; omega) (by simp only [List.length_append, List.length_nil]; omega) (fun y hy => hb y (by simp [hy])) hd.app.1
 have lS : S.length = 20 := by rw [e2.length_eq, lA]
 obtain ⟨S', f1, f2, f3⟩ := qgL (a1 := 20) (a2 := (A ++ B).length) q (P := S) (T := B) (R := []) (by omega) (by omega) (by simp only [List.length_append, List.length_nil]; omega) (fun y hy => hb y (by simp [hy])) hd.app.2.1
 have lS' : S'.length = B.length := f2.length_eq
 have p : (S ++ S').Perm (A ++ B) := e2.append f2
 rw [qC.l0, decide_eq_true (by omega), cond_true]
 simp only [List.nil_append] at e1
 rw [e1, Option.bind_some, qJB (by omega), show (((A ++ B).length : Int) - 20).toNat + 1 = (((A ++ B).length : Int) - 20).toNat + 1 from rfl, qC.l0, decide_eq_false (by omega), cond_false]
 simp only [List.append_nil] at f1
 rw [f1, Option.bind_some, qC.l1]
 by_cases hB : B = []
 ·
  subst hB
  simp only [List.length_nil] at lAB
  rw [decide_eq_false (by omega), cond_false]
  obtain rfl := List.length_eq_zero_iff.1 lS'
  exact ⟨S ++ [], rfl, p, by rw [List.append_nil]; exact e3⟩
 have gB : 0 < B.length := List.length_pos_iff.2 hB
 rw [decide_eq_true (by omega), cond_true, qTC, qJB (x := 2 * 20) (by omega)]
 rw [show (((A ++ B).length : Int) - 2 * 20).toNat + 2 = 1 + 1 by omega, qC.l2, decide_eq_false (by omega), cond_false]
 obtain ⟨M, g1, g2, g3⟩ := qZU q (P := []) (L := S) (R := S') (Q := []) (by rintro rfl; simp at lS) (by rintro rfl; simp at lS'; omega) (by simp only [List.length_append, List.length_nil]; omega) (fun y hy => hb y (p.mem_iff.1 hy)) (hd.perm p.symm) e3 f3 (a := 0) (m := 20) (b := (A ++ B).length) rfl (by simp only [List.length_nil]; omega) (by simp only [List.length_nil]; omega)
 simp only [List.nil_append, List.append_nil] at g1
 rw [qJB (x := 0 + 20) (by omega), show (0 : Int) + 20 = 20 from rfl, decide_eq_true (by omega), cond_true, g1, Option.bind_some, show (((A ++ B).length : Int) - 20).toNat = ((((A ++ B).length : Int) - 20).toNat - 1) + 1 by omega, qC.l1, qJB (x := 20 * 2) (by omega), decide_eq_false (by omega), cond_false]
 exact ⟨M, rfl, g2.trans p, g3⟩
theorem qHR (q : Query) (l : List Row) (h : l.length ≤ 24) (hb : ∀ y ∈ l, Row_b y) (hd : Dst l) : ∃ M, qo.f l q = some M ∧ M.Perm l ∧ Srt q M := by
 unfold qo.f
 obtain ⟨M, e1, e2, e3⟩ := qXY q l h hb hd
 rw [qG, e1]
 exact ⟨M, rfl, e2, e3⟩
def rowAtF : List Row → Int → Int → Int
 | [], _, _ => -1
 | r :: l, id, i => if r.Id = id then i else rowAtF l id (i + 1)
def isId (id : Int) (r : Row) : Bool := decide (r.Id = id)
def isGt (id : Int) (r : Row) : Bool := decide (id < r.Id)
def idxI (p : Row → Bool) (l : List Row) : Int := if l.findIdx p < l.length then (l.findIdx p : Int) else -1
def rowDropF (l : List Row) (id : Int) : List Row := l.eraseIdx (l.findIdx (isId id))
def rowPutF (l : List Row) (r : Row) : List Row := if l.findIdx (isId r.Id) < l.length then l.set (l.findIdx (isId r.Id)) r else l.take (l.findIdx (isGt r.Id)) ++ [r] ++ l.drop (l.findIdx (isGt r.Id))
theorem qFQ : ∀ (l : List Row) (id i : Int), rowAtF l id i = if l.findIdx (isId id) < l.length then i + (l.findIdx (isId id) : Int) else -1
 | [], _, _ => rfl
 | r :: l, id, i => by
  rw [rowAtF, qFQ l id (i + 1), List.findIdx_cons]
  by_cases e : r.Id = id
  · rw [if_pos e, isId, decide_eq_true e]; simp
  rw [if_neg e, isId, decide_eq_false e]
  simp only [cond_false, List.length_cons]
  by_cases h : l.findIdx (isId id) < l.length
  · rw [if_pos h, if_pos (by omega)]; omega
  rw [if_neg h, if_neg (by omega)]
theorem qhL (l : List Row) (id : Int) : rowAtF l id 0 = idxI (isId id) l := by
 rw [qFQ, idxI]
 split
 · omega
 rfl
theorem qGH {p : Row → Bool} {l : List Row} (h : l.findIdx p < l.length) : idxI p l = (l.findIdx p : Int) := if_pos h
theorem qII {p : Row → Bool} {l : List Row} (h : ¬ l.findIdx p < l.length) : idxI p l = -1 := if_neg h
theorem sum_append {α : Type} (s : α → Int) (a b : List α) : ((a ++ b).map s).sum = (a.map s).sum + (b.map s).sum := by rw [List.map_append, List.sum_append]
theorem qrK {α : Type} (s : α → Int) (l : List α) (k : Nat) : (l.map s).sum = ((l.take k).map s).sum + ((l.drop k).map s).sum := by rw [← sum_append, List.take_append_drop]
theorem qaU {α : Type} {s : α → Int} (hs : ∀ x, 0 ≤ s x) (x : α) : ∀ (l : List α) (i : Nat), ((l.set i x).map s).sum ≤ (l.map s).sum + s x
 | [], i => by simp [hs x]
 | a :: l, 0 => by simp only [List.set_cons_zero, List.map_cons, List.sum_cons]; have := hs a; omega
 | a :: l, i + 1 => by simp only [List.set_cons_succ, List.map_cons, List.sum_cons]; have := qaU hs x l i; omega
theorem qwS {α : Type} {s : α → Int} (hs : ∀ x, 0 ≤ s x) : ∀ (l : List α) (i : Nat), ((l.eraseIdx i).map s).sum ≤ (l.map s).sum
 | [], i => by simp
 | a :: l, 0 => by simp only [List.eraseIdx_cons_zero, List.map_cons, List.sum_cons]; have := hs a; omega
 | a :: l, i + 1 => by simp only [List.eraseIdx_cons_succ, List.map_cons, List.sum_cons]; have := qwS hs l i; omega
theorem qJI (l : List Row) (id : Int) : (rowDropF l id).length ≤ l.length := by unfold rowDropF; rw [List.length_eraseIdx]; split <;> omega
theorem qGQ (l : List Row) (id : Int) : qWB (rowDropF l id) ≤ qWB l := by
 have h1 := qJI l id
 have h2 := qwS qgC l (l.findIdx (isId id))
 unfold qWB
 unfold rowDropF at *
 omega
theorem qiL (l : List Row) (r : Row) : (rowPutF l r).length ≤ l.length + 1 := by
 unfold rowPutF
 split
 · rw [List.length_set]; omega
 simp; omega
theorem qYY (l : List Row) (r : Row) : qWB (rowPutF l r) ≤ qWB l + 1 + qBC r := by
 have h1 := qiL l r
 unfold qWB
 have h2 : ((rowPutF l r).map qBC).sum ≤ (l.map qBC).sum + qBC r := by
  unfold rowPutF
  split
  · exact qaU qgC r l _
  rw [sum_append, sum_append, qrK qBC l (l.findIdx (isGt r.Id))]
  simp
  omega
 omega
theorem qoN {l : List Row} {id : Int} {x : Row} (h : x ∈ rowDropF l id) : x ∈ l := List.mem_of_mem_eraseIdx h
theorem qjL {l : List Row} {r x : Row} (h : x ∈ rowPutF l r) : x = r ∨ x ∈ l := by
 unfold rowPutF at h
 split at h
 ·
  rcases List.mem_or_eq_of_mem_set h with h | h
  · exact .inr h
  exact .inl h
 rcases List.mem_append.1 h with h | h
 ·
  rcases List.mem_append.1 h with h | h
  · exact .inr (List.mem_of_mem_take h)
  exact .inl (List.mem_singleton.1 h)
 exact .inr (List.mem_of_mem_drop h)
theorem qZY {l : List Row} (h : qZI l) (id : Int) : qZI (rowDropF l id) := ⟨by have := qJI l id; have := h.1; omega, fun x hx => h.2 x (qoN hx)⟩
theorem qka {l : List Row} (h : qZI l) (hl : l.length < 9223372036854775807) {r : Row} (hr : Row_b r) : qZI (rowPutF l r) := ⟨by have := qiL l r; omega, fun x hx => by
 rcases qjL hx with rfl | hx
 · exact hr
 exact h.2 x hx⟩
theorem qVM {α : Type} (p : α → Bool) (l : List α) {i : Nat} {x : α} (hx : l[i]? = some x) : (l.take (i + 1)).findIdx p = if (l.take i).findIdx p < i then (l.take i).findIdx p else if p x then i else i + 1 := by
 have hi := at_lt hx
 have hl : (l.take i).length = i := by rw [List.length_take]; omega
 rw [qhH hx, List.findIdx_append, hl]
 by_cases h : (l.take i).findIdx p < i
 · rw [if_pos h, if_pos h]
 rw [if_neg h, if_neg h]
 cases hp : p x <;> simp [List.findIdx_cons, hp] <;> omega
theorem qxS {rows : List Row} {id : Int} (h : rows.findIdx (isId id) < rows.length) : (rows[rows.findIdx (isId id)]).Id = id := by
 have := List.findIdx_getElem (w := h)
 exact of_decide_eq_true this
theorem qyS {α : Type} {s : α → Int} {B : Int} : ∀ {l : List α}, (∀ x ∈ l, s x ≤ B) → (l.map s).sum ≤ l.length * B
 | [], _ => by simp
 | x :: l, h => by
  have h1 := h x (List.mem_cons_self ..)
  have h2 := qyS (l := l) fun y hy => h y (List.mem_cons_of_mem _ hy)
  simp only [List.map_cons, List.sum_cons, List.length_cons]
  rw [show ((l.length + 1 : Nat) : Int) * B = l.length * B + B by rw [Int.natCast_add, Int.add_mul]; simp]
  omega
def noStore : Store := ⟨⟨[]⟩, 0, []⟩
def tableB (s : Schema) (t : Int) : Bool := decide (0 ≤ t ∧ t ≤ (s.Cols.length : Int) - 1)
def tableOf (s : Store) (t : Int) : List Row := s.Tables.getD t.toNat []
def setTable (s : Store) (t : Int) (rows : List Row) : Store := ⟨s.Schema, s.Version, s.Tables.set t.toNat rows⟩
theorem qpH {s : Store} (hs : storeB s = true) {t : Nat} (ht : t < s.Tables.length) : rowsB s.Schema t (tableOf s t) = true := by
 unfold tableOf
 rw [Int.toNat_natCast, List.getD_eq_getElem?_getD, List.getElem?_eq_getElem ht, Option.getD_some]
 exact qNK hs (List.getElem?_eq_getElem ht)
theorem qUW {s : Store} (bs : qgD s) (t : Int) {rows : List Row} (h : qZI rows) : qgD (setTable s t rows) := by
 refine ⟨bs.1, by unfold setTable; simpa using bs.2.1, fun x hx => ?_⟩
 rcases List.mem_or_eq_of_mem_set hx with hx | rfl
 · exact bs.2.2 x hx
 exact h
theorem qbU (s : Store) (t : Int) (rows : List Row) : qjB (setTable s t rows) ≤ qjB s + qWB rows := by
 unfold qjB qAF setTable
 have := qaU qnD rows s.Tables t.toNat
 simp only [List.length_set]
 omega
theorem qaY {s : Store} (bs : qgD s) (t : Int) : qZI (tableOf s t) := by
 unfold tableOf
 rw [List.getD_eq_getElem?_getD]
 cases h : s.Tables[t.toNat]? with
 | none => exact ⟨by simp, by simp⟩
 | some x => exact bs.2.2 x (List.mem_of_getElem? h)
theorem qVW (s : Store) (t : Int) : qWB (tableOf s t) ≤ qjB s := by
 unfold tableOf qjB qAF
 have p1 := qEF s.Schema
 have p2 := qAC qnD s.Tables
 rw [List.getD_eq_getElem?_getD]
 cases h : s.Tables[t.toNat]? with
 | none => simp [qWB]; omega
 | some x => have := qcE qnD (List.mem_of_getElem? h); simp only [Option.getD_some]; omega
theorem qla {rows : List Row} (h : qZI rows) (i : Nat) : Row_b (rows.getD i ⟨0, []⟩) ∧ qBC (rows.getD i ⟨0, []⟩) ≤ qWB rows := by
 rw [List.getD_eq_getElem?_getD]
 have p := qAC qgC rows
 unfold qWB
 cases hx : rows[i]? with
 | none => exact ⟨by simp [Row_b, IntS_b], by simp [qBC, qFD]; omega⟩
 | some x => have := qcE qgC (List.mem_of_getElem? hx); exact ⟨h.2 x (List.mem_of_getElem? hx), by simp only [Option.getD_some]; omega⟩
theorem qbY : qgD noStore ∧ qjB noStore = 0 := ⟨⟨by simp [qJD, IntS_b, noStore], by simp [noStore], by simp [noStore]⟩, by simp [qjB, qHE, qFD, qAF, noStore]⟩
def putF (q : Query) (l : List Row) (r : Row) : List Row := l.take (l.findIdx (aheadB q r)) ++ [r] ++ l.drop (l.findIdx (aheadB q r))
theorem qcY (q : Query) (l : List Row) (r : Row) : (putF q l r).length = l.length + 1 := by
 have hle := List.findIdx_le_length (xs := l) (p := aheadB q r)
 simp [putF]; omega
theorem qbd (q : Query) (l : List Row) (r : Row) : qWB (putF q l r) = qWB l + 1 + qBC r := by
 have h1 := qcY q l r
 unfold qWB
 have h2 : ((putF q l r).map qBC).sum = (l.map qBC).sum + qBC r := by
  unfold putF
  rw [sum_append, sum_append, qrK qBC l (l.findIdx (aheadB q r))]
  simp
  omega
 omega
theorem qbc {q : Query} {l : List Row} {r x : Row} (h : x ∈ putF q l r) : x = r ∨ x ∈ l := by
 unfold putF at h
 rcases List.mem_append.1 h with h | h
 ·
  rcases List.mem_append.1 h with h | h
  · exact .inr (List.mem_of_mem_take h)
  exact .inl (List.mem_singleton.1 h)
 exact .inr (List.mem_of_mem_drop h)
def rowsFold (q : Query) (rows : List Row) (acc : List Row) : List Row := rows.foldl (fun acc r => if matchesB q r = true then putF q acc r else acc) acc
def rowsForF (s : Store) (q : Query) : List Row := if (storeB s && queryB s.Schema q) = true then rowsFold q (tableOf s q.Table) [] else []
theorem qWM {q : Query} : ∀ {rows acc : List Row} {x : Row}, x ∈ rowsFold q rows acc → x ∈ rows ∨ x ∈ acc
 | [], acc, x, h => .inr h
 | r :: rows, acc, x, h => by
  have h : x ∈ rowsFold q rows (if matchesB q r = true then putF q acc r else acc) := h
  rcases qWM h with h | h
  · exact .inl (List.mem_cons_of_mem _ h)
  split at h
  ·
   rcases qbc h with rfl | h
   · exact .inl (List.mem_cons_self ..)
   exact .inr h
  exact .inr h
theorem qXM {q : Query} : ∀ (rows acc : List Row), (rowsFold q rows acc).length ≤ rows.length + acc.length
 | [], acc => by simp [rowsFold]
 | r :: rows, acc => by
  have e : rowsFold q (r :: rows) acc = rowsFold q rows (if matchesB q r = true then putF q acc r else acc) := rfl
  have := qXM (q := q) rows (if matchesB q r = true then putF q acc r else acc)
  rw [e]
  simp only [List.length_cons]
  split at this
  · rename_i h; rw [qcY] at this; rw [if_pos h]; omega
  rename_i h; rw [if_neg h]; omega
theorem qpN {q : Query} : ∀ (rows acc : List Row), qWB (rowsFold q rows acc) ≤ qWB rows + qWB acc
 | [], acc => by have := qnD ([] : List Row); simp only [rowsFold, List.foldl_nil]; omega
 | r :: rows, acc => by
  have e : rowsFold q (r :: rows) acc = rowsFold q rows (if matchesB q r = true then putF q acc r else acc) := rfl
  have := qpN (q := q) rows (if matchesB q r = true then putF q acc r else acc)
  have h1 : qWB (r :: rows) = qWB rows + 1 + qBC r := by unfold qWB; simp only [List.length_cons, List.map_cons, List.sum_cons]; omega
  have h0 := qgC r
  rw [e, h1]
  split at this
  · rename_i h; rw [qbd] at this; rw [if_pos h]; omega
  rename_i h; rw [if_neg h]; omega
theorem qOK {s : Schema} {q : Query} (h : queryB s q = true) : 0 ≤ q.Table ∧ q.Table ≤ (s.Cols.length : Int) - 1 := by
 unfold queryB at h
 simp only [Bool.and_eq_true, decide_eq_true_eq] at h
 exact h.1.2
theorem qma {s : Schema} {t : Int} {rows : List Row} (h : rowsB s t rows = true) : rows.Pairwise fun a b => a.Id < b.Id := by
 unfold rowsB at h
 rw [Bool.and_eq_true] at h
 have h1 : ∀ i, ∀ (hi : i + 1 < rows.length), rows[i].Id < rows[i + 1].Id := fun i hi => by
  have := qzD.1 h.1 (i + 1) rows[i + 1] (List.getElem?_eq_getElem hi)
  rw [Bool.and_eq_true] at this
  have h2 := this.2
  rw [decide_eq_true (by omega), Bool.true_and, Bool.not_eq_true', decide_eq_false_iff_not, List.getD_eq_getElem?_getD, Nat.add_sub_cancel, List.getElem?_eq_getElem (by omega), Option.getD_some] at h2
  omega
 refine List.pairwise_iff_getElem.2 fun i j hi hj hij => ?_
 have : ∀ d, ∀ (hd : i + d + 1 < rows.length), rows[i].Id < rows[i + d + 1].Id := fun d => by
  induction d with
  | zero => intro hd; exact h1 i hd
  | succ d ih => intro hd; have a := ih (by omega); have b := h1 (i + d + 1) hd; exact Int.lt_trans a b
 have e : i + (j - i - 1) + 1 = j := by omega
 have := this (j - i - 1) (by omega)
 simpa only [e] using this
theorem qna (q : Query) (l : List Row) (r : Row) : (putF q l r).Perm (l ++ [r]) := by
 unfold putF
 have : ((l.take (l.findIdx (aheadB q r)) ++ [r]) ++ l.drop (l.findIdx (aheadB q r))).Perm (l.take (l.findIdx (aheadB q r)) ++ (l.drop (l.findIdx (aheadB q r)) ++ [r])) := by
  rw [List.append_assoc]; exact List.Perm.append_left _ List.perm_append_comm
 rwa [← List.append_assoc, List.take_append_drop] at this
theorem qcc {q : Query} {l : List Row} {r : Row} (h : Srt q l) (hd : ∀ x ∈ l, x.Id ≠ r.Id) : Srt q (putF q l r) := by
 unfold putF
 have h' := h
 rw [← List.take_append_drop (l.findIdx (aheadB q r)) l] at h'
 obtain ⟨h1, h2, h3⟩ := Srt.app.1 h'
 have a1 : ∀ x ∈ l.take (l.findIdx (aheadB q r)), aheadB q x r = true := fun x hx => by
  obtain ⟨i, hi⟩ := List.getElem?_of_mem hx
  have hl := at_lt hi
  rw [List.length_take] at hl
  have hi2 : i < l.length := by omega
  rw [List.getElem?_take, if_pos (by omega), List.getElem?_eq_getElem hi2] at hi
  have := List.not_of_lt_findIdx (xs := l) (p := aheadB q r) (i := i) (by omega)
  cases hi
  exact qkG (fun e => hd _ (List.getElem_mem hi2) e.symm) (by simpa using this)
 have a2 : ∀ x ∈ l.drop (l.findIdx (aheadB q r)), aheadB q r x = true := fun x hx => by
  obtain ⟨i, hi⟩ := List.getElem?_of_mem hx
  rw [List.getElem?_drop] at hi
  have hl := at_lt hi
  have g := List.findIdx_getElem (xs := l) (p := aheadB q r) (w := by omega)
  exact h.tr2 (Nat.le_add_right _ i) (List.getElem?_eq_getElem (by omega)) hi g
 rw [List.append_assoc]
 exact Srt.app.2 ⟨h1, List.pairwise_cons.2 ⟨a2, h2⟩, fun x hx y hy => by
  rcases List.mem_cons.1 hy with rfl | hy
  · exact a1 x hx
  exact h3 x hx y hy⟩
theorem qIR {q : Query} : ∀ (rows acc : List Row), Srt q acc → Dst (acc ++ rows) → Srt q (rowsFold q rows acc) ∧ (rowsFold q rows acc).Perm (acc ++ rows.filter (matchesB q))
 | [], acc, h, _ => ⟨h, by simp [rowsFold]⟩
 | r :: rows, acc, h, hd => by
  have hd' : Dst (acc ++ [r] ++ rows) := by simpa using hd
  have e : rowsFold q (r :: rows) acc = rowsFold q rows (if matchesB q r = true then putF q acc r else acc) := rfl
  rw [e]
  by_cases hm : matchesB q r = true
  ·
   rw [if_pos hm, List.filter_cons_of_pos hm]
   have p := qna q acc r
   obtain ⟨g1, g2⟩ := qIR rows (putF q acc r) (qcc h fun x hx => (hd'.app.1).app.2.2 x hx r (by simp)) (hd'.perm (p.symm.append_right rows))
   exact ⟨g1, g2.trans (by simpa using p.append_right (rows.filter (matchesB q)))⟩
  rw [if_neg hm, List.filter_cons_of_neg hm]
  have : Dst (acc ++ rows) := by
   refine List.Pairwise.sublist ?_ hd
   exact List.Sublist.append_left (List.sublist_cons_self r rows) acc
  exact qIR rows acc h this
theorem qWW {l : List Row} (h : qWB l ≤ 9223372036854775807) : qZI l := by
 unfold qWB at h
 have p := qAC qgC l
 exact ⟨by omega, fun x hx => by
  have := qcE qgC hx
  have h2 : qBC x ≤ 9223372036854775807 := by omega
  unfold qBC qFD at h2
  unfold Row_b IntS_b
  omega⟩
theorem qcU {s : Store} (h : qjB s ≤ 9223372036854775807) : qgD s := by
 unfold qjB qAF at h
 have p1 := qEF s.Schema
 have p2 := qAC qnD s.Tables
 refine ⟨?_, by omega, fun x hx => qWW (by have := qcE qnD hx; omega)⟩
 have h2 : qHE s.Schema ≤ 9223372036854775807 := by omega
 unfold qHE qFD at h2
 unfold qJD IntS_b
 omega
theorem qqN {s : Schema} {t : Int} {r : Row} (h : rowB s t r = true) : qBC r ≤ 4 := by
 have hc := qtS h
 unfold rowB at h
 simp only [Bool.and_eq_true, decide_eq_true_eq] at h
 obtain ⟨⟨⟨⟨hs, ht⟩, _⟩, _⟩, _⟩ := h
 unfold schemaB at hs
 rw [Bool.and_eq_true, List.all_eq_true] at hs
 have hlt : t.toNat < s.Cols.length := by omega
 have := of_decide_eq_true (hs.1 _ (List.getElem_mem hlt))
 rw [List.getD_eq_getElem?_getD, List.getElem?_eq_getElem hlt, Option.getD_some] at hc
 unfold qBC qFD
 omega
theorem qaV {s : Schema} {t : Int} {rows : List Row} (h : rowsB s t rows = true) : qWB rows ≤ 120 := by
 have hl := qbJ h
 have := qyS (s := qBC) (B := 4) (l := rows) fun x hx => by
  obtain ⟨i, hi⟩ := List.getElem?_of_mem hx
  exact qqN (qaJ h hi)
 unfold qWB
 omega
theorem qlG {s : Store} (h : storeB s = true) : qgD s ∧ qjB s ≤ 1000 := by
 have hz : qjB s ≤ 1000 := by
  obtain ⟨hl, hs⟩ := qtE h
  have h3 := qfL hs
  have := qyS (s := qWB) (B := 120) (l := s.Tables) fun x hx => by
   obtain ⟨i, hi⟩ := List.getElem?_of_mem hx
   exact qaV (qNK h hi)
  unfold qjB qAF qHE qFD
  omega
 exact ⟨qcU (by omega), hz⟩
theorem qsK (s : Store) (q : Query) : (rowsForF s q).length ≤ 24 ∧ qWB (rowsForF s q) ≤ 120 ∧ ∀ x ∈ rowsForF s q, Row_b x := by
 unfold rowsForF
 split
 ·
  rename_i h
  rw [Bool.and_eq_true] at h
  obtain ⟨t1, t2⟩ := qOK h.2
  have hl := (qtE h.1).1
  have hrows := qpH h.1 (t := q.Table.toNat) (by omega)
  rw [Int.toNat_of_nonneg t1] at hrows
  have hlen := qbJ hrows
  have hz := qaV hrows
  have z0 : qWB ([] : List Row) = 0 := by simp [qWB]
  have s1 := qXM (q := q) (tableOf s q.Table) []
  have s2 := qpN (q := q) (tableOf s q.Table) []
  refine ⟨by simp only [List.length_nil] at s1; omega, by omega, fun x hx => ?_⟩
  rcases qWM hx with hx | hx
  ·
   obtain ⟨i, hi⟩ := List.getElem?_of_mem hx
   have z := qqN (qaJ hrows hi)
   unfold Row_b IntS_b; unfold qBC qFD at z; omega
  simp at hx
 simp [qWB]
theorem qrN (q : Query) (hq : qeN q.Where) (rows : List Row) (hl : rows.length ≤ 24) (hr : ∀ r ∈ rows, Row_b r ∧ qBC r ≤ 4) (K : List Row → Option (List Row)) : ∀ (k i : Nat) (acc : List Row), i ≤ rows.length → rows.length < i + k → acc.length ≤ i → qkC.l0 q rows K k acc i = K (acc ++ (rows.drop i).filter (matchesB q)) := by
 intro k
 induction k with
 | zero => intro i acc h h'; omega
 | succ k ih =>
  intro i acc h h' ha
  rw [qkC.l0, qG]
  by_cases hi : i < rows.length
  ·
   obtain ⟨b1, z1⟩ := hr _ (List.getElem_mem hi)
   rw [decide_eq_true (by omega), cond_true, qv, List.getElem?_eq_getElem hi, Option.bind_some, qSC (qdG q _ hq b1), List.drop_eq_getElem_cons hi, qu (by omega)]
   cases hm : matchesB q rows[i] with
   | true =>
    rw [cond_true, qSC (qpD _ (by omega)), Option.bind_some, qwC (by simp only [List.length_cons, List.length_nil]; omega), Option.bind_some, List.filter_cons_of_pos hm, ih (i + 1) _ (by omega) (by omega) (by simp only [List.length_append, List.length_cons, List.length_nil]; omega)]
    simp
   | false =>
    rw [cond_false, List.filter_cons_of_neg (by simp [hm])]
    exact ih (i + 1) _ (by omega) (by omega) (by omega)
  rw [decide_eq_false (by omega), cond_false, List.drop_eq_nil_of_le (by omega)]
  simp
theorem qsN (s : Store) (q : Query) (hs : qgD s) (hq : qfG q) : qkC.f s q = some (rowsForF s q) := by
 unfold qkC.f rowsForF
 rw [qoD _ hs, Option.bind_some, qOF _ _ hs.1 hq]
 cases h1 : storeB s with
 | false => rfl
 | true =>
  cases h2 : queryB s.Schema q with
  | false => rfl
  | true =>
   simp only [qOC, Bool.not_true, Bool.not_false, bo3_F, bo3_T, qqC, Option.bind_some, cond_false, Bool.true_and, if_true]
   obtain ⟨t1, t2⟩ := qOK h2
   have hl := (qtE h1).1
   have ht : q.Table.toNat < s.Tables.length := by omega
   have hrows := qpH h1 ht
   have hlen := qbJ hrows
   rw [qTC, show getO s.Tables q.Table = some (tableOf s q.Table) from qVU (by omega), Option.bind_some]
   rw [Int.toNat_of_nonneg t1] at hrows hlen
   have hr : ∀ r ∈ tableOf s q.Table, Row_b r ∧ qBC r ≤ 4 := fun r hr => by
    obtain ⟨i, hi⟩ := List.getElem?_of_mem hr
    have z := qqN (qaJ hrows hi)
    exact ⟨by unfold Row_b IntS_b; unfold qBC qFD at z; omega, z⟩
   have hd : Dst (tableOf s q.Table) := (qma hrows).imp fun h e => by omega
   have e := qrN q hq.1 (tableOf s q.Table) hlen hr (fun y11 => (qo.f y11 q).bind fun r36 => some r36) (((lenI (tableOf s q.Table)) - 0).toNat + 1) 0 [] (by omega) (by rw [qG]; omega) (by simp)
   rw [List.drop_zero, List.nil_append] at e
   have hfd : Dst ((tableOf s q.Table).filter (matchesB q)) := List.Pairwise.sublist List.filter_sublist hd
   obtain ⟨M, m1, m2, m3⟩ := qHR q ((tableOf s q.Table).filter (matchesB q)) (Nat.le_trans (List.length_filter_le ..) hlen) (fun y hy => (hr y (List.mem_filter.1 hy).1).1) hfd
   obtain ⟨g1, g2⟩ := qIR (q := q) (tableOf s q.Table) [] List.Pairwise.nil (by simpa using hd)
   rw [List.nil_append] at g2
   have : M = rowsFold q (tableOf s q.Table) [] := m3.unique g1 (m2.trans g2.symm)
   refine e.trans ?_
   rw [m1, Option.bind_some, this]
def countC (col : Nat) (id : Int) : List Row → Int → Int
 | [], n => n
 | r :: l, n => countC col id l (if r.Cells.getD col 0 = id then n + 1 else n)
def kidsOfF (s : Store) (q : Query) (id : Int) : Int :=
 if (storeB s && queryB s.Schema q && q.Kids) = true then countC q.KidCol.toNat id (s.Tables.getD q.KidTable.toNat []) 0 else 0
theorem qHQ {s : Schema} {q : Query} (h : queryB s q = true) (hk : q.Kids = true) : (0 ≤ q.KidTable ∧ q.KidTable ≤ (s.Cols.length : Int) - 1) ∧ (0 ≤ q.KidCol ∧ q.KidCol ≤ w64 (s.Cols.getD q.KidTable.toNat 0 - 1)) := by
 unfold queryB kidsB at h
 simp only [Bool.and_eq_true, decide_eq_true_eq, hk, if_true] at h
 exact h.2.2.2
theorem qXW {s : Schema} (h : schemaB s = true) {i : Int} (hi : 0 ≤ i ∧ i ≤ (s.Cols.length : Int) - 1) : 1 ≤ s.Cols.getD i.toNat 0 ∧ s.Cols.getD i.toNat 0 ≤ 4 := by
 unfold schemaB at h
 rw [Bool.and_eq_true, List.all_eq_true] at h
 have hl : i.toNat < s.Cols.length := by omega
 rw [List.getD_eq_getElem?_getD, List.getElem?_eq_getElem hl]
 exact of_decide_eq_true (h.1 _ (List.getElem_mem hl))
theorem qCP (s : Store) (q : Query) (id : Int) (hs : qgD s) (hq : qfG q) : qsC.f s q id = some (kidsOfF s q id) := by
 unfold qsC.f kidsOfF
 rw [qoD _ hs, Option.bind_some, qOF _ _ hs.1 hq]
 cases h1 : storeB s with
 | false => rfl
 | true =>
  cases h2 : queryB s.Schema q with
  | false => rfl
  | true =>
   cases h3 : q.Kids with
   | false => rfl
   | true =>
    simp only [bo3_F, bo3_T, qqC, Option.bind_some, cond_false, Bool.true_and, if_true]
    obtain ⟨hk1, hk2⟩ := qHQ h2 h3
    obtain ⟨hl1, hl2⟩ := qtE h1
    have hcol := qXW hl2 hk1
    rw [qJB (by omega)] at hk2
    rw [show getO s.Tables q.KidTable = some (s.Tables.getD q.KidTable.toNat []) from qVU (by omega), Option.bind_some]
    have hat : s.Tables[q.KidTable.toNat]? = some (s.Tables.getD q.KidTable.toNat []) := by
     rw [List.getD_eq_getElem?_getD, List.getElem?_eq_getElem (by omega)]; rfl
    have hrows := qNK h1 hat
    have hlen := qbJ hrows
    generalize s.Tables.getD q.KidTable.toNat [] = rows at *
    have key2 : ∀ (k i : Nat) (n : Int), i ≤ rows.length → rows.length < i + k → 0 ≤ n → n ≤ i → qsC.l0 q id rows k n i = some (countC q.KidCol.toNat id (rows.drop i) n) := by
     intro k
     induction k with
     | zero => intro i n h h'; omega
     | succ k ih =>
      intro i n h h' hn hni
      by_cases hi : i < rows.length
      ·
       have hx : rows[i]? = some rows[i] := List.getElem?_eq_getElem hi
       have hc := qtS (qaJ hrows hx)
       rw [show ((q.KidTable.toNat : Nat) : Int) = q.KidTable from by omega] at hc
       rw [qsC.l0, qG, decide_eq_true (by omega), cond_true, qv, hx, Option.bind_some, qJG (by omega), Option.bind_some, List.drop_eq_getElem_cons hi, countC, qu (by omega)]
       by_cases e : (rows[i]).Cells.getD q.KidCol.toNat 0 = id
       ·
        rw [decide_eq_true e, cond_true, if_pos e, qJB (by omega)]
        exact ih (i + 1) (n + 1) (by omega) (by omega) (by omega) (by omega)
       rw [decide_eq_false e, cond_false, if_neg e]
       exact ih (i + 1) n (by omega) (by omega) hn (by omega)
      rw [qsC.l0, qG, decide_eq_false (by omega), cond_false, List.drop_eq_nil_of_le (by omega), countC]
    have := key2 (((lenI rows) - 0).toNat + 1) 0 0 (by omega) (by simp only [qG]; omega) (by omega) (by omega)
    rw [List.drop_zero] at this
    exact this
theorem qtN (q : Query) (n : Nat) : qvF.f q (n : Int) = some (firstF q n : Int) := by
 unfold qvF.f firstF
 by_cases c : q.First = 0
 · rw [decide_eq_true c, cond_true, if_pos c]
 rw [decide_eq_false c, cond_false, if_neg c, Option.bind_some, Option.bind_some]
 congr 1
 unfold minO maxO
 split <;> split <;> (try split) <;> omega
theorem qPK (l : List Int) (x : Int) (hl : l.length ≤ 9223372036854775806) : ∀ (k i : Nat), i ≤ l.length → l.length < i + k → ∃ r : Int, qJC.l0 l x k i = some r ∧ (0 ≤ r ↔ x ∈ l.drop i) := by
 intro k
 induction k with
 | zero => intro i h h'; omega
 | succ k ih =>
  intro i h h'
  rw [qJC.l0, qG]
  by_cases hi : i < l.length
  ·
   rw [decide_eq_true (by omega), cond_true, qv, List.getElem?_eq_getElem hi, Option.bind_some, List.drop_eq_getElem_cons hi, qu (by omega)]
   by_cases c : x = l[i]
   ·
    rw [decide_eq_true c, cond_true]
    exact ⟨i, rfl, ⟨fun _ => by rw [List.mem_cons]; exact .inl c, fun _ => by omega⟩⟩
   rw [decide_eq_false c, cond_false]
   obtain ⟨r, h1, h2⟩ := ih (i + 1) (by omega) (by omega)
   exact ⟨r, h1, h2.trans ⟨fun h => by rw [List.mem_cons]; exact .inr h, fun h => by rw [List.mem_cons] at h; exact h.elim (fun e => absurd e c) id⟩⟩
  rw [decide_eq_false (by omega), cond_false, List.drop_eq_nil_of_le (by omega)]
  exact ⟨-1, rfl, by simp⟩
theorem qiI (l : List Int) (x : Int) (hl : l.length ≤ 9223372036854775806) : qSD.f l x = some (decide (x ∈ l)) := by
 unfold qSD.f qJC.f
 obtain ⟨r, h1, h2⟩ := qPK l x hl (((lenI l) - 0).toNat + 1) 0 (by omega) (by rw [qG]; omega)
 refine (congrArg (fun o => Option.bind o _) h1).trans ?_
 rw [Option.bind_some]
 congr 1
 rw [List.drop_zero] at h2
 exact decide_eq_decide.2 h2
theorem quN (n : Int) (h : -9223372036854775808 ≤ n ∧ n ≤ 9223372036854775807) : strconv_Itoa.f n = some (bl (Lib.itoa n)) := by
 unfold strconv_Itoa.f itoaO
 rw [if_pos h]; rfl
theorem qDP (n : Int) (h : -9223372036854775808 ≤ n ∧ n ≤ 9223372036854775807) : qbG.f n = some (bl (Lib.itoa n)) := by
 unfold qbG.f
 rw [quN n h]; rfl
theorem qdc (x y : ByteArray) : qdE.f x y = some (nlt x y) := by
 unfold qdE.f qGE.f
 rw [qYU, decide_eq_false (by simp), Option.bind_some, qhF, Option.bind_some, bo3_F]
 rfl
theorem qzS (pl : List NV) (n : ByteArray) (hs : Sn pl) (hn : ∀ x ∈ pl, x.1 ≠ n) (hlen : pl.length ≤ 10000000) :
  ∃ (t : Nat) (b : Bool), t ≤ pl.length ∧ qc.f (pl.map (·.1)) n = some ((t : Int), b) ∧ pl.filter (fun x => nlt x.1 n) = pl.take t ∧ pl.filter (fun x => nlt n x.1) = pl.drop t := by
 unfold qc.f
 rw [qTC, qG, List.length_map]
 generalize hK : (fun (y1 : Int) =>
 (gd (decide (y1 < (pl.length : Int))) (getO (pl.map (·.1)) y1)).bind fun x14 =>
 (gd (bo3 (decide (y1 < (pl.length : Int))) (bo3 (Ls.sc .eql x14 n) false true) false) (getO (pl.map (·.1)) y1)).bind fun x15 =>
 (gd (bo3 (decide (y1 < (pl.length : Int))) (bo3 (Ls.sc .eql x14 n) false true) false) (qYC.f x15)).bind fun r16 =>
 (gd (bo3 (bo3 (decide (y1 < (pl.length : Int))) (bo3 (Ls.sc .eql x14 n) false true) false) r16 false) (qYC.f n)).bind fun r17 =>
 some (y1, (bo3 (decide (y1 < (pl.length : Int))) (bo3 (Ls.sc .eql x14 n) true (bo3 r16 r17 false)) false))) = K
 have hat : ∀ c, c < pl.length → ∃ x, pl[c]? = some x := fun c h => ⟨pl[c], List.getElem?_eq_getElem h⟩
 have hmono : ∀ (c c' : Nat) (x y : NV), c ≤ c' → pl[c]? = some x → pl[c']? = some y → nlt x.1 n = false → nlt y.1 n = false := fun c c' x y h1 h2 h3 h4 => by
  rcases Nat.lt_or_ge c c' with h | h
  ·
   have : nlt x.1 y.1 = true := by
    obtain ⟨a1, rfl⟩ := List.getElem?_eq_some_iff.1 h2
    obtain ⟨a2, rfl⟩ := List.getElem?_eq_some_iff.1 h3
    exact List.pairwise_iff_getElem.1 hs c c' a1 a2 h
   cases e : nlt y.1 n with
   | false => rfl
   | true => rw [qmN this e] at h4; cases h4
  ·
   obtain rfl : c = c' := by omega
   rw [h2] at h3; cases h3; exact h4
 obtain ⟨t, t1, t2, t3, t4, t5⟩ := bsearch (f := fun k i j => qc.l0 (pl.map (·.1)) n K k i j) (K := K) (fun c => nlt (pl.getD c default).1 n) 0 pl.length
  (fun c c' h1 h2 h3 h4 => by
   obtain ⟨x, hx⟩ := hat c (by omega)
   obtain ⟨y, hy⟩ := hat c' h3
   rw [List.getD_eq_getElem?_getD, hx, Option.getD_some] at h4
   rw [List.getD_eq_getElem?_getD, hy, Option.getD_some]
   exact hmono c c' x y h2 hx hy h4)
  (fun k i j h1 h2 h3 => by
   obtain ⟨x, hx⟩ := hat ((i + j) / 2) (by omega)
   show qc.l0 _ n K (k + 1) i j = _
   rw [qc.l0, decide_eq_true (by omega), cond_true, qlN (n := i + j) (by omega) (by omega), qv, List.getElem?_map, hx, Option.map_some, Option.bind_some, qdc, Option.bind_some, List.getD_eq_getElem?_getD, hx, Option.getD_some, qu (by omega)]
   cases nlt x.1 n with
   | true => rw [cond_true, if_pos rfl]
   | false => rw [cond_false, if_neg (by simp)])
  (fun k i => by
   show qc.l0 _ n K (k + 1) i i = _
   rw [qc.l0, decide_eq_false (by omega), cond_false])
  (((pl.length : Int) - 0).toNat + 1) 0 pl.length (Nat.le_refl _) (by omega) (Nat.le_refl _) (by omega)
 have hlo : ∀ x ∈ pl.take t, nlt x.1 n = true := fun x hx => by
  obtain ⟨i, hi⟩ := List.getElem?_of_mem hx
  have hl := at_lt hi
  rw [List.length_take] at hl
  rw [List.getElem?_take, if_pos (by omega)] at hi
  have := t4 i (by omega) (by omega)
  rw [List.getD_eq_getElem?_getD, hi, Option.getD_some] at this
  exact this
 have hhi : ∀ x ∈ pl.drop t, nlt x.1 n = false := fun x hx => by
  obtain ⟨i, hi⟩ := List.getElem?_of_mem hx
  rw [List.getElem?_drop] at hi
  have hl := at_lt hi
  have := t5 (t + i) (by omega) (by omega)
  rw [List.getD_eq_getElem?_getD, hi, Option.getD_some] at this
  exact this
 have hKt : ∃ b, K (t : Int) = some ((t : Int), b) := by
  rw [← hK]
  dsimp only
  by_cases c : t < pl.length
  ·
   rw [decide_eq_true (by omega), qqC, qv, List.getElem?_map, List.getElem?_eq_getElem c, Option.map_some, Option.bind_some]
   unfold qYC.f
   rw [gd_of, Option.bind_some, gd_of, Option.bind_some, gd_of, Option.bind_some]
   exact ⟨_, rfl⟩
  ·
   rw [decide_eq_false (by omega)]
   exact ⟨_, rfl⟩
 obtain ⟨b, hb⟩ := hKt
 refine ⟨t, b, t2, t3.trans hb, ?_, ?_⟩
 ·
  conv => lhs; rw [← List.take_append_drop t pl]
  rw [List.filter_append, List.filter_eq_self.2 hlo, List.filter_eq_nil_iff.2 (fun x hx => by rw [hhi x hx]; simp), List.append_nil]
 ·
  conv => lhs; rw [← List.take_append_drop t pl]
  rw [List.filter_append, List.filter_eq_nil_iff.2 (fun x hx => by rw [qDR (hlo x hx)]; simp), List.filter_eq_self.2 (fun x hx => qRY (hn x (List.mem_of_mem_drop hx)) (hhi x hx)), List.nil_append]
theorem qdY {α : Type} {b : Nat} {l m : List α} {i : Nat} {x : α} (hm : m = [x]) (hi : i ≤ l.length) (hb : ((l.length : Int) + 1) * b ≤ 140737488355328 ∧ (l.length : Int) + 1 ≤ 140737488355328) : insO b l (i : Int) m = some (l.take i ++ x :: l.drop i) := by
 subst hm
 unfold insO
 rw [if_pos ⟨rfl, by omega, by omega, by simpa using hb.1, by simpa using hb.2⟩, Int.toNat_natCast]
 simp
theorem qoa (P : List NV) (hd : P.Pairwise fun a b => a.1 ≠ b.1) (hf : Fn1 P) (hlen : P.length ≤ 10000000) : ∀ (k i : Nat), i ≤ P.length → P.length < i + k →
  qQD.l0 (P.map (·.1)) (P.map (·.2)) k ((foldP (P.take i)).map fun p => numJ p.2) ((foldP (P.take i)).map (·.1)) i = some (objJ (foldP P)) := by
 intro k
 induction k with
 | zero => intro i h h'; omega
 | succ k ih =>
  intro i h h'
  rw [qQD.l0, qG, List.length_map]
  by_cases hi : i < P.length
  ·
   have hx : P[i]? = some P[i] := List.getElem?_eq_getElem hi
   have hl := qpS (P.take i)
   have ht : (P.take i).length = i := by rw [List.length_take]; omega
   have hfT : Fn1 (P.take i) := fun a ha b hb => hf a (List.mem_of_mem_take ha) b (List.mem_of_mem_take hb)
   obtain ⟨t, b, t1, t2, t3, t4⟩ := qzS (foldP (P.take i)) (P[i]).1 (qER _) (fun x hx' => by
    rw [qnN _ hfT] at hx'
    obtain ⟨m, hm⟩ := List.getElem?_of_mem hx'
    have hml := at_lt hm
    rw [List.getElem?_take, if_pos (by omega)] at hm
    obtain ⟨a1, rfl⟩ := List.getElem?_eq_some_iff.1 hm
    exact List.pairwise_iff_getElem.1 hd m i a1 hi (by omega)) (by omega)
   have e : foldP (P.take (i + 1)) = (foldP (P.take i)).take t ++ P[i] :: (foldP (P.take i)).drop t := by
    rw [qhH hx, qBQ]; unfold putP; rw [t3, t4]
   rw [decide_eq_true (by omega), cond_true, qv, List.getElem?_map, hx, Option.map_some, Option.bind_some, t2, Option.bind_some, Option.bind_some]
   unfold qiD.f qID.f
   rw [qdY rfl (by rw [List.length_map]; exact t1) (by rw [List.length_map]; omega), Option.bind_some, qv, List.getElem?_map, hx, Option.map_some, Option.bind_some, Option.bind_some, qdY rfl (by rw [List.length_map]; exact t1) (by rw [List.length_map]; omega), Option.bind_some, qu (by omega), ← ih (i + 1) (by omega) (by omega), e]
   simp only [List.map_append, List.map_cons, List.map_take, List.map_drop]
   rfl
  have : i = P.length := by omega
  subst this
  rw [decide_eq_false (by omega), cond_false, List.take_length]
  rfl
theorem qJR (P : List NV) (hd : P.Pairwise fun a b => a.1 ≠ b.1) (hf : Fn1 P) (hlen : P.length ≤ 10000000) : qQD.f (P.map (·.1)) (P.map (·.2)) = some (objJ (foldP P)) := by
 unfold qQD.f
 exact qoa P hd hf hlen (((lenI (P.map (·.1))) - 0).toNat + 1) 0 (by omega) (by rw [qG, List.length_map]; omega)
def dd (l : List Int) : Nat → List Int
 | 0 => []
 | i + 1 => if l.getD i 0 ∈ l.take i then dd l i else dd l i ++ [l.getD i 0]
theorem qbV (l : List Int) : ∀ i, (dd l i).length ≤ i
 | 0 => by simp [dd]
 | i + 1 => by have := qbV l i; rw [dd]; split <;> simp <;> omega
theorem qcV (l : List Int) (x : Int) : ∀ i, i ≤ l.length → (x ∈ dd l i ↔ x ∈ l.take i)
 | 0, _ => by simp [dd]
 | i + 1, h => by
  have ih := qcV l x i (by omega)
  have e : l.take (i + 1) = l.take i ++ [l.getD i 0] := by
   rw [qhH (x := l[i]'(by omega)) (List.getElem?_eq_getElem (by omega)), List.getD_eq_getElem?_getD, List.getElem?_eq_getElem (by omega)]; rfl
  rw [dd, e]
  split
  ·
   rename_i c
   rw [ih, List.mem_append, List.mem_singleton]
   exact ⟨.inl, fun h => h.elim id fun e => e ▸ c⟩
  rw [List.mem_append, ih, List.mem_append]
theorem dd_nd (l : List Int) : ∀ i, i ≤ l.length → (dd l i).Pairwise (· ≠ ·)
 | 0, _ => List.Pairwise.nil
 | i + 1, h => by
  have ih := dd_nd l i (by omega)
  rw [dd]
  split
  · exact ih
  rename_i c
  refine List.pairwise_append.2 ⟨ih, List.pairwise_singleton .., fun a ha b hb => ?_⟩
  rw [List.mem_singleton.1 hb]
  rintro rfl
  exact c ((qcV l _ i (by omega)).1 ha)
def implPs (q : Query) (r : Row) (n : Int) : List NV := [idP r] ++ (dd q.Show q.Show.length).map (colP r) ++ kidsL q n
theorem qEP (q : Query) (r : Row) (hr : Row_b r) (hc : In64 q.Show) (hl : q.Show.length ≤ 2097152) (K : List ByteArray → List Int → Option Json) : ∀ (k i : Nat), i ≤ q.Show.length → q.Show.length < i + k →
  qtC.l0 q r K k (([idP r] ++ (dd q.Show i).map (colP r)).map (·.1)) (([idP r] ++ (dd q.Show i).map (colP r)).map (·.2)) i = K (([idP r] ++ (dd q.Show q.Show.length).map (colP r)).map (·.1)) (([idP r] ++ (dd q.Show q.Show.length).map (colP r)).map (·.2)) := by
 intro k
 induction k with
 | zero => intro i h h'; omega
 | succ k ih =>
  intro i h h'
  rw [qtC.l0, qG]
  by_cases hi : i < q.Show.length
  ·
   have hx : q.Show[i]? = some q.Show[i] := List.getElem?_eq_getElem hi
   have hg : q.Show.getD i 0 = q.Show[i] := by rw [List.getD_eq_getElem?_getD, hx]; rfl
   have h64 := hc _ (List.getElem_mem hi)
   have hdl := qbV q.Show i
   have hcut : cutO q.Show 0 (i : Int) = some (q.Show.take i) := by rw [qvQ (by omega)]; simp
   rw [decide_eq_true (by omega), cond_true, qv, hx, Option.bind_some, hcut, Option.bind_some, qiI _ _ (by rw [List.length_take]; omega), Option.bind_some, qu (by omega), ← ih (i + 1) (by omega) (by omega), dd, hg]
   by_cases c : q.Show[i] ∈ q.Show.take i
   · rw [decide_eq_true c, cond_true, if_pos c]
   rw [decide_eq_false c, cond_false, if_neg c, qDP _ h64, Option.bind_some, put_c _ h64, Option.bind_some, Option.bind_some, qwC (by simp only [List.length_append, List.length_map, List.length_cons, List.length_nil]; omega), Option.bind_some, qsE r _ hr, Option.bind_some, Option.bind_some, qwC (by simp only [List.length_append, List.length_map, List.length_cons, List.length_nil]; omega), Option.bind_some]
   simp only [List.map_append, List.map_cons, List.map_nil, List.append_assoc]
   rfl
  have : i = q.Show.length := by omega
  subst this
  rw [decide_eq_false (by omega), cond_false]
theorem qeY {q : Query} {r : Row} {n : Int} (hc : In64 q.Show) : (implPs q r n).Pairwise fun a b => a.1 ≠ b.1 := by
 unfold implPs
 have hm : ∀ x ∈ dd q.Show q.Show.length, -9223372036854775808 ≤ x ∧ x ≤ 9223372036854775807 := fun x hx => hc x (by simpa using (qcV q.Show x _ (Nat.le_refl _)).1 hx)
 have hk : ∀ b ∈ kidsL q n, b = kidsP n := fun b hb => by
  unfold kidsL at hb
  split at hb
  · exact List.mem_singleton.1 hb
  simp at hb
 refine List.pairwise_append.2 ⟨List.pairwise_append.2 ⟨List.pairwise_singleton .., ?_, fun a ha b hb => ?_⟩, ?_, fun a ha b hb => ?_⟩
 ·
  refine List.pairwise_map.2 ?_
  have := dd_nd q.Show q.Show.length (Nat.le_refl _)
  refine List.Pairwise.imp_of_mem (fun {a b} ha hb hne e => ?_) this
  have e : colN a = colN b := e
  rw [qMK, qMK] at e
  exact hne (qWV (hm a ha) (hm b hb) (List.cons.inj (qqS e)).2)
 ·
  rw [List.mem_singleton.1 ha]
  obtain ⟨c, _, rfl⟩ := List.mem_map.1 hb
  exact fun e => qcL c e.symm
 ·
  unfold kidsL; split
  · exact List.pairwise_singleton ..
  exact List.Pairwise.nil
 rw [hk b hb]
 rcases List.mem_append.1 ha with ha | ha
 · rw [List.mem_singleton.1 ha]; exact qdL
 obtain ⟨c, _, rfl⟩ := List.mem_map.1 ha
 exact quI c
theorem qvN {q : Query} {r : Row} {n : Int} (hc : In64 q.Show) : Fn1 (implPs q r n) ∧ foldP (implPs q r n) = foldP (q.Show.map (colP r) ++ [idP r] ++ kidsL q n) := by
 have hk : ∀ b ∈ kidsL q n, b = kidsP n := fun b hb => by
  unfold kidsL at hb
  split at hb
  · exact List.mem_singleton.1 hb
  simp at hb
 have hdm : ∀ x, x ∈ dd q.Show q.Show.length ↔ x ∈ q.Show := fun x => by rw [qcV q.Show x _ (Nat.le_refl _), List.take_length]
 have f1 : Fn1 (implPs q r n) := qeb (r := r) (n := n) (q := q) hc fun x hx => by
  unfold implPs at hx
  simp only [List.mem_append, List.mem_map, List.mem_singleton] at hx
  rcases hx with (rfl | ⟨c, h1, rfl⟩) | h
  · exact .inr (.inl rfl)
  · exact .inl ⟨c, (hdm c).1 h1, rfl⟩
  exact .inr (.inr (hk _ h))
 have f2 : Fn1 (q.Show.map (colP r) ++ [idP r] ++ kidsL q n) := qeb (r := r) (n := n) (q := q) hc fun x hx => by
  simp only [List.mem_append, List.mem_map, List.mem_singleton] at hx
  rcases hx with (⟨c, h1, rfl⟩ | rfl) | h
  · exact .inl ⟨c, h1, rfl⟩
  · exact .inr (.inl rfl)
  exact .inr (.inr (hk _ h))
 refine ⟨f1, qKW f1 f2 fun x => ?_⟩
 unfold implPs
 simp only [List.mem_append, List.mem_map, List.mem_singleton]
 constructor
 ·
  rintro ((h | ⟨c, h1, h2⟩) | h)
  · exact .inl (.inr h)
  · exact .inl (.inl ⟨c, (hdm c).1 h1, h2⟩)
  exact .inr h
 rintro ((⟨c, h1, h2⟩ | h) | h)
 · exact .inl (.inr ⟨c, (hdm c).2 h1, h2⟩)
 · exact .inl (.inl h)
 exact .inr h
theorem qwN (q : Query) (r : Row) (hr : Row_b r) (hc : In64 q.Show) (hl : q.Show.length ≤ 2097152) (K : List ByteArray → List Int → Option Json) : qtC.l0 q r K (((lenI q.Show) - 0).toNat + 1) [ByteArray.mk #[105, 100]] [r.Id] 0 = K (([idP r] ++ (dd q.Show q.Show.length).map (colP r)).map (·.1)) (([idP r] ++ (dd q.Show q.Show.length).map (colP r)).map (·.2)) := by
 have h := qEP q r hr hc hl K (((lenI q.Show) - 0).toNat + 1) 0 (by omega) (by rw [qG]; omega)
 rw [dd, List.map_nil, List.append_nil] at h
 exact h
theorem qxN (q : Query) (r : Row) (n : Int) (hc : In64 q.Show) (hl : q.Show.length ≤ 2097152) : ((qQD.f ((implPs q r n).map (·.1)) ((implPs q r n).map (·.2))).bind fun r49 => (qDF.f r49).bind fun r50 => some r50) = some (orJ (rowObj q r n)) := by
 have hdl := qbV q.Show q.Show.length
 have hkl : (kidsL q n).length ≤ 1 := by unfold kidsL; split <;> simp
 have hobj : qQD.f ((implPs q r n).map (·.1)) ((implPs q r n).map (·.2)) = some (rowObj q r n) := by
  rw [qJR _ (qeY hc) (qvN hc).1 (by unfold implPs; simp only [List.length_append, List.length_map, List.length_singleton]; omega), (qvN hc).2]; rfl
 rw [hobj, Option.bind_some, qrJ _ (qFR hc hl).1]; rfl
theorem qFP (q : Query) (r : Row) (n : Int) (hr : Row_b r) (hc : In64 q.Show) (hl : q.Show.length ≤ 2097152) : qtC.f q r n = some (orJ (rowObj q r n)) := by
 have hdl := qbV q.Show q.Show.length
 have fin := qxN q r n hc hl
 unfold qtC.f
 rw [Option.bind_some, Option.bind_some, qTC, qwN q r hr hc hl]
 generalize hN : ([idP r] ++ (dd q.Show q.Show.length).map (colP r)) = N at *
 have hNl : N.length ≤ 2097153 := by rw [← hN]; simp only [List.length_append, List.length_map, List.length_singleton]; omega
 have e : implPs q r n = N ++ kidsL q n := by unfold implPs; rw [hN]
 rw [e] at fin
 clear hN e
 rw [← fin, qTC]
 unfold kidsL
 cases hk : q.Kids with
 | false =>
  rw [cond_false, if_neg (by simp), List.append_nil]
 | true =>
  rw [cond_true, Option.bind_some, qwC (by simp only [List.length_map, List.length_cons, List.length_nil]; omega), Option.bind_some, Option.bind_some, qwC (by simp only [List.length_map, List.length_cons, List.length_nil]; omega), Option.bind_some, if_pos rfl, List.map_append, List.map_append]
  rfl
theorem qcd (kids : List Int) (i : Nat) (hk : (kids.length : Int) ≤ 9223372036854775807) {R : Type} (K : Int → Option R) : (bif (decide ((i : Int) < (lenI kids))) then ((getO kids (i : Int)).bind fun x => K x) else K 0) = K (kids.getD i 0) := by
 rw [qG]
 by_cases c : i < kids.length
 · rw [decide_eq_true (by omega), cond_true, qv, List.getElem?_eq_getElem c, Option.bind_some, List.getD_eq_getElem?_getD, List.getElem?_eq_getElem c]; rfl
 rw [decide_eq_false (by omega), cond_false, List.getD_eq_getElem?_getD, List.getElem?_eq_none (by omega)]; rfl
theorem qyN (q : Query) (kids : List Int) (l : List Row) (hc : In64 q.Show) (hl : q.Show.length ≤ 2097152) (hr : ∀ r ∈ l, Row_b r) (hn : l.length ≤ 2097152) (hk : (kids.length : Int) ≤ 9223372036854775807) : ∀ (k i : Nat), i ≤ l.length → l.length < i + k →
  qyC.l0 q kids l k ((docsF q kids (l.take i) 0).map orJ) i = some ((docsF q kids l 0).map orJ) := by
 intro k
 induction k with
 | zero => intro i h h'; omega
 | succ k ih =>
  intro i h h'
  rw [qyC.l0, qG]
  by_cases hi : i < l.length
  ·
   have hx : l[i]? = some l[i] := List.getElem?_eq_getElem hi
   have ht : (l.take i).length = i := by rw [List.length_take]; omega
   rw [decide_eq_true (by omega), cond_true, qv, hx, Option.bind_some, qTC, qcd kids i hk, qFP q _ _ (hr _ (List.getElem_mem hi)) hc hl, Option.bind_some, Option.bind_some, qwC (by simp only [List.length_map, qoK, ht, List.length_cons, List.length_nil]; omega), Option.bind_some, qu (by omega), ← ih (i + 1) (by omega) (by omega), qhH hx, qEQ, ht, List.map_append, Nat.zero_add]
   rfl
  have : i = l.length := by omega
  subst this
  rw [decide_eq_false (by omega), cond_false, List.take_length]
theorem qzN (q : Query) (rows : List Row) (kids : List Int) (hc : In64 q.Show) (hl : q.Show.length ≤ 2097152) (hr : ∀ r ∈ rows, Row_b r) (hn : rows.length ≤ 2097152) (hk : (kids.length : Int) ≤ 9223372036854775807) : qyC.f q rows kids = some ((docsF q kids (rows.take (firstF q rows.length)) 0).map orJ) := by
 unfold qyC.f
 have hf := qsS q rows.length
 rw [qG, qtN, Option.bind_some, qvQ (by omega), Option.bind_some, Int.toNat_natCast]
 have e : (rows.take (firstF q rows.length)).drop (0 : Int).toNat = rows.take (firstF q rows.length) := by simp
 rw [e]
 exact qyN q kids _ hc hl (fun r h => hr r (List.mem_of_mem_take h)) (by rw [List.length_take]; omega) hk (((lenI (rows.take (firstF q rows.length))) - 0).toNat + 1) 0 (by omega) (by rw [qG]; omega)
theorem qAT (l : List Json) (hn : l.length ≤ 9223372036854775806) : ∀ (k i : Nat), i ≤ l.length → l.length < i + k → ∃ r : Int, qX.l0 l k i = some r ∧ (0 ≤ r ↔ ∃ x ∈ l.drop i, x.Kind = 0) := by
 intro k
 induction k with
 | zero => intro i h h'; omega
 | succ k ih =>
  intro i h h'
  rw [qX.l0, qG]
  by_cases hi : i < l.length
  ·
   rw [decide_eq_true (by omega), cond_true, qv, List.getElem?_eq_getElem hi, Option.bind_some, qDH.f, Option.bind_some, List.drop_eq_getElem_cons hi, qu (by omega)]
   by_cases c : l[i].Kind = 0
   ·
    rw [decide_eq_true c, cond_true]
    exact ⟨i, rfl, ⟨fun _ => ⟨l[i], List.mem_cons_self .., c⟩, fun _ => by omega⟩⟩
   rw [decide_eq_false c, cond_false]
   obtain ⟨r, h1, h2⟩ := ih (i + 1) (by omega) (by omega)
   refine ⟨r, h1, h2.trans ⟨fun ⟨x, hx, e⟩ => ⟨x, List.mem_cons_of_mem _ hx, e⟩, fun ⟨x, hx, e⟩ => ?_⟩⟩
   rcases List.mem_cons.1 hx with rfl | hx
   · exact absurd e c
   exact ⟨x, hx, e⟩
  rw [decide_eq_false (by omega), cond_false, List.drop_eq_nil_of_le (by omega)]
  exact ⟨-1, rfl, by simp⟩
theorem qAO (l : List Json) (hn : l.length ≤ 9223372036854775806) : ∃ b, qIB.f l = some b ∧ (b = true ↔ ∃ x ∈ l, x.Kind = 0) := by
 unfold qIB.f qX.f
 obtain ⟨r, h1, h2⟩ := qAT l hn (((lenI l) - 0).toNat + 1) 0 (by omega) (by rw [qG]; omega)
 refine ⟨decide (0 ≤ r), ?_, by rw [decide_eq_true_eq, h2, List.drop_zero]⟩
 refine (congrArg (fun o => Option.bind o _) h1).trans ?_
 rfl
theorem qKR (q : Query) (rows : List Row) (kids : List Int) (hc : In64 q.Show) (hl : q.Show.length ≤ 2097152) (hr : ∀ r ∈ rows, Row_b r) (hn : rows.length ≤ 2097152) (hk : (kids.length : Int) ≤ 9223372036854775807) : qZF.f q rows kids = some (docOfF q rows kids) := by
 unfold qZF.f docOfF
 have hf := qsS q rows.length
 rw [qzN q rows kids hc hl hr hn hk, Option.bind_some]
 generalize hD : docsF q kids (rows.take (firstF q rows.length)) 0 = D
 have hDl : D.length ≤ 2097152 := by rw [← hD, qoK, List.length_take]; omega
 obtain ⟨b, h1, h2⟩ := qAO (D.map orJ) (by rw [List.length_map]; omega)
 rw [h1, Option.bind_some]
 by_cases hb : ∀ x ∈ D, jsonB x = true
 ·
  have e : D.map orJ = D := (List.map_congr_left (g := id) fun x hx => by unfold orJ; rw [if_pos (hb x hx)]; rfl).trans (List.map_id D)
  have hbf : b = false := by
   rw [← Bool.not_eq_true, h2]
   rintro ⟨x, hx, k0⟩
   rw [e, ← hD] at hx
   obtain ⟨r, n, rfl⟩ := qpK hx
   simp [rowObj, objJ] at k0
  rw [hbf, cond_false, Option.bind_some, Option.bind_some, qG, e]
  have := qrJ (docObj q rows kids) (qZV hc hl hn)
  unfold docObj at this ⊢
  rw [hD] at this ⊢
  refine (congrArg (fun o => Option.bind o _) this).trans ?_
  rfl
 have : ∃ x ∈ D, jsonB x = false := by
  apply Classical.byContradiction
  intro h
  exact hb fun x hx => by
   cases c : jsonB x with
   | true => rfl
   | false => exact absurd ⟨x, hx, c⟩ h
 obtain ⟨x, hx, hxb⟩ := this
 have hbt : b = true := h2.2 ⟨orJ x, List.mem_map.2 ⟨x, hx, rfl⟩, by unfold orJ; rw [hxb, if_neg (by simp)]; rfl⟩
 rw [hbt, cond_true]
 rw [← hD] at hx
 have := qNW hc hl (rows := rows) hx hxb
 unfold orJ
 rw [this, if_neg (by simp)]
 rfl
def evalF (s : Store) (q : Query) : Json := if storeB s && queryB s.Schema q then docOfF q (rowsForF s q) ((rowsForF s q).map fun r => kidsOfF s q r.Id) else nullJ
theorem qdV {R α : Type} {f : Nat → List Int → Int → Option R} {l : List α} (g : α → Int) (K : List Int → Option R) (h0 : ∀ k (i : Nat) acc x, l[i]? = some x → acc.length ≤ i → f (k + 1) acc i = f k (acc ++ [g x]) ((i + 1 : Nat) : Int)) (h1 : ∀ k (i : Nat) acc, i = l.length → f (k + 1) acc i = K acc) :
  ∀ (k i : Nat) (acc : List Int), i ≤ l.length → l.length < i + k → acc.length ≤ i → f k acc i = K (acc ++ (l.drop i).map g)
 | 0, i, acc, h, h', _ => by omega
 | k + 1, i, acc, h, h', ha => by
  by_cases hi : i < l.length
  ·
   rw [List.drop_eq_getElem_cons hi, List.map_cons, h0 k i acc _ (List.getElem?_eq_getElem hi) ha, qdV g K h0 h1 k (i + 1) _ (by omega) (by omega) (by simp only [List.length_append, List.length_cons, List.length_nil]; omega), List.append_assoc]
   rfl
  rw [h1 k i acc (by omega), List.drop_eq_nil_of_le (by omega), List.map_nil, List.append_nil]
theorem qYM (s : Store) (q : Query) (hs : qgD s) (hq : qfG q) (hc : In64 q.Show) (hl : q.Show.length ≤ 2097152) : qlD.f s q = some (evalF s q) := by
 unfold qlD.f evalF
 rw [qoD _ hs, Option.bind_some, qOF _ _ hs.1 hq]
 cases h1 : storeB s with
 | false => rfl
 | true =>
  cases h2 : queryB s.Schema q with
  | false => rfl
  | true =>
   simp only [qOC, Bool.not_true, Bool.not_false, bo3_F, bo3_T, qqC, Option.bind_some, cond_false, Bool.true_and, if_true]
   obtain ⟨g1, _, g3⟩ := qsK s q
   rw [qsN s q hs hq, Option.bind_some, qTC]
   generalize rowsForF s q = R at *
   have hD := qKR q R (R.map fun r => kidsOfF s q r.Id) hc hl g3 (by omega) (by rw [List.length_map]; omega)
   have e := qdV (f := qlD.l0 s q R (fun y => (qZF.f q R y).bind fun r => some r)) (l := R) (fun r => kidsOfF s q r.Id) (fun y => (qZF.f q R y).bind fun r => some r) (fun k i acc x hx ha => ?_) (fun k i acc hi => ?_) (((lenI R) - 0).toNat + 1) 0 [] (by omega) (by rw [qG]; omega) (by simp)
   ·
    rw [List.drop_zero, List.nil_append, hD] at e
    exact e
   ·
    have hi := at_lt hx
    rw [qlD.l0, qG, decide_eq_true (by omega), cond_true, qv, hx, Option.bind_some, qCP s q _ hs hq, Option.bind_some, Option.bind_some, qwC (by simp only [List.length_cons, List.length_nil]; omega), Option.bind_some, qu (by omega)]
   rw [qlD.l0, qG, decide_eq_false (by omega), cond_false]
theorem qdU (l : List Int) : qmK.f l = some (decide (1048576 < (l.length : Int))) := by unfold qmK.f; rw [qG]
def CI (b : List Int) (i : Int) : Prop := 0 ≤ i ∧ i ≤ b.length ∧ (b.length : Int) ≤ 1048576
theorem qgb (x : Int) (m : Nat) (hm : m < 9223372036854775808) : 0 ≤ Ls.ar .and .i64 x m ∧ Ls.ar .and .i64 x m ≤ m := by
 show 0 ≤ IntKind.i64.wrap _ ∧ IntKind.i64.wrap _ ≤ _
 have h : (BitVec.ofInt IntKind.i64.bits x &&& BitVec.ofInt IntKind.i64.bits m).toNat ≤ m := by
  rw [BitVec.toNat_and]
  refine Nat.le_trans Nat.and_le_right ?_
  rw [BitVec.toNat_ofInt]
  have : ((m : Int) % (2 ^ IntKind.i64.bits : Nat)).toNat = m := by
   rw [Int.emod_eq_of_lt (by omega) (by show (m : Int) < ((2 ^ 64 : Nat) : Int); omega)]
   omega
  omega
 rw [IntKind.wrap_i64]
 omega
theorem qtK {b : List Int} {i : Int} (h : Int) (hc : CI b i) : ∃ i' h' x, qBE.f (l1Cur.mk b i h) = some (l1Cur.mk b i' h', x) ∧ CI b i' ∧ 0 ≤ x ∧ x ≤ 255 := by
 obtain ⟨h0, h1, h2⟩ := hc
 unfold qBE.f
 dsimp only
 by_cases hi : i < (b.length : Int)
 ·
  rw [qG, decide_eq_true hi, cond_true, qyE h0, List.getElem?_eq_getElem (by omega), Option.bind_some]
  exact ⟨_, _, _, rfl, ⟨by rw [qJB (by omega)]; omega, by rw [qJB (by omega)]; omega, h2⟩, qgb _ 255 (by omega)⟩
 rw [qG, decide_eq_false hi, cond_false]
 exact ⟨_, _, _, rfl, ⟨h0, h1, h2⟩, qgb _ 255 (by omega)⟩
theorem qfY {x n : Int} (hx : 0 ≤ x) (hn : 0 < n) : 0 ≤ Int.tmod x n ∧ Int.tmod x n < n := ⟨Int.tmod_nonneg _ hx, Int.tmod_lt_of_pos _ hn⟩
theorem qrB {b : List Int} {i : Int} (h : Int) (n : Int) (hc : CI b i) : ∃ i' h' x, qa.f (l1Cur.mk b i h) n = some (l1Cur.mk b i' h', x) ∧ CI b i' ∧ 0 ≤ x ∧ (0 < n → x < n) ∧ (n ≤ 0 → x = 0) := by
 unfold qa.f
 by_cases h0 : n ≤ 0
 ·
  rw [decide_eq_true h0, cond_true]
  exact ⟨_, _, _, rfl, hc, by omega, fun _ => by omega, fun _ => rfl⟩
 have hz : nzO n = some () := by unfold nzO; rw [if_pos (by omega)]
 rw [decide_eq_false h0, cond_false]
 obtain ⟨i1, h1, x1, e1, k1, l1, u1⟩ := qtK h hc
 by_cases hn : n ≤ 256
 ·
  rw [decide_eq_true hn, cond_true, e1, Option.bind_some, hz, Option.bind_some]
  have := qfY (n := n) l1 (by omega)
  exact ⟨_, _, _, rfl, k1, this.1, fun _ => this.2, fun _ => by omega⟩
 obtain ⟨i2, h2, x2, e2, k2, l2, u2⟩ := qtK h1 k1
 obtain ⟨i3, h3, x3, e3, k3, l3, u3⟩ := qtK h2 k2
 obtain ⟨i4, h4, x4, e4, k4, l4, u4⟩ := qtK h3 k3
 rw [decide_eq_false hn, cond_false, e1, Option.bind_some]
 dsimp only
 rw [e2, Option.bind_some]
 dsimp only
 rw [e3, Option.bind_some]
 dsimp only
 rw [e4, Option.bind_some, hz, Option.bind_some]
 dsimp only
 rw [qJB (x := x1 * 16777216) (by omega), qJB (x := x2 * 65536) (by omega), qJB (x := x3 * 256) (by omega), qJB (x := x1 * 16777216 + x2 * 65536) (by omega), qJB (x := x1 * 16777216 + x2 * 65536 + x3 * 256) (by omega), qJB (by omega)]
 have := qfY (n := n) (show 0 ≤ x1 * 16777216 + x2 * 65536 + x3 * 256 + x4 by omega) (by omega)
 exact ⟨_, _, _, rfl, k4, this.1, fun _ => this.2, fun _ => by omega⟩
theorem qpa (l : List Int) (hl : (l.length : Int) ≤ 1048576) : ∃ h, qmD.f l = some (l1Cur.mk l 0 h) ∧ CI l 0 := by
 have key : ∀ (k i : Nat) (h : Int), i ≤ l.length → l.length < i + k → ∃ h', qmD.l0 l k h i = some (l1Cur.mk l 0 h') := by
  intro k
  induction k with
  | zero => intro i h h1 h2; omega
  | succ k ih =>
   intro i h h1 h2
   rw [qmD.l0]
   by_cases c : bo3 (decide ((i : Int) < lenI l)) (decide ((i : Int) < 4000)) false = true
   ·
    have hi : i < l.length := by
     rw [qWF, Bool.and_eq_true] at c
     have := of_decide_eq_true c.1
     rw [qG] at this
     omega
    rw [c, cond_true, qv, List.getElem?_eq_getElem hi, Option.bind_some, qu (by omega)]
    exact ih (i + 1) _ (by omega) (by omega)
   rw [Bool.not_eq_true] at c
   rw [c, cond_false]
   exact ⟨_, rfl⟩
 unfold qmD.f
 obtain ⟨h, e⟩ := key (((lenI l) - 0).toNat + 1) 0 (w64 (17333 + lenI l)) (by omega) (by rw [qG]; omega)
 exact ⟨h, e, by omega, by omega, hl⟩
theorem qbI (s : Schema) (h : qHE s ≤ 1099511627776) : qlE.f s = some s := by
 have : (s.Cols.length : Int) ≤ 1099511627776 := by unfold qHE qFD at h; exact h
 unfold qlE.f
 rw [qwC (by simp only [List.length_nil]; omega), Option.bind_some, List.nil_append]
theorem qJE (s : Schema) (h : qJD s) : qnB.f s = some (schemaB s) := by
 have hl : s.Cols.length ≤ 9223372036854775807 := h
 unfold qnB.f joinK
 refine (qYD (f := qnB.l0 s _) (l := s.Cols) (fun _ n => decide (1 ≤ n ∧ n ≤ 4)) (some false) (some (decide (1 ≤ (s.Cols.length : Int) ∧ (s.Cols.length : Int) ≤ 3))) (fun k i x hx => ?_) (fun k i hi => ?_) _ 0 (by omega) (by (try simp only [qG]); omega)).trans ?_
 ·
  have hi := at_lt hx
  rw [qnB.l0, qG, decide_eq_true (by omega), cond_true, qv, hx, Option.bind_some, qVC, Option.bind_some, qOC, qu (by omega)]
  cases decide (1 ≤ x ∧ x ≤ 4) <;> rfl
 · rw [qnB.l0, qG, decide_eq_false (by omega), cond_false, qVC, Option.bind_some]
 rw [qLD, schemaB]
 cases s.Cols.all fun n => decide (1 ≤ n ∧ n ≤ 4) <;> rfl
theorem qiM (s : Schema) (hb : qJD s) (hz : qHE s ≤ 1099511627776) : qNF.f s = some (if schemaB s = true then (⟨s, 0, List.replicate s.Cols.length []⟩, true) else (noStore, false)) := by
 unfold qNF.f
 rw [qJE _ hb, Option.bind_some]
 cases hs : schemaB s with
 | false => rfl
 | true =>
  have := qfL hs
  rw [show bo3 true false true = false from rfl, cond_false, if_pos rfl, qbI _ hz, Option.bind_some, qG, qSd (by omega), Option.bind_some, Int.toNat_natCast]
def SB (s : Schema) : Prop := s.Cols.length ≤ 6 ∧ ∀ x ∈ s.Cols, -1 ≤ x ∧ x ≤ 5
theorem SB.b {s : Schema} (h : SB s) : qJD s := by unfold qJD IntS_b; have := h.1; omega
theorem qcJ {α : Type} {p : α → Prop} {l : List α} {x : α} (h : ∀ y ∈ l, p y) (hx : p x) : ∀ y ∈ l ++ [x], p y := fun y hy => by
 rcases List.mem_append.1 hy with hy | hy
 · exact h y hy
 rw [List.mem_singleton.1 hy]; exact hx
theorem qBO (a : l1Cur) : ∀ (k i : Nat) (ci h : Int) (l : List Int), CI a.b ci → l.length = i → i ≤ 3 → 4 ≤ i + k → (∀ x ∈ l, 1 ≤ x ∧ x ≤ 4) →
  ∃ ci' h' l', qqB.l0 a k ci h l i = some (l1Cur.mk a.b ci' h', Schema.mk l') ∧ CI a.b ci' ∧ (i < 1 ∨ 1 ≤ i) ∧ l'.length ≤ 3 ∧ i ≤ l'.length ∧ 1 ≤ l'.length ∧ ∀ x ∈ l', 1 ≤ x ∧ x ≤ 4 := by
 intro k
 induction k with
 | zero => intro i ci h l hc hl h1 h2; omega
 | succ k ih =>
  intro i ci h l hc hl h1 h2 hx
  obtain ⟨c1, h1', x1, e1, k1, l1, u1, _⟩ := qrB h 3 hc
  have hx3 := u1 (by omega)
  rw [qqB.l0, e1, Option.bind_some]
  dsimp only
  rw [qJB (by omega)]
  by_cases c : (i : Int) < 1 + x1
  ·
   obtain ⟨c2, h2', x2, e2, k2, l2, u2, _⟩ := qrB h1' 4 k1
   have hx4 := u2 (by omega)
   rw [decide_eq_true c, cond_true, e2, Option.bind_some]
   dsimp only
   rw [qJB (by omega), Option.bind_some, qwC (by simp only [List.length_cons, List.length_nil]; omega), Option.bind_some, qu (by omega)]
   obtain ⟨ci', h', l', q1, q2, q3, q4, q5, q6, q7⟩ := ih (i + 1) c2 h2' (l ++ [1 + x2]) k2 (by simp [hl]) (by omega) (by omega) (qcJ hx (by omega))
   exact ⟨ci', h', l', q1, q2, by omega, q4, by omega, q6, q7⟩
  rw [decide_eq_false c, cond_false]
  exact ⟨_, _, _, rfl, k1, by omega, by omega, by omega, by omega, hx⟩
theorem qCO {b : List Int} {i : Int} (h : Int) (hc : CI b i) : ∃ i' h' s, qqB.f (l1Cur.mk b i h) = some (l1Cur.mk b i' h', s) ∧ CI b i' ∧ s.Cols.length ≤ 3 ∧ 1 ≤ s.Cols.length ∧ ∀ x ∈ s.Cols, 1 ≤ x ∧ x ≤ 4 := by
 unfold qqB.f
 obtain ⟨ci', h', l', q1, q2, q3, q4, q5, q6, q7⟩ := qBO (l1Cur.mk b i h) 1000 0 i h [] hc rfl (by omega) (by omega) (by simp)
 exact ⟨_, _, _, q1, q2, q4, q6, q7⟩
theorem quE (r : Row) (h : qBC r ≤ 1099511627776) : qTD.f r = some r := by
 have := qUY h
 unfold qTD.f
 rw [qwC (by simp only [List.length_nil]; omega), Option.bind_some, List.nil_append]
theorem qKI (l : List Row) (id : Int) (h : l.length ≤ 9223372036854775807) : qzC.f l id = some (rowAtF l id 0) := by
 have key : ∀ (k i : Nat), i ≤ l.length → l.length < i + k → qzC.l0 l id k i = some (rowAtF (l.drop i) id i) := by
  intro k
  induction k with
  | zero => intro i h h'; omega
  | succ k ih =>
   intro i h h'
   by_cases hi : i < l.length
   ·
    have hx : l[i]? = some l[i] := List.getElem?_eq_getElem hi
    rw [qzC.l0, qG, decide_eq_true (by omega), cond_true, qv, hx, Option.bind_some, List.drop_eq_getElem_cons hi, rowAtF, qu (by omega)]
    by_cases e : (l[i]).Id = id
    · rw [decide_eq_true e, cond_true, if_pos e]
    rw [decide_eq_false e, cond_false, if_neg e]
    exact ih (i + 1) (by omega) (by omega)
   rw [qzC.l0, qG, decide_eq_false (by omega), cond_false, List.drop_eq_nil_of_le (by omega), rowAtF]
 have := key (((lenI l) - 0).toNat + 1) 0 (by omega) (by simp only [qG]; omega)
 rw [List.drop_zero] at this
 exact this
theorem qxI (l : List Row) (id : Int) (h : qWB l ≤ 1099511627776) : qFC.f l id = some (rowDropF l id) := by
 unfold qWB at h
 have p := qAC qgC l
 unfold qFC.f
 rw [qKI _ _ (by omega), Option.bind_some, qhL]
 generalize hd : l.findIdx (isId id) = d
 have key : ∀ (k i : Nat), i ≤ l.length → l.length < i + k → qFC.l0 l (idxI (isId id) l) k ((l.take i).eraseIdx d) i = some (rowDropF l id) := by
  intro k
  induction k with
  | zero => intro i h h'; omega
  | succ k ih =>
   intro i h0 h'
   by_cases hi : i < l.length
   ·
    have hx : l[i]? = some l[i] := List.getElem?_eq_getElem hi
    have hm := qcE qgC (List.mem_of_getElem? hx)
    have ht : (l.take i).length = i := by rw [List.length_take]; omega
    rw [qFC.l0, qG, decide_eq_true (by omega), cond_true]
    have hs := ih (i + 1) (by omega) (by omega)
    rw [qhH hx] at hs
    by_cases e : d = i
    ·
     have ei : idxI (isId id) l = (i : Int) := by rw [qGH (by omega), hd, e]
     rw [ei] at hs ⊢
     rw [decide_eq_false (by omega), cond_false, qu (by omega)]
     rw [e] at hs ⊢
     rw [List.eraseIdx_of_length_le (by omega)]
     rw [List.eraseIdx_append_of_length_le (by omega), ht] at hs
     simpa using hs
    have ei : ¬ (i : Int) = idxI (isId id) l := by
     unfold idxI; split <;> omega
    rw [decide_eq_true ei, cond_true, qv, hx, Option.bind_some, quE _ (by omega), Option.bind_some, Option.bind_some, qwC (by
     have : ((l.take i).eraseIdx d).length ≤ i := by rw [List.length_eraseIdx]; split <;> omega
     simp only [List.length_cons, List.length_nil]; omega), Option.bind_some, qu (by omega)]
    by_cases e2 : d < i
    ·
     rw [List.eraseIdx_append_of_lt_length (by omega)] at hs
     exact hs
    rw [List.eraseIdx_of_length_le (by simp; omega)] at hs
    rw [List.eraseIdx_of_length_le (by omega)]
    exact hs
   rw [qFC.l0, qG, decide_eq_false (by omega), cond_false, List.take_of_length_le (by omega), ← hd]
   rfl
 have := key (((lenI l) - 0).toNat + 1) 0 (by omega) (by simp only [qG]; omega)
 rw [List.take_zero, List.eraseIdx_nil] at this
 exact this
theorem qGP (r : Row) (l : List Row) (K : Int → Option (List Row)) (hl : l.length < 9223372036854775807) : ∀ (k i : Nat) (at_ : Int), i ≤ l.length → i < k → qZC.l0 r l K k at_ ((i : Int) - 1) = K (if (l.take i).findIdx (isGt r.Id) < i then ((l.take i).findIdx (isGt r.Id) : Int) else at_) := by
 intro k
 induction k with
 | zero => intro i at_ h h'; omega
 | succ k ih =>
  intro i at_ h h'
  cases i with
  | zero => rw [qZC.l0, decide_eq_false (by omega), cond_false, if_neg (by omega)]
  | succ i =>
   have hx : l[i]? = some l[i] := List.getElem?_eq_getElem (by omega)
   have e1 : ((i + 1 : Nat) : Int) - 1 = (i : Int) := by omega
   rw [qZC.l0, e1, decide_eq_true (by omega), cond_true, qv, hx, Option.bind_some, qJB (by omega), ih i _ (by omega) (by omega), ih i _ (by omega) (by omega), qVM _ _ hx]
   by_cases c : (l.take i).findIdx (isGt r.Id) < i
   ·
    simp only [if_pos c]
    rw [if_pos (by omega)]
    cases decide (r.Id < l[i].Id) <;> rfl
   simp only [if_neg c]
   rw [isGt]
   cases hc : decide (r.Id < l[i].Id)
   · simp
   simp
theorem qsJ (l : List Row) (r : Row) (h : qWB l ≤ 1099511627776) (hr : qBC r ≤ 1099511627776) : qZC.f l r = some (rowPutF l r) := by
 have hz := qGQ l r.Id
 have hdl := qJI l r.Id
 have h' := h
 unfold qWB at h'
 have p := qAC qgC l
 have cut : ∀ (y : Nat), y ≤ (rowDropF l r.Id).length → ((cutO (rowDropF l r.Id) 0 (y : Int)).bind fun l17 => (appO 32 [] l17).bind fun l18 => (qTD.f r).bind fun r19 => (some [r19]).bind fun l20 => (appO 32 l18 l20).bind fun l21 => (cutO (rowDropF l r.Id) (y : Int) (lenI (rowDropF l r.Id))).bind fun l22 => (appO 32 l21 l22).bind fun l23 => some l23) = some ((rowDropF l r.Id).take y ++ [r] ++ (rowDropF l r.Id).drop y) := by
  intro y hy
  rw [qvQ ⟨by omega, by omega, by omega⟩, Option.bind_some, qwC (by simp; omega), Option.bind_some, quE _ hr, Option.bind_some, Option.bind_some, qwC (by simp; omega), Option.bind_some, qG, qvQ ⟨by omega, by omega, by omega⟩, Option.bind_some, qwC (by simp; omega), Option.bind_some]
  simp
 unfold qZC.f
 rw [qxI _ _ h, Option.bind_some]
 simp only [joinK]
 rw [qKI _ _ (by omega), Option.bind_some, qhL]
 unfold rowPutF
 by_cases c : l.findIdx (isId r.Id) < l.length
 ·
  rw [if_pos c, qGH c, decide_eq_true (by omega), cond_true, Option.bind_some]
  rw [cut _ (by unfold rowDropF; rw [List.length_eraseIdx]; split <;> omega)]
  rw [List.set_eq_take_append_cons_drop, if_pos c]
  unfold rowDropF
  rw [List.eraseIdx_eq_take_drop_succ]
  have hl : (l.take (l.findIdx (isId r.Id))).length = l.findIdx (isId r.Id) := by rw [List.length_take]; omega
  rw [List.take_left' hl, List.drop_left' hl]
  simp
 have hd : rowDropF l r.Id = l := by unfold rowDropF; exact List.eraseIdx_of_length_le (by omega)
 rw [hd] at cut
 rw [if_neg c, qII c, decide_eq_false (by omega), cond_false, hd, qG, qJB (by omega), qGP r l _ (by omega) _ _ _ (Nat.le_refl _) (by omega), List.take_length]
 have hle := List.findIdx_le_length (xs := l) (p := isGt r.Id)
 split
 ·
  rw [qG] at cut
  exact cut _ hle
 rename_i hn
 rw [qG] at cut
 have e : l.findIdx (isGt r.Id) = l.length := by omega
 rw [e]
 exact cut _ (Nat.le_refl _)
theorem qBT (a : l1Cur) (n : Int) (hn : n ≤ 5) (id : Int) : ∀ (k i : Nat) (ci h : Int) (l : List Int), CI a.b ci → l.length = i → (i : Int) ≤ n ∨ i = 0 → 0 < k → n < i + k → (∀ x ∈ l, 0 ≤ x ∧ x ≤ 5) →
  ∃ ci' h' l', qKC.l0 a n k ci h id l i = some (l1Cur.mk a.b ci' h', Row.mk id l') ∧ CI a.b ci' ∧ ((l'.length : Int) = n ∨ n < 0 ∧ l'.length = 0) ∧ ∀ x ∈ l', 0 ≤ x ∧ x ≤ 5 := by
 intro k
 induction k with
 | zero => intro i ci h l hc hl h0 h1 h2; omega
 | succ k ih =>
  intro i ci h l hc hl h0 h1 h2 hx
  rw [qKC.l0]
  by_cases c : (i : Int) < n
  ·
   obtain ⟨c2, h2', x2, e2, k2, l2, u2, _⟩ := qrB h 6 hc
   have hx4 := u2 (by omega)
   rw [decide_eq_true c, cond_true, e2, Option.bind_some]
   dsimp only
   rw [Option.bind_some, qwC (by simp only [List.length_cons, List.length_nil]; omega), Option.bind_some, qu (by omega)]
   exact ih (i + 1) c2 h2' (l ++ [x2]) k2 (by simp [hl]) (by omega) (by omega) (by omega) (qcJ hx (by omega))
  rw [decide_eq_false c, cond_false]
  exact ⟨_, _, _, rfl, hc, by omega, hx⟩
theorem qZM {b : List Int} {i : Int} (h : Int) (n : Int) (hn : n ≤ 5) (hc : CI b i) : ∃ i' h' r, qKC.f (l1Cur.mk b i h) n = some (l1Cur.mk b i' h', r) ∧ CI b i' ∧ 1 ≤ r.Id ∧ r.Id ≤ 12 ∧ ((r.Cells.length : Int) = n ∨ n < 0 ∧ r.Cells.length = 0) ∧ ∀ x ∈ r.Cells, 0 ≤ x ∧ x ≤ 5 := by
 unfold qKC.f
 obtain ⟨i1, h1, x1, e1, k1, l1, u1, _⟩ := qrB h 12 hc
 have := u1 (by omega)
 rw [e1, Option.bind_some]
 dsimp only
 rw [qJB (by omega)]
 obtain ⟨ci', h', l', q1, q2, q3, q4⟩ := qBT (l1Cur.mk b i h) n hn (1 + x1) ((n - 0).toNat + 1) 0 i1 h1 [] k1 rfl (by omega) (by omega) (by omega) (by simp)
 exact ⟨_, _, _, q1, q2, by dsimp only; omega, by dsimp only; omega, q3, q4⟩
def UpR (l : List Row) : Prop := l.Pairwise fun a b => a.Id < b.Id
theorem qgY {l : List Row} : UpR l ↔ (l.map Row.Id).Pairwise (· < ·) := by
 unfold UpR; rw [List.pairwise_map]
theorem qec {l : List Row} {i : Nat} {x : Row} (p : Row → Bool) (hx : l[i]? = some x) (h : p x = true) : l.findIdx p ≤ i := by
 rcases Nat.lt_or_ge i (l.findIdx p) with hlt | hge
 ·
  have := List.not_of_lt_findIdx hlt
  have e := (List.getElem?_eq_some_iff.1 hx).2
  rw [e, h] at this
  cases this
 exact hge
theorem qhb {l : List Row} (h : UpR l) (r : Row) : UpR (rowPutF l r) := by
 unfold rowPutF
 split
 ·
  rename_i hi
  rw [qgY, List.map_set]
  have e := qxS hi
  generalize l.findIdx (isId r.Id) = k at hi e
  have hl : k < (l.map Row.Id).length := by rw [List.length_map]; exact hi
  have e2 : (l.map Row.Id)[k] = r.Id := by rw [List.getElem_map]; exact e
  rw [← e2, List.set_getElem_self]
  exact qgY.1 h
 rename_i hi
 have hle := List.findIdx_le_length (xs := l) (p := isGt r.Id)
 have hne : ∀ x ∈ l, x.Id ≠ r.Id := fun x hx e => by
  obtain ⟨i, hi'⟩ := List.getElem?_of_mem hx
  have := qec (isId r.Id) hi' (by unfold isId; exact decide_eq_true e)
  have := at_lt hi'
  omega
 have h1 : ∀ x ∈ l.take (l.findIdx (isGt r.Id)), x.Id < r.Id := fun x hx => by
  obtain ⟨i, hi'⟩ := List.getElem?_of_mem hx
  rw [List.getElem?_take] at hi'
  split at hi'
  ·
   rename_i hlt
   have := List.not_of_lt_findIdx hlt
   rw [(List.getElem?_eq_some_iff.1 hi').2] at this
   have := of_decide_eq_false this
   have := hne x (List.mem_of_getElem? hi')
   omega
  cases hi'
 have h2 : ∀ x ∈ l.drop (l.findIdx (isGt r.Id)), r.Id < x.Id := fun x hx => by
  obtain ⟨i, hi'⟩ := List.getElem?_of_mem hx
  rw [List.getElem?_drop] at hi'
  have hlt := at_lt hi'
  have hk : l.findIdx (isGt r.Id) < l.length := by omega
  have hg : r.Id < (l[l.findIdx (isGt r.Id)]).Id := of_decide_eq_true (List.findIdx_getElem (w := hk))
  rcases Nat.eq_zero_or_pos i with rfl | hp
  ·
   have e := (List.getElem?_eq_some_iff.1 hi').2
   rw [← e]; simpa using hg
  have := List.pairwise_iff_getElem.1 h (l.findIdx (isGt r.Id)) (l.findIdx (isGt r.Id) + i) hk hlt (by omega)
  rw [(List.getElem?_eq_some_iff.1 hi').2] at this
  omega
 unfold UpR at *
 rw [List.append_assoc, List.pairwise_append, List.pairwise_append]
 refine ⟨h.sublist (List.take_sublist _ _), ⟨List.pairwise_singleton _ _, h.sublist (List.drop_sublist _ _), fun a ha b hb => ?_⟩, fun a ha b hb => ?_⟩
 · rw [List.mem_singleton.1 ha]; exact h2 b hb
 rcases List.mem_append.1 hb with hb | hb
 · rw [List.mem_singleton.1 hb]; exact h1 a ha
 have := h1 a ha; have := h2 b hb; omega
def DRw (n : Int) (r : Row) : Prop := 1 ≤ r.Id ∧ r.Id ≤ 12 ∧ (r.Cells.length : Int) = n ∧ ∀ x ∈ r.Cells, 0 ≤ x ∧ x ≤ 5
def DRs (n : Int) (l : List Row) : Prop := UpR l ∧ ∀ r ∈ l, DRw n r
theorem DRs.put {n : Int} {l : List Row} (h : DRs n l) {r : Row} (hr : DRw n r) : DRs n (rowPutF l r) := ⟨qhb h.1 r, fun x hx => by
 rcases qjL hx with rfl | hx
 · exact hr
 exact h.2 x hx⟩
theorem DRs.sz {n : Int} {l : List Row} (hn : n ≤ 5) (h : DRs n l) {k : Nat} (hk : l.length ≤ k) : qWB l ≤ k * 6 := by
 have := qyS (s := qBC) (B := 5) (l := l) fun x hx => by
  have := (h.2 x hx).2.2.1
  unfold qBC qFD; omega
 unfold qWB; omega
theorem DRw.sz {n : Int} {r : Row} (hn : n ≤ 5) (h : DRw n r) : qBC r ≤ 5 := by
 have := h.2.2.1
 unfold qBC qFD; omega
theorem qLR (a : l1Cur) (n : Int) (hn : 0 ≤ n ∧ n ≤ 5) : ∀ (k i : Nat) (ci h : Int) (l : List Row), CI a.b ci → l.length ≤ i → i ≤ 8 → 9 ≤ i + k → DRs n l →
  ∃ ci' h' l', qGC.l0 a n k ci h l i = some (l1Cur.mk a.b ci' h', l') ∧ CI a.b ci' ∧ l'.length ≤ 8 ∧ DRs n l' := by
 intro k
 induction k with
 | zero => intro i ci h l hc hl h1 h2; omega
 | succ k ih =>
  intro i ci h l hc hl h1 h2 hd
  obtain ⟨c1, h1', x1, e1, k1, l1, u1, _⟩ := qrB h 9 hc
  have hx3 := u1 (by omega)
  rw [qGC.l0, e1, Option.bind_some]
  dsimp only
  by_cases c : (i : Int) < x1
  ·
   obtain ⟨c2, h2', r, e2, k2, r1, r2, r3, r4⟩ := qZM h1' n hn.2 k1
   have hr : DRw n r := ⟨r1, r2, by omega, r4⟩
   have := hd.sz hn.2 (k := 8) (by omega)
   have := hr.sz hn.2
   rw [decide_eq_true c, cond_true, e2, Option.bind_some]
   dsimp only
   rw [qsJ _ _ (by omega) (by omega), Option.bind_some, qu (by omega)]
   have := qiL l r
   exact ih (i + 1) c2 h2' _ k2 (by omega) (by omega) (by omega) (hd.put hr)
  rw [decide_eq_false c, cond_false]
  exact ⟨_, _, _, rfl, k1, by omega, hd⟩
theorem qMR {b : List Int} {i : Int} (h : Int) (n : Int) (hn : 0 ≤ n ∧ n ≤ 5) (hc : CI b i) : ∃ i' h' l, qGC.f (l1Cur.mk b i h) n = some (l1Cur.mk b i' h', l) ∧ CI b i' ∧ l.length ≤ 8 ∧ DRs n l := by
 unfold qGC.f
 exact qLR (l1Cur.mk b i h) n hn 1000 0 i h [] hc (by simp) (by omega) (by omega) ⟨List.Pairwise.nil, by simp⟩
theorem qeV {s : Schema} {t : Int} {l : List Row} (hs : schemaB s = true) (ht : 0 ≤ t ∧ t ≤ (s.Cols.length : Int) - 1) (hl : l.length ≤ 24) (hu : UpR l) (hr : ∀ r ∈ l, rowB s t r = true) : rowsB s t l = true := by
 unfold rowsB
 rw [hs, decide_eq_true ht, decide_eq_true hl]
 simp only [Bool.and_true]
 rw [qzD]
 intro i x hx
 rw [hr x (List.mem_of_getElem? hx), Bool.true_and, Bool.not_eq_true', ← Bool.not_eq_true]
 intro h
 simp only [Bool.and_eq_true, decide_eq_true_eq] at h
 obtain ⟨h0, h1⟩ := h
 have hlt := at_lt hx
 have := List.pairwise_iff_getElem.1 hu (i - 1) i (by omega) hlt (by omega)
 rw [(List.getElem?_eq_some_iff.1 hx).2] at this
 rw [List.getD_eq_getElem?_getD, List.getElem?_eq_getElem (by omega), Option.getD_some] at h1
 omega
theorem DRw.rowB {s : Schema} {t : Nat} {r : Row} (hs : schemaB s = true) (ht : t < s.Cols.length) (h : DRw (s.Cols.getD t 0) r) : rowB s t r = true := by
 unfold Go.Proofs.YtbhleignjmcdiaaGreatDoor.L.rowB
 rw [hs, decide_eq_true (by omega), decide_eq_true (by have := h.1; have := h.2.1; omega), decide_eq_true (by rw [Int.toNat_natCast]; exact h.2.2.1)]
 simp only [Bool.true_and]
 rw [List.all_eq_true]
 intro x hx
 exact decide_eq_true (by have := h.2.2.2 x hx; omega)
structure DSt (s : Store) : Prop where
 ok : storeB s = true
 v : 0 ≤ s.Version ∧ s.Version ≤ 4
 rows : ∀ t rows, s.Tables[t]? = some rows → rows.length ≤ 8 ∧ DRs (s.Schema.Cols.getD t 0) rows
theorem qCT {s : Schema} (h : schemaB s = true) : SB s := by
 unfold schemaB at h
 rw [Bool.and_eq_true, List.all_eq_true, decide_eq_true_eq] at h
 exact ⟨by omega, fun x hx => by have := of_decide_eq_true (h.1 x hx); omega⟩
theorem DSt.SB {s : Store} (h : DSt s) : SB s.Schema := qCT (qtE h.ok).2
theorem qHP (a : l1Cur) (s : Schema) (v : Int) (ts : List (List Row)) (ok : Bool) (hs : schemaB s = true) : ∀ (k i : Nat) (ci h : Int) (l : List (List Row)), CI a.b ci → l.length = s.Cols.length → i ≤ l.length → l.length < i + k → (∀ t rows, t < i → l[t]? = some rows → rows.length ≤ 8 ∧ DRs (s.Cols.getD t 0) rows) →
  ∃ ci' h' l', (∀ K, qoB.l0 a (⟨s, v, ts⟩, ok) K k ci h l i = K ci' h' l') ∧ CI a.b ci' ∧ l'.length = s.Cols.length ∧ ∀ t rows, l'[t]? = some rows → rows.length ≤ 8 ∧ DRs (s.Cols.getD t 0) rows := by
 intro k
 induction k with
 | zero => intro i ci h l hc hl h1 h2; omega
 | succ k ih =>
  intro i ci h l hc hl h1 h2 hd
  have h3 := qfL hs
  by_cases c : i < l.length
  ·
   have hi : i < s.Cols.length := by omega
   have hcol : 1 ≤ s.Cols[i] ∧ s.Cols[i] ≤ 4 := by
    unfold schemaB at hs
    rw [Bool.and_eq_true, List.all_eq_true] at hs
    exact of_decide_eq_true (hs.1 _ (List.getElem_mem hi))
   have hg : s.Cols.getD i 0 = s.Cols[i] := by rw [List.getD_eq_getElem?_getD, List.getElem?_eq_getElem hi]; rfl
   obtain ⟨c1, h1', rows, e1, k1, r1, r2⟩ := qMR h s.Cols[i] (by omega) hc
   obtain ⟨ci', h', l', q1, q2, q3, q4⟩ := ih (i + 1) c1 h1' (l.set i rows) k1 (by rw [List.length_set]; exact hl) (by rw [List.length_set]; omega) (by rw [List.length_set]; omega) (fun t q ht hq => by
    by_cases e : t = i
    ·
     subst e
     rw [List.getElem?_set_self (by omega)] at hq
     cases hq
     rw [hg]; exact ⟨r1, r2⟩
    rw [List.getElem?_set_ne (fun e' => e e'.symm)] at hq
    exact hd t q (by omega) hq)
   refine ⟨ci', h', l', fun K => ?_, q2, q3, q4⟩
   rw [qoB.l0, qG, decide_eq_true (by omega), cond_true]
   dsimp only
   rw [qv, List.getElem?_eq_getElem hi, Option.bind_some, e1, Option.bind_some, qv, List.getElem?_eq_getElem c, Option.bind_some, Option.bind_some, quQ, qu (by omega)]
   exact q1 K
  refine ⟨ci, h, l, fun K => ?_, hc, hl, fun t rows hq => hd t rows (by have := at_lt hq; omega) hq⟩
  rw [qoB.l0, qG, decide_eq_false (by omega), cond_false]
theorem qIP {b : List Int} {i : Int} (h : Int) (hc : CI b i) : ∃ i' h' s, qoB.f (l1Cur.mk b i h) = some (l1Cur.mk b i' h', s) ∧ CI b i' ∧ DSt s := by
 unfold qoB.f
 obtain ⟨c1, h1, s, e1, k1, l1, l2, l3⟩ := qCO h hc
 have hs : schemaB s = true := by
  unfold schemaB
  rw [decide_eq_true (by omega), Bool.and_true, List.all_eq_true]
  exact fun x hx => decide_eq_true (l3 x hx)
 rw [e1, Option.bind_some]
 dsimp only
 rw [qiM s (by unfold qJD IntS_b; omega) (by unfold qHE qFD; omega), if_pos hs, Option.bind_some, qTC]
 dsimp only
 obtain ⟨c2, h2, l, e2, k2, m1, m2⟩ := qHP (l1Cur.mk b i h) s 0 (List.replicate s.Cols.length []) true hs (((lenI (List.replicate s.Cols.length ([] : List Row))) - 0).toNat + 1) 0 c1 h1 (List.replicate s.Cols.length []) k1 (by simp) (by omega) (by rw [qG]; simp) (fun t rows ht => by omega)
 rw [show ((0 : Nat) : Int) = 0 from rfl] at e2
 rw [e2]
 obtain ⟨c3, h3, x3, e3, k3, l3', u3, _⟩ := qrB h2 5 k2
 have := u3 (by omega)
 dsimp only at e3 ⊢
 rw [e3, Option.bind_some]
 refine ⟨_, _, _, rfl, k3, ?_, ⟨l3', by dsimp only; omega⟩, m2⟩
 unfold storeB
 dsimp only
 rw [hs, decide_eq_true (by omega), decide_eq_true m1]
 simp only [Bool.true_and]
 rw [qzD]
 intro t rows ht
 obtain ⟨p1, p2⟩ := m2 t rows ht
 have hlt := at_lt ht
 exact qeV hs (by omega) (by omega) p2.1 fun r hr => (p2.2 r hr).rowB hs (by omega)
theorem quK {b : List Int} {i : Int} (h : Int) (n : Int) (hc : CI b i) : ∃ i' h' x, qfC.f (l1Cur.mk b i h) n = some (l1Cur.mk b i' h', x) ∧ CI b i' := by
 unfold qfC.f
 obtain ⟨i1, h1, x1, e1, k1, _⟩ := qrB h n hc
 rw [e1, Option.bind_some]
 exact ⟨_, _, _, rfl, k1⟩
theorem qQF (x y : Int) : quC.f x y = some (max x y) := by
 unfold quC.f
 by_cases h : y < x
 · rw [decide_eq_true h, cond_true, show max x y = x by omega]
 rw [decide_eq_false h, cond_false, show max x y = y by omega]
theorem qaM {b : List Int} {i : Int} (h : Int) {l : List Int} (hl : l ≠ []) (hc : CI b i) : ∃ i' h' x, qeC.f (l1Cur.mk b i h) l = some (l1Cur.mk b i' h', x) ∧ CI b i' ∧ x ∈ l := by
 unfold qeC.f
 obtain ⟨i1, h1, x1, e1, k1, l1, u1, _⟩ := qrB h (lenI l) hc
 have hp : 0 < l.length := by cases l with | nil => exact absurd rfl hl | cons x l => simp
 rw [qG] at u1
 have hx := u1 (by omega)
 have hlt : x1.toNat < l.length := by omega
 rw [e1, Option.bind_some, qyE l1, List.getElem?_eq_getElem hlt, Option.bind_some]
 exact ⟨_, _, _, rfl, k1, List.getElem_mem hlt⟩
def QB (q : Query) : Prop := q.Where.length ≤ 4 ∧ q.Show.length ≤ 6 ∧ ∀ x ∈ q.Show, 0 ≤ x ∧ x ≤ 5
def Qr3 (q : Query) : Prop := q.Where.length ≤ 3 ∧ q.Show.length ≤ 5 ∧ ∀ x ∈ q.Show, 0 ≤ x ∧ x ≤ 5
theorem Qr3.qb {q : Query} (h : Qr3 q) : QB q := ⟨by have := h.1; omega, by have := h.2.1; omega, h.2.2⟩
theorem QB.b {q : Query} (h : QB q) : qfG q := by
 have h1 := h.1
 have h2 := h.2.1
 exact ⟨by unfold qeN; omega, by unfold IntS_b; omega⟩
def QNo (s : Schema) (t : Int) (w : List Cond) (o f : Int) (d : Bool) (l : List Int) : Prop := (0 ≤ t ∧ t ≤ (s.Cols.length : Int) - 1) ∧ (∀ c ∈ w, condB (s.Cols.getD t.toNat 0) c = true) ∧ showB (s.Cols.getD t.toNat 0) l = true ∧ w.length ≤ 3 ∧ (0 ≤ o ∧ o ≤ s.Cols.getD t.toNat 0) ∧ (d = true → 0 < o) ∧ (0 ≤ f ∧ f ≤ 24)
theorem QNo.query {s : Schema} {t : Int} {w : List Cond} {o f : Int} {d : Bool} {l : List Int} (hs : schemaB s = true) (h : QNo s t w o f d l) {k : Bool} {kt kc : Int} (hk : kidsB s ⟨t, w, o, d, f, l, k, kt, kc⟩ = true) : queryB s ⟨t, w, o, d, f, l, k, kt, kc⟩ = true := by
 obtain ⟨h1, h2, h3, h4, h5, h6, h7⟩ := h
 unfold queryB
 dsimp only
 rw [hs, hk, h3, decide_eq_true h1, decide_eq_true h4, decide_eq_true h5, decide_eq_true h7, List.all_eq_true.2 h2]
 cases d with
 | false => rfl
 | true => rw [decide_eq_true (h6 rfl)]; rfl
theorem qfc {y : Int} (hy : y ≤ 5) {l : List Int} (hp : l.Pairwise (· < ·)) (h : ∀ x ∈ l, 0 ≤ x ∧ x < y) : showB y l = true := by
 unfold showB
 rw [qzD]
 intro i x hx
 have hi := at_lt hx
 have h1 := h x (List.mem_of_getElem? hx)
 rw [qJB (by omega), decide_eq_true (by omega), Bool.true_and]
 by_cases c : 0 < i
 ·
  have := List.pairwise_iff_getElem.1 hp (i - 1) i (by omega) hi (by omega)
  rw [(List.getElem?_eq_some_iff.1 hx).2] at this
  rw [List.getD_eq_getElem?_getD, List.getElem?_eq_getElem (by omega), Option.getD_some, decide_eq_false (p := x ≤ _) (by omega)]
  simp
 rw [decide_eq_false c]; rfl
theorem qJP (a : l1Cur) (y : Int) (hy : 1 ≤ y ∧ y ≤ 5) : ∀ (k i : Nat) (ci h : Int) (l : List Cond), CI a.b ci → l.length = i → i ≤ 2 → 3 ≤ i + k → (∀ c ∈ l, condB y c = true) →
  ∃ ci' h' l', (∀ K, qj.l0 a y K k ci h l i = K ci' h' l') ∧ CI a.b ci' ∧ l'.length ≤ 3 ∧ ∀ c ∈ l', condB y c = true := by
 intro k
 induction k with
 | zero => intro i ci h l hc hl h1 h2 hx; omega
 | succ k ih =>
  intro i ci h l hc hl h1 h2 hx
  obtain ⟨c1, h1', x1, e1, k1, l1, u1, _⟩ := qrB h 3 hc
  have hx3 := u1 (by omega)
  by_cases c : (i : Int) < x1
  ·
   obtain ⟨c2, h2', x2, e2, k2, l2, u2, _⟩ := qrB h1' y k1
   obtain ⟨c3, h3', x3, e3, k3, l3, u3, _⟩ := qrB h2' 4 k2
   obtain ⟨c4, h4', x4, e4, k4, l4, u4, _⟩ := qrB h3' 6 k3
   obtain ⟨ci', h', l', q1, q2, q3⟩ := ih (i + 1) c4 h4' (l ++ [Cond.mk x2 (w64 (1 + x3)) x4]) k4 (by simp [hl]) (by omega) (by omega) (qcJ hx (by
    have := u2 (by omega)
    have := u3 (by omega)
    have := u4 (by omega)
    unfold condB
    dsimp only
    rw [qJB (x := 1 + x3) (by omega), qJB (x := y - 1) (by omega), decide_eq_true (by omega), decide_eq_true (by omega), decide_eq_true (by omega)]
    rfl))
   refine ⟨ci', h', l', fun K => ?_, q2, q3⟩
   rw [qj.l0, e1, Option.bind_some]
   dsimp only
   rw [decide_eq_true c, cond_true, e2, Option.bind_some]
   dsimp only
   rw [e3, Option.bind_some]
   dsimp only
   rw [e4, Option.bind_some]
   dsimp only
   rw [Option.bind_some, qwC (by simp only [List.length_cons, List.length_nil]; omega), Option.bind_some, qu (by omega)]
   exact q1 K
  refine ⟨c1, h1', l, fun K => ?_, k1, by omega, hx⟩
  rw [qj.l0, e1, Option.bind_some]
  dsimp only
  rw [decide_eq_false c, cond_false]
theorem qKP (a : l1Cur) (y : Int) (hy : y ≤ 5) (d : Bool) : ∀ (k i : Nat) (ci h : Int) (l : List Int), CI a.b ci → l.length ≤ i → (i : Int) ≤ y ∨ i = 0 → 0 < k → y < i + k → (l.Pairwise (· < ·) ∧ ∀ x ∈ l, 0 ≤ x ∧ x < (i : Int)) → 1 ≤ y →
  ∃ ci' h' l', (∀ K, qj.l1 a y K k ci h d l i = K ci' h' d l') ∧ CI a.b ci' ∧ l'.length ≤ 5 ∧ l'.Pairwise (· < ·) ∧ ∀ x ∈ l', 0 ≤ x ∧ x < y := by
 intro k
 induction k with
 | zero => intro i ci h l hc hl h0 h1 h2 hx hy1; omega
 | succ k ih =>
  intro i ci h l hc hl h0 h1 h2 hx hy1
  by_cases c : (i : Int) < y
  ·
   obtain ⟨c2, h2', x2, e2, k2⟩ := quK h 2 hc
   cases x2 with
   | true =>
    obtain ⟨ci', h', l', q1, q2, q3⟩ := ih (i + 1) c2 h2' (l ++ [(i : Int)]) k2 (by simp only [List.length_append, List.length_cons, List.length_nil]; omega) (by omega) (by omega) (by omega) ⟨List.pairwise_append.2 ⟨hx.1, List.pairwise_singleton .., fun a ha b hb => by rw [List.mem_singleton.1 hb]; exact (hx.2 a ha).2⟩, qcJ (fun x h => by have := hx.2 x h; omega) (by omega)⟩ hy1
    refine ⟨ci', h', l', fun K => ?_, q2, q3⟩
    rw [qj.l1, decide_eq_true c, cond_true, e2, Option.bind_some, qu (by omega)]
    dsimp only
    rw [cond_true, Option.bind_some, qwC (by simp only [List.length_cons, List.length_nil]; omega), Option.bind_some]
    exact q1 K
   | false =>
    obtain ⟨ci', h', l', q1, q2, q3⟩ := ih (i + 1) c2 h2' l k2 (by omega) (by omega) (by omega) (by omega) ⟨hx.1, fun x h => by have := hx.2 x h; omega⟩ hy1
    refine ⟨ci', h', l', fun K => ?_, q2, q3⟩
    rw [qj.l1, decide_eq_true c, cond_true, e2, Option.bind_some, qu (by omega)]
    dsimp only
    rw [cond_false]
    exact q1 K
  refine ⟨ci, h, l, fun K => ?_, hc, by omega, hx.1, fun x h => by have := hx.2 x h; omega⟩
  rw [qj.l1, decide_eq_false c, cond_false]
theorem qDO (a : l1Cur) (s : Schema) (q1 : Int) (w : List Cond) (o f : Int) (hs : SB s) (hw : w.length ≤ 3) : ∀ (ci h : Int) (d : Bool) (l : List Int), CI a.b ci → l.length ≤ 5 → (∀ x ∈ l, 0 ≤ x ∧ x ≤ 5) → (schemaB s = true → QNo s q1 w o f d l) →
  ∃ ci' h' q, ((qfC.f (l1Cur.mk a.b ci h) 2).bind fun r130 =>
   bif r130.2 then (
   (quC.f (lenI s.Cols) 1).bind fun r132 =>
   (qa.f (l1Cur.mk a.b r130.1.i r130.1.h) r132).bind fun r133 =>
   bif (decide (r133.2 < (lenI s.Cols))) then (
   (getO s.Cols r133.2).bind fun x135 =>
   (quC.f x135 1).bind fun r136 =>
   (qa.f (l1Cur.mk a.b r133.1.i r133.1.h) r136).bind fun r137 =>
   some ((l1Cur.mk a.b r137.1.i r137.1.h), (Query.mk q1 w o d f l true r133.2 r137.2)))
   else (
   some ((l1Cur.mk a.b r133.1.i r133.1.h), (Query.mk q1 w o d f l true r133.2 0))))
   else (
   some ((l1Cur.mk a.b r130.1.i r130.1.h), (Query.mk q1 w o d f l false 0 0)))) = some (l1Cur.mk a.b ci' h', q) ∧ CI a.b ci' ∧ Qr3 q ∧ (schemaB s = true → queryB s q = true) := by
 intro ci h d l hc hl hx hN
 obtain ⟨c2, h2, x2, e2, k2⟩ := quK h 2 hc
 rw [e2, Option.bind_some]
 dsimp only
 cases x2 with
 | false => rw [cond_false]; exact ⟨_, _, _, rfl, k2, by dsimp only [Qr3]; exact ⟨by omega, by omega, hx⟩, fun h => (hN h).query h (by unfold kidsB; simp)⟩
 | true =>
  rw [cond_true, qQF, Option.bind_some]
  obtain ⟨c3, h3, x3, e3, k3, l3, u3, _⟩ := qrB h2 (max (lenI s.Cols) 1) k2
  rw [e3, Option.bind_some]
  dsimp only
  by_cases c : x3 < lenI s.Cols
  ·
   rw [decide_eq_true c, cond_true, qyE l3, List.getElem?_eq_getElem (by rw [qG] at c; omega), Option.bind_some, qQF, Option.bind_some]
   have hlt : x3.toNat < s.Cols.length := by rw [qG] at c; omega
   obtain ⟨c4, h4, x4, e4, k4, l4, u4, _⟩ := qrB h3 (max (s.Cols[x3.toNat]'(by rw [qG] at c; omega)) 1) k3
   rw [e4, Option.bind_some]
   refine ⟨_, _, _, rfl, k4, by dsimp only [Qr3]; exact ⟨by omega, by omega, hx⟩, fun h => (hN h).query h ?_⟩
   rw [qG] at c
   have hc1 : 1 ≤ s.Cols[x3.toNat] ∧ s.Cols[x3.toNat] ≤ 4 := by
    unfold schemaB at h
    rw [Bool.and_eq_true, List.all_eq_true] at h
    exact of_decide_eq_true (h.1 _ (List.getElem_mem hlt))
   have := u4 (by omega)
   unfold kidsB
   rw [if_pos rfl, Bool.and_eq_true, decide_eq_true_eq, decide_eq_true_eq]
   dsimp only
   rw [List.getD_eq_getElem?_getD, List.getElem?_eq_getElem hlt, Option.getD_some, qJB (by omega)]
   omega
  rw [decide_eq_false c, cond_false]
  refine ⟨_, _, _, rfl, k3, by dsimp only [Qr3]; exact ⟨by omega, by omega, hx⟩, fun h => ?_⟩
  rw [qG] at c u3
  unfold schemaB at h
  rw [Bool.and_eq_true, decide_eq_true_eq] at h
  have := u3 (by omega)
  omega
theorem qvK (a : l1Cur) (s : Schema) (hs : SB s) (q1 : Int) (c0 h0 : Int) (hc : CI a.b c0) (y3 : Int) (hy : 1 ≤ y3 ∧ y3 ≤ 5) (hcol : schemaB s = true → s.Cols.getD q1.toNat 0 = y3 ∧ 0 ≤ q1 ∧ q1 ≤ (s.Cols.length : Int) - 1) : ∃ i' h' q, (joinK (fun (y8 : Int) (y9 : Int) (y10 : List Cond) =>
 (qa.f (l1Cur.mk a.b y8 y9) (w64 (y3 + 1))).bind fun r64 =>
 (gd (decide (0 < r64.2)) (qfC.f (l1Cur.mk a.b r64.1.i r64.1.h) 2)).bind fun r65 =>
 (some [0, 0, 1, 2, 3, 5]).bind fun l70 =>
 (qeC.f (l1Cur.mk a.b (ci3 (decide (0 < r64.2)) r65.1.i r64.1.i) (ci3 (decide (0 < r64.2)) r65.1.h r64.1.h)) l70).bind fun r71 =>
 joinK (fun (y72 : Int) (y73 : Int) (y74 : Bool) (y75 : List Int) =>
 (qfC.f (l1Cur.mk a.b y72 y73) 2).bind fun r130 =>
 bif r130.2 then (
 (quC.f (lenI s.Cols) 1).bind fun r132 =>
 (qa.f (l1Cur.mk a.b r130.1.i r130.1.h) r132).bind fun r133 =>
 bif (decide (r133.2 < (lenI s.Cols))) then (
 (getO s.Cols r133.2).bind fun x135 =>
 (quC.f x135 1).bind fun r136 =>
 (qa.f (l1Cur.mk a.b r133.1.i r133.1.h) r136).bind fun r137 =>
 some ((l1Cur.mk a.b r137.1.i r137.1.h), (Query.mk q1 y10 r64.2 y74 r71.2 y75 true r133.2 r137.2)))
 else (
 some ((l1Cur.mk a.b r133.1.i r133.1.h), (Query.mk q1 y10 r64.2 y74 r71.2 y75 true r133.2 0))))
 else (
 some ((l1Cur.mk a.b r130.1.i r130.1.h), (Query.mk q1 y10 r64.2 y74 r71.2 y75 false 0 0)))) (fun K76 =>
 qj.l1 a y3 K76 ((y3 - 0).toNat + 1) r71.1.i r71.1.h (bo3 (decide (0 < r64.2)) r65.2 false) [] 0)) (fun K11 =>
 qj.l0 a y3 K11 1000 c0 h0 [] 0)) = some (l1Cur.mk a.b i' h', q) ∧ CI a.b i' ∧ Qr3 q ∧ (schemaB s = true → queryB s q = true) := by
 rw [qTC]
 obtain ⟨c1, h1, w, e1, k1, w1, w2⟩ := qJP a y3 hy 1000 0 c0 h0 [] hc rfl (by omega) (by omega) (by simp)
 rw [show ((0 : Nat) : Int) = 0 from rfl] at e1
 rw [e1]
 obtain ⟨c2, h2, x2, e2, k2, l2, u2, _⟩ := qrB h1 (w64 (y3 + 1)) k1
 rw [qJB (x := y3 + 1) (by omega)] at u2
 have u2 := u2 (by omega)
 rw [e2, Option.bind_some]
 dsimp only
 have hmid : ∃ c3 h3 d3, (gd (decide (0 < x2)) (qfC.f (l1Cur.mk a.b c2 h2) 2)).bind (fun r65 => some (ci3 (decide (0 < x2)) r65.1.i c2, ci3 (decide (0 < x2)) r65.1.h h2, bo3 (decide (0 < x2)) r65.2 false)) = some (c3, h3, d3) ∧ CI a.b c3 ∧ (d3 = true → 0 < x2) := by
  by_cases c : 0 < x2
  ·
   obtain ⟨c3, h3, x3, e3, k3⟩ := quK h2 2 k2
   rw [decide_eq_true c, qqC, e3, Option.bind_some]
   exact ⟨_, _, _, rfl, k3, fun _ => c⟩
  rw [decide_eq_false c, qhF, Option.bind_some]
  exact ⟨_, _, _, rfl, k2, fun h => by cases h⟩
 obtain ⟨c3, h3, d3, e3, k3, m3⟩ := hmid
 have hm2 : ∀ {β : Type} (G : Int → Int → Bool → Option β), (gd (decide (0 < x2)) (qfC.f (l1Cur.mk a.b c2 h2) 2)).bind (fun r65 => G (ci3 (decide (0 < x2)) r65.1.i c2) (ci3 (decide (0 < x2)) r65.1.h h2) (bo3 (decide (0 < x2)) r65.2 false)) = G c3 h3 d3 := fun G => by
  have := congrArg (fun o => o.bind fun t => G t.1 t.2.1 t.2.2) e3
  simpa only [Option.bind_assoc, Option.bind_some] using this
 obtain ⟨c4, h4, x4, e4, k4, m4⟩ := qaM (l := [0, 0, 1, 2, 3, 5]) h3 (by simp) k3
 simp only [Option.bind_some]
 refine (?_ : ∃ i' h' q, _ = some (l1Cur.mk a.b i' h', q) ∧ CI a.b i' ∧ Qr3 q ∧ (schemaB s = true → queryB s q = true))
 have hm3 := hm2 (fun ci hh dd => (qeC.f (l1Cur.mk a.b ci hh) [0, 0, 1, 2, 3, 5]).bind fun r71 =>
  joinK (fun (y72 : Int) (y73 : Int) (y74 : Bool) (y75 : List Int) =>
  (qfC.f (l1Cur.mk a.b y72 y73) 2).bind fun r130 =>
  bif r130.2 then (
  (quC.f (lenI s.Cols) 1).bind fun r132 =>
  (qa.f (l1Cur.mk a.b r130.1.i r130.1.h) r132).bind fun r133 =>
  bif (decide (r133.2 < (lenI s.Cols))) then (
  (getO s.Cols r133.2).bind fun x135 =>
  (quC.f x135 1).bind fun r136 =>
  (qa.f (l1Cur.mk a.b r133.1.i r133.1.h) r136).bind fun r137 =>
  some ((l1Cur.mk a.b r137.1.i r137.1.h), (Query.mk q1 w x2 y74 r71.2 y75 true r133.2 r137.2)))
  else (
  some ((l1Cur.mk a.b r133.1.i r133.1.h), (Query.mk q1 w x2 y74 r71.2 y75 true r133.2 0))))
  else (
  some ((l1Cur.mk a.b r130.1.i r130.1.h), (Query.mk q1 w x2 y74 r71.2 y75 false 0 0)))) (fun K76 =>
  qj.l1 a y3 K76 ((y3 - 0).toNat + 1) r71.1.i r71.1.h dd [] 0))
 rw [hm3, e4, Option.bind_some, qTC]
 obtain ⟨c5, h5, sh, e5, k5, l5⟩ := qKP a y3 hy.2 d3 ((y3 - 0).toNat + 1) 0 c4 h4 [] k4 (by simp) (by omega) (by omega) (by omega) (by simp) hy.1
 rw [show ((0 : Nat) : Int) = 0 from rfl] at e5
 dsimp only at e5 ⊢
 rw [e5]
 exact qDO a s q1 w x2 x4 hs w1 c5 h5 d3 sh k5 l5.1 (fun x hx => by have := l5.2.2 x hx; omega) fun h => by
  obtain ⟨g1, g2⟩ := hcol h
  simp only [List.mem_cons, List.not_mem_nil, or_false] at m4
  exact ⟨g2, by rw [g1]; exact w2, by rw [g1]; exact qfc hy.2 l5.2.1 l5.2.2, w1, by rw [g1]; omega, m3, by omega⟩
theorem qLP {b : List Int} {i : Int} (h : Int) (s : Schema) (hs : SB s) (hc : CI b i) : ∃ i' h' q, qj.f (l1Cur.mk b i h) s = some (l1Cur.mk b i' h', q) ∧ CI b i' ∧ Qr3 q ∧ (schemaB s = true → queryB s q = true) := by
 unfold qj.f
 rw [qSC (qQF _ _)]
 obtain ⟨c1, h1, x1, e1, k1, l1, u1, _⟩ := qrB h (max (lenI s.Cols) 1) hc
 rw [e1, Option.bind_some]
 dsimp only
 rw [qTC]
 by_cases c : x1 < lenI s.Cols
 ·
  have hlt : x1.toNat < s.Cols.length := by rw [qG] at c; omega
  rw [decide_eq_true c, cond_true, qyE l1, List.getElem?_eq_getElem hlt, Option.bind_some, qSC (qQF _ _)]
  have := hs.2 _ (List.getElem_mem hlt)
  have k := qvK (l1Cur.mk b i h) s hs x1 c1 h1 k1 (max s.Cols[x1.toNat] 1) (by omega) (fun h => by
   have hc1 : 1 ≤ s.Cols[x1.toNat] ∧ s.Cols[x1.toNat] ≤ 4 := by
    unfold schemaB at h
    rw [Bool.and_eq_true, List.all_eq_true] at h
    exact of_decide_eq_true (h.1 _ (List.getElem_mem hlt))
   rw [List.getD_eq_getElem?_getD, List.getElem?_eq_getElem hlt, Option.getD_some]
   omega)
  exact k
 rw [decide_eq_false c, cond_false]
 exact qvK (l1Cur.mk b i h) s hs x1 c1 h1 k1 1 (by omega) (fun h => by
  rw [qG] at c u1
  unfold schemaB at h
  rw [Bool.and_eq_true, decide_eq_true_eq] at h
  have := u1 (by omega)
  omega)
def qRF (x : Mut) : Int := qBC x.Row
def Mut_b (x : Mut) : Prop := Row_b x.Row
theorem qwK (x : Mut) : 0 ≤ qRF x := by unfold qRF; exact by have := qgC x.Row;  omega
def Mut_r (x : Mut) : Prop := (-9223372036854775808 ≤ x.Kind ∧ x.Kind ≤ 9223372036854775807) ∧ (-9223372036854775808 ≤ x.Table ∧ x.Table ≤ 9223372036854775807) ∧ Row_r x.Row
def MB (m : Mut) : Prop := m.Row.Cells.length ≤ 5
theorem MB.b {m : Mut} (h : MB m) : Mut_b m ∧ qRF m ≤ 5 := by
 unfold MB at h
 exact ⟨by unfold Mut_b Row_b IntS_b; omega, by unfold qRF qBC qFD; omega⟩
theorem qxK (b : List Int) (t y16 y17 y18 y15 : Int) (l : List Int) (hl : l.length ≤ 5) (hc : CI b y15) : ∃ i' h' m, ((qa.f (l1Cur.mk b y15 y16) 25).bind fun r43 =>
 bif (decide (r43.2 = 0)) then (
 (qa.f (l1Cur.mk b r43.1.i r43.1.h) 5).bind fun r45 =>
 some ((l1Cur.mk b r45.1.i r45.1.h), (Mut.mk r45.2 t (Row.mk y18 l))))
 else (
 bif (decide (r43.2 = 1)) then (
 (qa.f (l1Cur.mk b r43.1.i r43.1.h) 5).bind fun r47 =>
 some ((l1Cur.mk b r47.1.i r47.1.h), (Mut.mk y17 (w64 (r47.2 - 1)) (Row.mk y18 l))))
 else (
 bif (decide (r43.2 = 2)) then (
 (some [0, 999, 1000]).bind fun l49 =>
 (qeC.f (l1Cur.mk b r43.1.i r43.1.h) l49).bind fun r50 =>
 some ((l1Cur.mk b r50.1.i r50.1.h), (Mut.mk y17 t (Row.mk r50.2 l))))
 else (
 some ((l1Cur.mk b r43.1.i r43.1.h), (Mut.mk y17 t (Row.mk y18 l))))))) = some (l1Cur.mk b i' h', m) ∧ CI b i' ∧ MB m := by
 obtain ⟨c1, h1, x1, e1, k1, _⟩ := qrB y16 25 hc
 rw [e1, Option.bind_some]
 dsimp only
 by_cases q0 : x1 = 0
 ·
  obtain ⟨c2, h2, x2, e2, k2, _⟩ := qrB h1 5 k1
  rw [decide_eq_true q0, cond_true, e2, Option.bind_some]
  exact ⟨_, _, _, rfl, k2, hl⟩
 rw [decide_eq_false q0, cond_false]
 by_cases q1 : x1 = 1
 ·
  obtain ⟨c2, h2, x2, e2, k2, _⟩ := qrB h1 5 k1
  rw [decide_eq_true q1, cond_true, e2, Option.bind_some]
  exact ⟨_, _, _, rfl, k2, hl⟩
 rw [decide_eq_false q1, cond_false]
 by_cases q2 : x1 = 2
 ·
  obtain ⟨c2, h2, x2, e2, k2, _⟩ := qaM (l := [0, 999, 1000]) h1 (by simp) k1
  rw [decide_eq_true q2, cond_true, Option.bind_some, e2, Option.bind_some]
  exact ⟨_, _, _, rfl, k2, hl⟩
 rw [decide_eq_false q2, cond_false]
 exact ⟨_, _, _, rfl, k1, hl⟩
theorem qDT {b : List Int} {i : Int} (h : Int) (s : Store) (hs : SB s.Schema) (hc : CI b i) : ∃ i' h' m, qrE.f (l1Cur.mk b i h) s = some (l1Cur.mk b i' h', m) ∧ CI b i' ∧ MB m := by
 unfold qrE.f
 rw [qSC (qQF _ _)]
 obtain ⟨c1, h1, x1, e1, k1, l1, _⟩ := qrB h (max (lenI s.Tables) 1) hc
 rw [qSC e1]
 dsimp only
 by_cases q : bo3 (decide ((lenI s.Tables) ≤ x1)) true (decide ((lenI s.Schema.Cols) ≤ x1)) = true
 ·
  rw [q, cond_true]
  exact ⟨_, _, _, rfl, k1, by simp [MB]⟩
 rw [Bool.not_eq_true] at q
 rw [q, cond_false]
 rw [qIY, Bool.or_eq_false_iff, decide_eq_false_iff_not, decide_eq_false_iff_not, qG, qG] at q
 have ht : x1.toNat < s.Tables.length := by omega
 have hcl : x1.toNat < s.Schema.Cols.length := by omega
 have hcol := hs.2 _ (List.getElem_mem hcl)
 obtain ⟨c2, h2, x2, e2, k2, l2, u2, _⟩ := qrB h1 3 k1
 obtain ⟨c3, h3, r, e3, k3, r1, r2, r3, r4⟩ := qZM h2 s.Schema.Cols[x1.toNat] (by omega) k2
 have hrl : r.Cells.length ≤ 5 := by omega
 rw [qSC e2]
 dsimp only
 rw [qyE l1, List.getElem?_eq_getElem hcl, Option.bind_some, qSC e3]
 dsimp only
 rw [qTC]
 have key : ∀ (y15 y16 y17 y18 : Int), CI b y15 → ∃ i' h' m, (joinK (fun (y40 : List Int) =>
  (qa.f (l1Cur.mk b y15 y16) 25).bind fun r43 =>
  bif (decide (r43.2 = 0)) then (
  (qa.f (l1Cur.mk b r43.1.i r43.1.h) 5).bind fun r45 =>
  some ((l1Cur.mk b r45.1.i r45.1.h), (Mut.mk r45.2 x1 (Row.mk y18 y40))))
  else (
  bif (decide (r43.2 = 1)) then (
  (qa.f (l1Cur.mk b r43.1.i r43.1.h) 5).bind fun r47 =>
  some ((l1Cur.mk b r47.1.i r47.1.h), (Mut.mk y17 (w64 (r47.2 - 1)) (Row.mk y18 y40))))
  else (
  bif (decide (r43.2 = 2)) then (
  (some [0, 999, 1000]).bind fun l49 =>
  (qeC.f (l1Cur.mk b r43.1.i r43.1.h) l49).bind fun r50 =>
  some ((l1Cur.mk b r50.1.i r50.1.h), (Mut.mk y17 x1 (Row.mk r50.2 y40))))
  else (
  some ((l1Cur.mk b r43.1.i r43.1.h), (Mut.mk y17 x1 (Row.mk y18 y40))))))) (fun K41 =>
  bif (decide (y17 = 3)) then (
  K41 [])
  else (
  K41 r.Cells))) = some (l1Cur.mk b i' h', m) ∧ CI b i' ∧ MB m := by
  intro y15 y16 y17 y18 hy
  rw [qTC]
  cases decide (y17 = 3) with
  | true => exact qxK b x1 y16 y17 y18 y15 [] (by simp) hy
  | false => exact qxK b x1 y16 y17 y18 y15 r.Cells hrl hy
 generalize hd : decide ((w64 (1 + x2)) ≠ 1) = d
 have hg : ∃ x20, gd d (getO s.Tables x1) = some x20 ∧ (d = true → s.Tables[x1.toNat] = x20) := by
  cases d with
  | true => rw [qqC, qyE l1, List.getElem?_eq_getElem ht]; exact ⟨_, rfl, fun _ => rfl⟩
  | false => exact ⟨_, qhF _, fun h => by cases h⟩
 obtain ⟨x20, e20, hx20⟩ := hg
 rw [qSC e20]
 generalize hd2 : bo3 d (decide (0 < lenI x20)) false = d2
 cases d2 with
 | false =>
  rw [qhF, Option.bind_some]
  rw [bo3_F, cond_false]
  exact key _ _ _ _ k3
 | true =>
  rw [qWF, Bool.and_eq_true, decide_eq_true_eq] at hd2
  obtain ⟨c4, h4, x4, e4, k4⟩ := quK h3 9 k3
  rw [qqC, qSC e4]
  dsimp only
  cases x4 with
  | true => exact key _ _ _ _ k4
  | false =>
   have e := hx20 hd2.1
   rw [show bo3 true (bo3 false false true) false = true from rfl, cond_true, qyE l1, List.getElem?_eq_getElem ht, Option.bind_some, e]
   obtain ⟨c5, h5, x5, e5, k5, l5, u5, _⟩ := qrB h4 (lenI x20) k4
   have := u5 hd2.2
   have ct : ∀ x y : Int, ci3 true x y = x := fun _ _ => rfl
   simp only [ct]
   rw [qSC e5]
   dsimp only
   rw [qyE l5, List.getElem?_eq_getElem (by rw [qG] at this; omega), Option.bind_some]
   exact key _ _ _ _ k5
theorem qyK (s : Schema) (t : Int) (r : Row) (hs : qJD s) (hr : Row_b r) : qRD.f s t r = some (rowB s t r) := by
 have hl : s.Cols.length ≤ 9223372036854775807 := hs
 have hrl : r.Cells.length ≤ 9223372036854775807 := hr
 unfold qRD.f rowB
 rw [qJE _ hs, Option.bind_some, qG, qJB (by omega), qVC, qVC]
 cases schemaB s with
 | false => rfl
 | true =>
  by_cases d : 0 ≤ t ∧ t ≤ (s.Cols.length : Int) - 1
  case neg => rw [decide_eq_false d]; rfl
  rw [decide_eq_true d, qJG d]
  by_cases d2 : 1 ≤ r.Id ∧ r.Id ≤ 999
  case neg => rw [decide_eq_false d2]; rfl
  rw [decide_eq_true d2]
  simp only [bo3_F, bo3_T, qqC, Option.bind_some, Bool.true_and]
  by_cases d3 : (r.Cells.length : Int) = s.Cols.getD t.toNat 0
  case neg => rw [show decide (lenI r.Cells ≠ s.Cols.getD t.toNat 0) = true from decide_eq_true d3, decide_eq_false d3]; rfl
  rw [show decide (lenI r.Cells ≠ s.Cols.getD t.toNat 0) = false from decide_eq_false (fun h => h d3), decide_eq_true d3, cond_false, Bool.true_and]
  refine (qYD (f := qRD.l0 r) (l := r.Cells) (fun _ n => decide (-1000000000 ≤ n ∧ n ≤ 1000000000)) (some false) (some true) (fun k i x hx => ?_) (fun k i hi => ?_) _ 0 (by omega) (by (try simp only [qG]); omega)).trans ?_
  ·
   have hi := at_lt hx
   rw [qRD.l0, qG, decide_eq_true (by omega), cond_true, qv, hx, Option.bind_some, qVC, Option.bind_some, qOC, qu (by omega)]
   cases decide (-1000000000 ≤ x ∧ x ≤ 1000000000) <;> rfl
  · rw [qRD.l0, qG, decide_eq_false (by omega), cond_false]
  rw [qLD]
  cases r.Cells.all fun n => decide (-1000000000 ≤ n ∧ n ≤ 1000000000) <;> rfl
theorem qMP (s : Schema) (t : Int) (rows : List Row) (hs : qJD s) (hr : qZI rows) : qDD.f s t rows = some (rowsB s t rows) := by
 have hl : s.Cols.length ≤ 9223372036854775807 := hs
 obtain ⟨hrl, hr2⟩ := hr
 unfold qDD.f rowsB
 simp only [joinK]
 refine (qYD (f := qDD.l0 s t rows _) (l := rows) (fun i r => rowB s t r && !(decide (0 < i) && decide (r.Id ≤ (rows.getD (i - 1) default).Id))) (some false) (some (schemaB s && decide (0 ≤ t ∧ t ≤ (s.Cols.length : Int) - 1) && decide (rows.length ≤ 24))) (fun k i x hx => ?_) (fun k i hi => ?_) _ 0 (by omega) (by (try simp only [qG]); omega)).trans ?_
 ·
  have hi := at_lt hx
  rw [qDD.l0, qG, decide_eq_true (by omega), cond_true, qv, hx, Option.bind_some, qyK _ _ _ hs (hr2 x (List.mem_of_getElem? hx)), Option.bind_some, qkS hx (by omega), Option.bind_some, qu (by omega)]
  rw [show decide (0 < (i : Int)) = decide (0 < i) from by simp]
  cases rowB s t x <;> cases decide (0 < i) <;> (try rfl)
  simp only [bo3_F, bo3_T, Bool.true_and, cond_true]
  by_cases e : x.Id ≤ (rows.getD (i - 1) default).Id
  · simp [e]
  simp [e]
 ·
  rw [qDD.l0, qG, decide_eq_false (by omega), cond_false, qJE _ hs, Option.bind_some]
  first | rw [qbD _ _ hs] | rw [qG s.Cols, qJB (by omega), qVC]
  have e24 : decide ((rows.length : Int) ≤ 24) = decide (rows.length ≤ 24) := by rw [decide_eq_decide]; omega
  simp only [qG, e24]
  generalize decide (0 ≤ t ∧ t ≤ (s.Cols.length : Int) - 1) = b1
  generalize decide (rows.length ≤ 24) = b2
  cases schemaB s <;> cases b1 <;> cases b2 <;> rfl
 cases allFrom (fun i r => rowB s t r && !(decide (0 < i) && decide (r.Id ≤ (rows.getD (i - 1) default).Id))) rows 0 <;> rfl
theorem qET (v : Int) : qnC.f v 0 100000 = some (decide (0 ≤ v ∧ v ≤ 100000)) := qVC _ _ _
theorem qyI (s : Store) (hb : qgD s) : qbC.f s = some (storeB s) := by
 obtain ⟨hs, ht, ht2⟩ := hb
 have hl : s.Schema.Cols.length ≤ 9223372036854775807 := hs
 unfold qbC.f storeB
 rw [qJE _ hs, Option.bind_some, qET]
 cases schemaB s.Schema with
 | false => rfl
 | true =>
  by_cases d : 0 ≤ s.Version ∧ s.Version ≤ 100000
  case neg => rw [decide_eq_false d]; rfl
  rw [decide_eq_true d]
  by_cases d2 : s.Tables.length = s.Schema.Cols.length
  case neg =>
   rw [show decide (lenI s.Tables ≠ lenI s.Schema.Cols) = true from decide_eq_true (by simp only [qG]; omega), decide_eq_false d2]
   rfl
  rw [show decide (lenI s.Tables ≠ lenI s.Schema.Cols) = false from decide_eq_false (by simp only [qG]; omega), decide_eq_true d2]
  simp only [bo3_F, bo3_T, qqC, Option.bind_some, Bool.true_and, cond_false]
  refine (qYD (f := qbC.l0 s) (l := s.Tables) (fun i rows => rowsB s.Schema (i : Int) rows) (some false) (some true) (fun k i x hx => ?_) (fun k i hi => ?_) _ 0 (by omega) (by (try simp only [qG]); omega)).trans ?_
  ·
   have hi := at_lt hx
   rw [qbC.l0, qG, decide_eq_true (by omega), cond_true, qv, hx, Option.bind_some, qMP _ _ _ hs (ht2 x (List.mem_of_getElem? hx)), Option.bind_some, qOC, qu (by omega)]
   cases rowsB s.Schema i x <;> rfl
  · rw [qbC.l0, qG, decide_eq_false (by omega), cond_false]
  cases allFrom (fun i rows => rowsB s.Schema (i : Int) rows) s.Tables 0 <;> rfl
theorem qNP (l : List Row) (h : qWB l ≤ 1099511627776) : qED.f l = some l := by
 unfold qWB at h
 have p := qAC qgC l
 unfold qED.f
 refine qrI (f := qED.l0 l) (l := l) some (fun k i x hx => ?_) (fun k s i hi => ?_) _ 0 (by omega) (by (try simp only [qG]); omega)
 ·
  have hi := at_lt hx
  have hm := qcE qgC (List.mem_of_getElem? hx)
  rw [qED.l0, qG, decide_eq_true (by omega), cond_true, qv, hx, Option.bind_some, quE x (by omega), Option.bind_some, Option.bind_some, qwC (by simp only [List.length_take, List.length_cons, List.length_nil]; omega), Option.bind_some, qu (by omega)]
 rw [qED.l0, qG, decide_eq_false (by omega), cond_false]
theorem qiF (s : Store) (h : qjB s ≤ 1099511627776) : qHC.f s = some s := by
 unfold qjB qAF at h
 have p1 := qEF s.Schema
 have p2 := qAC qnD s.Tables
 unfold qHC.f
 rw [qbI _ (by omega), Option.bind_some]
 refine qrI (f := qHC.l0 s s.Schema) (l := s.Tables) (fun t => some ⟨s.Schema, s.Version, t⟩) (fun k i x hx => ?_) (fun k t i hi => ?_) _ 0 (by omega) (by (try simp only [qG]); omega)
 ·
  have hi := at_lt hx
  have hm := qcE qnD (List.mem_of_getElem? hx)
  rw [qHC.l0, qG, decide_eq_true (by omega), cond_true, qv, hx, Option.bind_some, qNP x (by omega), Option.bind_some, Option.bind_some, qwC (by simp only [List.length_take, List.length_cons, List.length_nil]; omega), Option.bind_some, qu (by omega)]
 rw [qHC.l0, qG, decide_eq_false (by omega), cond_false]
def noChange : Change := ⟨0, false, false, ⟨0, []⟩, ⟨0, []⟩⟩
theorem qYW : qEI noChange ∧ qeG noChange = 0 := ⟨⟨by simp [Row_b, IntS_b, noChange], by simp [Row_b, IntS_b, noChange]⟩, by simp [qeG, qBC, qFD, noChange]⟩
def mutB (s : Schema) (m : Mut) : Bool :=
 bif decide (m.Kind = 3) then schemaB s && tableB s m.Table && decide (1 ≤ m.Row.Id ∧ m.Row.Id ≤ 999) && decide (m.Row.Cells.length = 0)
 else decide (1 ≤ m.Kind ∧ m.Kind ≤ 2) && rowB s m.Table m.Row
def mutStep (s : Store) (m : Mut) : Store × Change × Bool :=
 let rows := tableOf s m.Table
 let i := rows.findIdx (isId m.Row.Id)
 if (decide (i < rows.length) == decide (m.Kind = 1)) = true ∨ m.Kind = 1 ∧ rows.length = 24 then (s, noChange, false)
 else (setTable s m.Table (if m.Kind = 3 then rowDropF rows m.Row.Id else rowPutF rows m.Row), ⟨m.Table, decide (m.Kind ≠ 1), decide (m.Kind ≠ 3), if m.Kind = 1 then ⟨0, []⟩ else rows.getD i ⟨0, []⟩, if m.Kind = 3 then ⟨0, []⟩ else m.Row⟩, true)
def mutDoF (s : Store) (m : Mut) : Store × Change × Bool := if storeB s = true then (if mutB s.Schema m = true then mutStep s m else (s, noChange, false)) else (noStore, noChange, false)
theorem qqH {s : Store} {m : Mut} (hs : storeB s = true) (hm : mutB s.Schema m = true) : 0 ≤ m.Table ∧ m.Table.toNat < s.Tables.length ∧ (m.Kind = 1 ∨ m.Kind = 2 ∨ m.Kind = 3) := by
 have hl := (qtE hs).1
 have h : (0 ≤ m.Table ∧ m.Table ≤ (s.Schema.Cols.length : Int) - 1) ∧ (m.Kind = 1 ∨ m.Kind = 2 ∨ m.Kind = 3) := by
  unfold mutB at hm
  by_cases e : m.Kind = 3
  ·
   rw [decide_eq_true e, cond_true] at hm
   simp only [Bool.and_eq_true] at hm
   exact ⟨of_decide_eq_true hm.1.1.2, .inr (.inr e)⟩
  rw [decide_eq_false e, cond_false] at hm
  unfold rowB at hm
  simp only [Bool.and_eq_true, decide_eq_true_eq] at hm
  exact ⟨hm.2.1.1.1.2, by omega⟩
 exact ⟨h.1.1, by omega, h.2⟩
theorem qNR (s : Schema) (m : Mut) (hs : qJD s) (hm : Mut_b m) : qmH.f s m = some (mutB s m) := by
 have hl : s.Cols.length ≤ 9223372036854775807 := hs
 unfold qmH.f mutB
 by_cases e : m.Kind = 3
 ·
  rw [decide_eq_true e, cond_true, cond_true, qJE _ hs, Option.bind_some, qVC, qVC, qG, qG, qJB (by omega), gd_of, Option.bind_some, gd_of, Option.bind_some]
  have e2 : decide ((m.Row.Cells.length : Int) = 0) = decide (m.Row.Cells.length = 0) := by congr 1; apply propext; omega
  rw [e2]
  unfold tableB
  cases schemaB s <;> cases decide (0 ≤ m.Table ∧ m.Table ≤ (s.Cols.length : Int) - 1) <;> cases decide (1 ≤ m.Row.Id ∧ m.Row.Id ≤ 999) <;> cases decide (m.Row.Cells.length = 0) <;> rfl
 rw [decide_eq_false e, cond_false, cond_false, qVC, Option.bind_some, qyK _ _ _ hs hm, gd_of, Option.bind_some]
 cases decide (1 ≤ m.Kind ∧ m.Kind ≤ 2) <;> cases rowB s m.Table m.Row <;> rfl
theorem qFT (s : Store) (m : Mut) (hs : storeB s = true) (hm : mutB s.Schema m = true) (hz : qjB s ≤ 1099511627776) (hz2 : qRF m ≤ 1099511627776) : qsI.f s m = some (mutStep s m) := by
 obtain ⟨h0, h1, h2⟩ := qqH hs hm
 have hz' := hz
 unfold qjB qAF at hz'
 unfold qRF at hz2
 have p1 := qEF s.Schema
 have hx : s.Tables[m.Table.toNat]? = some (tableOf s m.Table) := by unfold tableOf; rw [List.getD_eq_getElem?_getD, List.getElem?_eq_getElem h1]; rfl
 have hm' := qcE qnD (List.mem_of_getElem? hx)
 have hzr : qWB (tableOf s m.Table) ≤ 1099511627776 := by omega
 have hzr' := hzr
 unfold qWB at hzr'
 have p2 := qAC qgC (tableOf s m.Table)
 unfold qsI.f mutStep setTable
 rw [qyE h0, hx, Option.bind_some, qKI _ _ (by omega), Option.bind_some, qhL, qG]
 generalize tableOf s m.Table = rows at *
 have e24 : decide ((rows.length : Int) = 24) = decide (rows.length = 24) := by congr 1; apply propext; omega
 have hset : ∀ v, (some (setI s.Tables m.Table v)) = some (s.Tables.set m.Table.toNat v) := fun v => rfl
 rw [e24]
 simp only [quE _ hz2, qsJ _ _ hzr hz2, qxI _ _ hzr, Option.bind_some, hset]
 by_cases c : rows.findIdx (isId m.Row.Id) < rows.length
 ·
  have hg : rows[rows.findIdx (isId m.Row.Id)]? = some (rows.getD (rows.findIdx (isId m.Row.Id)) ⟨0, []⟩) := by rw [List.getD_eq_getElem?_getD, List.getElem?_eq_getElem c]; rfl
  have hm2 := qcE qgC (List.mem_of_getElem? hg)
  rw [qGH c, decide_eq_true (show (0 : Int) ≤ (rows.findIdx (isId m.Row.Id) : Int) by omega), qv, hg]
  simp only [Option.bind_some, quE _ (show qBC (rows.getD (rows.findIdx (isId m.Row.Id)) ⟨0, []⟩) ≤ 1099511627776 by omega)]
  rcases h2 with h2 | h2 | h2 <;> simp [h2, c, bo3_F, bo3_T, noChange]
 rw [qII c]
 rcases h2 with h2 | h2 | h2
 · by_cases d : rows.length = 24 <;> simp [h2, c, d, bo3_F, bo3_T, noChange]
 · simp [h2, c, bo3_F, bo3_T, noChange]
 simp [h2, c, bo3_F, bo3_T, noChange]
theorem qzK (s : Store) (m : Mut) (bs : qgD s) (bm : Mut_b m) (hz : qjB s ≤ 1099511627776) (hz2 : qRF m ≤ 1099511627776) : qSG.f s m = some (mutDoF s m) := by
 unfold qSG.f mutDoF
 rw [qyI _ bs, Option.bind_some, qOC]
 cases hs : storeB s with
 | false => rfl
 | true =>
  rw [qNR _ _ bs.1 bm, Option.bind_some, qOC]
  cases hm : mutB s.Schema m with
  | false => rw [qiF _ hz]; rfl
  | true =>
   rw [qiF _ hz]
   simp only [Bool.not_true, cond_false, if_true, Option.bind_some, qFT _ _ hs hm hz hz2, qOC]
   unfold mutStep
   dsimp only
   split <;> rfl
theorem qhY (s : Store) (m : Mut) (bs : qgD s) (bm : Mut_b m) : qgD (mutDoF s m).1 ∧ qjB (mutDoF s m).1 ≤ 2 * qjB s + qRF m + 1 ∧ qEI (mutDoF s m).2.1 ∧ qeG (mutDoF s m).2.1 ≤ qjB s + qRF m := by
 have q1 := qPW s
 have q2 := qwK m
 have z1 := qYW
 have z2 := qbY
 unfold mutDoF
 by_cases hs : storeB s = true
 ·
  rw [if_pos hs]
  by_cases hm : mutB s.Schema m = true
  ·
   rw [if_pos hm]
   unfold mutStep
   dsimp only
   have tb := qaY bs m.Table
   have tz := qVW s m.Table
   have bm' : Row_b m.Row := bm
   have hm1 : qRF m = qBC m.Row := rfl
   split
   · exact ⟨bs, by dsimp only; omega, z1.1, by rw [z1.2]; omega⟩
   dsimp only
   have rl : (tableOf s m.Table).length ≤ 24 := by
    obtain ⟨h0, h1, _⟩ := qqH hs hm
    have := qpH hs h1
    rw [Int.toNat_of_nonneg h0] at this
    exact qbJ this
   have rb : qZI (if m.Kind = 3 then rowDropF (tableOf s m.Table) m.Row.Id else rowPutF (tableOf s m.Table) m.Row) := by
    split
    · exact qZY tb _
    exact qka tb (by omega) bm'
   have rz : qWB (if m.Kind = 3 then rowDropF (tableOf s m.Table) m.Row.Id else rowPutF (tableOf s m.Table) m.Row) ≤ qjB s + 1 + qRF m := by
    split
    · have := qGQ (tableOf s m.Table) m.Row.Id; omega
    have := qYY (tableOf s m.Table) m.Row; omega
   have zz := qbU s m.Table (if m.Kind = 3 then rowDropF (tableOf s m.Table) m.Row.Id else rowPutF (tableOf s m.Table) m.Row)
   obtain ⟨gb, gz⟩ := qla tb ((tableOf s m.Table).findIdx (isId m.Row.Id))
   have g0 := qgC m.Row
   have nb : Row_b ⟨0, []⟩ ∧ qBC ⟨0, []⟩ = 0 := ⟨by simp [Row_b, IntS_b], by simp [qBC, qFD]⟩
   refine ⟨qUW bs _ rb, by omega, ⟨?_, ?_⟩, ?_⟩
   ·
    dsimp only; split
    · exact nb.1
    exact gb
   ·
    dsimp only; split
    · exact nb.1
    exact bm'
   unfold qeG
   dsimp only
   by_cases k1 : m.Kind = 1
   · rw [if_pos k1, if_neg (show ¬ m.Kind = 3 by omega), nb.2]; omega
   rw [if_neg k1]
   split <;> omega
  rw [if_neg hm]
  exact ⟨bs, by dsimp only; omega, z1.1, by dsimp only; rw [z1.2]; omega⟩
 rw [if_neg hs]
 exact ⟨z2.1, by dsimp only; rw [z2.2]; omega, z1.1, by dsimp only; rw [z1.2]; omega⟩
def qkL (l : List Mut) : Int := l.length + (l.map qRF).sum
def qiY (l : List Mut) : Prop := l.length ≤ 9223372036854775807 ∧ ∀ x ∈ l, Mut_b x
def qpe (l : List Mut) : Prop := ∀ x ∈ l, Mut_r x
def runMuts : Store → List Change → List Mut → Option (Store × List Change)
 | s, acc, [] => some (s, acc)
 | s, acc, m :: l => if (mutDoF s m).2.2 = true then runMuts (mutDoF s m).1 (acc ++ [(mutDoF s m).2.1]) l else none
def batchF (s : Store) (l : List Mut) : Store × List Change × Bool :=
 if storeB s = true then (if (1 ≤ (l.length : Int) ∧ (l.length : Int) ≤ 5) ∧ s.Version ≠ 100000 then (match runMuts s [] l with
  | some (t, cs) => (⟨t.Schema, s.Version + 1, t.Tables⟩, cs, true)
  | none => (s, [], false)) else (s, [], false)) else (noStore, [], false)
theorem qdJ {s : Store} {m : Mut} (h : (mutDoF s m).2.2 = true) : storeB s = true ∧ mutB s.Schema m = true ∧ mutDoF s m = mutStep s m ∧ (mutDoF s m).1.Version = s.Version ∧ (mutDoF s m).1.Schema = s.Schema := by
 unfold mutDoF at *
 by_cases hs : storeB s = true
 ·
  rw [if_pos hs] at *
  by_cases hm : mutB s.Schema m = true
  ·
   rw [if_pos hm] at *
   refine ⟨hs, hm, rfl, ?_⟩
   unfold mutStep at *
   dsimp only at *
   split at h
   · simp at h
   rename_i c
   rw [if_neg c]
   exact ⟨rfl, rfl⟩
  rw [if_neg hm] at h
  simp at h
 rw [if_neg hs] at h
 simp at h
def BInv (v : Int) (s : Store) (acc : List Change) (n : Nat) : Prop := qgD s ∧ qjB s ≤ 4000000 ∧ s.Version = v ∧ acc.length = n ∧ qYJ acc ≤ n * 6000000 ∧ qgG acc
theorem BInv.step {v : Int} {s : Store} {acc : List Change} {n : Nat} (h : BInv v s acc n) {m : Mut} (bm : Mut_b m) (hz : qRF m ≤ 1048576) (hn : n < 100000) (hok : (mutDoF s m).2.2 = true) : BInv v (mutDoF s m).1 (acc ++ [(mutDoF s m).2.1]) (n + 1) := by
 obtain ⟨h1, h2, h3, h4, h5, h6⟩ := h
 obtain ⟨k1, k2, k3, k4, k5⟩ := qdJ hok
 obtain ⟨b1, b2, b3, b4⟩ := qhY s m h1 bm
 have sm := (qlG k1).2
 refine ⟨b1, by omega, k4.trans h3, by simp [h4], ?_, ⟨by simp; omega, fun x hx => ?_⟩⟩
 ·
  unfold qYJ at *
  rw [sum_append]
  simp only [List.length_append, List.length_cons, List.length_nil, List.map_cons, List.map_nil, List.sum_cons, List.sum_nil]
  rw [show ((n + 1 : Nat) : Int) * 6000000 = n * 6000000 + 6000000 by omega]
  omega
 rcases List.mem_append.1 hx with hx | hx
 · exact h6.2 x hx
 rw [List.mem_singleton.1 hx]; exact b3
def CB (c : Change) : Prop := c.Old.Cells.length ≤ 4 ∧ c.New.Cells.length ≤ 4
theorem CB.b {c : Change} (h : CB c) : qEI c ∧ qeG c ≤ 8 := by
 obtain ⟨h1, h2⟩ := h
 exact ⟨⟨by unfold Row_b IntS_b; omega, by unfold Row_b IntS_b; omega⟩, by unfold qeG qBC qFD; omega⟩
theorem qqa {s : Store} {m : Mut} (h : (mutDoF s m).2.2 = true) : CB (mutDoF s m).2.1 := by
 obtain ⟨h1, h2, h3, _⟩ := qdJ h
 obtain ⟨t1, t2, t3⟩ := qqH h1 h2
 rw [h3] at h ⊢
 unfold mutStep at *
 dsimp only at *
 split at h
 · simp at h
 rename_i c
 rw [if_neg c]
 have hrow : ∀ i, ((tableOf s m.Table).getD i ⟨0, []⟩).Cells.length ≤ 4 := fun i => by
  rw [List.getD_eq_getElem?_getD]
  cases hx : (tableOf s m.Table)[i]? with
  | none => simp
  | some r =>
   have := qqN (qaJ (qpH h1 t2) (i := i) (r := r) (by rw [Int.toNat_of_nonneg t1]; exact hx))
   unfold qBC qFD at this
   simp only [Option.getD_some]; omega
 refine ⟨?_, ?_⟩
 ·
  dsimp only
  split
  · simp
  exact hrow _
 dsimp only
 split
 · simp
 rename_i hk
 unfold mutB at h2
 rw [decide_eq_false hk, cond_false, Bool.and_eq_true] at h2
 have := qqN h2.2
 unfold qBC qFD at this
 omega
theorem qIQ : ∀ {l : List Mut} {s : Store} {acc : List Change} {t : Store} {cs : List Change}, (∀ c ∈ acc, CB c) → runMuts s acc l = some (t, cs) → cs.length = acc.length + l.length ∧ ∀ c ∈ cs, CB c
 | [], s, acc, t, cs, h, he => by rw [runMuts] at he; cases he; exact ⟨rfl, h⟩
 | m :: l, s, acc, t, cs, h, he => by
  rw [runMuts] at he
  split at he
  ·
   rename_i hok
   obtain ⟨h1, h2⟩ := qIQ (qcJ h (qqa hok)) he
   exact ⟨by rw [h1]; simp; omega, h2⟩
  cases he
theorem qra (s : Store) (l : List Mut) : (batchF s l).2.1.length ≤ l.length ∧ ∀ c ∈ (batchF s l).2.1, CB c := by
 unfold batchF
 split
 ·
  split
  ·
   cases hr : runMuts s [] l with
   | none => simp
   | some q =>
    obtain ⟨t, cs⟩ := q
    obtain ⟨h1, h2⟩ := qIQ (by simp) hr
    exact ⟨by dsimp only; rw [h1]; simp, h2⟩
  simp
 simp
theorem qsa {s : Store} {m : Mut} (h : (mutDoF s m).2.2 = true) (bm : Mut_b m) (zm : qRF m ≤ 1000) : SB (mutDoF s m).1.Schema ∧ qgD (mutDoF s m).1 ∧ qjB (mutDoF s m).1 ≤ 4000 := by
 obtain ⟨h1, h2, h3, h4, h5⟩ := qdJ h
 obtain ⟨s1, s2⟩ := qlG h1
 obtain ⟨b1, b2, _⟩ := qhY s m s1 bm
 exact ⟨by rw [h5]; exact qCT (qtE h1).2, b1, by omega⟩
theorem qOR (r1 : l1Cur) (r2 : l1Cur × Store) (r3 : l1Cur × Query) : ∀ (k i : Nat) (ci h : Int) (s : Store) (l : List Mut), CI r1.b ci → i ≤ 6 → 6 < i + k → l.length ≤ 4 → SB s.Schema → qgD s → qjB s ≤ 1048576 → (∀ m ∈ l, MB m) →
  ∃ l', qwB.l0 r1 r2 r3 k ci h s.Schema.Cols s.Version s.Tables l i = some (r2.2, r3.2, l') ∧ l'.length ≤ 4 ∧ ∀ m ∈ l', MB m := by
 intro k
 induction k with
 | zero => intro i ci h s l hc h1 h2; omega
 | succ k ih =>
  intro i ci h s l hc h1 h2 hl hs bs zs hm
  rw [qwB.l0]
  by_cases c : (i : Int) < 6
  ·
   obtain ⟨c1, h1', x1, e1, k1, l1, u1, _⟩ := qrB h 4 hc
   have hx3 := u1 (by omega)
   rw [decide_eq_true c, qqC, qSC e1]
   dsimp only
   rw [bo3_T, qJB (by omega), qG]
   by_cases c2 : (l.length : Int) < 1 + x1
   ·
    obtain ⟨c2', h2', m, e2, k2, mb⟩ := qDT h1' s hs k1
    obtain ⟨bm, zm⟩ := mb.b
    rw [decide_eq_true c2, cond_true, show (Store.mk (Schema.mk s.Schema.Cols) s.Version s.Tables) = s from rfl]
    simp only [show ∀ x y : Int, ci3 true x y = x from fun _ _ => rfl]
    rw [qSC e2]
    dsimp only
    rw [qSC (qzK s m bs bm (by omega) (by omega))]
    cases hok : (mutDoF s m).2.2 with
    | true =>
     obtain ⟨s1, s2, s3⟩ := qsa hok bm (by omega)
     rw [cond_true, Option.bind_some, qwC (by simp only [List.length_cons, List.length_nil]; omega), Option.bind_some, qu (by omega)]
     exact ih (i + 1) c2' h2' (mutDoF s m).1 (l ++ [m]) k2 (by omega) (by omega) (by simp only [List.length_append, List.length_cons, List.length_nil]; omega) s1 s2 (by omega) (qcJ hm mb)
    | false =>
     rw [cond_false, qu (by omega)]
     exact ih (i + 1) c2' h2' s l k2 (by omega) (by omega) hl hs bs zs hm
   rw [decide_eq_false c2, cond_false]
   exact ⟨l, rfl, hl, hm⟩
  rw [decide_eq_false c, qhF, Option.bind_some, bo3_F, cond_false]
  exact ⟨l, rfl, hl, hm⟩
theorem qPR (code : List Int) (hl : (code.length : Int) ≤ 1048576) : ∃ s q l, qwB.f code = some (s, q, l) ∧ DSt s ∧ Qr3 q ∧ queryB s.Schema q = true ∧ l.length ≤ 4 ∧ ∀ m ∈ l, MB m := by
 unfold qwB.f
 obtain ⟨h0, e0, k0⟩ := qpa code hl
 rw [qSC e0]
 obtain ⟨i1, h1, s, e1, k1, d1⟩ := qIP h0 k0
 rw [qSC e1]
 obtain ⟨i2, h2, q, e2, k2, d2, dq⟩ := qLP h1 s.Schema d1.SB k1
 dsimp only
 rw [qSC e2]
 obtain ⟨s1, s2⟩ := qlG d1.ok
 obtain ⟨l', m1, m2, m3⟩ := qOR (l1Cur.mk code 0 h0) (l1Cur.mk code i1 h1, s) (l1Cur.mk code i2 h2, q) (((6 : Int) - 0).toNat + 1) 0 i2 h2 s [] k2 (by omega) (by decide) (by simp) d1.SB s1 (by omega) (by simp)
 exact ⟨s, q, l', m1, d1, d2, dq (qtE d1.ok).2, m2, m3⟩
theorem MBs4 {l : List Mut} (hl : l.length ≤ 4) (h : ∀ m ∈ l, MB m) : qiY l ∧ qkL l ≤ 30 := by
 have := qyS (s := qRF) (B := 5) (l := l) fun x hx => (h x hx).b.2
 exact ⟨⟨by omega, fun x hx => (h x hx).b.1⟩, by unfold qkL; omega⟩
theorem qBG (l : List Row) (h : qWB l ≤ 1099511627776) : qzB.f l = some l := by
 unfold qWB at h
 have p := qAC qgC l
 unfold qzB.f
 refine qrI (f := qzB.l0 l) (l := l) some (fun k i x hx => ?_) (fun k s i hi => ?_) _ 0 (by omega) (by (try simp only [qG]); omega)
 ·
  have hi := at_lt hx
  have hm := qcE qgC (List.mem_of_getElem? hx)
  rw [qzB.l0, qG, decide_eq_true (by omega), cond_true, qv, hx, Option.bind_some, qpD x (by omega), Option.bind_some, Option.bind_some, qwC (by simp only [List.length_take, List.length_cons, List.length_nil]; omega), Option.bind_some, qu (by omega)]
 rw [qzB.l0, qG, decide_eq_false (by omega), cond_false]
theorem qnE (s : Store) (h : qjB s ≤ 1099511627776) : qfB.f s = some s := by
 unfold qjB qAF at h
 have p1 := qEF s.Schema
 have p2 := qAC qnD s.Tables
 unfold qfB.f
 rw [qaI _ (by unfold qHE qFD at p1 h; omega), Option.bind_some]
 refine qrI (f := qfB.l0 s s.Schema.Cols) (l := s.Tables) (fun t => some ⟨s.Schema, s.Version, t⟩) (fun k i x hx => ?_) (fun k t i hi => ?_) _ 0 (by omega) (by (try simp only [qG]); omega)
 ·
  have hi := at_lt hx
  have hm := qcE qnD (List.mem_of_getElem? hx)
  rw [qfB.l0, qG, decide_eq_true (by omega), cond_true, qv, hx, Option.bind_some, qBG x (by omega), Option.bind_some, Option.bind_some, qwC (by simp only [List.length_take, List.length_cons, List.length_nil]; omega), Option.bind_some, qu (by omega)]
 rw [qfB.l0, qG, decide_eq_false (by omega), cond_false]
theorem qAL (s : Store) (hs : qgD s) (h : qjB s ≤ 1099511627776) : qTG.f s = some (if storeB s = true then s else ⟨⟨[]⟩, 0, []⟩) := by
 unfold qTG.f
 rw [qoD _ hs, Option.bind_some, qOC, qnE _ h, Option.bind_some]
 cases storeB s <;> rfl
theorem qQR (s : Schema) (m : Mut) (hs : qJD s) (hm : Mut_b m) : qnH.f s m = some (mutB s m) := by
 have hl : s.Cols.length ≤ 9223372036854775807 := hs
 unfold qnH.f mutB
 by_cases e : m.Kind = 3
 ·
  rw [decide_eq_true e, cond_true, cond_true, qIE _ hs, Option.bind_some, qbD _ _ hs, qRB, qG, gd_of, Option.bind_some, gd_of, Option.bind_some]
  have e2 : decide ((m.Row.Cells.length : Int) = 0) = decide (m.Row.Cells.length = 0) := by congr 1; apply propext; omega
  rw [e2]
  unfold tableB
  cases schemaB s <;> cases decide (0 ≤ m.Table ∧ m.Table ≤ (s.Cols.length : Int) - 1) <;> cases decide (1 ≤ m.Row.Id ∧ m.Row.Id ≤ 999) <;> cases decide (m.Row.Cells.length = 0) <;> rfl
 rw [decide_eq_false e, cond_false, cond_false, qRB, Option.bind_some, qqK _ _ _ hs hm, gd_of, Option.bind_some]
 cases decide (1 ≤ m.Kind ∧ m.Kind ≤ 2) <;> cases rowB s m.Table m.Row <;> rfl
theorem qKE (l : List Row) (id : Int) (h : l.length ≤ 9223372036854775807) : qU.f l id = some (rowAtF l id 0) := by
 have key : ∀ (k i : Nat), i ≤ l.length → l.length < i + k → qU.l0 l id k i = some (rowAtF (l.drop i) id i) := by
  intro k
  induction k with
  | zero => intro i h h'; omega
  | succ k ih =>
   intro i h h'
   by_cases hi : i < l.length
   ·
    have hx : l[i]? = some l[i] := List.getElem?_eq_getElem hi
    rw [qU.l0, qG, decide_eq_true (by omega), cond_true, qv, hx, Option.bind_some, qEH.f, Option.bind_some, List.drop_eq_getElem_cons hi, rowAtF, qu (by omega)]
    by_cases e : (l[i]).Id = id
    · rw [decide_eq_true e, cond_true, if_pos e]
    rw [decide_eq_false e, cond_false, if_neg e]
    exact ih (i + 1) (by omega) (by omega)
   rw [qU.l0, qG, decide_eq_false (by omega), cond_false, List.drop_eq_nil_of_le (by omega), rowAtF]
 have := key (((lenI l) - 0).toNat + 1) 0 (by omega) (by simp only [qG]; omega)
 rw [List.drop_zero] at this
 exact this
theorem qLI (l : List Row) (id : Int) (h : l.length ≤ 9223372036854775807) : qaF.f l id = some (rowAtF l id 0) := by
 unfold qaF.f
 rw [qKE l id h, Option.bind_some]
theorem qEO (l : List Row) (id : Int) (h : qWB l ≤ 1099511627776) : qwF.f l id = some (rowDropF l id) := by
 have h' := h
 unfold qWB at h'
 have p := qAC qgC l
 unfold qwF.f
 rw [qBG _ h, Option.bind_some, qLI _ _ (by omega), Option.bind_some, qhL]
 by_cases c : l.findIdx (isId id) < l.length
 ·
  rw [qGH c, decide_eq_true (by omega), cond_true, qZD.f, delO, qu (by omega), if_pos ⟨by omega, by omega, by omega⟩, Option.bind_some]
  unfold rowDropF
  rw [List.eraseIdx_eq_take_drop_succ, Int.toNat_natCast, Int.toNat_natCast]
 rw [qII c, decide_eq_false (by omega), cond_false]
 unfold rowDropF
 rw [List.eraseIdx_of_length_le (by omega)]
theorem qCE (l : List Row) (r : Row) (h : l.length ≤ 9223372036854775807) : qR.f l r = some (idxI (isGt r.Id) l) := by
 have key : ∀ (k i : Nat), i ≤ l.length → l.length < i + k → ¬ (l.take i).findIdx (isGt r.Id) < i → qR.l0 l r k i = some (idxI (isGt r.Id) l) := by
  intro k
  induction k with
  | zero => intro i h h'; omega
  | succ k ih =>
   intro i h0 h' hn
   by_cases hi : i < l.length
   ·
    have hx : l[i]? = some l[i] := List.getElem?_eq_getElem hi
    have hf := qVM (isGt r.Id) l hx
    rw [if_neg hn] at hf
    rw [qR.l0, qG, decide_eq_true (by omega), cond_true, qv, hx, Option.bind_some, qKG.f, Option.bind_some, qu (by omega)]
    cases e : decide (r.Id < l[i].Id) with
    | true =>
     have e' : isGt r.Id l[i] = true := e
     rw [if_pos e'] at hf
     have hl : (l.take (i + 1)).length = i + 1 := by rw [List.length_take]; omega
     have : l.findIdx (isGt r.Id) = i := by
      conv => lhs; rw [← List.take_append_drop (i + 1) l]
      rw [List.findIdx_append, hf, hl, if_pos (by omega)]
     rw [cond_true, qGH (by omega), this]
    | false =>
     have e' : ¬ isGt r.Id l[i] = true := by rw [isGt, e]; simp
     rw [if_neg e'] at hf
     rw [cond_false]
     exact ih (i + 1) (by omega) (by omega) (by omega)
   rw [List.take_of_length_le (by omega)] at hn
   rw [qR.l0, qG, decide_eq_false (by omega), cond_false, qII (by omega)]
 exact key (((lenI l) - 0).toNat + 1) 0 (by omega) (by simp only [qG]; omega) (by omega)
theorem qOP (l : List Row) (r : Row) (h : qWB l ≤ 1099511627776) (hr : qBC r ≤ 1099511627776) : qcG.f l r = some (rowPutF l r) := by
 have h' := h
 unfold qWB at h'
 have p := qAC qgC l
 unfold qcG.f
 rw [qBG _ h, Option.bind_some, qLI _ _ (by omega), Option.bind_some, qhL]
 unfold rowPutF
 by_cases c : l.findIdx (isId r.Id) < l.length
 · rw [if_pos c, qGH c, decide_eq_true (by omega), cond_true, qpD _ hr, Option.bind_some, qv, List.getElem?_eq_getElem c, Option.bind_some, Option.bind_some, quQ]
 rw [if_neg c, qII c, decide_eq_false (by omega), cond_false, qCE _ _ (by omega), Option.bind_some]
 simp only [joinK]
 have ins : ∀ y : Nat, y ≤ l.length → ((qxC.f r).bind fun r11 => (some [r11]).bind fun l12 => (qoC.f l (y : Int) l12).bind fun r13 => some r13) = some (l.take y ++ [r] ++ l.drop y) := by
  intro y hy
  rw [qpD _ hr, Option.bind_some, Option.bind_some, qoC.f, insO, if_pos ⟨rfl, by omega, by omega, by simp; omega, by simp; omega⟩, Option.bind_some, Int.toNat_natCast]
 by_cases d : l.findIdx (isGt r.Id) < l.length
 ·
  rw [qGH d, decide_eq_false (by omega), cond_false]
  exact ins _ (by omega)
 have hle := List.findIdx_le_length (xs := l) (p := isGt r.Id)
 have e : l.findIdx (isGt r.Id) = l.length := by omega
 rw [qII d, decide_eq_true (by omega), cond_true, qG, e]
 exact ins _ (Nat.le_refl _)
theorem qRR (s : Store) (m : Mut) (bs : qgD s) (bm : Mut_b m) (hz : qjB s ≤ 1099511627776) (hz2 : qRF m ≤ 1099511627776) : qoH.f s m = some (mutDoF s m) := by
 unfold qoH.f mutDoF
 rw [qoD _ bs, Option.bind_some, qOC, qQR _ _ bs.1 bm, gd_of, Option.bind_some, qAL _ bs hz]
 cases hs : storeB s with
 | false => rfl
 | true =>
  cases hm : mutB s.Schema m with
  | false => rfl
  | true =>
   simp only [bo3_F, bo3_T, Bool.not_true, Bool.not_false, cond_false, if_true, cond_true]
   obtain ⟨h0, h1, h2⟩ := qqH hs hm
   have hz' := hz
   unfold qjB qAF at hz'
   unfold qRF at hz2
   have p1 := qEF s.Schema
   have hx : s.Tables[m.Table.toNat]? = some (tableOf s m.Table) := by unfold tableOf; rw [List.getD_eq_getElem?_getD, List.getElem?_eq_getElem h1]; rfl
   have hm' := qcE qnD (List.mem_of_getElem? hx)
   have hzr : qWB (tableOf s m.Table) ≤ 1099511627776 := by omega
   have hzr' := hzr
   unfold qWB at hzr'
   have p2 := qAC qgC (tableOf s m.Table)
   unfold mutStep setTable
   simp only [qyE h0, hx, Option.bind_some, qLI (tableOf s m.Table) m.Row.Id (by omega), qhL, qnE _ hz]
   generalize tableOf s m.Table = rows at *
   have e24 : decide (lenI rows = 24) = decide (rows.length = 24) := decide_eq_decide.2 (by rw [qG]; omega)
   have hset : ∀ v, (some (setI s.Tables m.Table v)) = some (s.Tables.set m.Table.toNat v) := fun v => rfl
   rw [e24]
   simp only [joinK, Option.bind_some, qyE h0, hx, qpD _ hz2, qOP _ _ hzr hz2, qEO _ _ hzr, hset]
   by_cases c : rows.findIdx (isId m.Row.Id) < rows.length
   ·
    have hg : rows[rows.findIdx (isId m.Row.Id)]? = some (rows.getD (rows.findIdx (isId m.Row.Id)) ⟨0, []⟩) := by rw [List.getD_eq_getElem?_getD, List.getElem?_eq_getElem c]; rfl
    have hm2 := qcE qgC (List.mem_of_getElem? hg)
    rw [qGH c, decide_eq_true (show (0 : Int) ≤ (rows.findIdx (isId m.Row.Id) : Int) by omega), qv, hg]
    simp only [Option.bind_some, qpD _ (show qBC (rows.getD (rows.findIdx (isId m.Row.Id)) ⟨0, []⟩) ≤ 1099511627776 by omega)]
    rcases h2 with h2 | h2 | h2 <;> simp [h2, c, bo3_F, bo3_T, noChange, setI]
   rw [qII c]
   rcases h2 with h2 | h2 | h2
   · by_cases d : rows.length = 24 <;> simp [h2, c, d, bo3_F, bo3_T, noChange, setI]
   · simp [h2, c, bo3_F, bo3_T, noChange, setI]
   simp [h2, c, bo3_F, bo3_T, noChange, setI]
theorem qFO (s : Store) (l : List Mut) (hz : qjB s ≤ 1099511627776) (hv : 0 ≤ s.Version ∧ s.Version ≤ 100000) (hl : l.length ≤ 5) (hm : ∀ m ∈ l, Mut_b m ∧ qRF m ≤ 1048576) : ∀ (k i : Nat) (o : Store) (acc : List Change), i ≤ l.length → l.length < i + k → BInv s.Version o acc i →
  qlC.l0 s l k o.Schema.Cols o.Version o.Tables acc i = some (match runMuts o acc (l.drop i) with
   | some (t, cs) => (⟨t.Schema, s.Version + 1, t.Tables⟩, cs, true)
   | none => (s, [], false)) := by
 intro k
 induction k with
 | zero => intro i o acc h h'; omega
 | succ k ih =>
  intro i o acc h h' hI
  by_cases hi : i < l.length
  ·
   have hx : l[i]? = some l[i] := List.getElem?_eq_getElem hi
   obtain ⟨m1, m2⟩ := hm _ (List.getElem_mem hi)
   have eo : (Store.mk (Schema.mk o.Schema.Cols) o.Version o.Tables) = o := rfl
   have h4 := hI.2.2.2.1
   rw [qlC.l0, qG, decide_eq_true (by omega), cond_true, qv, hx, Option.bind_some, eo, qRR _ _ hI.1 m1 (by have := hI.2.1; omega) (by omega), Option.bind_some, qnE _ hz, Option.bind_some, Option.bind_some, qOC, qwC (by simp only [h4, List.length_cons, List.length_nil]; omega), Option.bind_some, qu (by omega), List.drop_eq_getElem_cons hi, runMuts]
   cases hok : (mutDoF o l[i]).2.2 with
   | false => rfl
   | true =>
    have := ih (i + 1) _ _ (by omega) (by omega) (hI.step m1 m2 (by omega) hok)
    simp only [Bool.not_true, cond_false, if_true]
    exact this
  rw [qlC.l0, qG, decide_eq_false (by omega), cond_false, List.drop_eq_nil_of_le (by omega), runMuts, hI.2.2.1, qJB (by omega)]
theorem qGO (s : Store) (l : List Mut) (bs : qgD s) (hz : qjB s ≤ 1048576) (bl : qiY l) (hzl : qkL l ≤ 1048576) : qlC.f s l = some (batchF s l) := by
 have p := qAC qwK l
 unfold qkL at hzl
 unfold qlC.f batchF
 rw [qoD _ bs, Option.bind_some, qOC, qRB, gd_of, Option.bind_some, qAL _ bs (by omega), Option.bind_some, qnE _ (by omega), Option.bind_some, qG]
 cases hs : storeB s with
 | false => rfl
 | true =>
  simp only [Bool.not_true, cond_false, if_true, qOC, Bool.not_false, cond_true, bo3_F]
  have hv : 0 ≤ s.Version ∧ s.Version ≤ 100000 := by
   unfold storeB at hs
   simp only [Bool.and_eq_true, decide_eq_true_eq] at hs
   exact hs.1.1.2
  by_cases c : 1 ≤ (l.length : Int) ∧ (l.length : Int) ≤ 5
  ·
   rw [decide_eq_true c]
   by_cases d : s.Version = 100000
   · rw [decide_eq_true d, if_neg (fun e => e.2 d)]; rfl
   rw [decide_eq_false d, if_pos ⟨c, d⟩]
   simp only [Bool.not_true, bo3_F, cond_false]
   have := qFO s l (by omega) hv (by omega) (fun m hm => ⟨bl.2 m hm, by have := qcE qwK hm; omega⟩) (((l.length : Int) - 0).toNat + 1) 0 s [] (by omega) (by omega) ⟨bs, by omega, rfl, rfl, by simp [qYJ], by simp [qgG]⟩
   rw [List.drop_zero] at this
   exact this
  rw [decide_eq_false c, if_neg (fun e => c e.1)]
  rfl
theorem qHO (s : Store) (l : List Mut) (hz : qjB s ≤ 1099511627776) (hv : 0 ≤ s.Version ∧ s.Version ≤ 100000) (hl : l.length ≤ 5) (hm : ∀ m ∈ l, Mut_b m ∧ qRF m ≤ 1048576) : ∀ (k i : Nat) (o : Store) (acc : List Change), i ≤ l.length → l.length < i + k → BInv s.Version o acc i →
  qmC.l0 s l k o.Schema.Cols o.Version o.Tables acc i = some (match runMuts o acc (l.drop i) with
   | some (t, cs) => (⟨t.Schema, s.Version + 1, t.Tables⟩, cs, true)
   | none => (s, [], false)) := by
 intro k
 induction k with
 | zero => intro i o acc h h'; omega
 | succ k ih =>
  intro i o acc h h' hI
  by_cases hi : i < l.length
  ·
   have hx : l[i]? = some l[i] := List.getElem?_eq_getElem hi
   obtain ⟨m1, m2⟩ := hm _ (List.getElem_mem hi)
   have eo : (Store.mk (Schema.mk o.Schema.Cols) o.Version o.Tables) = o := rfl
   have h4 := hI.2.2.2.1
   rw [qmC.l0, qG, decide_eq_true (by omega), cond_true, qv, hx, Option.bind_some, eo, qzK _ _ hI.1 m1 (by have := hI.2.1; omega) (by omega), Option.bind_some, qiF _ hz, Option.bind_some, Option.bind_some, qOC, qwC (by simp only [h4, List.length_cons, List.length_nil]; omega), Option.bind_some, qu (by omega), List.drop_eq_getElem_cons hi, runMuts]
   cases hok : (mutDoF o l[i]).2.2 with
   | false => rfl
   | true =>
    have := ih (i + 1) _ _ (by omega) (by omega) (hI.step m1 m2 (by omega) hok)
    simp only [Bool.not_true, cond_false, if_true]
    exact this
  rw [qmC.l0, qG, decide_eq_false (by omega), cond_false, List.drop_eq_nil_of_le (by omega), runMuts, qJB (by omega)]
theorem qIO (s : Store) (l : List Mut) (bs : qgD s) (hz : qjB s ≤ 1048576) (bl : qiY l) (hzl : qkL l ≤ 1048576) : qmC.f s l = some (batchF s l) := by
 have p := qAC qwK l
 unfold qkL at hzl
 unfold qmC.f batchF
 rw [qyI _ bs, Option.bind_some, qOC, qVC, Option.bind_some, qiF _ (by omega), Option.bind_some, Option.bind_some, qG]
 cases hs : storeB s with
 | false => rfl
 | true =>
  simp only [Bool.not_true, cond_false, if_true]
  have hv : 0 ≤ s.Version ∧ s.Version ≤ 100000 := by
   unfold storeB at hs
   simp only [Bool.and_eq_true, decide_eq_true_eq] at hs
   exact hs.1.1.2
  by_cases c : 1 ≤ (l.length : Int) ∧ (l.length : Int) ≤ 5
  ·
   rw [decide_eq_true c]
   by_cases d : s.Version = 100000
   · rw [decide_eq_true d, if_neg (fun e => e.2 d)]; rfl
   rw [decide_eq_false d, if_pos ⟨c, d⟩]
   simp only [qOC, Bool.not_true, bo3_F, cond_false]
   have := qHO s l (by omega) hv (by omega) (fun m hm => ⟨bl.2 m hm, by have := qcE qwK hm; omega⟩) (((l.length : Int) - 0).toNat + 1) 0 s [] (by omega) (by omega) ⟨bs, by omega, rfl, rfl, by simp [qYJ], by simp [qgG]⟩
   rw [List.drop_zero] at this
   exact this
  rw [decide_eq_false c, if_neg (fun e => c e.1)]
  rfl
def zeroB (r : Row) : Bool := decide (r.Id = 0) && decide (r.Cells.length = 0)
def hasId (rows : List Row) (id : Int) : Bool := decide (rows.findIdx (isId id) < rows.length)
def thereB (rows : List Row) (r : Row) : Bool := decide (rows[rows.findIdx (isId r.Id)]? = some r)
def turnRows (rows : List Row) (c : Change) : List Row := let r1 := if c.Had = true then rowDropF rows c.Old.Id else rows; if c.Has = true then rowPutF r1 c.New else r1
def turnB (s : Store) (c : Change) : Bool :=
 tableB s.Schema c.Table && (!c.Had || thereB (tableOf s c.Table) c.Old) && (!c.Has || !hasId (if c.Had = true then rowDropF (tableOf s c.Table) c.Old.Id else tableOf s c.Table) c.New.Id)
def turnF (s : Store) (c : Change) : Store := setTable s c.Table (turnRows (tableOf s c.Table) c)
def fitsB (c : Change) : Bool := (c.Had || c.Has) && (c.Had || zeroB c.Old) && (c.Has || zeroB c.New)
def stepB (s : Store) (c : Change) : Bool := fitsB c && turnB s c && storeB (turnF s c)
def runCh : Store → List Change → Option Store
 | s, [] => some s
 | s, c :: l => if stepB s c = true then runCh (turnF s c) l else none
def forwardF (s : Store) (l : List Change) : Store × Bool :=
 if storeB s = true ∧ (1 ≤ (l.length : Int) ∧ (l.length : Int) ≤ 5) ∧ s.Version ≠ 100000 then (match runCh s l with
  | some t => (⟨t.Schema, s.Version + 1, t.Tables⟩, true)
  | none => (noStore, false)) else (noStore, false)
theorem qPP {s : Store} (v : Int) (h : storeB s = true) : storeB ⟨s.Schema, v, s.Tables⟩ = decide (0 ≤ v ∧ v ≤ 100000) := by
 unfold storeB at *
 simp only [Bool.and_eq_true] at h
 obtain ⟨⟨⟨h1, h2⟩, h3⟩, h4⟩ := h
 simp only [h1, h3, h4, Bool.true_and, Bool.and_true]
theorem qgc {s : Store} (h : storeB s = true) : 0 ≤ s.Version ∧ s.Version ≤ 100000 := by
 unfold storeB at h
 simp only [Bool.and_eq_true, decide_eq_true_eq] at h
 exact h.1.1.2
theorem qhc {l : List Row} (h : UpR l) (id : Int) : UpR (rowDropF l id) := h.sublist (List.eraseIdx_sublist ..)
def flip (c : Change) : Change := ⟨c.Table, c.Has, c.Had, c.New, c.Old⟩
theorem qeU {s : Schema} {t : Int} {l : List Row} (h : rowsB s t l = true) : UpR l := by
 unfold UpR
 rw [List.pairwise_iff_getElem]
 have hs : ∀ i (hi : i + 1 < l.length), l[i].Id < l[i + 1].Id := fun i hi => by
  unfold rowsB at h
  rw [Bool.and_eq_true] at h
  have := qzD.1 h.1 (i + 1) _ (List.getElem?_eq_getElem hi)
  rw [Bool.and_eq_true, Bool.not_eq_true', ← Bool.not_eq_true] at this
  have h2 := this.2
  simp only [Bool.and_eq_true, decide_eq_true_eq, Nat.add_sub_cancel] at h2
  rw [List.getD_eq_getElem?_getD, List.getElem?_eq_getElem (by omega), Option.getD_some] at h2
  omega
 intro i j hi hj hij
 obtain ⟨k, rfl⟩ : ∃ k, j = i + 1 + k := ⟨j - i - 1, by omega⟩
 clear hij
 induction k with
 | zero => exact hs i hj
 | succ k ih =>
  have h1 := ih (by omega)
  have h2 := hs (i + 1 + k) (by omega)
  have e : i + 1 + (k + 1) = i + 1 + k + 1 := by omega
  simp only [e]
  omega
theorem qSR (col : Nat) (x : Int) : ∀ (l : List Row) (n : Int), countC col x l n = n + (l.countP fun r => decide (r.Cells.getD col 0 = x) : Nat)
 | [], n => by simp [countC]
 | r :: l, n => by
  rw [countC, qSR col x l, List.countP_cons]
  by_cases c : r.Cells.getD col 0 = x
  · rw [if_pos c, if_pos (decide_eq_true c)]; omega
  rw [if_neg c, if_neg (by rw [decide_eq_false c]; simp)]; omega
theorem qfU {s : Store} {m : Mut} (h : (mutDoF s m).2.2 = true) : storeB (mutDoF s m).1 = true := by
 obtain ⟨h1, h2, h3, _⟩ := qdJ h
 obtain ⟨t0, t1, t2⟩ := qqH h1 h2
 rw [h3] at h ⊢
 have hrows := qpH h1 t1
 rw [Int.toNat_of_nonneg t0] at hrows
 have hlen := qbJ hrows
 have hup := qeU hrows
 have hs := (qtE h1).2
 have hl := (qtE h1).1
 have hrow : ∀ r ∈ tableOf s m.Table, rowB s.Schema m.Table r = true := fun r hr => by
  obtain ⟨i, hi⟩ := List.getElem?_of_mem hr
  exact qaJ hrows hi
 unfold mutStep at *
 dsimp only at *
 split at h
 · simp at h
 rename_i c
 rw [if_neg c]
 dsimp only
 have hnew : rowsB s.Schema m.Table (if m.Kind = 3 then rowDropF (tableOf s m.Table) m.Row.Id else rowPutF (tableOf s m.Table) m.Row) = true := by
  refine qeV hs ⟨t0, by omega⟩ ?_ ?_ ?_
  ·
   split
   ·
    have := qJI (tableOf s m.Table) m.Row.Id
    omega
   unfold rowPutF
   split
   · rw [List.length_set]; exact hlen
   rename_i hi
   have hk1 : m.Kind = 1 := by
    apply Classical.byContradiction
    intro hk
    apply c
    left
    rw [decide_eq_false hi, decide_eq_false hk]
    rfl
   have h24 : (tableOf s m.Table).length ≠ 24 := fun e => c (.inr ⟨hk1, e⟩)
   have := List.findIdx_le_length (xs := tableOf s m.Table) (p := isGt m.Row.Id)
   simp only [List.length_append, List.length_take, List.length_drop, List.length_cons, List.length_nil]
   omega
  ·
   split
   · exact qhc hup _
   exact qhb hup _
  intro r hr
  split at hr
  · exact hrow r (qoN hr)
  rename_i k3
  rcases qjL hr with rfl | hr
  ·
   unfold mutB at h2
   rw [decide_eq_false k3, cond_false, Bool.and_eq_true] at h2
   exact h2.2
  exact hrow r hr
 generalize (if m.Kind = 3 then rowDropF (tableOf s m.Table) m.Row.Id else rowPutF (tableOf s m.Table) m.Row) = R at *
 have hst := h1
 unfold storeB at hst ⊢
 unfold setTable
 dsimp only
 simp only [Bool.and_eq_true] at hst ⊢
 obtain ⟨a, d⟩ := hst
 refine ⟨?_, ?_⟩
 · simpa only [List.length_set] using a
 rw [qzD] at d ⊢
 intro t rows ht
 rw [List.getElem?_set] at ht
 split at ht
 ·
  rename_i e
  rw [← Option.some.inj ht, ← e, Int.toNat_of_nonneg t0]; exact hnew
 exact d t rows ht
structure Sim (q : Query) (s t : Store) : Prop where
 sch : t.Schema = s.Schema
 rows : (tableOf t q.Table).filter (matchesB q) = (tableOf s q.Table).filter (matchesB q)
 kids : q.Kids = true → ∀ x, ((tableOf t q.KidTable).countP fun r => decide (r.Cells.getD q.KidCol.toNat 0 = x)) = (tableOf s q.KidTable).countP fun r => decide (r.Cells.getD q.KidCol.toNat 0 = x)
theorem Sim.trans {q : Query} {s t u : Store} (h : Sim q s t) (h' : Sim q t u) : Sim q s u := ⟨h'.sch.trans h.sch, h'.rows.trans h.rows, fun k x => (h'.kids k x).trans (h.kids k x)⟩
theorem qTR {α : Type} {l : List α} {i : Nat} (hi : i < l.length) : l = l.take i ++ l[i] :: l.drop (i + 1) := by
 rw [← List.drop_eq_getElem_cons hi, List.take_append_drop]
theorem qGT {α : Type} {p : α → Bool} {l : List α} {i : Nat} (hi : i < l.length) (h : p l[i] = false) : (l.eraseIdx i).filter p = l.filter p := by
 conv => rhs; rw [qTR hi]
 rw [List.eraseIdx_eq_take_drop_succ, List.filter_append, List.filter_append, List.filter_cons_of_neg (by simp [h])]
theorem qZW {α : Type} {p : α → Bool} {l : List α} {i : Nat} {x : α} (hi : i < l.length) (h : p l[i] = false) (hx : p x = false) : (l.set i x).filter p = l.filter p := by
 conv => rhs; rw [qTR hi]
 rw [List.set_eq_take_append_cons_drop, if_pos hi, List.filter_append, List.filter_append, List.filter_cons_of_neg (a := x) (by simp [hx]), List.filter_cons_of_neg (a := l[i]) (by simp [h])]
theorem qaW {α : Type} {p : α → Bool} {l : List α} {i : Nat} {x : α} (hx : p x = false) : (l.take i ++ [x] ++ l.drop i).filter p = l.filter p := by
 conv => rhs; rw [← List.take_append_drop i l]
 rw [List.filter_append, List.filter_append, List.filter_append, List.filter_cons_of_neg (by simp [hx]), List.filter_nil, List.append_nil]
theorem qgU {α : Type} {p : α → Bool} {l : List α} {i : Nat} {x : α} (hi : i < l.length) (h : p l[i] = p x) : (l.set i x).countP p = l.countP p := by
 conv => rhs; rw [qTR hi]
 rw [List.set_eq_take_append_cons_drop, if_pos hi, List.countP_append, List.countP_append, List.countP_cons, List.countP_cons, h]
theorem qJO {s : Store} {t u : Int} {R : List Row} (ht : 0 ≤ t) (hu : 0 ≤ u) (hl : t.toNat < s.Tables.length) : tableOf (setTable s t R) u = if t = u then R else tableOf s u := by
 unfold tableOf setTable
 dsimp only
 rw [List.getD_eq_getElem?_getD, List.getElem?_set]
 by_cases c : t = u
 · rw [if_pos c, if_pos (by rw [c]), if_pos hl]; rfl
 rw [if_neg c, if_neg (by omega), ← List.getD_eq_getElem?_getD]
theorem qJQ {r : Row} {col : Int} (h : 0 ≤ col) : cellF r col = r.Cells.getD col.toNat 0 := by
 unfold cellF
 split
 · rfl
 rename_i c
 rw [List.getD_eq_getElem?_getD, List.getElem?_eq_none (by omega)]; rfl
theorem qjY {q : Query} {s : Store} {m : Mut} (h : (mutDoF s m).2.2 = true) (hq : queryB s.Schema q = true) (ht : touchesB q (mutDoF s m).2.1 = false) : Sim q s (mutDoF s m).1 := by
 obtain ⟨h1, h2, h3, _, h5⟩ := qdJ h
 obtain ⟨t0, t1, t2⟩ := qqH h1 h2
 obtain ⟨q0, _⟩ := qOK hq
 refine ⟨h5, ?_, fun hk x => ?_⟩ <;> clear h5
 ·
  rw [h3] at h ht ⊢
  unfold mutStep at *
  dsimp only at *
  split at h
  · simp at h
  rename_i c
  rw [if_neg c] at ht ⊢
  dsimp only at ht ⊢
  rw [qJO t0 q0 t1]
  split
  ·
   rename_i e
   unfold touchesB at ht
   dsimp only at ht
   rw [Bool.or_eq_false_iff, decide_eq_true e, Bool.true_and, Bool.or_eq_false_iff] at ht
   obtain ⟨⟨a1, a2⟩, _⟩ := ht
   rw [← e]
   by_cases k1 : m.Kind = 1
   ·
    have hi : ¬ (tableOf s m.Table).findIdx (isId m.Row.Id) < (tableOf s m.Table).length := fun hi => c (.inl (by rw [decide_eq_true hi, decide_eq_true k1]; rfl))
    rw [decide_eq_true (p := m.Kind ≠ 3) (by omega), Bool.true_and, if_neg (by omega)] at a2
    rw [if_neg (by omega)]
    unfold rowPutF
    rw [if_neg hi]
    exact qaW a2
   have hi : (tableOf s m.Table).findIdx (isId m.Row.Id) < (tableOf s m.Table).length := by
    apply Classical.byContradiction
    intro hi
    exact c (.inl (by rw [decide_eq_false hi, decide_eq_false k1]; rfl))
   rw [decide_eq_true (p := m.Kind ≠ 1) k1, Bool.true_and, if_neg k1, List.getD_eq_getElem?_getD, List.getElem?_eq_getElem hi, Option.getD_some] at a1
   by_cases k3 : m.Kind = 3
   ·
    rw [if_pos k3]
    exact qGT hi a1
   rw [decide_eq_true (p := m.Kind ≠ 3) k3, Bool.true_and, if_neg k3] at a2
   rw [if_neg k3]
   unfold rowPutF
   rw [if_pos hi]
   exact qZW hi a1 a2
  rfl
 obtain ⟨⟨kt0, _⟩, kc0, _⟩ := qHQ hq hk
 rw [h3] at h ht ⊢
 unfold mutStep at *
 dsimp only at *
 split at h
 · simp at h
 rename_i c
 rw [if_neg c] at ht ⊢
 dsimp only at ht ⊢
 rw [qJO t0 kt0 t1]
 split
 ·
  rename_i e
  unfold touchesB at ht
  dsimp only at ht
  rw [Bool.or_eq_false_iff, decide_eq_true (p := m.Table = q.KidTable) e, hk, Bool.true_and, Bool.true_and, Bool.or_eq_false_iff] at ht
  obtain ⟨_, a1, a2⟩ := ht
  have k2 : m.Kind = 2 := by
   rcases t2 with k | k | k
   · rw [k] at a1; simp at a1
   · exact k
   rw [k] at a1; simp at a1
  have hi : (tableOf s m.Table).findIdx (isId m.Row.Id) < (tableOf s m.Table).length := by
   apply Classical.byContradiction
   intro hi
   exact c (.inl (by rw [decide_eq_false hi, decide_eq_false (by omega)]; rfl))
  rw [decide_eq_true (p := m.Kind ≠ 1) (by omega), Bool.true_and, if_neg (by omega), if_neg (by omega), decide_eq_false_iff_not, Decidable.not_not, qJQ kc0, qJQ kc0, List.getD_eq_getElem?_getD (l := tableOf s m.Table), List.getElem?_eq_getElem hi, Option.getD_some] at a2
  rw [← e, if_neg (by omega)]
  unfold rowPutF
  rw [if_pos hi]
  exact qgU hi (by rw [a2])
 rfl
theorem qKO {q : Query} : ∀ {l : List Mut} {s : Store} {acc : List Change} {t : Store} {cs : List Change}, storeB s = true → queryB s.Schema q = true → runMuts s acc l = some (t, cs) → (storeB t = true ∧ ∀ c ∈ acc, c ∈ cs) ∧ ((∀ c ∈ cs, touchesB q c = false) → Sim q s t)
 | [], s, acc, t, cs, hs, _, h => by
  rw [runMuts] at h
  cases h
  exact ⟨⟨hs, fun c hc => hc⟩, fun _ => ⟨rfl, rfl, fun _ _ => rfl⟩⟩
 | m :: l, s, acc, t, cs, hs, hq, h => by
  rw [runMuts] at h
  split at h
  ·
   rename_i hok
   have h5 := (qdJ hok).2.2.2.2
   obtain ⟨⟨i1, i2⟩, i3⟩ := qKO (qfU hok) (by rw [h5]; exact hq) h
   refine ⟨⟨i1, fun c hc => i2 c (List.mem_append_left _ hc)⟩, fun hc => ?_⟩
   exact (qjY hok hq (hc _ (i2 _ (List.mem_append_right _ (List.mem_singleton.2 rfl))))).trans (i3 hc)
  cases h
theorem qmG (q : Query) : ∀ (rows acc : List Row), rowsFold q rows acc = (rows.filter (matchesB q)).foldl (putF q) acc
 | [], acc => rfl
 | r :: rows, acc => by
  have e : rowsFold q (r :: rows) acc = rowsFold q rows (if matchesB q r = true then putF q acc r else acc) := rfl
  rw [e, qmG q rows]
  by_cases c : matchesB q r = true
  · rw [if_pos c, List.filter_cons_of_pos c]; rfl
  rw [if_neg c, List.filter_cons_of_neg c]
theorem qta {q : Query} {s t : Store} (hs : storeB s = true) (ht : storeB t = true) (h : Sim q s t) : evalF t q = evalF s q := by
 have hr : rowsForF t q = rowsForF s q := by
  unfold rowsForF
  rw [hs, ht, h.sch, qmG, qmG, h.rows]
 have hk : ∀ x, kidsOfF t q x = kidsOfF s q x := fun x => by
  unfold kidsOfF
  rw [hs, ht, h.sch]
  cases hk : q.Kids with
  | false => simp
  | true =>
   have := h.kids hk x
   unfold tableOf at this
   rw [qSR, qSR, this]
 unfold evalF
 rw [hs, ht, h.sch, hr]
 congr 2
 exact List.map_congr_left fun r _ => hk _
theorem qkY {q : Query} {s : Store} {l : List Mut} (hs : storeB s = true) (hq : queryB s.Schema q = true) (h : (batchF s l).2.2 = true) : storeB (batchF s l).1 = true ∧ ((∀ c ∈ (batchF s l).2.1, touchesB q c = false) → evalF (batchF s l).1 q = evalF s q) := by
 unfold batchF at *
 rw [if_pos hs] at *
 split at h
 ·
  rename_i c
  rw [if_pos c]
  cases hr : runMuts s [] l with
  | none => rw [hr] at h; cases h
  | some p =>
   obtain ⟨t, cs⟩ := p
   obtain ⟨⟨i1, i2⟩, i3⟩ := qKO hs hq hr
   have hv := qgc hs
   have hst : storeB ⟨t.Schema, s.Version + 1, t.Tables⟩ = true := by rw [qPP _ i1, decide_eq_true (by have := c.2; omega)]
   refine ⟨hst, fun hc => qta hs hst ?_⟩
   obtain ⟨a, b, d⟩ := i3 hc
   exact ⟨a, b, d⟩
 cases h
theorem qbW {s : Store} {l : List Mut} (h : (batchF s l).2.2 = false) : (batchF s l).2.1 = [] := by
 unfold batchF at *
 split at h
 ·
  rename_i c
  rw [if_pos c]
  split at h
  ·
   rename_i c2
   rw [if_pos c2]
   cases hr : runMuts s [] l with
   | none => rfl
   | some p => rw [hr] at h; cases h
  rename_i c2
  rw [if_neg c2]
 rename_i c
 rw [if_neg c]
theorem qlY {s : Store} {q : Query} (hc : In64 q.Show) (hl : q.Show.length ≤ 2097152) : qjE.f (evalF s q) (evalF s q) = some true := by
 have hn : jsonB nullJ = true := by decide +kernel
 have hnw : Jw nullJ := (Jw_eq _).2 ⟨by show ((0 : Nat) : Int) ≤ _; omega, by simp [nullJ], by simp [nullJ], by simp [nullJ], by simp [nullJ]⟩
 unfold evalF
 split
 ·
  unfold docOfF orJ
  split
  ·
   rename_i h
   exact qPF _ (qZV hc hl (by have := (qsK s q).1; omega)) h
  exact qPF _ hnw hn
 exact qPF _ hnw hn
theorem laws_FnUntouched_pure (a0 : List Int) (b0 : IntS_b a0) (r0 : ∀ y ∈ a0, 0 ≤ y ∧ y ≤ 255) : qzE.f a0 = some true := by
 unfold qzE.f
 rw [qdU, Option.bind_some]
 by_cases hb : 1048576 < (a0.length : Int)
 · rw [decide_eq_true hb]; rfl
 rw [decide_eq_false hb, cond_false]
 obtain ⟨s, q, l, e1, d1, hq3, hqB, hll, hm⟩ := qPR a0 (by omega)
 obtain ⟨mb, mz⟩ := MBs4 hll hm
 obtain ⟨sb, sz⟩ := qlG d1.ok
 have hq := hq3.qb
 have hc : In64 q.Show := fun x hx => by have := hq.2.2 x hx; omega
 have hl : q.Show.length ≤ 2097152 := by have := hq.2.1; omega
 rw [qSC e1]
 dsimp only
 rw [qSC (qGO s l sb (by omega) mb (by omega)), qSC (qIO s l sb (by omega) mb (by omega)), show bo3 (batchF s l).2.2 (bo3 (batchF s l).2.2 false true) (batchF s l).2.2 = false from qQV _, cond_false]
 cases hok : (batchF s l).2.2 with
 | false => rw [qbW hok]; rfl
 | true =>
  rw [show bo3 true false true = false from rfl, cond_false]
  obtain ⟨g1, g2⟩ := qkY d1.ok hqB hok
  obtain ⟨c1, c2⟩ := qra s l
  have cb : qgG (batchF s l).2.1 := ⟨by omega, fun c hc => (c2 c hc).b.1⟩
  rw [qSC (qFH q _ hq.b cb), qSC (qnK q _ hq.b cb), show bo3 ((batchF s l).2.1.any (touchesB q)) (bo3 ((batchF s l).2.1.any (touchesB q)) false true) ((batchF s l).2.1.any (touchesB q)) = false from qQV _, cond_false, Option.bind_some, qSC (qbL s.Schema [q] _ sb.1 ⟨by simp, fun x hx => by rw [List.mem_singleton.1 hx]; exact hq.b⟩ cb (by simp))]
  have hcon : concF (concP s.Schema (batchF s l).2.1) [q] 0 = if (batchF s l).2.1.any (touchesB q) = true then [0] else [] := by
   rw [concF, concF]
   unfold concP
   rw [hqB, Bool.true_and]
  rw [hcon]
  cases ht : (batchF s l).2.1.any (touchesB q) with
  | true => rfl
  | false =>
   have hn : ∀ c ∈ (batchF s l).2.1, touchesB q c = false := fun c hc => by
    cases h : touchesB q c with
    | false => rfl
    | true =>
     have : (batchF s l).2.1.any (touchesB q) = true := List.any_eq_true.2 ⟨c, hc, h⟩
     rw [ht] at this; cases this
   rw [if_neg (by simp), show bo3 (bo3 (decide ((lenI ([] : List Int)) = 1)) false (bo3 false false true)) (bo3 false false true) false = true from rfl, qqC, qSC (qYM s q sb hq.b hc hl), qqC, qSC (qYM _ q (qlG g1).1 hq.b hc hl), qqC, g2 hn, qSC (qlY hc hl)]
   rfl
end Go.Proofs.YtbhleignjmcdiaaGreatDoor.L