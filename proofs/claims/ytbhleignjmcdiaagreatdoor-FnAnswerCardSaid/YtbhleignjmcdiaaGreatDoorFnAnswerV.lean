/- What the pure functions give. -/
import Derived.Test.YtbhleignjmcdiaaGreatDoorFnAnswerPv0
import Derived.Test.YtbhleignjmcdiaaGreatDoorFnAnswerU
namespace Go.Proofs.YtbhleignjmcdiaaGreatDoor.L
open Go
set_option linter.unusedVariables false
set_option linter.unusedSimpArgs false
theorem qgB (x y z : Int) : quB.f x y z = some (decide (y ≤ x ∧ x ≤ z)) := by
 unfold quB.f
 rw [qAE, Bool.decide_and]
def qhD (l : List Int) : Int := l.length
def IntS_b (l : List Int) : Prop := l.length ≤ 9223372036854775807
theorem qBR (l : List Int) : 0 ≤ qhD l := by unfold qhD; omega
def qLW (l : List Int) : Prop := ∀ x ∈ l, (-9223372036854775808 ≤ x ∧ x ≤ 9223372036854775807)
def qyC (x : Row) : Int := qhD x.Cells
def Row_b (x : Row) : Prop := IntS_b x.Cells
theorem qjG (x : Row) : 0 ≤ qyC x := by unfold qyC; exact by have := qBR x.Cells;  omega
def Row_r (x : Row) : Prop := (-9223372036854775808 ≤ x.Id ∧ x.Id ≤ 9223372036854775807) ∧ qLW x.Cells
def cmpB (op v z : Int) : Bool := if op = 1 then decide (v = z) else if op = 2 then decide (v < z) else if op = 3 then decide (z < v) else if op = 4 then decide (v ≠ z) else false
def holdsB (c : Cond) (r : Row) : Bool := decide (0 ≤ c.Col ∧ c.Col ≤ (r.Cells.length : Int) - 1) && cmpB c.Op (r.Cells.getD c.Col.toNat 0) c.V
def matchesB (q : Query) (r : Row) : Bool := q.Where.all fun c => holdsB c r
theorem qOP (c : Cond) (r : Row) (h : Row_b r) : qDH.f c r = some (holdsB c r) := by
 have hl : r.Cells.length ≤ 9223372036854775807 := h
 unfold qDH.f holdsB
 rw [qH, qNB (by omega), qgB, Option.bind_some, qTC]
 by_cases d : 0 ≤ c.Col ∧ c.Col ≤ (r.Cells.length : Int) - 1
 ·
  rw [decide_eq_true d, Bool.not_true, cond_false, qaE d, Option.bind_some, Bool.true_and]
  simp only [qWL, decide_eq_true_eq, qNP, qAE, cmpB]
  all_goals ((repeat' split) <;> simp_all)
 rw [decide_eq_false d, Bool.not_false, cond_true, Bool.false_and]
def qJb (x : Cond) : Prop := (-9223372036854775808 ≤ x.Col ∧ x.Col ≤ 9223372036854775807) ∧ (-9223372036854775808 ≤ x.Op ∧ x.Op ≤ 9223372036854775807) ∧ (-9223372036854775808 ≤ x.V ∧ x.V ≤ 9223372036854775807)
def qYY (l : List Cond) : Int := l.length
def qwI (l : List Cond) : Prop := l.length ≤ 9223372036854775807
def qBa (l : List Cond) : Prop := ∀ x ∈ l, qJb x
theorem qKG (q : Query) (r : Row) (hq : qwI q.Where) (h : Row_b r) : qRC.f q r = some (matchesB q r) := by
 have hl : q.Where.length ≤ 9223372036854775807 := hq
 unfold qRC.f
 refine (quC (f := qRC.l0 q r) (l := q.Where) (fun _ c => holdsB c r) (some false) (some true) (fun k i x hx => ?_) (fun k i hi => ?_) _ 0 (by omega) (by (try simp only [qH]); omega)).trans ?_
 ·
  have hi := at_lt hx
  rw [qRC.l0, qH, decide_eq_true (by omega), cond_true, qv, hx, Option.bind_some, qOP _ _ h, Option.bind_some, qTC, qAB (by omega)]
  cases holdsB x r <;> rfl
 · rw [qRC.l0, qH, decide_eq_false (by omega), cond_false]
 rw [qND, matchesB]
 cases q.Where.all fun c => holdsB c r <;> rfl
theorem qKK (v : Int) : qyD.f v = some (decide (0 ≤ v ∧ v ≤ 100000)) := by
 unfold qyD.f
 rw [qgB, Option.bind_some]
def qHE (x : Schema) : Int := qhD x.Cols
def qXD (x : Schema) : Prop := IntS_b x.Cols
theorem qxI (x : Schema) : 0 ≤ qHE x := by unfold qHE; exact by have := qBR x.Cols;  omega
def qZY (x : Schema) : Prop := qLW x.Cols
theorem qsD (s : Schema) (t : Int) (h : qXD s) : qOD.f s t = some (decide (0 ≤ t ∧ t ≤ (s.Cols.length : Int) - 1)) := by
 have hl : s.Cols.length ≤ 9223372036854775807 := h
 unfold qOD.f
 rw [qH, qNB (by omega), qgB, Option.bind_some]
theorem qVH (n : Int) : qLF.f n = some (decide (-1000000000 ≤ n ∧ n ≤ 1000000000)) := by
 unfold qLF.f
 rw [qgB, Option.bind_some]
def schemaB (s : Schema) : Bool := s.Cols.all (fun n => decide (1 ≤ n ∧ n ≤ 4)) && decide (1 ≤ (s.Cols.length : Int) ∧ (s.Cols.length : Int) ≤ 3)
theorem qbE (s : Schema) (h : qXD s) : qwB.f s = some (schemaB s) := by
 have hl : s.Cols.length ≤ 9223372036854775807 := h
 unfold qwB.f joinK
 refine (quC (f := qwB.l0 s _) (l := s.Cols) (fun _ n => decide (1 ≤ n ∧ n ≤ 4)) (some false) (some (decide (1 ≤ (s.Cols.length : Int) ∧ (s.Cols.length : Int) ≤ 3))) (fun k i x hx => ?_) (fun k i hi => ?_) _ 0 (by omega) (by (try simp only [qH]); omega)).trans ?_
 ·
  have hi := at_lt hx
  rw [qwB.l0, qH, decide_eq_true (by omega), cond_true, qv, hx, Option.bind_some, qgB, Option.bind_some, qTC, qAB (by omega)]
  cases decide (1 ≤ x ∧ x ≤ 4) <;> rfl
 · rw [qwB.l0, qH, decide_eq_false (by omega), cond_false, qgB, Option.bind_some]
 rw [qND, schemaB]
 cases s.Cols.all fun n => decide (1 ≤ n ∧ n ≤ 4) <;> rfl
def qPC (l : List Row) : Int := l.length + (l.map qyC).sum
def qCR (l : List Row) : Prop := l.length ≤ 9223372036854775807 ∧ ∀ x ∈ l, Row_b x
theorem qLG (l : List Row) : 0 ≤ qPC l := by have := qnE qjG l; unfold qPC; omega
def qKb (l : List Row) : Prop := ∀ x ∈ l, Row_r x
def rowB (s : Schema) (t : Int) (r : Row) : Bool :=
 schemaB s && decide (0 ≤ t ∧ t ≤ (s.Cols.length : Int) - 1) && decide (1 ≤ r.Id ∧ r.Id ≤ 999) && decide ((r.Cells.length : Int) = s.Cols.getD t.toNat 0) && r.Cells.all fun n => decide (-1000000000 ≤ n ∧ n ≤ 1000000000)
def rowsB (s : Schema) (t : Int) (rows : List Row) : Bool :=
 allFrom (fun i r => rowB s t r && !(decide (0 < i) && decide (r.Id ≤ (rows.getD (i - 1) default).Id))) rows 0 && (schemaB s && decide (0 ≤ t ∧ t ≤ (s.Cols.length : Int) - 1) && decide (rows.length ≤ 24))
theorem qLK {s : Schema} (h : schemaB s = true) : s.Cols.length ≤ 3 := by
 unfold schemaB at h
 rw [Bool.and_eq_true] at h
 have := of_decide_eq_true h.2
 omega
theorem qWH {s : Schema} {t : Int} {rows : List Row} (h : rowsB s t rows = true) {i : Nat} {r : Row} (hr : rows[i]? = some r) : rowB s t r = true := by
 unfold rowsB at h
 rw [Bool.and_eq_true] at h
 have := qFE.1 h.1 i r hr
 rw [Bool.and_eq_true] at this
 exact this.1
theorem qkG {s : Schema} {t : Int} {rows : List Row} (h : rowsB s t rows = true) : rows.length ≤ 24 := by
 unfold rowsB at h
 simp only [Bool.and_eq_true, decide_eq_true_eq] at h
 exact h.2.2
theorem qEM {s : Schema} {t : Int} {r : Row} (h : rowB s t r = true) : (r.Cells.length : Int) = s.Cols.getD t.toNat 0 := by
 unfold rowB at h
 simp only [Bool.and_eq_true, decide_eq_true_eq] at h
 exact h.1.2
theorem qPP (s : Schema) (t : Int) (r : Row) (hs : qXD s) (hr : Row_b r) : qKD.f s t r = some (rowB s t r) := by
 have hrl : r.Cells.length ≤ 9223372036854775807 := hr
 unfold qKD.f rowB
 simp only [joinK]
 refine (quC (f := qKD.l0 r _) (l := r.Cells) (fun _ n => decide (-1000000000 ≤ n ∧ n ≤ 1000000000)) (some false) (some (schemaB s && decide (0 ≤ t ∧ t ≤ (s.Cols.length : Int) - 1) && decide (1 ≤ r.Id ∧ r.Id ≤ 999) && decide ((r.Cells.length : Int) = s.Cols.getD t.toNat 0))) (fun k i x hx => ?_) (fun k i hi => ?_) _ 0 (by omega) (by (try simp only [qH]); omega)).trans ?_
 ·
  have hi := at_lt hx
  rw [qKD.l0, qH, decide_eq_true (by omega), cond_true, qv, hx, Option.bind_some, qVH, Option.bind_some, qTC, qAB (by omega)]
  cases decide (-1000000000 ≤ x ∧ x ≤ 1000000000) <;> rfl
 ·
  rw [qKD.l0, qH, decide_eq_false (by omega), cond_false, qbE _ hs, Option.bind_some, qsD _ _ hs, qgB]
  cases schemaB s with
  | false => rfl
  | true =>
   by_cases d : 0 ≤ t ∧ t ≤ (s.Cols.length : Int) - 1
   case neg => rw [decide_eq_false d]; rfl
   rw [decide_eq_true d, qaE d]
   simp only [bo3_F, bo3_T, qOC, Option.bind_some, Bool.true_and, gd_of, cond_true]
   by_cases d3 : (r.Cells.length : Int) = s.Cols.getD t.toNat 0
   · simp [d3, bo3]
   simp [d3, bo3]; exact Bool.and_comm _ _
 rw [qND]
 cases r.Cells.all fun n => decide (-1000000000 ≤ n ∧ n ≤ 1000000000) <;> simp
theorem qGN (s : Schema) (t : Int) (rows : List Row) (hs : qXD s) (hr : qCR rows) : qqC.f s t rows = some (rowsB s t rows) := by
 have hl : s.Cols.length ≤ 9223372036854775807 := hs
 obtain ⟨hrl, hr2⟩ := hr
 unfold qqC.f rowsB
 simp only [joinK]
 refine (quC (f := qqC.l0 s t rows _) (l := rows) (fun i r => rowB s t r && !(decide (0 < i) && decide (r.Id ≤ (rows.getD (i - 1) default).Id))) (some false) (some (schemaB s && decide (0 ≤ t ∧ t ≤ (s.Cols.length : Int) - 1) && decide (rows.length ≤ 24))) (fun k i x hx => ?_) (fun k i hi => ?_) _ 0 (by omega) (by (try simp only [qH]); omega)).trans ?_
 ·
  have hi := at_lt hx
  rw [qqC.l0, qH, decide_eq_true (by omega), cond_true, qv, hx, Option.bind_some, qPP _ _ _ hs (hr2 x (List.mem_of_getElem? hx)), Option.bind_some, qAR hx (by omega), Option.bind_some, qAB (by omega)]
  rw [show decide (0 < (i : Int)) = decide (0 < i) from by simp]
  cases rowB s t x <;> cases decide (0 < i) <;> (try rfl)
  simp only [bo3_F, bo3_T, Bool.true_and, cond_true]
  by_cases e : x.Id ≤ (rows.getD (i - 1) default).Id
  · simp [e]
  simp [e]
 ·
  rw [qqC.l0, qH, decide_eq_false (by omega), cond_false, qbE _ hs, Option.bind_some]
  first | rw [qsD _ _ hs] | rw [qH s.Cols, qNB (by omega), qcB]
  have e24 : decide ((rows.length : Int) ≤ 24) = decide (rows.length ≤ 24) := by rw [decide_eq_decide]; omega
  simp only [qH, e24]
  generalize decide (0 ≤ t ∧ t ≤ (s.Cols.length : Int) - 1) = b1
  generalize decide (rows.length ≤ 24) = b2
  cases schemaB s <;> cases b1 <;> cases b2 <;> rfl
 cases allFrom (fun i r => rowB s t r && !(decide (0 < i) && decide (r.Id ≤ (rows.getD (i - 1) default).Id))) rows 0 <;> rfl
def qXH (l : List (List Row)) : Int := l.length + (l.map qPC).sum
def qCa (l : List (List Row)) : Prop := l.length ≤ 9223372036854775807 ∧ ∀ x ∈ l, qCR x
def qDa (l : List (List Row)) : Prop := ∀ x ∈ l, qKb x
def qSF (x : Store) : Int := qHE x.Schema + qXH x.Tables
def qmF (x : Store) : Prop := qXD x.Schema ∧ qCa x.Tables
def qlc (x : Store) : Prop := qZY x.Schema ∧ (-9223372036854775808 ≤ x.Version ∧ x.Version ≤ 9223372036854775807) ∧ qDa x.Tables
def storeB (s : Store) : Bool :=
 schemaB s.Schema && decide (0 ≤ s.Version ∧ s.Version ≤ 100000) && decide (s.Tables.length = s.Schema.Cols.length) && allFrom (fun i rows => rowsB s.Schema (i : Int) rows) s.Tables 0
theorem qMG {s : Store} (h : storeB s = true) {i : Nat} {rows : List Row} (hr : s.Tables[i]? = some rows) : rowsB s.Schema i rows = true := by
 unfold storeB at h
 rw [Bool.and_eq_true] at h
 exact qFE.1 h.2 i rows hr
theorem qtD {s : Store} (h : storeB s = true) : s.Tables.length = s.Schema.Cols.length ∧ schemaB s.Schema = true := by
 unfold storeB at h
 simp only [Bool.and_eq_true, decide_eq_true_eq] at h
 exact ⟨h.1.2, h.1.1.1⟩
theorem qDR (v : Int) : qyD.f v = some (decide (0 ≤ v ∧ v ≤ 100000)) := qKK v
theorem qNG (s : Store) (hb : qmF s) : qSC.f s = some (storeB s) := by
 obtain ⟨hs, ht, ht2⟩ := hb
 have hl : s.Schema.Cols.length ≤ 9223372036854775807 := hs
 unfold qSC.f storeB
 rw [qbE _ hs, Option.bind_some, qDR]
 cases schemaB s.Schema with
 | false => rfl
 | true =>
  by_cases d : 0 ≤ s.Version ∧ s.Version ≤ 100000
  case neg => rw [decide_eq_false d]; rfl
  rw [decide_eq_true d]
  by_cases d2 : s.Tables.length = s.Schema.Cols.length
  case neg =>
   rw [show decide (lenI s.Tables ≠ lenI s.Schema.Cols) = true from decide_eq_true (by simp only [qH]; omega), decide_eq_false d2]
   rfl
  rw [show decide (lenI s.Tables ≠ lenI s.Schema.Cols) = false from decide_eq_false (by simp only [qH]; omega), decide_eq_true d2]
  simp only [bo3_F, bo3_T, qOC, Option.bind_some, Bool.true_and, cond_false]
  refine (quC (f := qSC.l0 s) (l := s.Tables) (fun i rows => rowsB s.Schema (i : Int) rows) (some false) (some true) (fun k i x hx => ?_) (fun k i hi => ?_) _ 0 (by omega) (by (try simp only [qH]); omega)).trans ?_
  ·
   have hi := at_lt hx
   rw [qSC.l0, qH, decide_eq_true (by omega), cond_true, qv, hx, Option.bind_some, qGN _ _ _ hs (ht2 x (List.mem_of_getElem? hx)), Option.bind_some, qTC, qAB (by omega)]
   cases rowsB s.Schema i x <;> rfl
  · rw [qSC.l0, qH, decide_eq_false (by omega), cond_false]
  cases allFrom (fun i rows => rowsB s.Schema (i : Int) rows) s.Tables 0 <;> rfl
def qic (x : Query) : Int := qYY x.Where + qhD x.Show
def qpG (x : Query) : Prop := qwI x.Where ∧ IntS_b x.Show
def qmc (x : Query) : Prop := (-9223372036854775808 ≤ x.Table ∧ x.Table ≤ 9223372036854775807) ∧ qBa x.Where ∧ (-9223372036854775808 ≤ x.Order ∧ x.Order ≤ 9223372036854775807) ∧ (-9223372036854775808 ≤ x.First ∧ x.First ≤ 9223372036854775807) ∧ qLW x.Show ∧ (-9223372036854775808 ≤ x.KidTable ∧ x.KidTable ≤ 9223372036854775807) ∧ (-9223372036854775808 ≤ x.KidCol ∧ x.KidCol ≤ 9223372036854775807)
def kidsB (s : Schema) (q : Query) : Bool :=
 if q.Kids then decide (0 ≤ q.KidTable ∧ q.KidTable ≤ (s.Cols.length : Int) - 1) && decide (0 ≤ q.KidCol ∧ q.KidCol ≤ w64 (s.Cols.getD q.KidTable.toNat 0 - 1)) else decide (q.KidTable = 0) && decide (q.KidCol = 0)
def condB (cols : Int) (c : Cond) : Bool := decide (0 ≤ c.Col ∧ c.Col ≤ w64 (cols - 1)) && decide (1 ≤ c.Op ∧ c.Op ≤ 4) && decide (-1000000000 ≤ c.V ∧ c.V ≤ 1000000000)
def showB (cols : Int) (l : List Int) : Bool := allFrom (fun i x => decide (0 ≤ x ∧ x ≤ w64 (cols - 1)) && !(decide (0 < i) && decide (x ≤ l.getD (i - 1) 0))) l 0
def queryB (s : Schema) (q : Query) : Bool :=
  schemaB s && decide (0 ≤ q.Table ∧ q.Table ≤ (s.Cols.length : Int) - 1) &&
    (let cols := s.Cols.getD q.Table.toNat 0
     q.Where.all (condB cols) && showB cols q.Show && (decide (q.Where.length ≤ 3) && decide (0 ≤ q.Order ∧ q.Order ≤ cols) && (!q.Down || decide (0 < q.Order)) && decide (0 ≤ q.First ∧ q.First ≤ 24) && kidsB s q))
theorem qER {r : Bool} {l : List Int} {i : Nat} {x : Int} (hx : l[i]? = some x) (hl : i < 9223372036854775807) : gd (bo3 r (decide (0 < (i : Int))) false) (getO l (w64 ((i : Int) - 1))) = some (bif bo3 r (decide (0 < (i : Int))) false then l.getD (i - 1) 0 else 0) := by
 refine qKW _ fun h => ?_
 have h0 := of_decide_eq_true (bo_r h)
 have hi := at_lt hx
 rw [qNB (by omega), show ((i : Int) - 1) = ((i - 1 : Nat) : Int) by omega, qv, List.getD_eq_getElem?_getD, List.getElem?_eq_getElem (by omega)]
 rfl
theorem qFM (s : Schema) (q : Query) (h : qXD s) : qdF.f s q = some (kidsB s q) := by
 unfold qdF.f kidsB
 rw [qTC]
 cases q.Kids with
 | false => simp [qAE]
 | true =>
  rw [Bool.not_true, cond_false, qsD _ _ h, Option.bind_some, if_pos rfl]
  by_cases d : 0 ≤ q.KidTable ∧ q.KidTable ≤ (s.Cols.length : Int) - 1
  · rw [decide_eq_true d, qOC, qaE d, Option.bind_some, qOC, qgB, Option.bind_some, qAE]
  rw [decide_eq_false d, qCE, Option.bind_some, qCE, Option.bind_some, qAE]
  rfl
theorem qOG (s : Schema) (q : Query) (h : qXD s) (hq : qpG q) : qbB.f s q = some (queryB s q) := by
 obtain ⟨hw, hs⟩ := hq
 have hwl : q.Where.length ≤ 9223372036854775807 := hw
 have hsl : q.Show.length ≤ 9223372036854775807 := hs
 unfold qbB.f queryB
 rw [qbE _ h, Option.bind_some]
 cases schemaB s with
 | false => rfl
 | true =>
  rw [show bo3 (bo3 true false true) false true = true from rfl, qOC, qsD _ _ h, Option.bind_some]
  by_cases d : 0 ≤ q.Table ∧ q.Table ≤ (s.Cols.length : Int) - 1
  case neg => rw [decide_eq_false d]; rfl
  rw [decide_eq_true d, show bo3 (bo3 true false true) true (bo3 true false true) = false from rfl, cond_false, qaE d, Option.bind_some]
  generalize s.Cols.getD q.Table.toNat 0 = cols
  simp only [joinK, Bool.true_and]
  refine (quC (f := qbB.l0 q cols _) (l := q.Where) (fun _ c => condB cols c) (some false) (some (showB cols q.Show && (decide (q.Where.length ≤ 3) && decide (0 ≤ q.Order ∧ q.Order ≤ cols) && (!q.Down || decide (0 < q.Order)) && decide (0 ≤ q.First ∧ q.First ≤ 24) && kidsB s q))) (fun k i x hx => ?_) (fun k i hi => ?_) _ 0 (by omega) (by (try simp only [qH]); omega)).trans ?_
  ·
   have hi := at_lt hx
   rw [qbB.l0, qH, decide_eq_true (by omega), cond_true, qv, hx, Option.bind_some, qgB, Option.bind_some, qgB, qVH, qAB (by omega)]
   unfold condB
   cases decide (0 ≤ x.Col ∧ x.Col ≤ w64 (cols - 1)) <;> cases decide (1 ≤ x.Op ∧ x.Op ≤ 4) <;> cases decide (-1000000000 ≤ x.V ∧ x.V ≤ 1000000000) <;> rfl
  ·
   rw [qbB.l0, qH, decide_eq_false (by omega), cond_false]
   refine (quC (f := qbB.l1 q cols _) (l := q.Show) (fun i x => decide (0 ≤ x ∧ x ≤ w64 (cols - 1)) && !(decide (0 < i) && decide (x ≤ q.Show.getD (i - 1) 0))) (some false) (some (decide (q.Where.length ≤ 3) && decide (0 ≤ q.Order ∧ q.Order ≤ cols) && (!q.Down || decide (0 < q.Order)) && decide (0 ≤ q.First ∧ q.First ≤ 24) && kidsB s q)) (fun k i x hx => ?_) (fun k i hi => ?_) _ 0 (by omega) (by (try simp only [qH]); omega)).trans ?_
   ·
    have hi := at_lt hx
    rw [qbB.l1, qH, decide_eq_true (by omega), cond_true, qv, hx, Option.bind_some, qgB, Option.bind_some, qER hx (by omega), Option.bind_some, qAB (by omega)]
    rw [show decide (0 < (i : Int)) = decide (0 < i) from by simp]
    cases decide (0 ≤ x ∧ x ≤ w64 (cols - 1)) <;> cases decide (0 < i) <;> (try rfl)
    simp only [qAE, qTC, qyQ, Bool.not_true, Bool.not_false, Bool.true_and, cond_true]
    cases decide (x ≤ q.Show.getD (i - 1) 0) <;> rfl
   ·
    rw [qbB.l1, qH, decide_eq_false (by omega), cond_false, qgB, Option.bind_some, qgB, qFM _ _ h]
    rw [show decide ((q.Where.length : Int) ≤ 3) = decide (q.Where.length ≤ 3) from by simp; omega]
    cases decide (q.Where.length ≤ 3) <;> cases decide (0 ≤ q.Order ∧ q.Order ≤ cols) <;> cases q.Down <;> cases decide (0 < q.Order) <;> cases decide (0 ≤ q.First ∧ q.First ≤ 24) <;> cases kidsB s q <;> rfl
   unfold showB
   cases allFrom (fun i x => decide (0 ≤ x ∧ x ≤ w64 (cols - 1)) && !(decide (0 < i) && decide (x ≤ q.Show.getD (i - 1) 0))) q.Show 0 <;> rfl
  rw [qND]
  cases q.Where.all fun c => condB cols c <;> simp
theorem qAL (l : List Int) (h : (l.length : Int) ≤ 1099511627776) : quE.f l = some l := by
 unfold quE.f
 rw [qtB (by simp only [List.length_nil]; omega), Option.bind_some, List.nil_append]
theorem qMW {r : Row} {B : Int} (h : qyC r ≤ B) : (r.Cells.length : Int) ≤ B := by unfold qyC qhD at h; exact h
theorem qGM (r : Row) (h : qyC r ≤ 1099511627776) : qeF.f r = some r := by
 unfold qeF.f
 rw [qAL _ (qMW h), Option.bind_some]
def cellF (r : Row) (col : Int) : Int := if 0 ≤ col ∧ col ≤ (r.Cells.length : Int) - 1 then r.Cells.getD col.toNat 0 else 0
def aheadB (q : Query) (a b : Row) : Bool :=
 if q.Order = 0 then decide (a.Id < b.Id) else
  let x := cellF a (w64 (q.Order - 1)); let y := cellF b (w64 (q.Order - 1))
  if x = y then decide (a.Id < b.Id) else if q.Down then decide (y < x) else decide (x < y)
theorem qqG (r : Row) (col : Int) (h : Row_b r) : qfE.f r col = some (cellF r col) := by
 have hl : r.Cells.length ≤ 9223372036854775807 := h
 unfold qfE.f cellF
 rw [qH, qNB (by omega), qgB, Option.bind_some, qTC]
 by_cases d : 0 ≤ col ∧ col ≤ (r.Cells.length : Int) - 1
 · rw [decide_eq_true d, Bool.not_true, cond_false, qaE d, Option.bind_some, if_pos d]
 rw [decide_eq_false d, Bool.not_false, cond_true, if_neg d]
theorem qYJ (q : Query) (a b : Row) (ha : Row_b a) (hb : Row_b b) : qyF.f q a b = some (aheadB q a b) := by
 unfold qyF.f aheadB
 rw [qqG _ _ ha, qqG _ _ hb]
 simp only [Option.bind_some, qWL, decide_eq_true_eq, qNP, qTC, qIW, ne_eq, ite_not]
 all_goals (
  generalize cellF a (w64 (q.Order - 1)) = x
  generalize cellF b (w64 (q.Order - 1)) = y
  by_cases h0 : q.Order = 0
  · simp [h0]
  by_cases h1 : x = y
  · simp [h0, h1]
  cases hd : q.Down with
  | true =>
   simp only [h0, h1, if_false, if_true, Option.some.injEq, decide_eq_true_eq]
   by_cases h2 : x < y
   · simp [h2]; try omega
   simp [h2]; try omega
  | false =>
   simp only [h0, h1, if_false, Option.some.injEq, decide_eq_true_eq]
   by_cases h2 : x < y
   · simp [h2]; try omega
   simp [h2]; try omega)
theorem qAI (q : Query) (a b : Row) : aheadB q a b = true ↔ (q.Order = 0 ∧ a.Id < b.Id) ∨ (q.Order ≠ 0 ∧ ((cellF a (w64 (q.Order - 1)) = cellF b (w64 (q.Order - 1)) ∧ a.Id < b.Id) ∨ (q.Down = true ∧ cellF b (w64 (q.Order - 1)) < cellF a (w64 (q.Order - 1))) ∨ (q.Down = false ∧ cellF a (w64 (q.Order - 1)) < cellF b (w64 (q.Order - 1))))) := by
 unfold aheadB
 by_cases h0 : q.Order = 0
 ·
  rw [if_pos h0, decide_eq_true_eq]
  exact ⟨fun h => .inl ⟨h0, h⟩, fun h => h.elim (fun h => h.2) (fun h => absurd h0 h.1)⟩
 rw [if_neg h0]
 dsimp only
 generalize cellF a (w64 (q.Order - 1)) = x
 generalize cellF b (w64 (q.Order - 1)) = y
 by_cases e : x = y
 ·
  rw [if_pos e, decide_eq_true_eq]
  constructor
  · exact fun h => .inr ⟨h0, .inl ⟨e, h⟩⟩
  rintro (h | ⟨_, h | h | h⟩)
  · exact absurd h.1 h0
  · exact h.2
  · omega
  omega
 rw [if_neg e]
 cases q.Down with
 | true =>
  rw [if_pos rfl, decide_eq_true_eq]
  constructor
  · exact fun h => .inr ⟨h0, .inr (.inl ⟨rfl, h⟩)⟩
  rintro (h | ⟨_, h | h | h⟩)
  · exact absurd h.1 h0
  · exact absurd h.1 e
  · exact h.2
  cases h.1
 | false =>
  rw [if_neg (by simp), decide_eq_true_eq]
  constructor
  · exact fun h => .inr ⟨h0, .inr (.inr ⟨rfl, h⟩)⟩
  rintro (h | ⟨_, h | h | h⟩)
  · exact absurd h.1 h0
  · exact absurd h.1 e
  · cases h.1
  exact h.2
theorem qGU {q : Query} {a b : Row} (h : aheadB q a b = true) : aheadB q b a = false := by
 rw [← Bool.not_eq_true, qAI]
 rw [qAI] at h
 cases hd : q.Down <;> simp only [hd, true_and, false_and, false_or, or_false, Bool.false_eq_true, Bool.true_eq_false] at h ⊢ <;> omega
theorem qPG {q : Query} {a b : Row} (hi : a.Id ≠ b.Id) (h : aheadB q a b = false) : aheadB q b a = true := by
 rw [qAI]
 rw [← Bool.not_eq_true, qAI] at h
 cases hd : q.Down <;> simp only [hd, true_and, false_and, false_or, or_false, Bool.false_eq_true, Bool.true_eq_false] at h ⊢ <;> omega
theorem qYH {q : Query} {a b c : Row} (h1 : aheadB q a b = true) (h2 : aheadB q b c = true) : aheadB q a c = true := by
 rw [qAI] at *
 cases hd : q.Down <;> simp only [hd, true_and, false_and, false_or, or_false, Bool.false_eq_true, Bool.true_eq_false] at h1 h2 ⊢ <;> omega
section
variable {α : Type}
theorem qZH {A B : List α} {x : α} {i : Int} (h : i = A.length) : getO (A ++ x :: B) i = some x := by
 subst h; rw [qv, List.getElem?_append_right (Nat.le_refl _), Nat.sub_self]; rfl
theorem qXL {A B : List α} {x y : α} {i : Int} (h : i = A.length) : setI (A ++ x :: B) i y = A ++ y :: B := by
 subst h; rw [qMP, List.set_append_right _ _ (Nat.le_refl _), Nat.sub_self]; rfl
theorem qFR (A B C : List α) (x y : α) : A ++ x :: (B ++ y :: C) = (A ++ x :: B) ++ y :: C := by simp
theorem qYL {A B C : List α} {x y : α} {j : Int} (h : j = A.length + 1 + B.length) : getO (A ++ x :: (B ++ y :: C)) j = some y := by
 rw [qFR]; exact qZH (by simp; omega)
theorem swapA {A B C : List α} {x y : α} {i j : Int} (hi : i = A.length) (hj : j = A.length + 1 + B.length) : setI (setI (A ++ x :: (B ++ y :: C)) i y) j x = A ++ y :: (B ++ x :: C) := by
 rw [qXL hi, qFR, qXL (by simp; omega), ← qFR]
theorem swapB {A B C : List α} {x y : α} {i j : Int} (hi : i = A.length) (hj : j = A.length + 1 + B.length) : setI (setI (A ++ x :: (B ++ y :: C)) j x) i y = A ++ y :: (B ++ x :: C) := by
 rw [qFR, qXL (by simp; omega), ← qFR, qXL hi]
theorem qPT {i j : Int} (h : i ≠ j) : neO i j = some () := by unfold neO; rw [if_neg h]
theorem qZL {A B C : List α} {c : Nat} (h1 : A.length ≤ c) (h2 : c < A.length + B.length) : getO (A ++ (B ++ C)) (c : Int) = B[c - A.length]? := by
 rw [qv, List.getElem?_append_right h1, List.getElem?_append_left (by omega)]
theorem bsearch {R : Type} {f : Nat → Int → Int → R} {K : Int → R} (B : Nat → Bool) (lo hi : Nat) (mono : ∀ c c', lo ≤ c → c ≤ c' → c' < hi → B c = false → B c' = false)
  (hstep : ∀ k (i j : Nat), lo ≤ i → i < j → j ≤ hi → f (k + 1) i j = if B ((i + j) / 2) = true then f k (((i + j) / 2 + 1 : Nat) : Int) j else f k i (((i + j) / 2 : Nat) : Int)) (hend : ∀ k (i : Nat), f (k + 1) i i = K i) :
  ∀ (k i j : Nat), lo ≤ i → i ≤ j → j ≤ hi → j - i < k → ∃ t : Nat, i ≤ t ∧ t ≤ j ∧ f k i j = K t ∧ (∀ c, i ≤ c → c < t → B c = true) ∧ (∀ c, t ≤ c → c < j → B c = false) := by
 intro k
 induction k with
 | zero => intro i j _ _ _ h; omega
 | succ k ih =>
  intro i j h1 h2 h3 h4
  by_cases hij : i < j
  ·
   rw [hstep k i j h1 hij h3]
   cases hb : B ((i + j) / 2) with
   | true =>
    rw [if_pos rfl]
    obtain ⟨t, t1, t2, t3, t4, t5⟩ := ih ((i + j) / 2 + 1) j (by omega) (by omega) h3 (by omega)
    refine ⟨t, by omega, t2, t3, fun c c1 c2 => ?_, t5⟩
    by_cases hc : (i + j) / 2 + 1 ≤ c
    · exact t4 c hc c2
    cases hx : B c with
    | true => rfl
    | false => rw [mono c ((i + j) / 2) (by omega) (by omega) (by omega) hx] at hb; cases hb
   | false =>
    rw [if_neg (by simp)]
    obtain ⟨t, t1, t2, t3, t4, t5⟩ := ih i ((i + j) / 2) h1 (by omega) (by omega) (by omega)
    refine ⟨t, t1, by omega, t3, t4, fun c c1 c2 => ?_⟩
    by_cases hc : c < (i + j) / 2
    · exact t5 c c1 hc
    exact mono _ c (by omega) (by omega) (by omega) hb
  obtain rfl : i = j := by omega
  exact ⟨i, Nat.le_refl _, Nat.le_refl _, hend k i, fun c c1 c2 => by omega, fun c c1 c2 => by omega⟩
theorem qHM {x : Int} {n : Nat} (h : x = n) (hn : n ≤ 9223372036854775807) : w64 (Ls.ar .shr .u64 (IntKind.wrap .u64 (w64 x)) 1) = ((n / 2 : Nat) : Int) := by
 subst h
 have e0 : w64 (n : Int) = n := qNB (by omega)
 have e : IntKind.wrap .u64 (n : Int) = n := by simp [IntKind.wrap, IntKind.signed, IntKind.bits]; omega
 rw [e0, e]
 have e2 : Ls.ar .shr .u64 (n : Int) 1 = (n : Int) / 2 := by
  show Int.fdiv (n : Int) (2 ^ min (1 : Int).toNat IntKind.u64.bits) = _
  have : (2 : Int) ^ min (1 : Int).toNat IntKind.u64.bits = 2 := by decide
  rw [this, Int.fdiv_eq_ediv_of_nonneg _ (by omega)]
 rw [e2, qNB (by omega)]
 omega
end
def Srt (q : Query) (l : List Row) : Prop := l.Pairwise fun a b => aheadB q a b = true
def Dst (l : List Row) : Prop := l.Pairwise fun a b => a.Id ≠ b.Id
theorem Dst.perm {l l' : List Row} (h : Dst l) (p : l.Perm l') : Dst l' := (p.pairwise_iff (fun h e => h e.symm)).1 h
theorem Dst.app {l l' : List Row} (h : Dst (l ++ l')) : Dst l ∧ Dst l' ∧ ∀ a ∈ l, ∀ b ∈ l', a.Id ≠ b.Id := List.pairwise_append.1 h
theorem Srt.unique {q : Query} {l l' : List Row} (h : Srt q l) (h' : Srt q l') (p : l.Perm l') : l = l' :=
 List.Perm.eq_of_pairwise (fun a b _ _ h1 h2 => by rw [qGU h1] at h2; cases h2) h h' p
theorem Srt.app {q : Query} {l l' : List Row} : Srt q (l ++ l') ↔ Srt q l ∧ Srt q l' ∧ ∀ a ∈ l, ∀ b ∈ l', aheadB q a b = true := List.pairwise_append
theorem Srt.at {q : Query} {l : List Row} (h : Srt q l) {i j : Nat} {x y : Row} (hij : i < j) (hx : l[i]? = some x) (hy : l[j]? = some y) : aheadB q x y = true := by
 obtain ⟨h1, rfl⟩ := List.getElem?_eq_some_iff.1 hx
 obtain ⟨h2, rfl⟩ := List.getElem?_eq_some_iff.1 hy
 exact List.pairwise_iff_getElem.1 h i j h1 h2 hij
theorem qTE (a b : Row) (q : Query) (ha : Row_b a) (hb : Row_b b) : qxC.f a b q = some (if aheadB q a b = true then -1 else 1) := by
 unfold qxC.f
 rw [qYJ q a b ha hb, Option.bind_some]
 cases aheadB q a b <;> rfl
theorem qHU (a1 : Int) (q : Query) (K : List Row → Option (List Row)) : ∀ (k : Nat) (n : Nat) (P S1 S2 R : List Row) (x : Row) (j : Int), S1.length = n → n < k → a1 = P.length → j = P.length + S1.length → (P ++ (S1 ++ x :: (S2 ++ R))).length ≤ 1000000 →
  (∀ y ∈ S1 ++ x :: S2, Row_b y) → Dst (S1 ++ x :: S2) → Srt q (S1 ++ S2) → (∀ y ∈ S2, aheadB q x y = true) →
  ∃ S', qE.l1 a1 q K k (P ++ (S1 ++ x :: (S2 ++ R))) j = K (P ++ (S' ++ R)) ∧ S'.Perm (S1 ++ x :: S2) ∧ Srt q S' := by
 intro k
 induction k with
 | zero => intro n P S1 S2 R x j _ h; omega
 | succ k ih =>
  intro n P S1 S2 R x j hn hk h1 h2 hlen hb hd hs hx
  simp only [List.length_append, List.length_cons] at hlen
  rw [qE.l1]
  have fin : Srt q (S1 ++ x :: S2) → ∃ S', K (P ++ (S1 ++ x :: (S2 ++ R))) = K (P ++ (S' ++ R)) ∧ S'.Perm (S1 ++ x :: S2) ∧ Srt q S' := fun h => ⟨S1 ++ x :: S2, by simp, List.Perm.refl _, h⟩
  cases n with
  | zero =>
   obtain rfl := List.length_eq_zero_iff.1 hn
   rw [decide_eq_false (by simp at h2; omega), qCE, Option.bind_some, qCE, Option.bind_some, qCE, Option.bind_some, bo3_F, cond_false]
   exact fin (List.pairwise_cons.2 ⟨hx, hs⟩)
  | succ n =>
   obtain ⟨S, y, rfl⟩ : ∃ S y, S1 = S ++ [y] := ⟨S1.dropLast, S1.getLast (by rintro rfl; simp at hn), (List.dropLast_concat_getLast _).symm⟩
   simp only [List.length_append, List.length_cons, List.length_nil] at hn h2 hlen
   have hpos : (P ++ (S ++ [y] ++ x :: (S2 ++ R))) = (P ++ S) ++ y :: ([] ++ x :: (S2 ++ R)) := by simp
   have lps : (P ++ S).length = P.length + S.length := List.length_append
   have e1 : getO (P ++ (S ++ [y] ++ x :: (S2 ++ R))) j = some x := by rw [hpos]; exact qYL (by simp only [List.length_nil]; omega)
   have e2 : getO (P ++ (S ++ [y] ++ x :: (S2 ++ R))) (w64 (j - 1)) = some y := by rw [hpos, qNB (by omega)]; exact qZH (by omega)
   have by_ : Row_b y := hb y (by simp)
   have bx : Row_b x := hb x (by simp)
   rw [decide_eq_true (by omega), e1, qOC, Option.bind_some, e2, qOC, Option.bind_some, qOC, qTE x y q bx by_, Option.bind_some, bo3_T, Option.bind_some, Option.bind_some]
   cases hc : aheadB q x y with
   | true =>
    rw [if_pos rfl, decide_eq_true (by omega), cond_true, qPT (by rw [qNB (by omega)]; omega), Option.bind_some, Option.bind_some, hpos, qNB (by omega), swapB (by omega) (by simp only [List.length_nil]; omega)]
    obtain ⟨S', g1, g2, g3⟩ := ih n P S (y :: S2) R x (j - 1) (by omega) (by omega) h1 (by omega) (by simp only [List.length_append, List.length_cons]; omega) (fun z hz => hb z (by simp at hz ⊢; rcases hz with h | h | h | h <;> simp [h])) (hd.perm (by simpa using List.Perm.append_left S (List.Perm.swap x y S2))) (by simpa using hs) (fun z hz => by
     rcases List.mem_cons.1 hz with rfl | h
     · exact hc
     exact hx z h)
    refine ⟨S', ?_, g2.trans (by simpa using List.Perm.append_left S (List.Perm.swap y x S2)), g3⟩
    rw [← g1]; simp
   | false =>
    rw [if_neg (by simp), decide_eq_false (by omega), cond_false]
    have hne : x.Id ≠ y.Id := fun e => (hd.app.2.2 y (by simp) x (by simp)) e.symm
    have hyx := qPG hne hc
    refine fin (Srt.app.2 ⟨(Srt.app.1 hs).1, List.pairwise_cons.2 ⟨hx, (Srt.app.1 hs).2.1⟩, fun a ha b hb' => ?_⟩)
    have hax : aheadB q a x = true := by
     rcases List.mem_append.1 ha with h | h
     · exact qYH ((Srt.app.1 (Srt.app.1 hs).1).2.2 a h y (by simp)) hyx
     rw [List.mem_singleton.1 h]; exact hyx
    rcases List.mem_cons.1 hb' with rfl | h
    · exact hax
    exact qYH hax (hx b h)
theorem qIU (a1 a2 : Int) (q : Query) : ∀ (k : Nat) (P S T R : List Row) (i : Int), T.length < k → a1 = P.length → i = P.length + S.length → a2 = P.length + S.length + T.length → (P ++ (S ++ (T ++ R))).length ≤ 1000000 →
  (∀ y ∈ S ++ T, Row_b y) → Dst (S ++ T) → Srt q S →
  ∃ S', qE.l0 a1 a2 q k (P ++ (S ++ (T ++ R))) i = some (P ++ (S' ++ R)) ∧ S'.Perm (S ++ T) ∧ Srt q S' := by
 intro k
 induction k with
 | zero => intro P S T R i h; omega
 | succ k ih =>
  intro P S T R i hk h1 h2 h3 hlen hb hd hs
  have hlen0 := hlen
  simp only [List.length_append] at hlen
  rw [qE.l0]
  cases T with
  | nil =>
   simp only [List.length_nil] at h3
   rw [decide_eq_false (by omega), cond_false]
   exact ⟨S, by simp, by simp, hs⟩
  | cons x T =>
   simp only [List.length_cons] at h3 hlen hk
   rw [decide_eq_true (by omega), cond_true, qiB]
   have hd' : Dst (S ++ [x] ++ T) := by simpa using hd
   obtain ⟨S', g1, g2, g3⟩ := qHU a1 q (fun y17 => qE.l0 a1 a2 q k y17 (w64 (i + 1))) ((i - a1).toNat + 1) S.length P S [] (T ++ R) x i rfl (by omega) h1 h2 (by simp only [List.length_append, List.length_cons, List.length_nil]; omega) (fun y hy => hb y (by simp at hy ⊢; rcases hy with h | h <;> simp [h])) (by simpa using hd'.app.1) (by simpa using hs) (by simp)
   have ls : S'.length = S.length + 1 := by rw [g2.length_eq]; simp
   have gp : S'.Perm (S ++ [x]) := by simpa using g2
   rw [List.nil_append] at g1
   rw [show P ++ (S ++ (x :: T ++ R)) = P ++ (S ++ x :: (T ++ R)) by simp, g1, qNB (by omega)]
   obtain ⟨S'', f1, f2, f3⟩ := ih P S' T R (i + 1) (by omega) h1 (by omega) (by omega) (by simp only [List.length_append]; omega) (fun y hy => by
    rcases List.mem_append.1 hy with h | h
    ·
     have := gp.mem_iff.1 h
     exact hb y (by simp at this ⊢; rcases this with h | h <;> simp [h])
    exact hb y (by simp [h])) (hd'.perm (gp.symm.append_right T)) g3
   exact ⟨S'', f1, f2.trans (by simpa using gp.append_right T), f3⟩
theorem qMK {a1 a2 : Int} (q : Query) {P T R : List Row} (h1 : a1 = P.length) (h2 : a2 = P.length + T.length) (hlen : (P ++ (T ++ R)).length ≤ 1000000) (hb : ∀ y ∈ T, Row_b y) (hd : Dst T) :
  ∃ S, qE.f (P ++ (T ++ R)) a1 a2 q = some (P ++ (S ++ R)) ∧ S.Perm T ∧ Srt q S := by
 unfold qE.f
 have hlen' := hlen
 simp only [List.length_append] at hlen'
 rw [qNB (by omega)]
 cases T with
 | nil =>
  simp only [List.length_nil] at h2
  refine ⟨[], ?_, List.Perm.refl _, List.Pairwise.nil⟩
  rw [qE.l0, decide_eq_false (by omega), cond_false]
 | cons x T =>
  simp only [List.length_cons] at h2 hlen'
  have := qIU a1 a2 q ((a2 - (a1 + 1)).toNat + 1) P [x] T R (a1 + 1) (by omega) h1 (by simp only [List.length_cons, List.length_nil]; omega) (by simp only [List.length_cons, List.length_nil]; omega) (by simp only [List.length_append, List.length_cons, List.length_nil]; omega) (by simpa using hb) (by simpa using hd) (by simp [Srt])
  simpa using this
theorem qGR (a1 a2 a3 : Int) : ∀ (k : Nat) (X Y A B C : List Row) (i : Int), X.length = Y.length → 0 ≤ i → i + X.length ≤ 1000000 → (A ++ (X ++ (B ++ (Y ++ C)))).length ≤ 1000000 → a1 + i = A.length → a2 + i = A.length + X.length + B.length → a3 = i + X.length → X.length < k →
  qG.l0 a1 a2 a3 k (A ++ (X ++ (B ++ (Y ++ C)))) i = some (A ++ (Y ++ (B ++ (X ++ C)))) := by
 intro k
 induction k with
 | zero => intro X Y A B C i _ _ _ _ _ _ _ h; omega
 | succ k ih =>
  intro X Y A B C i hl h0 hi hlen h1 h2 h3 hk
  rw [qG.l0]
  cases X with
  | nil =>
   cases Y with
   | cons y Y => simp at hl
   | nil => rw [decide_eq_false (by simp at h3; omega), cond_false]
  | cons x X =>
   cases Y with
   | nil => simp at hl
   | cons y Y =>
    simp only [List.length_append, List.length_cons] at *
    have e1 : w64 (a1 + i) = A.length := by rw [qNB (by omega), h1]
    have lxb : (X ++ B).length = X.length + B.length := List.length_append
    have e2 : w64 (a2 + i) = A.length + 1 + (X ++ B).length := by rw [qNB (by omega), h2]; omega
    have e : A ++ (x :: X ++ (B ++ (y :: Y ++ C))) = A ++ x :: ((X ++ B) ++ y :: (Y ++ C)) := by simp
    rw [decide_eq_true (by omega), cond_true, e1, e2, e, qYL rfl, Option.bind_some, qZH rfl, Option.bind_some, qPT (by omega), Option.bind_some, Option.bind_some, swapA rfl rfl, qNB (by omega)]
    have := ih X Y (A ++ [y]) (B ++ [x]) C (i + 1) (by omega) (by omega) (by omega) (by simp only [List.length_append, List.length_cons, List.length_nil]; omega) (by simp only [List.length_append, List.length_cons, List.length_nil]; omega) (by simp only [List.length_append, List.length_cons, List.length_nil]; omega) (by omega) (by omega)
    simpa using this
theorem qBI {a1 a2 a3 : Int} (q : Query) {X Y A B C : List Row} (hl : X.length = Y.length) (hlen : (A ++ (X ++ (B ++ (Y ++ C)))).length ≤ 1000000) (h1 : a1 = A.length) (h2 : a2 = A.length + X.length + B.length) (h3 : a3 = X.length) :
  qG.f (A ++ (X ++ (B ++ (Y ++ C)))) a1 a2 a3 q = some (A ++ (Y ++ (B ++ (X ++ C)))) := by
 unfold qG.f
 have hlen' := hlen
 simp only [List.length_append] at hlen'
 exact qGR a1 a2 a3 _ X Y A B C 0 hl (by omega) (by omega) hlen (by omega) (by omega) (by omega) (by omega)
theorem qNW (q : Query) (a2 : Int) : ∀ (k : Nat) (X Y P Q : List Row), X ≠ [] → Y ≠ [] → X.length + Y.length < k → (P ++ (X ++ (Y ++ Q))).length ≤ 1000000 → a2 = P.length + X.length →
  qI.l0 a2 q (fun y1 y2 => (qG.f y1 (w64 (a2 - y2)) a2 y2 q).bind fun r24 => some r24) k (P ++ (X ++ (Y ++ Q))) X.length Y.length = some (P ++ (Y ++ (X ++ Q))) := by
 intro k
 induction k with
 | zero => intro X Y P Q _ _ h; omega
 | succ k ih =>
  intro X Y P Q hx hy hk hlen h2
  have lx : 0 < X.length := List.length_pos_iff.2 hx
  have ly : 0 < Y.length := List.length_pos_iff.2 hy
  simp only [List.length_append] at hlen
  rw [qI.l0]
  by_cases he : X.length = Y.length
  ·
   rw [decide_eq_false (by omega), cond_false, qNB (by omega)]
   have := qBI (a1 := a2 - X.length) (a2 := a2) (a3 := X.length) q (X := X) (Y := Y) (A := P) (B := []) (C := Q) he (by simp only [List.length_append, List.length_nil]; omega) (by omega) (by simp only [List.length_nil]; omega) rfl
   simp only [List.nil_append] at this
   rw [this]; rfl
  rw [decide_eq_true (by omega), cond_true]
  by_cases hg : Y.length < X.length
  ·
   rw [decide_eq_true (by omega), cond_true, qNB (by omega), qNB (by omega)]
   obtain ⟨X1, X2, rfl, l1⟩ : ∃ X1 X2, X = X1 ++ X2 ∧ X1.length = Y.length := ⟨X.take Y.length, X.drop Y.length, (List.take_append_drop ..).symm, by rw [List.length_take]; omega⟩
   rw [List.length_append] at *
   have := qBI (a1 := a2 - (X1.length + X2.length : Nat)) (a2 := a2) (a3 := Y.length) q (X := X1) (Y := Y) (A := P) (B := X2) (C := Q) l1 (by simp only [List.length_append]; omega) (by omega) (by omega) (by omega)
   rw [show P ++ (X1 ++ X2 ++ (Y ++ Q)) = P ++ (X1 ++ (X2 ++ (Y ++ Q))) by simp, this, Option.bind_some]
   have h := ih X2 X1 (P ++ Y) Q (by rintro rfl; simp at *; omega) (by rintro rfl; simp at *; omega) (by omega) (by simp only [List.length_append]; omega) (by simp only [List.length_append]; omega)
   rw [show ((X1.length + X2.length : Nat) : Int) - Y.length = X2.length by omega, show (Y.length : Int) = X1.length by omega]
   simpa using h
  rw [decide_eq_false (by omega), cond_false, qNB (by omega), qNB (x := a2 + Y.length) (by omega), qNB (by omega), qNB (by omega)]
  obtain ⟨Y1, Y2, rfl, l1⟩ : ∃ Y1 Y2, Y = Y1 ++ Y2 ∧ Y2.length = X.length := ⟨Y.take (Y.length - X.length), Y.drop (Y.length - X.length), (List.take_append_drop ..).symm, by rw [List.length_drop]; omega⟩
  rw [List.length_append] at *
  have := qBI (a1 := a2 - X.length) (a2 := a2 + (Y1.length + Y2.length : Nat) - X.length) (a3 := X.length) q (X := X) (Y := Y2) (A := P) (B := Y1) (C := Q) l1.symm (by simp only [List.length_append]; omega) (by omega) (by omega) (by omega)
  rw [show P ++ (X ++ (Y1 ++ Y2 ++ Q)) = P ++ (X ++ (Y1 ++ (Y2 ++ Q))) by simp, this, Option.bind_some]
  have h := ih Y2 Y1 P (X ++ Q) (by rintro rfl; simp at *; omega) (by rintro rfl; simp at *; omega) (by omega) (by simp only [List.length_append]; omega) (by omega)
  rw [show ((Y1.length + Y2.length : Nat) : Int) - X.length = Y1.length by omega, show (X.length : Int) = Y2.length by omega]
  simpa using h
theorem qOW (q : Query) {a1 a2 a3 : Int} {X Y P Q : List Row} (hx : X ≠ []) (hy : Y ≠ []) (hlen : (P ++ (X ++ (Y ++ Q))).length ≤ 900) (h1 : a1 = P.length) (h2 : a2 = P.length + X.length) (h3 : a3 = P.length + X.length + Y.length) :
  qI.f (P ++ (X ++ (Y ++ Q))) a1 a2 a3 q = some (P ++ (Y ++ (X ++ Q))) := by
 unfold qI.f
 simp only [List.length_append] at hlen
 rw [qiB, qNB (by omega), qNB (by omega), show a2 - a1 = X.length by omega, show a3 - a2 = Y.length by omega]
 exact qNW q a2 1000 X Y P Q hx hy (by omega) (by simp only [List.length_append]; omega) h2
theorem Srt.tr1 {q : Query} {l : List Row} (h : Srt q l) {i j : Nat} {x y z : Row} (hij : i ≤ j) (hx : l[i]? = some x) (hy : l[j]? = some y) (hz : aheadB q y z = true) : aheadB q x z = true := by
 rcases Nat.lt_or_ge i j with h1 | h1
 · exact qYH (h.at h1 hx hy) hz
 obtain rfl : i = j := by omega
 rw [hx] at hy; cases hy; exact hz
theorem Srt.tr2 {q : Query} {l : List Row} (h : Srt q l) {i j : Nat} {x y z : Row} (hij : i ≤ j) (hx : l[i]? = some x) (hy : l[j]? = some y) (hz : aheadB q z x = true) : aheadB q z y = true := by
 rcases Nat.lt_or_ge i j with h1 | h1
 · exact qYH hz (h.at h1 hx hy)
 obtain rfl : i = j := by omega
 rw [hx] at hy; cases hy; exact hz
theorem symUp (y4 : Int) : ∀ (k : Nat) (Y A C : List Row) (x : Row) (i : Int), Y.length < k → i = A.length → y4 = A.length + 1 + Y.length → (A ++ x :: (Y ++ C)).length ≤ 1000000 →
  qA.l1 y4 k (A ++ x :: (Y ++ C)) i = some (A ++ (Y ++ x :: C)) := by
 intro k
 induction k with
 | zero => intro Y A C x i h; omega
 | succ k ih =>
  intro Y A C x i hk h1 h2 hlen
  simp only [List.length_append, List.length_cons] at hlen
  rw [qA.l1, qNB (x := y4 - 1) (by omega)]
  cases Y with
  | nil =>
   simp only [List.length_nil] at h2
   rw [decide_eq_false (by omega), cond_false]; rfl
  | cons y Y =>
   simp only [List.length_cons] at h2 hk hlen
   rw [decide_eq_true (by omega), cond_true, qNB (by omega), show A ++ x :: (y :: Y ++ C) = A ++ x :: ([] ++ y :: (Y ++ C)) by simp, qYL (by simp only [List.length_nil]; omega), Option.bind_some, qZH h1, Option.bind_some, qPT (by omega), Option.bind_some, Option.bind_some, swapA h1 (by simp only [List.length_nil]; omega)]
   have := ih Y (A ++ [y]) C x (i + 1) (by omega) (by simp only [List.length_append, List.length_cons, List.length_nil]; omega) (by simp only [List.length_append, List.length_cons, List.length_nil]; omega) (by simp only [List.length_append, List.length_cons, List.length_nil]; omega)
   simpa using this
theorem symDown (y39 : Int) : ∀ (k n : Nat) (Y A C : List Row) (x : Row) (i : Int), Y.length = n → n < k → i = A.length + Y.length → y39 = A.length → (A ++ (Y ++ x :: C)).length ≤ 1000000 →
  qA.l3 y39 k (A ++ (Y ++ x :: C)) i = some (A ++ x :: (Y ++ C)) := by
 intro k
 induction k with
 | zero => intro n Y A C x i _ h; omega
 | succ k ih =>
  intro n Y A C x i hn hk h1 h2 hlen
  simp only [List.length_append, List.length_cons] at hlen
  rw [qA.l3]
  cases n with
  | zero =>
   obtain rfl := List.length_eq_zero_iff.1 hn
   rw [decide_eq_false (by simp at h1; omega), cond_false]; rfl
  | succ n =>
   obtain ⟨S, y, rfl⟩ : ∃ S y, Y = S ++ [y] := ⟨Y.dropLast, Y.getLast (by rintro rfl; simp at hn), (List.dropLast_concat_getLast _).symm⟩
   simp only [List.length_append, List.length_cons, List.length_nil] at hn h1 hlen
   have lps : (A ++ S).length = A.length + S.length := List.length_append
   rw [decide_eq_true (by omega), cond_true, qNB (by omega), show A ++ (S ++ [y] ++ x :: C) = (A ++ S) ++ y :: ([] ++ x :: C) by simp, qZH (by omega), Option.bind_some, qYL (by simp only [List.length_nil]; omega), Option.bind_some, qPT (by omega), Option.bind_some, Option.bind_some, swapB (by omega) (by simp only [List.length_nil]; omega)]
   have := ih n S A (y :: C) x (i - 1) (by omega) (by omega) (by omega) h2 (by simp only [List.length_append, List.length_cons]; omega)
   simpa using this
theorem symOne (self : List Row → Int → Int → Int → Query → Option (List Row)) (q : Query) {P R Q : List Row} {x : Row} {a m b : Int} (ha : a = P.length) (hm : m = P.length + 1) (hb' : b = P.length + 1 + R.length) (hlen : (P ++ ([x] ++ (R ++ Q))).length ≤ 900) (hb : ∀ y ∈ [x] ++ R, Row_b y) (hd : Dst ([x] ++ R)) (hR : Srt q R) :
  ∃ M, qA.b self (P ++ ([x] ++ (R ++ Q))) a m b q = some (P ++ (M ++ Q)) ∧ M.Perm ([x] ++ R) ∧ Srt q M := by
 have hlen' := hlen
 simp only [List.length_append, List.length_cons, List.length_nil] at hlen'
 unfold qA.b
 rw [qiB, qNB (x := m - a) (by omega), decide_eq_true (by omega), cond_true, qiB]
 have hx : Row_b x := hb x (by simp)
 have hR' : ∀ c, P.length + 1 ≤ c → c < P.length + 1 + R.length → ∃ y, R[c - (P.length + 1)]? = some y ∧ y ∈ R ∧ getO (P ++ ([x] ++ (R ++ Q))) (c : Int) = some y := by
  intro c h1 h2
  have h3 : c - (P.length + 1) < R.length := by omega
  refine ⟨R[c - (P.length + 1)], List.getElem?_eq_getElem h3, List.getElem_mem h3, ?_⟩
  rw [show P ++ ([x] ++ (R ++ Q)) = (P ++ [x]) ++ (R ++ Q) by simp, qZL (by simp; omega) (by simp; omega)]
  simp only [List.length_append, List.length_cons, List.length_nil]
  exact List.getElem?_eq_getElem h3
 have h0 : getO (P ++ ([x] ++ (R ++ Q))) a = some x := qZH ha
 generalize hK : (fun y4 => qA.l1 y4 ((w64 (y4 - 1) - a).toNat + 1) (P ++ ([x] ++ (R ++ Q))) a) = K
 obtain ⟨t, t1, t2, t3, t4, t5⟩ := bsearch (f := fun k i j => qA.l0 (P ++ ([x] ++ (R ++ Q))) a q K k i j) (K := K) (fun c => aheadB q (R.getD (c - (P.length + 1)) default) x) (P.length + 1) (P.length + 1 + R.length)
  (fun c c' h1 h2 h3 h4 => by
   obtain ⟨y, e1, _, _⟩ := hR' c h1 (by omega)
   obtain ⟨y', e2, _, _⟩ := hR' c' (by omega) h3
   rw [List.getD_eq_getElem?_getD, e1, Option.getD_some] at h4
   rw [List.getD_eq_getElem?_getD, e2, Option.getD_some]
   cases hh : aheadB q y' x with
   | false => rfl
   | true => rw [hR.tr1 (by omega) e1 e2 hh] at h4; cases h4)
  (fun k i j h1 h2 h3 => by
   obtain ⟨y, e1, hy, e2⟩ := hR' ((i + j) / 2) (by omega) (by omega)
   show qA.l0 _ a q K (k + 1) i j = _
   rw [qA.l0, decide_eq_true (by omega), cond_true, qHM (n := i + j) (by omega) (by omega), e2, Option.bind_some, h0, Option.bind_some, qTE y x q (hb y (by simp [hy])) hx, Option.bind_some, List.getD_eq_getElem?_getD, e1, Option.getD_some, qAB (by omega)]
   cases aheadB q y x with
   | true => rw [if_pos rfl, decide_eq_true (by omega), cond_true, if_pos rfl]
   | false => rw [if_neg (by simp), decide_eq_false (by omega), cond_false, if_neg (by simp)])
  (fun k i => by
   show qA.l0 _ a q K (k + 1) i i = _
   rw [qA.l0, decide_eq_false (by omega), cond_false])
  ((b - m).toNat + 1) (P.length + 1) (P.length + 1 + R.length) (Nat.le_refl _) (by omega) (Nat.le_refl _) (by omega)
 rw [show m = ((P.length + 1 : Nat) : Int) by omega, show b = ((P.length + 1 + R.length : Nat) : Int) by omega] at *
 rw [t3, ← hK]
 obtain ⟨R1, R2, eR, l1⟩ : ∃ R1 R2, R = R1 ++ R2 ∧ R1.length = t - (P.length + 1) := ⟨R.take (t - (P.length + 1)), R.drop (t - (P.length + 1)), (List.take_append_drop ..).symm, by rw [List.length_take]; omega⟩
 have lR : R.length = R1.length + R2.length := by rw [eR, List.length_append]
 have s1 : ∀ y ∈ R1, aheadB q y x = true := fun y hy => by
  obtain ⟨i, hi⟩ := List.getElem?_of_mem hy
  have hi' := at_lt hi
  have := t4 (P.length + 1 + i) (by omega) (by omega)
  rw [Nat.add_sub_cancel_left, List.getD_eq_getElem?_getD, eR, List.getElem?_append_left hi', hi] at this
  exact this
 have s2 : ∀ y ∈ R2, aheadB q x y = true := fun y hy => by
  obtain ⟨i, hi⟩ := List.getElem?_of_mem hy
  have hi' := at_lt hi
  have := t5 (P.length + 1 + (R1.length + i)) (by omega) (by omega)
  rw [Nat.add_sub_cancel_left, List.getD_eq_getElem?_getD, eR, List.getElem?_append_right (by omega), Nat.add_sub_cancel_left, hi] at this
  exact qPG (fun e => hd.app.2.2 x (by simp) y (by rw [eR]; simp [hy]) e.symm) this
 refine ⟨R1 ++ x :: R2, ?_, ?_, ?_⟩
 ·
  have := symUp (t : Int) ((w64 ((t : Int) - 1) - a).toNat + 1) R1 P (R2 ++ Q) x a (by rw [qNB (by omega)]; omega) ha (by omega) (by simp only [List.length_append, List.length_cons]; omega)
  rw [eR]
  simpa using this
 · rw [eR]; exact List.perm_middle
 ·
  rw [eR] at hR
  exact Srt.app.2 ⟨(Srt.app.1 hR).1, List.pairwise_cons.2 ⟨s2, (Srt.app.1 hR).2.1⟩, fun y hy z hz => by
   rcases List.mem_cons.1 hz with rfl | h
   · exact s1 y hy
   exact (Srt.app.1 hR).2.2 y hy z h⟩
theorem symLast (self : List Row → Int → Int → Int → Query → Option (List Row)) (q : Query) {P L Q : List Row} {x : Row} {a m b : Int} (hL0 : L.length ≠ 1) (ha : a = P.length) (hm : m = P.length + L.length) (hb' : b = P.length + L.length + 1) (hlen : (P ++ (L ++ ([x] ++ Q))).length ≤ 900) (hb : ∀ y ∈ L ++ [x], Row_b y) (hd : Dst (L ++ [x])) (hL : Srt q L) :
  ∃ M, qA.b self (P ++ (L ++ ([x] ++ Q))) a m b q = some (P ++ (M ++ Q)) ∧ M.Perm (L ++ [x]) ∧ Srt q M := by
 have hlen' := hlen
 simp only [List.length_append, List.length_cons, List.length_nil] at hlen'
 unfold qA.b
 rw [qiB, qNB (x := m - a) (by omega), decide_eq_false (by omega), cond_false, qiB, qNB (x := b - m) (by omega), decide_eq_true (by omega), cond_true, qiB]
 have hx : Row_b x := hb x (by simp)
 have hL' : ∀ c, P.length ≤ c → c < P.length + L.length → ∃ y, L[c - P.length]? = some y ∧ y ∈ L ∧ getO (P ++ (L ++ ([x] ++ Q))) (c : Int) = some y := by
  intro c h1 h2
  have h3 : c - P.length < L.length := by omega
  refine ⟨L[c - P.length], List.getElem?_eq_getElem h3, List.getElem_mem h3, ?_⟩
  rw [qZL (by omega) (by omega)]
  exact List.getElem?_eq_getElem h3
 have h0 : getO (P ++ (L ++ ([x] ++ Q))) m = some x := by
  rw [show P ++ (L ++ ([x] ++ Q)) = (P ++ L) ++ x :: Q by simp]
  exact qZH (by simp only [List.length_append]; omega)
 generalize hK : (fun y39 => qA.l3 y39 ((m - y39).toNat + 1) (P ++ (L ++ ([x] ++ Q))) m) = K
 obtain ⟨t, t1, t2, t3, t4, t5⟩ := bsearch (f := fun k i j => qA.l2 (P ++ (L ++ ([x] ++ Q))) m q K k i j) (K := K) (fun c => !aheadB q x (L.getD (c - P.length) default)) P.length (P.length + L.length)
  (fun c c' h1 h2 h3 h4 => by
   obtain ⟨y, e1, _, _⟩ := hL' c h1 (by omega)
   obtain ⟨y', e2, _, _⟩ := hL' c' (by omega) h3
   rw [List.getD_eq_getElem?_getD, e1, Option.getD_some] at h4
   rw [List.getD_eq_getElem?_getD, e2, Option.getD_some]
   cases hh : aheadB q x y with
   | false => rw [hh] at h4; cases h4
   | true => rw [hL.tr2 (by omega) e1 e2 hh]; rfl)
  (fun k i j h1 h2 h3 => by
   obtain ⟨y, e1, hy, e2⟩ := hL' ((i + j) / 2) (by omega) (by omega)
   show qA.l2 _ m q K (k + 1) i j = _
   rw [qA.l2, decide_eq_true (by omega), cond_true, qHM (n := i + j) (by omega) (by omega), h0, Option.bind_some, e2, Option.bind_some, qTE x y q hx (hb y (by simp [hy])), Option.bind_some, List.getD_eq_getElem?_getD, e1, Option.getD_some, qAB (by omega), qTC]
   cases aheadB q x y with
   | true => rw [if_pos rfl, decide_eq_true (by omega), Bool.not_true, cond_false, if_neg (by simp)]
   | false => rw [if_neg (by simp), decide_eq_false (by omega), Bool.not_false, cond_true, if_pos rfl])
  (fun k i => by
   show qA.l2 _ m q K (k + 1) i i = _
   rw [qA.l2, decide_eq_false (by omega), cond_false])
  ((m - a).toNat + 1) P.length (P.length + L.length) (Nat.le_refl _) (by omega) (Nat.le_refl _) (by omega)
 rw [show a = ((P.length : Nat) : Int) by omega, show m = ((P.length + L.length : Nat) : Int) by omega] at *
 rw [t3, ← hK]
 obtain ⟨L1, L2, eL, l1⟩ : ∃ L1 L2, L = L1 ++ L2 ∧ L1.length = t - P.length := ⟨L.take (t - P.length), L.drop (t - P.length), (List.take_append_drop ..).symm, by rw [List.length_take]; omega⟩
 have lL : L.length = L1.length + L2.length := by rw [eL, List.length_append]
 have s1 : ∀ y ∈ L1, aheadB q y x = true := fun y hy => by
  obtain ⟨i, hi⟩ := List.getElem?_of_mem hy
  have hi' := at_lt hi
  have := t4 (P.length + i) (by omega) (by omega)
  rw [Nat.add_sub_cancel_left, List.getD_eq_getElem?_getD, eL, List.getElem?_append_left hi', hi, Option.getD_some, Bool.not_eq_true'] at this
  exact qPG (fun e => hd.app.2.2 y (by rw [eL]; simp [hy]) x (by simp) e.symm) this
 have s2 : ∀ y ∈ L2, aheadB q x y = true := fun y hy => by
  obtain ⟨i, hi⟩ := List.getElem?_of_mem hy
  have hi' := at_lt hi
  have := t5 (P.length + (L1.length + i)) (by omega) (by omega)
  rw [Nat.add_sub_cancel_left, List.getD_eq_getElem?_getD, eL, List.getElem?_append_right (by omega), Nat.add_sub_cancel_left, hi, Option.getD_some, Bool.not_eq_false'] at this
  exact this
 refine ⟨L1 ++ x :: L2, ?_, ?_, ?_⟩
 ·
  have lpl : (P ++ L1).length = P.length + L1.length := List.length_append
  have := symDown (t : Int) ((((P.length + L.length : Nat) : Int) - t).toNat + 1) L2.length L2 (P ++ L1) Q x ((P.length + L.length : Nat) : Int) rfl (by omega) (by omega) (by omega) (by simp only [List.length_append, List.length_cons]; omega)
  rw [eL] at this ⊢
  simpa using this
 · rw [eL]; simpa using List.Perm.append_left L1 (List.perm_append_comm (l₁ := [x]) (l₂ := L2))
 ·
  rw [eL] at hL
  exact Srt.app.2 ⟨(Srt.app.1 hL).1, List.pairwise_cons.2 ⟨s2, (Srt.app.1 hL).2.1⟩, fun y hy z hz => by
   rcases List.mem_cons.1 hz with rfl | h
   · exact s1 y hy
   exact (Srt.app.1 hL).2.2 y hy z h⟩
theorem symIf (self : List Row → Int → Int → Int → Query → Option (List Row)) (q : Query) {P L R Q : List Row} {a m b : Int} (K : List Row → Option (List Row)) (ha : a = P.length) (hm : m = P.length + L.length) (hb' : b = P.length + L.length + R.length) (hL : Srt q L) (hR : Srt q R)
  (ih : L ≠ [] → R ≠ [] → ∃ M, self (P ++ (L ++ (R ++ Q))) a m b q = some (P ++ (M ++ Q)) ∧ M.Perm (L ++ R) ∧ Srt q M) :
  ∃ M, (bif (bo3 (decide (a < m)) (decide (m < b)) false) then ((self (P ++ (L ++ (R ++ Q))) a m b q).bind fun r => K r) else K (P ++ (L ++ (R ++ Q)))) = K (P ++ (M ++ Q)) ∧ M.Perm (L ++ R) ∧ Srt q M := by
 by_cases h1 : L = []
 ·
  subst h1
  simp only [List.length_nil] at hm
  rw [decide_eq_false (by omega), bo3_F, cond_false]
  exact ⟨R, rfl, List.Perm.refl _, hR⟩
 ·
  by_cases h2 : R = []
  ·
   subst h2
   simp only [List.length_nil] at hb'
   rw [decide_eq_false (p := m < b) (by omega), qAE, Bool.and_false, cond_false]
   exact ⟨L, rfl, by simp, hL⟩
  have g1 : 0 < L.length := List.length_pos_iff.2 h1
  have g2 : 0 < R.length := List.length_pos_iff.2 h2
  obtain ⟨M, e1, e2, e3⟩ := ih h1 h2
  rw [decide_eq_true (by omega), decide_eq_true (by omega), bo3_T, cond_true, e1]
  exact ⟨M, rfl, e2, e3⟩
theorem symRot (q : Query) {P L R Q : List Row} {a m b : Int} (K : List Row → Int → Option (List Row)) (ha : a = P.length) (hm : m = P.length + L.length) (hb' : b = P.length + L.length + R.length) (hlen : (P ++ (L ++ (R ++ Q))).length ≤ 900) :
  (bif (bo3 (decide (a < m)) (decide (m < b)) false) then ((qI.f (P ++ (L ++ (R ++ Q))) a m b q).bind fun r => K r b) else K (P ++ (L ++ (R ++ Q))) b) = K (P ++ (R ++ (L ++ Q))) b := by
 by_cases h1 : L = []
 ·
  subst h1
  simp only [List.length_nil] at hm
  rw [decide_eq_false (by omega), bo3_F, cond_false]
  rfl
 ·
  by_cases h2 : R = []
  ·
   subst h2
   simp only [List.length_nil] at hb'
   rw [decide_eq_false (p := m < b) (by omega), qAE, Bool.and_false, cond_false]
   rfl
  have g1 : 0 < L.length := List.length_pos_iff.2 h1
  have g2 : 0 < R.length := List.length_pos_iff.2 h2
  rw [decide_eq_true (by omega), decide_eq_true (by omega), bo3_T, cond_true, qOW q h1 h2 hlen ha hm hb', Option.bind_some]
theorem symSearch (q : Query) (K : Int → Option (List Row)) {P L R Q : List Row} (hlen : (P ++ (L ++ (R ++ Q))).length ≤ 900) (hb : ∀ y ∈ L ++ R, Row_b y) (hL : Srt q L) (hR : Srt q R) (lo hi : Nat) (p : Nat) (h1 : P.length ≤ lo) (h2 : hi ≤ P.length + L.length) (hle : lo ≤ hi) (h3 : ∀ c, lo ≤ c → c < hi → P.length + L.length ≤ p - c ∧ c ≤ p ∧ p - c < P.length + L.length + R.length) (k : Nat) (hk : hi - lo < k) :
  ∃ t : Nat, lo ≤ t ∧ t ≤ hi ∧ qA.l4 (P ++ (L ++ (R ++ Q))) q K k lo hi p = K t ∧
   (∀ c, lo ≤ c → c < t → ∀ x y, L[c - P.length]? = some x → R[p - c - (P.length + L.length)]? = some y → aheadB q y x = false) ∧
   (∀ c, t ≤ c → c < hi → ∀ x y, L[c - P.length]? = some x → R[p - c - (P.length + L.length)]? = some y → aheadB q y x = true) := by
 simp only [List.length_append] at hlen
 have hL' : ∀ c, P.length ≤ c → c < P.length + L.length → ∃ y, L[c - P.length]? = some y ∧ y ∈ L ∧ getO (P ++ (L ++ (R ++ Q))) (c : Int) = some y := by
  intro c h1 h2
  have h3 : c - P.length < L.length := by omega
  refine ⟨L[c - P.length], List.getElem?_eq_getElem h3, List.getElem_mem h3, ?_⟩
  rw [qZL (by omega) (by omega)]
  exact List.getElem?_eq_getElem h3
 have hR' : ∀ c, P.length + L.length ≤ c → c < P.length + L.length + R.length → ∃ y, R[c - (P.length + L.length)]? = some y ∧ y ∈ R ∧ getO (P ++ (L ++ (R ++ Q))) (c : Int) = some y := by
  intro c h1 h2
  have h3 : c - (P.length + L.length) < R.length := by omega
  refine ⟨R[c - (P.length + L.length)], List.getElem?_eq_getElem h3, List.getElem_mem h3, ?_⟩
  rw [show P ++ (L ++ (R ++ Q)) = (P ++ L) ++ (R ++ Q) by simp, qZL (by simp only [List.length_append]; omega) (by simp only [List.length_append]; omega)]
  simp only [List.length_append]
  exact List.getElem?_eq_getElem h3
 obtain ⟨t, t1, t2, t3, t4, t5⟩ := bsearch (f := fun k i j => qA.l4 (P ++ (L ++ (R ++ Q))) q K k i j p) (K := K) (fun c => !aheadB q (R.getD (p - c - (P.length + L.length)) default) (L.getD (c - P.length) default)) lo hi
  (fun c c' g1 g2 g3 g4 => by
   obtain ⟨x, e1, _, _⟩ := hL' c (by omega) (by omega)
   obtain ⟨x', e2, _, _⟩ := hL' c' (by omega) (by omega)
   obtain ⟨u1, u2, u3⟩ := h3 c g1 (by omega)
   obtain ⟨v1, v2, v3⟩ := h3 c' (by omega) g3
   obtain ⟨y, f1, _, _⟩ := hR' (p - c) u1 u3
   obtain ⟨y', f2, _, _⟩ := hR' (p - c') v1 v3
   rw [List.getD_eq_getElem?_getD, f1, Option.getD_some, List.getD_eq_getElem?_getD, e1, Option.getD_some] at g4
   rw [List.getD_eq_getElem?_getD, f2, Option.getD_some, List.getD_eq_getElem?_getD, e2, Option.getD_some]
   cases hh : aheadB q y x with
   | false => rw [hh] at g4; cases g4
   | true => rw [hR.tr1 (by omega) f2 f1 (hL.tr2 (by omega) e1 e2 hh)]; rfl)
  (fun k i j g1 g2 g3 => by
   obtain ⟨u1, u2, u3⟩ := h3 ((i + j) / 2) (by omega) (by omega)
   obtain ⟨x, e1, hx, e2⟩ := hL' ((i + j) / 2) (by omega) (by omega)
   obtain ⟨y, f1, hy, f2⟩ := hR' (p - (i + j) / 2) u1 u3
   show qA.l4 _ q K (k + 1) i j p = _
   rw [qA.l4, decide_eq_true (by omega), cond_true, qHM (n := i + j) (by omega) (by omega), qNB (x := (p : Int) - _) (by omega), show (p : Int) - ((i + j) / 2 : Nat) = ((p - (i + j) / 2 : Nat) : Int) by omega, f2, Option.bind_some, e2, Option.bind_some, qTE y x q (hb y (by simp [hy])) (hb x (by simp [hx])), Option.bind_some, List.getD_eq_getElem?_getD, f1, Option.getD_some, List.getD_eq_getElem?_getD, e1, Option.getD_some, qAB (by omega), qTC]
   cases aheadB q y x with
   | true => rw [if_pos rfl, decide_eq_true (by omega), Bool.not_true, cond_false, if_neg (by simp)]
   | false => rw [if_neg (by simp), decide_eq_false (by omega), Bool.not_false, cond_true, if_pos rfl])
  (fun k i => by
   show qA.l4 _ q K (k + 1) i i p = _
   rw [qA.l4, decide_eq_false (by omega), cond_false])
  k lo hi (Nat.le_refl _) hle (Nat.le_refl _) hk
 refine ⟨t, t1, t2, t3, fun c g1 g2 x y e f => ?_, fun c g1 g2 x y e f => ?_⟩
 ·
  have := t4 c g1 g2
  rw [List.getD_eq_getElem?_getD, f, Option.getD_some, List.getD_eq_getElem?_getD, e, Option.getD_some, Bool.not_eq_true'] at this
  exact this
 ·
  have := t5 c g1 g2
  rw [List.getD_eq_getElem?_getD, f, Option.getD_some, List.getD_eq_getElem?_getD, e, Option.getD_some, Bool.not_eq_false'] at this
  exact this
theorem qaY {R : Type} {c : Bool} {a1 a2 a3 a4 b1 b2 b3 b4 : Int} (k : Int → Int → Int → Int → Option R) : joinK k (fun K => bif c then K a1 a2 a3 a4 else K b1 b2 b3 b4) = k (bif c then a1 else b1) (bif c then a2 else b2) (bif c then a3 else b3) (bif c then a4 else b4) := by cases c <;> rfl
theorem symFin (self : List Row → Int → Int → Int → Query → Option (List Row)) (q : Query) {P L1 L2 R1 R2 Q : List Row} {a m b t mid e : Int} (ha : a = P.length) (ht : t = P.length + L1.length) (hm : m = t + L2.length) (hmid : mid = t + R1.length) (he : e = m + R1.length) (hb' : b = e + R2.length) (hlen : P.length + (L1.length + (L2.length + (R1.length + (R2.length + Q.length)))) ≤ 900)
  (hd' : Dst (L1 ++ L2 ++ (R1 ++ R2))) (hL' : Srt q (L1 ++ L2)) (hR' : Srt q (R1 ++ R2)) (i1 : ∀ x ∈ L1, ∀ y ∈ R2, aheadB q x y = true) (i2 : ∀ y ∈ R1, ∀ x ∈ L2, aheadB q y x = true)
  (ih1 : L1 ≠ [] → R1 ≠ [] → ∃ M, self (P ++ (L1 ++ (R1 ++ (L2 ++ (R2 ++ Q))))) a t mid q = some (P ++ (M ++ (L2 ++ (R2 ++ Q)))) ∧ M.Perm (L1 ++ R1) ∧ Srt q M)
  (ih2 : ∀ M1 : List Row, M1.length = L1.length + R1.length → L2 ≠ [] → R2 ≠ [] → ∃ M, self ((P ++ M1) ++ (L2 ++ (R2 ++ Q))) mid e b q = some ((P ++ M1) ++ (M ++ Q)) ∧ M.Perm (L2 ++ R2) ∧ Srt q M) :
  ∃ M, joinK (fun (y105 : List Row) (y106 : Int) => joinK (fun (y115 : List Row) =>
 bif (bo3 (decide (mid < y106)) (decide (y106 < b)) false) then (
 (self y115 mid y106 b q).bind fun r130 =>
 some r130)
 else (
 some y115)) (fun K116 =>
 bif (bo3 (decide (a < t)) (decide (t < mid)) false) then (
 (self y105 a t mid q).bind fun r123 =>
 K116 r123)
 else (
 K116 y105))) (fun K107 =>
 bif (bo3 (decide (t < m)) (decide (m < e)) false) then (
 (qI.f (P ++ L1 ++ (L2 ++ (R1 ++ (R2 ++ Q)))) t m e q).bind fun r114 =>
 K107 r114 e)
 else (
 K107 (P ++ L1 ++ (L2 ++ (R1 ++ (R2 ++ Q)))) e)) = some (P ++ (M ++ Q)) ∧ M.Perm (L1 ++ L2 ++ (R1 ++ R2)) ∧ Srt q M := by
 have sL := Srt.app.1 hL'
 have sR := Srt.app.1 hR'
 have perm : (L1 ++ L2 ++ (R1 ++ R2)).Perm ((L1 ++ R1) ++ (L2 ++ R2)) := by
  simp only [List.append_assoc]
  refine List.Perm.append_left L1 ?_
  rw [← List.append_assoc, ← List.append_assoc]
  exact List.Perm.append_right R2 List.perm_append_comm
 have lp1 : (P ++ L1).length = P.length + L1.length := List.length_append
 have rot := symRot q (P := P ++ L1) (L := L2) (R := R1) (Q := R2 ++ Q) (a := t) (m := m) (b := e) (fun (y105 : List Row) (y106 : Int) => joinK (fun (y115 : List Row) =>
 bif (bo3 (decide (mid < y106)) (decide (y106 < b)) false) then (
 (self y115 mid y106 b q).bind fun r130 =>
 some r130)
 else (
 some y115)) (fun K116 =>
 bif (bo3 (decide (a < t)) (decide (t < mid)) false) then (
 (self y105 a t mid q).bind fun r123 =>
 K116 r123)
 else (
 K116 y105))) (by omega) (by omega) (by omega) (by simp only [List.length_append]; omega)
 obtain ⟨M1, s1, p1, m1⟩ := symIf self q (P := P) (L := L1) (R := R1) (Q := L2 ++ (R2 ++ Q)) (a := a) (m := t) (b := mid) (fun y115 => bif (bo3 (decide (mid < e)) (decide (e < b)) false) then ((self y115 mid e b q).bind fun r130 => some r130) else (some y115)) ha (by omega) (by omega) sL.1 sR.1 ih1
 have lM : M1.length = L1.length + R1.length := by rw [p1.length_eq, List.length_append]
 have lpm : (P ++ M1).length = P.length + M1.length := List.length_append
 obtain ⟨M2, s2, p2, m2⟩ := symIf self q (P := P ++ M1) (L := L2) (R := R2) (Q := Q) (a := mid) (m := e) (b := b) (fun r => some r) (by omega) (by omega) (by omega) sL.2.1 sR.2.1 (ih2 M1 lM)
 refine ⟨M1 ++ M2, ?_, ?_, Srt.app.2 ⟨m1, m2, fun x hx y hy => ?_⟩⟩
 ·
  rw [qiB]
  rw [rot, qiB, List.append_assoc P L1]
  rw [s1, ← List.append_assoc P M1, s2]
  simp
 · exact (p1.append p2).trans perm.symm
 ·
  have hx := p1.mem_iff.1 hx
  have hy := p2.mem_iff.1 hy
  rcases List.mem_append.1 hx with hx | hx <;> rcases List.mem_append.1 hy with hy | hy
  · exact sL.2.2 x hx y hy
  · exact i1 x hx y hy
  · exact i2 x hx y hy
  exact sR.2.2 x hx y hy
theorem symMid (self : List Row → Int → Int → Int → Query → Option (List Row)) (q : Query) {P L R Q : List Row} {a m b : Int} (hL1 : L.length ≠ 1) (hR1 : R.length ≠ 1) (hL0 : L ≠ []) (hR0 : R ≠ []) (ha : a = P.length) (hm : m = P.length + L.length) (hb' : b = P.length + L.length + R.length) (hlen : (P ++ (L ++ (R ++ Q))).length ≤ 900)
  (hb : ∀ y ∈ L ++ R, Row_b y) (hd : Dst (L ++ R)) (hL : Srt q L) (hR : Srt q R)
  (ih : ∀ P' L' R' Q' : List Row, L' ≠ [] → R' ≠ [] → L'.length + R'.length < L.length + R.length → (P' ++ (L' ++ (R' ++ Q'))).length ≤ 900 → (∀ y ∈ L' ++ R', y ∈ L ++ R) → Dst (L' ++ R') → Srt q L' → Srt q R' → ∀ a' m' b' : Int, a' = P'.length → m' = P'.length + L'.length → b' = P'.length + L'.length + R'.length →
   ∃ M, self (P' ++ (L' ++ (R' ++ Q'))) a' m' b' q = some (P' ++ (M ++ Q')) ∧ M.Perm (L' ++ R') ∧ Srt q M) :
  ∃ M, qA.b self (P ++ (L ++ (R ++ Q))) a m b q = some (P ++ (M ++ Q)) ∧ M.Perm (L ++ R) ∧ Srt q M := by
 have hlen' := hlen
 simp only [List.length_append] at hlen'
 have lL : 0 < L.length := List.length_pos_iff.2 hL0
 have lR : 0 < R.length := List.length_pos_iff.2 hR0
 unfold qA.b
 rw [qiB, qNB (x := m - a) (by omega), decide_eq_false (by omega), cond_false, qiB, qNB (x := b - m) (by omega), decide_eq_false (by omega), cond_false]
 obtain ⟨mid, hmid⟩ : ∃ mid : Nat, mid = (P.length + (P.length + L.length + R.length)) / 2 := ⟨_, rfl⟩
 rw [qHM (x := a + b) (n := P.length + (P.length + L.length + R.length)) (by omega) (by omega), ← hmid, qNB (x := (mid : Int) + m) (by omega), qNB (x := (mid : Int) + m - b) (by omega)]
 obtain ⟨lo, hi, hlo, hhi, hcase⟩ : ∃ lo hi : Nat, (if (mid : Int) < m then (mid : Int) + m - b else a) = lo ∧ (if (mid : Int) < m then (mid : Int) else m) = hi ∧ ((mid < P.length + L.length ∧ (lo : Int) = mid + m - b ∧ hi = mid) ∨ (P.length + L.length ≤ mid ∧ lo = P.length ∧ hi = P.length + L.length)) := by
  by_cases c : (mid : Int) < m
  · exact ⟨(mid + m - b).toNat, mid, by rw [if_pos c]; omega, by rw [if_pos c], .inl ⟨by omega, by omega, rfl⟩⟩
  · exact ⟨P.length, P.length + L.length, by rw [if_neg c]; omega, by rw [if_neg c]; omega, .inr ⟨by omega, rfl, rfl⟩⟩
 have q1 : ∀ x : Int, (bif decide ((mid : Int) < m) then x else x) = x := fun x => by cases decide ((mid : Int) < m) <;> rfl
 have q2 : (bif decide ((mid : Int) < m) then (mid : Int) + m - b else a) = lo := by rw [← hlo]; by_cases c : (mid : Int) < m <;> simp [c]
 have q3 : (bif decide ((mid : Int) < m) then (mid : Int) else m) = hi := by rw [← hhi]; by_cases c : (mid : Int) < m <;> simp [c]
 rw [qaY, q1, q1, q2, q3]
 rw [qiB]
 have hp : w64 (((mid : Int) + m) - 1) = ((mid + (P.length + L.length) - 1 : Nat) : Int) := by rw [qNB (by omega)]; omega
 rw [hp]
 generalize hK : (fun (y77 : Int) => joinK (fun (y105 : List Row) (y106 : Int) => _) _) = K
 obtain ⟨t, t1, t2, t3, t4, t5⟩ := symSearch q K (Q := Q) hlen hb hL hR lo hi (mid + (P.length + L.length) - 1) (by omega) (by omega) (by omega) (fun c c1 c2 => by omega) (((hi : Int) - lo).toNat + 1) (by omega)
 rw [t3, ← hK]
 clear hK t3
 obtain ⟨L1, L2, eL, l1⟩ : ∃ L1 L2, L = L1 ++ L2 ∧ L1.length = t - P.length := ⟨L.take (t - P.length), L.drop (t - P.length), (List.take_append_drop ..).symm, by rw [List.length_take]; omega⟩
 obtain ⟨R1, R2, eR, r1⟩ : ∃ R1 R2, R = R1 ++ R2 ∧ R1.length = mid - t := ⟨R.take (mid - t), R.drop (mid - t), (List.take_append_drop ..).symm, by rw [List.length_take]; omega⟩
 have nL : L.length = L1.length + L2.length := by rw [eL, List.length_append]
 have nR : R.length = R1.length + R2.length := by rw [eR, List.length_append]
 obtain ⟨e, he⟩ : ∃ e : Nat, (e : Int) = mid + m - t := ⟨(mid + m - t).toNat, by omega⟩
 have aR : ∀ (i : Nat) y, R1[i]? = some y → R[i]? = some y := fun i y h => by rw [eR, List.getElem?_append_left (at_lt h)]; exact h
 have aR2 : ∀ (i : Nat) y, R2[i]? = some y → R[R1.length + i]? = some y := fun i y h => by rw [eR, List.getElem?_append_right (by omega), Nat.add_sub_cancel_left]; exact h
 have aL : ∀ (i : Nat) y, L1[i]? = some y → L[i]? = some y := fun i y h => by rw [eL, List.getElem?_append_left (at_lt h)]; exact h
 have aL2 : ∀ (i : Nat) y, L2[i]? = some y → L[L1.length + i]? = some y := fun i y h => by rw [eL, List.getElem?_append_right (by omega), Nat.add_sub_cancel_left]; exact h
 have i1 : ∀ x ∈ L1, ∀ y ∈ R2, aheadB q x y = true := fun x hx y hy => by
  obtain ⟨i, hi'⟩ := List.getElem?_of_mem hx
  obtain ⟨j, hj'⟩ := List.getElem?_of_mem hy
  have bi := at_lt hi'
  have bj := at_lt hj'
  have g1 : L[t - 1 - P.length]? = some (L[t - 1 - P.length]'(by omega)) := List.getElem?_eq_getElem (by omega)
  have g2 : R[mid + (P.length + L.length) - 1 - (t - 1) - (P.length + L.length)]? = some (R[mid + (P.length + L.length) - 1 - (t - 1) - (P.length + L.length)]'(by omega)) := List.getElem?_eq_getElem (by omega)
  have h := t4 (t - 1) (by omega) (by omega) _ _ g1 g2
  have hne := hd.app.2.2 _ (List.mem_of_getElem? g1) _ (List.mem_of_getElem? g2)
  have h2 := qPG (fun e => hne e.symm) h
  exact hR.tr2 (i := mid + (P.length + L.length) - 1 - (t - 1) - (P.length + L.length)) (by omega) g2 (aR2 j y hj') (hL.tr1 (by omega) (aL i x hi') g1 h2)
 have i2 : ∀ y ∈ R1, ∀ x ∈ L2, aheadB q y x = true := fun y hy x hx => by
  obtain ⟨i, hi'⟩ := List.getElem?_of_mem hx
  obtain ⟨j, hj'⟩ := List.getElem?_of_mem hy
  have bi := at_lt hi'
  have bj := at_lt hj'
  have g1 : L[t - P.length]? = some (L[t - P.length]'(by omega)) := List.getElem?_eq_getElem (by omega)
  have g2 : R[mid + (P.length + L.length) - 1 - t - (P.length + L.length)]? = some (R[mid + (P.length + L.length) - 1 - t - (P.length + L.length)]'(by omega)) := List.getElem?_eq_getElem (by omega)
  have h := t5 t (by omega) (by omega) _ _ g1 g2
  exact hR.tr1 (by omega) (aR j y hj') g2 (hL.tr2 (by omega) g1 (aL2 i x hi') h)
 have hL' := hL
 rw [eL] at hL'
 have hR' := hR
 rw [eR] at hR'
 have sL := Srt.app.1 hL'
 have sR := Srt.app.1 hR'
 have hd' := hd
 rw [eL, eR] at hd'
 have perm : (L1 ++ L2 ++ (R1 ++ R2)).Perm ((L1 ++ R1) ++ (L2 ++ R2)) := by
  simp only [List.append_assoc]
  refine List.Perm.append_left L1 ?_
  rw [← List.append_assoc, ← List.append_assoc]
  exact List.Perm.append_right R2 List.perm_append_comm
 have d2 := (hd'.perm perm).app
 have mem1 : ∀ y ∈ L1 ++ R1, y ∈ L ++ R := fun y hy => by rw [eL, eR]; simp at hy ⊢; rcases hy with h | h <;> simp [h]
 have mem2 : ∀ y ∈ L2 ++ R2, y ∈ L ++ R := fun y hy => by rw [eL, eR]; simp at hy ⊢; rcases hy with h | h <;> simp [h]
 have fin := symFin self q (P := P) (L1 := L1) (L2 := L2) (R1 := R1) (R2 := R2) (Q := Q) (a := a) (m := m) (b := b) (t := t) (mid := mid) (e := e) ha (by omega) (by omega) (by omega) (by omega) (by omega) (by omega) hd' hL' hR' i1 i2
  (fun h1 h2 => ih P L1 R1 (L2 ++ (R2 ++ Q)) h1 h2 (by omega) (by simp only [List.length_append]; omega) mem1 d2.1 sL.1 sR.1 a t mid ha (by omega) (by omega))
  (fun M1 lM h1 h2 => by
   have lpm : (P ++ M1).length = P.length + M1.length := List.length_append
   exact ih (P ++ M1) L2 R2 Q h1 h2 (by omega) (by simp only [List.length_append]; omega) mem2 d2.2.1 sL.2.1 sR.2.1 mid e b (by omega) (by omega) (by omega))
 dsimp only
 rw [qNB (x := (mid : Int) + m - t) (by omega), ← he]
 rw [show P ++ (L ++ (R ++ Q)) = (P ++ L1) ++ (L2 ++ (R1 ++ (R2 ++ Q))) by rw [eL, eR]; simp, eL, eR]
 exact fin
theorem qJU (q : Query) : ∀ (k : Nat) (P L R Q : List Row), L ≠ [] → R ≠ [] → L.length + R.length < k → (P ++ (L ++ (R ++ Q))).length ≤ 900 → (∀ y ∈ L ++ R, Row_b y) → Dst (L ++ R) → Srt q L → Srt q R → ∀ a m b : Int, a = P.length → m = P.length + L.length → b = P.length + L.length + R.length →
  ∃ M, qA.g k (P ++ (L ++ (R ++ Q))) a m b q = some (P ++ (M ++ Q)) ∧ M.Perm (L ++ R) ∧ Srt q M := by
 intro k
 induction k with
 | zero => intro P L R Q _ _ h; omega
 | succ k ih =>
  intro P L R Q hL0 hR0 hk hlen hb hd hL hR a m b ha hm hb'
  rw [qA.g]
  by_cases c1 : L.length = 1
  ·
   obtain ⟨x, rfl⟩ := List.length_eq_one_iff.1 c1
   simp only [List.length_cons, List.length_nil] at hm hb'
   exact symOne _ q ha hm hb' hlen hb hd hR
  by_cases c2 : R.length = 1
  ·
   obtain ⟨x, rfl⟩ := List.length_eq_one_iff.1 c2
   simp only [List.length_cons, List.length_nil] at hb'
   exact symLast _ q c1 ha hm hb' hlen hb hd hL
  exact symMid _ q c1 c2 hL0 hR0 ha hm hb' hlen hb hd hL hR fun P' L' R' Q' h1 h2 h3 h4 h5 h6 h7 h8 a' m' b' g1 g2 g3 => ih P' L' R' Q' h1 h2 (by omega) h4 (fun y hy => hb y (h5 y hy)) h6 h7 h8 a' m' b' g1 g2 g3
theorem qcS (q : Query) {P L R Q : List Row} (hL0 : L ≠ []) (hR0 : R ≠ []) (hlen : (P ++ (L ++ (R ++ Q))).length ≤ 900) (hb : ∀ y ∈ L ++ R, Row_b y) (hd : Dst (L ++ R)) (hL : Srt q L) (hR : Srt q R) {a m b : Int} (ha : a = P.length) (hm : m = P.length + L.length) (hb' : b = P.length + L.length + R.length) :
  ∃ M, qA.f (P ++ (L ++ (R ++ Q))) a m b q = some (P ++ (M ++ Q)) ∧ M.Perm (L ++ R) ∧ Srt q M := by
 have hlen' := hlen
 simp only [List.length_append] at hlen'
 exact qJU q 1000 P L R Q hL0 hR0 (by omega) hlen hb hd hL hR a m b ha hm hb'
theorem qPW (q : Query) (l : List Row) (h : l.length ≤ 24) (hb : ∀ y ∈ l, Row_b y) (hd : Dst l) : ∃ M, qC.f l (l.length : Int) q = some M ∧ M.Perm l ∧ Srt q M := by
 unfold qC.f
 rw [qiB]
 by_cases h20 : l.length < 20
 ·
  obtain ⟨S, e1, e2, e3⟩ := qMK (a1 := 0) (a2 := l.length) q (P := []) (T := l) (R := []) rfl (by simp) (by simp; omega) hb hd
  rw [show ((l.length : Int) - 20).toNat + 2 = 1 + 1 by omega, qC.l0, decide_eq_false (by omega), cond_false]
  simp only [List.nil_append, List.append_nil] at e1
  rw [e1, Option.bind_some, qC.l1, decide_eq_false (by omega), cond_false]
  exact ⟨S, rfl, e2, e3⟩
 obtain ⟨A, B, rfl, lA⟩ : ∃ A B, l = A ++ B ∧ A.length = 20 := ⟨l.take 20, l.drop 20, (List.take_append_drop ..).symm, by rw [List.length_take]; omega⟩
 rw [List.length_append] at h
 have lAB : (A ++ B).length = A.length + B.length := List.length_append
 obtain ⟨S, e1, e2, e3⟩ := qMK (a1 := 0) (a2 := 20) q (P := []) (T := A) (R := B) rfl (by simp only [List.length_nil]; omega) (by simp only [List.length_append, List.length_nil]; omega) (fun y hy => hb y (by simp [hy])) hd.app.1
 have lS : S.length = 20 := by rw [e2.length_eq, lA]
 obtain ⟨S', f1, f2, f3⟩ := qMK (a1 := 20) (a2 := (A ++ B).length) q (P := S) (T := B) (R := []) (by omega) (by omega) (by simp only [List.length_append, List.length_nil]; omega) (fun y hy => hb y (by simp [hy])) hd.app.2.1
 have lS' : S'.length = B.length := f2.length_eq
 have p : (S ++ S').Perm (A ++ B) := e2.append f2
 rw [qC.l0, decide_eq_true (by omega), cond_true]
 simp only [List.nil_append] at e1
 rw [e1, Option.bind_some, qNB (by omega), show (((A ++ B).length : Int) - 20).toNat + 1 = (((A ++ B).length : Int) - 20).toNat + 1 from rfl, qC.l0, decide_eq_false (by omega), cond_false]
 simp only [List.append_nil] at f1
 rw [f1, Option.bind_some, qC.l1]
 by_cases hB : B = []
 ·
  subst hB
  simp only [List.length_nil] at lAB
  rw [decide_eq_false (by omega), cond_false]
  obtain rfl := List.length_eq_zero_iff.1 lS'
  exact ⟨S ++ [], rfl, p, by rw [List.append_nil]; exact e3⟩
 have gB : 0 < B.length := List.length_pos_iff.2 hB
 rw [decide_eq_true (by omega), cond_true, qiB, qNB (x := 2 * 20) (by omega)]
 rw [show (((A ++ B).length : Int) - 2 * 20).toNat + 2 = 1 + 1 by omega, qC.l2, decide_eq_false (by omega), cond_false]
 obtain ⟨M, g1, g2, g3⟩ := qcS q (P := []) (L := S) (R := S') (Q := []) (by rintro rfl; simp at lS) (by rintro rfl; simp at lS'; omega) (by simp only [List.length_append, List.length_nil]; omega) (fun y hy => hb y (p.mem_iff.1 hy)) (hd.perm p.symm) e3 f3 (a := 0) (m := 20) (b := (A ++ B).length) rfl (by simp only [List.length_nil]; omega) (by simp only [List.length_nil]; omega)
 simp only [List.nil_append, List.append_nil] at g1
 rw [qNB (x := 0 + 20) (by omega), show (0 : Int) + 20 = 20 from rfl, decide_eq_true (by omega), cond_true, g1, Option.bind_some, show (((A ++ B).length : Int) - 20).toNat = ((((A ++ B).length : Int) - 20).toNat - 1) + 1 by omega, qC.l1, qNB (x := 20 * 2) (by omega), decide_eq_false (by omega), cond_false]
 exact ⟨M, rfl, g2.trans p, g3⟩
theorem qQP (q : Query) (l : List Row) (h : l.length ≤ 24) (hb : ∀ y ∈ l, Row_b y) (hd : Dst l) : ∃ M, qz.f l q = some M ∧ M.Perm l ∧ Srt q M := by
 unfold qz.f
 obtain ⟨M, e1, e2, e3⟩ := qPW q l h hb hd
 rw [qH, e1]
 exact ⟨M, rfl, e2, e3⟩
def rowAtF : List Row → Int → Int → Int
 | [], _, _ => -1
 | r :: l, id, i => if r.Id = id then i else rowAtF l id (i + 1)
def isId (id : Int) (r : Row) : Bool := decide (r.Id = id)
def isGt (id : Int) (r : Row) : Bool := decide (id < r.Id)
def idxI (p : Row → Bool) (l : List Row) : Int := if l.findIdx p < l.length then (l.findIdx p : Int) else -1
def rowDropF (l : List Row) (id : Int) : List Row := l.eraseIdx (l.findIdx (isId id))
def rowPutF (l : List Row) (r : Row) : List Row := if l.findIdx (isId r.Id) < l.length then l.set (l.findIdx (isId r.Id)) r else l.take (l.findIdx (isGt r.Id)) ++ [r] ++ l.drop (l.findIdx (isGt r.Id))
theorem qOO : ∀ (l : List Row) (id i : Int), rowAtF l id i = if l.findIdx (isId id) < l.length then i + (l.findIdx (isId id) : Int) else -1
 | [], _, _ => rfl
 | r :: l, id, i => by
  rw [rowAtF, qOO l id (i + 1), List.findIdx_cons]
  by_cases e : r.Id = id
  · rw [if_pos e, isId, decide_eq_true e]; simp
  rw [if_neg e, isId, decide_eq_false e]
  simp only [cond_false, List.length_cons]
  by_cases h : l.findIdx (isId id) < l.length
  · rw [if_pos h, if_pos (by omega)]; omega
  rw [if_neg h, if_neg (by omega)]
theorem qQW (l : List Row) (id : Int) : rowAtF l id 0 = idxI (isId id) l := by
 rw [qOO, idxI]
 split
 · omega
 rfl
theorem qQT {p : Row → Bool} {l : List Row} (h : l.findIdx p < l.length) : idxI p l = (l.findIdx p : Int) := if_pos h
theorem qbY {p : Row → Bool} {l : List Row} (h : ¬ l.findIdx p < l.length) : idxI p l = -1 := if_neg h
theorem sum_append {α : Type} (s : α → Int) (a b : List α) : ((a ++ b).map s).sum = (a.map s).sum + (b.map s).sum := by rw [List.map_append, List.sum_append]
theorem qZJ {α : Type} (s : α → Int) (l : List α) (k : Nat) : (l.map s).sum = ((l.take k).map s).sum + ((l.drop k).map s).sum := by rw [← sum_append, List.take_append_drop]
theorem qRW {α : Type} {s : α → Int} (hs : ∀ x, 0 ≤ s x) (x : α) : ∀ (l : List α) (i : Nat), ((l.set i x).map s).sum ≤ (l.map s).sum + s x
 | [], i => by simp [hs x]
 | a :: l, 0 => by simp only [List.set_cons_zero, List.map_cons, List.sum_cons]; have := hs a; omega
 | a :: l, i + 1 => by simp only [List.set_cons_succ, List.map_cons, List.sum_cons]; have := qRW hs x l i; omega
theorem qHR {α : Type} {s : α → Int} (hs : ∀ x, 0 ≤ s x) : ∀ (l : List α) (i : Nat), ((l.eraseIdx i).map s).sum ≤ (l.map s).sum
 | [], i => by simp
 | a :: l, 0 => by simp only [List.eraseIdx_cons_zero, List.map_cons, List.sum_cons]; have := hs a; omega
 | a :: l, i + 1 => by simp only [List.eraseIdx_cons_succ, List.map_cons, List.sum_cons]; have := qHR hs l i; omega
theorem qIM (l : List Row) (id : Int) : (rowDropF l id).length ≤ l.length := by unfold rowDropF; rw [List.length_eraseIdx]; split <;> omega
theorem qKU (l : List Row) (id : Int) : qPC (rowDropF l id) ≤ qPC l := by
 have h1 := qIM l id
 have h2 := qHR qjG l (l.findIdx (isId id))
 unfold qPC
 unfold rowDropF at *
 omega
theorem qLU (l : List Row) (r : Row) : (rowPutF l r).length ≤ l.length + 1 := by
 unfold rowPutF
 split
 · rw [List.length_set]; omega
 simp; omega
theorem qMU {l : List Row} {r x : Row} (h : x ∈ rowPutF l r) : x = r ∨ x ∈ l := by
 unfold rowPutF at h
 split at h
 ·
  rcases List.mem_or_eq_of_mem_set h with h | h
  · exact .inr h
  exact .inl h
 rcases List.mem_append.1 h with h | h
 ·
  rcases List.mem_append.1 h with h | h
  · exact .inr (List.mem_of_mem_take h)
  exact .inl (List.mem_singleton.1 h)
 exact .inr (List.mem_of_mem_drop h)
theorem qIR {α : Type} (p : α → Bool) (l : List α) {i : Nat} {x : α} (hx : l[i]? = some x) : (l.take (i + 1)).findIdx p = if (l.take i).findIdx p < i then (l.take i).findIdx p else if p x then i else i + 1 := by
 have hi := at_lt hx
 have hl : (l.take i).length = i := by rw [List.length_take]; omega
 rw [qED hx, List.findIdx_append, hl]
 by_cases h : (l.take i).findIdx p < i
 · rw [if_pos h, if_pos h]
 rw [if_neg h, if_neg h]
 cases hp : p x <;> simp [List.findIdx_cons, hp] <;> omega
theorem qJR {rows : List Row} {id : Int} (h : rows.findIdx (isId id) < rows.length) : (rows[rows.findIdx (isId id)]).Id = id := by
 have := List.findIdx_getElem (w := h)
 exact of_decide_eq_true this
theorem qKR {α : Type} {s : α → Int} {B : Int} : ∀ {l : List α}, (∀ x ∈ l, s x ≤ B) → (l.map s).sum ≤ l.length * B
 | [], _ => by simp
 | x :: l, h => by
  have h1 := h x (List.mem_cons_self ..)
  have h2 := qKR (l := l) fun y hy => h y (List.mem_cons_of_mem _ hy)
  simp only [List.map_cons, List.sum_cons, List.length_cons]
  rw [show ((l.length + 1 : Nat) : Int) * B = l.length * B + B by rw [Int.natCast_add, Int.add_mul]; simp]
  omega
def noStore : Store := ⟨⟨[]⟩, 0, []⟩
def tableB (s : Schema) (t : Int) : Bool := decide (0 ≤ t ∧ t ≤ (s.Cols.length : Int) - 1)
def tableOf (s : Store) (t : Int) : List Row := s.Tables.getD t.toNat []
def setTable (s : Store) (t : Int) (rows : List Row) : Store := ⟨s.Schema, s.Version, s.Tables.set t.toNat rows⟩
theorem qWI {s : Store} (hs : storeB s = true) {t : Nat} (ht : t < s.Tables.length) : rowsB s.Schema t (tableOf s t) = true := by
 unfold tableOf
 rw [Int.toNat_natCast, List.getD_eq_getElem?_getD, List.getElem?_eq_getElem ht, Option.getD_some]
 exact qMG hs (List.getElem?_eq_getElem ht)
theorem qSW {s : Store} (bs : qmF s) (t : Int) : qCR (tableOf s t) := by
 unfold tableOf
 rw [List.getD_eq_getElem?_getD]
 cases h : s.Tables[t.toNat]? with
 | none => exact ⟨by simp, by simp⟩
 | some x => exact bs.2.2 x (List.mem_of_getElem? h)
theorem qRP {α : Type} (p : α → Bool) (l : List α) {i : Nat} {x : α} (hx : l[i]? = some x) (hn : ¬ (l.take i).findIdx p < i) : (p x = true → l.findIdx p = i) ∧ (p x = false → ¬ (l.take (i + 1)).findIdx p < i + 1) := by
 have hi := at_lt hx
 have hl : (l.take i).length = i := by rw [List.length_take]; omega
 constructor
 ·
  intro hp
  have e : l = l.take i ++ x :: l.drop (i + 1) := by
   conv => lhs; rw [← List.take_append_drop i l, List.drop_eq_getElem_cons hi]
   rw [List.getElem?_eq_getElem hi] at hx
   rw [Option.some.inj hx]
  rw [e, List.findIdx_append, hl, if_neg hn, List.findIdx_cons, hp]
  simp
 intro hp
 rw [qED hx, List.findIdx_append, hl, if_neg hn, List.findIdx_cons, hp]
 simp
 omega
def putF (q : Query) (l : List Row) (r : Row) : List Row := l.take (l.findIdx (aheadB q r)) ++ [r] ++ l.drop (l.findIdx (aheadB q r))
theorem qdS (q : Query) (l : List Row) (r : Row) : (putF q l r).length = l.length + 1 := by
 have hle := List.findIdx_le_length (xs := l) (p := aheadB q r)
 simp [putF]; omega
theorem qLb (q : Query) (l : List Row) (r : Row) : qPC (putF q l r) = qPC l + 1 + qyC r := by
 have h1 := qdS q l r
 unfold qPC
 have h2 : ((putF q l r).map qyC).sum = (l.map qyC).sum + qyC r := by
  unfold putF
  rw [sum_append, sum_append, qZJ qyC l (l.findIdx (aheadB q r))]
  simp
  omega
 omega
theorem qTW {q : Query} {l : List Row} {r x : Row} (h : x ∈ putF q l r) : x = r ∨ x ∈ l := by
 unfold putF at h
 rcases List.mem_append.1 h with h | h
 ·
  rcases List.mem_append.1 h with h | h
  · exact .inr (List.mem_of_mem_take h)
  exact .inl (List.mem_singleton.1 h)
 exact .inr (List.mem_of_mem_drop h)
def rowsFold (q : Query) (rows : List Row) (acc : List Row) : List Row := rows.foldl (fun acc r => if matchesB q r = true then putF q acc r else acc) acc
def rowsForF (s : Store) (q : Query) : List Row := if (storeB s && queryB s.Schema q) = true then rowsFold q (tableOf s q.Table) [] else []
theorem qxK {q : Query} : ∀ {rows acc : List Row} {x : Row}, x ∈ rowsFold q rows acc → x ∈ rows ∨ x ∈ acc
 | [], acc, x, h => .inr h
 | r :: rows, acc, x, h => by
  have h : x ∈ rowsFold q rows (if matchesB q r = true then putF q acc r else acc) := h
  rcases qxK h with h | h
  · exact .inl (List.mem_cons_of_mem _ h)
  split at h
  ·
   rcases qTW h with rfl | h
   · exact .inl (List.mem_cons_self ..)
   exact .inr h
  exact .inr h
theorem qyK {q : Query} : ∀ (rows acc : List Row), (rowsFold q rows acc).length ≤ rows.length + acc.length
 | [], acc => by simp [rowsFold]
 | r :: rows, acc => by
  have e : rowsFold q (r :: rows) acc = rowsFold q rows (if matchesB q r = true then putF q acc r else acc) := rfl
  have := qyK (q := q) rows (if matchesB q r = true then putF q acc r else acc)
  rw [e]
  simp only [List.length_cons]
  split at this
  · rename_i h; rw [qdS] at this; rw [if_pos h]; omega
  rename_i h; rw [if_neg h]; omega
theorem qJM {q : Query} : ∀ (rows acc : List Row), qPC (rowsFold q rows acc) ≤ qPC rows + qPC acc
 | [], acc => by have := qLG ([] : List Row); simp only [rowsFold, List.foldl_nil]; omega
 | r :: rows, acc => by
  have e : rowsFold q (r :: rows) acc = rowsFold q rows (if matchesB q r = true then putF q acc r else acc) := rfl
  have := qJM (q := q) rows (if matchesB q r = true then putF q acc r else acc)
  have h1 : qPC (r :: rows) = qPC rows + 1 + qyC r := by unfold qPC; simp only [List.length_cons, List.map_cons, List.sum_cons]; omega
  have h0 := qjG r
  rw [e, h1]
  split at this
  · rename_i h; rw [qLb] at this; rw [if_pos h]; omega
  rename_i h; rw [if_neg h]; omega
theorem qQG {s : Schema} {q : Query} (h : queryB s q = true) : 0 ≤ q.Table ∧ q.Table ≤ (s.Cols.length : Int) - 1 := by
 unfold queryB at h
 simp only [Bool.and_eq_true, decide_eq_true_eq] at h
 exact h.1.2
theorem qRT {s : Schema} {t : Int} {rows : List Row} (h : rowsB s t rows = true) : rows.Pairwise fun a b => a.Id < b.Id := by
 unfold rowsB at h
 rw [Bool.and_eq_true] at h
 have h1 : ∀ i, ∀ (hi : i + 1 < rows.length), rows[i].Id < rows[i + 1].Id := fun i hi => by
  have := qFE.1 h.1 (i + 1) rows[i + 1] (List.getElem?_eq_getElem hi)
  rw [Bool.and_eq_true] at this
  have h2 := this.2
  rw [decide_eq_true (by omega), Bool.true_and, Bool.not_eq_true', decide_eq_false_iff_not, List.getD_eq_getElem?_getD, Nat.add_sub_cancel, List.getElem?_eq_getElem (by omega), Option.getD_some] at h2
  omega
 refine List.pairwise_iff_getElem.2 fun i j hi hj hij => ?_
 have : ∀ d, ∀ (hd : i + d + 1 < rows.length), rows[i].Id < rows[i + d + 1].Id := fun d => by
  induction d with
  | zero => intro hd; exact h1 i hd
  | succ d ih => intro hd; have a := ih (by omega); have b := h1 (i + d + 1) hd; exact Int.lt_trans a b
 have e : i + (j - i - 1) + 1 = j := by omega
 have := this (j - i - 1) (by omega)
 simpa only [e] using this
theorem qcY (q : Query) (l : List Row) (r : Row) : (putF q l r).Perm (l ++ [r]) := by
 unfold putF
 have : ((l.take (l.findIdx (aheadB q r)) ++ [r]) ++ l.drop (l.findIdx (aheadB q r))).Perm (l.take (l.findIdx (aheadB q r)) ++ (l.drop (l.findIdx (aheadB q r)) ++ [r])) := by
  rw [List.append_assoc]; exact List.Perm.append_left _ List.perm_append_comm
 rwa [← List.append_assoc, List.take_append_drop] at this
theorem qEa {q : Query} {l : List Row} {r : Row} (h : Srt q l) (hd : ∀ x ∈ l, x.Id ≠ r.Id) : Srt q (putF q l r) := by
 unfold putF
 have h' := h
 rw [← List.take_append_drop (l.findIdx (aheadB q r)) l] at h'
 obtain ⟨h1, h2, h3⟩ := Srt.app.1 h'
 have a1 : ∀ x ∈ l.take (l.findIdx (aheadB q r)), aheadB q x r = true := fun x hx => by
  obtain ⟨i, hi⟩ := List.getElem?_of_mem hx
  have hl := at_lt hi
  rw [List.length_take] at hl
  have hi2 : i < l.length := by omega
  rw [List.getElem?_take, if_pos (by omega), List.getElem?_eq_getElem hi2] at hi
  have := List.not_of_lt_findIdx (xs := l) (p := aheadB q r) (i := i) (by omega)
  cases hi
  exact qPG (fun e => hd _ (List.getElem_mem hi2) e.symm) (by simpa using this)
 have a2 : ∀ x ∈ l.drop (l.findIdx (aheadB q r)), aheadB q r x = true := fun x hx => by
  obtain ⟨i, hi⟩ := List.getElem?_of_mem hx
  rw [List.getElem?_drop] at hi
  have hl := at_lt hi
  have g := List.findIdx_getElem (xs := l) (p := aheadB q r) (w := by omega)
  exact h.tr2 (Nat.le_add_right _ i) (List.getElem?_eq_getElem (by omega)) hi g
 rw [List.append_assoc]
 exact Srt.app.2 ⟨h1, List.pairwise_cons.2 ⟨a2, h2⟩, fun x hx y hy => by
  rcases List.mem_cons.1 hy with rfl | hy
  · exact a1 x hx
  exact h3 x hx y hy⟩
theorem qaL {q : Query} : ∀ (rows acc : List Row), Srt q acc → Dst (acc ++ rows) → Srt q (rowsFold q rows acc) ∧ (rowsFold q rows acc).Perm (acc ++ rows.filter (matchesB q))
 | [], acc, h, _ => ⟨h, by simp [rowsFold]⟩
 | r :: rows, acc, h, hd => by
  have hd' : Dst (acc ++ [r] ++ rows) := by simpa using hd
  have e : rowsFold q (r :: rows) acc = rowsFold q rows (if matchesB q r = true then putF q acc r else acc) := rfl
  rw [e]
  by_cases hm : matchesB q r = true
  ·
   rw [if_pos hm, List.filter_cons_of_pos hm]
   have p := qcY q acc r
   obtain ⟨g1, g2⟩ := qaL rows (putF q acc r) (qEa h fun x hx => (hd'.app.1).app.2.2 x hx r (by simp)) (hd'.perm (p.symm.append_right rows))
   exact ⟨g1, g2.trans (by simpa using p.append_right (rows.filter (matchesB q)))⟩
  rw [if_neg hm, List.filter_cons_of_neg hm]
  have : Dst (acc ++ rows) := by
   refine List.Pairwise.sublist ?_ hd
   exact List.Sublist.append_left (List.sublist_cons_self r rows) acc
  exact qaL rows acc h this
theorem qNU {l : List Row} (h : qPC l ≤ 9223372036854775807) : qCR l := by
 unfold qPC at h
 have p := qnE qjG l
 exact ⟨by omega, fun x hx => by
  have := qJK qjG hx
  have h2 : qyC x ≤ 9223372036854775807 := by omega
  unfold qyC qhD at h2
  unfold Row_b IntS_b
  omega⟩
theorem qKM {s : Store} (h : qSF s ≤ 9223372036854775807) : qmF s := by
 unfold qSF qXH at h
 have p1 := qxI s.Schema
 have p2 := qnE qLG s.Tables
 refine ⟨?_, by omega, fun x hx => qNU (by have := qJK qLG hx; omega)⟩
 have h2 : qHE s.Schema ≤ 9223372036854775807 := by omega
 unfold qHE qhD at h2
 unfold qXD IntS_b
 omega
theorem qSP {s : Schema} {t : Int} {r : Row} (h : rowB s t r = true) : qyC r ≤ 4 := by
 have hc := qEM h
 unfold rowB at h
 simp only [Bool.and_eq_true, decide_eq_true_eq] at h
 obtain ⟨⟨⟨⟨hs, ht⟩, _⟩, _⟩, _⟩ := h
 unfold schemaB at hs
 rw [Bool.and_eq_true, List.all_eq_true] at hs
 have hlt : t.toNat < s.Cols.length := by omega
 have := of_decide_eq_true (hs.1 _ (List.getElem_mem hlt))
 rw [List.getD_eq_getElem?_getD, List.getElem?_eq_getElem hlt, Option.getD_some] at hc
 unfold qyC qhD
 omega
theorem qST {s : Schema} {t : Int} {rows : List Row} (h : rowsB s t rows = true) : qPC rows ≤ 120 := by
 have hl := qkG h
 have := qKR (s := qyC) (B := 4) (l := rows) fun x hx => by
  obtain ⟨i, hi⟩ := List.getElem?_of_mem hx
  exact qSP (qWH h hi)
 unfold qPC
 omega
theorem qeS {s : Store} (h : storeB s = true) : qmF s ∧ qSF s ≤ 1000 := by
 have hz : qSF s ≤ 1000 := by
  obtain ⟨hl, hs⟩ := qtD h
  have h3 := qLK hs
  have := qKR (s := qPC) (B := 120) (l := s.Tables) fun x hx => by
   obtain ⟨i, hi⟩ := List.getElem?_of_mem hx
   exact qST (qMG h hi)
  unfold qSF qXH qHE qhD
  omega
 exact ⟨qKM (by omega), hz⟩
theorem qtF (s : Store) (q : Query) : (rowsForF s q).length ≤ 24 ∧ qPC (rowsForF s q) ≤ 120 ∧ ∀ x ∈ rowsForF s q, Row_b x := by
 unfold rowsForF
 split
 ·
  rename_i h
  rw [Bool.and_eq_true] at h
  obtain ⟨t1, t2⟩ := qQG h.2
  have hl := (qtD h.1).1
  have hrows := qWI h.1 (t := q.Table.toNat) (by omega)
  rw [Int.toNat_of_nonneg t1] at hrows
  have hlen := qkG hrows
  have hz := qST hrows
  have z0 : qPC ([] : List Row) = 0 := by simp [qPC]
  have s1 := qyK (q := q) (tableOf s q.Table) []
  have s2 := qJM (q := q) (tableOf s q.Table) []
  refine ⟨by simp only [List.length_nil] at s1; omega, by omega, fun x hx => ?_⟩
  rcases qxK hx with hx | hx
  ·
   obtain ⟨i, hi⟩ := List.getElem?_of_mem hx
   have z := qSP (qWH hrows hi)
   unfold Row_b IntS_b; unfold qyC qhD at z; omega
  simp at hx
 simp [qPC]
theorem qLM (q : Query) (hq : qwI q.Where) (rows : List Row) (hl : rows.length ≤ 24) (hr : ∀ r ∈ rows, Row_b r ∧ qyC r ≤ 4) (K : List Row → Option (List Row)) : ∀ (k i : Nat) (acc : List Row), i ≤ rows.length → rows.length < i + k → acc.length ≤ i → qXC.l0 q rows K k acc i = K (acc ++ (rows.drop i).filter (matchesB q)) := by
 intro k
 induction k with
 | zero => intro i acc h h'; omega
 | succ k ih =>
  intro i acc h h' ha
  rw [qXC.l0, qH]
  by_cases hi : i < rows.length
  ·
   obtain ⟨b1, z1⟩ := hr _ (List.getElem_mem hi)
   rw [decide_eq_true (by omega), cond_true, qv, List.getElem?_eq_getElem hi, Option.bind_some, qpB (qKG q _ hq b1), List.drop_eq_getElem_cons hi, qAB (by omega)]
   cases hm : matchesB q rows[i] with
   | true =>
    rw [cond_true, qpB (qGM _ (by omega)), Option.bind_some, qtB (by simp only [List.length_cons, List.length_nil]; omega), Option.bind_some, List.filter_cons_of_pos hm, ih (i + 1) _ (by omega) (by omega) (by simp only [List.length_append, List.length_cons, List.length_nil]; omega)]
    simp
   | false =>
    rw [cond_false, List.filter_cons_of_neg (by simp [hm])]
    exact ih (i + 1) _ (by omega) (by omega) (by omega)
  rw [decide_eq_false (by omega), cond_false, List.drop_eq_nil_of_le (by omega)]
  simp
theorem qCI (s : Store) (q : Query) (hs : qmF s) (hq : qpG q) : qXC.f s q = some (rowsForF s q) := by
 unfold qXC.f rowsForF
 rw [qNG _ hs, Option.bind_some, qOG _ _ hs.1 hq]
 cases h1 : storeB s with
 | false => rfl
 | true =>
  cases h2 : queryB s.Schema q with
  | false => rfl
  | true =>
   simp only [qTC, Bool.not_true, Bool.not_false, bo3_F, bo3_T, qOC, Option.bind_some, cond_false, Bool.true_and, if_true]
   obtain ⟨t1, t2⟩ := qQG h2
   have hl := (qtD h1).1
   have ht : q.Table.toNat < s.Tables.length := by omega
   have hrows := qWI h1 ht
   have hlen := qkG hrows
   rw [qiB, show getO s.Tables q.Table = some (tableOf s q.Table) from qIK (by omega), Option.bind_some]
   rw [Int.toNat_of_nonneg t1] at hrows hlen
   have hr : ∀ r ∈ tableOf s q.Table, Row_b r ∧ qyC r ≤ 4 := fun r hr => by
    obtain ⟨i, hi⟩ := List.getElem?_of_mem hr
    have z := qSP (qWH hrows hi)
    exact ⟨by unfold Row_b IntS_b; unfold qyC qhD at z; omega, z⟩
   have hd : Dst (tableOf s q.Table) := (qRT hrows).imp fun h e => by omega
   have e := qLM q hq.1 (tableOf s q.Table) hlen hr (fun y11 => (qz.f y11 q).bind fun r36 => some r36) (((lenI (tableOf s q.Table)) - 0).toNat + 1) 0 [] (by omega) (by rw [qH]; omega) (by simp)
   rw [List.drop_zero, List.nil_append] at e
   have hfd : Dst ((tableOf s q.Table).filter (matchesB q)) := List.Pairwise.sublist List.filter_sublist hd
   obtain ⟨M, m1, m2, m3⟩ := qQP q ((tableOf s q.Table).filter (matchesB q)) (Nat.le_trans (List.length_filter_le ..) hlen) (fun y hy => (hr y (List.mem_filter.1 hy).1).1) hfd
   obtain ⟨g1, g2⟩ := qaL (q := q) (tableOf s q.Table) [] List.Pairwise.nil (by simpa using hd)
   rw [List.nil_append] at g2
   have : M = rowsFold q (tableOf s q.Table) [] := m3.unique g1 (m2.trans g2.symm)
   refine e.trans ?_
   rw [m1, Option.bind_some, this]
def countC (col : Nat) (id : Int) : List Row → Int → Int
 | [], n => n
 | r :: l, n => countC col id l (if r.Cells.getD col 0 = id then n + 1 else n)
def kidsOfF (s : Store) (q : Query) (id : Int) : Int :=
 if (storeB s && queryB s.Schema q && q.Kids) = true then countC q.KidCol.toNat id (s.Tables.getD q.KidTable.toNat []) 0 else 0
theorem qNK {s : Schema} {q : Query} (h : queryB s q = true) (hk : q.Kids = true) : (0 ≤ q.KidTable ∧ q.KidTable ≤ (s.Cols.length : Int) - 1) ∧ (0 ≤ q.KidCol ∧ q.KidCol ≤ w64 (s.Cols.getD q.KidTable.toNat 0 - 1)) := by
 unfold queryB kidsB at h
 simp only [Bool.and_eq_true, decide_eq_true_eq, hk, if_true] at h
 exact h.2.2.2
theorem qPO {s : Schema} (h : schemaB s = true) {i : Int} (hi : 0 ≤ i ∧ i ≤ (s.Cols.length : Int) - 1) : 1 ≤ s.Cols.getD i.toNat 0 ∧ s.Cols.getD i.toNat 0 ≤ 4 := by
 unfold schemaB at h
 rw [Bool.and_eq_true, List.all_eq_true] at h
 have hl : i.toNat < s.Cols.length := by omega
 rw [List.getD_eq_getElem?_getD, List.getElem?_eq_getElem hl]
 exact of_decide_eq_true (h.1 _ (List.getElem_mem hl))
theorem qHN (s : Store) (q : Query) (id : Int) (hs : qmF s) (hq : qpG q) : qgC.f s q id = some (kidsOfF s q id) := by
 unfold qgC.f kidsOfF
 rw [qNG _ hs, Option.bind_some, qOG _ _ hs.1 hq]
 cases h1 : storeB s with
 | false => rfl
 | true =>
  cases h2 : queryB s.Schema q with
  | false => rfl
  | true =>
   cases h3 : q.Kids with
   | false => rfl
   | true =>
    simp only [bo3_F, bo3_T, qOC, Option.bind_some, cond_false, Bool.true_and, if_true]
    obtain ⟨hk1, hk2⟩ := qNK h2 h3
    obtain ⟨hl1, hl2⟩ := qtD h1
    have hcol := qPO hl2 hk1
    rw [qNB (by omega)] at hk2
    rw [show getO s.Tables q.KidTable = some (s.Tables.getD q.KidTable.toNat []) from qIK (by omega), Option.bind_some]
    have hat : s.Tables[q.KidTable.toNat]? = some (s.Tables.getD q.KidTable.toNat []) := by
     rw [List.getD_eq_getElem?_getD, List.getElem?_eq_getElem (by omega)]; rfl
    have hrows := qMG h1 hat
    have hlen := qkG hrows
    generalize s.Tables.getD q.KidTable.toNat [] = rows at *
    have key2 : ∀ (k i : Nat) (n : Int), i ≤ rows.length → rows.length < i + k → 0 ≤ n → n ≤ i → qgC.l0 q id rows k n i = some (countC q.KidCol.toNat id (rows.drop i) n) := by
     intro k
     induction k with
     | zero => intro i n h h'; omega
     | succ k ih =>
      intro i n h h' hn hni
      by_cases hi : i < rows.length
      ·
       have hx : rows[i]? = some rows[i] := List.getElem?_eq_getElem hi
       have hc := qEM (qWH hrows hx)
       rw [show ((q.KidTable.toNat : Nat) : Int) = q.KidTable from by omega] at hc
       rw [qgC.l0, qH, decide_eq_true (by omega), cond_true, qv, hx, Option.bind_some, qaE (by omega), Option.bind_some, List.drop_eq_getElem_cons hi, countC, qAB (by omega)]
       by_cases e : (rows[i]).Cells.getD q.KidCol.toNat 0 = id
       ·
        rw [decide_eq_true e, cond_true, if_pos e, qNB (by omega)]
        exact ih (i + 1) (n + 1) (by omega) (by omega) (by omega) (by omega)
       rw [decide_eq_false e, cond_false, if_neg e]
       exact ih (i + 1) n (by omega) (by omega) hn (by omega)
      rw [qgC.l0, qH, decide_eq_false (by omega), cond_false, List.drop_eq_nil_of_le (by omega), countC]
    have := key2 (((lenI rows) - 0).toNat + 1) 0 0 (by omega) (by simp only [qH]; omega) (by omega) (by omega)
    rw [List.drop_zero] at this
    exact this
mutual
def szj : Json → Int
 | ⟨_, _, _, l, ns⟩ => szL l + (ns.length : Int)
def szL : List Json → Int
 | [] => 0
 | x :: l => 1 + szj x + szL l
end
mutual
def dpj : Json → Nat
 | ⟨_, _, _, l, _⟩ => dpL l + 1
def dpL : List Json → Nat
 | [] => 0
 | x :: l => max (dpj x) (dpL l)
end
mutual
theorem szj_0 : ∀ x : Json, 0 ≤ szj x
 | ⟨_, _, _, l, ns⟩ => by have := szL_0 l; rw [szj]; omega
theorem szL_0 : ∀ l : List Json, 0 ≤ szL l
 | [] => by rw [szL]; omega
 | x :: l => by have := szj_0 x; have := szL_0 l; rw [szL]; omega
end
theorem qUW : ∀ l : List Json, szL l = (l.map fun x => 1 + szj x).sum
 | [] => by simp [szL]
 | x :: l => by rw [szL, qUW l, List.map_cons, List.sum_cons]
theorem qfS : ∀ l : List Json, (l.length : Int) ≤ szL l
 | [] => by simp [szL]
 | x :: l => by have := qfS l; have := szj_0 x; rw [szL]; simp only [List.length_cons]; omega
theorem qgS {l : List Json} {x : Json} (h : x ∈ l) : 1 + szj x ≤ szL l := by
 rw [qUW]; exact qJK (s := fun x => 1 + szj x) (fun x => by have := szj_0 x; omega) h
theorem qTP : ∀ {l : List Json} {x : Json}, x ∈ l → dpj x ≤ dpL l
 | y :: l, x, h => by
  rw [dpL]
  rcases List.mem_cons.1 h with rfl | h
  · omega
  have := qTP h; omega
theorem qTT (x : Json) : szj x = szL x.List_ + (x.Names.length : Int) := by cases x; rw [szj]
theorem qMM (x : Json) : dpj x = dpL x.List_ + 1 := by cases x; rw [dpj]
def qFa (x : Json) : Int := szj x + (if dpj x ≤ 500 then 0 else 4611686018427387904)
def qnc (x : Json) : Prop := qFa x ≤ 1099511627776
theorem ba_eq {x y : ByteArray} : (x.toList == y.toList) = decide (x = y) := by
 have h : x.toList = y.toList ↔ x = y := by
  constructor
  ·
   intro h
   have : x.data.toList = y.data.toList := by
    have e : ∀ z : ByteArray, z.toList = z.data.toList := fun z => ByteArray.toList_eq z
    rw [← e, ← e]; exact h
   cases x; cases y; simp_all
  rintro rfl; rfl
 by_cases c : x = y
 · subst c; simp
 rw [decide_eq_false c]
 simp only [beq_eq_false_iff_ne, ne_eq]
 exact fun e => c (h.1 e)
theorem qDI (x y : ByteArray) : Ls.sc .neq x y = decide (x ≠ y) := by
 show (!(x.toList == y.toList)) = _
 rw [ba_eq]; by_cases c : x = y <;> simp [c]
def txtB (s : ByteArray) : Bool := (s.data.toList.all fun b => decide (32 ≤ b.toNat ∧ b.toNat ≤ 126)) && decide (s.size ≤ 60)
def namesB (l : List ByteArray) : Bool := allFrom (fun i x => txtB x && !(decide (0 < i) && Ls.sc .geq (l.getD (i - 1) default) x)) l 0
theorem sx_at {s : ByteArray} {i : Nat} {b : UInt8} (h : s.data.toList[i]? = some b) : Ls.sx s (i : Int) = (b.toNat : Int) := by
 show ((s.data.toList.getD (i : Int).toNat 0).toNat : Int) = _
 rw [Int.toNat_natCast, List.getD_eq_getElem?_getD, h]; rfl
theorem qUT (s : ByteArray) : Ls.sl s = (s.data.toList.length : Int) := by
 show (s.size : Int) = _
 rw [Array.length_toList]; rfl
theorem qaJ (s : ByteArray) : s.size = s.data.toList.length := by rw [Array.length_toList]; rfl
theorem qKZ {s : ByteArray} {i : Nat} (h : i < s.data.toList.length) : inS s (i : Int) = some () := by
 unfold inS; rw [if_pos]; rw [qaJ]; omega
def ownB (j : Json) : Bool :=
 bif (decide (0 < j.List_.length) && decide (j.Kind ≠ 4) && decide (j.Kind ≠ 5)) || (decide (0 < j.Names.length) && decide (j.Kind ≠ 5)) then false else
 bif (decide (j.N ≠ 0) && decide (j.Kind ≠ 1) && decide (j.Kind ≠ 2)) || (decide (j.S ≠ ByteArray.mk #[]) && decide (j.Kind ≠ 3)) then false else
 if j.Kind = 1 then decide (0 ≤ j.N ∧ j.N ≤ 1) else if j.Kind = 2 then decide (-1000000000 ≤ j.N ∧ j.N ≤ 1000000000) else if j.Kind = 3 then txtB j.S else
 if j.Kind = 5 then decide (j.Names.length = j.List_.length) && namesB j.Names else decide (j.Kind = 0) || decide (j.Kind = 4)
def capL (f : Json → Int) : Int → List Json → Int
 | n, [] => n
 | n, x :: l => if 400 < n + f x then 401 else capL f (n + f x) l
def sizeF : Nat → Json → Int
 | 0, _ => 401
 | d + 1, j => if ownB j = true then capL (sizeF d) 1 j.List_ else 401
theorem qQO {f : Json → Int} (hf : ∀ x, 1 ≤ f x ∧ f x ≤ 401) : ∀ (l : List Json) (n : Int), 1 ≤ n → n ≤ 401 → 1 ≤ capL f n l ∧ capL f n l ≤ 401
 | [], n, h, h' => ⟨h, h'⟩
 | x :: l, n, h, h' => by
  rw [capL]
  have := hf x
  split
  · omega
  exact qQO hf l _ (by omega) (by omega)
theorem qiD : ∀ (d : Nat) (j : Json), 1 ≤ sizeF d j ∧ sizeF d j ≤ 401
 | 0, j => by rw [sizeF]; omega
 | d + 1, j => by
  rw [sizeF]
  split
  · exact qQO (qiD d) _ _ (by omega) (by omega)
  omega
def jsonB (j : Json) : Bool := decide (sizeF 6 j ≤ 400)
mutual
def Jw : Json → Prop
 | ⟨_, _, s, l, ns⟩ => (s.size : Int) ≤ 4611686018427387904 ∧ (∀ x ∈ ns, (x.size : Int) ≤ 4611686018427387904) ∧ (ns.length : Int) ≤ 4611686018427387904 ∧ (l.length : Int) ≤ 4611686018427387904 ∧ JwL l
def JwL : List Json → Prop
 | [] => True
 | x :: l => Jw x ∧ JwL l
end
theorem qVW : ∀ {l : List Json}, JwL l → ∀ {x}, x ∈ l → Jw x
 | y :: l, h, x, hx => by
  rw [JwL] at h
  rcases List.mem_cons.1 hx with rfl | hx
  · exact h.1
  exact qVW h.2 hx
theorem qLZ : ∀ {l : List Json}, (∀ x ∈ l, Jw x) → JwL l
 | [], _ => by rw [JwL]; trivial
 | y :: l, h => by rw [JwL]; exact ⟨h y (by simp), qLZ fun x hx => h x (by simp [hx])⟩
theorem Jw_eq (j : Json) : Jw j ↔ (j.S.size : Int) ≤ 4611686018427387904 ∧ (∀ x ∈ j.Names, (x.size : Int) ≤ 4611686018427387904) ∧ (j.Names.length : Int) ≤ 4611686018427387904 ∧ (j.List_.length : Int) ≤ 4611686018427387904 ∧ ∀ x ∈ j.List_, Jw x := by
 cases j
 rw [Jw]
 exact ⟨fun ⟨a, b, c, d, e⟩ => ⟨a, b, c, d, fun x hx => qVW e hx⟩, fun ⟨a, b, c, d, e⟩ => ⟨a, b, c, d, qLZ e⟩⟩
def k3B (j : Json) : Bool := (decide (j.Kind ≠ 3) && decide (j.S ≠ ByteArray.mk #[])) || ((decide (j.Kind = 3) || decide (4 ≤ j.Kind)) && decide (j.N ≠ 0)) || (decide (j.Kind < 4) && decide (0 < j.List_.length)) ||
 !(if j.Kind = 5 then namesB j.Names && decide (j.Names.length = j.List_.length) else decide (j.Names.length = 0))
def preB (j : Json) : Bool := if j.Kind = 0 then decide (j.N = 0) else if j.Kind = 1 then decide (0 ≤ j.N ∧ j.N ≤ 1) else if j.Kind = 2 then decide (-1000000000 ≤ j.N ∧ j.N ≤ 1000000000) else if j.Kind = 3 then txtB j.S else decide (j.Kind = 4) || decide (j.Kind = 5)
theorem qVT (j : Json) : ownB j = (preB j && !k3B j) := by
 unfold ownB preB k3B
 have e2 : decide (j.Names.length = 0) = !decide (0 < j.Names.length) := by
  cases j.Names <;> simp
 have e7 : decide (j.N ≠ 0) = !decide (j.N = 0) := by by_cases c : j.N = 0 <;> simp [c]
 rw [e2, e7]
 generalize decide (0 < j.List_.length) = b1
 generalize decide (0 < j.Names.length) = b2
 generalize decide (j.S ≠ ByteArray.mk #[]) = b3
 generalize decide (j.Names.length = j.List_.length) = b4
 generalize namesB j.Names = b5
 generalize txtB j.S = b6
 generalize decide (0 ≤ j.N ∧ j.N ≤ 1) = b8
 generalize decide (-1000000000 ≤ j.N ∧ j.N ≤ 1000000000) = b9
 generalize decide (j.N = 0) = b7
 by_cases k0 : j.Kind = 0
 · simp [k0]; cases b1 <;> cases b2 <;> cases b3 <;> cases b7 <;> simp
 by_cases k1 : j.Kind = 1
 · simp [k1]; cases b1 <;> cases b2 <;> cases b3 <;> cases b8 <;> simp
 by_cases k2 : j.Kind = 2
 · simp [k2]; cases b1 <;> cases b2 <;> cases b3 <;> cases b9 <;> simp
 by_cases k3 : j.Kind = 3
 · simp [k3]; cases b1 <;> cases b2 <;> cases b6 <;> cases b7 <;> simp
 by_cases k4 : j.Kind = 4
 · simp [k4]; cases b1 <;> cases b2 <;> cases b3 <;> cases b7 <;> simp
 by_cases k5 : j.Kind = 5
 · simp [k5]; cases b3 <;> cases b7 <;> cases b4 <;> cases b5 <;> simp
 simp [k0, k1, k2, k3, k4, k5]
def bl (l : List UInt8) : ByteArray := ⟨l.toArray⟩
theorem bl_sa (a b : List UInt8) : Ls.sa (bl a) (bl b) = bl (a ++ b) := by
 show (bl a ++ bl b) = _
 apply ByteArray.ext
 simp [bl]
theorem qOK (a : List UInt8) : (bl a).size = a.length := rfl
theorem qWW (n : Nat) (h : n < 256) : bsO [(n : Int)] = bl [UInt8.ofNat n] := rfl
def digs (u : Nat) : List UInt8 := if u = 0 then [] else Lib.decDigits u
theorem qiF {u : Nat} (h : 0 < u) : digs u = digs (u / 10) ++ [UInt8.ofNat (48 + u % 10)] := by
 unfold digs
 rw [if_neg (by omega), Lib.decDigits]
 split
 ·
  rename_i c
  rw [if_pos (by omega)]
  have : u % 10 = u := by omega
  rw [this]; rfl
 rw [if_neg (by omega)]
theorem wrap8 {n : Nat} (h : n < 256) : IntKind.wrap .u8 (n : Int) = n := by simp [IntKind.wrap, IntKind.signed, IntKind.bits]; omega
theorem qXW {x y : ByteArray} (h : (x.size + y.size : Int) ≤ 9223372036854775807) : smO x y = some () := by unfold smO; rw [if_pos h]
theorem qbJ : ∀ (k u : Nat), u < 10 ^ k → (digs u).length ≤ k := by
  intro k
  induction k with
  | zero => intro u h; have : u = 0 := by simpa using h
            subst this; simp [digs]
  | succ k ih =>
    intro u h
    by_cases h0 : u = 0
    · subst h0; simp [digs]
    · rw [qiF (by omega)]
      have := ih (u / 10) (by rw [Nat.pow_succ] at h; omega)
      simp only [List.length_append, List.length_cons, List.length_nil]; omega
theorem qWT : ∀ x : List UInt8, Op.bytesLess x x = false
 | [] => rfl
 | a :: x => by
  rw [Op.bytesLess, qWT x]
  have : ¬ a < a := by rw [UInt8.lt_iff_toNat_lt]; omega
  simp [this]
theorem qRO : ∀ {x y z : List UInt8}, Op.bytesLess x y = true → Op.bytesLess y z = true → Op.bytesLess x z = true
 | [], _, [], _, h => by cases ‹List UInt8› <;> simp [Op.bytesLess] at h
 | [], _, c :: z, _, _ => rfl
 | a :: x, [], z, h, _ => by simp [Op.bytesLess] at h
 | a :: x, b :: y, [], _, h => by simp [Op.bytesLess] at h
 | a :: x, b :: y, c :: z, h, h' => by
  simp only [Op.bytesLess, Bool.or_eq_true, decide_eq_true_eq, Bool.and_eq_true, beq_iff_eq, UInt8.lt_iff_toNat_lt] at *
  rcases h with h | ⟨rfl, h⟩
  ·
   rcases h' with h' | ⟨rfl, h'⟩
   · left; omega
   left; exact h
  rcases h' with h' | ⟨rfl, h'⟩
  · left; exact h'
  right; exact ⟨rfl, qRO h h'⟩
theorem qXT : ∀ {x y : List UInt8}, x ≠ y → Op.bytesLess x y = false → Op.bytesLess y x = true
 | [], [], h, _ => absurd rfl h
 | [], b :: y, _, h => by simp [Op.bytesLess] at h
 | a :: x, [], _, _ => rfl
 | a :: x, b :: y, hne, h => by
  simp only [Op.bytesLess, Bool.or_eq_false_iff, Bool.and_eq_false_iff, decide_eq_false_iff_not, Bool.or_eq_true, decide_eq_true_eq, Bool.and_eq_true, beq_iff_eq, UInt8.lt_iff_toNat_lt] at *
  obtain ⟨h1, h2⟩ := h
  by_cases e : a = b
  ·
   subst e
   right
   refine ⟨rfl, qXT (fun e => hne (by rw [e])) ?_⟩
   rcases h2 with h2 | h2
   · simp at h2
   exact h2
  left
  have : a.toNat ≠ b.toNat := fun e' => e (UInt8.toNat_inj.1 e')
  omega
def nlt (x y : ByteArray) : Bool := Ls.sc .lss x y
theorem qPK (x : ByteArray) : nlt x x = false := qWT x.toList
theorem qcJ {x y z : ByteArray} (h : nlt x y = true) (h' : nlt y z = true) : nlt x z = true := qRO h h'
theorem toList_inj {x y : ByteArray} (h : x.toList = y.toList) : x = y := by
 have : (x.toList == y.toList) = true := by rw [h]; simp
 rw [ba_eq] at this
 exact of_decide_eq_true this
theorem qhS {x y : ByteArray} (hne : x ≠ y) (h : nlt x y = false) : nlt y x = true := qXT (fun e => hne (toList_inj e)) h
theorem qbL {x y : ByteArray} (h : nlt x y = true) : nlt y x = false := by
 cases h' : nlt y x with
 | false => rfl
 | true => have := qcJ h h'; rw [qPK] at this; cases this
theorem qMZ (x y : ByteArray) : Ls.sc .geq x y = !nlt x y := rfl
abbrev NV := ByteArray × Int
def numJ (n : Int) : Json := ⟨2, n, ByteArray.empty, [], []⟩
def objJ (P : List NV) : Json := ⟨5, 0, ByteArray.empty, P.map fun p => numJ p.2, P.map (·.1)⟩
def Sn (P : List NV) : Prop := P.Pairwise fun a b => nlt a.1 b.1 = true
def putP (P : List NV) (p : NV) : List NV := (P.filter fun x => nlt x.1 p.1) ++ p :: (P.filter fun x => nlt p.1 x.1)
theorem qYT {P : List NV} {p x : NV} : x ∈ putP P p ↔ x = p ∨ (x ∈ P ∧ x.1 ≠ p.1) := by
 unfold putP
 rw [List.mem_append, List.mem_cons, List.mem_filter, List.mem_filter]
 constructor
 ·
  rintro (⟨h, h'⟩ | h | ⟨h, h'⟩)
  · exact .inr ⟨h, fun e => by rw [e, qPK] at h'; cases h'⟩
  · exact .inl h
  exact .inr ⟨h, fun e => by rw [e, qPK] at h'; cases h'⟩
 rintro (h | ⟨h, h'⟩)
 · exact .inr (.inl h)
 cases c : nlt x.1 p.1 with
 | true => exact .inl ⟨h, rfl⟩
 | false => exact .inr (.inr ⟨h, qhS h' c⟩)
theorem qGa {P : List NV} {p : NV} (h : Sn P) : Sn (putP P p) := by
 unfold putP
 refine List.pairwise_append.2 ⟨h.filter _, List.pairwise_cons.2 ⟨fun x hx => (List.mem_filter.1 hx).2, h.filter _⟩, fun a ha b hb => ?_⟩
 have h1 := (List.mem_filter.1 ha).2
 rcases List.mem_cons.1 hb with rfl | hb
 · exact h1
 exact qcJ h1 (List.mem_filter.1 hb).2
theorem qdY (P : List NV) (p : NV) : (putP P p).length ≤ P.length + 1 := by
 unfold putP
 rw [List.length_append, List.length_cons]
 have h1 : (P.filter fun x => nlt x.1 p.1).length + (P.filter fun x => nlt p.1 x.1).length ≤ P.length := by
  induction P with
  | nil => simp
  | cons a P ih =>
   simp only [List.filter_cons, List.length_cons]
   cases c1 : nlt a.1 p.1 with
   | true => rw [qbL c1]; simp; omega
   | false =>
    cases c2 : nlt p.1 a.1 <;> simp <;> omega
 omega
def foldP (P : List NV) : List NV := P.foldl putP []
theorem qHH (P : List NV) (p : NV) : foldP (P ++ [p]) = putP (foldP P) p := by unfold foldP; rw [List.foldl_append]; rfl
theorem qIH (P : List NV) : (foldP P).length ≤ P.length := by
 have : ∀ (P acc : List NV), (P.foldl putP acc).length ≤ P.length + acc.length := by
  intro P
  induction P with
  | nil => intro acc; simp
  | cons p P ih => intro acc; have := ih (putP acc p); have := qdY acc p; simp only [List.foldl_cons, List.length_cons]; omega
 simpa [foldP] using this P []
theorem qaH (P : List NV) : Sn (foldP P) := by
 have : ∀ (P acc : List NV), Sn acc → Sn (P.foldl putP acc) := by
  intro P
  induction P with
  | nil => intro acc h; exact h
  | cons p P ih => intro acc h; exact ih _ (qGa h)
 exact this P [] List.Pairwise.nil
def Fn1 (P : List NV) : Prop := ∀ x ∈ P, ∀ y ∈ P, x.1 = y.1 → x = y
theorem qNM : ∀ (P : List NV), Fn1 P → ∀ x, x ∈ foldP P ↔ x ∈ P := by
 have : ∀ (n : Nat) (P : List NV), P.length = n → Fn1 P → ∀ x, x ∈ foldP P ↔ x ∈ P := by
  intro n
  induction n with
  | zero => intro P h _ x; rw [List.length_eq_zero_iff.1 h]; exact Iff.rfl
  | succ n ih =>
   intro P h hf x
   obtain ⟨Q, p, rfl⟩ : ∃ Q p, P = Q ++ [p] := ⟨P.dropLast, P.getLast (by rintro rfl; simp at h), (List.dropLast_concat_getLast _).symm⟩
   have ihq := ih Q (by simpa using h) (fun a ha b hb => hf a (by simp [ha]) b (by simp [hb]))
   rw [qHH, qYT, ihq x, List.mem_append, List.mem_singleton]
   constructor
   ·
    rintro (h | h)
    · exact .inr h
    exact .inl h.1
   rintro (h | h)
   ·
    by_cases e : x.1 = p.1
    · exact .inl (hf x (by simp [h]) p (by simp) e)
    exact .inr ⟨h, e⟩
   exact .inl h
 exact fun P => this P.length P rfl
theorem Sn.unique {P Q : List NV} (h : Sn P) (h' : Sn Q) (e : ∀ x, x ∈ P ↔ x ∈ Q) : P = Q := by
 have nd : ∀ {R : List NV}, Sn R → R.Nodup := fun h => List.nodup_iff_pairwise_ne.2 (h.imp fun h e => by rw [e, qPK] at h; cases h)
 exact List.Perm.eq_of_pairwise (fun a b _ _ h1 h2 => by rw [qbL h1] at h2; cases h2) h h' ((List.perm_ext_iff_of_nodup (nd h) (nd h')).2 e)
theorem qOU {P Q : List NV} (h : Fn1 P) (h' : Fn1 Q) (e : ∀ x, x ∈ P ↔ x ∈ Q) : foldP P = foldP Q :=
 (qaH P).unique (qaH Q) fun x => by rw [qNM P h, qNM Q h']; exact e x
theorem qIN (s : ByteArray) (hs : (s.data.toList.length : Int) ≤ 4611686018427387904) : ∀ (k i : Nat), i ≤ s.data.toList.length → s.data.toList.length < i + k → qrC.l0 s k (s.data.toList.length : Int) i = some (((s.data.toList.drop i).all fun b => decide (32 ≤ b.toNat ∧ b.toNat ≤ 126)) && decide (s.size ≤ 60)) := by
 intro k
 induction k with
 | zero => intro i h h'; omega
 | succ k ih =>
  intro i h h'
  rw [qrC.l0]
  by_cases hi : i < s.data.toList.length
  ·
   have hx := List.getElem?_eq_getElem hi
   have hb : (s.data.toList[i]).toNat < 256 := UInt8.toNat_lt _
   rw [decide_eq_true (by omega), cond_true, qKZ hi, Option.bind_some, sx_at hx, qNB (by omega), qgB, Option.bind_some, List.drop_eq_getElem_cons hi, List.all_cons, qAB (by omega), ih (i + 1) (by omega) (by omega), qTC]
   by_cases c : 32 ≤ (s.data.toList[i]).toNat ∧ (s.data.toList[i]).toNat ≤ 126
   · rw [decide_eq_true (by omega), decide_eq_true c]; simp
   rw [decide_eq_false (by omega), decide_eq_false c]; simp
  rw [decide_eq_false (by omega), cond_false, List.drop_eq_nil_of_le (by omega), qUT, qaJ]
  simp
  omega
theorem qjI (s : ByteArray) (hs : (s.size : Int) ≤ 4611686018427387904) : qrC.f s = some (txtB s) := by
 unfold qrC.f txtB
 rw [qaJ] at hs
 rw [qUT]
 exact qIN s hs _ 0 (by omega) (by omega)
theorem qSO (l : List ByteArray) (i : Nat) (x : ByteArray) (r : Bool) (hx : l[i]? = some x) (hl : (l.length : Int) ≤ 4611686018427387904) : (gd (bo3 (bo3 (bo3 r false true) false true) (decide (0 < (i : Int))) false) (getO l (w64 ((i : Int) - 1)))) = some (bif (r && decide (0 < i)) then l.getD (i - 1) default else default) := by
 have hi := at_lt hx
 cases r with
 | false => rfl
 | true =>
  by_cases c : 0 < i
  ·
   rw [decide_eq_true (by omega), decide_eq_true c, show bo3 (bo3 (bo3 true false true) false true) true false = true from rfl, qOC, qNB (by omega), show (i : Int) - 1 = ((i - 1 : Nat) : Int) by omega, qv, List.getD_eq_getElem?_getD, List.getElem?_eq_getElem (by omega)]
   rfl
  rw [decide_eq_false (by omega), decide_eq_false c]; rfl
theorem qOM (l : List ByteArray) (hl : (l.length : Int) ≤ 4611686018427387904) (hs : ∀ x ∈ l, (x.size : Int) ≤ 4611686018427387904) : qdC.f l = some (namesB l) := by
 unfold qdC.f namesB
 refine (quC (f := qdC.l0 l) (l := l) (fun i x => txtB x && !(decide (0 < i) && Ls.sc .geq (l.getD (i - 1) default) x)) (some false) (some true) (fun k i x hx => ?_) (fun k i hi => ?_) _ 0 (by omega) (by rw [qH]; omega)).trans ?_
 ·
  have hi := at_lt hx
  rw [qdC.l0, qH, decide_eq_true (by omega), cond_true, qv, hx, Option.bind_some, qjI x (hs x (List.mem_of_getElem? hx)), Option.bind_some, qSO l i x _ hx hl, Option.bind_some, qAB (by omega)]
  cases txtB x with
  | false => rfl
  | true =>
   by_cases c : 0 < i
   ·
    have c' : 0 < (i : Int) := by omega
    rw [decide_eq_true c, decide_eq_true c']
    cases hg : Ls.sc .geq (l.getD (i - 1) default) x <;> simp [bo3, hg] <;> simp_all
   have c' : ¬ 0 < (i : Int) := by omega
   rw [decide_eq_false c, decide_eq_false c']
   simp [bo3]
 · rw [qdC.l0, qH, decide_eq_false (by omega), cond_false]
 cases allFrom (fun i x => txtB x && !(decide (0 < i) && Ls.sc .geq (l.getD (i - 1) default) x)) l 0 <;> rfl
theorem qUP (j : Json) (h : Jw j) : qEH.f j = some (ownB j) := by
 obtain ⟨h1, h2, h3, h4, _⟩ := (Jw_eq j).1 h
 unfold qEH.f ownB
 rw [qjI _ h1, qOM _ h3 h2, qgB, qVH, qH, qH, qDI]
 have e1 : decide (0 < (j.List_.length : Int)) = decide (0 < j.List_.length) := decide_eq_decide.2 (by omega)
 have e2 : decide (0 < (j.Names.length : Int)) = decide (0 < j.Names.length) := decide_eq_decide.2 (by omega)
 have e3 : decide ((j.Names.length : Int) = j.List_.length) = decide (j.Names.length = j.List_.length) := decide_eq_decide.2 (by omega)
 rw [e1, e2, e3]
 simp only [qAE, qyQ]
 generalize decide (0 < j.List_.length) = b1
 generalize decide (0 < j.Names.length) = b2
 generalize decide (j.S ≠ ByteArray.mk #[]) = b3
 generalize decide (j.Names.length = j.List_.length) = b4
 generalize namesB j.Names = b5
 generalize txtB j.S = b6
 by_cases k1 : j.Kind = 1
 ·
  simp [k1]
  cases b1 <;> cases b2 <;> cases b3 <;> simp
 by_cases k2 : j.Kind = 2
 ·
  simp [k2]
  cases b1 <;> cases b2 <;> cases b3 <;> simp
 by_cases k3 : j.Kind = 3
 ·
  simp [k3]
  cases b1 <;> cases b2 <;> cases decide (j.N = 0) <;> simp
 by_cases k5 : j.Kind = 5
 ·
  simp [k5]
  cases b4 <;> cases b3 <;> cases decide (j.N = 0) <;> simp [gd]
 simp only [k1, k2, k3, k5, if_false, decide_false, cond_false, ne_eq, not_false_eq_true, decide_true, Bool.and_true, bo3]
 have e9 : (decide ¬j.Kind = 4) = !decide (j.Kind = 4) := by by_cases c : j.Kind = 4 <;> simp [c]
 have e7 : (decide ¬j.N = 0) = !decide (j.N = 0) := by by_cases c : j.N = 0 <;> simp [c]
 rw [e9, e7]
 generalize decide (j.N = 0) = b7'
 generalize decide (j.Kind = 0) = b8
 generalize decide (j.Kind = 4) = b9'
 cases b1 <;> cases b2 <;> cases b3 <;> cases b7' <;> cases b8 <;> cases b9' <;> simp
theorem qJN (j : Json) (d : Int) (self : Json → Int → Option Int) (f : Json → Int) (hf : ∀ x, 1 ≤ f x ∧ f x ≤ 401) (hl : (j.List_.length : Int) ≤ 4611686018427387904) (hs : ∀ x ∈ j.List_, self x (w64 (d - 1)) = some (f x)) :
  ∀ (k i : Nat) (n : Int), i ≤ j.List_.length → j.List_.length < i + k → 1 ≤ n → n ≤ 401 → qjB.l0 j d self k n i = some (capL f n (j.List_.drop i)) := by
 intro k
 induction k with
 | zero => intro i n h h'; omega
 | succ k ih =>
  intro i n h h' hn hn'
  rw [qjB.l0, qH]
  by_cases hi : i < j.List_.length
  ·
   have := hf j.List_[i]
   rw [decide_eq_true (by omega), cond_true, qv, List.getElem?_eq_getElem hi, Option.bind_some, hs _ (List.getElem_mem hi), Option.bind_some, qNB (by omega), List.drop_eq_getElem_cons hi, capL, qAB (by omega)]
   by_cases c : 400 < n + f j.List_[i]
   · rw [decide_eq_true c, cond_true, if_pos c]
   rw [decide_eq_false c, cond_false, if_neg c]
   exact ih (i + 1) _ (by omega) (by omega) (by omega) (by omega)
  rw [decide_eq_false (by omega), cond_false, List.drop_eq_nil_of_le (by omega), capL]
theorem qVP : ∀ (k d : Nat) (j : Json), d < k → d ≤ 1000 → Jw j → qjB.g k j d = some (sizeF d j) := by
 intro k
 induction k with
 | zero => intro d j h; omega
 | succ k ih =>
  intro d j h hd hj
  obtain ⟨h1, h2, h3, h4, h5⟩ := (Jw_eq j).1 hj
  rw [qjB.g, qjB.b, qUP j hj]
  cases d with
  | zero => rw [decide_eq_true (by omega), sizeF]; rfl
  | succ d =>
   rw [decide_eq_false (by omega), sizeF]
   cases ho : ownB j with
   | false => rfl
   | true =>
    rw [if_pos rfl]
    simp only [qTC, Bool.not_false, qOC, Option.bind_some, bo3_F, Bool.not_true, cond_false]
    exact qJN j ((d + 1 : Nat) : Int) (qjB.g k) (sizeF d) (qiD d) h4 (fun x hx => by
     rw [qNB (by omega), show ((d + 1 : Nat) : Int) - 1 = (d : Int) by omega]
     exact ih d x (by omega) (by omega) (h5 x hx)) (((lenI j.List_) - 0).toNat + 1) 0 1 (by omega) (by rw [qH]; omega) (by omega) (by omega)
theorem qTF (j : Json) (h : Jw j) : qgE.f j = some (jsonB j) := by
 unfold qgE.f qjB.f
 have := qVP 20 6 j (by omega) (by omega) h
 rw [show (6 : Int) = ((6 : Nat) : Int) from rfl, this, Option.bind_some]
 rfl
def nullJ : Json := ⟨0, 0, ByteArray.empty, [], []⟩
def orJ (j : Json) : Json := if jsonB j = true then j else nullJ
theorem qkI (j : Json) (h : Jw j) : qhE.f j = some (orJ j) := by
 unfold qhE.f orJ
 rw [qTF j h, Option.bind_some, qTC]
 cases jsonB j <;> rfl
def colN (c : Int) : ByteArray := Ls.sa (ByteArray.mk #[99]) (bl (Lib.itoa c))
def colP (r : Row) (c : Int) : NV := (colN c, cellF r c)
def idP (r : Row) : NV := (ByteArray.mk #[105, 100], r.Id)
def kidsP (n : Int) : NV := (ByteArray.mk #[107, 105, 100, 115], n)
def kidsL (q : Query) (n : Int) : List NV := if q.Kids = true then [kidsP n] else []
def rowObj (q : Query) (r : Row) (n : Int) : Json := objJ (foldP (q.Show.map (colP r) ++ [idP r] ++ kidsL q n))
theorem qEI (c : Int) : colN c = bl (99 :: Lib.itoa c) := by
 unfold colN
 rw [show ByteArray.mk #[99] = bl [99] from rfl, bl_sa]; rfl
theorem qLR {a b : List UInt8} (h : bl a = bl b) : a = b := by
 have : (bl a).data.toList = (bl b).data.toList := by rw [h]
 simpa [bl] using this
theorem qeY : ∀ (k u v : Nat), u < 10 ^ k → v < 10 ^ k → digs u = digs v → u = v := by
 intro k
 induction k with
 | zero => intro u v h h' _; simp at h h'; omega
 | succ k ih =>
  intro u v h h' e
  rw [Nat.pow_succ] at h h'
  by_cases hu : u = 0
  ·
   by_cases hv : v = 0
   · omega
   rw [qiF (u := v) (by omega)] at e
   subst hu
   simp [digs] at e
  by_cases hv : v = 0
  ·
   rw [qiF (u := u) (by omega)] at e
   subst hv
   simp [digs] at e
  rw [qiF (by omega), qiF (u := v) (by omega)] at e
  obtain ⟨e1, e2⟩ := List.append_inj' e rfl
  have h1 := ih _ _ (by omega) (by omega) e1
  simp only [List.cons.injEq, and_true] at e2
  have h2 : (UInt8.ofNat (48 + u % 10)).toNat = (UInt8.ofNat (48 + v % 10)).toNat := by rw [e2]
  simp only [UInt8.toNat_ofNat'] at h2
  omega
theorem qXI {u : Nat} (h : 0 < u) : Lib.decDigits u = digs u := by unfold digs; rw [if_neg (by omega)]
theorem qZT : Lib.decDigits 0 = [48] := by rw [Lib.decDigits, dif_pos (by decide)]; rfl
theorem qHa : ∀ (k u : Nat), u < 10 ^ k → ∀ b ∈ digs u, 48 ≤ b.toNat := by
  intro k
  induction k with
  | zero => intro u h b hb; have : u = 0 := by simpa using h
            subst this; simp [digs] at hb
  | succ k ih =>
    intro u h b hb
    by_cases h0 : u = 0
    · subst h0; simp [digs] at hb
    · rw [qiF (by omega)] at hb
      rw [Nat.pow_succ] at h
      rcases List.mem_append.1 hb with hb | hb
      · exact ih _ (by omega) b hb
      · rw [List.mem_singleton.1 hb, UInt8.toNat_ofNat']; omega
theorem qTO {u : Nat} (h : u < 10 ^ 29) : ∀ {l : List UInt8}, digs u = l → ∀ {x y}, l = x :: y → 0 < u → x ≠ 48 := by
 have : ∀ (k u : Nat), u < 10 ^ k → 0 < u → ∃ x y, digs u = x :: y ∧ x ≠ 48 := by
  intro k
  induction k with
  | zero => intro u h h0; simp at h; omega
  | succ k ih =>
   intro u h h0
   rw [Nat.pow_succ] at h
   rw [qiF h0]
   by_cases c : u / 10 = 0
   ·
    rw [c]
    refine ⟨UInt8.ofNat (48 + u % 10), [], by simp [digs], fun e => ?_⟩
    have : (UInt8.ofNat (48 + u % 10)).toNat = 48 := by rw [e]; rfl
    rw [UInt8.toNat_ofNat'] at this
    omega
   obtain ⟨x, y, e1, e2⟩ := ih (u / 10) (by omega) (by omega)
   exact ⟨x, y ++ [UInt8.ofNat (48 + u % 10)], by rw [e1]; rfl, e2⟩
 intro l hl x y hxy h0
 obtain ⟨x', y', e1, e2⟩ := this 29 u h h0
 rw [hl, hxy] at e1
 simp only [List.cons.injEq] at e1
 rw [e1.1]; exact e2
theorem qaT {a b : Int} (ha : -9223372036854775808 ≤ a ∧ a ≤ 9223372036854775807) (hb : -9223372036854775808 ≤ b ∧ b ≤ 9223372036854775807) (h : Lib.itoa a = Lib.itoa b) : a = b := by
 have key : ∀ u v : Nat, u ≤ 9223372036854775808 → v ≤ 9223372036854775808 → Lib.decDigits u = Lib.decDigits v → u = v := fun u v hu hv e => by
  by_cases u0 : u = 0
  ·
   by_cases v0 : v = 0
   · omega
   exfalso
   subst u0
   rw [qZT, qXI (by omega)] at e
   exact qTO (u := v) (by omega) e.symm rfl (by omega) rfl
  by_cases v0 : v = 0
  ·
   exfalso
   subst v0
   rw [qZT, qXI (by omega)] at e
   exact qTO (u := u) (by omega) e rfl (by omega) rfl
  rw [qXI (by omega), qXI (by omega)] at e
  exact qeY 29 u v (by omega) (by omega) e
 have hd : ∀ u : Nat, u ≤ 9223372036854775808 → ∀ x ∈ Lib.decDigits u, 48 ≤ x.toNat := fun u hu x hx => by
  by_cases u0 : u = 0
  · subst u0; rw [qZT] at hx; rw [List.mem_singleton.1 hx]; decide
  rw [qXI (by omega)] at hx; exact qHa 29 u (by omega) x hx
 unfold Lib.itoa at h
 by_cases c1 : a < 0 <;> by_cases c2 : b < 0
 ·
  rw [if_pos c1, if_pos c2] at h
  have := key _ _ (by omega) (by omega) (List.cons.inj h).2
  omega
 ·
  rw [if_pos c1, if_neg c2] at h
  have := hd b.toNat (by omega) 45 (by rw [← h]; simp)
  simp at this
 ·
  rw [if_neg c1, if_pos c2] at h
  have := hd a.toNat (by omega) 45 (by rw [h]; simp)
  simp at this
 rw [if_neg c1, if_neg c2] at h
 have := key _ _ (by omega) (by omega) h
 omega
theorem qQK (c : Int) : colN c ≠ ByteArray.mk #[105, 100] := fun e => by
 rw [qEI, show ByteArray.mk #[105, 100] = bl [105, 100] from rfl] at e
 have := qLR e
 simp at this
theorem qFI (c : Int) : colN c ≠ ByteArray.mk #[107, 105, 100, 115] := fun e => by
 rw [qEI, show ByteArray.mk #[107, 105, 100, 115] = bl [107, 105, 100, 115] from rfl] at e
 have := qLR e
 simp at this
theorem qRK : (ByteArray.mk #[105, 100]) ≠ ByteArray.mk #[107, 105, 100, 115] := fun e => by
 rw [show ByteArray.mk #[105, 100] = bl [105, 100] from rfl, show ByteArray.mk #[107, 105, 100, 115] = bl [107, 105, 100, 115] from rfl] at e
 have := qLR e
 simp at this
def In64 (l : List Int) : Prop := ∀ x ∈ l, -9223372036854775808 ≤ x ∧ x ≤ 9223372036854775807
theorem qNZ {r : Row} {n : Int} {q : Query} {P : List NV} {cols : List Int} (hc : In64 cols) (h : ∀ x ∈ P, (∃ c ∈ cols, x = colP r c) ∨ x = idP r ∨ x = kidsP n) : Fn1 P := fun x hx y hy e => by
 rcases h x hx with ⟨c, c1, rfl⟩ | rfl | rfl <;> rcases h y hy with ⟨d, d1, rfl⟩ | rfl | rfl
 ·
  have e : colN c = colN d := e
  rw [qEI, qEI] at e
  rw [qaT (hc c c1) (hc d d1) (List.cons.inj (qLR e)).2]
 · exact absurd e (qQK c)
 · exact absurd e (qFI c)
 · exact absurd e.symm (qQK d)
 · rfl
 · exact absurd e qRK
 · exact absurd e.symm (qFI d)
 · exact absurd e.symm qRK
 rfl
theorem qbT (n : Int) (h : -9223372036854775808 ≤ n ∧ n ≤ 9223372036854775807) : (Lib.itoa n).length ≤ 30 := by
 have hd : ∀ u : Nat, u ≤ 9223372036854775808 → (Lib.decDigits u).length ≤ 29 := fun u hu => by
  by_cases u0 : u = 0
  · subst u0; rw [qZT]; simp
  rw [qXI (by omega)]; exact qbJ 29 u (by omega)
 unfold Lib.itoa
 split
 · have := hd n.natAbs (by omega); simp only [List.length_cons]; omega
 have := hd n.toNat (by omega); omega
theorem qYW (n : Int) (h : -9223372036854775808 ≤ n ∧ n ≤ 9223372036854775807) : (colN n).size ≤ 31 := by
 rw [qEI, qOK]
 have := qbT n h
 simp only [List.length_cons]; omega
theorem put_c (n : Int) (h : -9223372036854775808 ≤ n ∧ n ≤ 9223372036854775807) : smO (ByteArray.mk #[99]) (bl (Lib.itoa n)) = some () := qXW (by
 rw [qOK, show (ByteArray.mk #[99]).size = 1 from rfl]
 have := qbT n h
 omega)
theorem qUO {P : List NV} {x : NV} : x ∈ foldP P → x ∈ P := by
 have : ∀ (P acc : List NV), x ∈ P.foldl putP acc → x ∈ P ∨ x ∈ acc := by
  intro P
  induction P with
  | nil => intro acc h; exact .inr h
  | cons p P ih =>
   intro acc h
   rcases ih _ h with h | h
   · exact .inl (List.mem_cons_of_mem _ h)
   rcases qYT.1 h with rfl | h
   · exact .inl (List.mem_cons_self ..)
   exact .inr h.1
 intro h
 exact (this P [] h).elim id (by simp)
theorem qOZ (n : Int) : Jw (numJ n) := (Jw_eq _).2 ⟨by show ((0 : Nat) : Int) ≤ _; omega, by simp [numJ], by simp [numJ], by simp [numJ], by simp [numJ]⟩
theorem qMb {P : List NV} (hl : P.length ≤ 4194304) (hs : ∀ x ∈ P, x.1.size ≤ 31) : Jw (objJ P) := (Jw_eq _).2 ⟨by show ((0 : Nat) : Int) ≤ _; omega, fun x hx => by
 obtain ⟨p, hp, rfl⟩ := List.mem_map.1 hx
 have := hs p hp
 omega, by simp only [objJ, List.length_map]; omega, by simp only [objJ, List.length_map]; omega, fun x hx => by
 obtain ⟨p, hp, rfl⟩ := List.mem_map.1 hx
 exact qOZ _⟩
theorem qIa (P : List NV) : szj (objJ P) = 2 * (P.length : Int) ∧ dpj (objJ P) ≤ 2 := by
 have h1 : ∀ l : List NV, szL (l.map fun p => numJ p.2) = l.length ∧ dpL (l.map fun p => numJ p.2) ≤ 1 := by
  intro l
  induction l with
  | nil => simp [szL, dpL]
  | cons p l ih =>
   have e1 : szj (numJ p.2) = 0 := by simp [numJ, szj, szL]
   have e2 : dpj (numJ p.2) = 1 := by simp [numJ, dpj, dpL]
   rw [List.map_cons, szL, dpL, e1, e2, ih.1, List.length_cons]
   omega
 have := h1 P
 refine ⟨?_, ?_⟩
 ·
  show szj ⟨5, 0, ByteArray.empty, _, _⟩ = _
  rw [szj, this.1, List.length_map]; omega
 show dpj ⟨5, 0, ByteArray.empty, _, _⟩ ≤ _
 rw [dpj]; omega
theorem qPU {q : Query} {r : Row} {n : Int} (hc : In64 q.Show) : ∀ x ∈ foldP (q.Show.map (colP r) ++ [idP r] ++ kidsL q n), x.1.size ≤ 31 := fun x hx => by
 have := qUO hx
 simp only [List.mem_append, List.mem_map, List.mem_singleton] at this
 rcases this with (⟨c, h1, rfl⟩ | rfl) | h
 · exact qYW c (hc c h1)
 · show (ByteArray.mk #[105, 100]).size ≤ 31; decide
 unfold kidsL at h
 split at h
 · rw [List.mem_singleton.1 h]; show (ByteArray.mk #[107, 105, 100, 115]).size ≤ 31; decide
 simp at h
theorem qWP {q : Query} {r : Row} {n : Int} (hc : In64 q.Show) (hl : q.Show.length ≤ 2097152) : Jw (rowObj q r n) ∧ szj (rowObj q r n) ≤ 8388608 ∧ dpj (rowObj q r n) ≤ 2 := by
 have h1 := qIH (q.Show.map (colP r) ++ [idP r] ++ kidsL q n)
 have h2 : (kidsL q n).length ≤ 1 := by unfold kidsL; split <;> simp
 simp only [List.length_append, List.length_map, List.length_singleton] at h1
 have := qIa (foldP (q.Show.map (colP r) ++ [idP r] ++ kidsL q n))
 exact ⟨qMb (by omega) (qPU hc), by unfold rowObj; omega, by unfold rowObj; omega⟩
theorem qcT {f : Json → Int} (hf : ∀ x, 1 ≤ f x ∧ f x ≤ 401) : ∀ (l : List Json) (n : Int), 0 ≤ n → n ≤ 400 → capL f n l ≤ 400 → capL f n l = n + (l.map f).sum ∧ ∀ x ∈ l, f x ≤ 400
 | [], n, _, _, _ => by simp [capL]
 | x :: l, n, h0, hn, h => by
  have hfx := hf x
  rw [capL] at h ⊢
  split at h
  · omega
  rename_i c
  rw [if_neg c]
  obtain ⟨h1, h2⟩ := qcT hf l (n + f x) (by omega) (by omega) h
  refine ⟨by rw [h1, List.map_cons, List.sum_cons]; omega, fun y hy => ?_⟩
  rcases List.mem_cons.1 hy with rfl | hy
  · omega
  exact h2 y hy
theorem qZW {j : Json} (h : ownB j = true) : j.Names.length ≤ j.List_.length := by
 rw [qVT, Bool.and_eq_true] at h
 have h2 := h.2
 unfold k3B at h2
 simp only [Bool.not_eq_true', Bool.or_eq_false_iff] at h2
 have h3 := h2.2
 by_cases k5 : j.Kind = 5
 ·
  rw [if_pos k5] at h3
  simp only [Bool.not_eq_false', Bool.and_eq_true, decide_eq_true_eq] at h3
  omega
 rw [if_neg k5] at h3
 simp only [Bool.not_eq_false', decide_eq_true_eq] at h3
 omega
theorem qPM : ∀ (d : Nat) (j : Json), sizeF d j ≤ 400 → szj j ≤ 2 * sizeF d j - 2 ∧ dpj j ≤ d
 | 0, j, h => by rw [sizeF] at h; omega
 | d + 1, j, h => by
  rw [sizeF] at h ⊢
  split at h
  ·
   rename_i ho
   rw [if_pos ho]
   obtain ⟨h1, h2⟩ := qcT (qiD d) j.List_ 1 (by omega) (by omega) h
   have hn := qZW ho
   rw [h1, qTT, qMM]
   have hL : ∀ l : List Json, (∀ x ∈ l, sizeF d x ≤ 400) → szL l + (l.length : Int) ≤ 2 * (l.map (sizeF d)).sum ∧ dpL l ≤ d := by
    intro l
    induction l with
    | nil => intro _; simp [szL, dpL]
    | cons x l ih =>
     intro hx
     obtain ⟨a1, a2⟩ := ih fun y hy => hx y (by simp [hy])
     obtain ⟨b1, b2⟩ := qPM d x (hx x (by simp))
     rw [szL, dpL, List.map_cons, List.sum_cons, List.length_cons]
     exact ⟨by omega, by omega⟩
   obtain ⟨c1, c2⟩ := hL j.List_ h2
   exact ⟨by omega, by omega⟩
  omega
theorem qVO : ∀ (d e : Nat) (j : Json), dpj j ≤ d → dpj j ≤ e → sizeF d j = sizeF e j
 | 0, e, j, h, _ => by rw [qMM] at h; omega
 | d + 1, 0, j, _, h => by rw [qMM] at h; omega
 | d + 1, e + 1, j, h, h' => by
  rw [qMM] at h h'
  rw [sizeF, sizeF]
  have : ∀ (l : List Json) (n : Int), dpL l ≤ d → dpL l ≤ e → capL (sizeF d) n l = capL (sizeF e) n l := by
   intro l
   induction l with
   | nil => intro n _ _; rfl
   | cons x l ih =>
    intro n h1 h2
    rw [dpL] at h1 h2
    rw [capL, capL, qVO d e x (by omega) (by omega), ih _ (by omega) (by omega)]
  rw [this j.List_ 1 (by omega) (by omega)]
def docsF (q : Query) (kids : List Int) : List Row → Nat → List Json
 | [], _ => []
 | r :: l, i => rowObj q r (kids.getD i 0) :: docsF q kids l (i + 1)
def firstF (q : Query) (n : Nat) : Nat := if q.First = 0 then n else if q.First ≤ 0 then 0 else min n q.First.toNat
def docObj (q : Query) (rows : List Row) (kids : List Int) : Json := ⟨5, 0, ByteArray.empty, [numJ rows.length, ⟨4, 0, ByteArray.empty, docsF q kids (rows.take (firstF q rows.length)) 0, []⟩], [ByteArray.mk #[99, 111, 117, 110, 116], ByteArray.mk #[114, 111, 119, 115]]⟩
def docOfF (q : Query) (rows : List Row) (kids : List Int) : Json := orJ (docObj q rows kids)
theorem qJH (q : Query) (n : Nat) : firstF q n ≤ n := by unfold firstF; split <;> (try split) <;> omega
theorem qRG (q : Query) (kids : List Int) : ∀ (l : List Row) (i : Nat), (docsF q kids l i).length = l.length
 | [], _ => rfl
 | r :: l, i => by rw [docsF, List.length_cons, List.length_cons, qRG q kids l]
theorem qSK (q : Query) (kids : List Int) : ∀ (l : List Row) (i : Nat) (r : Row), docsF q kids (l ++ [r]) i = docsF q kids l i ++ [rowObj q r (kids.getD (i + l.length) 0)]
 | [], i, r => rfl
 | x :: l, i, r => by
  rw [List.cons_append, docsF, qSK q kids l, docsF, List.cons_append, List.length_cons, Nat.add_assoc, Nat.add_comm 1]
theorem qdJ {q : Query} {kids : List Int} : ∀ {l : List Row} {i : Nat} {x : Json}, x ∈ docsF q kids l i → ∃ r n, x = rowObj q r n
 | r :: l, i, x, h => by
  rw [docsF] at h
  rcases List.mem_cons.1 h with rfl | h
  · exact ⟨_, _, rfl⟩
  exact qdJ h
theorem qXP {q : Query} {rows : List Row} {kids : List Int} (hc : In64 q.Show) (hl : q.Show.length ≤ 2097152) (hr : rows.length ≤ 2097152) : Jw (docObj q rows kids) := by
 refine (Jw_eq _).2 ⟨by show ((0 : Nat) : Int) ≤ _; omega, fun x hx => ?_, by simp [docObj], by simp [docObj], fun x hx => ?_⟩
 ·
  simp only [docObj, List.mem_cons, List.not_mem_nil, or_false] at hx
  rcases hx with rfl | rfl
  · show ((5 : Nat) : Int) ≤ _; omega
  show ((4 : Nat) : Int) ≤ _; omega
 simp only [docObj, List.mem_cons, List.not_mem_nil, or_false] at hx
 rcases hx with rfl | rfl
 · exact qOZ _
 refine (Jw_eq _).2 ⟨by show ((0 : Nat) : Int) ≤ _; omega, by simp, by simp, ?_, fun x hx => ?_⟩
 ·
  dsimp only
  rw [qRG, List.length_take]; omega
 obtain ⟨r, n, rfl⟩ := qdJ hx
 exact (qWP hc hl).1
theorem qQU {q : Query} {rows : List Row} {kids : List Int} (hc : In64 q.Show) (hl : q.Show.length ≤ 2097152) {x : Json} (hx : x ∈ docsF q kids (rows.take (firstF q rows.length)) 0) (hb : jsonB x = false) : jsonB (docObj q rows kids) = false := by
 unfold jsonB at *
 rw [decide_eq_false_iff_not] at *
 intro h
 obtain ⟨r, n, rfl⟩ := qdJ hx
 have hd := (qWP (q := q) (r := r) (n := n) hc hl).2.2
 rw [sizeF] at h
 split at h
 ·
  obtain ⟨_, h2⟩ := qcT (qiD 5) _ 1 (by omega) (by omega) h
  have h3 := h2 ⟨4, 0, ByteArray.empty, docsF q kids (rows.take (firstF q rows.length)) 0, []⟩ (by simp [docObj])
  rw [sizeF] at h3
  split at h3
  ·
   obtain ⟨_, h4⟩ := qcT (qiD 4) _ 1 (by omega) (by omega) h3
   have := h4 _ hx
   rw [qVO 4 6 _ (by omega) (by omega)] at this
   exact hb this
  omega
 omega
theorem qQM (q : Query) (n : Nat) : qfF.f q (n : Int) = some (firstF q n : Int) := by
 unfold qfF.f firstF
 by_cases c : q.First = 0
 · rw [decide_eq_true c, cond_true, if_pos c]
 rw [decide_eq_false c, cond_false, if_neg c, Option.bind_some, Option.bind_some]
 congr 1
 unfold minO maxO
 split <;> split <;> (try split) <;> omega
theorem qyI (l : List Int) (x : Int) (hl : l.length ≤ 9223372036854775806) : ∀ (k i : Nat), i ≤ l.length → l.length < i + k → ∃ r : Int, qIC.l0 l x k i = some r ∧ (0 ≤ r ↔ x ∈ l.drop i) := by
 intro k
 induction k with
 | zero => intro i h h'; omega
 | succ k ih =>
  intro i h h'
  rw [qIC.l0, qH]
  by_cases hi : i < l.length
  ·
   rw [decide_eq_true (by omega), cond_true, qv, List.getElem?_eq_getElem hi, Option.bind_some, List.drop_eq_getElem_cons hi, qAB (by omega)]
   by_cases c : x = l[i]
   ·
    rw [decide_eq_true c, cond_true]
    exact ⟨i, rfl, ⟨fun _ => by rw [List.mem_cons]; exact .inl c, fun _ => by omega⟩⟩
   rw [decide_eq_false c, cond_false]
   obtain ⟨r, h1, h2⟩ := ih (i + 1) (by omega) (by omega)
   exact ⟨r, h1, h2.trans ⟨fun h => by rw [List.mem_cons]; exact .inr h, fun h => by rw [List.mem_cons] at h; exact h.elim (fun e => absurd e c) id⟩⟩
  rw [decide_eq_false (by omega), cond_false, List.drop_eq_nil_of_le (by omega)]
  exact ⟨-1, rfl, by simp⟩
theorem qpH (l : List Int) (x : Int) (hl : l.length ≤ 9223372036854775806) : qFD.f l x = some (decide (x ∈ l)) := by
 unfold qFD.f qIC.f
 obtain ⟨r, h1, h2⟩ := qyI l x hl (((lenI l) - 0).toNat + 1) 0 (by omega) (by rw [qH]; omega)
 refine (congrArg (fun o => Option.bind o _) h1).trans ?_
 rw [Option.bind_some]
 congr 1
 rw [List.drop_zero] at h2
 exact decide_eq_decide.2 h2
theorem qRM (n : Int) (h : -9223372036854775808 ≤ n ∧ n ≤ 9223372036854775807) : strconv_Itoa.f n = some (bl (Lib.itoa n)) := by
 unfold strconv_Itoa.f itoaO
 rw [if_pos h]; rfl
theorem qKN (n : Int) (h : -9223372036854775808 ≤ n ∧ n ≤ 9223372036854775807) : qGG.f n = some (bl (Lib.itoa n)) := by
 unfold qGG.f
 rw [qRM n h]; rfl
theorem qJa (x y : ByteArray) : qGE.f x y = some (nlt x y) := by
 unfold qGE.f qoD.f
 rw [qDI, decide_eq_false (by simp), Option.bind_some, qCE, Option.bind_some, bo3_F]
 rfl
theorem qMR (pl : List NV) (n : ByteArray) (hs : Sn pl) (hn : ∀ x ∈ pl, x.1 ≠ n) (hlen : pl.length ≤ 10000000) :
  ∃ (t : Nat) (b : Bool), t ≤ pl.length ∧ qd.f (pl.map (·.1)) n = some ((t : Int), b) ∧ pl.filter (fun x => nlt x.1 n) = pl.take t ∧ pl.filter (fun x => nlt n x.1) = pl.drop t := by
 unfold qd.f
 rw [qiB, qH, List.length_map]
 generalize hK : (fun (y1 : Int) =>
 (gd (decide (y1 < (pl.length : Int))) (getO (pl.map (·.1)) y1)).bind fun x14 =>
 (gd (bo3 (decide (y1 < (pl.length : Int))) (bo3 (Ls.sc .eql x14 n) false true) false) (getO (pl.map (·.1)) y1)).bind fun x15 =>
 (gd (bo3 (decide (y1 < (pl.length : Int))) (bo3 (Ls.sc .eql x14 n) false true) false) (qWC.f x15)).bind fun r16 =>
 (gd (bo3 (bo3 (decide (y1 < (pl.length : Int))) (bo3 (Ls.sc .eql x14 n) false true) false) r16 false) (qWC.f n)).bind fun r17 =>
 some (y1, (bo3 (decide (y1 < (pl.length : Int))) (bo3 (Ls.sc .eql x14 n) true (bo3 r16 r17 false)) false))) = K
 have hat : ∀ c, c < pl.length → ∃ x, pl[c]? = some x := fun c h => ⟨pl[c], List.getElem?_eq_getElem h⟩
 have hmono : ∀ (c c' : Nat) (x y : NV), c ≤ c' → pl[c]? = some x → pl[c']? = some y → nlt x.1 n = false → nlt y.1 n = false := fun c c' x y h1 h2 h3 h4 => by
  rcases Nat.lt_or_ge c c' with h | h
  ·
   have : nlt x.1 y.1 = true := by
    obtain ⟨a1, rfl⟩ := List.getElem?_eq_some_iff.1 h2
    obtain ⟨a2, rfl⟩ := List.getElem?_eq_some_iff.1 h3
    exact List.pairwise_iff_getElem.1 hs c c' a1 a2 h
   cases e : nlt y.1 n with
   | false => rfl
   | true => rw [qcJ this e] at h4; cases h4
  ·
   obtain rfl : c = c' := by omega
   rw [h2] at h3; cases h3; exact h4
 obtain ⟨t, t1, t2, t3, t4, t5⟩ := bsearch (f := fun k i j => qd.l0 (pl.map (·.1)) n K k i j) (K := K) (fun c => nlt (pl.getD c default).1 n) 0 pl.length
  (fun c c' h1 h2 h3 h4 => by
   obtain ⟨x, hx⟩ := hat c (by omega)
   obtain ⟨y, hy⟩ := hat c' h3
   rw [List.getD_eq_getElem?_getD, hx, Option.getD_some] at h4
   rw [List.getD_eq_getElem?_getD, hy, Option.getD_some]
   exact hmono c c' x y h2 hx hy h4)
  (fun k i j h1 h2 h3 => by
   obtain ⟨x, hx⟩ := hat ((i + j) / 2) (by omega)
   show qd.l0 _ n K (k + 1) i j = _
   rw [qd.l0, decide_eq_true (by omega), cond_true, qHM (n := i + j) (by omega) (by omega), qv, List.getElem?_map, hx, Option.map_some, Option.bind_some, qJa, Option.bind_some, List.getD_eq_getElem?_getD, hx, Option.getD_some, qAB (by omega)]
   cases nlt x.1 n with
   | true => rw [cond_true, if_pos rfl]
   | false => rw [cond_false, if_neg (by simp)])
  (fun k i => by
   show qd.l0 _ n K (k + 1) i i = _
   rw [qd.l0, decide_eq_false (by omega), cond_false])
  (((pl.length : Int) - 0).toNat + 1) 0 pl.length (Nat.le_refl _) (by omega) (Nat.le_refl _) (by omega)
 have hlo : ∀ x ∈ pl.take t, nlt x.1 n = true := fun x hx => by
  obtain ⟨i, hi⟩ := List.getElem?_of_mem hx
  have hl := at_lt hi
  rw [List.length_take] at hl
  rw [List.getElem?_take, if_pos (by omega)] at hi
  have := t4 i (by omega) (by omega)
  rw [List.getD_eq_getElem?_getD, hi, Option.getD_some] at this
  exact this
 have hhi : ∀ x ∈ pl.drop t, nlt x.1 n = false := fun x hx => by
  obtain ⟨i, hi⟩ := List.getElem?_of_mem hx
  rw [List.getElem?_drop] at hi
  have hl := at_lt hi
  have := t5 (t + i) (by omega) (by omega)
  rw [List.getD_eq_getElem?_getD, hi, Option.getD_some] at this
  exact this
 have hKt : ∃ b, K (t : Int) = some ((t : Int), b) := by
  rw [← hK]
  dsimp only
  by_cases c : t < pl.length
  ·
   rw [decide_eq_true (by omega), qOC, qv, List.getElem?_map, List.getElem?_eq_getElem c, Option.map_some, Option.bind_some]
   unfold qWC.f
   rw [gd_of, Option.bind_some, gd_of, Option.bind_some, gd_of, Option.bind_some]
   exact ⟨_, rfl⟩
  ·
   rw [decide_eq_false (by omega)]
   exact ⟨_, rfl⟩
 obtain ⟨b, hb⟩ := hKt
 refine ⟨t, b, t2, t3.trans hb, ?_, ?_⟩
 ·
  conv => lhs; rw [← List.take_append_drop t pl]
  rw [List.filter_append, List.filter_eq_self.2 hlo, List.filter_eq_nil_iff.2 (fun x hx => by rw [hhi x hx]; simp), List.append_nil]
 ·
  conv => lhs; rw [← List.take_append_drop t pl]
  rw [List.filter_append, List.filter_eq_nil_iff.2 (fun x hx => by rw [qbL (hlo x hx)]; simp), List.filter_eq_self.2 (fun x hx => qhS (hn x (List.mem_of_mem_drop hx)) (hhi x hx)), List.nil_append]
theorem qaW {α : Type} {b : Nat} {l m : List α} {i : Nat} {x : α} (hm : m = [x]) (hi : i ≤ l.length) (hb : ((l.length : Int) + 1) * b ≤ 140737488355328 ∧ (l.length : Int) + 1 ≤ 140737488355328) : insO b l (i : Int) m = some (l.take i ++ x :: l.drop i) := by
 subst hm
 unfold insO
 rw [if_pos ⟨rfl, by omega, by omega, by simpa using hb.1, by simpa using hb.2⟩, Int.toNat_natCast]
 simp
theorem qfY (P : List NV) (hd : P.Pairwise fun a b => a.1 ≠ b.1) (hf : Fn1 P) (hlen : P.length ≤ 10000000) : ∀ (k i : Nat), i ≤ P.length → P.length < i + k →
  qAD.l0 (P.map (·.1)) (P.map (·.2)) k ((foldP (P.take i)).map fun p => numJ p.2) ((foldP (P.take i)).map (·.1)) i = some (objJ (foldP P)) := by
 intro k
 induction k with
 | zero => intro i h h'; omega
 | succ k ih =>
  intro i h h'
  rw [qAD.l0, qH, List.length_map]
  by_cases hi : i < P.length
  ·
   have hx : P[i]? = some P[i] := List.getElem?_eq_getElem hi
   have hl := qIH (P.take i)
   have ht : (P.take i).length = i := by rw [List.length_take]; omega
   have hfT : Fn1 (P.take i) := fun a ha b hb => hf a (List.mem_of_mem_take ha) b (List.mem_of_mem_take hb)
   obtain ⟨t, b, t1, t2, t3, t4⟩ := qMR (foldP (P.take i)) (P[i]).1 (qaH _) (fun x hx' => by
    rw [qNM _ hfT] at hx'
    obtain ⟨m, hm⟩ := List.getElem?_of_mem hx'
    have hml := at_lt hm
    rw [List.getElem?_take, if_pos (by omega)] at hm
    obtain ⟨a1, rfl⟩ := List.getElem?_eq_some_iff.1 hm
    exact List.pairwise_iff_getElem.1 hd m i a1 hi (by omega)) (by omega)
   have e : foldP (P.take (i + 1)) = (foldP (P.take i)).take t ++ P[i] :: (foldP (P.take i)).drop t := by
    rw [qED hx, qHH]; unfold putP; rw [t3, t4]
   rw [decide_eq_true (by omega), cond_true, qv, List.getElem?_map, hx, Option.map_some, Option.bind_some, t2, Option.bind_some, Option.bind_some]
   unfold qWD.f qvC.f
   rw [qaW rfl (by rw [List.length_map]; exact t1) (by rw [List.length_map]; omega), Option.bind_some, qv, List.getElem?_map, hx, Option.map_some, Option.bind_some, Option.bind_some, qaW rfl (by rw [List.length_map]; exact t1) (by rw [List.length_map]; omega), Option.bind_some, qAB (by omega), ← ih (i + 1) (by omega) (by omega), e]
   simp only [List.map_append, List.map_cons, List.map_take, List.map_drop]
   rfl
  have : i = P.length := by omega
  subst this
  rw [decide_eq_false (by omega), cond_false, List.take_length]
  rfl
theorem qYP (P : List NV) (hd : P.Pairwise fun a b => a.1 ≠ b.1) (hf : Fn1 P) (hlen : P.length ≤ 10000000) : qAD.f (P.map (·.1)) (P.map (·.2)) = some (objJ (foldP P)) := by
 unfold qAD.f
 exact qfY P hd hf hlen (((lenI (P.map (·.1))) - 0).toNat + 1) 0 (by omega) (by rw [qH, List.length_map]; omega)
def dd (l : List Int) : Nat → List Int
 | 0 => []
 | i + 1 => if l.getD i 0 ∈ l.take i then dd l i else dd l i ++ [l.getD i 0]
theorem qdT (l : List Int) : ∀ i, (dd l i).length ≤ i
 | 0 => by simp [dd]
 | i + 1 => by have := qdT l i; rw [dd]; split <;> simp <;> omega
theorem qeT (l : List Int) (x : Int) : ∀ i, i ≤ l.length → (x ∈ dd l i ↔ x ∈ l.take i)
 | 0, _ => by simp [dd]
 | i + 1, h => by
  have ih := qeT l x i (by omega)
  have e : l.take (i + 1) = l.take i ++ [l.getD i 0] := by
   rw [qED (x := l[i]'(by omega)) (List.getElem?_eq_getElem (by omega)), List.getD_eq_getElem?_getD, List.getElem?_eq_getElem (by omega)]; rfl
  rw [dd, e]
  split
  ·
   rename_i c
   rw [ih, List.mem_append, List.mem_singleton]
   exact ⟨.inl, fun h => h.elim id fun e => e ▸ c⟩
  rw [List.mem_append, ih, List.mem_append]
theorem dd_nd (l : List Int) : ∀ i, i ≤ l.length → (dd l i).Pairwise (· ≠ ·)
 | 0, _ => List.Pairwise.nil
 | i + 1, h => by
  have ih := dd_nd l i (by omega)
  rw [dd]
  split
  · exact ih
  rename_i c
  refine List.pairwise_append.2 ⟨ih, List.pairwise_singleton .., fun a ha b hb => ?_⟩
  rw [List.mem_singleton.1 hb]
  rintro rfl
  exact c ((qeT l _ i (by omega)).1 ha)
def implPs (q : Query) (r : Row) (n : Int) : List NV := [idP r] ++ (dd q.Show q.Show.length).map (colP r) ++ kidsL q n
theorem qLN (q : Query) (r : Row) (hr : Row_b r) (hc : In64 q.Show) (hl : q.Show.length ≤ 2097152) (K : List ByteArray → List Int → Option Json) : ∀ (k i : Nat), i ≤ q.Show.length → q.Show.length < i + k →
  qhC.l0 q r K k (([idP r] ++ (dd q.Show i).map (colP r)).map (·.1)) (([idP r] ++ (dd q.Show i).map (colP r)).map (·.2)) i = K (([idP r] ++ (dd q.Show q.Show.length).map (colP r)).map (·.1)) (([idP r] ++ (dd q.Show q.Show.length).map (colP r)).map (·.2)) := by
 intro k
 induction k with
 | zero => intro i h h'; omega
 | succ k ih =>
  intro i h h'
  rw [qhC.l0, qH]
  by_cases hi : i < q.Show.length
  ·
   have hx : q.Show[i]? = some q.Show[i] := List.getElem?_eq_getElem hi
   have hg : q.Show.getD i 0 = q.Show[i] := by rw [List.getD_eq_getElem?_getD, hx]; rfl
   have h64 := hc _ (List.getElem_mem hi)
   have hdl := qdT q.Show i
   have hcut : cutO q.Show 0 (i : Int) = some (q.Show.take i) := by rw [qDM (by omega)]; simp
   rw [decide_eq_true (by omega), cond_true, qv, hx, Option.bind_some, hcut, Option.bind_some, qpH _ _ (by rw [List.length_take]; omega), Option.bind_some, qAB (by omega), ← ih (i + 1) (by omega) (by omega), dd, hg]
   by_cases c : q.Show[i] ∈ q.Show.take i
   · rw [decide_eq_true c, cond_true, if_pos c]
   rw [decide_eq_false c, cond_false, if_neg c, qKN _ h64, Option.bind_some, put_c _ h64, Option.bind_some, Option.bind_some, qtB (by simp only [List.length_append, List.length_map, List.length_cons, List.length_nil]; omega), Option.bind_some, qqG r _ hr, Option.bind_some, Option.bind_some, qtB (by simp only [List.length_append, List.length_map, List.length_cons, List.length_nil]; omega), Option.bind_some]
   simp only [List.map_append, List.map_cons, List.map_nil, List.append_assoc]
   rfl
  have : i = q.Show.length := by omega
  subst this
  rw [decide_eq_false (by omega), cond_false]
theorem qbW {q : Query} {r : Row} {n : Int} (hc : In64 q.Show) : (implPs q r n).Pairwise fun a b => a.1 ≠ b.1 := by
 unfold implPs
 have hm : ∀ x ∈ dd q.Show q.Show.length, -9223372036854775808 ≤ x ∧ x ≤ 9223372036854775807 := fun x hx => hc x (by simpa using (qeT q.Show x _ (Nat.le_refl _)).1 hx)
 have hk : ∀ b ∈ kidsL q n, b = kidsP n := fun b hb => by
  unfold kidsL at hb
  split at hb
  · exact List.mem_singleton.1 hb
  simp at hb
 refine List.pairwise_append.2 ⟨List.pairwise_append.2 ⟨List.pairwise_singleton .., ?_, fun a ha b hb => ?_⟩, ?_, fun a ha b hb => ?_⟩
 ·
  refine List.pairwise_map.2 ?_
  have := dd_nd q.Show q.Show.length (Nat.le_refl _)
  refine List.Pairwise.imp_of_mem (fun {a b} ha hb hne e => ?_) this
  have e : colN a = colN b := e
  rw [qEI, qEI] at e
  exact hne (qaT (hm a ha) (hm b hb) (List.cons.inj (qLR e)).2)
 ·
  rw [List.mem_singleton.1 ha]
  obtain ⟨c, _, rfl⟩ := List.mem_map.1 hb
  exact fun e => qQK c e.symm
 ·
  unfold kidsL; split
  · exact List.pairwise_singleton ..
  exact List.Pairwise.nil
 rw [hk b hb]
 rcases List.mem_append.1 ha with ha | ha
 · rw [List.mem_singleton.1 ha]; exact qRK
 obtain ⟨c, _, rfl⟩ := List.mem_map.1 ha
 exact qFI c
theorem qSM {q : Query} {r : Row} {n : Int} (hc : In64 q.Show) : Fn1 (implPs q r n) ∧ foldP (implPs q r n) = foldP (q.Show.map (colP r) ++ [idP r] ++ kidsL q n) := by
 have hk : ∀ b ∈ kidsL q n, b = kidsP n := fun b hb => by
  unfold kidsL at hb
  split at hb
  · exact List.mem_singleton.1 hb
  simp at hb
 have hdm : ∀ x, x ∈ dd q.Show q.Show.length ↔ x ∈ q.Show := fun x => by rw [qeT q.Show x _ (Nat.le_refl _), List.take_length]
 have f1 : Fn1 (implPs q r n) := qNZ (r := r) (n := n) (q := q) hc fun x hx => by
  unfold implPs at hx
  simp only [List.mem_append, List.mem_map, List.mem_singleton] at hx
  rcases hx with (rfl | ⟨c, h1, rfl⟩) | h
  · exact .inr (.inl rfl)
  · exact .inl ⟨c, (hdm c).1 h1, rfl⟩
  exact .inr (.inr (hk _ h))
 have f2 : Fn1 (q.Show.map (colP r) ++ [idP r] ++ kidsL q n) := qNZ (r := r) (n := n) (q := q) hc fun x hx => by
  simp only [List.mem_append, List.mem_map, List.mem_singleton] at hx
  rcases hx with (⟨c, h1, rfl⟩ | rfl) | h
  · exact .inl ⟨c, h1, rfl⟩
  · exact .inr (.inl rfl)
  exact .inr (.inr (hk _ h))
 refine ⟨f1, qOU f1 f2 fun x => ?_⟩
 unfold implPs
 simp only [List.mem_append, List.mem_map, List.mem_singleton]
 constructor
 ·
  rintro ((h | ⟨c, h1, h2⟩) | h)
  · exact .inl (.inr h)
  · exact .inl (.inl ⟨c, (hdm c).1 h1, h2⟩)
  exact .inr h
 rintro ((⟨c, h1, h2⟩ | h) | h)
 · exact .inl (.inr ⟨c, (hdm c).2 h1, h2⟩)
 · exact .inl (.inl h)
 exact .inr h
theorem qTM (q : Query) (r : Row) (hr : Row_b r) (hc : In64 q.Show) (hl : q.Show.length ≤ 2097152) (K : List ByteArray → List Int → Option Json) : qhC.l0 q r K (((lenI q.Show) - 0).toNat + 1) [ByteArray.mk #[105, 100]] [r.Id] 0 = K (([idP r] ++ (dd q.Show q.Show.length).map (colP r)).map (·.1)) (([idP r] ++ (dd q.Show q.Show.length).map (colP r)).map (·.2)) := by
 have h := qLN q r hr hc hl K (((lenI q.Show) - 0).toNat + 1) 0 (by omega) (by rw [qH]; omega)
 rw [dd, List.map_nil, List.append_nil] at h
 exact h
theorem qUM (q : Query) (r : Row) (n : Int) (hc : In64 q.Show) (hl : q.Show.length ≤ 2097152) : ((qAD.f ((implPs q r n).map (·.1)) ((implPs q r n).map (·.2))).bind fun r49 => (qhE.f r49).bind fun r50 => some r50) = some (orJ (rowObj q r n)) := by
 have hdl := qdT q.Show q.Show.length
 have hkl : (kidsL q n).length ≤ 1 := by unfold kidsL; split <;> simp
 have hobj : qAD.f ((implPs q r n).map (·.1)) ((implPs q r n).map (·.2)) = some (rowObj q r n) := by
  rw [qYP _ (qbW hc) (qSM hc).1 (by unfold implPs; simp only [List.length_append, List.length_map, List.length_singleton]; omega), (qSM hc).2]; rfl
 rw [hobj, Option.bind_some, qkI _ (qWP hc hl).1]; rfl
theorem qMN (q : Query) (r : Row) (n : Int) (hr : Row_b r) (hc : In64 q.Show) (hl : q.Show.length ≤ 2097152) : qhC.f q r n = some (orJ (rowObj q r n)) := by
 have hdl := qdT q.Show q.Show.length
 have fin := qUM q r n hc hl
 unfold qhC.f
 rw [Option.bind_some, Option.bind_some, qiB, qTM q r hr hc hl]
 generalize hN : ([idP r] ++ (dd q.Show q.Show.length).map (colP r)) = N at *
 have hNl : N.length ≤ 2097153 := by rw [← hN]; simp only [List.length_append, List.length_map, List.length_singleton]; omega
 have e : implPs q r n = N ++ kidsL q n := by unfold implPs; rw [hN]
 rw [e] at fin
 clear hN e
 rw [← fin, qiB]
 unfold kidsL
 cases hk : q.Kids with
 | false =>
  rw [cond_false, if_neg (by simp), List.append_nil]
 | true =>
  rw [cond_true, Option.bind_some, qtB (by simp only [List.length_map, List.length_cons, List.length_nil]; omega), Option.bind_some, Option.bind_some, qtB (by simp only [List.length_map, List.length_cons, List.length_nil]; omega), Option.bind_some, if_pos rfl, List.map_append, List.map_append]
  rfl
theorem qPZ (kids : List Int) (i : Nat) (hk : (kids.length : Int) ≤ 9223372036854775807) {R : Type} (K : Int → Option R) : (bif (decide ((i : Int) < (lenI kids))) then ((getO kids (i : Int)).bind fun x => K x) else K 0) = K (kids.getD i 0) := by
 rw [qH]
 by_cases c : i < kids.length
 · rw [decide_eq_true (by omega), cond_true, qv, List.getElem?_eq_getElem c, Option.bind_some, List.getD_eq_getElem?_getD, List.getElem?_eq_getElem c]; rfl
 rw [decide_eq_false (by omega), cond_false, List.getD_eq_getElem?_getD, List.getElem?_eq_none (by omega)]; rfl
theorem qVM (q : Query) (kids : List Int) (l : List Row) (hc : In64 q.Show) (hl : q.Show.length ≤ 2097152) (hr : ∀ r ∈ l, Row_b r) (hn : l.length ≤ 2097152) (hk : (kids.length : Int) ≤ 9223372036854775807) : ∀ (k i : Nat), i ≤ l.length → l.length < i + k →
  qpC.l0 q kids l k ((docsF q kids (l.take i) 0).map orJ) i = some ((docsF q kids l 0).map orJ) := by
 intro k
 induction k with
 | zero => intro i h h'; omega
 | succ k ih =>
  intro i h h'
  rw [qpC.l0, qH]
  by_cases hi : i < l.length
  ·
   have hx : l[i]? = some l[i] := List.getElem?_eq_getElem hi
   have ht : (l.take i).length = i := by rw [List.length_take]; omega
   rw [decide_eq_true (by omega), cond_true, qv, hx, Option.bind_some, qiB, qPZ kids i hk, qMN q _ _ (hr _ (List.getElem_mem hi)) hc hl, Option.bind_some, Option.bind_some, qtB (by simp only [List.length_map, qRG, ht, List.length_cons, List.length_nil]; omega), Option.bind_some, qAB (by omega), ← ih (i + 1) (by omega) (by omega), qED hx, qSK, ht, List.map_append, Nat.zero_add]
   rfl
  have : i = l.length := by omega
  subst this
  rw [decide_eq_false (by omega), cond_false, List.take_length]
theorem qWM (q : Query) (rows : List Row) (kids : List Int) (hc : In64 q.Show) (hl : q.Show.length ≤ 2097152) (hr : ∀ r ∈ rows, Row_b r) (hn : rows.length ≤ 2097152) (hk : (kids.length : Int) ≤ 9223372036854775807) : qpC.f q rows kids = some ((docsF q kids (rows.take (firstF q rows.length)) 0).map orJ) := by
 unfold qpC.f
 have hf := qJH q rows.length
 rw [qH, qQM, Option.bind_some, qDM (by omega), Option.bind_some, Int.toNat_natCast]
 have e : (rows.take (firstF q rows.length)).drop (0 : Int).toNat = rows.take (firstF q rows.length) := by simp
 rw [e]
 exact qVM q kids _ hc hl (fun r h => hr r (List.mem_of_mem_take h)) (by rw [List.length_take]; omega) hk (((lenI (rows.take (firstF q rows.length))) - 0).toNat + 1) 0 (by omega) (by rw [qH]; omega)
theorem qNR (l : List Json) (hn : l.length ≤ 9223372036854775806) : ∀ (k i : Nat), i ≤ l.length → l.length < i + k → ∃ r : Int, qX.l0 l k i = some r ∧ (0 ≤ r ↔ ∃ x ∈ l.drop i, x.Kind = 0) := by
 intro k
 induction k with
 | zero => intro i h h'; omega
 | succ k ih =>
  intro i h h'
  rw [qX.l0, qH]
  by_cases hi : i < l.length
  ·
   rw [decide_eq_true (by omega), cond_true, qv, List.getElem?_eq_getElem hi, Option.bind_some, qiG.f, Option.bind_some, List.drop_eq_getElem_cons hi, qAB (by omega)]
   by_cases c : l[i].Kind = 0
   ·
    rw [decide_eq_true c, cond_true]
    exact ⟨i, rfl, ⟨fun _ => ⟨l[i], List.mem_cons_self .., c⟩, fun _ => by omega⟩⟩
   rw [decide_eq_false c, cond_false]
   obtain ⟨r, h1, h2⟩ := ih (i + 1) (by omega) (by omega)
   refine ⟨r, h1, h2.trans ⟨fun ⟨x, hx, e⟩ => ⟨x, List.mem_cons_of_mem _ hx, e⟩, fun ⟨x, hx, e⟩ => ?_⟩⟩
   rcases List.mem_cons.1 hx with rfl | hx
   · exact absurd e c
   exact ⟨x, hx, e⟩
  rw [decide_eq_false (by omega), cond_false, List.drop_eq_nil_of_le (by omega)]
  exact ⟨-1, rfl, by simp⟩
theorem qXM (l : List Json) (hn : l.length ≤ 9223372036854775806) : ∃ b, qPB.f l = some b ∧ (b = true ↔ ∃ x ∈ l, x.Kind = 0) := by
 unfold qPB.f qX.f
 obtain ⟨r, h1, h2⟩ := qNR l hn (((lenI l) - 0).toNat + 1) 0 (by omega) (by rw [qH]; omega)
 refine ⟨decide (0 ≤ r), ?_, by rw [decide_eq_true_eq, h2, List.drop_zero]⟩
 refine (congrArg (fun o => Option.bind o _) h1).trans ?_
 rfl
theorem qZP (q : Query) (rows : List Row) (kids : List Int) (hc : In64 q.Show) (hl : q.Show.length ≤ 2097152) (hr : ∀ r ∈ rows, Row_b r) (hn : rows.length ≤ 2097152) (hk : (kids.length : Int) ≤ 9223372036854775807) : qMF.f q rows kids = some (docOfF q rows kids) := by
 unfold qMF.f docOfF
 have hf := qJH q rows.length
 rw [qWM q rows kids hc hl hr hn hk, Option.bind_some]
 generalize hD : docsF q kids (rows.take (firstF q rows.length)) 0 = D
 have hDl : D.length ≤ 2097152 := by rw [← hD, qRG, List.length_take]; omega
 obtain ⟨b, h1, h2⟩ := qXM (D.map orJ) (by rw [List.length_map]; omega)
 rw [h1, Option.bind_some]
 by_cases hb : ∀ x ∈ D, jsonB x = true
 ·
  have e : D.map orJ = D := (List.map_congr_left (g := id) fun x hx => by unfold orJ; rw [if_pos (hb x hx)]; rfl).trans (List.map_id D)
  have hbf : b = false := by
   rw [← Bool.not_eq_true, h2]
   rintro ⟨x, hx, k0⟩
   rw [e, ← hD] at hx
   obtain ⟨r, n, rfl⟩ := qdJ hx
   simp [rowObj, objJ] at k0
  rw [hbf, cond_false, Option.bind_some, Option.bind_some, qH, e]
  have := qkI (docObj q rows kids) (qXP hc hl hn)
  unfold docObj at this ⊢
  rw [hD] at this ⊢
  refine (congrArg (fun o => Option.bind o _) this).trans ?_
  rfl
 have : ∃ x ∈ D, jsonB x = false := by
  apply Classical.byContradiction
  intro h
  exact hb fun x hx => by
   cases c : jsonB x with
   | true => rfl
   | false => exact absurd ⟨x, hx, c⟩ h
 obtain ⟨x, hx, hxb⟩ := this
 have hbt : b = true := h2.2 ⟨orJ x, List.mem_map.2 ⟨x, hx, rfl⟩, by unfold orJ; rw [hxb, if_neg (by simp)]; rfl⟩
 rw [hbt, cond_true]
 rw [← hD] at hx
 have := qQU hc hl (rows := rows) hx hxb
 unfold orJ
 rw [this, if_neg (by simp)]
 rfl
def evalF (s : Store) (q : Query) : Json := if storeB s && queryB s.Schema q then docOfF q (rowsForF s q) ((rowsForF s q).map fun r => kidsOfF s q r.Id) else nullJ
theorem qaP {R α : Type} {f : Nat → List Int → Int → Option R} {l : List α} (g : α → Int) (K : List Int → Option R) (h0 : ∀ k (i : Nat) acc x, l[i]? = some x → acc.length ≤ i → f (k + 1) acc i = f k (acc ++ [g x]) ((i + 1 : Nat) : Int)) (h1 : ∀ k (i : Nat) acc, i = l.length → f (k + 1) acc i = K acc) :
  ∀ (k i : Nat) (acc : List Int), i ≤ l.length → l.length < i + k → acc.length ≤ i → f k acc i = K (acc ++ (l.drop i).map g)
 | 0, i, acc, h, h', _ => by omega
 | k + 1, i, acc, h, h', ha => by
  by_cases hi : i < l.length
  ·
   rw [List.drop_eq_getElem_cons hi, List.map_cons, h0 k i acc _ (List.getElem?_eq_getElem hi) ha, qaP g K h0 h1 k (i + 1) _ (by omega) (by omega) (by simp only [List.length_append, List.length_cons, List.length_nil]; omega), List.append_assoc]
   rfl
  rw [h1 k i acc (by omega), List.drop_eq_nil_of_le (by omega), List.map_nil, List.append_nil]
theorem qOR (s : Store) (q : Query) (hs : qmF s) (hq : qpG q) (hc : In64 q.Show) (hl : q.Show.length ≤ 2097152) : qpD.f s q = some (evalF s q) := by
 unfold qpD.f evalF
 rw [qNG _ hs, Option.bind_some, qOG _ _ hs.1 hq]
 cases h1 : storeB s with
 | false => rfl
 | true =>
  cases h2 : queryB s.Schema q with
  | false => rfl
  | true =>
   simp only [qTC, Bool.not_true, Bool.not_false, bo3_F, bo3_T, qOC, Option.bind_some, cond_false, Bool.true_and, if_true]
   obtain ⟨g1, _, g3⟩ := qtF s q
   rw [qCI s q hs hq, Option.bind_some, qiB]
   generalize rowsForF s q = R at *
   have hD := qZP q R (R.map fun r => kidsOfF s q r.Id) hc hl g3 (by omega) (by rw [List.length_map]; omega)
   have e := qaP (f := qpD.l0 s q R (fun y => (qMF.f q R y).bind fun r => some r)) (l := R) (fun r => kidsOfF s q r.Id) (fun y => (qMF.f q R y).bind fun r => some r) (fun k i acc x hx ha => ?_) (fun k i acc hi => ?_) (((lenI R) - 0).toNat + 1) 0 [] (by omega) (by rw [qH]; omega) (by simp)
   ·
    rw [List.drop_zero, List.nil_append, hD] at e
    exact e
   ·
    have hi := at_lt hx
    rw [qpD.l0, qH, decide_eq_true (by omega), cond_true, qv, hx, Option.bind_some, qHN s q _ hs hq, Option.bind_some, Option.bind_some, qtB (by simp only [List.length_cons, List.length_nil]; omega), Option.bind_some, qAB (by omega)]
   rw [qpD.l0, qH, decide_eq_false (by omega), cond_false]
def CI (b : List Int) (i : Int) : Prop := 0 ≤ i ∧ i ≤ b.length ∧ (b.length : Int) ≤ 1048576
theorem qQZ (x : Int) (m : Nat) (hm : m < 9223372036854775808) : 0 ≤ Ls.ar .and .i64 x m ∧ Ls.ar .and .i64 x m ≤ m := by
 show 0 ≤ IntKind.i64.wrap _ ∧ IntKind.i64.wrap _ ≤ _
 have h : (BitVec.ofInt IntKind.i64.bits x &&& BitVec.ofInt IntKind.i64.bits m).toNat ≤ m := by
  rw [BitVec.toNat_and]
  refine Nat.le_trans Nat.and_le_right ?_
  rw [BitVec.toNat_ofInt]
  have : ((m : Int) % (2 ^ IntKind.i64.bits : Nat)).toNat = m := by
   rw [Int.emod_eq_of_lt (by omega) (by show (m : Int) < ((2 ^ 64 : Nat) : Int); omega)]
   omega
  omega
 rw [IntKind.wrap_i64]
 omega
theorem qeJ {b : List Int} {i : Int} (h : Int) (hc : CI b i) : ∃ i' h' x, qfD.f (l1Cur.mk b i h) = some (l1Cur.mk b i' h', x) ∧ CI b i' ∧ 0 ≤ x ∧ x ≤ 255 := by
 obtain ⟨h0, h1, h2⟩ := hc
 unfold qfD.f
 dsimp only
 by_cases hi : i < (b.length : Int)
 ·
  rw [qH, decide_eq_true hi, cond_true, qWJ h0, List.getElem?_eq_getElem (by omega), Option.bind_some]
  exact ⟨_, _, _, rfl, ⟨by rw [qNB (by omega)]; omega, by rw [qNB (by omega)]; omega, h2⟩, qQZ _ 255 (by omega)⟩
 rw [qH, decide_eq_false hi, cond_false]
 exact ⟨_, _, _, rfl, ⟨h0, h1, h2⟩, qQZ _ 255 (by omega)⟩
theorem qcW {x n : Int} (hx : 0 ≤ x) (hn : 0 < n) : 0 ≤ Int.tmod x n ∧ Int.tmod x n < n := ⟨Int.tmod_nonneg _ hx, Int.tmod_lt_of_pos _ hn⟩
theorem qlB {b : List Int} {i : Int} (h : Int) (n : Int) (hc : CI b i) : ∃ i' h' x, qk.f (l1Cur.mk b i h) n = some (l1Cur.mk b i' h', x) ∧ CI b i' ∧ 0 ≤ x ∧ (0 < n → x < n) ∧ (n ≤ 0 → x = 0) := by
 unfold qk.f
 by_cases h0 : n ≤ 0
 ·
  rw [decide_eq_true h0, cond_true]
  exact ⟨_, _, _, rfl, hc, by omega, fun _ => by omega, fun _ => rfl⟩
 have hz : nzO n = some () := by unfold nzO; rw [if_pos (by omega)]
 rw [decide_eq_false h0, cond_false]
 obtain ⟨i1, h1, x1, e1, k1, l1, u1⟩ := qeJ h hc
 by_cases hn : n ≤ 256
 ·
  rw [decide_eq_true hn, cond_true, e1, Option.bind_some, hz, Option.bind_some]
  have := qcW (n := n) l1 (by omega)
  exact ⟨_, _, _, rfl, k1, this.1, fun _ => this.2, fun _ => by omega⟩
 obtain ⟨i2, h2, x2, e2, k2, l2, u2⟩ := qeJ h1 k1
 obtain ⟨i3, h3, x3, e3, k3, l3, u3⟩ := qeJ h2 k2
 obtain ⟨i4, h4, x4, e4, k4, l4, u4⟩ := qeJ h3 k3
 rw [decide_eq_false hn, cond_false, e1, Option.bind_some]
 dsimp only
 rw [e2, Option.bind_some]
 dsimp only
 rw [e3, Option.bind_some]
 dsimp only
 rw [e4, Option.bind_some, hz, Option.bind_some]
 dsimp only
 rw [qNB (x := x1 * 16777216) (by omega), qNB (x := x2 * 65536) (by omega), qNB (x := x3 * 256) (by omega), qNB (x := x1 * 16777216 + x2 * 65536) (by omega), qNB (x := x1 * 16777216 + x2 * 65536 + x3 * 256) (by omega), qNB (by omega)]
 have := qcW (n := n) (show 0 ≤ x1 * 16777216 + x2 * 65536 + x3 * 256 + x4 by omega) (by omega)
 exact ⟨_, _, _, rfl, k4, this.1, fun _ => this.2, fun _ => by omega⟩
theorem qgY (l : List Int) (hl : (l.length : Int) ≤ 1048576) : ∃ h, qZD.f l = some (l1Cur.mk l 0 h) ∧ CI l 0 := by
 have key : ∀ (k i : Nat) (h : Int), i ≤ l.length → l.length < i + k → ∃ h', qZD.l0 l k h i = some (l1Cur.mk l 0 h') := by
  intro k
  induction k with
  | zero => intro i h h1 h2; omega
  | succ k ih =>
   intro i h h1 h2
   rw [qZD.l0]
   by_cases c : bo3 (decide ((i : Int) < lenI l)) (decide ((i : Int) < 4000)) false = true
   ·
    have hi : i < l.length := by
     rw [qAE, Bool.and_eq_true] at c
     have := of_decide_eq_true c.1
     rw [qH] at this
     omega
    rw [c, cond_true, qv, List.getElem?_eq_getElem hi, Option.bind_some, qAB (by omega)]
    exact ih (i + 1) _ (by omega) (by omega)
   rw [Bool.not_eq_true] at c
   rw [c, cond_false]
   exact ⟨_, rfl⟩
 unfold qZD.f
 obtain ⟨h, e⟩ := key (((lenI l) - 0).toNat + 1) 0 (w64 (17333 + lenI l)) (by omega) (by rw [qH]; omega)
 exact ⟨h, e, by omega, by omega, hl⟩
def SB (s : Schema) : Prop := s.Cols.length ≤ 6 ∧ ∀ x ∈ s.Cols, -1 ≤ x ∧ x ≤ 5
theorem SB.b {s : Schema} (h : SB s) : qXD s := by unfold qXD IntS_b; have := h.1; omega
theorem qfJ {α : Type} {p : α → Prop} {l : List α} {x : α} (h : ∀ y ∈ l, p y) (hx : p x) : ∀ y ∈ l ++ [x], p y := fun y hy => by
 rcases List.mem_append.1 hy with hy | hy
 · exact h y hy
 rw [List.mem_singleton.1 hy]; exact hx
theorem qYM (a : l1Cur) : ∀ (k i : Nat) (ci h : Int) (l : List Int), CI a.b ci → l.length = i → i ≤ 3 → 4 ≤ i + k → (∀ x ∈ l, 1 ≤ x ∧ x ≤ 4) →
  ∃ ci' h' l', qkB.l0 a k ci h l i = some (l1Cur.mk a.b ci' h', Schema.mk l') ∧ CI a.b ci' ∧ (i < 1 ∨ 1 ≤ i) ∧ l'.length ≤ 3 ∧ i ≤ l'.length ∧ 1 ≤ l'.length ∧ ∀ x ∈ l', 1 ≤ x ∧ x ≤ 4 := by
 intro k
 induction k with
 | zero => intro i ci h l hc hl h1 h2; omega
 | succ k ih =>
  intro i ci h l hc hl h1 h2 hx
  obtain ⟨c1, h1', x1, e1, k1, l1, u1, _⟩ := qlB h 3 hc
  have hx3 := u1 (by omega)
  rw [qkB.l0, e1, Option.bind_some]
  dsimp only
  rw [qNB (by omega)]
  by_cases c : (i : Int) < 1 + x1
  ·
   obtain ⟨c2, h2', x2, e2, k2, l2, u2, _⟩ := qlB h1' 4 k1
   have hx4 := u2 (by omega)
   rw [decide_eq_true c, cond_true, e2, Option.bind_some]
   dsimp only
   rw [qNB (by omega), Option.bind_some, qtB (by simp only [List.length_cons, List.length_nil]; omega), Option.bind_some, qAB (by omega)]
   obtain ⟨ci', h', l', q1, q2, q3, q4, q5, q6, q7⟩ := ih (i + 1) c2 h2' (l ++ [1 + x2]) k2 (by simp [hl]) (by omega) (by omega) (qfJ hx (by omega))
   exact ⟨ci', h', l', q1, q2, by omega, q4, by omega, q6, q7⟩
  rw [decide_eq_false c, cond_false]
  exact ⟨_, _, _, rfl, k1, by omega, by omega, by omega, by omega, hx⟩
theorem qGI {b : List Int} {i : Int} (h : Int) (hc : CI b i) : ∃ i' h' s, qkB.f (l1Cur.mk b i h) = some (l1Cur.mk b i' h', s) ∧ CI b i' ∧ s.Cols.length ≤ 3 ∧ 1 ≤ s.Cols.length ∧ ∀ x ∈ s.Cols, 1 ≤ x ∧ x ≤ 4 := by
 unfold qkB.f
 obtain ⟨ci', h', l', q1, q2, q3, q4, q5, q6, q7⟩ := qYM (l1Cur.mk b i h) 1000 0 i h [] hc rfl (by omega) (by omega) (by simp)
 exact ⟨_, _, _, q1, q2, q4, q6, q7⟩
theorem qjF {b : List Int} {i : Int} (h : Int) {l : List Int} (hl : l ≠ []) (hc : CI b i) : ∃ i' h' x, qUC.f (l1Cur.mk b i h) l = some (l1Cur.mk b i' h', x) ∧ CI b i' ∧ x ∈ l := by
 unfold qUC.f
 obtain ⟨i1, h1, x1, e1, k1, l1, u1, _⟩ := qlB h (lenI l) hc
 have hp : 0 < l.length := by cases l with | nil => exact absurd rfl hl | cons x l => simp
 rw [qH] at u1
 have hx := u1 (by omega)
 have hlt : x1.toNat < l.length := by omega
 rw [e1, Option.bind_some, qWJ l1, List.getElem?_eq_getElem hlt, Option.bind_some]
 exact ⟨_, _, _, rfl, k1, List.getElem_mem hlt⟩
theorem qPR {b : List Int} {i : Int} (h : Int) (hc : CI b i) : ∃ i' h' s, qXE.f (l1Cur.mk b i h) = some (l1Cur.mk b i' h', s) ∧ CI b i' ∧ SB s := by
 unfold qXE.f
 obtain ⟨i1, h1, s, e1, k1, s1, s2, s3⟩ := qGI h hc
 obtain ⟨i2, h2, x2, e2, k2, _⟩ := qlB h1 12 k1
 rw [e1, Option.bind_some]
 dsimp only
 rw [e2, Option.bind_some]
 dsimp only
 by_cases c0 : x2 = 0
 ·
  rw [decide_eq_true c0, cond_true, Option.bind_some, qtB (by simp only [List.length_cons, List.length_nil]; omega), Option.bind_some]
  refine ⟨_, _, _, rfl, k2, by simp; omega, fun x hx => ?_⟩
  rcases List.mem_append.1 hx with hx | hx
  · have := s3 x hx; omega
  simp at hx; omega
 rw [decide_eq_false c0, cond_false]
 by_cases c1 : x2 = 1
 ·
  obtain ⟨i3, h3, x3, e3, k3, m3⟩ := qjF (l := [0, 5, -1]) h2 (by simp) k2
  rw [decide_eq_true c1, cond_true, Option.bind_some, e3, Option.bind_some]
  have hg : getO s.Cols 0 = some s.Cols[0] := by rw [qJW, List.getElem?_eq_getElem (by omega)]
  rw [hg, Option.bind_some, Option.bind_some]
  refine ⟨_, _, _, rfl, k3, by unfold setI; rw [List.length_set]; omega, fun x hx => ?_⟩
  rcases List.mem_or_eq_of_mem_set hx with hx | rfl
  · have := s3 x hx; omega
  simp at m3; omega
 rw [decide_eq_false c1, cond_false]
 by_cases c2 : x2 = 2
 ·
  rw [decide_eq_true c2, cond_true]
  exact ⟨_, _, _, rfl, k2, by simp, by simp⟩
 rw [decide_eq_false c2, cond_false]
 exact ⟨_, _, _, rfl, k2, by omega, fun x hx => by have := s3 x hx; omega⟩
theorem qBL (s : Schema) (h : qHE s ≤ 1099511627776) : qvE.f s = some s := by
 have : (s.Cols.length : Int) ≤ 1099511627776 := by unfold qHE qhD at h; exact h
 unfold qvE.f
 rw [qtB (by simp only [List.length_nil]; omega), Option.bind_some, List.nil_append]
theorem qcB (x y z : Int) : qxB.f x y z = some (decide (y ≤ x ∧ x ≤ z)) := by
 unfold qxB.f
 rw [qAE, Bool.decide_and]
theorem quD (s : Schema) (h : qXD s) : qrB.f s = some (schemaB s) := by
 have hl : s.Cols.length ≤ 9223372036854775807 := h
 unfold qrB.f joinK
 refine (quC (f := qrB.l0 s _) (l := s.Cols) (fun _ n => decide (1 ≤ n ∧ n ≤ 4)) (some false) (some (decide (1 ≤ (s.Cols.length : Int) ∧ (s.Cols.length : Int) ≤ 3))) (fun k i x hx => ?_) (fun k i hi => ?_) _ 0 (by omega) (by (try simp only [qH]); omega)).trans ?_
 ·
  have hi := at_lt hx
  rw [qrB.l0, qH, decide_eq_true (by omega), cond_true, qv, hx, Option.bind_some, qcB, Option.bind_some, qTC, qAB (by omega)]
  cases decide (1 ≤ x ∧ x ≤ 4) <;> rfl
 · rw [qrB.l0, qH, decide_eq_false (by omega), cond_false, qcB, Option.bind_some]
 rw [qND, schemaB]
 cases s.Cols.all fun n => decide (1 ≤ n ∧ n ≤ 4) <;> rfl
theorem qCL (s : Schema) (hb : qXD s) (hz : qHE s ≤ 1099511627776) : qwE.f s = some (if schemaB s = true then (⟨s, 0, List.replicate s.Cols.length []⟩, true) else (noStore, false)) := by
 unfold qwE.f
 rw [quD _ hb, Option.bind_some]
 cases hs : schemaB s with
 | false => rfl
 | true =>
  have := qLK hs
  rw [show bo3 true false true = false from rfl, cond_false, if_pos rfl, qBL _ hz, Option.bind_some, qH, qIb (by omega), Option.bind_some, Int.toNat_natCast]
theorem qUF (r : Row) (h : qyC r ≤ 1099511627776) : qUD.f r = some r := by
 have := qMW h
 unfold qUD.f
 rw [qtB (by simp only [List.length_nil]; omega), Option.bind_some, List.nil_append]
theorem qgJ (l : List Row) (id : Int) (h : l.length ≤ 9223372036854775807) : qBD.f l id = some (rowAtF l id 0) := by
 have key : ∀ (k i : Nat), i ≤ l.length → l.length < i + k → qBD.l0 l id k i = some (rowAtF (l.drop i) id i) := by
  intro k
  induction k with
  | zero => intro i h h'; omega
  | succ k ih =>
   intro i h h'
   by_cases hi : i < l.length
   ·
    have hx : l[i]? = some l[i] := List.getElem?_eq_getElem hi
    rw [qBD.l0, qH, decide_eq_true (by omega), cond_true, qv, hx, Option.bind_some, List.drop_eq_getElem_cons hi, rowAtF, qAB (by omega)]
    by_cases e : (l[i]).Id = id
    · rw [decide_eq_true e, cond_true, if_pos e]
    rw [decide_eq_false e, cond_false, if_neg e]
    exact ih (i + 1) (by omega) (by omega)
   rw [qBD.l0, qH, decide_eq_false (by omega), cond_false, List.drop_eq_nil_of_le (by omega), rowAtF]
 have := key (((lenI l) - 0).toNat + 1) 0 (by omega) (by simp only [qH]; omega)
 rw [List.drop_zero] at this
 exact this
theorem qZM (l : List Row) (id : Int) (h : qPC l ≤ 1099511627776) : qYC.f l id = some (rowDropF l id) := by
 unfold qPC at h
 have p := qnE qjG l
 unfold qYC.f
 rw [qgJ _ _ (by omega), Option.bind_some, qQW]
 generalize hd : l.findIdx (isId id) = d
 have key : ∀ (k i : Nat), i ≤ l.length → l.length < i + k → qYC.l0 l (idxI (isId id) l) k ((l.take i).eraseIdx d) i = some (rowDropF l id) := by
  intro k
  induction k with
  | zero => intro i h h'; omega
  | succ k ih =>
   intro i h0 h'
   by_cases hi : i < l.length
   ·
    have hx : l[i]? = some l[i] := List.getElem?_eq_getElem hi
    have hm := qJK qjG (List.mem_of_getElem? hx)
    have ht : (l.take i).length = i := by rw [List.length_take]; omega
    rw [qYC.l0, qH, decide_eq_true (by omega), cond_true]
    have hs := ih (i + 1) (by omega) (by omega)
    rw [qED hx] at hs
    by_cases e : d = i
    ·
     have ei : idxI (isId id) l = (i : Int) := by rw [qQT (by omega), hd, e]
     rw [ei] at hs ⊢
     rw [decide_eq_false (by omega), cond_false, qAB (by omega)]
     rw [e] at hs ⊢
     rw [List.eraseIdx_of_length_le (by omega)]
     rw [List.eraseIdx_append_of_length_le (by omega), ht] at hs
     simpa using hs
    have ei : ¬ (i : Int) = idxI (isId id) l := by
     unfold idxI; split <;> omega
    rw [decide_eq_true ei, cond_true, qv, hx, Option.bind_some, qUF _ (by omega), Option.bind_some, Option.bind_some, qtB (by
     have : ((l.take i).eraseIdx d).length ≤ i := by rw [List.length_eraseIdx]; split <;> omega
     simp only [List.length_cons, List.length_nil]; omega), Option.bind_some, qAB (by omega)]
    by_cases e2 : d < i
    ·
     rw [List.eraseIdx_append_of_lt_length (by omega)] at hs
     exact hs
    rw [List.eraseIdx_of_length_le (by simp; omega)] at hs
    rw [List.eraseIdx_of_length_le (by omega)]
    exact hs
   rw [qYC.l0, qH, decide_eq_false (by omega), cond_false, List.take_of_length_le (by omega), ← hd]
   rfl
 have := key (((lenI l) - 0).toNat + 1) 0 (by omega) (by simp only [qH]; omega)
 rw [List.take_zero, List.eraseIdx_nil] at this
 exact this
theorem qNN (r : Row) (l : List Row) (K : Int → Option (List Row)) (hl : l.length < 9223372036854775807) : ∀ (k i : Nat) (at_ : Int), i ≤ l.length → i < k → qiC.l0 r l K k at_ ((i : Int) - 1) = K (if (l.take i).findIdx (isGt r.Id) < i then ((l.take i).findIdx (isGt r.Id) : Int) else at_) := by
 intro k
 induction k with
 | zero => intro i at_ h h'; omega
 | succ k ih =>
  intro i at_ h h'
  cases i with
  | zero => rw [qiC.l0, decide_eq_false (by omega), cond_false, if_neg (by omega)]
  | succ i =>
   have hx : l[i]? = some l[i] := List.getElem?_eq_getElem (by omega)
   have e1 : ((i + 1 : Nat) : Int) - 1 = (i : Int) := by omega
   rw [qiC.l0, e1, decide_eq_true (by omega), cond_true, qv, hx, Option.bind_some, qNB (by omega), ih i _ (by omega) (by omega), ih i _ (by omega) (by omega), qIR _ _ hx]
   by_cases c : (l.take i).findIdx (isGt r.Id) < i
   ·
    simp only [if_pos c]
    rw [if_pos (by omega)]
    cases decide (r.Id < l[i].Id) <;> rfl
   simp only [if_neg c]
   rw [isGt]
   cases hc : decide (r.Id < l[i].Id)
   · simp
   simp
theorem qON (l : List Row) (r : Row) (h : qPC l ≤ 1099511627776) (hr : qyC r ≤ 1099511627776) : qiC.f l r = some (rowPutF l r) := by
 have hz := qKU l r.Id
 have hdl := qIM l r.Id
 have h' := h
 unfold qPC at h'
 have p := qnE qjG l
 have cut : ∀ (y : Nat), y ≤ (rowDropF l r.Id).length → ((cutO (rowDropF l r.Id) 0 (y : Int)).bind fun l17 => (appO 32 [] l17).bind fun l18 => (qUD.f r).bind fun r19 => (some [r19]).bind fun l20 => (appO 32 l18 l20).bind fun l21 => (cutO (rowDropF l r.Id) (y : Int) (lenI (rowDropF l r.Id))).bind fun l22 => (appO 32 l21 l22).bind fun l23 => some l23) = some ((rowDropF l r.Id).take y ++ [r] ++ (rowDropF l r.Id).drop y) := by
  intro y hy
  rw [qDM ⟨by omega, by omega, by omega⟩, Option.bind_some, qtB (by simp; omega), Option.bind_some, qUF _ hr, Option.bind_some, Option.bind_some, qtB (by simp; omega), Option.bind_some, qH, qDM ⟨by omega, by omega, by omega⟩, Option.bind_some, qtB (by simp; omega), Option.bind_some]
  simp
 unfold qiC.f
 rw [qZM _ _ h, Option.bind_some]
 simp only [joinK]
 rw [qgJ _ _ (by omega), Option.bind_some, qQW]
 unfold rowPutF
 by_cases c : l.findIdx (isId r.Id) < l.length
 ·
  rw [if_pos c, qQT c, decide_eq_true (by omega), cond_true, Option.bind_some]
  rw [cut _ (by unfold rowDropF; rw [List.length_eraseIdx]; split <;> omega)]
  rw [List.set_eq_take_append_cons_drop, if_pos c]
  unfold rowDropF
  rw [List.eraseIdx_eq_take_drop_succ]
  have hl : (l.take (l.findIdx (isId r.Id))).length = l.findIdx (isId r.Id) := by rw [List.length_take]; omega
  rw [List.take_left' hl, List.drop_left' hl]
  simp
 have hd : rowDropF l r.Id = l := by unfold rowDropF; exact List.eraseIdx_of_length_le (by omega)
 rw [hd] at cut
 rw [if_neg c, qbY c, decide_eq_false (by omega), cond_false, hd, qH, qNB (by omega), qNN r l _ (by omega) _ _ _ (Nat.le_refl _) (by omega), List.take_length]
 have hle := List.findIdx_le_length (xs := l) (p := isGt r.Id)
 split
 ·
  rw [qH] at cut
  exact cut _ hle
 rename_i hn
 rw [qH] at cut
 have e : l.findIdx (isGt r.Id) = l.length := by omega
 rw [e]
 exact cut _ (Nat.le_refl _)
theorem qQR (a : l1Cur) (n : Int) (hn : n ≤ 5) (id : Int) : ∀ (k i : Nat) (ci h : Int) (l : List Int), CI a.b ci → l.length = i → (i : Int) ≤ n ∨ i = 0 → 0 < k → n < i + k → (∀ x ∈ l, 0 ≤ x ∧ x ≤ 5) →
  ∃ ci' h' l', qJC.l0 a n k ci h id l i = some (l1Cur.mk a.b ci' h', Row.mk id l') ∧ CI a.b ci' ∧ ((l'.length : Int) = n ∨ n < 0 ∧ l'.length = 0) ∧ ∀ x ∈ l', 0 ≤ x ∧ x ≤ 5 := by
 intro k
 induction k with
 | zero => intro i ci h l hc hl h0 h1 h2; omega
 | succ k ih =>
  intro i ci h l hc hl h0 h1 h2 hx
  rw [qJC.l0]
  by_cases c : (i : Int) < n
  ·
   obtain ⟨c2, h2', x2, e2, k2, l2, u2, _⟩ := qlB h 6 hc
   have hx4 := u2 (by omega)
   rw [decide_eq_true c, cond_true, e2, Option.bind_some]
   dsimp only
   rw [Option.bind_some, qtB (by simp only [List.length_cons, List.length_nil]; omega), Option.bind_some, qAB (by omega)]
   exact ih (i + 1) c2 h2' (l ++ [x2]) k2 (by simp [hl]) (by omega) (by omega) (by omega) (qfJ hx (by omega))
  rw [decide_eq_false c, cond_false]
  exact ⟨_, _, _, rfl, hc, by omega, hx⟩
theorem qzK {b : List Int} {i : Int} (h : Int) (n : Int) (hn : n ≤ 5) (hc : CI b i) : ∃ i' h' r, qJC.f (l1Cur.mk b i h) n = some (l1Cur.mk b i' h', r) ∧ CI b i' ∧ 1 ≤ r.Id ∧ r.Id ≤ 12 ∧ ((r.Cells.length : Int) = n ∨ n < 0 ∧ r.Cells.length = 0) ∧ ∀ x ∈ r.Cells, 0 ≤ x ∧ x ≤ 5 := by
 unfold qJC.f
 obtain ⟨i1, h1, x1, e1, k1, l1, u1, _⟩ := qlB h 12 hc
 have := u1 (by omega)
 rw [e1, Option.bind_some]
 dsimp only
 rw [qNB (by omega)]
 obtain ⟨ci', h', l', q1, q2, q3, q4⟩ := qQR (l1Cur.mk b i h) n hn (1 + x1) ((n - 0).toNat + 1) 0 i1 h1 [] k1 rfl (by omega) (by omega) (by omega) (by simp)
 exact ⟨_, _, _, q1, q2, by dsimp only; omega, by dsimp only; omega, q3, q4⟩
def UpR (l : List Row) : Prop := l.Pairwise fun a b => a.Id < b.Id
theorem qdW {l : List Row} : UpR l ↔ (l.map Row.Id).Pairwise (· < ·) := by
 unfold UpR; rw [List.pairwise_map]
theorem qKa {l : List Row} {i : Nat} {x : Row} (p : Row → Bool) (hx : l[i]? = some x) (h : p x = true) : l.findIdx p ≤ i := by
 rcases Nat.lt_or_ge i (l.findIdx p) with hlt | hge
 ·
  have := List.not_of_lt_findIdx hlt
  have e := (List.getElem?_eq_some_iff.1 hx).2
  rw [e, h] at this
  cases this
 exact hge
theorem qNb {l : List Row} (h : UpR l) (r : Row) : UpR (rowPutF l r) := by
 unfold rowPutF
 split
 ·
  rename_i hi
  rw [qdW, List.map_set]
  have e := qJR hi
  generalize l.findIdx (isId r.Id) = k at hi e
  have hl : k < (l.map Row.Id).length := by rw [List.length_map]; exact hi
  have e2 : (l.map Row.Id)[k] = r.Id := by rw [List.getElem_map]; exact e
  rw [← e2, List.set_getElem_self]
  exact qdW.1 h
 rename_i hi
 have hle := List.findIdx_le_length (xs := l) (p := isGt r.Id)
 have hne : ∀ x ∈ l, x.Id ≠ r.Id := fun x hx e => by
  obtain ⟨i, hi'⟩ := List.getElem?_of_mem hx
  have := qKa (isId r.Id) hi' (by unfold isId; exact decide_eq_true e)
  have := at_lt hi'
  omega
 have h1 : ∀ x ∈ l.take (l.findIdx (isGt r.Id)), x.Id < r.Id := fun x hx => by
  obtain ⟨i, hi'⟩ := List.getElem?_of_mem hx
  rw [List.getElem?_take] at hi'
  split at hi'
  ·
   rename_i hlt
   have := List.not_of_lt_findIdx hlt
   rw [(List.getElem?_eq_some_iff.1 hi').2] at this
   have := of_decide_eq_false this
   have := hne x (List.mem_of_getElem? hi')
   omega
  cases hi'
 have h2 : ∀ x ∈ l.drop (l.findIdx (isGt r.Id)), r.Id < x.Id := fun x hx => by
  obtain ⟨i, hi'⟩ := List.getElem?_of_mem hx
  rw [List.getElem?_drop] at hi'
  have hlt := at_lt hi'
  have hk : l.findIdx (isGt r.Id) < l.length := by omega
  have hg : r.Id < (l[l.findIdx (isGt r.Id)]).Id := of_decide_eq_true (List.findIdx_getElem (w := hk))
  rcases Nat.eq_zero_or_pos i with rfl | hp
  ·
   have e := (List.getElem?_eq_some_iff.1 hi').2
   rw [← e]; simpa using hg
  have := List.pairwise_iff_getElem.1 h (l.findIdx (isGt r.Id)) (l.findIdx (isGt r.Id) + i) hk hlt (by omega)
  rw [(List.getElem?_eq_some_iff.1 hi').2] at this
  omega
 unfold UpR at *
 rw [List.append_assoc, List.pairwise_append, List.pairwise_append]
 refine ⟨h.sublist (List.take_sublist _ _), ⟨List.pairwise_singleton _ _, h.sublist (List.drop_sublist _ _), fun a ha b hb => ?_⟩, fun a ha b hb => ?_⟩
 · rw [List.mem_singleton.1 ha]; exact h2 b hb
 rcases List.mem_append.1 hb with hb | hb
 · rw [List.mem_singleton.1 hb]; exact h1 a ha
 have := h1 a ha; have := h2 b hb; omega
def DRw (n : Int) (r : Row) : Prop := 1 ≤ r.Id ∧ r.Id ≤ 12 ∧ (r.Cells.length : Int) = n ∧ ∀ x ∈ r.Cells, 0 ≤ x ∧ x ≤ 5
def DRs (n : Int) (l : List Row) : Prop := UpR l ∧ ∀ r ∈ l, DRw n r
theorem DRs.put {n : Int} {l : List Row} (h : DRs n l) {r : Row} (hr : DRw n r) : DRs n (rowPutF l r) := ⟨qNb h.1 r, fun x hx => by
 rcases qMU hx with rfl | hx
 · exact hr
 exact h.2 x hx⟩
theorem DRs.sz {n : Int} {l : List Row} (hn : n ≤ 5) (h : DRs n l) {k : Nat} (hk : l.length ≤ k) : qPC l ≤ k * 6 := by
 have := qKR (s := qyC) (B := 5) (l := l) fun x hx => by
  have := (h.2 x hx).2.2.1
  unfold qyC qhD; omega
 unfold qPC; omega
theorem DRw.sz {n : Int} {r : Row} (hn : n ≤ 5) (h : DRw n r) : qyC r ≤ 5 := by
 have := h.2.2.1
 unfold qyC qhD; omega
theorem qbP (a : l1Cur) (n : Int) (hn : 0 ≤ n ∧ n ≤ 5) : ∀ (k i : Nat) (ci h : Int) (l : List Row), CI a.b ci → l.length ≤ i → i ≤ 8 → 9 ≤ i + k → DRs n l →
  ∃ ci' h' l', qEC.l0 a n k ci h l i = some (l1Cur.mk a.b ci' h', l') ∧ CI a.b ci' ∧ l'.length ≤ 8 ∧ DRs n l' := by
 intro k
 induction k with
 | zero => intro i ci h l hc hl h1 h2; omega
 | succ k ih =>
  intro i ci h l hc hl h1 h2 hd
  obtain ⟨c1, h1', x1, e1, k1, l1, u1, _⟩ := qlB h 9 hc
  have hx3 := u1 (by omega)
  rw [qEC.l0, e1, Option.bind_some]
  dsimp only
  by_cases c : (i : Int) < x1
  ·
   obtain ⟨c2, h2', r, e2, k2, r1, r2, r3, r4⟩ := qzK h1' n hn.2 k1
   have hr : DRw n r := ⟨r1, r2, by omega, r4⟩
   have := hd.sz hn.2 (k := 8) (by omega)
   have := hr.sz hn.2
   rw [decide_eq_true c, cond_true, e2, Option.bind_some]
   dsimp only
   rw [qON _ _ (by omega) (by omega), Option.bind_some, qAB (by omega)]
   have := qLU l r
   exact ih (i + 1) c2 h2' _ k2 (by omega) (by omega) (by omega) (hd.put hr)
  rw [decide_eq_false c, cond_false]
  exact ⟨_, _, _, rfl, k1, by omega, hd⟩
theorem qcP {b : List Int} {i : Int} (h : Int) (n : Int) (hn : 0 ≤ n ∧ n ≤ 5) (hc : CI b i) : ∃ i' h' l, qEC.f (l1Cur.mk b i h) n = some (l1Cur.mk b i' h', l) ∧ CI b i' ∧ l.length ≤ 8 ∧ DRs n l := by
 unfold qEC.f
 exact qbP (l1Cur.mk b i h) n hn 1000 0 i h [] hc (by simp) (by omega) (by omega) ⟨List.Pairwise.nil, by simp⟩
theorem qhY {s : Schema} {t : Int} {l : List Row} (hs : schemaB s = true) (ht : 0 ≤ t ∧ t ≤ (s.Cols.length : Int) - 1) (hl : l.length ≤ 24) (hu : UpR l) (hr : ∀ r ∈ l, rowB s t r = true) : rowsB s t l = true := by
 unfold rowsB
 rw [hs, decide_eq_true ht, decide_eq_true hl]
 simp only [Bool.and_true]
 rw [qFE]
 intro i x hx
 rw [hr x (List.mem_of_getElem? hx), Bool.true_and, Bool.not_eq_true', ← Bool.not_eq_true]
 intro h
 simp only [Bool.and_eq_true, decide_eq_true_eq] at h
 obtain ⟨h0, h1⟩ := h
 have hlt := at_lt hx
 have := List.pairwise_iff_getElem.1 hu (i - 1) i (by omega) hlt (by omega)
 rw [(List.getElem?_eq_some_iff.1 hx).2] at this
 rw [List.getD_eq_getElem?_getD, List.getElem?_eq_getElem (by omega), Option.getD_some] at h1
 omega
theorem DRw.rowB {s : Schema} {t : Nat} {r : Row} (hs : schemaB s = true) (ht : t < s.Cols.length) (h : DRw (s.Cols.getD t 0) r) : rowB s t r = true := by
 unfold Go.Proofs.YtbhleignjmcdiaaGreatDoor.L.rowB
 rw [hs, decide_eq_true (by omega), decide_eq_true (by have := h.1; have := h.2.1; omega), decide_eq_true (by rw [Int.toNat_natCast]; exact h.2.2.1)]
 simp only [Bool.true_and]
 rw [List.all_eq_true]
 intro x hx
 exact decide_eq_true (by have := h.2.2.2 x hx; omega)
structure DSt (s : Store) : Prop where
 ok : storeB s = true
 v : 0 ≤ s.Version ∧ s.Version ≤ 4
 rows : ∀ t rows, s.Tables[t]? = some rows → rows.length ≤ 8 ∧ DRs (s.Schema.Cols.getD t 0) rows
theorem qeW {s : Schema} (h : schemaB s = true) : SB s := by
 unfold schemaB at h
 rw [Bool.and_eq_true, List.all_eq_true, decide_eq_true_eq] at h
 exact ⟨by omega, fun x hx => by have := of_decide_eq_true (h.1 x hx); omega⟩
theorem DSt.SB {s : Store} (h : DSt s) : SB s.Schema := qeW (qtD h.ok).2
theorem qPN (a : l1Cur) (s : Schema) (v : Int) (ts : List (List Row)) (ok : Bool) (hs : schemaB s = true) : ∀ (k i : Nat) (ci h : Int) (l : List (List Row)), CI a.b ci → l.length = s.Cols.length → i ≤ l.length → l.length < i + k → (∀ t rows, t < i → l[t]? = some rows → rows.length ≤ 8 ∧ DRs (s.Cols.getD t 0) rows) →
  ∃ ci' h' l', (∀ K, qsB.l0 a (⟨s, v, ts⟩, ok) K k ci h l i = K ci' h' l') ∧ CI a.b ci' ∧ l'.length = s.Cols.length ∧ ∀ t rows, l'[t]? = some rows → rows.length ≤ 8 ∧ DRs (s.Cols.getD t 0) rows := by
 intro k
 induction k with
 | zero => intro i ci h l hc hl h1 h2; omega
 | succ k ih =>
  intro i ci h l hc hl h1 h2 hd
  have h3 := qLK hs
  by_cases c : i < l.length
  ·
   have hi : i < s.Cols.length := by omega
   have hcol : 1 ≤ s.Cols[i] ∧ s.Cols[i] ≤ 4 := by
    unfold schemaB at hs
    rw [Bool.and_eq_true, List.all_eq_true] at hs
    exact of_decide_eq_true (hs.1 _ (List.getElem_mem hi))
   have hg : s.Cols.getD i 0 = s.Cols[i] := by rw [List.getD_eq_getElem?_getD, List.getElem?_eq_getElem hi]; rfl
   obtain ⟨c1, h1', rows, e1, k1, r1, r2⟩ := qcP h s.Cols[i] (by omega) hc
   obtain ⟨ci', h', l', q1, q2, q3, q4⟩ := ih (i + 1) c1 h1' (l.set i rows) k1 (by rw [List.length_set]; exact hl) (by rw [List.length_set]; omega) (by rw [List.length_set]; omega) (fun t q ht hq => by
    by_cases e : t = i
    ·
     subst e
     rw [List.getElem?_set_self (by omega)] at hq
     cases hq
     rw [hg]; exact ⟨r1, r2⟩
    rw [List.getElem?_set_ne (fun e' => e e'.symm)] at hq
    exact hd t q (by omega) hq)
   refine ⟨ci', h', l', fun K => ?_, q2, q3, q4⟩
   rw [qsB.l0, qH, decide_eq_true (by omega), cond_true]
   dsimp only
   rw [qv, List.getElem?_eq_getElem hi, Option.bind_some, e1, Option.bind_some, qv, List.getElem?_eq_getElem c, Option.bind_some, Option.bind_some, qMP, qAB (by omega)]
   exact q1 K
  refine ⟨ci, h, l, fun K => ?_, hc, hl, fun t rows hq => hd t rows (by have := at_lt hq; omega) hq⟩
  rw [qsB.l0, qH, decide_eq_false (by omega), cond_false]
theorem qQN {b : List Int} {i : Int} (h : Int) (hc : CI b i) : ∃ i' h' s, qsB.f (l1Cur.mk b i h) = some (l1Cur.mk b i' h', s) ∧ CI b i' ∧ DSt s := by
 unfold qsB.f
 obtain ⟨c1, h1, s, e1, k1, l1, l2, l3⟩ := qGI h hc
 have hs : schemaB s = true := by
  unfold schemaB
  rw [decide_eq_true (by omega), Bool.and_true, List.all_eq_true]
  exact fun x hx => decide_eq_true (l3 x hx)
 rw [e1, Option.bind_some]
 dsimp only
 rw [qCL s (by unfold qXD IntS_b; omega) (by unfold qHE qhD; omega), if_pos hs, Option.bind_some, qiB]
 dsimp only
 obtain ⟨c2, h2, l, e2, k2, m1, m2⟩ := qPN (l1Cur.mk b i h) s 0 (List.replicate s.Cols.length []) true hs (((lenI (List.replicate s.Cols.length ([] : List Row))) - 0).toNat + 1) 0 c1 h1 (List.replicate s.Cols.length []) k1 (by simp) (by omega) (by rw [qH]; simp) (fun t rows ht => by omega)
 rw [show ((0 : Nat) : Int) = 0 from rfl] at e2
 rw [e2]
 obtain ⟨c3, h3, x3, e3, k3, l3', u3, _⟩ := qlB h2 5 k2
 have := u3 (by omega)
 dsimp only at e3 ⊢
 rw [e3, Option.bind_some]
 refine ⟨_, _, _, rfl, k3, ?_, ⟨l3', by dsimp only; omega⟩, m2⟩
 unfold storeB
 dsimp only
 rw [hs, decide_eq_true (by omega), decide_eq_true m1]
 simp only [Bool.true_and]
 rw [qFE]
 intro t rows ht
 obtain ⟨p1, p2⟩ := m2 t rows ht
 have hlt := at_lt ht
 exact qhY hs (by omega) (by omega) p2.1 fun r hr => (p2.2 r hr).rowB hs (by omega)
structure DSx (s : Store) : Prop where
 sb : SB s.Schema
 sz : qSF s ≤ 2100
 v : (0 ≤ s.Version ∧ s.Version ≤ 4) ∨ s.Version = -1 ∨ s.Version = 100000 ∨ s.Version = 100001
theorem DSx.b {s : Store} (h : DSx s) : qmF s := qKM (by have := h.sz; omega)
theorem qLa (l : List (List Row)) (n : Nat) : qXH (l.drop n) ≤ qXH l := by
 have h := qZJ qPC l n
 have p := qnE qLG (l.take n)
 unfold qXH
 rw [List.length_drop]
 omega
theorem qfW {b : List Int} {i : Int} (h : Int) (hc : CI b i) : ∃ i' h' s, qHG.f (l1Cur.mk b i h) = some (l1Cur.mk b i' h', s) ∧ CI b i' ∧ DSx s := by
 unfold qHG.f
 obtain ⟨c1, h1, s, e1, k1, d1⟩ := qQN h hc
 obtain ⟨s1, s2⟩ := qeS d1.ok
 have hlen := (qtD d1.ok).1
 have hpos : 0 < s.Tables.length := by
  have := (qtD d1.ok).2
  unfold schemaB at this
  rw [Bool.and_eq_true, decide_eq_true_eq] at this
  omega
 rw [qpB e1]
 dsimp only
 obtain ⟨c2, h2, x2, e2, k2, _⟩ := qlB h1 25 k1
 rw [qpB e2]
 dsimp only
 by_cases q0 : x2 = 0
 ·
  obtain ⟨c3, h3, x3, e3, k3, m3⟩ := qjF (l := [-1, 100000, 100001]) h2 (by simp) k2
  rw [decide_eq_true q0, cond_true, Option.bind_some, qpB e3]
  simp only [List.mem_cons, List.not_mem_nil, or_false] at m3
  exact ⟨_, _, _, rfl, k3, d1.SB, by unfold qSF at *; dsimp only; omega, .inr m3⟩
 rw [decide_eq_false q0, cond_false]
 by_cases q1 : x2 = 1
 ·
  have := qLa s.Tables 1
  rw [decide_eq_true q1, cond_true, qH, qDM ⟨by omega, by omega, by omega⟩, Option.bind_some, show (s.Tables.take ((s.Tables.length : Int)).toNat).drop (1 : Int).toNat = s.Tables.drop 1 by rw [Int.toNat_natCast, List.take_length]; rfl]
  exact ⟨_, _, _, rfl, k2, d1.SB, by unfold qSF at *; dsimp only; omega, .inl d1.v⟩
 rw [decide_eq_false q1, cond_false]
 by_cases q2 : x2 = 2
 ·
  obtain ⟨c3, h3, r, e3, k3, _, _, r3, _⟩ := qzK h2 2 (by omega) k2
  have hz : qPC (s.Tables[0] ++ [r]) ≤ qPC s.Tables[0] + 3 := by
   unfold qPC
   rw [sum_append]
   simp only [List.length_append, List.length_cons, List.length_nil, List.map_cons, List.map_nil, List.sum_cons, List.sum_nil]
   unfold qyC qhD
   omega
  have hr0 := (d1.rows 0 _ (List.getElem?_eq_getElem hpos)).1
  have hm := qJK qLG (List.getElem_mem hpos)
  have hset := qRW qLG (s.Tables[0] ++ [r]) s.Tables 0
  rw [decide_eq_true q2, cond_true, show (0 : Int) = ((0 : Nat) : Int) from rfl, qv, List.getElem?_eq_getElem hpos, Option.bind_some, qpB e3]
  dsimp only
  rw [Option.bind_some, qtB (by simp only [List.length_cons, List.length_nil]; omega), Option.bind_some, Option.bind_some, qMP]
  refine ⟨_, _, _, rfl, k3, d1.SB, ?_, .inl d1.v⟩
  unfold qSF qXH at *
  dsimp only
  rw [List.length_set]
  have n0 := qLG s.Tables[0]
  have n1 := qxI s.Schema
  omega
 rw [decide_eq_false q2, cond_false]
 by_cases q3 : x2 = 3
 ·
  obtain ⟨c3, h3, s', e3, k3, b3⟩ := qPR h2 k2
  rw [decide_eq_true q3, cond_true, qpB e3]
  refine ⟨_, _, _, rfl, k3, b3, ?_, .inl d1.v⟩
  have := b3.1
  have := qxI s.Schema
  unfold qSF at *
  unfold qHE qhD at *
  dsimp only
  omega
 rw [decide_eq_false q3, cond_false]
 exact ⟨_, _, _, rfl, k2, d1.SB, by omega, .inl d1.v⟩
theorem qaM {b : List Int} {i : Int} (h : Int) (n : Int) (hc : CI b i) : ∃ i' h' x, qjC.f (l1Cur.mk b i h) n = some (l1Cur.mk b i' h', x) ∧ CI b i' := by
 unfold qjC.f
 obtain ⟨i1, h1, x1, e1, k1, _⟩ := qlB h n hc
 rw [e1, Option.bind_some]
 exact ⟨_, _, _, rfl, k1⟩
theorem qzE (x y : Int) : qkC.f x y = some (max x y) := by
 unfold qkC.f
 by_cases h : y < x
 · rw [decide_eq_true h, cond_true, show max x y = x by omega]
 rw [decide_eq_false h, cond_false, show max x y = y by omega]
def QB (q : Query) : Prop := q.Where.length ≤ 4 ∧ q.Show.length ≤ 6 ∧ ∀ x ∈ q.Show, 0 ≤ x ∧ x ≤ 5
def Qr3 (q : Query) : Prop := q.Where.length ≤ 3 ∧ q.Show.length ≤ 5 ∧ ∀ x ∈ q.Show, 0 ≤ x ∧ x ≤ 5
theorem QB.b {q : Query} (h : QB q) : qpG q := by
 have h1 := h.1
 have h2 := h.2.1
 exact ⟨by unfold qwI; omega, by unfold IntS_b; omega⟩
def QNo (s : Schema) (t : Int) (w : List Cond) (o f : Int) (d : Bool) (l : List Int) : Prop := (0 ≤ t ∧ t ≤ (s.Cols.length : Int) - 1) ∧ (∀ c ∈ w, condB (s.Cols.getD t.toNat 0) c = true) ∧ showB (s.Cols.getD t.toNat 0) l = true ∧ w.length ≤ 3 ∧ (0 ≤ o ∧ o ≤ s.Cols.getD t.toNat 0) ∧ (d = true → 0 < o) ∧ (0 ≤ f ∧ f ≤ 24)
theorem QNo.query {s : Schema} {t : Int} {w : List Cond} {o f : Int} {d : Bool} {l : List Int} (hs : schemaB s = true) (h : QNo s t w o f d l) {k : Bool} {kt kc : Int} (hk : kidsB s ⟨t, w, o, d, f, l, k, kt, kc⟩ = true) : queryB s ⟨t, w, o, d, f, l, k, kt, kc⟩ = true := by
 obtain ⟨h1, h2, h3, h4, h5, h6, h7⟩ := h
 unfold queryB
 dsimp only
 rw [hs, hk, h3, decide_eq_true h1, decide_eq_true h4, decide_eq_true h5, decide_eq_true h7, List.all_eq_true.2 h2]
 cases d with
 | false => rfl
 | true => rw [decide_eq_true (h6 rfl)]; rfl
theorem qMa {y : Int} (hy : y ≤ 5) {l : List Int} (hp : l.Pairwise (· < ·)) (h : ∀ x ∈ l, 0 ≤ x ∧ x < y) : showB y l = true := by
 unfold showB
 rw [qFE]
 intro i x hx
 have hi := at_lt hx
 have h1 := h x (List.mem_of_getElem? hx)
 rw [qNB (by omega), decide_eq_true (by omega), Bool.true_and]
 by_cases c : 0 < i
 ·
  have := List.pairwise_iff_getElem.1 hp (i - 1) i (by omega) hi (by omega)
  rw [(List.getElem?_eq_some_iff.1 hx).2] at this
  rw [List.getD_eq_getElem?_getD, List.getElem?_eq_getElem (by omega), Option.getD_some, decide_eq_false (p := x ≤ _) (by omega)]
  simp
 rw [decide_eq_false c]; rfl
theorem qRN (a : l1Cur) (y : Int) (hy : 1 ≤ y ∧ y ≤ 5) : ∀ (k i : Nat) (ci h : Int) (l : List Cond), CI a.b ci → l.length = i → i ≤ 2 → 3 ≤ i + k → (∀ c ∈ l, condB y c = true) →
  ∃ ci' h' l', (∀ K, qo.l0 a y K k ci h l i = K ci' h' l') ∧ CI a.b ci' ∧ l'.length ≤ 3 ∧ ∀ c ∈ l', condB y c = true := by
 intro k
 induction k with
 | zero => intro i ci h l hc hl h1 h2 hx; omega
 | succ k ih =>
  intro i ci h l hc hl h1 h2 hx
  obtain ⟨c1, h1', x1, e1, k1, l1, u1, _⟩ := qlB h 3 hc
  have hx3 := u1 (by omega)
  by_cases c : (i : Int) < x1
  ·
   obtain ⟨c2, h2', x2, e2, k2, l2, u2, _⟩ := qlB h1' y k1
   obtain ⟨c3, h3', x3, e3, k3, l3, u3, _⟩ := qlB h2' 4 k2
   obtain ⟨c4, h4', x4, e4, k4, l4, u4, _⟩ := qlB h3' 6 k3
   obtain ⟨ci', h', l', q1, q2, q3⟩ := ih (i + 1) c4 h4' (l ++ [Cond.mk x2 (w64 (1 + x3)) x4]) k4 (by simp [hl]) (by omega) (by omega) (qfJ hx (by
    have := u2 (by omega)
    have := u3 (by omega)
    have := u4 (by omega)
    unfold condB
    dsimp only
    rw [qNB (x := 1 + x3) (by omega), qNB (x := y - 1) (by omega), decide_eq_true (by omega), decide_eq_true (by omega), decide_eq_true (by omega)]
    rfl))
   refine ⟨ci', h', l', fun K => ?_, q2, q3⟩
   rw [qo.l0, e1, Option.bind_some]
   dsimp only
   rw [decide_eq_true c, cond_true, e2, Option.bind_some]
   dsimp only
   rw [e3, Option.bind_some]
   dsimp only
   rw [e4, Option.bind_some]
   dsimp only
   rw [Option.bind_some, qtB (by simp only [List.length_cons, List.length_nil]; omega), Option.bind_some, qAB (by omega)]
   exact q1 K
  refine ⟨c1, h1', l, fun K => ?_, k1, by omega, hx⟩
  rw [qo.l0, e1, Option.bind_some]
  dsimp only
  rw [decide_eq_false c, cond_false]
theorem qSN (a : l1Cur) (y : Int) (hy : y ≤ 5) (d : Bool) : ∀ (k i : Nat) (ci h : Int) (l : List Int), CI a.b ci → l.length ≤ i → (i : Int) ≤ y ∨ i = 0 → 0 < k → y < i + k → (l.Pairwise (· < ·) ∧ ∀ x ∈ l, 0 ≤ x ∧ x < (i : Int)) → 1 ≤ y →
  ∃ ci' h' l', (∀ K, qo.l1 a y K k ci h d l i = K ci' h' d l') ∧ CI a.b ci' ∧ l'.length ≤ 5 ∧ l'.Pairwise (· < ·) ∧ ∀ x ∈ l', 0 ≤ x ∧ x < y := by
 intro k
 induction k with
 | zero => intro i ci h l hc hl h0 h1 h2 hx hy1; omega
 | succ k ih =>
  intro i ci h l hc hl h0 h1 h2 hx hy1
  by_cases c : (i : Int) < y
  ·
   obtain ⟨c2, h2', x2, e2, k2⟩ := qaM h 2 hc
   cases x2 with
   | true =>
    obtain ⟨ci', h', l', q1, q2, q3⟩ := ih (i + 1) c2 h2' (l ++ [(i : Int)]) k2 (by simp only [List.length_append, List.length_cons, List.length_nil]; omega) (by omega) (by omega) (by omega) ⟨List.pairwise_append.2 ⟨hx.1, List.pairwise_singleton .., fun a ha b hb => by rw [List.mem_singleton.1 hb]; exact (hx.2 a ha).2⟩, qfJ (fun x h => by have := hx.2 x h; omega) (by omega)⟩ hy1
    refine ⟨ci', h', l', fun K => ?_, q2, q3⟩
    rw [qo.l1, decide_eq_true c, cond_true, e2, Option.bind_some, qAB (by omega)]
    dsimp only
    rw [cond_true, Option.bind_some, qtB (by simp only [List.length_cons, List.length_nil]; omega), Option.bind_some]
    exact q1 K
   | false =>
    obtain ⟨ci', h', l', q1, q2, q3⟩ := ih (i + 1) c2 h2' l k2 (by omega) (by omega) (by omega) (by omega) ⟨hx.1, fun x h => by have := hx.2 x h; omega⟩ hy1
    refine ⟨ci', h', l', fun K => ?_, q2, q3⟩
    rw [qo.l1, decide_eq_true c, cond_true, e2, Option.bind_some, qAB (by omega)]
    dsimp only
    rw [cond_false]
    exact q1 K
  refine ⟨ci, h, l, fun K => ?_, hc, by omega, hx.1, fun x h => by have := hx.2 x h; omega⟩
  rw [qo.l1, decide_eq_false c, cond_false]
theorem qbM (a : l1Cur) (s : Schema) (q1 : Int) (w : List Cond) (o f : Int) (hs : SB s) (hw : w.length ≤ 3) : ∀ (ci h : Int) (d : Bool) (l : List Int), CI a.b ci → l.length ≤ 5 → (∀ x ∈ l, 0 ≤ x ∧ x ≤ 5) → (schemaB s = true → QNo s q1 w o f d l) →
  ∃ ci' h' q, ((qjC.f (l1Cur.mk a.b ci h) 2).bind fun r130 =>
   bif r130.2 then (
   (qkC.f (lenI s.Cols) 1).bind fun r132 =>
   (qk.f (l1Cur.mk a.b r130.1.i r130.1.h) r132).bind fun r133 =>
   bif (decide (r133.2 < (lenI s.Cols))) then (
   (getO s.Cols r133.2).bind fun x135 =>
   (qkC.f x135 1).bind fun r136 =>
   (qk.f (l1Cur.mk a.b r133.1.i r133.1.h) r136).bind fun r137 =>
   some ((l1Cur.mk a.b r137.1.i r137.1.h), (Query.mk q1 w o d f l true r133.2 r137.2)))
   else (
   some ((l1Cur.mk a.b r133.1.i r133.1.h), (Query.mk q1 w o d f l true r133.2 0))))
   else (
   some ((l1Cur.mk a.b r130.1.i r130.1.h), (Query.mk q1 w o d f l false 0 0)))) = some (l1Cur.mk a.b ci' h', q) ∧ CI a.b ci' ∧ Qr3 q ∧ (schemaB s = true → queryB s q = true) := by
 intro ci h d l hc hl hx hN
 obtain ⟨c2, h2, x2, e2, k2⟩ := qaM h 2 hc
 rw [e2, Option.bind_some]
 dsimp only
 cases x2 with
 | false => rw [cond_false]; exact ⟨_, _, _, rfl, k2, by dsimp only [Qr3]; exact ⟨by omega, by omega, hx⟩, fun h => (hN h).query h (by unfold kidsB; simp)⟩
 | true =>
  rw [cond_true, qzE, Option.bind_some]
  obtain ⟨c3, h3, x3, e3, k3, l3, u3, _⟩ := qlB h2 (max (lenI s.Cols) 1) k2
  rw [e3, Option.bind_some]
  dsimp only
  by_cases c : x3 < lenI s.Cols
  ·
   rw [decide_eq_true c, cond_true, qWJ l3, List.getElem?_eq_getElem (by rw [qH] at c; omega), Option.bind_some, qzE, Option.bind_some]
   have hlt : x3.toNat < s.Cols.length := by rw [qH] at c; omega
   obtain ⟨c4, h4, x4, e4, k4, l4, u4, _⟩ := qlB h3 (max (s.Cols[x3.toNat]'(by rw [qH] at c; omega)) 1) k3
   rw [e4, Option.bind_some]
   refine ⟨_, _, _, rfl, k4, by dsimp only [Qr3]; exact ⟨by omega, by omega, hx⟩, fun h => (hN h).query h ?_⟩
   rw [qH] at c
   have hc1 : 1 ≤ s.Cols[x3.toNat] ∧ s.Cols[x3.toNat] ≤ 4 := by
    unfold schemaB at h
    rw [Bool.and_eq_true, List.all_eq_true] at h
    exact of_decide_eq_true (h.1 _ (List.getElem_mem hlt))
   have := u4 (by omega)
   unfold kidsB
   rw [if_pos rfl, Bool.and_eq_true, decide_eq_true_eq, decide_eq_true_eq]
   dsimp only
   rw [List.getD_eq_getElem?_getD, List.getElem?_eq_getElem hlt, Option.getD_some, qNB (by omega)]
   omega
  rw [decide_eq_false c, cond_false]
  refine ⟨_, _, _, rfl, k3, by dsimp only [Qr3]; exact ⟨by omega, by omega, hx⟩, fun h => ?_⟩
  rw [qH] at c u3
  unfold schemaB at h
  rw [Bool.and_eq_true, decide_eq_true_eq] at h
  have := u3 (by omega)
  omega
theorem qhJ (a : l1Cur) (s : Schema) (hs : SB s) (q1 : Int) (c0 h0 : Int) (hc : CI a.b c0) (y3 : Int) (hy : 1 ≤ y3 ∧ y3 ≤ 5) (hcol : schemaB s = true → s.Cols.getD q1.toNat 0 = y3 ∧ 0 ≤ q1 ∧ q1 ≤ (s.Cols.length : Int) - 1) : ∃ i' h' q, (joinK (fun (y8 : Int) (y9 : Int) (y10 : List Cond) =>
 (qk.f (l1Cur.mk a.b y8 y9) (w64 (y3 + 1))).bind fun r64 =>
 (gd (decide (0 < r64.2)) (qjC.f (l1Cur.mk a.b r64.1.i r64.1.h) 2)).bind fun r65 =>
 (some [0, 0, 1, 2, 3, 5]).bind fun l70 =>
 (qUC.f (l1Cur.mk a.b (ci3 (decide (0 < r64.2)) r65.1.i r64.1.i) (ci3 (decide (0 < r64.2)) r65.1.h r64.1.h)) l70).bind fun r71 =>
 joinK (fun (y72 : Int) (y73 : Int) (y74 : Bool) (y75 : List Int) =>
 (qjC.f (l1Cur.mk a.b y72 y73) 2).bind fun r130 =>
 bif r130.2 then (
 (qkC.f (lenI s.Cols) 1).bind fun r132 =>
 (qk.f (l1Cur.mk a.b r130.1.i r130.1.h) r132).bind fun r133 =>
 bif (decide (r133.2 < (lenI s.Cols))) then (
 (getO s.Cols r133.2).bind fun x135 =>
 (qkC.f x135 1).bind fun r136 =>
 (qk.f (l1Cur.mk a.b r133.1.i r133.1.h) r136).bind fun r137 =>
 some ((l1Cur.mk a.b r137.1.i r137.1.h), (Query.mk q1 y10 r64.2 y74 r71.2 y75 true r133.2 r137.2)))
 else (
 some ((l1Cur.mk a.b r133.1.i r133.1.h), (Query.mk q1 y10 r64.2 y74 r71.2 y75 true r133.2 0))))
 else (
 some ((l1Cur.mk a.b r130.1.i r130.1.h), (Query.mk q1 y10 r64.2 y74 r71.2 y75 false 0 0)))) (fun K76 =>
 qo.l1 a y3 K76 ((y3 - 0).toNat + 1) r71.1.i r71.1.h (bo3 (decide (0 < r64.2)) r65.2 false) [] 0)) (fun K11 =>
 qo.l0 a y3 K11 1000 c0 h0 [] 0)) = some (l1Cur.mk a.b i' h', q) ∧ CI a.b i' ∧ Qr3 q ∧ (schemaB s = true → queryB s q = true) := by
 rw [qiB]
 obtain ⟨c1, h1, w, e1, k1, w1, w2⟩ := qRN a y3 hy 1000 0 c0 h0 [] hc rfl (by omega) (by omega) (by simp)
 rw [show ((0 : Nat) : Int) = 0 from rfl] at e1
 rw [e1]
 obtain ⟨c2, h2, x2, e2, k2, l2, u2, _⟩ := qlB h1 (w64 (y3 + 1)) k1
 rw [qNB (x := y3 + 1) (by omega)] at u2
 have u2 := u2 (by omega)
 rw [e2, Option.bind_some]
 dsimp only
 have hmid : ∃ c3 h3 d3, (gd (decide (0 < x2)) (qjC.f (l1Cur.mk a.b c2 h2) 2)).bind (fun r65 => some (ci3 (decide (0 < x2)) r65.1.i c2, ci3 (decide (0 < x2)) r65.1.h h2, bo3 (decide (0 < x2)) r65.2 false)) = some (c3, h3, d3) ∧ CI a.b c3 ∧ (d3 = true → 0 < x2) := by
  by_cases c : 0 < x2
  ·
   obtain ⟨c3, h3, x3, e3, k3⟩ := qaM h2 2 k2
   rw [decide_eq_true c, qOC, e3, Option.bind_some]
   exact ⟨_, _, _, rfl, k3, fun _ => c⟩
  rw [decide_eq_false c, qCE, Option.bind_some]
  exact ⟨_, _, _, rfl, k2, fun h => by cases h⟩
 obtain ⟨c3, h3, d3, e3, k3, m3⟩ := hmid
 have hm2 : ∀ {β : Type} (G : Int → Int → Bool → Option β), (gd (decide (0 < x2)) (qjC.f (l1Cur.mk a.b c2 h2) 2)).bind (fun r65 => G (ci3 (decide (0 < x2)) r65.1.i c2) (ci3 (decide (0 < x2)) r65.1.h h2) (bo3 (decide (0 < x2)) r65.2 false)) = G c3 h3 d3 := fun G => by
  have := congrArg (fun o => o.bind fun t => G t.1 t.2.1 t.2.2) e3
  simpa only [Option.bind_assoc, Option.bind_some] using this
 obtain ⟨c4, h4, x4, e4, k4, m4⟩ := qjF (l := [0, 0, 1, 2, 3, 5]) h3 (by simp) k3
 simp only [Option.bind_some]
 refine (?_ : ∃ i' h' q, _ = some (l1Cur.mk a.b i' h', q) ∧ CI a.b i' ∧ Qr3 q ∧ (schemaB s = true → queryB s q = true))
 have hm3 := hm2 (fun ci hh dd => (qUC.f (l1Cur.mk a.b ci hh) [0, 0, 1, 2, 3, 5]).bind fun r71 =>
  joinK (fun (y72 : Int) (y73 : Int) (y74 : Bool) (y75 : List Int) =>
  (qjC.f (l1Cur.mk a.b y72 y73) 2).bind fun r130 =>
  bif r130.2 then (
  (qkC.f (lenI s.Cols) 1).bind fun r132 =>
  (qk.f (l1Cur.mk a.b r130.1.i r130.1.h) r132).bind fun r133 =>
  bif (decide (r133.2 < (lenI s.Cols))) then (
  (getO s.Cols r133.2).bind fun x135 =>
  (qkC.f x135 1).bind fun r136 =>
  (qk.f (l1Cur.mk a.b r133.1.i r133.1.h) r136).bind fun r137 =>
  some ((l1Cur.mk a.b r137.1.i r137.1.h), (Query.mk q1 w x2 y74 r71.2 y75 true r133.2 r137.2)))
  else (
  some ((l1Cur.mk a.b r133.1.i r133.1.h), (Query.mk q1 w x2 y74 r71.2 y75 true r133.2 0))))
  else (
  some ((l1Cur.mk a.b r130.1.i r130.1.h), (Query.mk q1 w x2 y74 r71.2 y75 false 0 0)))) (fun K76 =>
  qo.l1 a y3 K76 ((y3 - 0).toNat + 1) r71.1.i r71.1.h dd [] 0))
 rw [hm3, e4, Option.bind_some, qiB]
 obtain ⟨c5, h5, sh, e5, k5, l5⟩ := qSN a y3 hy.2 d3 ((y3 - 0).toNat + 1) 0 c4 h4 [] k4 (by simp) (by omega) (by omega) (by omega) (by simp) hy.1
 rw [show ((0 : Nat) : Int) = 0 from rfl] at e5
 dsimp only at e5 ⊢
 rw [e5]
 exact qbM a s q1 w x2 x4 hs w1 c5 h5 d3 sh k5 l5.1 (fun x hx => by have := l5.2.2 x hx; omega) fun h => by
  obtain ⟨g1, g2⟩ := hcol h
  simp only [List.mem_cons, List.not_mem_nil, or_false] at m4
  exact ⟨g2, by rw [g1]; exact w2, by rw [g1]; exact qMa hy.2 l5.2.1 l5.2.2, w1, by rw [g1]; omega, m3, by omega⟩
theorem qTN {b : List Int} {i : Int} (h : Int) (s : Schema) (hs : SB s) (hc : CI b i) : ∃ i' h' q, qo.f (l1Cur.mk b i h) s = some (l1Cur.mk b i' h', q) ∧ CI b i' ∧ Qr3 q ∧ (schemaB s = true → queryB s q = true) := by
 unfold qo.f
 rw [qpB (qzE _ _)]
 obtain ⟨c1, h1, x1, e1, k1, l1, u1, _⟩ := qlB h (max (lenI s.Cols) 1) hc
 rw [e1, Option.bind_some]
 dsimp only
 rw [qiB]
 by_cases c : x1 < lenI s.Cols
 ·
  have hlt : x1.toNat < s.Cols.length := by rw [qH] at c; omega
  rw [decide_eq_true c, cond_true, qWJ l1, List.getElem?_eq_getElem hlt, Option.bind_some, qpB (qzE _ _)]
  have := hs.2 _ (List.getElem_mem hlt)
  have k := qhJ (l1Cur.mk b i h) s hs x1 c1 h1 k1 (max s.Cols[x1.toNat] 1) (by omega) (fun h => by
   have hc1 : 1 ≤ s.Cols[x1.toNat] ∧ s.Cols[x1.toNat] ≤ 4 := by
    unfold schemaB at h
    rw [Bool.and_eq_true, List.all_eq_true] at h
    exact of_decide_eq_true (h.1 _ (List.getElem_mem hlt))
   rw [List.getD_eq_getElem?_getD, List.getElem?_eq_getElem hlt, Option.getD_some]
   omega)
  exact k
 rw [decide_eq_false c, cond_false]
 exact qhJ (l1Cur.mk b i h) s hs x1 c1 h1 k1 1 (by omega) (fun h => by
  rw [qH] at c u1
  unfold schemaB at h
  rw [Bool.and_eq_true, decide_eq_true_eq] at h
  have := u1 (by omega)
  omega)
theorem qgW {b : List Int} {i : Int} (h : Int) (s : Schema) (hs : SB s) (hc : CI b i) : ∃ i' h' q, qIG.f (l1Cur.mk b i h) s = some (l1Cur.mk b i' h', q) ∧ CI b i' ∧ QB q := by
 unfold qIG.f
 obtain ⟨i1, h1, q, e1, k1, ⟨q1, q2, q3⟩, _⟩ := qTN h s hs hc
 obtain ⟨i2, h2, x2, e2, k2, _⟩ := qlB h1 25 k1
 rw [qpB e1]
 dsimp only
 rw [qpB e2]
 dsimp only
 by_cases c0 : x2 = 0
 ·
  obtain ⟨i3, h3, x3, e3, k3, _⟩ := qlB h2 5 k2
  rw [decide_eq_true c0, cond_true, qpB e3]
  exact ⟨_, _, _, rfl, k3, by dsimp only; omega, by dsimp only; omega, q3⟩
 rw [decide_eq_false c0, cond_false]
 by_cases c1 : x2 = 1
 ·
  obtain ⟨i3, h3, x3, e3, k3, _⟩ := qlB h2 6 k2
  obtain ⟨i4, h4, x4, e4, k4, _⟩ := qlB h3 6 k3
  obtain ⟨i5, h5, x5, e5, k5, _⟩ := qjF (l := [0, 1000000001]) h4 (by simp) k4
  rw [decide_eq_true c1, cond_true, qpB e3]
  dsimp only
  rw [qpB e4, Option.bind_some]
  dsimp only
  rw [qpB e5, Option.bind_some, qtB (by simp only [List.length_cons, List.length_nil]; omega), Option.bind_some]
  exact ⟨_, _, _, rfl, k5, by simp only [List.length_append, List.length_cons, List.length_nil]; omega, by dsimp only; omega, q3⟩
 rw [decide_eq_false c1, cond_false]
 by_cases c2 : x2 = 2
 ·
  obtain ⟨i3, h3, x3, e3, k3, _⟩ := qlB h2 7 k2
  rw [decide_eq_true c2, cond_true, qpB e3]
  exact ⟨_, _, _, rfl, k3, by dsimp only; omega, by dsimp only; omega, q3⟩
 rw [decide_eq_false c2, cond_false]
 by_cases c3 : x2 = 3
 ·
  obtain ⟨i3, h3, x3, e3, k3, _⟩ := qjF (l := [-1, 24, 25]) h2 (by simp) k2
  rw [decide_eq_true c3, cond_true, Option.bind_some, qpB e3]
  exact ⟨_, _, _, rfl, k3, by dsimp only; omega, by dsimp only; omega, q3⟩
 rw [decide_eq_false c3, cond_false]
 by_cases c4 : x2 = 4
 ·
  obtain ⟨i3, h3, x3, e3, k3, y1, y2, _⟩ := qlB h2 5 k2
  have y3 := y2 (by omega)
  rw [decide_eq_true c4, cond_true, qpB e3, Option.bind_some, qtB (by simp only [List.length_cons, List.length_nil]; omega), Option.bind_some]
  exact ⟨_, _, _, rfl, k3, by dsimp only; omega, by simp only [List.length_append, List.length_cons, List.length_nil]; omega, qfJ q3 ⟨y1, by omega⟩⟩
 rw [decide_eq_false c4, cond_false]
 by_cases c5 : x2 = 5
 ·
  obtain ⟨i3, h3, x3, e3, k3, _⟩ := qlB h2 6 k2
  rw [decide_eq_true c5, cond_true, qpB e3]
  exact ⟨_, _, _, rfl, k3, by dsimp only; omega, by dsimp only; omega, q3⟩
 rw [decide_eq_false c5, cond_false]
 exact ⟨_, _, _, rfl, k2, by omega, by omega, q3⟩
theorem qRU (code : List Int) (hl : (code.length : Int) ≤ 1048576) : ∃ s q, qgF.f code = some (s, q) ∧ DSx s ∧ QB q := by
 unfold qgF.f
 obtain ⟨h0, e0, k0⟩ := qgY code hl
 rw [qpB e0]
 obtain ⟨i1, h1, s, e1, k1, d1⟩ := qfW h0 k0
 rw [qpB e1]
 obtain ⟨i2, h2, q, e2, k2, q2⟩ := qgW h1 s.Schema d1.sb k1
 dsimp only
 rw [qpB e2]
 exact ⟨_, _, rfl, d1, q2⟩
theorem qiS (code : List Int) (hl : (code.length : Int) ≤ 1048576) : ∃ s q, qxE.f code = some (s, q) ∧ DSx s ∧ QB q := by
 unfold qxE.f
 obtain ⟨s, q, e1, d1, q1⟩ := qRU code hl
 rw [qpB e1]
 exact ⟨_, _, rfl, d1, q1⟩
theorem qdP (s : Schema) (t : Int) (r : Row) (hs : qXD s) (hr : Row_b r) : qLD.f s t r = some (rowB s t r) := by
 have hl : s.Cols.length ≤ 9223372036854775807 := hs
 have hrl : r.Cells.length ≤ 9223372036854775807 := hr
 unfold qLD.f rowB
 rw [quD _ hs, Option.bind_some, qH, qNB (by omega), qcB, qcB]
 cases schemaB s with
 | false => rfl
 | true =>
  by_cases d : 0 ≤ t ∧ t ≤ (s.Cols.length : Int) - 1
  case neg => rw [decide_eq_false d]; rfl
  rw [decide_eq_true d, qaE d]
  by_cases d2 : 1 ≤ r.Id ∧ r.Id ≤ 999
  case neg => rw [decide_eq_false d2]; rfl
  rw [decide_eq_true d2]
  simp only [bo3_F, bo3_T, qOC, Option.bind_some, Bool.true_and]
  by_cases d3 : (r.Cells.length : Int) = s.Cols.getD t.toNat 0
  case neg => rw [show decide (lenI r.Cells ≠ s.Cols.getD t.toNat 0) = true from decide_eq_true d3, decide_eq_false d3]; rfl
  rw [show decide (lenI r.Cells ≠ s.Cols.getD t.toNat 0) = false from decide_eq_false (fun h => h d3), decide_eq_true d3, cond_false, Bool.true_and]
  refine (quC (f := qLD.l0 r) (l := r.Cells) (fun _ n => decide (-1000000000 ≤ n ∧ n ≤ 1000000000)) (some false) (some true) (fun k i x hx => ?_) (fun k i hi => ?_) _ 0 (by omega) (by (try simp only [qH]); omega)).trans ?_
  ·
   have hi := at_lt hx
   rw [qLD.l0, qH, decide_eq_true (by omega), cond_true, qv, hx, Option.bind_some, qcB, Option.bind_some, qTC, qAB (by omega)]
   cases decide (-1000000000 ≤ x ∧ x ≤ 1000000000) <;> rfl
  · rw [qLD.l0, qH, decide_eq_false (by omega), cond_false]
  rw [qND]
  cases r.Cells.all fun n => decide (-1000000000 ≤ n ∧ n ≤ 1000000000) <;> rfl
theorem qUN (s : Schema) (t : Int) (rows : List Row) (hs : qXD s) (hr : qCR rows) : qsC.f s t rows = some (rowsB s t rows) := by
 have hl : s.Cols.length ≤ 9223372036854775807 := hs
 obtain ⟨hrl, hr2⟩ := hr
 unfold qsC.f rowsB
 simp only [joinK]
 refine (quC (f := qsC.l0 s t rows _) (l := rows) (fun i r => rowB s t r && !(decide (0 < i) && decide (r.Id ≤ (rows.getD (i - 1) default).Id))) (some false) (some (schemaB s && decide (0 ≤ t ∧ t ≤ (s.Cols.length : Int) - 1) && decide (rows.length ≤ 24))) (fun k i x hx => ?_) (fun k i hi => ?_) _ 0 (by omega) (by (try simp only [qH]); omega)).trans ?_
 ·
  have hi := at_lt hx
  rw [qsC.l0, qH, decide_eq_true (by omega), cond_true, qv, hx, Option.bind_some, qdP _ _ _ hs (hr2 x (List.mem_of_getElem? hx)), Option.bind_some, qAR hx (by omega), Option.bind_some, qAB (by omega)]
  rw [show decide (0 < (i : Int)) = decide (0 < i) from by simp]
  cases rowB s t x <;> cases decide (0 < i) <;> (try rfl)
  simp only [bo3_F, bo3_T, Bool.true_and, cond_true]
  by_cases e : x.Id ≤ (rows.getD (i - 1) default).Id
  · simp [e]
  simp [e]
 ·
  rw [qsC.l0, qH, decide_eq_false (by omega), cond_false, quD _ hs, Option.bind_some]
  first | rw [qsD _ _ hs] | rw [qH s.Cols, qNB (by omega), qcB]
  have e24 : decide ((rows.length : Int) ≤ 24) = decide (rows.length ≤ 24) := by rw [decide_eq_decide]; omega
  simp only [qH, e24]
  generalize decide (0 ≤ t ∧ t ≤ (s.Cols.length : Int) - 1) = b1
  generalize decide (rows.length ≤ 24) = b2
  cases schemaB s <;> cases b1 <;> cases b2 <;> rfl
 cases allFrom (fun i r => rowB s t r && !(decide (0 < i) && decide (r.Id ≤ (rows.getD (i - 1) default).Id))) rows 0 <;> rfl
theorem qRR (v : Int) : qxB.f v 0 100000 = some (decide (0 ≤ v ∧ v ≤ 100000)) := qcB _ _ _
theorem qAF (s : Store) (hb : qmF s) : qFC.f s = some (storeB s) := by
 obtain ⟨hs, ht, ht2⟩ := hb
 have hl : s.Schema.Cols.length ≤ 9223372036854775807 := hs
 unfold qFC.f storeB
 rw [quD _ hs, Option.bind_some, qRR]
 cases schemaB s.Schema with
 | false => rfl
 | true =>
  by_cases d : 0 ≤ s.Version ∧ s.Version ≤ 100000
  case neg => rw [decide_eq_false d]; rfl
  rw [decide_eq_true d]
  by_cases d2 : s.Tables.length = s.Schema.Cols.length
  case neg =>
   rw [show decide (lenI s.Tables ≠ lenI s.Schema.Cols) = true from decide_eq_true (by simp only [qH]; omega), decide_eq_false d2]
   rfl
  rw [show decide (lenI s.Tables ≠ lenI s.Schema.Cols) = false from decide_eq_false (by simp only [qH]; omega), decide_eq_true d2]
  simp only [bo3_F, bo3_T, qOC, Option.bind_some, Bool.true_and, cond_false]
  refine (quC (f := qFC.l0 s) (l := s.Tables) (fun i rows => rowsB s.Schema (i : Int) rows) (some false) (some true) (fun k i x hx => ?_) (fun k i hi => ?_) _ 0 (by omega) (by (try simp only [qH]); omega)).trans ?_
  ·
   have hi := at_lt hx
   rw [qFC.l0, qH, decide_eq_true (by omega), cond_true, qv, hx, Option.bind_some, qUN _ _ _ hs (ht2 x (List.mem_of_getElem? hx)), Option.bind_some, qTC, qAB (by omega)]
   cases rowsB s.Schema i x <;> rfl
  · rw [qFC.l0, qH, decide_eq_false (by omega), cond_false]
  cases allFrom (fun i rows => rowsB s.Schema (i : Int) rows) s.Tables 0 <;> rfl
theorem qBF (s : Schema) (q : Query) (h : qXD s) (hq : qpG q) : qYB.f s q = some (queryB s q) := by
 have hcl : s.Cols.length ≤ 9223372036854775807 := h
 obtain ⟨hw, hs⟩ := hq
 have hwl : q.Where.length ≤ 9223372036854775807 := hw
 have hsl : q.Show.length ≤ 9223372036854775807 := hs
 unfold qYB.f queryB
 rw [quD _ h, Option.bind_some]
 cases schemaB s with
 | false => rfl
 | true =>
  rw [show bo3 (bo3 true false true) false true = true from rfl, qOC, qH, qNB (by omega), qcB, Option.bind_some]
  by_cases d : 0 ≤ q.Table ∧ q.Table ≤ (s.Cols.length : Int) - 1
  case neg => rw [decide_eq_false d]; rfl
  rw [decide_eq_true d, qaE d]
  generalize s.Cols.getD q.Table.toNat 0 = cols
  by_cases d3 : q.Where.length ≤ 3
  case neg =>
   rw [qH, decide_eq_true (by omega), show bo3 (bo3 (bo3 true false true) true (bo3 true false true)) true true = true from rfl, cond_true, decide_eq_false d3]
   simp
  rw [qH, decide_eq_false (by omega), show bo3 (bo3 (bo3 true false true) true (bo3 true false true)) true false = false from rfl, cond_false, decide_eq_true d3, Option.bind_some]
  simp only [joinK, Bool.true_and]
  refine (quC (f := qYB.l0 q cols _) (l := q.Where) (fun _ c => condB cols c) (some false) (some (showB cols q.Show && (decide (0 ≤ q.Order ∧ q.Order ≤ cols) && (!q.Down || decide (0 < q.Order)) && decide (0 ≤ q.First ∧ q.First ≤ 24) && kidsB s q))) (fun k i x hx => ?_) (fun k i hi => ?_) _ 0 (by omega) (by (try simp only [qH]); omega)).trans ?_
  ·
   have hi := at_lt hx
   rw [qYB.l0, qH, decide_eq_true (by omega), cond_true, qv, hx, Option.bind_some, qcB, Option.bind_some, qcB, qcB, qAB (by omega)]
   unfold condB
   cases decide (0 ≤ x.Col ∧ x.Col ≤ w64 (cols - 1)) <;> cases decide (1 ≤ x.Op ∧ x.Op ≤ 4) <;> cases decide (-1000000000 ≤ x.V ∧ x.V ≤ 1000000000) <;> rfl
  ·
   rw [qYB.l0, qH, decide_eq_false (by omega), cond_false]
   refine (quC (f := qYB.l1 q cols _) (l := q.Show) (fun i x => decide (0 ≤ x ∧ x ≤ w64 (cols - 1)) && !(decide (0 < i) && decide (x ≤ q.Show.getD (i - 1) 0))) (some false) (some (decide (0 ≤ q.Order ∧ q.Order ≤ cols) && (!q.Down || decide (0 < q.Order)) && decide (0 ≤ q.First ∧ q.First ≤ 24) && kidsB s q)) (fun k i x hx => ?_) (fun k i hi => ?_) _ 0 (by omega) (by (try simp only [qH]); omega)).trans ?_
   ·
    have hi := at_lt hx
    rw [qYB.l1, qH, decide_eq_true (by omega), cond_true, qv, hx, Option.bind_some, qcB, Option.bind_some, qER hx (by omega), Option.bind_some, qAB (by omega)]
    rw [show decide (0 < (i : Int)) = decide (0 < i) from by simp]
    cases decide (0 ≤ x ∧ x ≤ w64 (cols - 1)) <;> cases decide (0 < i) <;> (try rfl)
    simp only [qAE, qTC, qyQ, Bool.not_true, Bool.not_false, Bool.true_and, cond_true]
    cases decide (x ≤ q.Show.getD (i - 1) 0) <;> rfl
   ·
    rw [qYB.l1, qH, decide_eq_false (by omega), cond_false, qcB, Option.bind_some, qcB]
    by_cases e0 : 0 ≤ q.Order ∧ q.Order ≤ cols
    case neg => rw [decide_eq_false e0]; rfl
    rw [decide_eq_true e0, show bo3 (bo3 true false true) false true = true from rfl, qOC, Option.bind_some]
    by_cases e1 : 0 ≤ q.First ∧ q.First ≤ 24
    case neg => rw [decide_eq_false e1]; simp [bo3]
    rw [decide_eq_true e1]
    have e2 : (bo3 (decide (q.Order = 0)) q.Down false) = !(!q.Down || decide (0 < q.Order)) := by
     cases q.Down with
     | false => cases decide (q.Order = 0) <;> rfl
     | true =>
      by_cases e3 : q.Order = 0
      · simp [e3, bo3]
      have : 0 < q.Order := by omega
      simp [e3, bo3, this]
    rw [e2]
    cases hd : (!q.Down || decide (0 < q.Order)) with
    | false => simp [bo3]
    | true =>
     rw [show bo3 (bo3 (bo3 true false true) true (bo3 true false true)) true (!true) = false from rfl, cond_false, qTC]
     unfold kidsB
     cases q.Kids with
     | false => simp [qAE]
     | true =>
      rw [Bool.not_true, cond_false, qcB, Option.bind_some, if_pos rfl]
      by_cases d : 0 ≤ q.KidTable ∧ q.KidTable ≤ (s.Cols.length : Int) - 1
      ·
       rw [decide_eq_true d, qOC, qaE d, Option.bind_some, qOC, qcB, Option.bind_some, qAE]
       simp
      rw [decide_eq_false d, qCE, Option.bind_some, qCE, Option.bind_some, qAE]
      simp
   unfold showB
   cases allFrom (fun i x => decide (0 ≤ x ∧ x ≤ w64 (cols - 1)) && !(decide (0 < i) && decide (x ≤ q.Show.getD (i - 1) 0))) q.Show 0 <;> rfl
  rw [qND]
  cases q.Where.all fun c => condB cols c <;> simp
theorem qcM (c : Cond) (r : Row) (h : Row_b r) : qhF.f c r = some (holdsB c r) := by
 have hl : r.Cells.length ≤ 9223372036854775807 := h
 unfold qhF.f holdsB
 rw [qH, qNB (by omega), qcB, Option.bind_some, qTC]
 by_cases d : 0 ≤ c.Col ∧ c.Col ≤ (r.Cells.length : Int) - 1
 ·
  rw [decide_eq_true d, Bool.not_true, cond_false, qaE d, Option.bind_some, Bool.true_and]
  simp only [qWL, decide_eq_true_eq, qNP, qAE, cmpB]
  all_goals ((repeat' split) <;> simp_all)
 rw [decide_eq_false d, Bool.not_false, cond_true, Bool.false_and]
theorem qdM (q : Query) (r : Row) (hq : qwI q.Where) (h : Row_b r) : qeC.f q r = some (matchesB q r) := by
 have hl : q.Where.length ≤ 9223372036854775807 := hq
 unfold qeC.f
 refine (quC (f := qeC.l0 q r) (l := q.Where) (fun _ c => holdsB c r) (some false) (some true) (fun k i x hx => ?_) (fun k i hi => ?_) _ 0 (by omega) (by (try simp only [qH]); omega)).trans ?_
 ·
  have hi := at_lt hx
  rw [qeC.l0, qH, decide_eq_true (by omega), cond_true, qv, hx, Option.bind_some, qcM _ _ h, Option.bind_some, qTC, qAB (by omega)]
  cases holdsB x r <;> rfl
 · rw [qeC.l0, qH, decide_eq_false (by omega), cond_false]
 rw [qND, matchesB]
 cases q.Where.all fun c => holdsB c r <;> rfl
theorem qrG (r : Row) (col : Int) (h : Row_b r) : qiE.f r col = some (cellF r col) := by
 have hl : r.Cells.length ≤ 9223372036854775807 := h
 unfold qiE.f cellF
 rw [qH, qNB (by omega), qcB, Option.bind_some, qTC]
 by_cases d : 0 ≤ col ∧ col ≤ (r.Cells.length : Int) - 1
 · rw [decide_eq_true d, Bool.not_true, cond_false, qaE d, Option.bind_some, if_pos d]
 rw [decide_eq_false d, Bool.not_false, cond_true, if_neg d]
theorem qeP (q : Query) (a b : Row) (ha : Row_b a) (hb : Row_b b) : qFH.f q a b = some (aheadB q a b) := by
 unfold qFH.f aheadB
 rw [qrG _ _ ha, qrG _ _ hb]
 simp only [Option.bind_some, qWL, decide_eq_true_eq, qNP, qTC, qIW, ne_eq, ite_not]
 all_goals (
  generalize cellF a (w64 (q.Order - 1)) = x
  generalize cellF b (w64 (q.Order - 1)) = y
  by_cases h0 : q.Order = 0
  · simp [h0]
  by_cases h1 : x = y
  · simp [h0, h1]
  cases hd : q.Down with
  | true =>
   simp only [h0, h1, if_false, if_true, Option.some.injEq, decide_eq_true_eq]
   by_cases h2 : x < y
   · simp [h2]; try omega
   simp [h2]; try omega
  | false =>
   simp only [h0, h1, if_false, Option.some.injEq, decide_eq_true_eq]
   by_cases h2 : x < y
   · simp [h2]; try omega
   simp [h2]; try omega)
theorem qfP (q : Query) (l : List Row) (r : Row) (K : List Row → Bool → Int → Option (List Row)) : ∀ (k i : Nat) (acc : List Row), i ≤ l.length → l.length < i + k → (acc.length : Int) + (l.length - i : Nat) ≤ 1099511627777 → (l.length : Int) ≤ 1099511627776 →
  qQC.l0 q l r K k acc true i = K (acc ++ l.drop i) true l.length := by
 intro k
 induction k with
 | zero => intro i acc h h'; omega
 | succ k ih =>
  intro i acc h h' hz hl
  by_cases hi : i < l.length
  ·
   have hx : l[i]? = some l[i] := List.getElem?_eq_getElem hi
   rw [qQC.l0, qH, decide_eq_true (by omega), cond_true, bo3_T, qCE, Option.bind_some, qCE, Option.bind_some, bo3_F, cond_false, qv, hx, Option.bind_some, ltO, if_pos (by omega), Option.bind_some, Option.bind_some, qtB (by simp only [List.length_cons, List.length_nil]; omega), Option.bind_some, qAB (by omega), ih (i + 1) _ (by omega) (by omega) (by simp only [List.length_append, List.length_cons, List.length_nil]; omega) hl, List.drop_eq_getElem_cons hi]
   simp
  obtain rfl : i = l.length := by omega
  rw [qQC.l0, qH, decide_eq_false (by omega), cond_false, List.drop_eq_nil_of_le (by omega), List.append_nil]
theorem qgP (q : Query) (l : List Row) (r : Row) (hl : (l.length : Int) ≤ 1099511627776) (hb : ∀ x ∈ l, Row_b x) (hr : Row_b r) (hz : qyC r ≤ 1099511627776) : ∀ (k i : Nat), i ≤ l.length → l.length < i + k → ¬ (l.take i).findIdx (aheadB q r) < i →
  qQC.l0 q l r (fun y1 y2 y3 => bif (bo3 y2 false true) then (qUD.f r).bind fun r48 => (some [r48]).bind fun l49 => (appO 32 y1 l49).bind fun l50 => some l50 else some y1) k (l.take i) false i = some (putF q l r) := by
 intro k
 induction k with
 | zero => intro i h h'; omega
 | succ k ih =>
  intro i h h' hn
  by_cases hi : i < l.length
  ·
   have hx : l[i]? = some l[i] := List.getElem?_eq_getElem hi
   have ht : (l.take i).length = i := by rw [List.length_take]; omega
   obtain ⟨f1, f2⟩ := qRP (aheadB q r) l hx hn
   rw [qQC.l0, qH, decide_eq_true (by omega), cond_true, bo3_F, qOC, qv, hx, Option.bind_some, qOC, qeP q r _ hr (hb _ (List.getElem_mem hi)), Option.bind_some, bo3_T, qAB (by omega)]
   cases hp : aheadB q r l[i] with
   | false =>
    rw [cond_false, Option.bind_some, ltO, if_pos (by omega), Option.bind_some, Option.bind_some, qtB (by simp only [ht, List.length_cons, List.length_nil]; omega), Option.bind_some, ← qED hx]
    exact ih (i + 1) (by omega) (by omega) (f2 hp)
   | true =>
    rw [cond_true, qUF _ hz, Option.bind_some, Option.bind_some, qtB (by simp only [ht, List.length_cons, List.length_nil]; omega), Option.bind_some, Option.bind_some, ltO, if_pos (by omega), Option.bind_some, Option.bind_some, qtB (by simp only [List.length_append, ht, List.length_cons, List.length_nil]; omega), Option.bind_some, qfP q l r _ k (i + 1) _ (by omega) (by omega) (by simp only [List.length_append, ht, List.length_cons, List.length_nil]; omega) hl, bo3_T, cond_false]
    unfold putF
    rw [f1 hp, List.drop_eq_getElem_cons hi]
    simp
  rw [List.take_of_length_le (by omega)] at hn ⊢
  have hle := List.findIdx_le_length (xs := l) (p := aheadB q r)
  have e : l.findIdx (aheadB q r) = l.length := by omega
  rw [qQC.l0, qH, decide_eq_false (by omega), cond_false, bo3_F, cond_true, qUF _ hz, Option.bind_some, Option.bind_some, qtB (by simp only [List.length_cons, List.length_nil]; omega), Option.bind_some]
  unfold putF
  rw [e, List.take_length, List.drop_length, List.append_nil]
theorem qVN (q : Query) (l : List Row) (r : Row) (hl : (l.length : Int) ≤ 1099511627776) (hb : ∀ x ∈ l, Row_b x) (hr : Row_b r) (hz : qyC r ≤ 1099511627776) : qQC.f q l r = some (putF q l r) := by
 unfold qQC.f
 simp only [joinK]
 have := qgP q l r hl hb hr hz (((lenI l) - 0).toNat + 1) 0 (by omega) (by rw [qH]; omega) (by omega)
 rw [List.take_zero] at this
 exact this
theorem qeM (q : Query) (hq : qwI q.Where) (rows : List Row) (hl : rows.length ≤ 24) (hr : ∀ r ∈ rows, Row_b r ∧ qyC r ≤ 4) : ∀ (k i : Nat) (acc : List Row), i ≤ rows.length → rows.length < i + k → acc.length ≤ i → (∀ x ∈ acc, Row_b x) → qZC.l0 q rows k acc i = some (rowsFold q (rows.drop i) acc) := by
 intro k
 induction k with
 | zero => intro i acc h h'; omega
 | succ k ih =>
  intro i acc h h' ha hb
  rw [qZC.l0, qH]
  by_cases hi : i < rows.length
  ·
   obtain ⟨b1, z1⟩ := hr _ (List.getElem_mem hi)
   rw [decide_eq_true (by omega), cond_true, qv, List.getElem?_eq_getElem hi, Option.bind_some, qpB (qdM q _ hq b1), List.drop_eq_getElem_cons hi, qAB (by omega)]
   show _ = some (rowsFold q (rows.drop (i + 1)) (if matchesB q rows[i] = true then putF q acc rows[i] else acc))
   cases hm : matchesB q rows[i] with
   | true =>
    rw [cond_true, qpB (qVN q acc _ (by omega) hb b1 (by omega)), if_pos rfl]
    exact ih (i + 1) _ (by omega) (by omega) (by rw [qdS]; omega) fun x hx => by
     rcases qTW hx with rfl | hx
     · exact b1
     exact hb x hx
   | false =>
    rw [cond_false, if_neg (by simp)]
    exact ih (i + 1) _ (by omega) (by omega) (by omega) hb
  rw [decide_eq_false (by omega), cond_false, List.drop_eq_nil_of_le (by omega)]
  rfl
theorem qHI (s : Store) (q : Query) (hs : qmF s) (hq : qpG q) : qZC.f s q = some (rowsForF s q) := by
 unfold qZC.f rowsForF
 rw [qAF _ hs, Option.bind_some, qBF _ _ hs.1 hq]
 cases h1 : storeB s with
 | false => rfl
 | true =>
  cases h2 : queryB s.Schema q with
  | false => rfl
  | true =>
   simp only [bo3_F, bo3_T, qOC, Option.bind_some, cond_false, Bool.true_and, if_true]
   obtain ⟨t1, t2⟩ := qQG h2
   have hl := (qtD h1).1
   have ht : q.Table.toNat < s.Tables.length := by omega
   have hrows := qWI h1 ht
   have hlen := qkG hrows
   rw [show getO s.Tables q.Table = some (tableOf s q.Table) from qIK (by omega), Option.bind_some]
   rw [Int.toNat_of_nonneg t1] at hrows hlen
   have := qeM q hq.1 (tableOf s q.Table) hlen (fun r hr => by
    obtain ⟨i, hi⟩ := List.getElem?_of_mem hr
    have z := qSP (qWH hrows hi)
    exact ⟨by unfold Row_b IntS_b; unfold qyC qhD at z; omega, z⟩) (((lenI (tableOf s q.Table)) - 0).toNat + 1) 0 [] (by omega) (by rw [qH]; omega) (by simp) (by simp)
   exact this
theorem qTK (a b : List ByteArray) (ha : (a.length : Int) ≤ 9223372036854775807) : qKC.f a b = some (decide (a = b)) := by
 unfold qKC.f
 by_cases hl : a.length = b.length
 ·
  rw [decide_eq_false (by simp only [qH]; omega), cond_false]
  refine (qAa (f := qKC.l0 a b) hl (some false) (some true) (fun k i x y hx hy => ?_) (fun k i hi => ?_) _ (by simp only [qH]; omega)).trans ?_
  ·
   have hi := at_lt hx
   rw [qKC.l0, qH, decide_eq_true (by omega), cond_true, qv, hx, Option.bind_some, qv, hy, Option.bind_some, qDI, qAB (by omega)]
   by_cases c : x = y
   · simp [c]
   simp [c]
  · rw [qKC.l0, qH, decide_eq_false (by omega), cond_false]
  cases decide (a = b) <;> rfl
 rw [decide_eq_true (by simp only [qH]; omega), cond_true, decide_eq_false (fun e => hl (by rw [e]))]
theorem qfM : ∀ (k : Nat) (a : Json), dpj a < k → szj a ≤ 9223372036854775807 → qQB.g k a a = some true := by
 intro k
 induction k with
 | zero => intro a h; omega
 | succ k ih =>
  intro a hd hs
  rw [qTT] at hs
  rw [qMM] at hd
  have l0 := qfS a.List_
  have l1 := szL_0 a.List_
  rw [qQB.g, qQB.b, qDI, qTK _ _ (by omega)]
  simp only [ne_eq, not_true_eq_false, decide_false, bo3_F, bo3_T, decide_true, qOC, Option.bind_some, cond_false]
  refine (quC (f := qQB.l0 a a (qQB.g k)) (l := a.List_) (fun _ _ => true) (some false) (some true) (fun k' i x hx => ?_) (fun k' i hi => ?_) _ 0 (by omega) (by rw [qH]; omega)).trans ?_
  ·
   have hi := at_lt hx
   have m1 := qgS (List.mem_of_getElem? hx)
   have m2 := qTP (List.mem_of_getElem? hx)
   rw [qQB.l0, qH, decide_eq_true (by omega), cond_true, qv, hx, Option.bind_some, Option.bind_some, ih x (by omega) (by omega), Option.bind_some, qTC, Bool.not_true, cond_false, qAB (by omega), cond_true]
  · rw [qQB.l0, qH, decide_eq_false (by omega), cond_false]
  rw [qND (q := fun _ => true), List.all_eq_true.2 fun _ _ => rfl]; rfl
theorem qiJ (a : Json) (hd : dpj a < 20) (hs : szj a ≤ 9223372036854775807) : qQB.f a a = some true := qfM 20 a hd hs
theorem qWN (s : Store) (q : Query) (id : Int) (hs : qmF s) (hq : qpG q) : qlC.f s q id = some (kidsOfF s q id) := by
 unfold qlC.f kidsOfF
 rw [qAF _ hs, Option.bind_some, qBF _ _ hs.1 hq]
 cases h1 : storeB s with
 | false => rfl
 | true =>
  cases h2 : queryB s.Schema q with
  | false => rfl
  | true =>
   cases h3 : q.Kids with
   | false => rfl
   | true =>
    simp only [bo3_F, bo3_T, qOC, Option.bind_some, cond_false, Bool.true_and, if_true]
    obtain ⟨hk1, hk2⟩ := qNK h2 h3
    obtain ⟨hl1, hl2⟩ := qtD h1
    have hcol := qPO hl2 hk1
    rw [qNB (by omega)] at hk2
    rw [show getO s.Tables q.KidTable = some (s.Tables.getD q.KidTable.toNat []) from qIK (by omega), Option.bind_some]
    have hat : s.Tables[q.KidTable.toNat]? = some (s.Tables.getD q.KidTable.toNat []) := by
     rw [List.getD_eq_getElem?_getD, List.getElem?_eq_getElem (by omega)]; rfl
    have hrows := qMG h1 hat
    have hlen := qkG hrows
    generalize s.Tables.getD q.KidTable.toNat [] = rows at *
    have key2 : ∀ (k i : Nat) (n : Int), i ≤ rows.length → rows.length < i + k → 0 ≤ n → n ≤ i → qlC.l0 q id rows k n i = some (countC q.KidCol.toNat id (rows.drop i) n) := by
     intro k
     induction k with
     | zero => intro i n h h'; omega
     | succ k ih =>
      intro i n h h' hn hni
      by_cases hi : i < rows.length
      ·
       have hx : rows[i]? = some rows[i] := List.getElem?_eq_getElem hi
       have hc := qEM (qWH hrows hx)
       rw [show ((q.KidTable.toNat : Nat) : Int) = q.KidTable from by omega] at hc
       rw [qlC.l0, qH, decide_eq_true (by omega), cond_true, qv, hx, Option.bind_some, qaE (by omega), Option.bind_some, List.drop_eq_getElem_cons hi, countC, qAB (by omega)]
       by_cases e : (rows[i]).Cells.getD q.KidCol.toNat 0 = id
       ·
        rw [decide_eq_true e, cond_true, if_pos e, qNB (by omega)]
        exact ih (i + 1) (n + 1) (by omega) (by omega) (by omega) (by omega)
       rw [decide_eq_false e, cond_false, if_neg e]
       exact ih (i + 1) n (by omega) (by omega) hn (by omega)
      rw [qlC.l0, qH, decide_eq_false (by omega), cond_false, List.drop_eq_nil_of_le (by omega), countC]
    have := key2 (((lenI rows) - 0).toNat + 1) 0 0 (by omega) (by simp only [qH]; omega) (by omega) (by omega)
    rw [List.drop_zero] at this
    exact this
theorem qhP (a b : Int) : qGH.f a b = some (if a < b then a else b) := by
 unfold qGH.f
 by_cases c : a < b
 · rw [decide_eq_true c, cond_true, if_pos c]
 rw [decide_eq_false c, cond_false, if_neg c]
theorem qDL (q : Query) (n : Nat) : qyE.f q (n : Int) = some (firstF q n : Int) := by
 unfold qyE.f firstF
 by_cases c : q.First = 0
 · rw [decide_eq_true c, cond_true, if_pos c]
 rw [decide_eq_false c, cond_false, if_neg c, qhP, Option.bind_some, qzE, Option.bind_some]
 congr 1
 split <;> split <;> (try split) <;> omega
theorem qNa (J : Json) (n : ByteArray) (x : Json) (K : List Json → List ByteArray → Bool → Option Json) (pl : List NV) (hN : J.Names = pl.map (·.1)) (hL : J.List_ = pl.map fun p => numJ p.2) (hlen : pl.length ≤ 10000000) :
  ∀ (k i : Nat) (L : List Json) (N : List ByteArray), i ≤ pl.length → pl.length < i + k → L.length ≤ i + 1 → N.length ≤ i + 1 →
  qcC.l0 J n x K k L N true i = K (L ++ ((pl.drop i).filter fun p => decide (p.1 ≠ n)).map fun p => numJ p.2) (N ++ ((pl.drop i).filter fun p => decide (p.1 ≠ n)).map (·.1)) true := by
 intro k
 induction k with
 | zero => intro i L N h h'; omega
 | succ k ih =>
  intro i L N h h' h1 h2
  rw [qcC.l0, hN, hL, qH, List.length_map]
  by_cases hi : i < pl.length
  ·
   rw [decide_eq_true (by omega), cond_true, qiB, show bo3 true false true = false from rfl, qCE, Option.bind_some, bo3_F, cond_false, qv, List.getElem?_map, List.getElem?_eq_getElem hi, Option.map_some]
   dsimp only
   rw [Option.bind_some, qDI, List.drop_eq_getElem_cons hi, qAB (by omega)]
   by_cases c : (pl[i]).1 ≠ n
   ·
    rw [decide_eq_true c, cond_true, Option.bind_some, qtB (by simp only [List.length_cons, List.length_nil]; omega), Option.bind_some, qv, List.getElem?_map, List.getElem?_eq_getElem hi, Option.map_some, Option.bind_some, Option.bind_some, qtB (by simp only [List.length_cons, List.length_nil]; omega), Option.bind_some, List.filter_cons_of_pos (by simpa using c), ih (i + 1) _ _ (by omega) (by omega) (by simp only [List.length_append, List.length_cons, List.length_nil]; omega) (by simp only [List.length_append, List.length_cons, List.length_nil]; omega)]
    simp
   rw [decide_eq_false c, cond_false, List.filter_cons_of_neg (by simpa using c), ih (i + 1) _ _ (by omega) (by omega) (by omega) (by omega)]
  rw [decide_eq_false (by omega), cond_false, List.drop_eq_nil_of_le (by omega)]
  simp
theorem qOa {n : ByteArray} {p : NV} {P : List NV} (h : Sn (p :: P)) (hp : nlt p.1 n = false) : (p :: P).filter (fun x => nlt x.1 n) = [] ∧ (p :: P).filter (fun x => nlt n x.1) = (p :: P).filter (fun x => decide (x.1 ≠ n)) := by
 have hP := List.pairwise_cons.1 h
 have hge : ∀ x ∈ p :: P, nlt x.1 n = false := fun x hx => by
  rcases List.mem_cons.1 hx with rfl | hx
  · exact hp
  cases c : nlt x.1 n with
  | false => rfl
  | true => rw [qcJ (hP.1 x hx) c] at hp; cases hp
 refine ⟨List.filter_eq_nil_iff.2 fun x hx => by rw [hge x hx]; simp, List.filter_congr fun x hx => ?_⟩
 by_cases e : x.1 = n
 · rw [e, qPK, decide_eq_false (by simp)]
 rw [qhS e (hge x hx), decide_eq_true e]
theorem qPa (J : Json) (p : NV) (pl : List NV) (hs : Sn pl) (hN : J.Names = pl.map (·.1)) (hL : J.List_ = pl.map fun p => numJ p.2) (hlen : pl.length ≤ 10000000) :
    ∀ (k i : Nat), i ≤ pl.length → pl.length < i + k →
    qcC.l0 J p.1 (numJ p.2) (fun (y1 : List Json) (y2 : List ByteArray) (y3 : Bool) =>
  bif (bo3 y3 false true) then (
  (some [p.1]).bind fun l77 =>
  (appO 16 y2 l77).bind fun l78 =>
  (some [numJ p.2]).bind fun l79 =>
  (appO 80 y1 l79).bind fun l80 =>
  some (Json.mk 5 0 ByteArray.empty l80 l78))
  else (
  some (Json.mk 5 0 ByteArray.empty y1 y2))) k ((pl.take i).map fun p => numJ p.2) ((pl.take i).map (·.1)) false i = some (objJ (pl.take i ++ putP (pl.drop i) p)) := by
  intro k
  induction k with
  | zero => intro i h h'; omega
  | succ k ih =>
    intro i h h'
    rw [qcC.l0, hN, hL, qH, List.length_map]
    have ht : (pl.take i).length = i := by rw [List.length_take]; omega
    by_cases hi : i < pl.length
    · have hx : pl[i]? = some pl[i] := List.getElem?_eq_getElem hi
      have hsd : Sn (pl[i] :: pl.drop (i + 1)) := by rw [← List.drop_eq_getElem_cons hi]; exact List.Pairwise.sublist (List.drop_sublist ..) hs
      rw [decide_eq_true (by omega), cond_true, qiB, show bo3 false false true = true from rfl, qOC, qv, List.getElem?_map, hx, Option.map_some, Option.bind_some, bo3_T, qMZ, List.drop_eq_getElem_cons hi]
      cases c : nlt (pl[i]).1 p.1 with
      | true =>
        have hne : (pl[i]).1 ≠ p.1 := fun e => by rw [e, qPK] at c; cases c
        rw [Bool.not_true, cond_false]
        dsimp only
        rw [Option.bind_some, qDI, decide_eq_true hne, cond_true, Option.bind_some, qtB (by simp only [List.length_map, ht, List.length_cons, List.length_nil]; omega), Option.bind_some, qv, List.getElem?_map, hx, Option.map_some, Option.bind_some, Option.bind_some, qtB (by simp only [List.length_map, ht, List.length_cons, List.length_nil]; omega), Option.bind_some, qAB (by omega)]
        have e1 : ((pl.take i).map fun p => numJ p.2) ++ [numJ (pl[i]).2] = (pl.take (i + 1)).map fun p => numJ p.2 := by rw [qED hx, List.map_append]; rfl
        have e2 : ((pl.take i).map (·.1)) ++ [(pl[i]).1] = (pl.take (i + 1)).map (·.1) := by rw [qED hx, List.map_append]; rfl
        have e3 : putP (pl[i] :: pl.drop (i + 1)) p = pl[i] :: putP (pl.drop (i + 1)) p := by
          unfold putP
          rw [List.filter_cons_of_pos (p := fun x : NV => nlt x.1 p.1) c, List.filter_cons_of_neg (p := fun x : NV => nlt p.1 x.1) (by rw [qbL c]; simp)]; rfl
        rw [e1, e2, ih (i + 1) (by omega) (by omega), e3, qED hx, List.append_assoc]
        rfl
      | false =>
        obtain ⟨f1, f2⟩ := qOa hsd c
        have e3 : putP (pl[i] :: pl.drop (i + 1)) p = p :: ((pl[i] :: pl.drop (i + 1)).filter fun x => decide (x.1 ≠ p.1)) := by
          unfold putP; rw [f1, f2]; rfl
        rw [Bool.not_false, cond_true, Option.bind_some, qtB (by simp only [List.length_map, ht, List.length_cons, List.length_nil]; omega), Option.bind_some, Option.bind_some, qtB (by simp only [List.length_map, ht, List.length_cons, List.length_nil]; omega), Option.bind_some]
        dsimp only
        rw [Option.bind_some, qDI, qAB (by omega), e3]
        have A := qNa J p.1 (numJ p.2) (fun (y1 : List Json) (y2 : List ByteArray) (y3 : Bool) =>
  bif (bo3 y3 false true) then (
  (some [p.1]).bind fun l77 =>
  (appO 16 y2 l77).bind fun l78 =>
  (some [numJ p.2]).bind fun l79 =>
  (appO 80 y1 l79).bind fun l80 =>
  some (Json.mk 5 0 ByteArray.empty l80 l78))
  else (
  some (Json.mk 5 0 ByteArray.empty y1 y2))) pl hN hL hlen k (i + 1)
        by_cases e : (pl[i]).1 ≠ p.1
        · rw [decide_eq_true e, cond_true, Option.bind_some, qtB (by simp only [List.length_append, List.length_map, ht, List.length_cons, List.length_nil]; omega), Option.bind_some, qv, List.getElem?_map, hx, Option.map_some, Option.bind_some, Option.bind_some, qtB (by simp only [List.length_append, List.length_map, ht, List.length_cons, List.length_nil]; omega), Option.bind_some, A _ _ (by omega) (by omega) (by simp only [List.length_append, List.length_map, ht, List.length_cons, List.length_nil]; omega) (by simp only [List.length_append, List.length_map, ht, List.length_cons, List.length_nil]; omega), show bo3 true false true = false from rfl, cond_false, List.filter_cons_of_pos (by simpa using e)]
          simp [objJ]
        · rw [decide_eq_false e, cond_false, A _ _ (by omega) (by omega) (by simp only [List.length_append, List.length_map, ht, List.length_cons, List.length_nil]; omega) (by simp only [List.length_append, List.length_map, ht, List.length_cons, List.length_nil]; omega), show bo3 true false true = false from rfl, cond_false, List.filter_cons_of_neg (by simpa using e)]
          simp [objJ]
    · have : i = pl.length := by omega
      subst this
      rw [decide_eq_false (by omega), cond_false, show bo3 false false true = true from rfl, cond_true, Option.bind_some, qtB (by simp only [List.length_map, ht, List.length_cons, List.length_nil]; omega), Option.bind_some, Option.bind_some, qtB (by simp only [List.length_map, ht, List.length_cons, List.length_nil]; omega), Option.bind_some, List.drop_length]
      simp [objJ, putP]
theorem qbH (J : Json) (p : NV) (pl : List NV) (hs : Sn pl) (hN : J.Names = pl.map (·.1)) (hL : J.List_ = pl.map fun p => numJ p.2) (hlen : pl.length ≤ 10000000) : qcC.f J p.1 (numJ p.2) = some (objJ (putP pl p)) := by
 unfold qcC.f
 rw [qiB]
 exact qPa J p pl hs hN hL hlen (((lenI J.Names) - 0).toNat + 1) 0 (by omega) (by rw [hN, qH, List.length_map]; omega)
theorem qjS (K : Bool → ByteArray → Option ByteArray) (b : Bool) : ∀ (k u : Nat) (neg : Bool) (l : List UInt8), u < 10 ^ k → u ≤ 9223372036854775808 → l.length + k ≤ 1000 → qCC.l0 K (k + 1) (if neg = true then -(u : Int) else u) b (bl l) = K b (bl (digs u ++ l)) := by
 intro k
 induction k with
 | zero =>
  intro u neg l h _ _
  have : u = 0 := by simpa using h
  subst this
  rw [qCC.l0]
  cases neg <;> simp [digs]
 | succ k ih =>
  intro u neg l h hu hl
  rw [qCC.l0]
  by_cases h0 : u = 0
  ·
   subst h0
   cases neg <;> simp [digs]
  have hz : (if neg = true then -(u : Int) else u) ≠ 0 := by cases neg <;> simp <;> omega
  have hd : u / 10 < 10 ^ k := by rw [Nat.pow_succ] at h; omega
  have hdiv : w64 (Int.tdiv (if neg = true then -(u : Int) else u) 10) = (if neg = true then -((u / 10 : Nat) : Int) else ((u / 10 : Nat) : Int)) := by
   cases neg with
   | true => simp only [if_true]; rw [Int.neg_tdiv, Int.tdiv_eq_ediv_of_nonneg (by omega), qNB (by omega)]; omega
   | false => simp only [if_false, Bool.false_eq_true]; rw [Int.tdiv_eq_ediv_of_nonneg (by omega), qNB (by omega)]; omega
  have hm : Int.tmod (if neg = true then -(u : Int) else u) 10 = (if neg = true then -((u % 10 : Nat) : Int) else ((u % 10 : Nat) : Int)) := by
   cases neg with
   | true => simp only [if_true]; rw [Int.neg_tmod, Int.tmod_eq_emod_of_nonneg (by omega)]; omega
   | false => simp only [if_false, Bool.false_eq_true]; rw [Int.tmod_eq_emod_of_nonneg (by omega)]; omega
  rw [decide_eq_true hz, cond_true, hdiv, hm, qiF (by omega)]
  have hsm : smO (bl [UInt8.ofNat (48 + u % 10)]) (bl l) = some () := qXW (by rw [qOK, qOK]; simp only [List.length_cons, List.length_nil]; omega)
  have fin : qCC.l0 K (k + 1) (if neg = true then -((u / 10 : Nat) : Int) else ((u / 10 : Nat) : Int)) b (Ls.sa (bl [UInt8.ofNat (48 + u % 10)]) (bl l)) = K b (bl (digs (u / 10) ++ [UInt8.ofNat (48 + u % 10)] ++ l)) := by
   rw [bl_sa, ih (u / 10) neg _ hd (by omega) (by simp only [List.length_append, List.length_cons, List.length_nil]; omega)]
   simp
  by_cases hneg : (if neg = true then -((u % 10 : Nat) : Int) else ((u % 10 : Nat) : Int)) < 0
  ·
   have hn : neg = true := by cases neg <;> simp_all <;> omega
   subst hn
   simp only [if_true] at hneg fin ⊢
   rw [decide_eq_true hneg, cond_true, qNB (x := 0 - -((u % 10 : Nat) : Int)) (by omega), qNB (by omega), show (48 : Int) + (0 - -((u % 10 : Nat) : Int)) = ((48 + u % 10 : Nat) : Int) by omega, wrap8 (by omega), Option.bind_some, qWW _ (by omega), Option.bind_some, hsm, Option.bind_some, fin]
  have hv : (if neg = true then -((u % 10 : Nat) : Int) else ((u % 10 : Nat) : Int)) = ((u % 10 : Nat) : Int) := by cases neg <;> simp at hneg ⊢ <;> omega
  rw [decide_eq_false hneg, cond_false, hv, qNB (by omega), show (48 : Int) + ((u % 10 : Nat) : Int) = ((48 + u % 10 : Nat) : Int) by omega, wrap8 (by omega), Option.bind_some, qWW _ (by omega), Option.bind_some, hsm, Option.bind_some, fin]
theorem qEL (n : Int) (h : -9223372036854775808 ≤ n ∧ n ≤ 9223372036854775807) : qCC.f n = some (bl (Lib.itoa n)) := by
 unfold qCC.f
 by_cases h0 : n = 0
 ·
  subst h0
  rw [decide_eq_true rfl, cond_true, show Lib.itoa 0 = [48] by rw [Lib.itoa, if_neg (by omega), Lib.decDigits, dif_pos (by decide)]; rfl]
  rfl
 rw [decide_eq_false h0, cond_false, qiB]
 have key := qjS (fun (y2 : Bool) (y3 : ByteArray) =>
  bif y2 then (
  (smO (ByteArray.mk #[45]) y3).bind fun u20 =>
  some (Ls.sa (ByteArray.mk #[45]) y3))
  else (
  some y3)) (decide (n < 0)) 29 n.natAbs (decide (n < 0)) [] (by omega) (by omega) (by simp)
 have hn : (if decide (n < 0) = true then -((n.natAbs : Nat) : Int) else (n.natAbs : Nat)) = n := by
  by_cases c : n < 0
  · rw [if_pos (by simpa using c)]; omega
  rw [if_neg (by simpa using c)]; omega
 rw [hn] at key
 have hlen := qbJ 29 n.natAbs (by omega)
 refine key.trans ?_
 rw [List.append_nil]
 have hdg : digs n.natAbs = Lib.decDigits n.natAbs := by unfold digs; rw [if_neg (by omega)]
 by_cases c : n < 0
 ·
  rw [decide_eq_true c, cond_true, show ByteArray.mk #[45] = bl [45] from rfl, qXW (by rw [qOK, qOK]; simp only [List.length_cons, List.length_nil]; omega), Option.bind_some, bl_sa, hdg]
  simp [Lib.itoa, c]
 rw [decide_eq_false c, cond_false, hdg]
 simp [Lib.itoa, c]
 try congr 2; omega
theorem qhW (q : Query) (r : Row) (hr : Row_b r) (hc : In64 q.Show) (hl : q.Show.length ≤ 2097152) (K : Int → Int → ByteArray → List Json → List ByteArray → Option Json) : ∀ (k i : Nat), i ≤ q.Show.length → q.Show.length < i + k →
  qGD.l0 q r K k 5 0 ByteArray.empty ((foldP ((q.Show.take i).map (colP r))).map fun p => numJ p.2) ((foldP ((q.Show.take i).map (colP r))).map (·.1)) i = K 5 0 ByteArray.empty ((foldP (q.Show.map (colP r))).map fun p => numJ p.2) ((foldP (q.Show.map (colP r))).map (·.1)) := by
 intro k
 induction k with
 | zero => intro i h h'; omega
 | succ k ih =>
  intro i h h'
  rw [qGD.l0, qH]
  by_cases hi : i < q.Show.length
  ·
   have hx : q.Show[i]? = some q.Show[i] := List.getElem?_eq_getElem hi
   have h64 := hc _ (List.getElem_mem hi)
   have hlen := qIH ((q.Show.take i).map (colP r))
   rw [List.length_map, List.length_take] at hlen
   rw [decide_eq_true (by omega), cond_true, qv, hx, Option.bind_some, qEL _ h64, Option.bind_some, put_c _ h64, Option.bind_some, qrG r _ hr, Option.bind_some]
   unfold qgD.f
   rw [Option.bind_some, qAB (by omega)]
   have := qbH (Json.mk 5 0 ByteArray.empty ((foldP ((q.Show.take i).map (colP r))).map fun p => numJ p.2) ((foldP ((q.Show.take i).map (colP r))).map (·.1))) (colP r q.Show[i]) _ (qaH _) rfl rfl (by omega)
   refine (congrArg (fun o => Option.bind o _) this).trans ?_
   rw [Option.bind_some]
   have e : putP (foldP ((q.Show.take i).map (colP r))) (colP r q.Show[i]) = foldP ((q.Show.take (i + 1)).map (colP r)) := by
    rw [qED hx, List.map_append, ← qHH]; rfl
   rw [e]
   exact ih (i + 1) (by omega) (by omega)
  have : i = q.Show.length := by omega
  subst this
  rw [decide_eq_false (by omega), cond_false, List.take_length]
theorem qXN (q : Query) (r : Row) (n : Int) (hr : Row_b r) (hc : In64 q.Show) (hl : q.Show.length ≤ 2097152) : qGD.f q r n = some (rowObj q r n) := by
 unfold qGD.f rowObj
 rw [qiB]
 have hlen := qIH (q.Show.map (colP r))
 rw [List.length_map] at hlen
 refine (qhW q r hr hc hl _ (((lenI q.Show) - 0).toNat + 1) 0 (by omega) (by rw [qH]; omega)).trans ?_
 unfold qgD.f
 rw [Option.bind_some]
 have h1 := qbH (Json.mk 5 0 ByteArray.empty ((foldP (q.Show.map (colP r))).map fun p => numJ p.2) ((foldP (q.Show.map (colP r))).map (·.1))) (idP r) _ (qaH _) rfl rfl (by omega)
 refine (congrArg (fun o => Option.bind o _) h1).trans ?_
 rw [Option.bind_some, ← qHH]
 cases hk : q.Kids with
 | false =>
  rw [cond_false]
  simp [kidsL, hk]
 | true =>
  rw [cond_true, Option.bind_some]
  have hlen2 := qIH (q.Show.map (colP r) ++ [idP r])
  rw [List.length_append, List.length_map, List.length_singleton] at hlen2
  have h2 := qbH (objJ (foldP (q.Show.map (colP r) ++ [idP r]))) (kidsP n) _ (qaH _) rfl rfl (by omega)
  refine (congrArg (fun o => Option.bind o _) h2).trans ?_
  rw [Option.bind_some, ← qHH]
  simp [kidsL, hk]
theorem qYN (s : ByteArray) (hs : (s.data.toList.length : Int) ≤ 4611686018427387904) : ∀ (k i : Nat), i ≤ s.data.toList.length → s.data.toList.length < i + k → qtC.l0 s k i = some (((s.data.toList.drop i).all fun b => decide (32 ≤ b.toNat ∧ b.toNat ≤ 126)) && decide (s.size ≤ 60)) := by
 intro k
 induction k with
 | zero => intro i h h'; omega
 | succ k ih =>
  intro i h h'
  rw [qtC.l0, qUT]
  by_cases hi : i < s.data.toList.length
  ·
   have hx := List.getElem?_eq_getElem hi
   have hb : (s.data.toList[i]).toNat < 256 := UInt8.toNat_lt _
   rw [decide_eq_true (by omega), cond_true, qKZ hi, Option.bind_some, gd_of, Option.bind_some, sx_at hx, List.drop_eq_getElem_cons hi, List.all_cons, qAB (by omega), ih (i + 1) (by omega) (by omega), qyQ]
   by_cases c : 32 ≤ (s.data.toList[i]).toNat ∧ (s.data.toList[i]).toNat ≤ 126
   · rw [decide_eq_false (by omega), decide_eq_false (by omega), decide_eq_true c]; simp
   rw [decide_eq_false c]
   have : (decide (((s.data.toList[i]).toNat : Int) < 32) || decide (126 < ((s.data.toList[i]).toNat : Int))) = true := by
    generalize (s.data.toList[i]).toNat = b at c
    rw [Bool.or_eq_true, decide_eq_true_eq, decide_eq_true_eq]; omega
   rw [this]; simp
  rw [decide_eq_false (by omega), cond_false, List.drop_eq_nil_of_le (by omega), qaJ]
  simp
  omega
theorem qlI (s : ByteArray) (hs : (s.size : Int) ≤ 4611686018427387904) : qtC.f s = some (txtB s) := by
 unfold qtC.f txtB
 rw [qaJ] at hs
 rw [qUT]
 exact qYN s hs _ 0 (by omega) (by omega)
theorem qgM (j : Json) (hl : (j.Names.length : Int) ≤ 4611686018427387904) (hs : ∀ x ∈ j.Names, (x.size : Int) ≤ 4611686018427387904) : qfC.f j = some (if j.Kind = 5 then namesB j.Names && decide (j.Names.length = j.List_.length) else decide (j.Names.length = 0)) := by
 unfold qfC.f namesB
 by_cases h5 : j.Kind = 5
 ·
  rw [decide_eq_false (by simp [h5]), cond_false, if_pos h5]
  refine (quC (f := qfC.l0 j) (l := j.Names) (fun i x => txtB x && !(decide (0 < i) && Ls.sc .geq (j.Names.getD (i - 1) default) x)) (some false) (some (decide (j.Names.length = j.List_.length))) (fun k i x hx => ?_) (fun k i hi => ?_) _ 0 (by omega) (by rw [qH]; omega)).trans ?_
  ·
   have hi := at_lt hx
   rw [qfC.l0, qH, decide_eq_true (by omega), cond_true, qv, hx, Option.bind_some, qlI x (hs x (List.mem_of_getElem? hx)), Option.bind_some, qSO _ i x _ hx hl, Option.bind_some, qAB (by omega)]
   cases txtB x with
   | false => rfl
   | true =>
    by_cases c : 0 < i
    ·
     have c' : 0 < (i : Int) := by omega
     rw [decide_eq_true c, decide_eq_true c']
     cases hg : Ls.sc .geq (j.Names.getD (i - 1) default) x <;> simp [bo3, hg] <;> simp_all
    have c' : ¬ 0 < (i : Int) := by omega
    rw [decide_eq_false c, decide_eq_false c']
    simp [bo3]
  ·
   rw [qfC.l0, qH, decide_eq_false (by omega), cond_false, qH]
   congr 1
   rw [decide_eq_decide]; omega
  cases allFrom (fun i x => txtB x && !(decide (0 < i) && Ls.sc .geq (j.Names.getD (i - 1) default) x)) j.Names 0 <;> rfl
 rw [decide_eq_true h5, cond_true, if_neg h5, qH]
 congr 1
 rw [decide_eq_decide]; omega
def GrOk (v s : Int) (B : Int) : Prop := 1 ≤ v ∧ v ≤ B ∧ ((s ≤ 400 → v = s) ∧ (400 < s → 400 < v))
theorem qhM (j : Json) (d : Int) (self : Json → Int → Option Int) (f : Json → Int) (B : Int) (hB : B ≤ 1000000) (K : Int → Option Int) (hf : ∀ x, 1 ≤ f x ∧ f x ≤ 401) (hl : (j.List_.length : Int) ≤ 4611686018427387904) (hs : ∀ x ∈ j.List_, ∃ v, self x (w64 (d - 1)) = some v ∧ GrOk v (f x) B) :
  ∀ (k i : Nat) (n s : Int), i ≤ j.List_.length → j.List_.length < i + k → s ≤ 401 → 1 ≤ s → GrOk n s (400 + B) → (400 < n → s = 401) → ∃ v, qSB.l0 j d self K k n i = K v ∧ GrOk v (if 400 < n then 401 else capL f s (j.List_.drop i)) (400 + B) := by
 intro k
 induction k with
 | zero => intro i n s h h'; omega
 | succ k ih =>
  intro i n s h h' hs1 hs0 hn hnn
  obtain ⟨g1, g2, g3, g4⟩ := hn
  rw [qSB.l0, qH]
  by_cases hi : i < j.List_.length
  ·
   by_cases c : n ≤ 400
   ·
    obtain ⟨v, e1, v1, v2, v3, v4⟩ := hs _ (List.getElem_mem hi)
    have hfx := hf j.List_[i]
    have hns : n = s := by
     by_cases c2 : s ≤ 400
     · exact g3 c2
     have := g4 (by omega); omega
    rw [decide_eq_true (by omega), decide_eq_true c, show bo3 true true false = true from rfl, cond_true, qv, List.getElem?_eq_getElem hi, Option.bind_some, e1, Option.bind_some, qNB (by omega), qAB (by omega), List.drop_eq_getElem_cons hi, if_neg (by omega), capL]
    by_cases cc : 400 < s + f j.List_[i]
    ·
     rw [if_pos cc]
     have hv : 400 < n + v := by
      by_cases c3 : f j.List_[i] ≤ 400
      · have := v3 c3; omega
      have := v4 (by omega); omega
     obtain ⟨w, w1, w2⟩ := ih (i + 1) (n + v) 401 (by omega) (by omega) (by omega) (by omega) ⟨by omega, by omega, fun h => by omega, fun _ => hv⟩ (fun _ => rfl)
     rw [if_pos hv] at w2
     exact ⟨w, w1, w2⟩
    rw [if_neg cc]
    have hv : v = f j.List_[i] := v3 (by omega)
    obtain ⟨w, w1, w2⟩ := ih (i + 1) (n + v) (s + f j.List_[i]) (by omega) (by omega) (by omega) (by omega) ⟨by omega, by omega, fun h => by omega, fun h => by omega⟩ (fun h => by omega)
    rw [if_neg (by omega)] at w2
    exact ⟨w, w1, w2⟩
   rw [decide_eq_false c, qAE, Bool.and_false, cond_false, if_pos (by omega)]
   exact ⟨n, rfl, g1, g2, fun h => by omega, fun _ => by omega⟩
  rw [decide_eq_false (by omega), bo3_F, cond_false, List.drop_eq_nil_of_le (by omega), capL]
  refine ⟨n, rfl, ?_⟩
  by_cases c : 400 < n
  · rw [if_pos c]; exact ⟨g1, g2, fun h => by omega, fun _ => c⟩
  rw [if_neg c]; exact ⟨g1, g2, g3, g4⟩
theorem qZN : ∀ (k d : Nat) (j : Json), d < k → d ≤ 1000 → Jw j → ∃ v, qSB.g k j d = some v ∧ GrOk v (sizeF d j) (401 + 401 * d) := by
 intro k
 induction k with
 | zero => intro d j h; omega
 | succ k ih =>
  intro d j h hd hj
  obtain ⟨h1, h2, h3, h4, h5⟩ := (Jw_eq j).1 hj
  rw [qSB.g, qSB.b]
  cases d with
  | zero =>
   rw [decide_eq_true (by omega), cond_true, sizeF]
   exact ⟨401, rfl, by omega, by omega, fun h => by omega, fun h => by omega⟩
  | succ d =>
   have hbad : GrOk 401 401 (401 + 401 * ((d + 1 : Nat) : Int)) := ⟨by omega, by omega, fun h => by omega, fun h => by omega⟩
   rw [decide_eq_false (by omega), cond_false, qiB, qgM j h3 h2, qDI, qH, qlI _ h1, qcB, qcB]
   have e1 : decide (0 < (j.List_.length : Int)) = decide (0 < j.List_.length) := decide_eq_decide.2 (by omega)
   rw [e1]
   generalize hK : (fun (y2 : Int) =>
 (gd (bo3 (bo3 (bo3 (bo3 (decide (j.Kind ≠ 3)) (decide (j.S ≠ ByteArray.mk #[])) false) true (bo3 (bo3 (decide (j.Kind = 3)) true (decide (4 ≤ j.Kind))) (decide (j.N ≠ 0)) false)) true (bo3 (decide (j.Kind < 4)) (decide (0 < j.List_.length)) false)) false true) (some (if j.Kind = 5 then namesB j.Names && decide (j.Names.length = j.List_.length) else decide (j.Names.length = 0)))).bind fun r37 =>
 bif (bo3 (bo3 (bo3 (bo3 (decide (j.Kind ≠ 3)) (decide (j.S ≠ ByteArray.mk #[])) false) true (bo3 (bo3 (decide (j.Kind = 3)) true (decide (4 ≤ j.Kind))) (decide (j.N ≠ 0)) false)) true (bo3 (decide (j.Kind < 4)) (decide (0 < j.List_.length)) false)) true (bo3 r37 false true)) then (
 some (401 : Int))
 else (
 some y2)) = K
   have hKv : ∀ n : Int, K n = some (if k3B j = true then 401 else n) := by
    intro n
    rw [← hK]
    dsimp only
    unfold k3B
    simp only [qAE, qyQ, qTC]
    generalize ((decide (j.Kind ≠ 3) && decide (j.S ≠ ByteArray.mk #[])) || ((decide (j.Kind = 3) || decide (4 ≤ j.Kind)) && decide (j.N ≠ 0)) || (decide (j.Kind < 4) && decide (0 < j.List_.length))) = b1
    generalize (if j.Kind = 5 then namesB j.Names && decide (j.Names.length = j.List_.length) else decide (j.Names.length = 0)) = b2
    cases b1 <;> cases b2 <;> rfl
   clear hK
   have hl0 : ¬ 4 ≤ j.Kind → k3B j = false → capL (sizeF d) 1 j.List_ = 1 := fun hk h => by
    unfold k3B at h
    have : j.List_.length = 0 := by
     simp only [Bool.or_eq_false_iff, Bool.and_eq_false_iff, decide_eq_false_iff_not] at h
     omega
    rw [List.length_eq_zero_iff.1 this, capL]
   have flat : ¬ 4 ≤ j.Kind → ∀ b : Bool, preB j = b → ∃ v, (bif (!b) then some 401 else K 1) = some v ∧ GrOk v (if ownB j = true then capL (sizeF d) 1 j.List_ else 401) (401 + 401 * ((d + 1 : Nat) : Int)) := by
    intro hk b hb
    rw [qVT, hb, hKv]
    cases b with
    | false => exact ⟨401, rfl, by simpa using hbad⟩
    | true =>
     cases h3 : k3B j with
     | true => exact ⟨401, rfl, by simpa using hbad⟩
     | false =>
      refine ⟨1, rfl, ?_⟩
      rw [if_pos (by rfl), hl0 hk h3]
      exact ⟨by omega, by omega, fun _ => rfl, fun h => by omega⟩
   have deep : 4 ≤ j.Kind → preB j = true → ∃ v, qSB.l0 j ((d + 1 : Nat) : Int) (qSB.g k) K (((lenI j.List_) - 0).toNat + 1) 1 0 = some v ∧ GrOk v (if ownB j = true then capL (sizeF d) 1 j.List_ else 401) (401 + 401 * ((d + 1 : Nat) : Int)) := by
    intro hk hb
    obtain ⟨v, e, hv⟩ := qhM j ((d + 1 : Nat) : Int) (qSB.g k) (sizeF d) (401 + 401 * d) (by omega) K (qiD d) h4 (fun x hx => by
     rw [qNB (by omega), show ((d + 1 : Nat) : Int) - 1 = (d : Int) by omega]
     exact ih d x (by omega) (by omega) (h5 x hx)) (((lenI j.List_) - 0).toNat + 1) 0 1 1 (by omega) (by rw [qH]; omega) (by omega) (by omega) ⟨by omega, by omega, fun _ => rfl, fun h => by omega⟩ (fun h => by omega)
    rw [if_neg (by omega), List.drop_zero] at hv
    obtain ⟨v1, v2, v3, v4⟩ := hv
    rw [qVT, hb, Bool.true_and]
    refine ⟨_, e.trans (hKv v), ?_⟩
    cases h3 : k3B j with
    | true => rw [if_pos rfl, if_neg (by simp)]; exact hbad
    | false => rw [if_neg (by simp), if_pos (by rfl)]; exact ⟨v1, by omega, v3, v4⟩
   rw [sizeF]
   by_cases k0 : j.Kind = 0
   ·
    rw [decide_eq_true k0, cond_true]
    have := flat (by omega) (decide (j.N = 0)) (by unfold preB; rw [if_pos k0])
    by_cases n0 : j.N = 0
    · rw [decide_eq_false (by simp [n0]), cond_false]; rw [decide_eq_true n0] at this; exact this
    rw [decide_eq_true n0, cond_true]; rw [decide_eq_false n0] at this; exact this
   rw [decide_eq_false k0, cond_false]
   by_cases k1 : j.Kind = 1
   ·
    rw [decide_eq_true k1, cond_true, Option.bind_some, qTC]
    exact flat (by omega) _ (by unfold preB; rw [if_neg k0, if_pos k1])
   rw [decide_eq_false k1, cond_false]
   by_cases k2 : j.Kind = 2
   ·
    rw [decide_eq_true k2, cond_true, Option.bind_some, qTC]
    exact flat (by omega) _ (by unfold preB; rw [if_neg k0, if_neg k1, if_pos k2])
   rw [decide_eq_false k2, cond_false]
   by_cases k3 : j.Kind = 3
   ·
    rw [decide_eq_true k3, cond_true, Option.bind_some, qTC]
    exact flat (by omega) _ (by unfold preB; rw [if_neg k0, if_neg k1, if_neg k2, if_pos k3])
   rw [decide_eq_false k3, cond_false, qiB]
   by_cases k4 : j.Kind = 4
   ·
    rw [decide_eq_true k4, cond_true]
    exact deep (by omega) (by unfold preB; rw [if_neg k0, if_neg k1, if_neg k2, if_neg k3, decide_eq_true k4]; rfl)
   rw [decide_eq_false k4, cond_false]
   by_cases k5 : j.Kind = 5
   ·
    rw [decide_eq_true k5]
    exact deep (by omega) (by unfold preB; rw [if_neg k0, if_neg k1, if_neg k2, if_neg k3, decide_eq_true k5]; simp)
   rw [decide_eq_false k5]
   have hp : preB j = false := by unfold preB; rw [if_neg k0, if_neg k1, if_neg k2, if_neg k3, decide_eq_false k4, decide_eq_false k5]; rfl
   rw [qVT, hp, Bool.false_and, if_neg (by simp)]
   exact ⟨401, rfl, hbad⟩
theorem qaN (j : Json) (h : Jw j) : qJG.f j = some (jsonB j) := by
 unfold qJG.f qSB.f jsonB
 obtain ⟨v, e, v1, v2, v3, v4⟩ := qZN 20 6 j (by omega) (by omega) h
 rw [show (6 : Int) = ((6 : Nat) : Int) from rfl, e, Option.bind_some]
 by_cases c : sizeF 6 j ≤ 400
 · rw [v3 c, decide_eq_true c]
 rw [decide_eq_false c, decide_eq_false (by have := v4 (by omega); omega)]
theorem qjJ (j : Json) (h : Jw j) : qqD.f j = some (orJ j) := by
 unfold qqD.f orJ
 rw [qaN j h, Option.bind_some, qTC]
 cases jsonB j <;> rfl
theorem qiP (q : Query) (kids : List Int) (rows : List Row) (hc : In64 q.Show) (hl : q.Show.length ≤ 2097152) (hr : ∀ r ∈ rows, Row_b r) (hn : rows.length ≤ 2097152) (hk : (kids.length : Int) ≤ 9223372036854775807) (K : List Json → Option Json) : ∀ (k i : Nat), i ≤ firstF q rows.length → firstF q rows.length < i + k →
  qCD.l0 q rows kids K k (docsF q kids (rows.take i) 0) i = K (docsF q kids (rows.take (firstF q rows.length)) 0) := by
 intro k
 have hf := qJH q rows.length
 induction k with
 | zero => intro i h h'; omega
 | succ k ih =>
  intro i h h'
  rw [qCD.l0, qH, qDL, Option.bind_some]
  by_cases hi : i < firstF q rows.length
  ·
   have hi2 : i < rows.length := by omega
   have hx : rows[i]? = some rows[i] := List.getElem?_eq_getElem hi2
   have ht : (rows.take i).length = i := by rw [List.length_take]; omega
   rw [decide_eq_true (by omega), cond_true, qiB, qPZ kids i hk, qv, hx, Option.bind_some, qXN q _ _ (hr _ (List.getElem_mem hi2)) hc hl, Option.bind_some, Option.bind_some, qtB (by simp only [qRG, ht, List.length_cons, List.length_nil]; omega), Option.bind_some, qAB (by omega), ← ih (i + 1) (by omega) (by omega), qED hx, qSK, ht, Nat.zero_add]
  have : i = firstF q rows.length := by omega
  subst this
  rw [decide_eq_false (by omega), cond_false]
theorem qjP (q : Query) (rows : List Row) (kids : List Int) (hc : In64 q.Show) (hl : q.Show.length ≤ 2097152) (hr : ∀ r ∈ rows, Row_b r) (hn : rows.length ≤ 2097152) (hk : (kids.length : Int) ≤ 9223372036854775807) : qCD.f q rows kids = some (docOfF q rows kids) := by
 unfold qCD.f docOfF
 have hf := qJH q rows.length
 rw [qiB]
 refine (qiP q kids rows hc hl hr hn hk _ ((lenI rows).toNat + 1) 0 (by omega) (by rw [qH]; omega)).trans ?_
 unfold qgD.f
 rw [Option.bind_some, Option.bind_some, Option.bind_some, qH]
 have := qjJ (docObj q rows kids) (qXP hc hl hn)
 refine (congrArg (fun o => Option.bind o _) this).trans ?_
 rfl
theorem qSR (s : Store) (q : Query) (hs : qmF s) (hq : qpG q) (hc : In64 q.Show) (hl : q.Show.length ≤ 2097152) : qrD.f s q = some (evalF s q) := by
 unfold qrD.f evalF
 rw [qAF _ hs, Option.bind_some, qBF _ _ hs.1 hq]
 cases h1 : storeB s with
 | false => rfl
 | true =>
  cases h2 : queryB s.Schema q with
  | false => rfl
  | true =>
   simp only [qTC, Bool.not_true, Bool.not_false, bo3_F, bo3_T, qOC, Option.bind_some, cond_false, Bool.true_and, if_true]
   obtain ⟨g1, _, g3⟩ := qtF s q
   rw [qHI s q hs hq, Option.bind_some, qiB]
   generalize rowsForF s q = R at *
   have hD := qjP q R (R.map fun r => kidsOfF s q r.Id) hc hl g3 (by omega) (by rw [List.length_map]; omega)
   have e := qaP (f := qrD.l0 s q R (fun y => (qCD.f q R y).bind fun r => some r)) (l := R) (fun r => kidsOfF s q r.Id) (fun y => (qCD.f q R y).bind fun r => some r) (fun k i acc x hx ha => ?_) (fun k i acc hi => ?_) (((lenI R) - 0).toNat + 1) 0 [] (by omega) (by rw [qH]; omega) (by simp)
   ·
    rw [List.drop_zero, List.nil_append, hD] at e
    exact e
   ·
    have hi := at_lt hx
    rw [qrD.l0, qH, decide_eq_true (by omega), cond_true, qv, hx, Option.bind_some, qWN s q _ hs hq, Option.bind_some, Option.bind_some, qtB (by simp only [List.length_cons, List.length_nil]; omega), Option.bind_some, qAB (by omega)]
   rw [qrD.l0, qH, decide_eq_false (by omega), cond_false]
theorem qUK (l : List ByteArray) (h : (l.length : Int) ≤ 1000000000) : qYE.f l = some l := by
 unfold qYE.f
 rw [qtB (by simp only [List.length_nil]; omega)]
 rfl
theorem qiM : ∀ (k : Nat) (a : Json), dpj a < k → szj a ≤ 1000000000 → qRB.g k a = some a := by
 intro k
 induction k with
 | zero => intro a h; omega
 | succ k ih =>
  intro a hd hs
  rw [qTT] at hs
  rw [qMM] at hd
  have l0 := qfS a.List_
  have l1 := szL_0 a.List_
  rw [qRB.g, qRB.b, qUK _ (by omega), Option.bind_some]
  have key : ∀ (n i : Nat), i ≤ a.List_.length → a.List_.length < i + n → qRB.l0 a a.Names (qRB.g k) n (a.List_.take i) i = some a := by
   intro n
   induction n with
   | zero => intro i h h'; omega
   | succ n ihn =>
    intro i h h'
    rw [qRB.l0, qH]
    by_cases hi : i < a.List_.length
    ·
     have hx : a.List_[i]? = some a.List_[i] := List.getElem?_eq_getElem hi
     have m1 := qgS (List.getElem_mem hi)
     have m2 := qTP (List.getElem_mem hi)
     rw [decide_eq_true (by omega), cond_true, qv, hx, Option.bind_some, ih _ (by omega) (by omega), Option.bind_some, Option.bind_some, qtB (by simp only [List.length_take, List.length_cons, List.length_nil]; omega), Option.bind_some, qAB (by omega), ← qED hx]
     exact ihn (i + 1) (by omega) (by omega)
    rw [decide_eq_false (by omega), cond_false, List.take_of_length_le (by omega)]
    cases a; rfl
  have := key (((lenI a.List_) - 0).toNat + 1) 0 (by omega) (by rw [qH]; omega)
  rw [List.take_zero] at this
  exact this
theorem qnH (a : Json) (hd : dpj a < 20) (hs : szj a ≤ 1000000000) : qRB.f a = some a := qiM 20 a hd hs
theorem orJ_d (j : Json) : dpj (orJ j) ≤ 6 ∧ szj (orJ j) ≤ 1000 := by
 unfold orJ
 split
 ·
  rename_i h
  unfold jsonB at h
  rw [decide_eq_true_eq] at h
  obtain ⟨h1, h2⟩ := qPM 6 j h
  omega
 simp [nullJ, dpj, dpL, szj, szL]
theorem qTR (q : Query) (kids : List Int) : ∀ (l : List Row) (j i : Nat), (docsF q kids l j)[i]? = l[i]?.map fun r => rowObj q r (kids.getD (j + i) 0)
 | [], _, _ => by simp [docsF]
 | r :: l, j, 0 => by simp [docsF]
 | r :: l, j, i + 1 => by
  rw [docsF, List.getElem?_cons_succ, qTR q kids l (j + 1) i, List.getElem?_cons_succ, show j + 1 + i = j + (i + 1) from by omega]
theorem qkS {q : Query} {rows : List Row} {kids : List Int} (h : jsonB (docObj q rows kids) = true) : dpj (⟨4, 0, ByteArray.empty, docsF q kids (rows.take (firstF q rows.length)) 0, []⟩ : Json) ≤ 6 ∧ szj (⟨4, 0, ByteArray.empty, docsF q kids (rows.take (firstF q rows.length)) 0, []⟩ : Json) ≤ 1000 := by
 unfold jsonB at h
 rw [decide_eq_true_eq] at h
 obtain ⟨h1, h2⟩ := qPM 6 _ h
 rw [qTT] at h1
 rw [qMM] at h2
 have m : (⟨4, 0, ByteArray.empty, docsF q kids (rows.take (firstF q rows.length)) 0, []⟩ : Json) ∈ (docObj q rows kids).List_ := by simp [docObj]
 have := qgS m
 have := qTP m
 omega
theorem qjM (q : Query) (rows : List Row) (kids : List Int) (hw : Jw (docObj q rows kids)) (h : jsonB (docObj q rows kids) = true) : qoE.f (docObj q rows kids) (ByteArray.mk #[114, 111, 119, 115]) = some (⟨4, 0, ByteArray.empty, docsF q kids (rows.take (firstF q rows.length)) 0, []⟩, true) := by
 unfold qoE.f
 obtain ⟨h1, h2⟩ := qkS h
 rw [show qdB.f (docObj q rows kids).Names (ByteArray.mk #[114, 111, 119, 115]) = some 1 from by show qdB.f [ByteArray.mk #[99, 111, 117, 110, 116], ByteArray.mk #[114, 111, 119, 115]] _ = _; decide +kernel, Option.bind_some, qTF _ hw, h, Option.bind_some]
 refine (congrArg (fun o => Option.bind o _) (qnH _ (by omega) (by omega))).trans ?_
 rfl
theorem qFL (q : Query) (rows : List Row) (kids : List Int) (hw : Jw (docObj q rows kids)) (h : jsonB (docObj q rows kids) = true) : qoE.f (docObj q rows kids) (ByteArray.mk #[99, 111, 117, 110, 116]) = some (numJ rows.length, true) := by
 unfold qoE.f
 rw [show qdB.f (docObj q rows kids).Names (ByteArray.mk #[99, 111, 117, 110, 116]) = some 0 from by show qdB.f [ByteArray.mk #[99, 111, 117, 110, 116], ByteArray.mk #[114, 111, 119, 115]] _ = _; decide +kernel, Option.bind_some, qTF _ hw, h, Option.bind_some]
 rw [show bo3 (bo3 true false true) true (decide ((0 : Int) < 0)) = false from rfl, cond_false, show getO (docObj q rows kids).List_ 0 = some (numJ rows.length) from rfl, Option.bind_some, qnH (numJ rows.length) (by simp [numJ, dpj, dpL]) (by simp [numJ, szj, szL])]
 rfl
theorem qlS (l : List Int) : qXJ.f l = some (decide (1048576 < (l.length : Int))) := by unfold qXJ.f; rw [qH]
theorem qcL {f : Json → Int} : ∀ (l : List Json) (n : Int), (∀ x ∈ l, 1 ≤ f x) → n + (l.map f).sum ≤ 400 → capL f n l = n + (l.map f).sum
 | [], n, _, _ => by simp [capL]
 | x :: l, n, h, hs => by
  rw [List.map_cons, List.sum_cons] at hs ⊢
  have h0 : 0 ≤ (l.map f).sum := by
   have : ∀ l : List Json, (∀ x ∈ l, 1 ≤ f x) → 0 ≤ (l.map f).sum := by
    intro l
    induction l with
    | nil => intro _; simp
    | cons y l ih => intro hy; have := ih fun z hz => hy z (List.mem_cons_of_mem _ hz); have := hy y (List.mem_cons_self ..); rw [List.map_cons, List.sum_cons]; omega
   exact this l fun y hy => h y (List.mem_cons_of_mem _ hy)
  rw [capL, if_neg (by omega), qcL l (n + f x) (fun y hy => h y (List.mem_cons_of_mem _ hy)) (by omega)]
  omega
theorem qQa {v : Int} (h : -1000000000 ≤ v ∧ v ≤ 1000000000) : ownB (numJ v) = true := by
 unfold ownB numJ
 simp only [List.length_nil, Nat.lt_irrefl, decide_false, Bool.false_and, Bool.or_false, Bool.or_self, cond_false]
 simp [h, show ByteArray.empty = ByteArray.mk #[] from rfl]
theorem qfT (d : Nat) {v : Int} (h : -1000000000 ≤ v ∧ v ≤ 1000000000) : sizeF (d + 1) (numJ v) = 1 := by
 rw [sizeF, if_pos (qQa h)]; rfl
theorem qiY {N : List ByteArray} (hs : N.Pairwise fun a b => nlt a b = true) (ht : ∀ x ∈ N, txtB x = true) : namesB N = true := by
 unfold namesB
 rw [qFE]
 intro i x hx
 have hi := at_lt hx
 rw [ht x (List.mem_of_getElem? hx), Bool.true_and, qMZ]
 by_cases c : 0 < i
 ·
  have := List.pairwise_iff_getElem.1 hs (i - 1) i (by omega) hi (by omega)
  rw [(List.getElem?_eq_some_iff.1 hx).2] at this
  rw [List.getD_eq_getElem?_getD, List.getElem?_eq_getElem (by omega), Option.getD_some, this]
  simp
 rw [decide_eq_false c]; rfl
theorem qRa {P : List NV} (hs : Sn P) (ht : ∀ x ∈ P, txtB x.1 = true) : ownB (objJ P) = true := by
 have hn : namesB (P.map (·.1)) = true := qiY (by rw [List.pairwise_map]; exact hs) fun x hx => by
  obtain ⟨p, hp, rfl⟩ := List.mem_map.1 hx
  exact ht p hp
 unfold ownB objJ
 dsimp only
 rw [hn, List.length_map, List.length_map]
 simp [show ByteArray.empty = ByteArray.mk #[] from rfl]
theorem qjY (d : Nat) {P : List NV} (hs : Sn P) (ht : ∀ x ∈ P, txtB x.1 = true) (hv : ∀ x ∈ P, -1000000000 ≤ x.2 ∧ x.2 ≤ 1000000000) (hl : P.length ≤ 300) : sizeF (d + 2) (objJ P) = 1 + P.length := by
 rw [sizeF, if_pos (qRa hs ht)]
 have hm : ((objJ P).List_.map (sizeF (d + 1))) = P.map fun _ => (1 : Int) := by
  unfold objJ
  dsimp only
  rw [List.map_map]
  exact List.map_congr_left fun x hx => qfT d (hv x hx)
 have hsum : (P.map fun _ => (1 : Int)).sum = P.length := by
  clear hs ht hv hl hm
  induction P with
  | nil => rfl
  | cons p P ih => rw [List.map_cons, List.sum_cons, ih, List.length_cons]; omega
 rw [qcL _ _ (fun x hx => (qiD (d + 1) x).1) (by rw [hm, hsum]; omega), hm, hsum]
theorem dig1 {n : Nat} (h : n < 10) : Lib.decDigits n = [UInt8.ofNat (48 + n)] := by rw [Lib.decDigits, dif_pos h]
theorem qSa {c : Int} (h : 0 ≤ c ∧ c ≤ 9) : txtB (colN c) = true := by
 obtain ⟨n, rfl⟩ := Int.eq_ofNat_of_zero_le h.1
 have hn : n < 10 := by omega
 have e : Lib.itoa (n : Int) = [UInt8.ofNat (48 + n)] := by
  unfold Lib.itoa
  rw [if_neg (by omega), Int.toNat_natCast, dig1 hn]
 rw [qEI, e]
 have : ∀ n : Fin 10, txtB (bl (99 :: [UInt8.ofNat (48 + n.val)])) = true := by decide +kernel
 exact this ⟨n, hn⟩
theorem qUR {q : Query} {r : Row} {n : Int} (hq : ∀ c ∈ q.Show, 0 ≤ c ∧ c ≤ 5) (hl : q.Show.length ≤ 6) (hid : -1000000000 ≤ r.Id ∧ r.Id ≤ 1000000000) (hc : ∀ x ∈ r.Cells, -1000000000 ≤ x ∧ x ≤ 1000000000) (hn : -1000000000 ≤ n ∧ n ≤ 1000000000) (d : Nat) : 1 ≤ sizeF (d + 2) (rowObj q r n) ∧ sizeF (d + 2) (rowObj q r n) ≤ 10 := by
 unfold rowObj
 have hlen := qIH (q.Show.map (colP r) ++ [idP r] ++ kidsL q n)
 have hk : (kidsL q n).length ≤ 1 := by unfold kidsL; split <;> simp
 simp only [List.length_append, List.length_map, List.length_singleton] at hlen
 have hm : ∀ x ∈ foldP (q.Show.map (colP r) ++ [idP r] ++ kidsL q n), txtB x.1 = true ∧ -1000000000 ≤ x.2 ∧ x.2 ≤ 1000000000 := fun x hx => by
  have := qUO hx
  simp only [List.mem_append, List.mem_map, List.mem_singleton] at this
  rcases this with (⟨c, h1, rfl⟩ | rfl) | h
  ·
   have := hq c h1
   refine ⟨qSa (by omega), ?_⟩
   show -1000000000 ≤ cellF r c ∧ cellF r c ≤ 1000000000
   unfold cellF
   split
   ·
    rename_i hcc
    rw [List.getD_eq_getElem?_getD]
    cases hx : r.Cells[c.toNat]? with
    | none => simp
    | some y => exact hc y (List.mem_of_getElem? hx)
   omega
  · exact ⟨by show txtB (ByteArray.mk #[105, 100]) = true; decide +kernel, hid⟩
  unfold kidsL at h
  split at h
  · rw [List.mem_singleton.1 h]; exact ⟨by show txtB (ByteArray.mk #[107, 105, 100, 115]) = true; decide +kernel, hn⟩
  simp at h
 rw [qjY d (qaH _) (fun x hx => (hm x hx).1) (fun x hx => (hm x hx).2) (by omega)]
 omega
theorem qVR {q : Query} {rows : List Row} {kids : List Int} (hq : ∀ c ∈ q.Show, 0 ≤ c ∧ c ≤ 5) (hl : q.Show.length ≤ 6) (hr : ∀ r ∈ rows, (-1000000000 ≤ r.Id ∧ r.Id ≤ 1000000000) ∧ ∀ x ∈ r.Cells, -1000000000 ≤ x ∧ x ≤ 1000000000) (hrl : rows.length ≤ 24) (hk : ∀ x ∈ kids, -1000000000 ≤ x ∧ x ≤ 1000000000) : jsonB (docObj q rows kids) = true := by
 have hf := qJH q rows.length
 have hkd : ∀ i : Nat, -1000000000 ≤ kids.getD i 0 ∧ kids.getD i 0 ≤ 1000000000 := fun i => by
  rw [List.getD_eq_getElem?_getD]
  cases hx : kids[i]? with
  | none => simp
  | some y => exact hk y (List.mem_of_getElem? hx)
 have hm : ∀ x ∈ docsF q kids (rows.take (firstF q rows.length)) 0, 1 ≤ sizeF 4 x ∧ sizeF 4 x ≤ 10 := fun x hx => by
  obtain ⟨i, hi⟩ := List.getElem?_of_mem hx
  rw [qTR] at hi
  cases hr' : (rows.take (firstF q rows.length))[i]? with
  | none => rw [hr'] at hi; cases hi
  | some r =>
   rw [hr', Option.map_some] at hi
   rw [← Option.some.inj hi]
   obtain ⟨h1, h2⟩ := hr r (List.mem_of_mem_take (List.mem_of_getElem? hr'))
   exact qUR hq hl h1 h2 (hkd _) 2
 have hD : (docsF q kids (rows.take (firstF q rows.length)) 0).length ≤ 24 := by rw [qRG, List.length_take]; omega
 generalize hDD : docsF q kids (rows.take (firstF q rows.length)) 0 = D at *
 have hsum := qKR (s := sizeF 4) (B := 10) (l := D) fun x hx => (hm x hx).2
 have hsz : sizeF 5 (⟨4, 0, ByteArray.empty, D, []⟩ : Json) = 1 + (D.map (sizeF 4)).sum := by
  rw [sizeF, if_pos (by unfold ownB; simp [namesB, show ByteArray.empty = ByteArray.mk #[] from rfl])]
  exact qcL D 1 (fun x hx => (hm x hx).1) (by omega)
 have h0 := qiD 5 (⟨4, 0, ByteArray.empty, D, []⟩ : Json)
 unfold jsonB
 rw [decide_eq_true_eq]
 have hnm : namesB [ByteArray.mk #[99, 111, 117, 110, 116], ByteArray.mk #[114, 111, 119, 115]] = true := by decide +kernel
 have hown : ownB (docObj q rows kids) = true := by
  unfold ownB docObj
  dsimp only
  rw [hnm]
  simp [show ByteArray.empty = ByteArray.mk #[] from rfl]
 have hn1 : sizeF 5 (numJ rows.length) = 1 := qfT 4 (by omega)
 rw [sizeF, if_pos hown]
 have hLl : (docObj q rows kids).List_ = [numJ rows.length, ⟨4, 0, ByteArray.empty, D, []⟩] := by unfold docObj; rw [hDD]
 rw [hLl, qcL]
 · simp only [List.map_cons, List.map_nil, List.sum_cons, List.sum_nil, hn1, hsz]; omega
 ·
  intro x hx
  exact (qiD 5 x).1
 simp only [List.map_cons, List.map_nil, List.sum_cons, List.sum_nil, hn1, hsz]; omega
theorem qgT (col : Nat) (x : Int) : ∀ (l : List Row) (n : Int), countC col x l n = n + (l.countP fun r => decide (r.Cells.getD col 0 = x) : Nat)
 | [], n => by simp [countC]
 | r :: l, n => by
  rw [countC, qgT col x l, List.countP_cons]
  by_cases c : r.Cells.getD col 0 = x
  · rw [if_pos c, if_pos (decide_eq_true c)]; omega
  rw [if_neg c, if_neg (by rw [decide_eq_false c]; simp)]; omega
theorem qiW {s : Schema} {t : Int} {r : Row} (h : rowB s t r = true) : (1 ≤ r.Id ∧ r.Id ≤ 999) ∧ ∀ x ∈ r.Cells, -1000000000 ≤ x ∧ x ≤ 1000000000 := by
 unfold rowB at h
 simp only [Bool.and_eq_true, decide_eq_true_eq] at h
 exact ⟨h.1.1.2, fun x hx => of_decide_eq_true (List.all_eq_true.1 h.2 x hx)⟩
theorem qWR (s : Store) (q : Query) (id : Int) : 0 ≤ kidsOfF s q id ∧ kidsOfF s q id ≤ 24 := by
 unfold kidsOfF
 split
 ·
  rename_i h
  simp only [Bool.and_eq_true] at h
  obtain ⟨⟨h1, h2⟩, h3⟩ := h
  obtain ⟨hk1, _⟩ := qNK h2 h3
  have hl := (qtD h1).1
  have hat : s.Tables[q.KidTable.toNat]? = some (s.Tables.getD q.KidTable.toNat []) := by
   rw [List.getD_eq_getElem?_getD, List.getElem?_eq_getElem (by omega)]; rfl
  have hlen := qkG (qMG h1 hat)
  rw [qgT]
  have := List.countP_le_length (p := fun r : Row => decide (r.Cells.getD q.KidCol.toNat 0 = id)) (l := s.Tables.getD q.KidTable.toNat [])
  omega
 omega
theorem qkJ {s : Store} {q : Query} (h1 : storeB s = true) (h2 : queryB s.Schema q = true) : (∀ r ∈ tableOf s q.Table, rowB s.Schema q.Table r = true) ∧ (tableOf s q.Table).length ≤ 24 ∧ Srt q (rowsForF s q) ∧ (rowsForF s q).Perm ((tableOf s q.Table).filter (matchesB q)) := by
 obtain ⟨t1, t2⟩ := qQG h2
 have hl := (qtD h1).1
 have hrows := qWI h1 (t := q.Table.toNat) (by omega)
 rw [Int.toNat_of_nonneg t1] at hrows
 have hd : Dst (tableOf s q.Table) := (qRT hrows).imp fun h e => by omega
 obtain ⟨g1, g2⟩ := qaL (q := q) (tableOf s q.Table) [] List.Pairwise.nil (by simpa using hd)
 rw [List.nil_append] at g2
 refine ⟨fun r hr => ?_, qkG hrows, ?_, ?_⟩
 ·
  obtain ⟨i, hi⟩ := List.getElem?_of_mem hr
  exact qWH hrows hi
 · unfold rowsForF; rw [h1, h2]; exact g1
 unfold rowsForF; rw [h1, h2]; exact g2
theorem qSU {s : Store} {q : Query} (h1 : storeB s = true) (h2 : queryB s.Schema q = true) (hq : ∀ c ∈ q.Show, 0 ≤ c ∧ c ≤ 5) (hl : q.Show.length ≤ 6) : jsonB (docObj q (rowsForF s q) ((rowsForF s q).map fun r => kidsOfF s q r.Id)) = true := by
 obtain ⟨p1, p2, p3, p4⟩ := qkJ h1 h2
 refine qVR hq hl (fun r hr => ?_) (qtF s q).1 fun x hx => ?_
 ·
  have := List.mem_filter.1 (p4.mem_iff.1 hr)
  obtain ⟨a, b⟩ := qiW (p1 r this.1)
  exact ⟨by omega, b⟩
 obtain ⟨r, _, rfl⟩ := List.mem_map.1 hx
 have := qWR s q r.Id
 omega
theorem qGL (s : Store) (q : Query) (T : List Row) (hT : getO s.Tables q.Table = some T) (hq : qwI q.Where) (hl : T.length ≤ 24) (hr : ∀ r ∈ T, Row_b r) (K : Int → Option Bool) : ∀ (k i : Nat) (z : Int), i ≤ T.length → T.length < i + k → z = ((T.take i).countP (matchesB q) : Nat) → qmB.l0 (s, q) K k z i = K (T.countP (matchesB q) : Nat) := by
 intro k
 induction k with
 | zero => intro i z h h'; omega
 | succ k ih =>
  intro i z h h' hz
  have hle := List.countP_le_length (p := matchesB q) (l := T.take i)
  rw [List.length_take] at hle
  rw [qmB.l0]
  dsimp only
  rw [hT, Option.bind_some, qH]
  by_cases hi : i < T.length
  ·
   have hx : T[i]? = some T[i] := List.getElem?_eq_getElem hi
   rw [decide_eq_true (by omega), cond_true, qv, hx, Option.bind_some, qKG q _ hq (hr _ (List.getElem_mem hi)), Option.bind_some, qAB (by omega), qNB (by omega)]
   cases hm : matchesB q T[i] with
   | true =>
    rw [cond_true]
    exact ih (i + 1) _ (by omega) (by omega) (by rw [qED hx, List.countP_append, List.countP_cons, List.countP_nil, if_pos hm]; omega)
   | false =>
    rw [cond_false]
    exact ih (i + 1) _ (by omega) (by omega) (by rw [qED hx, List.countP_append, List.countP_cons, List.countP_nil, if_neg (by simp [hm])]; omega)
  rw [decide_eq_false (by omega), cond_false, hz, List.take_of_length_le (by omega)]
theorem qHL (s : Store) (q : Query) (R : List Row) (hq : qpG q) (hl : R.length ≤ 24) (hr : ∀ r ∈ R, Row_b r) (hm : ∀ r ∈ R, matchesB q r = true) (hs : Srt q R) (K : Unit → Option Bool) : ∀ (k i : Nat), i ≤ R.length → R.length < i + k → qmB.l1 (s, q) R K k i = K () := by
 intro k
 induction k with
 | zero => intro i h h'; omega
 | succ k ih =>
  intro i h h'
  rw [qmB.l1]
  dsimp only
  rw [qH]
  by_cases hi : i < R.length
  ·
   have hx : R[i]? = some R[i] := List.getElem?_eq_getElem hi
   have hmm := List.getElem_mem hi
   rw [decide_eq_true (by omega), cond_true, qv, hx, Option.bind_some, qKG q _ hq.1 (hr _ hmm), Option.bind_some, hm _ hmm, qAB (by omega)]
   rw [show bo3 (bo3 true false true) false true = true from rfl, bo3_T, show bo3 true false true = false from rfl]
   by_cases c : 0 < i
   ·
    have hy : R[i - 1]? = some R[i - 1] := List.getElem?_eq_getElem (by omega)
    rw [decide_eq_true (p := (0 : Int) < (i : Int)) (by omega), qOC, qNB (by omega), show ((i : Int) - 1) = ((i - 1 : Nat) : Int) by omega, qv, hy, Option.bind_some, qOC, qYJ q _ _ (hr _ (List.getElem_mem (by omega))) (hr _ hmm), Option.bind_some, hs.at (i := i - 1) (j := i) (by omega) hy hx]
    exact ih (i + 1) (by omega) (by omega)
   rw [decide_eq_false (p := (0 : Int) < (i : Int)) (by omega), qCE, Option.bind_some, qCE, Option.bind_some]
   exact ih (i + 1) (by omega) (by omega)
  rw [decide_eq_false (by omega), cond_false]
theorem laws_FnAnswer_pure (a0 : List Int) (b0 : IntS_b a0) (r0 : ∀ y ∈ a0, 0 ≤ y ∧ y ≤ 255) : qmB.f a0 = some true := by
 unfold qmB.f
 rw [qlS, Option.bind_some]
 by_cases hb : 1048576 < (a0.length : Int)
 · rw [decide_eq_true hb]; rfl
 rw [decide_eq_false hb, cond_false]
 obtain ⟨s, q, e1, d1, hq⟩ := qiS a0 (by omega)
 rw [qpB e1]
 dsimp only
 have hc : In64 q.Show := fun x hx => by have := hq.2.2 x hx; omega
 have hl : q.Show.length ≤ 2097152 := by have := hq.2.1; omega
 have hj : dpj (evalF s q) ≤ 6 ∧ szj (evalF s q) ≤ 1000 := by
  unfold evalF
  split
  · exact orJ_d _
  simp [nullJ, dpj, dpL, szj, szL]
 rw [qpB (qCI s q d1.b hq.b), qpB (qHI s q d1.b hq.b), qpB (qOR s q d1.b hq.b hc hl), decide_eq_false (p := (lenI (rowsForF s q) ≠ lenI (rowsForF s q))) (by simp), bo3_F, qOC, qpB (qSR s q d1.b hq.b hc hl), qOC, qpB (qiJ _ (by omega) (by omega)), show bo3 false true (bo3 true false true) = false from rfl, cond_false, qpB (qAF _ d1.b), qBF _ _ d1.b.1 hq.b]
 cases h1 : storeB s with
 | false => unfold rowsForF evalF; rw [h1]; rfl
 | true =>
  cases h2 : queryB s.Schema q with
  | false => unfold rowsForF evalF; rw [h1, h2]; rfl
  | true =>
   simp only [bo3_F, bo3_T, qOC, Option.bind_some, cond_false]
   obtain ⟨p1, p2, p3, p4⟩ := qkJ h1 h2
   obtain ⟨t1, t2⟩ := qQG h2
   have hlen := (qtD h1).1
   obtain ⟨g1, g2, g3⟩ := qtF s q
   have hright := qSU h1 h2 hq.2.2 hq.2.1
   have hev : evalF s q = docObj q (rowsForF s q) ((rowsForF s q).map fun r => kidsOfF s q r.Id) := by
    unfold evalF docOfF orJ
    rw [h1, h2, hright]; rfl
   have hw := qXP (q := q) (rows := rowsForF s q) (kids := (rowsForF s q).map fun r => kidsOfF s q r.Id) hc hl (by omega)
   have hTb : ∀ r ∈ tableOf s q.Table, Row_b r := (qSW d1.b _).2
   rw [qiB]
   have e0 := qGL s q (tableOf s q.Table) (qIK (by omega)) hq.b.1 p2 hTb
   refine (e0 _ 1000 0 0 (by omega) (by omega) (by simp)).trans ?_
   rw [qiB]
   have hm : ∀ r ∈ rowsForF s q, matchesB q r = true := fun r hr => (List.mem_filter.1 (p4.mem_iff.1 hr)).2
   refine (qHL s q (rowsForF s q) hq.b g1 g3 hm p3 _ _ 0 (by omega) (by rw [qH]; omega)).trans ?_
   have hn : ((tableOf s q.Table).countP (matchesB q)) = (rowsForF s q).length := by rw [p4.length_eq, List.countP_eq_length_filter]
   rw [hev, hn, qpB (qFL q _ _ hw hright), qpB (qjM q _ _ hw hright)]
   dsimp only
   rw [qTF _ hw, hright]
   have hf := qJH q (rowsForF s q).length
   have hD : (docsF q ((rowsForF s q).map fun r => kidsOfF s q r.Id) ((rowsForF s q).take (firstF q (rowsForF s q).length)) 0).length = firstF q (rowsForF s q).length := by rw [qRG, List.length_take]; omega
   generalize hA : bo3 (decide ((lenI (docsF q ((rowsForF s q).map fun r => kidsOfF s q r.Id) ((rowsForF s q).take (firstF q (rowsForF s q).length)) 0)) = ((rowsForF s q).length : Int))) true (bo3 (decide ((lenI (docsF q ((rowsForF s q).map fun r => kidsOfF s q r.Id) ((rowsForF s q).take (firstF q (rowsForF s q).length)) 0)) = q.First)) (decide (0 < q.First)) false) = A
   have hAt : A = true := by
    rw [← hA, qH, hD]
    by_cases c : firstF q (rowsForF s q).length = (rowsForF s q).length
    · rw [decide_eq_true (by omega)]; rfl
    rw [decide_eq_false (by omega), bo3_F]
    have hfirst : 0 ≤ q.First := by
     unfold queryB at h2
     simp only [Bool.and_eq_true, decide_eq_true_eq] at h2
     exact h2.2.2.1.2.1
    unfold firstF at c ⊢
    split at c
    · exact absurd rfl c
    rename_i c0
    rw [if_neg c0]
    split at c
    · omega
    rename_i c1
    rw [if_neg c1, decide_eq_true (by omega), decide_eq_true (by omega)]; rfl
   rw [hAt, qH, decide_eq_true (p := ((rowsForF s q).length : Int) = ((rowsForF s q).length : Int)) rfl, show (numJ ((rowsForF s q).length : Int)).N = ((rowsForF s q).length : Int) from rfl, decide_eq_true (p := ((rowsForF s q).length : Int) = ((rowsForF s q).length : Int)) rfl]
   rfl
end Go.Proofs.YtbhleignjmcdiaaGreatDoor.L