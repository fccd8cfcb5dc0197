/- What the pure functions give. -/
import Derived.Test.YtkpoiinkmodlnaaGreatPv0
import Derived.Test.YtkpoiinkmodlnaaGreatFxRecordPutU
namespace Go.Proofs.YtkpoiinkmodlnaaGreat.L
open Go
set_option linter.unusedVariables false
set_option linter.unusedSimpArgs false
def sz_IntS (l : List Int) : Int := l.length
def IntS_b (l : List Int) : Prop := l.length ≤ 9223372036854775807
theorem sz_IntS_0 (l : List Int) : 0 ≤ sz_IntS l := by unfold sz_IntS; omega
def IntS_r (l : List Int) : Prop := ∀ x ∈ l, (-9223372036854775808 ≤ x ∧ x ≤ 9223372036854775807)
theorem laws_eqIntS_eq (a b : List Int) (ha : IntS_b a) (hb : IntS_b b) : laws_eqIntS.f a b = some (decide (a = b)) := by
  unfold IntS_b at ha hb
  unfold laws_eqIntS.f
  by_cases hl : a.length = b.length
  · rw [decide_eq_false (by simp only [lenI_eq]; omega), cond_false]
    refine (loop_eq (f := laws_eqIntS.l0 a b) hl (some false) (some true) (fun k i x y hx hy => ?_) (fun k i hi => ?_) _ (by simp only [lenI_eq]; omega)).trans ?_
    · have hi := at_lt hx
      rw [laws_eqIntS.l0, lenI_eq, decide_eq_true (by omega), cond_true, getO_nat, hx, Option.bind_some, getO_nat, hy, Option.bind_some, w64_succ (by omega)]
      by_cases c : x = y
      · simp [c]
      · simp [c]
    · rw [laws_eqIntS.l0, lenI_eq, decide_eq_false (by omega), cond_false]
    · cases decide (a = b) <;> rfl
  · rw [decide_eq_true (by simp only [lenI_eq]; omega), cond_true, decide_eq_false (fun e => hl (by rw [e]))]
def sz_Schema (x : Schema) : Int := sz_IntS x.Cols
def Schema_b (x : Schema) : Prop := IntS_b x.Cols
theorem sz_Schema_0 (x : Schema) : 0 ≤ sz_Schema x := by unfold sz_Schema; exact by have := sz_IntS_0 x.Cols;  omega
def Schema_r (x : Schema) : Prop := IntS_r x.Cols
theorem laws_eqSchema_eq (a b : Schema) (ha : Schema_b a) (hb : Schema_b b) : laws_eqSchema.f a b = some (decide (a = b)) := by
  have ha_Cols := ha
  have hb_Cols := hb
  unfold laws_eqSchema.f
  rw [laws_eqIntS_eq _ _ ha_Cols hb_Cols, Option.bind_some]
  by_cases c_Cols : a.Cols = b.Cols
  case neg => rw [decide_eq_false c_Cols, show bo3 false false true = true from rfl, cond_true, decide_eq_false (fun e => c_Cols (by rw [e]))]
  rw [decide_eq_true c_Cols, show bo3 true false true = false from rfl, cond_false]
  rw [decide_eq_true (by cases a; cases b; simp_all)]
def sz_Row (x : Row) : Int := sz_IntS x.Cells
def Row_b (x : Row) : Prop := IntS_b x.Cells
theorem sz_Row_0 (x : Row) : 0 ≤ sz_Row x := by unfold sz_Row; exact by have := sz_IntS_0 x.Cells;  omega
def Row_r (x : Row) : Prop := (-9223372036854775808 ≤ x.Id ∧ x.Id ≤ 9223372036854775807) ∧ IntS_r x.Cells
theorem laws_eqRow_eq (a b : Row) (ha : Row_b a) (hb : Row_b b) : laws_eqRow.f a b = some (decide (a = b)) := by
  have ha_Cells := ha
  have hb_Cells := hb
  unfold laws_eqRow.f
  by_cases c_Id : a.Id = b.Id
  case neg => rw [decide_eq_true c_Id, cond_true, decide_eq_false (fun e => c_Id (by rw [e]))]
  rw [decide_eq_false (fun e => e c_Id), cond_false]
  rw [laws_eqIntS_eq _ _ ha_Cells hb_Cells, Option.bind_some]
  by_cases c_Cells : a.Cells = b.Cells
  case neg => rw [decide_eq_false c_Cells, show bo3 false false true = true from rfl, cond_true, decide_eq_false (fun e => c_Cells (by rw [e]))]
  rw [decide_eq_true c_Cells, show bo3 true false true = false from rfl, cond_false]
  rw [decide_eq_true (by cases a; cases b; simp_all)]
def sz_RowS (l : List Row) : Int := l.length + (l.map sz_Row).sum
def RowS_b (l : List Row) : Prop := l.length ≤ 9223372036854775807 ∧ ∀ x ∈ l, Row_b x
theorem sz_RowS_0 (l : List Row) : 0 ≤ sz_RowS l := by have := sum_nonneg sz_Row_0 l; unfold sz_RowS; omega
def RowS_r (l : List Row) : Prop := ∀ x ∈ l, Row_r x
theorem laws_eqRowS_eq (a b : List Row) (ha : RowS_b a) (hb : RowS_b b) : laws_eqRowS.f a b = some (decide (a = b)) := by
  obtain ⟨ha, ha2⟩ := ha
  obtain ⟨hb, hb2⟩ := hb
  unfold laws_eqRowS.f
  by_cases hl : a.length = b.length
  · rw [decide_eq_false (by simp only [lenI_eq]; omega), cond_false]
    refine (loop_eq (f := laws_eqRowS.l0 a b) hl (some false) (some true) (fun k i x y hx hy => ?_) (fun k i hi => ?_) _ (by simp only [lenI_eq]; omega)).trans ?_
    · have hi := at_lt hx
      rw [laws_eqRowS.l0, lenI_eq, decide_eq_true (by omega), cond_true, getO_nat, hx, Option.bind_some, getO_nat, hy, Option.bind_some, laws_eqRow_eq x y (ha2 x (List.mem_of_getElem? hx)) (hb2 y (List.mem_of_getElem? hy)), Option.bind_some, bo3_not, w64_succ (by omega)]
      by_cases c : x = y
      · simp [c]
      · simp [c]
    · rw [laws_eqRowS.l0, lenI_eq, decide_eq_false (by omega), cond_false]
    · cases decide (a = b) <;> rfl
  · rw [decide_eq_true (by simp only [lenI_eq]; omega), cond_true, decide_eq_false (fun e => hl (by rw [e]))]
def sz_RowSS (l : List (List Row)) : Int := l.length + (l.map sz_RowS).sum
def RowSS_b (l : List (List Row)) : Prop := l.length ≤ 9223372036854775807 ∧ ∀ x ∈ l, RowS_b x
theorem sz_RowSS_0 (l : List (List Row)) : 0 ≤ sz_RowSS l := by have := sum_nonneg sz_RowS_0 l; unfold sz_RowSS; omega
def RowSS_r (l : List (List Row)) : Prop := ∀ x ∈ l, RowS_r x
theorem laws_eqRowSS_eq (a b : List (List Row)) (ha : RowSS_b a) (hb : RowSS_b b) : laws_eqRowSS.f a b = some (decide (a = b)) := by
  obtain ⟨ha, ha2⟩ := ha
  obtain ⟨hb, hb2⟩ := hb
  unfold laws_eqRowSS.f
  by_cases hl : a.length = b.length
  · rw [decide_eq_false (by simp only [lenI_eq]; omega), cond_false]
    refine (loop_eq (f := laws_eqRowSS.l0 a b) hl (some false) (some true) (fun k i x y hx hy => ?_) (fun k i hi => ?_) _ (by simp only [lenI_eq]; omega)).trans ?_
    · have hi := at_lt hx
      rw [laws_eqRowSS.l0, lenI_eq, decide_eq_true (by omega), cond_true, getO_nat, hx, Option.bind_some, getO_nat, hy, Option.bind_some, laws_eqRowS_eq x y (ha2 x (List.mem_of_getElem? hx)) (hb2 y (List.mem_of_getElem? hy)), Option.bind_some, bo3_not, w64_succ (by omega)]
      by_cases c : x = y
      · simp [c]
      · simp [c]
    · rw [laws_eqRowSS.l0, lenI_eq, decide_eq_false (by omega), cond_false]
    · cases decide (a = b) <;> rfl
  · rw [decide_eq_true (by simp only [lenI_eq]; omega), cond_true, decide_eq_false (fun e => hl (by rw [e]))]
def sz_Store (x : Store) : Int := sz_Schema x.Schema + sz_RowSS x.Tables
def Store_b (x : Store) : Prop := Schema_b x.Schema ∧ RowSS_b x.Tables
theorem sz_Store_0 (x : Store) : 0 ≤ sz_Store x := by unfold sz_Store; exact by have := sz_Schema_0 x.Schema; have := sz_RowSS_0 x.Tables;  omega
def Store_r (x : Store) : Prop := Schema_r x.Schema ∧ (-9223372036854775808 ≤ x.Version ∧ x.Version ≤ 9223372036854775807) ∧ RowSS_r x.Tables
theorem laws_eqStore_eq (a b : Store) (ha : Store_b a) (hb : Store_b b) : laws_eqStore.f a b = some (decide (a = b)) := by
  obtain ⟨ha_Schema, ha_Tables⟩ := ha
  obtain ⟨hb_Schema, hb_Tables⟩ := hb
  unfold laws_eqStore.f
  rw [laws_eqSchema_eq _ _ ha_Schema hb_Schema, Option.bind_some]
  by_cases c_Schema : a.Schema = b.Schema
  case neg => rw [decide_eq_false c_Schema, show bo3 false false true = true from rfl, cond_true, decide_eq_false (fun e => c_Schema (by rw [e]))]
  rw [decide_eq_true c_Schema, show bo3 true false true = false from rfl, cond_false]
  by_cases c_Version : a.Version = b.Version
  case neg => rw [decide_eq_true c_Version, cond_true, decide_eq_false (fun e => c_Version (by rw [e]))]
  rw [decide_eq_false (fun e => e c_Version), cond_false]
  rw [laws_eqRowSS_eq _ _ ha_Tables hb_Tables, Option.bind_some]
  by_cases c_Tables : a.Tables = b.Tables
  case neg => rw [decide_eq_false c_Tables, show bo3 false false true = true from rfl, cond_true, decide_eq_false (fun e => c_Tables (by rw [e]))]
  rw [decide_eq_true c_Tables, show bo3 true false true = false from rfl, cond_false]
  rw [decide_eq_true (by cases a; cases b; simp_all)]
def sz_Change (x : Change) : Int := sz_Row x.Old + sz_Row x.New
def Change_b (x : Change) : Prop := Row_b x.Old ∧ Row_b x.New
theorem sz_Change_0 (x : Change) : 0 ≤ sz_Change x := by unfold sz_Change; exact by have := sz_Row_0 x.Old; have := sz_Row_0 x.New;  omega
def Change_r (x : Change) : Prop := (-9223372036854775808 ≤ x.Table ∧ x.Table ≤ 9223372036854775807) ∧ Row_r x.Old ∧ Row_r x.New
theorem laws_eqChange_eq (a b : Change) (ha : Change_b a) (hb : Change_b b) : laws_eqChange.f a b = some (decide (a = b)) := by
  obtain ⟨ha_Old, ha_New⟩ := ha
  obtain ⟨hb_Old, hb_New⟩ := hb
  unfold laws_eqChange.f
  by_cases c_Table : a.Table = b.Table
  case neg => rw [decide_eq_true c_Table, cond_true, decide_eq_false (fun e => c_Table (by rw [e]))]
  rw [decide_eq_false (fun e => e c_Table), cond_false]
  by_cases c_Had : a.Had = b.Had
  case neg => rw [show bo3 a.Had (bo3 b.Had false true) b.Had = true from by revert c_Had; cases a.Had <;> cases b.Had <;> simp [bo3], cond_true, decide_eq_false (fun e => c_Had (by rw [e]))]
  rw [show bo3 a.Had (bo3 b.Had false true) b.Had = false from by rw [c_Had]; cases b.Had <;> rfl, cond_false]
  by_cases c_Has : a.Has = b.Has
  case neg => rw [show bo3 a.Has (bo3 b.Has false true) b.Has = true from by revert c_Has; cases a.Has <;> cases b.Has <;> simp [bo3], cond_true, decide_eq_false (fun e => c_Has (by rw [e]))]
  rw [show bo3 a.Has (bo3 b.Has false true) b.Has = false from by rw [c_Has]; cases b.Has <;> rfl, cond_false]
  rw [laws_eqRow_eq _ _ ha_Old hb_Old, Option.bind_some]
  by_cases c_Old : a.Old = b.Old
  case neg => rw [decide_eq_false c_Old, show bo3 false false true = true from rfl, cond_true, decide_eq_false (fun e => c_Old (by rw [e]))]
  rw [decide_eq_true c_Old, show bo3 true false true = false from rfl, cond_false]
  rw [laws_eqRow_eq _ _ ha_New hb_New, Option.bind_some]
  by_cases c_New : a.New = b.New
  case neg => rw [decide_eq_false c_New, show bo3 false false true = true from rfl, cond_true, decide_eq_false (fun e => c_New (by rw [e]))]
  rw [decide_eq_true c_New, show bo3 true false true = false from rfl, cond_false]
  rw [decide_eq_true (by cases a; cases b; simp_all)]
def sz_ChangeS (l : List Change) : Int := l.length + (l.map sz_Change).sum
def ChangeS_b (l : List Change) : Prop := l.length ≤ 9223372036854775807 ∧ ∀ x ∈ l, Change_b x
theorem sz_ChangeS_0 (l : List Change) : 0 ≤ sz_ChangeS l := by have := sum_nonneg sz_Change_0 l; unfold sz_ChangeS; omega
def ChangeS_r (l : List Change) : Prop := ∀ x ∈ l, Change_r x
theorem laws_eqChangeS_eq (a b : List Change) (ha : ChangeS_b a) (hb : ChangeS_b b) : laws_eqChangeS.f a b = some (decide (a = b)) := by
  obtain ⟨ha, ha2⟩ := ha
  obtain ⟨hb, hb2⟩ := hb
  unfold laws_eqChangeS.f
  by_cases hl : a.length = b.length
  · rw [decide_eq_false (by simp only [lenI_eq]; omega), cond_false]
    refine (loop_eq (f := laws_eqChangeS.l0 a b) hl (some false) (some true) (fun k i x y hx hy => ?_) (fun k i hi => ?_) _ (by simp only [lenI_eq]; omega)).trans ?_
    · have hi := at_lt hx
      rw [laws_eqChangeS.l0, lenI_eq, decide_eq_true (by omega), cond_true, getO_nat, hx, Option.bind_some, getO_nat, hy, Option.bind_some, laws_eqChange_eq x y (ha2 x (List.mem_of_getElem? hx)) (hb2 y (List.mem_of_getElem? hy)), Option.bind_some, bo3_not, w64_succ (by omega)]
      by_cases c : x = y
      · simp [c]
      · simp [c]
    · rw [laws_eqChangeS.l0, lenI_eq, decide_eq_false (by omega), cond_false]
    · cases decide (a = b) <;> rfl
  · rw [decide_eq_true (by simp only [lenI_eq]; omega), cond_true, decide_eq_false (fun e => hl (by rw [e]))]
def sz_ChangeSS (l : List (List Change)) : Int := l.length + (l.map sz_ChangeS).sum
def ChangeSS_b (l : List (List Change)) : Prop := l.length ≤ 9223372036854775807 ∧ ∀ x ∈ l, ChangeS_b x
theorem sz_ChangeSS_0 (l : List (List Change)) : 0 ≤ sz_ChangeSS l := by have := sum_nonneg sz_ChangeS_0 l; unfold sz_ChangeSS; omega
def ChangeSS_r (l : List (List Change)) : Prop := ∀ x ∈ l, ChangeS_r x
theorem laws_eqChangeSS_eq (a b : List (List Change)) (ha : ChangeSS_b a) (hb : ChangeSS_b b) : laws_eqChangeSS.f a b = some (decide (a = b)) := by
  obtain ⟨ha, ha2⟩ := ha
  obtain ⟨hb, hb2⟩ := hb
  unfold laws_eqChangeSS.f
  by_cases hl : a.length = b.length
  · rw [decide_eq_false (by simp only [lenI_eq]; omega), cond_false]
    refine (loop_eq (f := laws_eqChangeSS.l0 a b) hl (some false) (some true) (fun k i x y hx hy => ?_) (fun k i hi => ?_) _ (by simp only [lenI_eq]; omega)).trans ?_
    · have hi := at_lt hx
      rw [laws_eqChangeSS.l0, lenI_eq, decide_eq_true (by omega), cond_true, getO_nat, hx, Option.bind_some, getO_nat, hy, Option.bind_some, laws_eqChangeS_eq x y (ha2 x (List.mem_of_getElem? hx)) (hb2 y (List.mem_of_getElem? hy)), Option.bind_some, bo3_not, w64_succ (by omega)]
      by_cases c : x = y
      · simp [c]
      · simp [c]
    · rw [laws_eqChangeSS.l0, lenI_eq, decide_eq_false (by omega), cond_false]
    · cases decide (a = b) <;> rfl
  · rw [decide_eq_true (by simp only [lenI_eq]; omega), cond_true, decide_eq_false (fun e => hl (by rw [e]))]
def sz_Record (x : Record) : Int := sz_Store x.First + sz_ChangeSS x.Steps
def Record_b (x : Record) : Prop := Store_b x.First ∧ ChangeSS_b x.Steps
theorem sz_Record_0 (x : Record) : 0 ≤ sz_Record x := by unfold sz_Record; exact by have := sz_Store_0 x.First; have := sz_ChangeSS_0 x.Steps;  omega
def Record_r (x : Record) : Prop := Store_r x.First ∧ ChangeSS_r x.Steps
theorem laws_eqRecord_eq (a b : Record) (ha : Record_b a) (hb : Record_b b) : laws_eqRecord.f a b = some (decide (a = b)) := by
  obtain ⟨ha_First, ha_Steps⟩ := ha
  obtain ⟨hb_First, hb_Steps⟩ := hb
  unfold laws_eqRecord.f
  rw [laws_eqStore_eq _ _ ha_First hb_First, Option.bind_some]
  by_cases c_First : a.First = b.First
  case neg => rw [decide_eq_false c_First, show bo3 false false true = true from rfl, cond_true, decide_eq_false (fun e => c_First (by rw [e]))]
  rw [decide_eq_true c_First, show bo3 true false true = false from rfl, cond_false]
  rw [laws_eqChangeSS_eq _ _ ha_Steps hb_Steps, Option.bind_some]
  by_cases c_Steps : a.Steps = b.Steps
  case neg => rw [decide_eq_false c_Steps, show bo3 false false true = true from rfl, cond_true, decide_eq_false (fun e => c_Steps (by rw [e]))]
  rw [decide_eq_true c_Steps, show bo3 true false true = false from rfl, cond_false]
  rw [decide_eq_true (by cases a; cases b; simp_all)]
def Hd_Int (x : Int) (q q' : Int) : Prop := x = q ∧ q' = q + 1
theorem Hd_Int_mono (x : Int) (q q' : Int) (h : Hd_Int x q q') : q ≤ q' := by
  obtain ⟨e0, rfl⟩ := h
  omega
theorem mark_IntS (l : List Int) (q : Int) (hq : 0 ≤ q) (hB : q + 16 * sz_IntS l ≤ 4611686018427387904) : ∃ l' q', laws_markIntS.f l q = some (l', q') ∧ laws_heldIntS.f l' q = some q' ∧ q ≤ q' ∧ q' ≤ q + 16 * sz_IntS l := by
  unfold sz_IntS at hB
  have hz : (l.length : Int) ≤ 288230376151711744 := by omega
  have step : ∀ k (i : Nat) (s : List Int) (x : Int) (q : Int), s.length = l.length → s[i]? = some x → 0 ≤ q → q + (fun _ => 16 * (1 + 0)) x ≤ 4611686018427387904 → ∃ x' q', laws_markIntS.l0 (k + 1) s q i = laws_markIntS.l0 k (s.set i x') q' ((i + 1 : Nat) : Int) ∧ q ≤ q' ∧ q' ≤ q + (fun _ => 16 * (1 + 0)) x ∧ Hd_Int x' q q' := by
    intro k i s x q hn hx hq hB
    have hi := at_lt hx
    have g0 : getO s i = some x := by rw [getO_nat, hx]
    have hB : q + 16 * (1 + 0) ≤ 4611686018427387904 := hB
    have w0 : w64 (q + 1) = q + 1 := w64_id (by omega)
    refine ⟨(q), q + 1, ?_, by omega, ?_, ⟨rfl, rfl⟩⟩
    · rw [laws_markIntS.l0, lenI_eq, decide_eq_true (by omega), cond_true]
      simp only [g0, get_set g0, setI_setI, Option.bind_some, w0]
      rw [w64_succ (by omega), setI_nat]
    · show _ ≤ q + 16 * (1 + 0); omega
  have last : ∀ k (s : List Int) (q : Int) (i : Nat), i = s.length → laws_markIntS.l0 (k + 1) s q i = some (s, q) := by
    intro k s q i hi
    rw [laws_markIntS.l0, lenI_eq, decide_eq_false (by omega), cond_false]
  obtain ⟨l', q', m, hl, _, lo, hi, hd⟩ := loop_mark (fm := laws_markIntS.l0) l.length 4611686018427387904 (fun _ => 16 * (1 + 0)) Hd_Int (fun _ => by decide) step last (((lenI l) - 0).toNat + 1) 0 l q rfl (by omega) (by simp only [lenI_eq]; omega) hq (by rw [List.drop_zero, sum_0]; omega)
  refine ⟨l', q', m, ?_, lo, ?_⟩
  · unfold laws_heldIntS.f
    refine loop_held (fh := laws_heldIntS.l0 l') (l := l') Hd_Int Hd_Int_mono (fun k i x q q' hx hd hq hB => ?_) (fun k q i hi => ?_) _ 0 q q' (by omega) (by simp only [lenI_eq]; omega) hq (by rw [List.drop_zero, sum_0] at hi; omega) (by rw [List.drop_zero] at hd; exact hd)
    · have hi := at_lt hx
      obtain ⟨e0, rfl⟩ := hd
      have w0 : w64 (q + 1) = q + 1 := w64_id (by omega)
      rw [laws_heldIntS.l0, lenI_eq, decide_eq_true (by omega), cond_true, getO_nat, hx, Option.bind_some]
      simp only [e0, w0, ne_eq, not_true_eq_false, decide_false, cond_false, Option.bind_some, bo3_self]
      rw [w64_succ (by omega)]
    · rw [laws_heldIntS.l0, lenI_eq, decide_eq_false (by omega), cond_false]
  · rw [List.drop_zero, sum_0] at hi; unfold sz_IntS; omega
theorem mark_Schema (x : Schema) (q : Int) (hq : 0 ≤ q) (hB : q + 16 * sz_Schema x ≤ 4611686018427387904) : ∃ s0 q', laws_markSchema.f x q = some ((Schema.mk s0), q') ∧ laws_heldSchema.f (Schema.mk s0) q = some q' ∧ q ≤ q' ∧ q' ≤ q + 16 * sz_Schema x := by
  unfold sz_Schema at hB ⊢
  have p_Cols := sz_IntS_0 x.Cols
  obtain ⟨s0, q0, m0, d0, a0, b0⟩ := mark_IntS x.Cols q (by omega) (by omega)
  have n0 : ¬ q0 < 0 := by omega
  refine ⟨s0, q0, ?_, ?_, by omega, by omega⟩
  · unfold laws_markSchema.f; simp only [m0, Option.bind_some]
  · unfold laws_heldSchema.f; simp only [d0, n0, decide_false, cond_false, Option.bind_some]
def Hd_Row (x : Row) (q q' : Int) : Prop := x.Id = q ∧ laws_heldIntS.f x.Cells (q + 1) = some q' ∧ q + 1 ≤ q'
theorem Hd_Row_mono (x : Row) (q q' : Int) (h : Hd_Row x q q') : q ≤ q' := by
  obtain ⟨e0, d1, l1⟩ := h
  omega
theorem mark_RowS (l : List Row) (q : Int) (hq : 0 ≤ q) (hB : q + 16 * sz_RowS l ≤ 4611686018427387904) : ∃ l' q', laws_markRowS.f l q = some (l', q') ∧ laws_heldRowS.f l' q = some q' ∧ q ≤ q' ∧ q' ≤ q + 16 * sz_RowS l := by
  unfold sz_RowS at hB
  have p0 := sum_nonneg sz_Row_0 l
  have step : ∀ k (i : Nat) (s : List Row) (x : Row) (q : Int), s.length = l.length → s[i]? = some x → 0 ≤ q → q + (fun x => 16 * (1 + sz_Row x)) x ≤ 4611686018427387904 → ∃ x' q', laws_markRowS.l0 (k + 1) s q i = laws_markRowS.l0 k (s.set i x') q' ((i + 1 : Nat) : Int) ∧ q ≤ q' ∧ q' ≤ q + (fun x => 16 * (1 + sz_Row x)) x ∧ Hd_Row x' q q' := by
    intro k i s x q hn hx hq hB
    have hi := at_lt hx
    have g0 : getO s i = some x := by rw [getO_nat, hx]
    have hB : q + 16 * (1 + sz_Row x) ≤ 4611686018427387904 := hB
    have hzx : sz_Row x ≤ 288230376151711744 := by omega
    unfold sz_Row at hB
    have p_Cells := sz_IntS_0 x.Cells
    obtain ⟨c1, q1, m1, d1, a1, b1⟩ := mark_IntS x.Cells (q + 1) (by omega) (by omega)
    have w0 : w64 (q + 1) = q + 1 := w64_id (by omega)
    refine ⟨(Row.mk (q) (c1)), q1, ?_, by omega, ?_, ⟨rfl, d1, a1⟩⟩
    · rw [laws_markRowS.l0, lenI_eq, decide_eq_true (by omega), cond_true]
      simp only [g0, get_set g0, setI_setI, Option.bind_some, m1, w0]
      rw [w64_succ (by omega), setI_nat]
    · show _ ≤ q + 16 * (1 + sz_Row x); simp only [sz_Row]; omega
  have last : ∀ k (s : List Row) (q : Int) (i : Nat), i = s.length → laws_markRowS.l0 (k + 1) s q i = some (s, q) := by
    intro k s q i hi
    rw [laws_markRowS.l0, lenI_eq, decide_eq_false (by omega), cond_false]
  obtain ⟨l', q', m, hl, _, lo, hi, hd⟩ := loop_mark (fm := laws_markRowS.l0) l.length 4611686018427387904 (fun x => 16 * (1 + sz_Row x)) Hd_Row (fun x => by have := sz_Row_0 x; show 0 ≤ 16 * (1 + sz_Row x); omega) step last (((lenI l) - 0).toNat + 1) 0 l q rfl (by omega) (by simp only [lenI_eq]; omega) hq (by rw [List.drop_zero, sum_c sz_Row]; omega)
  refine ⟨l', q', m, ?_, lo, ?_⟩
  · unfold laws_heldRowS.f
    refine loop_held (fh := laws_heldRowS.l0 l') (l := l') Hd_Row Hd_Row_mono (fun k i x q q' hx hd hq hB => ?_) (fun k q i hi => ?_) _ 0 q q' (by omega) (by simp only [lenI_eq]; omega) hq (by rw [List.drop_zero, sum_c sz_Row] at hi; omega) (by rw [List.drop_zero] at hd; exact hd)
    · have hi := at_lt hx
      obtain ⟨e0, d1, l1⟩ := hd
      have w0 : w64 (q + 1) = q + 1 := w64_id (by omega)
      have n1 : ¬ q' < 0 := by omega
      rw [laws_heldRowS.l0, lenI_eq, decide_eq_true (by omega), cond_true, getO_nat, hx, Option.bind_some]
      simp only [e0, d1, n1, w0, ne_eq, not_true_eq_false, decide_false, cond_false, Option.bind_some, bo3_self]
      rw [w64_succ (by omega)]
    · rw [laws_heldRowS.l0, lenI_eq, decide_eq_false (by omega), cond_false]
  · rw [List.drop_zero, sum_c sz_Row] at hi; unfold sz_RowS; omega
def Hd_RowS (x : List Row) (q q' : Int) : Prop := laws_heldRowS.f x (q) = some q' ∧ q ≤ q'
theorem Hd_RowS_mono (x : List Row) (q q' : Int) (h : Hd_RowS x q q') : q ≤ q' := by
  obtain ⟨d0, l0⟩ := h
  omega
theorem mark_RowSS (l : List (List Row)) (q : Int) (hq : 0 ≤ q) (hB : q + 16 * sz_RowSS l ≤ 4611686018427387904) : ∃ l' q', laws_markRowSS.f l q = some (l', q') ∧ laws_heldRowSS.f l' q = some q' ∧ q ≤ q' ∧ q' ≤ q + 16 * sz_RowSS l := by
  unfold sz_RowSS at hB
  have p0 := sum_nonneg sz_RowS_0 l
  have step : ∀ k (i : Nat) (s : List (List Row)) (x : List Row) (q : Int), s.length = l.length → s[i]? = some x → 0 ≤ q → q + (fun x => 16 * (1 + sz_RowS x)) x ≤ 4611686018427387904 → ∃ x' q', laws_markRowSS.l0 (k + 1) s q i = laws_markRowSS.l0 k (s.set i x') q' ((i + 1 : Nat) : Int) ∧ q ≤ q' ∧ q' ≤ q + (fun x => 16 * (1 + sz_RowS x)) x ∧ Hd_RowS x' q q' := by
    intro k i s x q hn hx hq hB
    have hi := at_lt hx
    have g0 : getO s i = some x := by rw [getO_nat, hx]
    have hB : q + 16 * (1 + sz_RowS x) ≤ 4611686018427387904 := hB
    have hzx : sz_RowS x ≤ 288230376151711744 := by omega
    have p_x := sz_RowS_0 x
    obtain ⟨c0, q1, m0, d0, a0, b0⟩ := mark_RowS x (q) (by omega) (by omega)
    refine ⟨(c0), q1, ?_, by omega, ?_, ⟨d0, a0⟩⟩
    · rw [laws_markRowSS.l0, lenI_eq, decide_eq_true (by omega), cond_true]
      simp only [g0, get_set g0, setI_setI, Option.bind_some, m0]
      rw [w64_succ (by omega), setI_nat]
    · show _ ≤ q + 16 * (1 + sz_RowS x); omega
  have last : ∀ k (s : List (List Row)) (q : Int) (i : Nat), i = s.length → laws_markRowSS.l0 (k + 1) s q i = some (s, q) := by
    intro k s q i hi
    rw [laws_markRowSS.l0, lenI_eq, decide_eq_false (by omega), cond_false]
  obtain ⟨l', q', m, hl, _, lo, hi, hd⟩ := loop_mark (fm := laws_markRowSS.l0) l.length 4611686018427387904 (fun x => 16 * (1 + sz_RowS x)) Hd_RowS (fun x => by have := sz_RowS_0 x; show 0 ≤ 16 * (1 + sz_RowS x); omega) step last (((lenI l) - 0).toNat + 1) 0 l q rfl (by omega) (by simp only [lenI_eq]; omega) hq (by rw [List.drop_zero, sum_c sz_RowS]; omega)
  refine ⟨l', q', m, ?_, lo, ?_⟩
  · unfold laws_heldRowSS.f
    refine loop_held (fh := laws_heldRowSS.l0 l') (l := l') Hd_RowS Hd_RowS_mono (fun k i x q q' hx hd hq hB => ?_) (fun k q i hi => ?_) _ 0 q q' (by omega) (by simp only [lenI_eq]; omega) hq (by rw [List.drop_zero, sum_c sz_RowS] at hi; omega) (by rw [List.drop_zero] at hd; exact hd)
    · have hi := at_lt hx
      obtain ⟨d0, l0⟩ := hd
      have n0 : ¬ q' < 0 := by omega
      rw [laws_heldRowSS.l0, lenI_eq, decide_eq_true (by omega), cond_true, getO_nat, hx, Option.bind_some]
      simp only [d0, n0, ne_eq, not_true_eq_false, decide_false, cond_false, Option.bind_some, bo3_self]
      rw [w64_succ (by omega)]
    · rw [laws_heldRowSS.l0, lenI_eq, decide_eq_false (by omega), cond_false]
  · rw [List.drop_zero, sum_c sz_RowS] at hi; unfold sz_RowSS; omega
theorem mark_Store (x : Store) (q : Int) (hq : 0 ≤ q) (hB : q + 16 * sz_Store x ≤ 4611686018427387904) : ∃ s0 s1 q', laws_markStore.f x q = some ((Store.mk (Schema.mk s0) x.Version s1), q') ∧ laws_heldStore.f (Store.mk (Schema.mk s0) x.Version s1) q = some q' ∧ q ≤ q' ∧ q' ≤ q + 16 * sz_Store x := by
  unfold sz_Store at hB ⊢
  have p_Schema := sz_Schema_0 x.Schema
  have p_Tables := sz_RowSS_0 x.Tables
  obtain ⟨s0, q0, m0, d0, a0, b0⟩ := mark_Schema x.Schema q (by omega) (by omega)
  have n0 : ¬ q0 < 0 := by omega
  obtain ⟨s1, q1, m1, d1, a1, b1⟩ := mark_RowSS x.Tables q0 (by omega) (by omega)
  have n1 : ¬ q1 < 0 := by omega
  refine ⟨s0, s1, q1, ?_, ?_, by omega, by omega⟩
  · unfold laws_markStore.f; simp only [m0, m1, Option.bind_some]
  · unfold laws_heldStore.f; simp only [d0, n0, d1, n1, decide_false, cond_false, Option.bind_some]
def Hd_Change (x : Change) (q q' : Int) : Prop := ∃ q1, x.Table = q ∧ x.Had = decide (Int.tmod (q + 1) 3 = 0) ∧ x.Has = decide (Int.tmod (q + 1 + 1) 3 = 0) ∧ x.Old.Id = q + 1 + 1 + 1 ∧ laws_heldIntS.f x.Old.Cells (q + 1 + 1 + 1 + 1) = some q1 ∧ q + 1 + 1 + 1 + 1 ≤ q1 ∧ x.New.Id = q1 ∧ laws_heldIntS.f x.New.Cells (q1 + 1) = some q' ∧ q1 + 1 ≤ q'
theorem Hd_Change_mono (x : Change) (q q' : Int) (h : Hd_Change x q q') : q ≤ q' := by
  obtain ⟨q1, e0, e1, e2, e3, d4, l4, e5, d6, l6⟩ := h
  omega
theorem mark_ChangeS (l : List Change) (q : Int) (hq : 0 ≤ q) (hB : q + 16 * sz_ChangeS l ≤ 4611686018427387904) : ∃ l' q', laws_markChangeS.f l q = some (l', q') ∧ laws_heldChangeS.f l' q = some q' ∧ q ≤ q' ∧ q' ≤ q + 16 * sz_ChangeS l := by
  unfold sz_ChangeS at hB
  have p0 := sum_nonneg sz_Change_0 l
  have step : ∀ k (i : Nat) (s : List Change) (x : Change) (q : Int), s.length = l.length → s[i]? = some x → 0 ≤ q → q + (fun x => 16 * (1 + sz_Change x)) x ≤ 4611686018427387904 → ∃ x' q', laws_markChangeS.l0 (k + 1) s q i = laws_markChangeS.l0 k (s.set i x') q' ((i + 1 : Nat) : Int) ∧ q ≤ q' ∧ q' ≤ q + (fun x => 16 * (1 + sz_Change x)) x ∧ Hd_Change x' q q' := by
    intro k i s x q hn hx hq hB
    have hi := at_lt hx
    have g0 : getO s i = some x := by rw [getO_nat, hx]
    have hB : q + 16 * (1 + sz_Change x) ≤ 4611686018427387904 := hB
    have hzx : sz_Change x ≤ 288230376151711744 := by omega
    simp only [sz_Change, sz_Row] at hB
    have p_Old_Cells := sz_IntS_0 x.Old.Cells
    have p_New_Cells := sz_IntS_0 x.New.Cells
    obtain ⟨c4, q1, m4, d4, a4, b4⟩ := mark_IntS x.Old.Cells (q + 1 + 1 + 1 + 1) (by omega) (by omega)
    obtain ⟨c6, q2, m6, d6, a6, b6⟩ := mark_IntS x.New.Cells (q1 + 1) (by omega) (by omega)
    have w0 : w64 (q + 1) = q + 1 := w64_id (by omega)
    have w1 : w64 (q + 1 + 1) = q + 1 + 1 := w64_id (by omega)
    have w2 : w64 (q + 1 + 1 + 1) = q + 1 + 1 + 1 := w64_id (by omega)
    have w3 : w64 (q + 1 + 1 + 1 + 1) = q + 1 + 1 + 1 + 1 := w64_id (by omega)
    have w5 : w64 (q1 + 1) = q1 + 1 := w64_id (by omega)
    refine ⟨(Change.mk (q) ((decide (Int.tmod (q + 1) 3 = 0))) ((decide (Int.tmod (q + 1 + 1) 3 = 0))) (Row.mk (q + 1 + 1 + 1) (c4)) (Row.mk (q1) (c6))), q2, ?_, by omega, ?_, ⟨q1, rfl, rfl, rfl, rfl, d4, a4, rfl, d6, a6⟩⟩
    · rw [laws_markChangeS.l0, lenI_eq, decide_eq_true (by omega), cond_true]
      simp only [g0, get_set g0, setI_setI, Option.bind_some, m4, m6, w0, w1, w2, w3, w5]
      rw [w64_succ (by omega), setI_nat]
    · show _ ≤ q + 16 * (1 + sz_Change x); simp only [sz_Change, sz_Row]; omega
  have last : ∀ k (s : List Change) (q : Int) (i : Nat), i = s.length → laws_markChangeS.l0 (k + 1) s q i = some (s, q) := by
    intro k s q i hi
    rw [laws_markChangeS.l0, lenI_eq, decide_eq_false (by omega), cond_false]
  obtain ⟨l', q', m, hl, _, lo, hi, hd⟩ := loop_mark (fm := laws_markChangeS.l0) l.length 4611686018427387904 (fun x => 16 * (1 + sz_Change x)) Hd_Change (fun x => by have := sz_Change_0 x; show 0 ≤ 16 * (1 + sz_Change x); omega) step last (((lenI l) - 0).toNat + 1) 0 l q rfl (by omega) (by simp only [lenI_eq]; omega) hq (by rw [List.drop_zero, sum_c sz_Change]; omega)
  refine ⟨l', q', m, ?_, lo, ?_⟩
  · unfold laws_heldChangeS.f
    refine loop_held (fh := laws_heldChangeS.l0 l') (l := l') Hd_Change Hd_Change_mono (fun k i x q q' hx hd hq hB => ?_) (fun k q i hi => ?_) _ 0 q q' (by omega) (by simp only [lenI_eq]; omega) hq (by rw [List.drop_zero, sum_c sz_Change] at hi; omega) (by rw [List.drop_zero] at hd; exact hd)
    · have hi := at_lt hx
      obtain ⟨q1, e0, e1, e2, e3, d4, l4, e5, d6, l6⟩ := hd
      have w0 : w64 (q + 1) = q + 1 := w64_id (by omega)
      have w1 : w64 (q + 1 + 1) = q + 1 + 1 := w64_id (by omega)
      have w2 : w64 (q + 1 + 1 + 1) = q + 1 + 1 + 1 := w64_id (by omega)
      have w3 : w64 (q + 1 + 1 + 1 + 1) = q + 1 + 1 + 1 + 1 := w64_id (by omega)
      have w5 : w64 (q1 + 1) = q1 + 1 := w64_id (by omega)
      have n4 : ¬ q1 < 0 := by omega
      have n6 : ¬ q' < 0 := by omega
      rw [laws_heldChangeS.l0, lenI_eq, decide_eq_true (by omega), cond_true, getO_nat, hx, Option.bind_some]
      simp only [e0, e1, e2, e3, d4, n4, e5, d6, n6, w0, w1, w2, w3, w5, ne_eq, not_true_eq_false, decide_false, cond_false, Option.bind_some, bo3_self]
      rw [w64_succ (by omega)]
    · rw [laws_heldChangeS.l0, lenI_eq, decide_eq_false (by omega), cond_false]
  · rw [List.drop_zero, sum_c sz_Change] at hi; unfold sz_ChangeS; omega
def Hd_ChangeS (x : List Change) (q q' : Int) : Prop := laws_heldChangeS.f x (q) = some q' ∧ q ≤ q'
theorem Hd_ChangeS_mono (x : List Change) (q q' : Int) (h : Hd_ChangeS x q q') : q ≤ q' := by
  obtain ⟨d0, l0⟩ := h
  omega
theorem mark_ChangeSS (l : List (List Change)) (q : Int) (hq : 0 ≤ q) (hB : q + 16 * sz_ChangeSS l ≤ 4611686018427387904) : ∃ l' q', laws_markChangeSS.f l q = some (l', q') ∧ laws_heldChangeSS.f l' q = some q' ∧ q ≤ q' ∧ q' ≤ q + 16 * sz_ChangeSS l := by
  unfold sz_ChangeSS at hB
  have p0 := sum_nonneg sz_ChangeS_0 l
  have step : ∀ k (i : Nat) (s : List (List Change)) (x : List Change) (q : Int), s.length = l.length → s[i]? = some x → 0 ≤ q → q + (fun x => 16 * (1 + sz_ChangeS x)) x ≤ 4611686018427387904 → ∃ x' q', laws_markChangeSS.l0 (k + 1) s q i = laws_markChangeSS.l0 k (s.set i x') q' ((i + 1 : Nat) : Int) ∧ q ≤ q' ∧ q' ≤ q + (fun x => 16 * (1 + sz_ChangeS x)) x ∧ Hd_ChangeS x' q q' := by
    intro k i s x q hn hx hq hB
    have hi := at_lt hx
    have g0 : getO s i = some x := by rw [getO_nat, hx]
    have hB : q + 16 * (1 + sz_ChangeS x) ≤ 4611686018427387904 := hB
    have hzx : sz_ChangeS x ≤ 288230376151711744 := by omega
    have p_x := sz_ChangeS_0 x
    obtain ⟨c0, q1, m0, d0, a0, b0⟩ := mark_ChangeS x (q) (by omega) (by omega)
    refine ⟨(c0), q1, ?_, by omega, ?_, ⟨d0, a0⟩⟩
    · rw [laws_markChangeSS.l0, lenI_eq, decide_eq_true (by omega), cond_true]
      simp only [g0, get_set g0, setI_setI, Option.bind_some, m0]
      rw [w64_succ (by omega), setI_nat]
    · show _ ≤ q + 16 * (1 + sz_ChangeS x); omega
  have last : ∀ k (s : List (List Change)) (q : Int) (i : Nat), i = s.length → laws_markChangeSS.l0 (k + 1) s q i = some (s, q) := by
    intro k s q i hi
    rw [laws_markChangeSS.l0, lenI_eq, decide_eq_false (by omega), cond_false]
  obtain ⟨l', q', m, hl, _, lo, hi, hd⟩ := loop_mark (fm := laws_markChangeSS.l0) l.length 4611686018427387904 (fun x => 16 * (1 + sz_ChangeS x)) Hd_ChangeS (fun x => by have := sz_ChangeS_0 x; show 0 ≤ 16 * (1 + sz_ChangeS x); omega) step last (((lenI l) - 0).toNat + 1) 0 l q rfl (by omega) (by simp only [lenI_eq]; omega) hq (by rw [List.drop_zero, sum_c sz_ChangeS]; omega)
  refine ⟨l', q', m, ?_, lo, ?_⟩
  · unfold laws_heldChangeSS.f
    refine loop_held (fh := laws_heldChangeSS.l0 l') (l := l') Hd_ChangeS Hd_ChangeS_mono (fun k i x q q' hx hd hq hB => ?_) (fun k q i hi => ?_) _ 0 q q' (by omega) (by simp only [lenI_eq]; omega) hq (by rw [List.drop_zero, sum_c sz_ChangeS] at hi; omega) (by rw [List.drop_zero] at hd; exact hd)
    · have hi := at_lt hx
      obtain ⟨d0, l0⟩ := hd
      have n0 : ¬ q' < 0 := by omega
      rw [laws_heldChangeSS.l0, lenI_eq, decide_eq_true (by omega), cond_true, getO_nat, hx, Option.bind_some]
      simp only [d0, n0, ne_eq, not_true_eq_false, decide_false, cond_false, Option.bind_some, bo3_self]
      rw [w64_succ (by omega)]
    · rw [laws_heldChangeSS.l0, lenI_eq, decide_eq_false (by omega), cond_false]
  · rw [List.drop_zero, sum_c sz_ChangeS] at hi; unfold sz_ChangeSS; omega
theorem mark_Record (x : Record) (q : Int) (hq : 0 ≤ q) (hB : q + 16 * sz_Record x ≤ 4611686018427387904) : ∃ s0 s1 s2 q', laws_markRecord.f x q = some ((Record.mk (Store.mk (Schema.mk s0) x.First.Version s1) s2), q') ∧ laws_heldRecord.f (Record.mk (Store.mk (Schema.mk s0) x.First.Version s1) s2) q = some q' ∧ q ≤ q' ∧ q' ≤ q + 16 * sz_Record x := by
  unfold sz_Record at hB ⊢
  have p_First := sz_Store_0 x.First
  have p_Steps := sz_ChangeSS_0 x.Steps
  obtain ⟨s0, s1, q0, m0, d0, a0, b0⟩ := mark_Store x.First q (by omega) (by omega)
  have n0 : ¬ q0 < 0 := by omega
  obtain ⟨s2, q1, m1, d1, a1, b1⟩ := mark_ChangeSS x.Steps q0 (by omega) (by omega)
  have n1 : ¬ q1 < 0 := by omega
  refine ⟨s0, s1, s2, q1, ?_, ?_, by omega, by omega⟩
  · unfold laws_markRecord.f; simp only [m0, m1, Option.bind_some]
  · unfold laws_heldRecord.f; simp only [d0, n0, d1, n1, decide_false, cond_false, Option.bind_some]
theorem laws_szIntS_eq (a : List Int) (n : Int) (hn : 0 ≤ n ∧ n ≤ 1048576) (hb : IntS_b a) : laws_szIntS.f a n = some (if n < sz_IntS a then -1 else n - sz_IntS a) := by
  unfold laws_szIntS.f sz_IntS
  unfold IntS_b at hb
  rw [lenI_eq, w64_id (by omega)]
  by_cases c : n < (a.length : Int)
  · rw [if_pos c, decide_eq_true (by omega), cond_true]
  · rw [if_neg c, decide_eq_false (by omega), cond_false]
theorem laws_szSchema_eq (a : Schema) (n : Int) (hn : 0 ≤ n ∧ n ≤ 1048576) (hb : Schema_b a) : laws_szSchema.f a n = some (if n < sz_Schema a then -1 else n - sz_Schema a) := by
  unfold laws_szSchema.f sz_Schema
  have h0 := hb
  have p_Cols := sz_IntS_0 a.Cols
  rw [laws_szIntS_eq _ _ (by omega) h0, Option.bind_some]
  by_cases c0 : n < sz_IntS a.Cols
  · rw [if_pos c0]; rfl
  · rw [if_neg c0, decide_eq_false (by omega), cond_false]
theorem laws_szRow_eq (a : Row) (n : Int) (hn : 0 ≤ n ∧ n ≤ 1048576) (hb : Row_b a) : laws_szRow.f a n = some (if n < sz_Row a then -1 else n - sz_Row a) := by
  unfold laws_szRow.f sz_Row
  have h0 := hb
  have p_Cells := sz_IntS_0 a.Cells
  rw [laws_szIntS_eq _ _ (by omega) h0, Option.bind_some]
  by_cases c0 : n < sz_IntS a.Cells
  · rw [if_pos c0]; rfl
  · rw [if_neg c0, decide_eq_false (by omega), cond_false]
theorem laws_szRowS_eq (a : List Row) (n : Int) (hn : 0 ≤ n ∧ n ≤ 1048576) (hb : RowS_b a) : laws_szRowS.f a n = some (if n < sz_RowS a then -1 else n - sz_RowS a) := by
  unfold laws_szRowS.f sz_RowS
  obtain ⟨h1, h2⟩ := hb
  have p := sum_nonneg sz_Row_0 a
  rw [lenI_eq, w64_id (by omega)]
  by_cases c : n < (a.length : Int)
  · rw [if_pos (by omega), decide_eq_true (by omega), cond_true]
  · rw [decide_eq_false (by omega), cond_false]
    have key := loop_sz (f := laws_szRowS.l0 a) (l := a) sz_Row sz_Row_0 (fun k i acc x hx h0 h0' => by
      have hi := at_lt hx
      rw [laws_szRowS.l0, lenI_eq, decide_eq_true (by omega), cond_true, getO_nat, hx, Option.bind_some, laws_szRow_eq x acc ⟨h0, h0'⟩ (h2 x (List.mem_of_getElem? hx)), Option.bind_some, w64_succ (by omega)]
      by_cases d : acc < sz_Row x
      · rw [if_pos d, if_pos d, decide_eq_true (by omega), cond_true]
      · rw [if_neg d, if_neg d, decide_eq_false (by omega), cond_false]) (fun k acc i hi => by
      rw [laws_szRowS.l0, lenI_eq, decide_eq_false (by omega), cond_false]) (((a.length : Int) - 0).toNat + 1) 0 (n - a.length) (by omega) (by omega) (by omega) (by omega)
    rw [List.drop_zero] at key
    refine Eq.trans key ?_
    congr 1
    by_cases d : n - a.length < (a.map sz_Row).sum
    · rw [if_pos d, if_pos (by omega)]
    · rw [if_neg d, if_neg (by omega)]; omega
theorem laws_szRowSS_eq (a : List (List Row)) (n : Int) (hn : 0 ≤ n ∧ n ≤ 1048576) (hb : RowSS_b a) : laws_szRowSS.f a n = some (if n < sz_RowSS a then -1 else n - sz_RowSS a) := by
  unfold laws_szRowSS.f sz_RowSS
  obtain ⟨h1, h2⟩ := hb
  have p := sum_nonneg sz_RowS_0 a
  rw [lenI_eq, w64_id (by omega)]
  by_cases c : n < (a.length : Int)
  · rw [if_pos (by omega), decide_eq_true (by omega), cond_true]
  · rw [decide_eq_false (by omega), cond_false]
    have key := loop_sz (f := laws_szRowSS.l0 a) (l := a) sz_RowS sz_RowS_0 (fun k i acc x hx h0 h0' => by
      have hi := at_lt hx
      rw [laws_szRowSS.l0, lenI_eq, decide_eq_true (by omega), cond_true, getO_nat, hx, Option.bind_some, laws_szRowS_eq x acc ⟨h0, h0'⟩ (h2 x (List.mem_of_getElem? hx)), Option.bind_some, w64_succ (by omega)]
      by_cases d : acc < sz_RowS x
      · rw [if_pos d, if_pos d, decide_eq_true (by omega), cond_true]
      · rw [if_neg d, if_neg d, decide_eq_false (by omega), cond_false]) (fun k acc i hi => by
      rw [laws_szRowSS.l0, lenI_eq, decide_eq_false (by omega), cond_false]) (((a.length : Int) - 0).toNat + 1) 0 (n - a.length) (by omega) (by omega) (by omega) (by omega)
    rw [List.drop_zero] at key
    refine Eq.trans key ?_
    congr 1
    by_cases d : n - a.length < (a.map sz_RowS).sum
    · rw [if_pos d, if_pos (by omega)]
    · rw [if_neg d, if_neg (by omega)]; omega
theorem laws_szStore_eq (a : Store) (n : Int) (hn : 0 ≤ n ∧ n ≤ 1048576) (hb : Store_b a) : laws_szStore.f a n = some (if n < sz_Store a then -1 else n - sz_Store a) := by
  unfold laws_szStore.f sz_Store
  obtain ⟨h0, h1⟩ := hb
  have p_Schema := sz_Schema_0 a.Schema
  have p_Tables := sz_RowSS_0 a.Tables
  rw [laws_szSchema_eq _ _ (by omega) h0, Option.bind_some]
  by_cases c0 : n < sz_Schema a.Schema
  · rw [if_pos c0, if_pos (by omega)]; rfl
  · rw [if_neg c0, decide_eq_false (by omega), cond_false]
    rw [laws_szRowSS_eq _ _ (by omega) h1, Option.bind_some]
    by_cases c1 : n - sz_Schema a.Schema < sz_RowSS a.Tables
    · rw [if_pos c1, if_pos (by omega)]; rfl
    · rw [if_neg c1, decide_eq_false (by omega), cond_false]
      rw [if_neg (by omega)]
      congr 1; omega
theorem laws_szChange_eq (a : Change) (n : Int) (hn : 0 ≤ n ∧ n ≤ 1048576) (hb : Change_b a) : laws_szChange.f a n = some (if n < sz_Change a then -1 else n - sz_Change a) := by
  unfold laws_szChange.f sz_Change
  obtain ⟨h0, h1⟩ := hb
  have p_Old := sz_Row_0 a.Old
  have p_New := sz_Row_0 a.New
  rw [laws_szRow_eq _ _ (by omega) h0, Option.bind_some]
  by_cases c0 : n < sz_Row a.Old
  · rw [if_pos c0, if_pos (by omega)]; rfl
  · rw [if_neg c0, decide_eq_false (by omega), cond_false]
    rw [laws_szRow_eq _ _ (by omega) h1, Option.bind_some]
    by_cases c1 : n - sz_Row a.Old < sz_Row a.New
    · rw [if_pos c1, if_pos (by omega)]; rfl
    · rw [if_neg c1, decide_eq_false (by omega), cond_false]
      rw [if_neg (by omega)]
      congr 1; omega
theorem laws_szChangeS_eq (a : List Change) (n : Int) (hn : 0 ≤ n ∧ n ≤ 1048576) (hb : ChangeS_b a) : laws_szChangeS.f a n = some (if n < sz_ChangeS a then -1 else n - sz_ChangeS a) := by
  unfold laws_szChangeS.f sz_ChangeS
  obtain ⟨h1, h2⟩ := hb
  have p := sum_nonneg sz_Change_0 a
  rw [lenI_eq, w64_id (by omega)]
  by_cases c : n < (a.length : Int)
  · rw [if_pos (by omega), decide_eq_true (by omega), cond_true]
  · rw [decide_eq_false (by omega), cond_false]
    have key := loop_sz (f := laws_szChangeS.l0 a) (l := a) sz_Change sz_Change_0 (fun k i acc x hx h0 h0' => by
      have hi := at_lt hx
      rw [laws_szChangeS.l0, lenI_eq, decide_eq_true (by omega), cond_true, getO_nat, hx, Option.bind_some, laws_szChange_eq x acc ⟨h0, h0'⟩ (h2 x (List.mem_of_getElem? hx)), Option.bind_some, w64_succ (by omega)]
      by_cases d : acc < sz_Change x
      · rw [if_pos d, if_pos d, decide_eq_true (by omega), cond_true]
      · rw [if_neg d, if_neg d, decide_eq_false (by omega), cond_false]) (fun k acc i hi => by
      rw [laws_szChangeS.l0, lenI_eq, decide_eq_false (by omega), cond_false]) (((a.length : Int) - 0).toNat + 1) 0 (n - a.length) (by omega) (by omega) (by omega) (by omega)
    rw [List.drop_zero] at key
    refine Eq.trans key ?_
    congr 1
    by_cases d : n - a.length < (a.map sz_Change).sum
    · rw [if_pos d, if_pos (by omega)]
    · rw [if_neg d, if_neg (by omega)]; omega
theorem laws_szChangeSS_eq (a : List (List Change)) (n : Int) (hn : 0 ≤ n ∧ n ≤ 1048576) (hb : ChangeSS_b a) : laws_szChangeSS.f a n = some (if n < sz_ChangeSS a then -1 else n - sz_ChangeSS a) := by
  unfold laws_szChangeSS.f sz_ChangeSS
  obtain ⟨h1, h2⟩ := hb
  have p := sum_nonneg sz_ChangeS_0 a
  rw [lenI_eq, w64_id (by omega)]
  by_cases c : n < (a.length : Int)
  · rw [if_pos (by omega), decide_eq_true (by omega), cond_true]
  · rw [decide_eq_false (by omega), cond_false]
    have key := loop_sz (f := laws_szChangeSS.l0 a) (l := a) sz_ChangeS sz_ChangeS_0 (fun k i acc x hx h0 h0' => by
      have hi := at_lt hx
      rw [laws_szChangeSS.l0, lenI_eq, decide_eq_true (by omega), cond_true, getO_nat, hx, Option.bind_some, laws_szChangeS_eq x acc ⟨h0, h0'⟩ (h2 x (List.mem_of_getElem? hx)), Option.bind_some, w64_succ (by omega)]
      by_cases d : acc < sz_ChangeS x
      · rw [if_pos d, if_pos d, decide_eq_true (by omega), cond_true]
      · rw [if_neg d, if_neg d, decide_eq_false (by omega), cond_false]) (fun k acc i hi => by
      rw [laws_szChangeSS.l0, lenI_eq, decide_eq_false (by omega), cond_false]) (((a.length : Int) - 0).toNat + 1) 0 (n - a.length) (by omega) (by omega) (by omega) (by omega)
    rw [List.drop_zero] at key
    refine Eq.trans key ?_
    congr 1
    by_cases d : n - a.length < (a.map sz_ChangeS).sum
    · rw [if_pos d, if_pos (by omega)]
    · rw [if_neg d, if_neg (by omega)]; omega
theorem laws_szRecord_eq (a : Record) (n : Int) (hn : 0 ≤ n ∧ n ≤ 1048576) (hb : Record_b a) : laws_szRecord.f a n = some (if n < sz_Record a then -1 else n - sz_Record a) := by
  unfold laws_szRecord.f sz_Record
  obtain ⟨h0, h1⟩ := hb
  have p_First := sz_Store_0 a.First
  have p_Steps := sz_ChangeSS_0 a.Steps
  rw [laws_szStore_eq _ _ (by omega) h0, Option.bind_some]
  by_cases c0 : n < sz_Store a.First
  · rw [if_pos c0, if_pos (by omega)]; rfl
  · rw [if_neg c0, decide_eq_false (by omega), cond_false]
    rw [laws_szChangeSS_eq _ _ (by omega) h1, Option.bind_some]
    by_cases c1 : n - sz_Store a.First < sz_ChangeSS a.Steps
    · rw [if_pos c1, if_pos (by omega)]; rfl
    · rw [if_neg c1, decide_eq_false (by omega), cond_false]
      rw [if_neg (by omega)]
      congr 1; omega
theorem spec_l1In_eq (x y z : Int) : spec_l1In.f x y z = some (decide (y ≤ x ∧ x ≤ z)) := by
  unfold spec_l1In.f
  rw [bo3_and, Bool.decide_and]

def schemaB (s : Schema) : Bool := s.Cols.all (fun n => decide (1 ≤ n ∧ n ≤ 4)) && decide (1 ≤ (s.Cols.length : Int) ∧ (s.Cols.length : Int) ≤ 3)

theorem spec_SchemaOk_eq (s : Schema) (h : Schema_b s) : spec_SchemaOk.f s = some (schemaB s) := by
  have hl : s.Cols.length ≤ 9223372036854775807 := h
  unfold spec_SchemaOk.f joinK
  refine (loop_all (f := spec_SchemaOk.l0 s _) (l := s.Cols) (fun _ n => decide (1 ≤ n ∧ n ≤ 4)) (some false) (some (decide (1 ≤ (s.Cols.length : Int) ∧ (s.Cols.length : Int) ≤ 3))) (fun k i x hx => ?_) (fun k i hi => ?_) _ 0 (by omega) (by (try simp only [lenI_eq]); omega)).trans ?_
  · have hi := at_lt hx
    rw [spec_SchemaOk.l0, lenI_eq, decide_eq_true (by omega), cond_true, getO_nat, hx, Option.bind_some, spec_l1In_eq, Option.bind_some, bo3_not, w64_succ (by omega)]
    cases decide (1 ≤ x ∧ x ≤ 4) <;> rfl
  · rw [spec_SchemaOk.l0, lenI_eq, decide_eq_false (by omega), cond_false, spec_l1In_eq, Option.bind_some]
  · rw [allFrom_zero, schemaB]
    cases s.Cols.all fun n => decide (1 ≤ n ∧ n ≤ 4) <;> rfl

def rowB (s : Schema) (t : Int) (r : Row) : Bool :=
  schemaB s && decide (0 ≤ t ∧ t ≤ (s.Cols.length : Int) - 1) && decide (1 ≤ r.Id ∧ r.Id ≤ 999) && decide ((r.Cells.length : Int) = s.Cols.getD t.toNat 0) && r.Cells.all fun n => decide (-1000000000 ≤ n ∧ n ≤ 1000000000)
def rowsB (s : Schema) (t : Int) (rows : List Row) : Bool :=
  allFrom (fun i r => rowB s t r && !(decide (0 < i) && decide (r.Id ≤ (rows.getD (i - 1) default).Id))) rows 0 && (schemaB s && decide (0 ≤ t ∧ t ≤ (s.Cols.length : Int) - 1) && decide (rows.length ≤ 24))
theorem schema_len {s : Schema} (h : schemaB s = true) : s.Cols.length ≤ 3 := by
  unfold schemaB at h
  rw [Bool.and_eq_true] at h
  have := of_decide_eq_true h.2
  omega
theorem rows_row {s : Schema} {t : Int} {rows : List Row} (h : rowsB s t rows = true) {i : Nat} {r : Row} (hr : rows[i]? = some r) : rowB s t r = true := by
  unfold rowsB at h
  rw [Bool.and_eq_true] at h
  have := allFrom_iff.1 h.1 i r hr
  rw [Bool.and_eq_true] at this
  exact this.1
theorem rows_len {s : Schema} {t : Int} {rows : List Row} (h : rowsB s t rows = true) : rows.length ≤ 24 := by
  unfold rowsB at h
  simp only [Bool.and_eq_true, decide_eq_true_eq] at h
  exact h.2.2
theorem row_cells {s : Schema} {t : Int} {r : Row} (h : rowB s t r = true) : (r.Cells.length : Int) = s.Cols.getD t.toNat 0 := by
  unfold rowB at h
  simp only [Bool.and_eq_true, decide_eq_true_eq] at h
  exact h.1.2

theorem spec_RowOk_eq (s : Schema) (t : Int) (r : Row) (hs : Schema_b s) (hr : Row_b r) : spec_RowOk.f s t r = some (rowB s t r) := by
  have hl : s.Cols.length ≤ 9223372036854775807 := hs
  have hrl : r.Cells.length ≤ 9223372036854775807 := hr
  unfold spec_RowOk.f rowB
  rw [spec_SchemaOk_eq _ hs, Option.bind_some, lenI_eq, w64_id (by omega), spec_l1In_eq, spec_l1In_eq]
  cases schemaB s with
  | false => rfl
  | true =>
    by_cases d : 0 ≤ t ∧ t ≤ (s.Cols.length : Int) - 1
    case neg => rw [decide_eq_false d]; rfl
    rw [decide_eq_true d, getO_Int d]
    by_cases d2 : 1 ≤ r.Id ∧ r.Id ≤ 999
    case neg => rw [decide_eq_false d2]; rfl
    rw [decide_eq_true d2]
    simp only [bo3_F, bo3_T, gd_true, Option.bind_some, Bool.true_and]
    by_cases d3 : (r.Cells.length : Int) = s.Cols.getD t.toNat 0
    case neg => rw [show decide (lenI r.Cells ≠ s.Cols.getD t.toNat 0) = true from decide_eq_true d3, decide_eq_false d3]; rfl
    rw [show decide (lenI r.Cells ≠ s.Cols.getD t.toNat 0) = false from decide_eq_false (fun h => h d3), decide_eq_true d3, cond_false, Bool.true_and]
    refine (loop_all (f := spec_RowOk.l0 r) (l := r.Cells) (fun _ n => decide (-1000000000 ≤ n ∧ n ≤ 1000000000)) (some false) (some true) (fun k i x hx => ?_) (fun k i hi => ?_) _ 0 (by omega) (by (try simp only [lenI_eq]); omega)).trans ?_
    · have hi := at_lt hx
      rw [spec_RowOk.l0, lenI_eq, decide_eq_true (by omega), cond_true, getO_nat, hx, Option.bind_some, spec_l1In_eq, Option.bind_some, bo3_not, w64_succ (by omega)]
      cases decide (-1000000000 ≤ x ∧ x ≤ 1000000000) <;> rfl
    · rw [spec_RowOk.l0, lenI_eq, decide_eq_false (by omega), cond_false]
    · rw [allFrom_zero]
      cases r.Cells.all fun n => decide (-1000000000 ≤ n ∧ n ≤ 1000000000) <;> rfl

theorem spec_RowsOk_eq (s : Schema) (t : Int) (rows : List Row) (hs : Schema_b s) (hr : RowS_b rows) : spec_RowsOk.f s t rows = some (rowsB s t rows) := by
  have hl : s.Cols.length ≤ 9223372036854775807 := hs
  obtain ⟨hrl, hr2⟩ := hr
  unfold spec_RowsOk.f rowsB
  simp only [joinK]
  refine (loop_all (f := spec_RowsOk.l0 s t rows _) (l := rows) (fun i r => rowB s t r && !(decide (0 < i) && decide (r.Id ≤ (rows.getD (i - 1) default).Id))) (some false) (some (schemaB s && decide (0 ≤ t ∧ t ≤ (s.Cols.length : Int) - 1) && decide (rows.length ≤ 24))) (fun k i x hx => ?_) (fun k i hi => ?_) _ 0 (by omega) (by (try simp only [lenI_eq]); omega)).trans ?_
  · have hi := at_lt hx
    rw [spec_RowsOk.l0, lenI_eq, decide_eq_true (by omega), cond_true, getO_nat, hx, Option.bind_some, spec_RowOk_eq _ _ _ hs (hr2 x (List.mem_of_getElem? hx)), Option.bind_some, prev_step hx (by omega), Option.bind_some, w64_succ (by omega)]
    rw [show decide (0 < (i : Int)) = decide (0 < i) from by simp]
    cases rowB s t x <;> cases decide (0 < i) <;> (try rfl)
    simp only [bo3_F, bo3_T, Bool.true_and, cond_true]
    by_cases e : x.Id ≤ (rows.getD (i - 1) default).Id
    · simp [e]
    · simp [e]
  · rw [spec_RowsOk.l0, lenI_eq, decide_eq_false (by omega), cond_false, spec_SchemaOk_eq _ hs, Option.bind_some]
    first | rw [impl_hasTable_eq _ _ hs] | rw [lenI_eq s.Cols, w64_id (by omega), spec_l1In_eq]
    have e24 : decide ((rows.length : Int) ≤ 24) = decide (rows.length ≤ 24) := by rw [decide_eq_decide]; omega
    simp only [lenI_eq, e24]
    generalize decide (0 ≤ t ∧ t ≤ (s.Cols.length : Int) - 1) = b1
    generalize decide (rows.length ≤ 24) = b2
    cases schemaB s <;> cases b1 <;> cases b2 <;> rfl
  · cases allFrom (fun i r => rowB s t r && !(decide (0 < i) && decide (r.Id ≤ (rows.getD (i - 1) default).Id))) rows 0 <;> rfl

def storeB (s : Store) : Bool :=
  schemaB s.Schema && decide (0 ≤ s.Version ∧ s.Version ≤ 100000) && decide (s.Tables.length = s.Schema.Cols.length) && allFrom (fun i rows => rowsB s.Schema (i : Int) rows) s.Tables 0
theorem store_table {s : Store} (h : storeB s = true) {i : Nat} {rows : List Row} (hr : s.Tables[i]? = some rows) : rowsB s.Schema i rows = true := by
  unfold storeB at h
  rw [Bool.and_eq_true] at h
  exact allFrom_iff.1 h.2 i rows hr
theorem store_len {s : Store} (h : storeB s = true) : s.Tables.length = s.Schema.Cols.length ∧ schemaB s.Schema = true := by
  unfold storeB at h
  simp only [Bool.and_eq_true, decide_eq_true_eq] at h
  exact ⟨h.1.2, h.1.1.1⟩

theorem spec_version (v : Int) : spec_l1In.f v 0 100000 = some (decide (0 ≤ v ∧ v ≤ 100000)) := spec_l1In_eq _ _ _

theorem spec_StoreOk_eq (s : Store) (hb : Store_b s) : spec_StoreOk.f s = some (storeB s) := by
  obtain ⟨hs, ht, ht2⟩ := hb
  have hl : s.Schema.Cols.length ≤ 9223372036854775807 := hs
  unfold spec_StoreOk.f storeB
  rw [spec_SchemaOk_eq _ hs, Option.bind_some, spec_version]
  cases schemaB s.Schema with
  | false => rfl
  | true =>
    by_cases d : 0 ≤ s.Version ∧ s.Version ≤ 100000
    case neg => rw [decide_eq_false d]; rfl
    rw [decide_eq_true d]
    by_cases d2 : s.Tables.length = s.Schema.Cols.length
    case neg =>
      rw [show decide (lenI s.Tables ≠ lenI s.Schema.Cols) = true from decide_eq_true (by simp only [lenI_eq]; omega), decide_eq_false d2]
      rfl
    rw [show decide (lenI s.Tables ≠ lenI s.Schema.Cols) = false from decide_eq_false (by simp only [lenI_eq]; omega), decide_eq_true d2]
    simp only [bo3_F, bo3_T, gd_true, Option.bind_some, Bool.true_and, cond_false]
    refine (loop_all (f := spec_StoreOk.l0 s) (l := s.Tables) (fun i rows => rowsB s.Schema (i : Int) rows) (some false) (some true) (fun k i x hx => ?_) (fun k i hi => ?_) _ 0 (by omega) (by (try simp only [lenI_eq]); omega)).trans ?_
    · have hi := at_lt hx
      rw [spec_StoreOk.l0, lenI_eq, decide_eq_true (by omega), cond_true, getO_nat, hx, Option.bind_some, spec_RowsOk_eq _ _ _ hs (ht2 x (List.mem_of_getElem? hx)), Option.bind_some, bo3_not, w64_succ (by omega)]
      cases rowsB s.Schema i x <;> rfl
    · rw [spec_StoreOk.l0, lenI_eq, decide_eq_false (by omega), cond_false]
    · cases allFrom (fun i rows => rowsB s.Schema (i : Int) rows) s.Tables 0 <;> rfl

theorem spec_l7Schema_eq (s : Schema) (h : sz_Schema s ≤ 1099511627776) : spec_l7Schema.f s = some s := by
  have : (s.Cols.length : Int) ≤ 1099511627776 := by unfold sz_Schema sz_IntS at h; exact h
  unfold spec_l7Schema.f
  rw [appO_ok (by simp only [List.length_nil]; omega), Option.bind_some, List.nil_append]

theorem row_len {r : Row} {B : Int} (h : sz_Row r ≤ B) : (r.Cells.length : Int) ≤ B := by unfold sz_Row sz_IntS at h; exact h

theorem spec_l6Copy_eq (r : Row) (h : sz_Row r ≤ 1099511627776) : spec_l6Copy.f r = some r := by
  have := row_len h
  unfold spec_l6Copy.f
  rw [appO_ok (by simp only [List.length_nil]; omega), Option.bind_some, List.nil_append]

theorem spec_l6Rows_eq (l : List Row) (h : sz_RowS l ≤ 1099511627776) : spec_l6Rows.f l = some l := by
  unfold sz_RowS at h
  have p := sum_nonneg sz_Row_0 l
  unfold spec_l6Rows.f
  refine loop_copy (f := spec_l6Rows.l0 l) (l := l) some (fun k i x hx => ?_) (fun k s i hi => ?_) _ 0 (by omega) (by (try simp only [lenI_eq]); omega)
  · have hi := at_lt hx
    have hm := sum_mem sz_Row_0 (List.mem_of_getElem? hx)
    rw [spec_l6Rows.l0, lenI_eq, decide_eq_true (by omega), cond_true, getO_nat, hx, Option.bind_some, spec_l6Copy_eq x (by omega), Option.bind_some, Option.bind_some, appO_ok (by simp only [List.length_take, List.length_cons, List.length_nil]; omega), Option.bind_some, w64_succ (by omega)]
  · rw [spec_l6Rows.l0, lenI_eq, decide_eq_false (by omega), cond_false]

theorem spec_l7Copy_eq (s : Store) (h : sz_Store s ≤ 1099511627776) : spec_l7Copy.f s = some s := by
  unfold sz_Store sz_RowSS at h
  have p1 := sz_Schema_0 s.Schema
  have p2 := sum_nonneg sz_RowS_0 s.Tables
  unfold spec_l7Copy.f
  rw [spec_l7Schema_eq _ (by omega), Option.bind_some]
  refine loop_copy (f := spec_l7Copy.l0 s s.Schema) (l := s.Tables) (fun t => some ⟨s.Schema, s.Version, t⟩) (fun k i x hx => ?_) (fun k t i hi => ?_) _ 0 (by omega) (by (try simp only [lenI_eq]); omega)
  · have hi := at_lt hx
    have hm := sum_mem sz_RowS_0 (List.mem_of_getElem? hx)
    rw [spec_l7Copy.l0, lenI_eq, decide_eq_true (by omega), cond_true, getO_nat, hx, Option.bind_some, spec_l6Rows_eq x (by omega), Option.bind_some, Option.bind_some, appO_ok (by simp only [List.length_take, List.length_cons, List.length_nil]; omega), Option.bind_some, w64_succ (by omega)]
  · rw [spec_l7Copy.l0, lenI_eq, decide_eq_false (by omega), cond_false]

def rowAtF : List Row → Int → Int → Int
  | [], _, _ => -1
  | r :: l, id, i => if r.Id = id then i else rowAtF l id (i + 1)

def isId (id : Int) (r : Row) : Bool := decide (r.Id = id)
def isGt (id : Int) (r : Row) : Bool := decide (id < r.Id)
def idxI (p : Row → Bool) (l : List Row) : Int := if l.findIdx p < l.length then (l.findIdx p : Int) else -1
def rowDropF (l : List Row) (id : Int) : List Row := l.eraseIdx (l.findIdx (isId id))
def rowPutF (l : List Row) (r : Row) : List Row := if l.findIdx (isId r.Id) < l.length then l.set (l.findIdx (isId r.Id)) r else l.take (l.findIdx (isGt r.Id)) ++ [r] ++ l.drop (l.findIdx (isGt r.Id))
theorem rowAtF_idx : ∀ (l : List Row) (id i : Int), rowAtF l id i = if l.findIdx (isId id) < l.length then i + (l.findIdx (isId id) : Int) else -1
  | [], _, _ => rfl
  | r :: l, id, i => by
    rw [rowAtF, rowAtF_idx l id (i + 1), List.findIdx_cons]
    by_cases e : r.Id = id
    · rw [if_pos e, isId, decide_eq_true e]; simp
    · rw [if_neg e, isId, decide_eq_false e]
      simp only [cond_false, List.length_cons]
      by_cases h : l.findIdx (isId id) < l.length
      · rw [if_pos h, if_pos (by omega)]; omega
      · rw [if_neg h, if_neg (by omega)]
theorem rowAt_0 (l : List Row) (id : Int) : rowAtF l id 0 = idxI (isId id) l := by
  rw [rowAtF_idx, idxI]
  split
  · omega
  · rfl
theorem idxI_nn {p : Row → Bool} {l : List Row} : 0 ≤ idxI p l ↔ l.findIdx p < l.length := by
  unfold idxI
  split
  · simp_all
  · simp_all
theorem idxI_pos {p : Row → Bool} {l : List Row} (h : l.findIdx p < l.length) : idxI p l = (l.findIdx p : Int) := if_pos h
theorem idxI_neg {p : Row → Bool} {l : List Row} (h : ¬ l.findIdx p < l.length) : idxI p l = -1 := if_neg h
theorem sum_append {α : Type} (s : α → Int) (a b : List α) : ((a ++ b).map s).sum = (a.map s).sum + (b.map s).sum := by rw [List.map_append, List.sum_append]
theorem sum_take_drop {α : Type} (s : α → Int) (l : List α) (k : Nat) : (l.map s).sum = ((l.take k).map s).sum + ((l.drop k).map s).sum := by rw [← sum_append, List.take_append_drop]
theorem sum_set {α : Type} {s : α → Int} (hs : ∀ x, 0 ≤ s x) (x : α) : ∀ (l : List α) (i : Nat), ((l.set i x).map s).sum ≤ (l.map s).sum + s x
  | [], i => by simp [hs x]
  | a :: l, 0 => by simp only [List.set_cons_zero, List.map_cons, List.sum_cons]; have := hs a; omega
  | a :: l, i + 1 => by simp only [List.set_cons_succ, List.map_cons, List.sum_cons]; have := sum_set hs x l i; omega
theorem sum_erase {α : Type} {s : α → Int} (hs : ∀ x, 0 ≤ s x) : ∀ (l : List α) (i : Nat), ((l.eraseIdx i).map s).sum ≤ (l.map s).sum
  | [], i => by simp
  | a :: l, 0 => by simp only [List.eraseIdx_cons_zero, List.map_cons, List.sum_cons]; have := hs a; omega
  | a :: l, i + 1 => by simp only [List.eraseIdx_cons_succ, List.map_cons, List.sum_cons]; have := sum_erase hs l i; omega
theorem rowDrop_len (l : List Row) (id : Int) : (rowDropF l id).length ≤ l.length := by unfold rowDropF; rw [List.length_eraseIdx]; split <;> omega
theorem rowDrop_sz (l : List Row) (id : Int) : sz_RowS (rowDropF l id) ≤ sz_RowS l := by
  have h1 := rowDrop_len l id
  have h2 := sum_erase sz_Row_0 l (l.findIdx (isId id))
  unfold sz_RowS
  unfold rowDropF at *
  omega
theorem rowPut_len (l : List Row) (r : Row) : (rowPutF l r).length ≤ l.length + 1 := by
  unfold rowPutF
  split
  · rw [List.length_set]; omega
  · simp; omega
theorem rowPut_sz (l : List Row) (r : Row) : sz_RowS (rowPutF l r) ≤ sz_RowS l + 1 + sz_Row r := by
  have h1 := rowPut_len l r
  unfold sz_RowS
  have h2 : ((rowPutF l r).map sz_Row).sum ≤ (l.map sz_Row).sum + sz_Row r := by
    unfold rowPutF
    split
    · exact sum_set sz_Row_0 r l _
    · rw [sum_append, sum_append, sum_take_drop sz_Row l (l.findIdx (isGt r.Id))]
      simp
      omega
  omega
theorem mem_rowDrop {l : List Row} {id : Int} {x : Row} (h : x ∈ rowDropF l id) : x ∈ l := List.mem_of_mem_eraseIdx h
theorem mem_rowPut {l : List Row} {r x : Row} (h : x ∈ rowPutF l r) : x = r ∨ x ∈ l := by
  unfold rowPutF at h
  split at h
  · rcases List.mem_or_eq_of_mem_set h with h | h
    · exact .inr h
    · exact .inl h
  · rcases List.mem_append.1 h with h | h
    · rcases List.mem_append.1 h with h | h
      · exact .inr (List.mem_of_mem_take h)
      · exact .inl (List.mem_singleton.1 h)
    · exact .inr (List.mem_of_mem_drop h)
theorem rowDrop_b {l : List Row} (h : RowS_b l) (id : Int) : RowS_b (rowDropF l id) := ⟨by have := rowDrop_len l id; have := h.1; omega, fun x hx => h.2 x (mem_rowDrop hx)⟩
theorem rowPut_b {l : List Row} (h : RowS_b l) (hl : l.length < 9223372036854775807) {r : Row} (hr : Row_b r) : RowS_b (rowPutF l r) := ⟨by have := rowPut_len l r; omega, fun x hx => by
  rcases mem_rowPut hx with rfl | hx
  · exact hr
  · exact h.2 x hx⟩
theorem findIdx_take {α : Type} (p : α → Bool) (l : List α) {i : Nat} {x : α} (hx : l[i]? = some x) : (l.take (i + 1)).findIdx p = if (l.take i).findIdx p < i then (l.take i).findIdx p else if p x then i else i + 1 := by
  have hi := at_lt hx
  have hl : (l.take i).length = i := by rw [List.length_take]; omega
  rw [take_snoc hx, List.findIdx_append, hl]
  by_cases h : (l.take i).findIdx p < i
  · rw [if_pos h, if_pos h]
  · rw [if_neg h, if_neg h]
    cases hp : p x <;> simp [List.findIdx_cons, hp] <;> omega

def noChange : Change := ⟨0, false, false, ⟨0, []⟩, ⟨0, []⟩⟩
def noStore : Store := ⟨⟨[]⟩, 0, []⟩
def tableB (s : Schema) (t : Int) : Bool := decide (0 ≤ t ∧ t ≤ (s.Cols.length : Int) - 1)
def tableOf (s : Store) (t : Int) : List Row := s.Tables.getD t.toNat []
def setTable (s : Store) (t : Int) (rows : List Row) : Store := ⟨s.Schema, s.Version, s.Tables.set t.toNat rows⟩
theorem table_rows {s : Store} (hs : storeB s = true) {t : Nat} (ht : t < s.Tables.length) : rowsB s.Schema t (tableOf s t) = true := by
  unfold tableOf
  rw [Int.toNat_natCast, List.getD_eq_getElem?_getD, List.getElem?_eq_getElem ht, Option.getD_some]
  exact store_table hs (List.getElem?_eq_getElem ht)
theorem setTable_b {s : Store} (bs : Store_b s) (t : Int) {rows : List Row} (h : RowS_b rows) : Store_b (setTable s t rows) := by
  refine ⟨bs.1, by unfold setTable; simpa using bs.2.1, fun x hx => ?_⟩
  rcases List.mem_or_eq_of_mem_set hx with hx | rfl
  · exact bs.2.2 x hx
  · exact h
theorem setTable_sz (s : Store) (t : Int) (rows : List Row) : sz_Store (setTable s t rows) ≤ sz_Store s + sz_RowS rows := by
  unfold sz_Store sz_RowSS setTable
  have := sum_set sz_RowS_0 rows s.Tables t.toNat
  simp only [List.length_set]
  omega
theorem tableOf_b {s : Store} (bs : Store_b s) (t : Int) : RowS_b (tableOf s t) := by
  unfold tableOf
  rw [List.getD_eq_getElem?_getD]
  cases h : s.Tables[t.toNat]? with
  | none => exact ⟨by simp, by simp⟩
  | some x => exact bs.2.2 x (List.mem_of_getElem? h)
theorem tableOf_sz (s : Store) (t : Int) : sz_RowS (tableOf s t) ≤ sz_Store s := by
  unfold tableOf sz_Store sz_RowSS
  have p1 := sz_Schema_0 s.Schema
  have p2 := sum_nonneg sz_RowS_0 s.Tables
  rw [List.getD_eq_getElem?_getD]
  cases h : s.Tables[t.toNat]? with
  | none => simp [sz_RowS]; omega
  | some x => have := sum_mem sz_RowS_0 (List.mem_of_getElem? h); simp only [Option.getD_some]; omega
theorem row_getD {rows : List Row} (h : RowS_b rows) (i : Nat) : Row_b (rows.getD i ⟨0, []⟩) ∧ sz_Row (rows.getD i ⟨0, []⟩) ≤ sz_RowS rows := by
  rw [List.getD_eq_getElem?_getD]
  have p := sum_nonneg sz_Row_0 rows
  unfold sz_RowS
  cases hx : rows[i]? with
  | none => exact ⟨by simp [Row_b, IntS_b], by simp [sz_Row, sz_IntS]; omega⟩
  | some x => have := sum_mem sz_Row_0 (List.mem_of_getElem? hx); exact ⟨h.2 x (List.mem_of_getElem? hx), by simp only [Option.getD_some]; omega⟩
theorem noChange_b : Change_b noChange ∧ sz_Change noChange = 0 := ⟨⟨by simp [Row_b, IntS_b, noChange], by simp [Row_b, IntS_b, noChange]⟩, by simp [sz_Change, sz_Row, sz_IntS, noChange]⟩
theorem noStore_b : Store_b noStore ∧ sz_Store noStore = 0 := ⟨⟨by simp [Schema_b, IntS_b, noStore], by simp [noStore], by simp [noStore]⟩, by simp [sz_Store, sz_Schema, sz_IntS, sz_RowSS, noStore]⟩

theorem rowS_of_sz {l : List Row} (h : sz_RowS l ≤ 9223372036854775807) : RowS_b l := by
  unfold sz_RowS at h
  have p := sum_nonneg sz_Row_0 l
  exact ⟨by omega, fun x hx => by
    have := sum_mem sz_Row_0 hx
    have h2 : sz_Row x ≤ 9223372036854775807 := by omega
    unfold sz_Row sz_IntS at h2
    unfold Row_b IntS_b
    omega⟩
theorem store_of_sz {s : Store} (h : sz_Store s ≤ 9223372036854775807) : Store_b s := by
  unfold sz_Store sz_RowSS at h
  have p1 := sz_Schema_0 s.Schema
  have p2 := sum_nonneg sz_RowS_0 s.Tables
  refine ⟨?_, by omega, fun x hx => rowS_of_sz (by have := sum_mem sz_RowS_0 hx; omega)⟩
  have h2 : sz_Schema s.Schema ≤ 9223372036854775807 := by omega
  unfold sz_Schema sz_IntS at h2
  unfold Schema_b IntS_b
  omega
theorem sum_le {α : Type} {s : α → Int} {B : Int} : ∀ {l : List α}, (∀ x ∈ l, s x ≤ B) → (l.map s).sum ≤ l.length * B
  | [], _ => by simp
  | x :: l, h => by
    have h1 := h x (List.mem_cons_self ..)
    have h2 := sum_le (l := l) fun y hy => h y (List.mem_cons_of_mem _ hy)
    simp only [List.map_cons, List.sum_cons, List.length_cons]
    rw [show ((l.length + 1 : Nat) : Int) * B = l.length * B + B by rw [Int.natCast_add, Int.add_mul]; simp]
    omega
theorem rowB_sz {s : Schema} {t : Int} {r : Row} (h : rowB s t r = true) : sz_Row r ≤ 4 := by
  have hc := row_cells h
  unfold rowB at h
  simp only [Bool.and_eq_true, decide_eq_true_eq] at h
  obtain ⟨⟨⟨⟨hs, ht⟩, _⟩, _⟩, _⟩ := h
  unfold schemaB at hs
  rw [Bool.and_eq_true, List.all_eq_true] at hs
  have hlt : t.toNat < s.Cols.length := by omega
  have := of_decide_eq_true (hs.1 _ (List.getElem_mem hlt))
  rw [List.getD_eq_getElem?_getD, List.getElem?_eq_getElem hlt, Option.getD_some] at hc
  unfold sz_Row sz_IntS
  omega
theorem rowsB_sz {s : Schema} {t : Int} {rows : List Row} (h : rowsB s t rows = true) : sz_RowS rows ≤ 120 := by
  have hl := rows_len h
  have := sum_le (s := sz_Row) (B := 4) (l := rows) fun x hx => by
    obtain ⟨i, hi⟩ := List.getElem?_of_mem hx
    exact rowB_sz (rows_row h hi)
  unfold sz_RowS
  omega
theorem store_small {s : Store} (h : storeB s = true) : Store_b s ∧ sz_Store s ≤ 1000 := by
  have hz : sz_Store s ≤ 1000 := by
    obtain ⟨hl, hs⟩ := store_len h
    have h3 := schema_len hs
    have := sum_le (s := sz_RowS) (B := 120) (l := s.Tables) fun x hx => by
      obtain ⟨i, hi⟩ := List.getElem?_of_mem hx
      exact rowsB_sz (store_table h hi)
    unfold sz_Store sz_RowSS sz_Schema sz_IntS
    omega
  exact ⟨store_of_sz (by omega), hz⟩

theorem row_eq (a b : Row) : decide (a = b) = (decide (a.Id = b.Id) && decide (a.Cells = b.Cells)) := by
  cases a; cases b
  rw [Bool.eq_iff_iff]
  simp

def zeroB (r : Row) : Bool := decide (r.Id = 0) && decide (r.Cells.length = 0)
def hasId (rows : List Row) (id : Int) : Bool := decide (rows.findIdx (isId id) < rows.length)
def thereB (rows : List Row) (r : Row) : Bool := decide (rows[rows.findIdx (isId r.Id)]? = some r)
/-- The rows behind a change, if it can be made. -/
def turnRows (rows : List Row) (c : Change) : List Row := let r1 := if c.Had = true then rowDropF rows c.Old.Id else rows; if c.Has = true then rowPutF r1 c.New else r1
def turnB (s : Store) (c : Change) : Bool :=
  tableB s.Schema c.Table && (!c.Had || thereB (tableOf s c.Table) c.Old) && (!c.Has || !hasId (if c.Had = true then rowDropF (tableOf s c.Table) c.Old.Id else tableOf s c.Table) c.New.Id)
def turnF (s : Store) (c : Change) : Store := setTable s c.Table (turnRows (tableOf s c.Table) c)
def fitsB (c : Change) : Bool := (c.Had || c.Has) && (c.Had || zeroB c.Old) && (c.Has || zeroB c.New)
def stepB (s : Store) (c : Change) : Bool := fitsB c && turnB s c && storeB (turnF s c)
def runCh : Store → List Change → Option Store
  | s, [] => some s
  | s, c :: l => if stepB s c = true then runCh (turnF s c) l else none
def forwardF (s : Store) (l : List Change) : Store × Bool :=
  if storeB s = true ∧ (1 ≤ (l.length : Int) ∧ (l.length : Int) ≤ 5) ∧ s.Version ≠ 100000 then (match runCh s l with
    | some t => (⟨t.Schema, s.Version + 1, t.Tables⟩, true)
    | none => (noStore, false)) else (noStore, false)
theorem storeB_version {s : Store} (v : Int) (h : storeB s = true) : storeB ⟨s.Schema, v, s.Tables⟩ = decide (0 ≤ v ∧ v ≤ 100000) := by
  unfold storeB at *
  simp only [Bool.and_eq_true] at h
  obtain ⟨⟨⟨h1, h2⟩, h3⟩, h4⟩ := h
  simp only [h1, h3, h4, Bool.true_and, Bool.and_true]
theorem store_v {s : Store} (h : storeB s = true) : 0 ≤ s.Version ∧ s.Version ≤ 100000 := by
  unfold storeB at h
  simp only [Bool.and_eq_true, decide_eq_true_eq] at h
  exact h.1.1.2
theorem tableB_iff {s : Store} (hs : storeB s = true) {t : Int} : tableB s.Schema t = true ↔ 0 ≤ t ∧ t.toNat < s.Tables.length := by
  have := (store_len hs).1
  unfold tableB
  rw [decide_eq_true_eq]
  omega
theorem table_get {s : Store} {t : Int} (h : t.toNat < s.Tables.length) : s.Tables[t.toNat]? = some (tableOf s t) := by unfold tableOf; rw [List.getD_eq_getElem?_getD, List.getElem?_eq_getElem h]; rfl
theorem findIdx_isId {rows : List Row} {id : Int} (h : rows.findIdx (isId id) < rows.length) : (rows[rows.findIdx (isId id)]).Id = id := by
  have := List.findIdx_getElem (w := h)
  exact of_decide_eq_true this
theorem there_has {rows : List Row} {r : Row} (h : thereB rows r = true) : rows.findIdx (isId r.Id) < rows.length ∧ r ∈ rows := by
  unfold thereB at h
  rw [decide_eq_true_eq] at h
  exact ⟨at_lt h, List.mem_of_getElem? h⟩
theorem turn_b {s : Store} (hs : storeB s = true) {c : Change} (hc : sz_Change c ≤ 1048576) : Store_b (turnF s c) ∧ sz_Store (turnF s c) ≤ 2000000 ∧ (turnF s c).Version = s.Version ∧ (turnF s c).Schema = s.Schema := by
  obtain ⟨hb, hz⟩ := store_small hs
  have hz1 := tableOf_sz s c.Table
  have z2 := setTable_sz s c.Table (turnRows (tableOf s c.Table) c)
  have z3 : sz_RowS (turnRows (tableOf s c.Table) c) ≤ 1000 + 1 + 1048576 := by
    have n1 := sz_Row_0 c.Old
    have n2 := sz_Row_0 c.New
    unfold sz_Change at hc
    unfold turnRows
    dsimp only
    have d := rowDrop_sz (tableOf s c.Table) c.Old.Id
    split
    · split
      · have := rowPut_sz (rowDropF (tableOf s c.Table) c.Old.Id) c.New; omega
      · have := rowPut_sz (tableOf s c.Table) c.New; omega
    · split <;> omega
  unfold turnF
  have hq : sz_Store (setTable s c.Table (turnRows (tableOf s c.Table) c)) ≤ 2000000 := by omega
  exact ⟨store_of_sz (by omega), hq, rfl, rfl⟩
theorem idx_RowAt {rows : List Row} {id : Int} : decide (0 ≤ idxI (isId id) rows) = hasId rows id := decide_eq_decide.2 idxI_nn
theorem mem_set_self {α : Type} {l : List α} {i : Nat} {x : α} (h : i < l.length) : (l.set i x)[i]? = some x := by rw [List.getElem?_set_self h]
theorem put_mem (l : List Row) (r : Row) : r ∈ rowPutF l r := by
  unfold rowPutF
  split
  · rename_i h; exact List.mem_of_getElem? (mem_set_self h)
  · simp
/-- If the store behind is right, so is the row that came. -/
theorem turn_row {s : Store} (hs : storeB s = true) {c : Change} (ht : tableB s.Schema c.Table = true) (h : storeB (turnF s c) = true) (hh : c.Has = true) : rowB s.Schema c.Table c.New = true := by
  obtain ⟨h0, h1⟩ := (tableB_iff hs).1 ht
  have hg : (turnF s c).Tables[c.Table.toNat]? = some (turnRows (tableOf s c.Table) c) := mem_set_self h1
  have hr := store_table h hg
  have hm : c.New ∈ turnRows (tableOf s c.Table) c := by
    unfold turnRows
    dsimp only
    rw [if_pos hh]
    exact put_mem _ _
  obtain ⟨i, hi⟩ := List.getElem?_of_mem hm
  have := rows_row hr hi
  rw [Int.toNat_of_nonneg h0] at this
  exact this
theorem there_row {s : Store} (hs : storeB s = true) {t : Int} (ht : tableB s.Schema t = true) {r : Row} (h : thereB (tableOf s t) r = true) : rowB s.Schema t r = true := by
  obtain ⟨h0, h1⟩ := (tableB_iff hs).1 ht
  have hr := table_rows hs h1
  rw [Int.toNat_of_nonneg h0] at hr
  obtain ⟨i, hi⟩ := List.getElem?_of_mem (there_has h).2
  exact rows_row hr hi

theorem spec_l8Zero_eq (r : Row) : spec_l8Zero.f r = some (zeroB r) := by
  unfold spec_l8Zero.f zeroB
  rw [bo3_and, show decide (lenI r.Cells = 0) = decide (r.Cells.length = 0) from decide_eq_decide.2 (by rw [lenI_eq]; omega)]

theorem spec_RowAt_eq (l : List Row) (id : Int) (h : l.length ≤ 9223372036854775807) : spec_RowAt.f l id = some (rowAtF l id 0) := by
  have key : ∀ (k i : Nat), i ≤ l.length → l.length < i + k → spec_RowAt.l0 l id k i = some (rowAtF (l.drop i) id i) := by
    intro k
    induction k with
    | zero => intro i h h'; omega
    | succ k ih =>
      intro i h h'
      by_cases hi : i < l.length
      · have hx : l[i]? = some l[i] := List.getElem?_eq_getElem hi
        rw [spec_RowAt.l0, lenI_eq, decide_eq_true (by omega), cond_true, getO_nat, hx, Option.bind_some, List.drop_eq_getElem_cons hi, rowAtF, w64_succ (by omega)]
        by_cases e : (l[i]).Id = id
        · rw [decide_eq_true e, cond_true, if_pos e]
        · rw [decide_eq_false e, cond_false, if_neg e]
          exact ih (i + 1) (by omega) (by omega)
      · rw [spec_RowAt.l0, lenI_eq, decide_eq_false (by omega), cond_false, List.drop_eq_nil_of_le (by omega), rowAtF]
  have := key (((lenI l) - 0).toNat + 1) 0 (by omega) (by simp only [lenI_eq]; omega)
  rw [List.drop_zero] at this
  exact this

theorem spec_RowSame_eq (a b : Row) (ha : Row_b a) (hb : Row_b b) : spec_RowSame.f a b = some (decide (a = b)) := by
  have h1 : a.Cells.length ≤ 9223372036854775807 := ha
  unfold spec_RowSame.f
  rw [row_eq]
  by_cases c : a.Id = b.Id
  case neg => simp [c, bo3]
  by_cases hl : a.Cells.length = b.Cells.length
  case neg => rw [decide_eq_true (show lenI a.Cells ≠ lenI b.Cells by simp only [lenI_eq]; omega), bo3_or, Bool.or_true, cond_true, decide_eq_false (show ¬ a.Cells = b.Cells from fun e => hl (by rw [e])), Bool.and_false]
  rw [decide_eq_false (show ¬ lenI a.Cells ≠ lenI b.Cells by simp only [lenI_eq]; omega), decide_eq_false (show ¬ a.Id ≠ b.Id from fun e => e c), show bo3 false true false = false from rfl, cond_false, decide_eq_true c, Bool.true_and]
  refine (loop_eq (f := spec_RowSame.l0 a b) hl (some false) (some true) (fun k i x y hx hy => ?_) (fun k i hi => ?_) _ (by simp only [lenI_eq]; omega)).trans ?_
  · have hi := at_lt hx
    rw [spec_RowSame.l0, lenI_eq, decide_eq_true (by omega), cond_true, getO_nat, hx, Option.bind_some, getO_nat, hy, Option.bind_some, w64_succ (by omega)]
    by_cases c : x = y
    · simp [c]
    · simp [c]
  · rw [spec_RowSame.l0, lenI_eq, decide_eq_false (by omega), cond_false]
  · cases decide (a.Cells = b.Cells) <;> rfl

theorem spec_l7There_eq (s : Store) (t : Int) (r : Row) (hs : storeB s = true) (ht : tableB s.Schema t = true) (hr : Row_b r) : spec_l7There.f s t r = some (thereB (tableOf s t) r) := by
  obtain ⟨h0, h1⟩ := (tableB_iff hs).1 ht
  have hb := (store_small hs).1
  have hl := hb.2.1
  have hb2 := tableOf_b hb t
  unfold spec_l7There.f thereB
  rw [spec_l1In_eq, Option.bind_some, lenI_eq, w64_id (by omega), decide_eq_true (by omega), bo3_not, Bool.not_true, cond_false, getO_pos h0, table_get h1, Option.bind_some, spec_RowAt_eq _ _ hb2.1, Option.bind_some, rowAt_0, idx_RowAt, hasId]
  by_cases c : (tableOf s t).findIdx (isId r.Id) < (tableOf s t).length
  · rw [decide_eq_true c, gd_true, idxI_pos c, getO_nat, List.getElem?_eq_getElem c, Option.bind_some, gd_true, spec_RowSame_eq _ _ (hb2.2 _ (List.getElem_mem c)) hr, Option.bind_some, bo3_T]
    simp
  · rw [decide_eq_false c, gd_false, Option.bind_some, gd_false, Option.bind_some, bo3_F, List.getElem?_eq_none (by omega)]
    simp

theorem spec_RowDrop_eq (l : List Row) (id : Int) (h : sz_RowS l ≤ 1099511627776) : spec_RowDrop.f l id = some (rowDropF l id) := by
  unfold sz_RowS at h
  have p := sum_nonneg sz_Row_0 l
  unfold spec_RowDrop.f
  rw [spec_RowAt_eq _ _ (by omega), Option.bind_some, rowAt_0]
  generalize hd : l.findIdx (isId id) = d
  have key : ∀ (k i : Nat), i ≤ l.length → l.length < i + k → spec_RowDrop.l0 l (idxI (isId id) l) k ((l.take i).eraseIdx d) i = some (rowDropF l id) := by
    intro k
    induction k with
    | zero => intro i h h'; omega
    | succ k ih =>
      intro i h0 h'
      by_cases hi : i < l.length
      · have hx : l[i]? = some l[i] := List.getElem?_eq_getElem hi
        have hm := sum_mem sz_Row_0 (List.mem_of_getElem? hx)
        have ht : (l.take i).length = i := by rw [List.length_take]; omega
        rw [spec_RowDrop.l0, lenI_eq, decide_eq_true (by omega), cond_true]
        have hs := ih (i + 1) (by omega) (by omega)
        rw [take_snoc hx] at hs
        by_cases e : d = i
        · have ei : idxI (isId id) l = (i : Int) := by rw [idxI_pos (by omega), hd, e]
          rw [ei] at hs ⊢
          rw [decide_eq_false (by omega), cond_false, w64_succ (by omega)]
          rw [e] at hs ⊢
          rw [List.eraseIdx_of_length_le (by omega)]
          rw [List.eraseIdx_append_of_length_le (by omega), ht] at hs
          simpa using hs
        · have ei : ¬ (i : Int) = idxI (isId id) l := by
            unfold idxI; split <;> omega
          rw [decide_eq_true ei, cond_true, getO_nat, hx, Option.bind_some, spec_l6Copy_eq _ (by omega), Option.bind_some, Option.bind_some, appO_ok (by
            have : ((l.take i).eraseIdx d).length ≤ i := by rw [List.length_eraseIdx]; split <;> omega
            simp only [List.length_cons, List.length_nil]; omega), Option.bind_some, w64_succ (by omega)]
          by_cases e2 : d < i
          · rw [List.eraseIdx_append_of_lt_length (by omega)] at hs
            exact hs
          · rw [List.eraseIdx_of_length_le (by simp; omega)] at hs
            rw [List.eraseIdx_of_length_le (by omega)]
            exact hs
      · rw [spec_RowDrop.l0, lenI_eq, decide_eq_false (by omega), cond_false, List.take_of_length_le (by omega), ← hd]
        rfl
  have := key (((lenI l) - 0).toNat + 1) 0 (by omega) (by simp only [lenI_eq]; omega)
  rw [List.take_zero, List.eraseIdx_nil] at this
  exact this

theorem spec_RowPut_l0 (r : Row) (l : List Row) (K : Int → Option (List Row)) (hl : l.length < 9223372036854775807) : ∀ (k i : Nat) (at_ : Int), i ≤ l.length → i < k → spec_RowPut.l0 r l K k at_ ((i : Int) - 1) = K (if (l.take i).findIdx (isGt r.Id) < i then ((l.take i).findIdx (isGt r.Id) : Int) else at_) := by
  intro k
  induction k with
  | zero => intro i at_ h h'; omega
  | succ k ih =>
    intro i at_ h h'
    cases i with
    | zero => rw [spec_RowPut.l0, decide_eq_false (by omega), cond_false, if_neg (by omega)]
    | succ i =>
      have hx : l[i]? = some l[i] := List.getElem?_eq_getElem (by omega)
      have e1 : ((i + 1 : Nat) : Int) - 1 = (i : Int) := by omega
      rw [spec_RowPut.l0, e1, decide_eq_true (by omega), cond_true, getO_nat, hx, Option.bind_some, w64_id (by omega), ih i _ (by omega) (by omega), ih i _ (by omega) (by omega), findIdx_take _ _ hx]
      by_cases c : (l.take i).findIdx (isGt r.Id) < i
      · simp only [if_pos c]
        rw [if_pos (by omega)]
        cases decide (r.Id < l[i].Id) <;> rfl
      · simp only [if_neg c]
        rw [isGt]
        cases hc : decide (r.Id < l[i].Id)
        · simp
        · simp
theorem spec_RowPut_eq (l : List Row) (r : Row) (h : sz_RowS l ≤ 1099511627776) (hr : sz_Row r ≤ 1099511627776) : spec_RowPut.f l r = some (rowPutF l r) := by
  have hz := rowDrop_sz l r.Id
  have hdl := rowDrop_len l r.Id
  have h' := h
  unfold sz_RowS at h'
  have p := sum_nonneg sz_Row_0 l
  have cut : ∀ (y : Nat), y ≤ (rowDropF l r.Id).length → ((cutO (rowDropF l r.Id) 0 (y : Int)).bind fun l17 => (appO 32 [] l17).bind fun l18 => (spec_l6Copy.f r).bind fun r19 => (some [r19]).bind fun l20 => (appO 32 l18 l20).bind fun l21 => (cutO (rowDropF l r.Id) (y : Int) (lenI (rowDropF l r.Id))).bind fun l22 => (appO 32 l21 l22).bind fun l23 => some l23) = some ((rowDropF l r.Id).take y ++ [r] ++ (rowDropF l r.Id).drop y) := by
    intro y hy
    rw [cutO_ok ⟨by omega, by omega, by omega⟩, Option.bind_some, appO_ok (by simp; omega), Option.bind_some, spec_l6Copy_eq _ hr, Option.bind_some, Option.bind_some, appO_ok (by simp; omega), Option.bind_some, lenI_eq, cutO_ok ⟨by omega, by omega, by omega⟩, Option.bind_some, appO_ok (by simp; omega), Option.bind_some]
    simp
  unfold spec_RowPut.f
  rw [spec_RowDrop_eq _ _ h, Option.bind_some]
  simp only [joinK]
  rw [spec_RowAt_eq _ _ (by omega), Option.bind_some, rowAt_0]
  unfold rowPutF
  by_cases c : l.findIdx (isId r.Id) < l.length
  · rw [if_pos c, idxI_pos c, decide_eq_true (by omega), cond_true, Option.bind_some]
    rw [cut _ (by unfold rowDropF; rw [List.length_eraseIdx]; split <;> omega)]
    rw [List.set_eq_take_append_cons_drop, if_pos c]
    unfold rowDropF
    rw [List.eraseIdx_eq_take_drop_succ]
    have hl : (l.take (l.findIdx (isId r.Id))).length = l.findIdx (isId r.Id) := by rw [List.length_take]; omega
    rw [List.take_left' hl, List.drop_left' hl]
    simp
  · have hd : rowDropF l r.Id = l := by unfold rowDropF; exact List.eraseIdx_of_length_le (by omega)
    rw [hd] at cut
    rw [if_neg c, idxI_neg c, decide_eq_false (by omega), cond_false, hd, lenI_eq, w64_id (by omega), spec_RowPut_l0 r l _ (by omega) _ _ _ (Nat.le_refl _) (by omega), List.take_length]
    have hle := List.findIdx_le_length (xs := l) (p := isGt r.Id)
    split
    · rw [lenI_eq] at cut
      exact cut _ hle
    · rename_i hn
      rw [lenI_eq] at cut
      have e : l.findIdx (isGt r.Id) = l.length := by omega
      rw [e]
      exact cut _ (Nat.le_refl _)

theorem spec_l7Turn_eq (s : Store) (c : Change) (hs : storeB s = true) (hb : Change_b c) (hz : sz_Change c ≤ 1048576) : spec_l7Turn.f s c = some (if turnB s c = true then (turnF s c, true) else (s, false)) := by
  have sb := store_small hs
  have hl := sb.1.2.1
  have n1 := sz_Row_0 c.Old
  have n2 := sz_Row_0 c.New
  have tz := tableOf_sz s c.Table
  have tb := tableOf_b sb.1 c.Table
  have dz := rowDrop_sz (tableOf s c.Table) c.Old.Id
  have db := rowDrop_b tb c.Old.Id
  unfold sz_Change at hz
  unfold spec_l7Turn.f turnB
  rw [spec_l1In_eq, Option.bind_some, lenI_eq, w64_id (by omega)]
  by_cases ht : tableB s.Schema c.Table = true
  · obtain ⟨h0, h1⟩ := (tableB_iff hs).1 ht
    have hset : ∀ v, (some (setI s.Tables c.Table v)) = some (s.Tables.set c.Table.toNat v) := fun v => rfl
    rw [ht, decide_eq_true (by omega), spec_l7There_eq _ _ _ hs ht hb.1, getO_pos h0, table_get h1]
    simp only [bo3_T, bo3_F, Option.bind_some, hset, spec_RowDrop_eq _ _ (show sz_RowS (tableOf s c.Table) ≤ 1099511627776 by omega), spec_RowAt_eq _ _ db.1, spec_RowAt_eq _ _ tb.1, rowAt_0, idx_RowAt, spec_RowPut_eq (tableOf s c.Table) c.New (by omega) (by omega), spec_RowPut_eq (rowDropF (tableOf s c.Table) c.Old.Id) c.New (by omega) (by omega)]
    unfold turnF turnRows setTable
    cases c.Had with
    | false =>
      cases c.Has with
      | false => rfl
      | true =>
        simp only [bo3_F, gd_false, Option.bind_some, cond_false, cond_true, Bool.not_false, Bool.not_true, Bool.true_or, Bool.false_or, Bool.and_true, Bool.true_and, if_true, if_false, Bool.false_eq_true]
        cases hasId (tableOf s c.Table) c.New.Id <;> rfl
    | true =>
      simp only [bo3_T, gd_true, Option.bind_some, cond_false, cond_true, Bool.not_false, Bool.not_true, Bool.true_or, Bool.false_or, Bool.and_true, Bool.true_and, if_true, if_false, Bool.false_eq_true]
      cases thereB (tableOf s c.Table) c.Old with
      | false => rfl
      | true =>
        cases c.Has with
        | false => rfl
        | true =>
          simp only [bo3_T, bo3_F, Option.bind_some, cond_false, cond_true, Bool.not_false, Bool.not_true, Bool.true_or, Bool.false_or, Bool.and_true, Bool.true_and, if_true, if_false, Bool.false_eq_true]
          cases hasId (rowDropF (tableOf s c.Table) c.Old.Id) c.New.Id <;> rfl
  · have hf : tableB s.Schema c.Table = false := by simpa using ht
    have := mt (tableB_iff hs).2 ht
    rw [hf, decide_eq_false (by omega)]
    rfl

theorem spec_Forward_l0 (l : List Change) (hl : l.length ≤ 5) (hc : ∀ c ∈ l, Change_b c ∧ sz_Change c ≤ 1048576) (K : List Int → Int → List (List Row) → Option (Store × Bool)) : ∀ (k i : Nat) (o : Store), i ≤ l.length → l.length < i + k → storeB o = true →
    spec_Forward.l0 l K k o.Schema.Cols o.Version o.Tables i = (match runCh o (l.drop i) with
      | some t => K t.Schema.Cols t.Version t.Tables
      | none => some (noStore, false)) := by
  intro k
  induction k with
  | zero => intro i o h h'; omega
  | succ k ih =>
    intro i o h h' hs
    by_cases hi : i < l.length
    · have hx : l[i]? = some l[i] := List.getElem?_eq_getElem hi
      obtain ⟨m1, m2⟩ := hc _ (List.getElem_mem hi)
      have eo : (Store.mk (Schema.mk o.Schema.Cols) o.Version o.Tables) = o := rfl
      rw [spec_Forward.l0, lenI_eq, decide_eq_true (by omega), cond_true, getO_nat, hx, Option.bind_some, eo, w64_succ (by omega), List.drop_eq_getElem_cons hi, runCh, spec_l7Turn_eq _ _ hs m1 m2, spec_l8Zero_eq, spec_l8Zero_eq, stepB]
      generalize hcc : l[i] = c at *
      have hfit : fitsB c = (!(((!c.Had) && (!c.Has || !zeroB c.Old)) || ((!c.Has) && !zeroB c.New))) := by
        unfold fitsB
        cases c.Had <;> cases c.Has <;> cases zeroB c.Old <;> cases zeroB c.New <;> rfl
      have e1 : ∀ {β : Type} (A : Option β) (B : Option β), ((gd (bo3 (bo3 c.Had false true) (bo3 (bo3 c.Has false true) false true) false) (some (zeroB c.Old))).bind fun r30 => (gd (bo3 (bo3 (bo3 (bo3 c.Had false true) (bo3 (bo3 c.Has false true) true (bo3 r30 false true)) false) false true) (bo3 c.Has false true) false) (some (zeroB c.New))).bind fun r31 => bif (bo3 (bo3 (bo3 c.Had false true) (bo3 (bo3 c.Has false true) true (bo3 r30 false true)) false) true (bo3 (bo3 c.Has false true) (bo3 r31 false true) false)) then A else B) = bif fitsB c then B else A := by
        intro β A B
        rw [hfit]
        cases c.Had <;> cases c.Has <;> cases zeroB c.Old <;> cases zeroB c.New <;> rfl
      rw [e1]
      cases fitsB c with
      | false => rfl
      | true =>
        cases hT : turnB o c with
        | false => rfl
        | true =>
          obtain ⟨q1, q2, q3, q4⟩ := turn_b hs m2
          simp only [if_true, Option.bind_some, bo3_T, bo3_F, gd_true, spec_StoreOk_eq _ q1, cond_true, Bool.true_and, bo3_not]
          cases hS : storeB (turnF o c) with
          | false => rfl
          | true =>
            simp only [Bool.not_true, cond_false, if_true]
            exact ih (i + 1) _ (by omega) (by omega) hS
    · rw [spec_Forward.l0, lenI_eq, decide_eq_false (by omega), cond_false, List.drop_eq_nil_of_le (by omega), runCh]
theorem runCh_inv : ∀ {l : List Change} {s t : Store}, (∀ c ∈ l, sz_Change c ≤ 1048576) → storeB s = true → runCh s l = some t → storeB t = true ∧ t.Version = s.Version ∧ t.Schema = s.Schema
  | [], s, t, _, h, he => by rw [runCh] at he; cases he; exact ⟨h, rfl, rfl⟩
  | c :: l, s, t, hc, h, he => by
    rw [runCh] at he
    split at he
    · rename_i hb
      obtain ⟨q1, q2, q3, q4⟩ := turn_b h (hc c (List.mem_cons_self ..))
      unfold stepB at hb
      rw [Bool.and_eq_true] at hb
      obtain ⟨p1, p2, p3⟩ := runCh_inv (fun x hx => hc x (List.mem_cons_of_mem _ hx)) hb.2 he
      exact ⟨p1, p2.trans q3, p3.trans q4⟩
    · cases he
theorem spec_Forward_eq (s : Store) (l : List Change) (bs : Store_b s) (hz : sz_Store s ≤ 1099511627776) (hc : ∀ c ∈ l, Change_b c ∧ sz_Change c ≤ 1048576) (hll : (l.length : Int) ≤ 9223372036854775807) : spec_Forward.f s l = some (forwardF s l) := by
  unfold spec_Forward.f forwardF
  rw [spec_StoreOk_eq _ bs, Option.bind_some, bo3_not, spec_l1In_eq, gd_of, Option.bind_some, spec_l7Copy_eq _ hz, Option.bind_some, lenI_eq]
  cases hs : storeB s with
  | false => rfl
  | true =>
    have hv := store_v hs
    by_cases c : 1 ≤ (l.length : Int) ∧ (l.length : Int) ≤ 5
    · rw [decide_eq_true c]
      simp only [Bool.not_true, Bool.not_false, cond_true, bo3_F, cond_false, joinK, bo3_not]
      have := spec_Forward_l0 l (by omega) hc (fun y11 y12 y13 => (spec_StoreOk.f (Store.mk (Schema.mk y11) (w64 (s.Version + 1)) y13)).bind fun r79 => bif (!r79) then some ((Store.mk (Schema.mk []) 0 []), false) else some ((Store.mk (Schema.mk y11) (w64 (s.Version + 1)) y13), true)) (((l.length : Int) - 0).toNat + 1) 0 s (by omega) (by omega) hs
      rw [List.drop_zero] at this
      refine this.trans ?_
      cases hr : runCh s l with
      | none => simp [c, noStore]
      | some t =>
        obtain ⟨q1, q2, q3⟩ := runCh_inv (fun c h => (hc c h).2) hs hr
        have tb := store_small q1
        have e : Store.mk (Schema.mk t.Schema.Cols) (w64 (s.Version + 1)) t.Tables = ⟨t.Schema, s.Version + 1, t.Tables⟩ := by rw [w64_id (by omega)]
        have hb' : Store_b ⟨t.Schema, s.Version + 1, t.Tables⟩ := ⟨tb.1.1, tb.1.2⟩
        simp only [e, spec_StoreOk_eq _ hb', Option.bind_some, storeB_version _ q1]
        by_cases d : s.Version = 100000
        · rw [decide_eq_false (by omega), if_neg (fun e => e.2.2 d)]; rfl
        · rw [decide_eq_true (by omega), if_pos ⟨trivial, c, d⟩]; rfl
    · rw [decide_eq_false c, if_neg (fun e => c e.2.1)]
      rfl

theorem impl_within_eq (x y z : Int) : impl_within.f x y z = some (decide (y ≤ x ∧ x ≤ z)) := by
  unfold impl_within.f
  rw [bo3_and, Bool.decide_and]

theorem impl_SchemaOk_eq (s : Schema) (h : Schema_b s) : impl_SchemaOk.f s = some (schemaB s) := by
  have hl : s.Cols.length ≤ 9223372036854775807 := h
  unfold impl_SchemaOk.f joinK
  refine (loop_all (f := impl_SchemaOk.l0 s _) (l := s.Cols) (fun _ n => decide (1 ≤ n ∧ n ≤ 4)) (some false) (some (decide (1 ≤ (s.Cols.length : Int) ∧ (s.Cols.length : Int) ≤ 3))) (fun k i x hx => ?_) (fun k i hi => ?_) _ 0 (by omega) (by (try simp only [lenI_eq]); omega)).trans ?_
  · have hi := at_lt hx
    rw [impl_SchemaOk.l0, lenI_eq, decide_eq_true (by omega), cond_true, getO_nat, hx, Option.bind_some, impl_within_eq, Option.bind_some, bo3_not, w64_succ (by omega)]
    cases decide (1 ≤ x ∧ x ≤ 4) <;> rfl
  · rw [impl_SchemaOk.l0, lenI_eq, decide_eq_false (by omega), cond_false, impl_within_eq, Option.bind_some]
  · rw [allFrom_zero, schemaB]
    cases s.Cols.all fun n => decide (1 ≤ n ∧ n ≤ 4) <;> rfl

theorem impl_hasTable_eq (s : Schema) (t : Int) (h : Schema_b s) : impl_hasTable.f s t = some (decide (0 ≤ t ∧ t ≤ (s.Cols.length : Int) - 1)) := by
  have hl : s.Cols.length ≤ 9223372036854775807 := h
  unfold impl_hasTable.f
  rw [lenI_eq, w64_id (by omega), impl_within_eq, Option.bind_some]

theorem impl_isNum_eq (n : Int) : impl_isNum.f n = some (decide (-1000000000 ≤ n ∧ n ≤ 1000000000)) := by
  unfold impl_isNum.f
  rw [impl_within_eq, Option.bind_some]

theorem impl_RowOk_eq (s : Schema) (t : Int) (r : Row) (hs : Schema_b s) (hr : Row_b r) : impl_RowOk.f s t r = some (rowB s t r) := by
  have hrl : r.Cells.length ≤ 9223372036854775807 := hr
  unfold impl_RowOk.f rowB
  simp only [joinK]
  refine (loop_all (f := impl_RowOk.l0 r _) (l := r.Cells) (fun _ n => decide (-1000000000 ≤ n ∧ n ≤ 1000000000)) (some false) (some (schemaB s && decide (0 ≤ t ∧ t ≤ (s.Cols.length : Int) - 1) && decide (1 ≤ r.Id ∧ r.Id ≤ 999) && decide ((r.Cells.length : Int) = s.Cols.getD t.toNat 0))) (fun k i x hx => ?_) (fun k i hi => ?_) _ 0 (by omega) (by (try simp only [lenI_eq]); omega)).trans ?_
  · have hi := at_lt hx
    rw [impl_RowOk.l0, lenI_eq, decide_eq_true (by omega), cond_true, getO_nat, hx, Option.bind_some, impl_isNum_eq, Option.bind_some, bo3_not, w64_succ (by omega)]
    cases decide (-1000000000 ≤ x ∧ x ≤ 1000000000) <;> rfl
  · rw [impl_RowOk.l0, lenI_eq, decide_eq_false (by omega), cond_false, impl_SchemaOk_eq _ hs, Option.bind_some, impl_hasTable_eq _ _ hs, impl_within_eq]
    cases schemaB s with
    | false => rfl
    | true =>
      by_cases d : 0 ≤ t ∧ t ≤ (s.Cols.length : Int) - 1
      case neg => rw [decide_eq_false d]; rfl
      rw [decide_eq_true d, getO_Int d]
      simp only [bo3_F, bo3_T, gd_true, Option.bind_some, Bool.true_and, gd_of, cond_true]
      by_cases d3 : (r.Cells.length : Int) = s.Cols.getD t.toNat 0
      · simp [d3, bo3]
      · simp [d3, bo3]; exact Bool.and_comm _ _
  · rw [allFrom_zero]
    cases r.Cells.all fun n => decide (-1000000000 ≤ n ∧ n ≤ 1000000000) <;> simp

theorem impl_noRow_eq (r : Row) : impl_noRow.f r = some (zeroB r) := by
  unfold impl_noRow.f zeroB
  rw [bo3_and, show decide (lenI r.Cells = 0) = decide (r.Cells.length = 0) from decide_eq_decide.2 (by rw [lenI_eq]; omega)]

theorem impl_changeFits_eq (s : Schema) (c : Change) (hs : Schema_b s) (hb : Change_b c) : impl_changeFits.f s c = some (fitsB c && tableB s c.Table && (!c.Had || rowB s c.Table c.Old) && (!c.Has || rowB s c.Table c.New)) := by
  unfold impl_changeFits.f fitsB tableB
  rw [impl_RowOk_eq _ _ _ hs hb.1, impl_RowOk_eq _ _ _ hs hb.2, impl_noRow_eq, impl_noRow_eq, impl_hasTable_eq _ _ hs]
  simp only [gd_of, Option.bind_some]
  cases c.Had <;> cases c.Has <;> cases rowB s c.Table c.Old <;> cases rowB s c.Table c.New <;> cases zeroB c.Old <;> cases zeroB c.New <;> cases decide (0 ≤ c.Table ∧ c.Table ≤ (s.Cols.length : Int) - 1) <;> rfl

theorem impl_copyInts_eq (l : List Int) (h : (l.length : Int) ≤ 1099511627776) : impl_copyInts.f l = some l := by
  unfold impl_copyInts.f
  rw [appO_ok (by simp only [List.length_nil]; omega), Option.bind_some, List.nil_append]

theorem impl_copyRow_eq (r : Row) (h : sz_Row r ≤ 1099511627776) : impl_copyRow.f r = some r := by
  unfold impl_copyRow.f
  rw [impl_copyInts_eq _ (row_len h), Option.bind_some]

theorem impl_copyRows_eq (l : List Row) (h : sz_RowS l ≤ 1099511627776) : impl_copyRows.f l = some l := by
  unfold sz_RowS at h
  have p := sum_nonneg sz_Row_0 l
  unfold impl_copyRows.f
  refine loop_copy (f := impl_copyRows.l0 l) (l := l) some (fun k i x hx => ?_) (fun k s i hi => ?_) _ 0 (by omega) (by (try simp only [lenI_eq]); omega)
  · have hi := at_lt hx
    have hm := sum_mem sz_Row_0 (List.mem_of_getElem? hx)
    rw [impl_copyRows.l0, lenI_eq, decide_eq_true (by omega), cond_true, getO_nat, hx, Option.bind_some, impl_copyRow_eq x (by omega), Option.bind_some, Option.bind_some, appO_ok (by simp only [List.length_take, List.length_cons, List.length_nil]; omega), Option.bind_some, w64_succ (by omega)]
  · rw [impl_copyRows.l0, lenI_eq, decide_eq_false (by omega), cond_false]

theorem impl_copyStore_eq (s : Store) (h : sz_Store s ≤ 1099511627776) : impl_copyStore.f s = some s := by
  unfold sz_Store sz_RowSS at h
  have p1 := sz_Schema_0 s.Schema
  have p2 := sum_nonneg sz_RowS_0 s.Tables
  unfold impl_copyStore.f
  rw [impl_copyInts_eq _ (by unfold sz_Schema sz_IntS at p1 h; omega), Option.bind_some]
  refine loop_copy (f := impl_copyStore.l0 s s.Schema.Cols) (l := s.Tables) (fun t => some ⟨s.Schema, s.Version, t⟩) (fun k i x hx => ?_) (fun k t i hi => ?_) _ 0 (by omega) (by (try simp only [lenI_eq]); omega)
  · have hi := at_lt hx
    have hm := sum_mem sz_RowS_0 (List.mem_of_getElem? hx)
    rw [impl_copyStore.l0, lenI_eq, decide_eq_true (by omega), cond_true, getO_nat, hx, Option.bind_some, impl_copyRows_eq x (by omega), Option.bind_some, Option.bind_some, appO_ok (by simp only [List.length_take, List.length_cons, List.length_nil]; omega), Option.bind_some, w64_succ (by omega)]
  · rw [impl_copyStore.l0, lenI_eq, decide_eq_false (by omega), cond_false]

theorem slices_IndexFunc_impl_Row__impl_RowAt_1_eq (l : List Row) (id : Int) (h : l.length ≤ 9223372036854775807) : slices_IndexFunc_impl_Row__impl_RowAt_1.f l id = some (rowAtF l id 0) := by
  have key : ∀ (k i : Nat), i ≤ l.length → l.length < i + k → slices_IndexFunc_impl_Row__impl_RowAt_1.l0 l id k i = some (rowAtF (l.drop i) id i) := by
    intro k
    induction k with
    | zero => intro i h h'; omega
    | succ k ih =>
      intro i h h'
      by_cases hi : i < l.length
      · have hx : l[i]? = some l[i] := List.getElem?_eq_getElem hi
        rw [slices_IndexFunc_impl_Row__impl_RowAt_1.l0, lenI_eq, decide_eq_true (by omega), cond_true, getO_nat, hx, Option.bind_some, impl_RowAt_1.f, Option.bind_some, List.drop_eq_getElem_cons hi, rowAtF, w64_succ (by omega)]
        by_cases e : (l[i]).Id = id
        · rw [decide_eq_true e, cond_true, if_pos e]
        · rw [decide_eq_false e, cond_false, if_neg e]
          exact ih (i + 1) (by omega) (by omega)
      · rw [slices_IndexFunc_impl_Row__impl_RowAt_1.l0, lenI_eq, decide_eq_false (by omega), cond_false, List.drop_eq_nil_of_le (by omega), rowAtF]
  have := key (((lenI l) - 0).toNat + 1) 0 (by omega) (by simp only [lenI_eq]; omega)
  rw [List.drop_zero] at this
  exact this

theorem impl_RowAt_eq (l : List Row) (id : Int) (h : l.length ≤ 9223372036854775807) : impl_RowAt.f l id = some (rowAtF l id 0) := by
  unfold impl_RowAt.f
  rw [slices_IndexFunc_impl_Row__impl_RowAt_1_eq l id h, Option.bind_some]

theorem slices_Equal_int_eq (a b : List Int) (ha : IntS_b a) (hb : IntS_b b) : slices_Equal_int.f a b = some (decide (a = b)) := by
  unfold IntS_b at ha hb
  unfold slices_Equal_int.f
  by_cases hl : a.length = b.length
  · rw [decide_eq_false (by simp only [lenI_eq]; omega), cond_false]
    refine (loop_eq (f := slices_Equal_int.l0 a b) hl (some false) (some true) (fun k i x y hx hy => ?_) (fun k i hi => ?_) _ (by simp only [lenI_eq]; omega)).trans ?_
    · have hi := at_lt hx
      rw [slices_Equal_int.l0, lenI_eq, decide_eq_true (by omega), cond_true, getO_nat, hx, Option.bind_some, getO_nat, hy, Option.bind_some, w64_succ (by omega)]
      by_cases c : x = y
      · simp [c]
      · simp [c]
    · rw [slices_Equal_int.l0, lenI_eq, decide_eq_false (by omega), cond_false]
    · cases decide (a = b) <;> rfl
  · rw [decide_eq_true (by simp only [lenI_eq]; omega), cond_true, decide_eq_false (fun e => hl (by rw [e]))]

theorem impl_RowSame_eq (a b : Row) (ha : Row_b a) (hb : Row_b b) : impl_RowSame.f a b = some (decide (a = b)) := by
  unfold impl_RowSame.f
  simp only [slices_Equal_int_eq _ _ ha hb, gd_of, Option.bind_some, row_eq]
  cases decide (a.Id = b.Id) <;> cases decide (a.Cells = b.Cells) <;> rfl

theorem impl_RowDrop_eq (l : List Row) (id : Int) (h : sz_RowS l ≤ 1099511627776) : impl_RowDrop.f l id = some (rowDropF l id) := by
  have h' := h
  unfold sz_RowS at h'
  have p := sum_nonneg sz_Row_0 l
  unfold impl_RowDrop.f
  rw [impl_copyRows_eq _ h, Option.bind_some, impl_RowAt_eq _ _ (by omega), Option.bind_some, rowAt_0]
  by_cases c : l.findIdx (isId id) < l.length
  · rw [idxI_pos c, decide_eq_true (by omega), cond_true, slices_Delete_impl_Row.f, delO, w64_succ (by omega), if_pos ⟨by omega, by omega, by omega⟩, Option.bind_some]
    unfold rowDropF
    rw [List.eraseIdx_eq_take_drop_succ, Int.toNat_natCast, Int.toNat_natCast]
  · rw [idxI_neg c, decide_eq_false (by omega), cond_false]
    unfold rowDropF
    rw [List.eraseIdx_of_length_le (by omega)]

theorem slices_IndexFunc_impl_Row__impl_RowPut_1_eq (l : List Row) (r : Row) (h : l.length ≤ 9223372036854775807) : slices_IndexFunc_impl_Row__impl_RowPut_1.f l r = some (idxI (isGt r.Id) l) := by
  have key : ∀ (k i : Nat), i ≤ l.length → l.length < i + k → ¬ (l.take i).findIdx (isGt r.Id) < i → slices_IndexFunc_impl_Row__impl_RowPut_1.l0 l r k i = some (idxI (isGt r.Id) l) := by
    intro k
    induction k with
    | zero => intro i h h'; omega
    | succ k ih =>
      intro i h0 h' hn
      by_cases hi : i < l.length
      · have hx : l[i]? = some l[i] := List.getElem?_eq_getElem hi
        have hf := findIdx_take (isGt r.Id) l hx
        rw [if_neg hn] at hf
        rw [slices_IndexFunc_impl_Row__impl_RowPut_1.l0, lenI_eq, decide_eq_true (by omega), cond_true, getO_nat, hx, Option.bind_some, impl_RowPut_1.f, Option.bind_some, w64_succ (by omega)]
        cases e : decide (r.Id < l[i].Id) with
        | true =>
          have e' : isGt r.Id l[i] = true := e
          rw [if_pos e'] at hf
          have hl : (l.take (i + 1)).length = i + 1 := by rw [List.length_take]; omega
          have : l.findIdx (isGt r.Id) = i := by
            conv => lhs; rw [← List.take_append_drop (i + 1) l]
            rw [List.findIdx_append, hf, hl, if_pos (by omega)]
          rw [cond_true, idxI_pos (by omega), this]
        | false =>
          have e' : ¬ isGt r.Id l[i] = true := by rw [isGt, e]; simp
          rw [if_neg e'] at hf
          rw [cond_false]
          exact ih (i + 1) (by omega) (by omega) (by omega)
      · rw [List.take_of_length_le (by omega)] at hn
        rw [slices_IndexFunc_impl_Row__impl_RowPut_1.l0, lenI_eq, decide_eq_false (by omega), cond_false, idxI_neg (by omega)]
  exact key (((lenI l) - 0).toNat + 1) 0 (by omega) (by simp only [lenI_eq]; omega) (by omega)

theorem impl_RowPut_eq (l : List Row) (r : Row) (h : sz_RowS l ≤ 1099511627776) (hr : sz_Row r ≤ 1099511627776) : impl_RowPut.f l r = some (rowPutF l r) := by
  have h' := h
  unfold sz_RowS at h'
  have p := sum_nonneg sz_Row_0 l
  unfold impl_RowPut.f
  rw [impl_copyRows_eq _ h, Option.bind_some, impl_RowAt_eq _ _ (by omega), Option.bind_some, rowAt_0]
  unfold rowPutF
  by_cases c : l.findIdx (isId r.Id) < l.length
  · rw [if_pos c, idxI_pos c, decide_eq_true (by omega), cond_true, impl_copyRow_eq _ hr, Option.bind_some, getO_nat, List.getElem?_eq_getElem c, Option.bind_some, Option.bind_some, setI_nat]
  · rw [if_neg c, idxI_neg c, decide_eq_false (by omega), cond_false, slices_IndexFunc_impl_Row__impl_RowPut_1_eq _ _ (by omega), Option.bind_some]
    simp only [joinK]
    have ins : ∀ y : Nat, y ≤ l.length → ((impl_copyRow.f r).bind fun r11 => (some [r11]).bind fun l12 => (slices_Insert_impl_Row.f l (y : Int) l12).bind fun r13 => some r13) = some (l.take y ++ [r] ++ l.drop y) := by
      intro y hy
      rw [impl_copyRow_eq _ hr, Option.bind_some, Option.bind_some, slices_Insert_impl_Row.f, insO, if_pos ⟨rfl, by omega, by omega, by simp; omega, by simp; omega⟩, Option.bind_some, Int.toNat_natCast]
    by_cases d : l.findIdx (isGt r.Id) < l.length
    · rw [idxI_pos d, decide_eq_false (by omega), cond_false]
      exact ins _ (by omega)
    · have hle := List.findIdx_le_length (xs := l) (p := isGt r.Id)
      have e : l.findIdx (isGt r.Id) = l.length := by omega
      rw [idxI_neg d, decide_eq_true (by omega), cond_true, lenI_eq, e]
      exact ins _ (Nat.le_refl _)

theorem impl_RowsOk_eq (s : Schema) (t : Int) (rows : List Row) (hs : Schema_b s) (hr : RowS_b rows) : impl_RowsOk.f s t rows = some (rowsB s t rows) := by
  have hl : s.Cols.length ≤ 9223372036854775807 := hs
  obtain ⟨hrl, hr2⟩ := hr
  unfold impl_RowsOk.f rowsB
  simp only [joinK]
  refine (loop_all (f := impl_RowsOk.l0 s t rows _) (l := rows) (fun i r => rowB s t r && !(decide (0 < i) && decide (r.Id ≤ (rows.getD (i - 1) default).Id))) (some false) (some (schemaB s && decide (0 ≤ t ∧ t ≤ (s.Cols.length : Int) - 1) && decide (rows.length ≤ 24))) (fun k i x hx => ?_) (fun k i hi => ?_) _ 0 (by omega) (by (try simp only [lenI_eq]); omega)).trans ?_
  · have hi := at_lt hx
    rw [impl_RowsOk.l0, lenI_eq, decide_eq_true (by omega), cond_true, getO_nat, hx, Option.bind_some, impl_RowOk_eq _ _ _ hs (hr2 x (List.mem_of_getElem? hx)), Option.bind_some, prev_step hx (by omega), Option.bind_some, w64_succ (by omega)]
    rw [show decide (0 < (i : Int)) = decide (0 < i) from by simp]
    cases rowB s t x <;> cases decide (0 < i) <;> (try rfl)
    simp only [bo3_F, bo3_T, Bool.true_and, cond_true]
    by_cases e : x.Id ≤ (rows.getD (i - 1) default).Id
    · simp [e]
    · simp [e]
  · rw [impl_RowsOk.l0, lenI_eq, decide_eq_false (by omega), cond_false, impl_SchemaOk_eq _ hs, Option.bind_some]
    first | rw [impl_hasTable_eq _ _ hs] | rw [lenI_eq s.Cols, w64_id (by omega), spec_l1In_eq]
    have e24 : decide ((rows.length : Int) ≤ 24) = decide (rows.length ≤ 24) := by rw [decide_eq_decide]; omega
    simp only [lenI_eq, e24]
    generalize decide (0 ≤ t ∧ t ≤ (s.Cols.length : Int) - 1) = b1
    generalize decide (rows.length ≤ 24) = b2
    cases schemaB s <;> cases b1 <;> cases b2 <;> rfl
  · cases allFrom (fun i r => rowB s t r && !(decide (0 < i) && decide (r.Id ≤ (rows.getD (i - 1) default).Id))) rows 0 <;> rfl

theorem impl_isVersion_eq (v : Int) : impl_isVersion.f v = some (decide (0 ≤ v ∧ v ≤ 100000)) := by
  unfold impl_isVersion.f
  rw [impl_within_eq, Option.bind_some]

theorem impl_version (v : Int) : impl_isVersion.f v = some (decide (0 ≤ v ∧ v ≤ 100000)) := impl_isVersion_eq v

theorem impl_StoreOk_eq (s : Store) (hb : Store_b s) : impl_StoreOk.f s = some (storeB s) := by
  obtain ⟨hs, ht, ht2⟩ := hb
  have hl : s.Schema.Cols.length ≤ 9223372036854775807 := hs
  unfold impl_StoreOk.f storeB
  rw [impl_SchemaOk_eq _ hs, Option.bind_some, impl_version]
  cases schemaB s.Schema with
  | false => rfl
  | true =>
    by_cases d : 0 ≤ s.Version ∧ s.Version ≤ 100000
    case neg => rw [decide_eq_false d]; rfl
    rw [decide_eq_true d]
    by_cases d2 : s.Tables.length = s.Schema.Cols.length
    case neg =>
      rw [show decide (lenI s.Tables ≠ lenI s.Schema.Cols) = true from decide_eq_true (by simp only [lenI_eq]; omega), decide_eq_false d2]
      rfl
    rw [show decide (lenI s.Tables ≠ lenI s.Schema.Cols) = false from decide_eq_false (by simp only [lenI_eq]; omega), decide_eq_true d2]
    simp only [bo3_F, bo3_T, gd_true, Option.bind_some, Bool.true_and, cond_false]
    refine (loop_all (f := impl_StoreOk.l0 s) (l := s.Tables) (fun i rows => rowsB s.Schema (i : Int) rows) (some false) (some true) (fun k i x hx => ?_) (fun k i hi => ?_) _ 0 (by omega) (by (try simp only [lenI_eq]); omega)).trans ?_
    · have hi := at_lt hx
      rw [impl_StoreOk.l0, lenI_eq, decide_eq_true (by omega), cond_true, getO_nat, hx, Option.bind_some, impl_RowsOk_eq _ _ _ hs (ht2 x (List.mem_of_getElem? hx)), Option.bind_some, bo3_not, w64_succ (by omega)]
      cases rowsB s.Schema i x <;> rfl
    · rw [impl_StoreOk.l0, lenI_eq, decide_eq_false (by omega), cond_false]
    · cases allFrom (fun i rows => rowsB s.Schema (i : Int) rows) s.Tables 0 <;> rfl

theorem impl_swapped_eq (s : Store) (c : Change) (hs : storeB s = true) (hb : Change_b c) (hz : sz_Change c ≤ 1048576) : ∃ t, impl_swapped.f s c.Table c.Had c.Old c.Has c.New = some (t, turnB s c && storeB (turnF s c)) ∧ ((turnB s c && storeB (turnF s c)) = true → t = turnF s c) := by
  have sb := store_small hs
  have hl := sb.1.2.1
  have n1 := sz_Row_0 c.Old
  have n2 := sz_Row_0 c.New
  have tz := tableOf_sz s c.Table
  have tb := tableOf_b sb.1 c.Table
  have dz := rowDrop_sz (tableOf s c.Table) c.Old.Id
  have db := rowDrop_b tb c.Old.Id
  have so := impl_StoreOk_eq _ (turn_b hs hz).1
  unfold sz_Change at hz
  unfold impl_swapped.f turnB
  rw [impl_copyStore_eq _ (by omega), Option.bind_some, impl_hasTable_eq _ _ sb.1.1, Option.bind_some]
  by_cases ht : tableB s.Schema c.Table = true
  · obtain ⟨h0, h1⟩ := (tableB_iff hs).1 ht
    have hset : ∀ v, (some (setI s.Tables c.Table v)) = some (s.Tables.set c.Table.toNat v) := fun v => rfl
    have ht' := ht
    unfold tableB at ht'
    rw [ht', ht, getO_pos h0, table_get h1]
    simp only [bo3_T, bo3_F, Option.bind_some, hset, impl_RowDrop_eq _ _ (show sz_RowS (tableOf s c.Table) ≤ 1099511627776 by omega), impl_RowAt_eq _ _ db.1, impl_RowAt_eq _ _ tb.1, rowAt_0, idx_RowAt, impl_RowPut_eq (tableOf s c.Table) c.New (by omega) (by omega), impl_RowPut_eq (rowDropF (tableOf s c.Table) c.Old.Id) c.New (by omega) (by omega)]
    have hso : impl_StoreOk.f (Store.mk s.Schema s.Version (s.Tables.set c.Table.toNat (turnRows (tableOf s c.Table) c))) = some (storeB (turnF s c)) := so
    have hte : Store.mk s.Schema s.Version (s.Tables.set c.Table.toNat (turnRows (tableOf s c.Table) c)) = turnF s c := rfl
    cases hHad : c.Had with
    | false =>
      cases hHas : c.Has with
      | false =>
        have e : turnRows (tableOf s c.Table) c = tableOf s c.Table := by unfold turnRows; simp [hHad, hHas]
        rw [e] at hso hte
        simp only [cond_false, so, hte, Option.bind_some]
        exact ⟨_, rfl, fun _ => rfl⟩
      | true =>
        have e : turnRows (tableOf s c.Table) c = rowPutF (tableOf s c.Table) c.New := by unfold turnRows; simp [hHad, hHas]
        rw [e] at hso hte
        simp only [cond_false, cond_true, so, hte, Option.bind_some, Bool.not_false, Bool.not_true, Bool.true_or, Bool.false_or, Bool.and_true, Bool.true_and, if_false, Bool.false_eq_true]
        cases hasId (tableOf s c.Table) c.New.Id with
        | true => exact ⟨_, rfl, fun h => by simp at h⟩
        | false => exact ⟨_, rfl, fun _ => rfl⟩
    | true =>
      have hg : (gd (bo3 (decide (idxI (isId c.Old.Id) (tableOf s c.Table) < 0)) false true) (getO (tableOf s c.Table) (idxI (isId c.Old.Id) (tableOf s c.Table)))).bind (fun x7 => (gd (bo3 (decide (idxI (isId c.Old.Id) (tableOf s c.Table) < 0)) false true) (impl_RowSame.f x7 c.Old)).bind fun r8 => some (bo3 (decide (idxI (isId c.Old.Id) (tableOf s c.Table) < 0)) true (bo3 r8 false true))) = some (!thereB (tableOf s c.Table) c.Old) := by
        unfold thereB
        by_cases c1 : (tableOf s c.Table).findIdx (isId c.Old.Id) < (tableOf s c.Table).length
        · rw [idxI_pos c1, decide_eq_false (by omega), bo3_F, gd_true, getO_nat, List.getElem?_eq_getElem c1, Option.bind_some, gd_true, impl_RowSame_eq _ _ (tb.2 _ (List.getElem_mem c1)) hb.1, Option.bind_some, bo3_F, bo3_not]
          simp
        · rw [idxI_neg c1, decide_eq_true (by omega), bo3_T, gd_false, Option.bind_some, gd_false, Option.bind_some, bo3_T, List.getElem?_eq_none (by omega)]
          simp
      have hbind : ∀ {β : Type} (K : Bool → Option β), ((gd (bo3 (decide (idxI (isId c.Old.Id) (tableOf s c.Table) < 0)) false true) (getO (tableOf s c.Table) (idxI (isId c.Old.Id) (tableOf s c.Table)))).bind fun x7 => (gd (bo3 (decide (idxI (isId c.Old.Id) (tableOf s c.Table) < 0)) false true) (impl_RowSame.f x7 c.Old)).bind fun r8 => K (bo3 (decide (idxI (isId c.Old.Id) (tableOf s c.Table) < 0)) true (bo3 r8 false true))) = K (!thereB (tableOf s c.Table) c.Old) := fun K => by
        have := congrArg (fun o => o.bind K) hg
        simpa only [Option.bind_assoc, Option.bind_some] using this
      simp only [cond_true, Bool.not_false, Bool.not_true, Bool.true_or, Bool.false_or, Bool.and_true, Bool.true_and, if_true]
      refine (?_ : ∃ t, _ = _ ∧ _)
      have hK := hbind (fun b => bif b then some ((Store.mk (Schema.mk []) 0 []), false) else bif c.Has then (bif hasId (rowDropF (tableOf s c.Table) c.Old.Id) c.New.Id then some ((Store.mk (Schema.mk []) 0 []), false) else (impl_StoreOk.f (Store.mk s.Schema s.Version (s.Tables.set c.Table.toNat (rowPutF (rowDropF (tableOf s c.Table) c.Old.Id) c.New)))).bind fun r25 => some ((Store.mk s.Schema s.Version (s.Tables.set c.Table.toNat (rowPutF (rowDropF (tableOf s c.Table) c.Old.Id) c.New))), r25)) else (impl_StoreOk.f (Store.mk s.Schema s.Version (s.Tables.set c.Table.toNat (rowDropF (tableOf s c.Table) c.Old.Id)))).bind fun r27 => some ((Store.mk s.Schema s.Version (s.Tables.set c.Table.toNat (rowDropF (tableOf s c.Table) c.Old.Id))), r27))
      rw [hK]
      cases thereB (tableOf s c.Table) c.Old with
      | false => exact ⟨_, rfl, fun h => by simp at h⟩
      | true =>
        cases hHas : c.Has with
        | false =>
          have e : turnRows (tableOf s c.Table) c = rowDropF (tableOf s c.Table) c.Old.Id := by unfold turnRows; simp [hHad, hHas]
          rw [e] at hso hte
          simp only [Bool.not_true, cond_false, so, hte, Option.bind_some]
          exact ⟨_, rfl, fun _ => rfl⟩
        | true =>
          have e : turnRows (tableOf s c.Table) c = rowPutF (rowDropF (tableOf s c.Table) c.Old.Id) c.New := by unfold turnRows; simp [hHad, hHas]
          rw [e] at hso hte
          simp only [Bool.not_true, cond_false, cond_true, so, hte, Option.bind_some]
          cases hasId (rowDropF (tableOf s c.Table) c.Old.Id) c.New.Id with
          | true => exact ⟨_, rfl, fun h => by simp at h⟩
          | false => exact ⟨_, rfl, fun _ => rfl⟩
  · have hf : tableB s.Schema c.Table = false := by simpa using ht
    have hf' := hf
    unfold tableB at hf'
    rw [hf', hf]
    exact ⟨_, rfl, fun h => by simp at h⟩

theorem impl_Forward_l0 (s : Store) (l : List Change) (bs : Schema_b s.Schema) (hv : 0 ≤ s.Version ∧ s.Version ≤ 100000) (hl : l.length ≤ 5) (hc : ∀ c ∈ l, Change_b c ∧ sz_Change c ≤ 1048576) : ∀ (k i : Nat) (o : Store), i ≤ l.length → l.length < i + k → storeB o = true → o.Schema = s.Schema → o.Version = s.Version →
    impl_Forward.l0 s l k o.Schema.Cols o.Version o.Tables i = (match runCh o (l.drop i) with
      | some t => some (⟨t.Schema, s.Version + 1, t.Tables⟩, true)
      | none => some (noStore, false)) := by
  intro k
  induction k with
  | zero => intro i o h h'; omega
  | succ k ih =>
    intro i o h h' hs he hve
    by_cases hi : i < l.length
    · have hx : l[i]? = some l[i] := List.getElem?_eq_getElem hi
      obtain ⟨m1, m2⟩ := hc _ (List.getElem_mem hi)
      have eo : (Store.mk (Schema.mk o.Schema.Cols) o.Version o.Tables) = o := rfl
      obtain ⟨t, hsw, hst⟩ := impl_swapped_eq o l[i] hs m1 m2
      rw [impl_Forward.l0, lenI_eq, decide_eq_true (by omega), cond_true, getO_nat, hx, Option.bind_some, eo, w64_succ (by omega), List.drop_eq_getElem_cons hi, runCh, impl_changeFits_eq _ _ bs m1, Option.bind_some, hsw, stepB, bo3_not]
      generalize hcc : l[i] = c at *
      cases hS : turnB o c && storeB (turnF o c) with
      | true =>
        rw [hS] at hst
        obtain rfl := hst rfl
        rw [Bool.and_eq_true] at hS
        obtain ⟨h1, h2⟩ := hS
        obtain ⟨q1, q2, q3, q4⟩ := turn_b hs m2
        have ht : tableB o.Schema c.Table = true := by
          unfold turnB at h1
          simp only [Bool.and_eq_true] at h1
          exact h1.1.1
        have hO : (!c.Had || rowB o.Schema c.Table c.Old) = true := by
          unfold turnB at h1
          simp only [Bool.and_eq_true] at h1
          cases hH : c.Had with
          | false => rfl
          | true =>
            have := h1.1.2
            rw [hH] at this
            simp only [Bool.not_true, Bool.false_or] at this ⊢
            exact there_row hs ht this
        have hN : (!c.Has || rowB o.Schema c.Table c.New) = true := by
          cases hH : c.Has with
          | false => rfl
          | true =>
            simp only [Bool.not_true, Bool.false_or]
            exact turn_row hs ht h2 hH
        rw [← he, ht, hO, hN, h1, h2]
        cases fitsB c with
        | false => rfl
        | true =>
          simp only [Bool.and_true, Bool.not_true, cond_false, if_true, Option.bind_some]
          exact ih (i + 1) _ (by omega) (by omega) h2 (q4.trans he) (q3.trans hve)
      | false =>
        have : (fitsB c && turnB o c && storeB (turnF o c)) = false := by rw [Bool.and_assoc, hS, Bool.and_false]
        rw [this]
        cases (fitsB c && tableB s.Schema c.Table && (!c.Had || rowB s.Schema c.Table c.Old) && (!c.Has || rowB s.Schema c.Table c.New)) <;> rfl
    · rw [impl_Forward.l0, lenI_eq, decide_eq_false (by omega), cond_false, List.drop_eq_nil_of_le (by omega), runCh, hve, w64_id (by omega)]
theorem impl_Forward_eq (s : Store) (l : List Change) (bs : Store_b s) (hz : sz_Store s ≤ 1099511627776) (hc : ∀ c ∈ l, Change_b c ∧ sz_Change c ≤ 1048576) (hll : (l.length : Int) ≤ 9223372036854775807) : impl_Forward.f s l = some (forwardF s l) := by
  unfold impl_Forward.f forwardF
  rw [impl_StoreOk_eq _ bs, Option.bind_some, bo3_not, impl_within_eq, gd_of, Option.bind_some, impl_copyStore_eq _ hz, Option.bind_some, lenI_eq]
  cases hs : storeB s with
  | false => rfl
  | true =>
    have hv := store_v hs
    by_cases c : 1 ≤ (l.length : Int) ∧ (l.length : Int) ≤ 5
    · rw [decide_eq_true c]
      by_cases d : s.Version = 100000
      · rw [decide_eq_true d, if_neg (fun e => e.2.2 d)]; rfl
      · rw [decide_eq_false d, if_pos ⟨rfl, c, d⟩]
        simp only [Bool.not_true, Bool.not_false, cond_true, bo3_F, cond_false, bo3_not]
        have := impl_Forward_l0 s l bs.1 hv (by omega) hc (((l.length : Int) - 0).toNat + 1) 0 s (by omega) (by omega) hs rfl rfl
        rw [List.drop_zero] at this
        refine this.trans ?_
        cases runCh s l <;> rfl
    · rw [decide_eq_false c, if_neg (fun e => c e.2.1)]
      rfl

theorem forward_b (s : Store) (l : List Change) (hc : ∀ c ∈ l, sz_Change c ≤ 1048576) : Store_b (forwardF s l).1 ∧ sz_Store (forwardF s l).1 ≤ 1000 := by
  have zs := noStore_b
  unfold forwardF
  split
  · rename_i h
    split
    · rename_i t he
      obtain ⟨q1, q2, q3⟩ := runCh_inv hc h.1 he
      have tb := store_small q1
      have e : sz_Store ⟨t.Schema, s.Version + 1, t.Tables⟩ = sz_Store t := rfl
      exact ⟨⟨tb.1.1, tb.1.2⟩, by dsimp only; omega⟩
    · exact ⟨zs.1, by dsimp only; omega⟩
  · exact ⟨zs.1, by dsimp only; omega⟩
theorem changes_each {l : List Change} (b1 : ChangeS_b l) (z1 : sz_ChangeS l ≤ 1048576) : ∀ c ∈ l, Change_b c ∧ sz_Change c ≤ 1048576 := fun c hc => by
  have p := sum_nonneg sz_Change_0 l
  unfold sz_ChangeS at z1
  have := sum_mem sz_Change_0 hc
  exact ⟨b1.2 c hc, by omega⟩
theorem Forward_ok (s : Store) (b0 : Store_b s) (r0 : Store_r s) (z0 : sz_Store s ≤ 1048576) (l : List Change) (b1 : ChangeS_b l) (r1 : ChangeS_r l) (z1 : sz_ChangeS l ≤ 1048576) : ∃ v0 v1, spec_Forward.f s l = some (v0, v1) ∧ impl_Forward.f s l = some (v0, v1) ∧ Store_b v0 ∧ sz_Store v0 ≤ 1099511627776 := by
  have h := forward_b s l (fun c hc => (changes_each b1 z1 c hc).2)
  have hl : (l.length : Int) ≤ 9223372036854775807 := by have := b1.1; omega
  exact ⟨(forwardF s l).1, (forwardF s l).2, spec_Forward_eq s l b0 (by omega) (changes_each b1 z1) hl, impl_Forward_eq s l b0 (by omega) (changes_each b1 z1) hl, h.1, by omega⟩

def runSteps : Store → List (List Change) → Option Store
  | s, [] => some s
  | s, l :: ls => if (forwardF s l).2 = true then runSteps (forwardF s l).1 ls else none
def recordB (r : Record) : Bool := storeB r.First && (runSteps r.First r.Steps).isSome && decide (r.Steps.length ≤ 40)
def afterF (r : Record) (n : Nat) : Store × Bool := if storeB r.First = true then (match runSteps r.First (r.Steps.take n) with
  | some t => (t, true)
  | none => (noStore, false)) else (noStore, false)
theorem forward_ok {s : Store} {l : List Change} (hc : ∀ c ∈ l, sz_Change c ≤ 1048576) (h : (forwardF s l).2 = true) : storeB s = true ∧ storeB (forwardF s l).1 = true ∧ (forwardF s l).1.Version = s.Version + 1 := by
  unfold forwardF at *
  split at h
  · rename_i hh
    rw [if_pos hh]
    have hv := store_v hh.1
    cases hr : runCh s l with
    | none => rw [hr] at h; cases h
    | some t =>
      have := (runCh_inv hc hh.1 hr).1
      refine ⟨hh.1, ?_, rfl⟩
      rw [storeB_version _ this, decide_eq_true_eq]
      have := hh.2.2
      omega
  · cases h
/-- Steps that are small. -/
def StepsS (l : List (List Change)) : Prop := ∀ x ∈ l, (∀ c ∈ x, Change_b c ∧ sz_Change c ≤ 1048576) ∧ (x.length : Int) ≤ 9223372036854775807
theorem steps_of {l : List (List Change)} (hb : ChangeSS_b l) (hz : sz_ChangeSS l ≤ 1048576) : StepsS l := fun x hx => by
  have p := sum_nonneg sz_ChangeS_0 l
  unfold sz_ChangeSS at hz
  have := sum_mem sz_ChangeS_0 hx
  have h1 := hb.2 x hx
  have h2 := h1.1
  exact ⟨changes_each h1 (by omega), by omega⟩
theorem runSteps_ok : ∀ {l : List (List Change)} {s t : Store}, StepsS l → runSteps s l = some t → storeB t = storeB s ∧ (storeB s = true → t.Version = s.Version + l.length)
  | [], s, t, _, h => by rw [runSteps] at h; cases h; exact ⟨rfl, fun _ => by simp⟩
  | x :: l, s, t, hl, h => by
    rw [runSteps] at h
    split at h
    · rename_i hok
      obtain ⟨h1, h2, h3⟩ := forward_ok (fun c hc => ((hl x (List.mem_cons_self ..)).1 c hc).2) hok
      obtain ⟨h4, h5⟩ := runSteps_ok (fun y hy => hl y (List.mem_cons_of_mem _ hy)) h
      refine ⟨by rw [h4, h1, h2], fun _ => ?_⟩
      rw [h5 h2, h3]
      simp only [List.length_cons]
      omega
    · cases h
theorem runSteps_append : ∀ (a b : List (List Change)) (s : Store), runSteps s (a ++ b) = (runSteps s a).bind fun t => runSteps t b
  | [], b, s => rfl
  | x :: a, b, s => by
    rw [List.cons_append, runSteps, runSteps]
    split
    · exact runSteps_append a b _
    · rfl
theorem runSteps_take {l : List (List Change)} {s : Store} (h : (runSteps s l).isSome = true) (n : Nat) : ∃ t, runSteps s (l.take n) = some t := by
  rw [← List.take_append_drop n l, runSteps_append] at h
  cases hr : runSteps s (l.take n) with
  | none => rw [hr] at h; cases h
  | some t => exact ⟨t, rfl⟩
theorem runSteps_b {l : List (List Change)} {s t : Store} (hl : StepsS l) (hb : Store_b s) (hz : sz_Store s ≤ 1048576) (h : runSteps s l = some t) : Store_b t ∧ sz_Store t ≤ 1048576 := by
  induction l generalizing s with
  | nil => rw [runSteps] at h; cases h; exact ⟨hb, hz⟩
  | cons x l ih =>
    rw [runSteps] at h
    split at h
    · have := forward_b s x (fun c hc => ((hl x (List.mem_cons_self ..)).1 c hc).2)
      exact ih (fun y hy => hl y (List.mem_cons_of_mem _ hy)) this.1 (by omega) h
    · cases h
theorem after_b (r : Record) (n : Nat) (hb : Store_b r.First) (hz : sz_Store r.First ≤ 1048576) (hs : StepsS r.Steps) : Store_b (afterF r n).1 ∧ sz_Store (afterF r n).1 ≤ 1048576 := by
  have zs := noStore_b
  unfold afterF
  split
  · split
    · rename_i t h
      exact runSteps_b (fun x hx => hs x (List.mem_of_mem_take hx)) hb hz h
    · exact ⟨zs.1, by dsimp only; omega⟩
  · exact ⟨zs.1, by dsimp only; omega⟩
def RP (r : Record) : Prop := Store_b r.First ∧ sz_Store r.First ≤ 1048576 ∧ StepsS r.Steps ∧ (r.Steps.length : Int) ≤ 2097152
theorem record_parts {r : Record} (b : Record_b r) (z : sz_Record r ≤ 1048576) : Store_b r.First ∧ sz_Store r.First ≤ 1048576 ∧ StepsS r.Steps ∧ (r.Steps.length : Int) ≤ 1048576 := by
  have p1 := sz_Store_0 r.First
  have p2 := sz_ChangeSS_0 r.Steps
  have p3 := sum_nonneg sz_ChangeS_0 r.Steps
  unfold sz_Record at z
  refine ⟨b.1, by omega, steps_of b.2 (by omega), ?_⟩
  unfold sz_ChangeSS at z
  omega
theorem record_RP {r : Record} (b : Record_b r) (z : sz_Record r ≤ 1048576) : RP r := by
  obtain ⟨h1, h2, h3, h4⟩ := record_parts b z
  exact ⟨h1, h2, h3, by omega⟩

theorem spec_RecordOk_l0 (r : Record) (hs : StepsS r.Steps) (hl : (r.Steps.length : Int) ≤ 2097152) (K : List Int → Int → List (List Row) → Option Bool) : ∀ (k i : Nat) (o : Store), i ≤ r.Steps.length → r.Steps.length < i + k → Store_b o → sz_Store o ≤ 1048576 →
    spec_RecordOk.l0 r K k o.Schema.Cols o.Version o.Tables i = (match runSteps o (r.Steps.drop i) with
      | some t => K t.Schema.Cols t.Version t.Tables
      | none => some false) := by
  intro k
  induction k with
  | zero => intro i o h h'; omega
  | succ k ih =>
    intro i o h h' hb hz
    by_cases hi : i < r.Steps.length
    · have hx : r.Steps[i]? = some r.Steps[i] := List.getElem?_eq_getElem hi
      obtain ⟨m1, m2⟩ := hs _ (List.getElem_mem hi)
      have eo : (Store.mk (Schema.mk o.Schema.Cols) o.Version o.Tables) = o := rfl
      have fb := forward_b o r.Steps[i] (fun c hc => (m1 c hc).2)
      rw [spec_RecordOk.l0, lenI_eq, decide_eq_true (by omega), cond_true, getO_nat, hx, Option.bind_some, eo, spec_Forward_eq _ _ hb (by omega) m1 m2, Option.bind_some, bo3_not, w64_succ (by omega), List.drop_eq_getElem_cons hi, runSteps]
      cases hok : (forwardF o r.Steps[i]).2 with
      | false => rfl
      | true =>
        simp only [Bool.not_true, cond_false, if_true]
        exact ih (i + 1) _ (by omega) (by omega) fb.1 (by omega)
    · rw [spec_RecordOk.l0, lenI_eq, decide_eq_false (by omega), cond_false, List.drop_eq_nil_of_le (by omega), runSteps]
theorem spec_RecordOk_eq' (r : Record) (hp : RP r) : spec_RecordOk.f r = some (recordB r) := by
  obtain ⟨b1, z1, hs, hl⟩ := hp
  unfold spec_RecordOk.f recordB
  simp only [joinK]
  have := spec_RecordOk_l0 r hs hl (fun y1 y2 y3 => (spec_StoreOk.f (Store.mk (Schema.mk y1) y2 y3)).bind fun r21 => some (bo3 r21 (decide ((lenI r.Steps) ≤ 40)) false)) (((lenI r.Steps) - 0).toNat + 1) 0 r.First (by omega) (by rw [lenI_eq]; omega) b1 z1
  rw [List.drop_zero] at this
  refine this.trans ?_
  cases hr : runSteps r.First r.Steps with
  | none => simp
  | some t =>
    obtain ⟨tb, tz⟩ := runSteps_b hs b1 z1 hr
    have e : Store.mk (Schema.mk t.Schema.Cols) t.Version t.Tables = t := rfl
    simp only [e, spec_StoreOk_eq _ tb, Option.bind_some, (runSteps_ok hs hr).1, bo3_and, Option.isSome_some, Bool.and_true]
    rw [show decide (lenI r.Steps ≤ 40) = decide (r.Steps.length ≤ 40) from decide_eq_decide.2 (by rw [lenI_eq]; omega)]
theorem spec_RecordOk_eq (r : Record) (b : Record_b r) (z : sz_Record r ≤ 1048576) : spec_RecordOk.f r = some (recordB r) := spec_RecordOk_eq' r (record_RP b z)

theorem spec_l8Changes_eq (l : List Change) (h : sz_ChangeS l ≤ 1099511627776) : spec_l8Changes.f l = some l := by
  unfold sz_ChangeS at h
  have p := sum_nonneg sz_Change_0 l
  unfold spec_l8Changes.f
  refine loop_copy (f := spec_l8Changes.l0 l) (l := l) some (fun k i x hx => ?_) (fun k s i hi => ?_) _ 0 (by omega) (by (try simp only [lenI_eq]); omega)
  · have hi := at_lt hx
    have hm := sum_mem sz_Change_0 (List.mem_of_getElem? hx)
    have n1 := sz_Row_0 x.Old
    have n2 := sz_Row_0 x.New
    have hcx : sz_Change x = sz_Row x.Old + sz_Row x.New := rfl
    rw [spec_l8Changes.l0, lenI_eq, decide_eq_true (by omega), cond_true, getO_nat, hx, Option.bind_some, spec_l6Copy_eq x.Old (by omega), Option.bind_some, spec_l6Copy_eq x.New (by omega), Option.bind_some, Option.bind_some, appO_ok (by simp only [List.length_take, List.length_cons, List.length_nil]; omega), Option.bind_some, w64_succ (by omega)]
  · rw [spec_l8Changes.l0, lenI_eq, decide_eq_false (by omega), cond_false]

theorem spec_l8Copy_eq (r : Record) (b : Record_b r) (z : sz_Record r ≤ 1048576) : spec_l8Copy.f r = some r := by
  have p1 := sz_Store_0 r.First
  have p2 := sum_nonneg sz_ChangeS_0 r.Steps
  unfold sz_Record sz_ChangeSS at z
  unfold spec_l8Copy.f
  rw [spec_l7Copy_eq _ (by omega), Option.bind_some]
  refine loop_copy (f := spec_l8Copy.l0 r r.First) (l := r.Steps) (fun t => some ⟨r.First, t⟩) (fun k i x hx => ?_) (fun k t i hi => ?_) _ 0 (by omega) (by (try simp only [lenI_eq]); omega)
  · have hi := at_lt hx
    have hm := sum_mem sz_ChangeS_0 (List.mem_of_getElem? hx)
    rw [spec_l8Copy.l0, lenI_eq, decide_eq_true (by omega), cond_true, getO_nat, hx, Option.bind_some, spec_l8Changes_eq x (by omega), Option.bind_some, Option.bind_some, appO_ok (by simp only [List.length_take, List.length_cons, List.length_nil]; omega), Option.bind_some, w64_succ (by omega)]
  · rw [spec_l8Copy.l0, lenI_eq, decide_eq_false (by omega), cond_false]

def noRecord : Record := ⟨noStore, []⟩
def recordPutF (r : Record) (l : List Change) : Record × Bool := if recordB r = true then (if recordB ⟨r.First, r.Steps ++ [l]⟩ = true then (⟨r.First, r.Steps ++ [l]⟩, true) else (r, false)) else (noRecord, false)
theorem rput_RP {r : Record} (b : Record_b r) (z : sz_Record r ≤ 1048576) {l : List Change} (bl : ChangeS_b l) (zl : sz_ChangeS l ≤ 1048576) : RP ⟨r.First, r.Steps ++ [l]⟩ := by
  obtain ⟨h1, h2, h3, h4⟩ := record_parts b z
  refine ⟨h1, h2, fun x hx => ?_, by simp; omega⟩
  rcases List.mem_append.1 hx with hx | hx
  · exact h3 x hx
  · rw [List.mem_singleton.1 hx]
    exact ⟨changes_each bl zl, by have := bl.1; omega⟩

theorem spec_RecordPut_eq (r : Record) (b : Record_b r) (z : sz_Record r ≤ 1048576) (l : List Change) (bl : ChangeS_b l) (zl : sz_ChangeS l ≤ 1048576) : spec_RecordPut.f r l = some (recordPutF r l) := by
  obtain ⟨h1, h2, h3, h4⟩ := record_parts b z
  unfold spec_RecordPut.f recordPutF
  rw [spec_RecordOk_eq r b z, Option.bind_some, bo3_not, spec_l8Copy_eq r b z, Option.bind_some, spec_l8Changes_eq l (by omega), Option.bind_some, Option.bind_some, appO_ok (by simp only [List.length_cons, List.length_nil]; omega), Option.bind_some, spec_RecordOk_eq' _ (rput_RP b z bl zl), Option.bind_some, Option.bind_some, bo3_not]
  cases recordB r with
  | false => rfl
  | true => cases recordB ⟨r.First, r.Steps ++ [l]⟩ <;> rfl

theorem laws_toIntS_eq (a : List Int) (h : sz_IntS a ≤ 1048576) : laws_toIntS.f a = some a := by
  unfold laws_toIntS.f
  unfold sz_IntS at h
  rw [lenI_eq, mkO_ok (by omega), Option.bind_some]
  refine loop_fill (f := laws_toIntS.l0 a) (l := a) some (fun k i s x y hx hy => ?_) (fun k s i hi => ?_) _ 0 _ (by omega) (by omega) (by rw [List.length_replicate]; omega) (by simp)
  · have hi := at_lt hx
    rw [laws_toIntS.l0, lenI_eq, decide_eq_true (by omega), cond_true, getO_nat, hx, Option.bind_some, getO_nat, hy, Option.bind_some, Option.bind_some, setI_nat, w64_succ (by omega)]
  · rw [laws_toIntS.l0, lenI_eq, decide_eq_false (by omega), cond_false]
theorem laws_toSchema_eq (a : Schema) (h : sz_Schema a ≤ 1048576) : laws_toSchema.f a = some a := by
  unfold sz_Schema at h
  have p_Cols := sz_IntS_0 a.Cols
  unfold laws_toSchema.f
  rw [laws_toIntS_eq _ (by omega), Option.bind_some]
theorem laws_toRow_eq (a : Row) (h : sz_Row a ≤ 1048576) : laws_toRow.f a = some a := by
  unfold sz_Row at h
  have p_Cells := sz_IntS_0 a.Cells
  unfold laws_toRow.f
  rw [laws_toIntS_eq _ (by omega), Option.bind_some]
theorem laws_toRowS_eq (a : List Row) (h : sz_RowS a ≤ 1048576) : laws_toRowS.f a = some a := by
  unfold laws_toRowS.f
  unfold sz_RowS at h
  have p := sum_nonneg sz_Row_0 a
  rw [lenI_eq, mkO_ok (by omega), Option.bind_some]
  refine loop_fill (f := laws_toRowS.l0 a) (l := a) some (fun k i s x y hx hy => ?_) (fun k s i hi => ?_) _ 0 _ (by omega) (by omega) (by rw [List.length_replicate]; omega) (by simp)
  · have hi := at_lt hx
    rw [laws_toRowS.l0, lenI_eq, decide_eq_true (by omega), cond_true, getO_nat, hx, Option.bind_some, laws_toRow_eq x (by have := sum_mem sz_Row_0 (List.mem_of_getElem? hx); omega), Option.bind_some, getO_nat, hy, Option.bind_some, Option.bind_some, setI_nat, w64_succ (by omega)]
  · rw [laws_toRowS.l0, lenI_eq, decide_eq_false (by omega), cond_false]
theorem laws_toRowSS_eq (a : List (List Row)) (h : sz_RowSS a ≤ 1048576) : laws_toRowSS.f a = some a := by
  unfold laws_toRowSS.f
  unfold sz_RowSS at h
  have p := sum_nonneg sz_RowS_0 a
  rw [lenI_eq, mkO_ok (by omega), Option.bind_some]
  refine loop_fill (f := laws_toRowSS.l0 a) (l := a) some (fun k i s x y hx hy => ?_) (fun k s i hi => ?_) _ 0 _ (by omega) (by omega) (by rw [List.length_replicate]; omega) (by simp)
  · have hi := at_lt hx
    rw [laws_toRowSS.l0, lenI_eq, decide_eq_true (by omega), cond_true, getO_nat, hx, Option.bind_some, laws_toRowS_eq x (by have := sum_mem sz_RowS_0 (List.mem_of_getElem? hx); omega), Option.bind_some, getO_nat, hy, Option.bind_some, Option.bind_some, setI_nat, w64_succ (by omega)]
  · rw [laws_toRowSS.l0, lenI_eq, decide_eq_false (by omega), cond_false]
theorem laws_toStore_eq (a : Store) (h : sz_Store a ≤ 1048576) : laws_toStore.f a = some a := by
  unfold sz_Store at h
  have p_Schema := sz_Schema_0 a.Schema
  have p_Tables := sz_RowSS_0 a.Tables
  unfold laws_toStore.f
  rw [laws_toSchema_eq _ (by omega), Option.bind_some]
  rw [laws_toRowSS_eq _ (by omega), Option.bind_some]
theorem laws_toChange_eq (a : Change) (h : sz_Change a ≤ 1048576) : laws_toChange.f a = some a := by
  unfold sz_Change at h
  have p_Old := sz_Row_0 a.Old
  have p_New := sz_Row_0 a.New
  unfold laws_toChange.f
  rw [laws_toRow_eq _ (by omega), Option.bind_some]
  rw [laws_toRow_eq _ (by omega), Option.bind_some]
theorem laws_toChangeS_eq (a : List Change) (h : sz_ChangeS a ≤ 1048576) : laws_toChangeS.f a = some a := by
  unfold laws_toChangeS.f
  unfold sz_ChangeS at h
  have p := sum_nonneg sz_Change_0 a
  rw [lenI_eq, mkO_ok (by omega), Option.bind_some]
  refine loop_fill (f := laws_toChangeS.l0 a) (l := a) some (fun k i s x y hx hy => ?_) (fun k s i hi => ?_) _ 0 _ (by omega) (by omega) (by rw [List.length_replicate]; omega) (by simp)
  · have hi := at_lt hx
    rw [laws_toChangeS.l0, lenI_eq, decide_eq_true (by omega), cond_true, getO_nat, hx, Option.bind_some, laws_toChange_eq x (by have := sum_mem sz_Change_0 (List.mem_of_getElem? hx); omega), Option.bind_some, getO_nat, hy, Option.bind_some, Option.bind_some, setI_nat, w64_succ (by omega)]
  · rw [laws_toChangeS.l0, lenI_eq, decide_eq_false (by omega), cond_false]
theorem laws_toChangeSS_eq (a : List (List Change)) (h : sz_ChangeSS a ≤ 1048576) : laws_toChangeSS.f a = some a := by
  unfold laws_toChangeSS.f
  unfold sz_ChangeSS at h
  have p := sum_nonneg sz_ChangeS_0 a
  rw [lenI_eq, mkO_ok (by omega), Option.bind_some]
  refine loop_fill (f := laws_toChangeSS.l0 a) (l := a) some (fun k i s x y hx hy => ?_) (fun k s i hi => ?_) _ 0 _ (by omega) (by omega) (by rw [List.length_replicate]; omega) (by simp)
  · have hi := at_lt hx
    rw [laws_toChangeSS.l0, lenI_eq, decide_eq_true (by omega), cond_true, getO_nat, hx, Option.bind_some, laws_toChangeS_eq x (by have := sum_mem sz_ChangeS_0 (List.mem_of_getElem? hx); omega), Option.bind_some, getO_nat, hy, Option.bind_some, Option.bind_some, setI_nat, w64_succ (by omega)]
  · rw [laws_toChangeSS.l0, lenI_eq, decide_eq_false (by omega), cond_false]
theorem laws_toRecord_eq (a : Record) (h : sz_Record a ≤ 1048576) : laws_toRecord.f a = some a := by
  unfold sz_Record at h
  have p_First := sz_Store_0 a.First
  have p_Steps := sz_ChangeSS_0 a.Steps
  unfold laws_toRecord.f
  rw [laws_toStore_eq _ (by omega), Option.bind_some]
  rw [laws_toChangeSS_eq _ (by omega), Option.bind_some]








theorem impl_after_l0 (l : List (List Change)) (hs : StepsS l) (hl : (l.length : Int) ≤ 2097152) : ∀ (k i : Nat) (o : Store), i ≤ l.length → l.length < i + k → Store_b o → sz_Store o ≤ 1048576 →
    impl_after.l0 l k o.Schema.Cols o.Version o.Tables i = (match runSteps o (l.drop i) with
      | some t => some (t, true)
      | none => some (noStore, false)) := by
  intro k
  induction k with
  | zero => intro i o h h'; omega
  | succ k ih =>
    intro i o h h' hb hz
    by_cases hi : i < l.length
    · have hx : l[i]? = some l[i] := List.getElem?_eq_getElem hi
      obtain ⟨m1, m2⟩ := hs _ (List.getElem_mem hi)
      have eo : (Store.mk (Schema.mk o.Schema.Cols) o.Version o.Tables) = o := rfl
      have fb := forward_b o l[i] (fun c hc => (m1 c hc).2)
      rw [impl_after.l0, lenI_eq, decide_eq_true (by omega), cond_true, getO_nat, hx, Option.bind_some, eo, impl_Forward_eq _ _ hb (by omega) m1 m2, Option.bind_some, bo3_not, w64_succ (by omega), List.drop_eq_getElem_cons hi, runSteps]
      cases hok : (forwardF o l[i]).2 with
      | false => rfl
      | true =>
        simp only [Bool.not_true, cond_false, if_true]
        exact ih (i + 1) _ (by omega) (by omega) fb.1 (by omega)
    · rw [impl_after.l0, lenI_eq, decide_eq_false (by omega), cond_false, List.drop_eq_nil_of_le (by omega), runSteps]
theorem impl_after_eq' (r : Record) (hp : RP r) (n : Nat) (hn : n ≤ r.Steps.length) : impl_after.f r n = some (afterF r n) := by
  obtain ⟨b1, z1, hs, hl⟩ := hp
  unfold impl_after.f afterF
  rw [impl_copyStore_eq _ (by omega), Option.bind_some, impl_StoreOk_eq _ b1, Option.bind_some, bo3_not, cutO_ok ⟨by omega, by omega, by omega⟩, Option.bind_some]
  cases storeB r.First with
  | false => rfl
  | true =>
    simp only [Bool.not_true, cond_false, if_true]
    rw [Int.toNat_natCast, show (0 : Int).toNat = 0 from rfl, List.drop_zero]
    have hs' : StepsS (r.Steps.take n) := fun x hx => hs x (List.mem_of_mem_take hx)
    have hl' : ((r.Steps.take n).length : Int) ≤ 2097152 := by rw [List.length_take]; omega
    have := impl_after_l0 (r.Steps.take n) hs' hl' (((lenI (r.Steps.take n)) - 0).toNat + 1) 0 r.First (by omega) (by rw [lenI_eq]; omega) b1 z1
    rw [List.drop_zero] at this
    refine this.trans ?_
    cases runSteps r.First (r.Steps.take n) <;> rfl
theorem impl_after_eq (r : Record) (b : Record_b r) (z : sz_Record r ≤ 1048576) (n : Nat) (hn : n ≤ r.Steps.length) : impl_after.f r n = some (afterF r n) := impl_after_eq' r (record_RP b z) n hn

theorem impl_RecordOk_eq' (r : Record) (hp : RP r) : impl_RecordOk.f r = some (recordB r) := by
  unfold impl_RecordOk.f recordB
  by_cases c : 40 < r.Steps.length
  · rw [decide_eq_true (by rw [lenI_eq]; omega), cond_true, decide_eq_false (by omega), Bool.and_false]
  · rw [decide_eq_false (by rw [lenI_eq]; omega), cond_false, lenI_eq, impl_after_eq' _ hp _ (Nat.le_refl _), Option.bind_some, afterF, List.take_length, decide_eq_true (by omega), Bool.and_true]
    cases storeB r.First with
    | false => rfl
    | true => cases runSteps r.First r.Steps <;> rfl
theorem impl_RecordOk_eq (r : Record) (b : Record_b r) (z : sz_Record r ≤ 1048576) : impl_RecordOk.f r = some (recordB r) := impl_RecordOk_eq' r (record_RP b z)

theorem impl_copyChange_eq (c : Change) (h : sz_Change c ≤ 1099511627776) : impl_copyChange.f c = some c := by
  have n1 := sz_Row_0 c.Old
  have n2 := sz_Row_0 c.New
  unfold sz_Change at h
  unfold impl_copyChange.f
  rw [impl_copyRow_eq _ (by omega), Option.bind_some, impl_copyRow_eq _ (by omega), Option.bind_some]

theorem impl_copyChanges_eq (l : List Change) (h : sz_ChangeS l ≤ 1099511627776) : impl_copyChanges.f l = some l := by
  unfold sz_ChangeS at h
  have p := sum_nonneg sz_Change_0 l
  unfold impl_copyChanges.f
  refine loop_copy (f := impl_copyChanges.l0 l) (l := l) some (fun k i x hx => ?_) (fun k s i hi => ?_) _ 0 (by omega) (by (try simp only [lenI_eq]); omega)
  · have hi := at_lt hx
    have hm := sum_mem sz_Change_0 (List.mem_of_getElem? hx)
    rw [impl_copyChanges.l0, lenI_eq, decide_eq_true (by omega), cond_true, getO_nat, hx, Option.bind_some, impl_copyChange_eq x (by omega), Option.bind_some, Option.bind_some, appO_ok (by simp only [List.length_take, List.length_cons, List.length_nil]; omega), Option.bind_some, w64_succ (by omega)]
  · rw [impl_copyChanges.l0, lenI_eq, decide_eq_false (by omega), cond_false]

theorem impl_copyRecord_eq (r : Record) (b : Record_b r) (z : sz_Record r ≤ 1048576) : impl_copyRecord.f r = some r := by
  have p1 := sz_Store_0 r.First
  have p2 := sum_nonneg sz_ChangeS_0 r.Steps
  unfold sz_Record sz_ChangeSS at z
  unfold impl_copyRecord.f
  rw [impl_copyStore_eq _ (by omega), Option.bind_some]
  refine loop_copy (f := impl_copyRecord.l0 r r.First) (l := r.Steps) (fun t => some ⟨r.First, t⟩) (fun k i x hx => ?_) (fun k t i hi => ?_) _ 0 (by omega) (by (try simp only [lenI_eq]); omega)
  · have hi := at_lt hx
    have hm := sum_mem sz_ChangeS_0 (List.mem_of_getElem? hx)
    rw [impl_copyRecord.l0, lenI_eq, decide_eq_true (by omega), cond_true, getO_nat, hx, Option.bind_some, impl_copyChanges_eq x (by omega), Option.bind_some, Option.bind_some, appO_ok (by simp only [List.length_take, List.length_cons, List.length_nil]; omega), Option.bind_some, w64_succ (by omega)]
  · rw [impl_copyRecord.l0, lenI_eq, decide_eq_false (by omega), cond_false]

theorem impl_RecordPut_eq (r : Record) (b : Record_b r) (z : sz_Record r ≤ 1048576) (l : List Change) (bl : ChangeS_b l) (zl : sz_ChangeS l ≤ 1048576) : impl_RecordPut.f r l = some (recordPutF r l) := by
  obtain ⟨h1, h2, h3, h4⟩ := record_parts b z
  unfold impl_RecordPut.f recordPutF
  rw [impl_RecordOk_eq r b z, Option.bind_some, bo3_not, impl_copyRecord_eq r b z, Option.bind_some, impl_copyChanges_eq l (by omega), Option.bind_some, Option.bind_some, appO_ok (by simp only [List.length_cons, List.length_nil]; omega), Option.bind_some, impl_RecordOk_eq' _ (rput_RP b z bl zl), Option.bind_some, Option.bind_some, bo3_not]
  cases recordB r with
  | false => rfl
  | true => cases recordB ⟨r.First, r.Steps ++ [l]⟩ <;> rfl

theorem RecordPut_ok (r : Record) (b0 : Record_b r) (r0 : Record_r r) (z0 : sz_Record r ≤ 1048576) (l : List Change) (b1 : ChangeS_b l) (r1 : ChangeS_r l) (z1 : sz_ChangeS l ≤ 1048576) : ∃ v0 v1, spec_RecordPut.f r l = some (v0, v1) ∧ impl_RecordPut.f r l = some (v0, v1) ∧ Record_b v0 ∧ sz_Record v0 ≤ 1099511627776 := by
  have h : Record_b (recordPutF r l).1 ∧ sz_Record (recordPutF r l).1 ≤ 2097153 := by
    have zs := noStore_b
    have hr := record_parts b0 z0
    unfold recordPutF
    split
    · split
      · refine ⟨⟨b0.1, by simp; omega, fun x hx => ?_⟩, ?_⟩
        · rcases List.mem_append.1 hx with hx | hx
          · exact b0.2.2 x hx
          · rw [List.mem_singleton.1 hx]; exact b1
        · unfold sz_Record sz_ChangeSS at z0 ⊢
          simp only [List.length_append, List.map_append, List.sum_append, List.length_cons, List.length_nil, List.map_cons, List.map_nil, List.sum_cons, List.sum_nil]
          omega
      · exact ⟨b0, by dsimp only; omega⟩
    · exact ⟨⟨zs.1, by simp [noRecord], by simp [noRecord]⟩, by simp only [noRecord, sz_Record, sz_ChangeSS, zs.2, List.length_nil, List.map_nil, List.sum_nil]; omega⟩
  exact ⟨(recordPutF r l).1, (recordPutF r l).2, spec_RecordPut_eq r b0 z0 l b1 z1, impl_RecordPut_eq r b0 z0 l b1 z1, h.1, by have := h.2; omega⟩

theorem laws_FnExactRecordPut_pure (a0 : Record) (b0 : Record_b a0) (r0 : Record_r a0) (a1 : List Change) (b1 : ChangeS_b a1) (r1 : ChangeS_r a1) : laws_FnExactRecordPut.f a0 a1 = some true := by
  unfold laws_FnExactRecordPut.f
  have p0 := sz_Record_0 a0
  rw [laws_szRecord_eq _ _ (by omega) b0, Option.bind_some]
  by_cases c0 : 1048576 < sz_Record a0
  · rw [if_pos c0]; rfl
  rw [if_neg c0, decide_eq_false (by omega), cond_false]
  have p1 := sz_ChangeS_0 a1
  rw [laws_szChangeS_eq _ _ (by omega) b1, Option.bind_some]
  by_cases c1 : 1048576 - sz_Record a0 < sz_ChangeS a1
  · rw [if_pos c1]; rfl
  rw [if_neg c1, decide_eq_false (by omega), cond_false]
  obtain ⟨v0, v1, hs, hi, bv0, zv0⟩ := RecordPut_ok a0 b0 r0 (by omega) a1 b1 r1 (by omega)
  have t0 := laws_toRecord_eq a0 (by omega)
  have e0 : laws_eqRecord.f a0 a0 = some true := by rw [laws_eqRecord_eq _ _ b0 b0, decide_eq_true rfl]
  have t1 := laws_toChangeS_eq a1 (by omega)
  have e1 : laws_eqChangeS.f a1 a1 = some true := by rw [laws_eqChangeS_eq _ _ b1 b1, decide_eq_true rfl]
  have ev0 : laws_eqRecord.f v0 v0 = some true := by rw [laws_eqRecord_eq _ _ bv0 bv0, decide_eq_true rfl]
  obtain ⟨g0_0, g0_1, g0_2, k0, mk0, dk0, lo0, hi0⟩ := mark_Record a0 1 (by omega) (by omega)
  obtain ⟨g1_0, k1, mk1, dk1, lo1, hi1⟩ := mark_ChangeS a1 k0 (by omega) (by omega)
  have nk : ¬ k1 < 0 := by omega
  have pv0 := sz_Record_0 v0
  obtain ⟨gw0_0, gw0_1, gw0_2, w0, mw0, dw0, low0, hiw0⟩ := mark_Record v0 1 (by omega) (by omega)
  have nw0 : ¬ w0 < 0 := by omega
  simp only [t0, e0, t1, e1, ev0, mk0, mk1, nk, mw0, dw0, nw0, hs, hi, Option.bind_some, bo3_self, bo3_F, bo3_T, gd_true, cond_false, ne_eq, not_true_eq_false, decide_false]
end Go.Proofs.YtkpoiinkmodlnaaGreat.L
