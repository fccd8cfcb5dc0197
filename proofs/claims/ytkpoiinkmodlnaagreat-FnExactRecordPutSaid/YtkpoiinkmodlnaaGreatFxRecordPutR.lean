/- The law fnExactRecordPut returns true at every input, and its arguments read behind the call as they read before; no condition. -/
import Derived.Test.YtkpoiinkmodlnaaGreatFxRecordPutV
import Derived.Test.YtkpoiinkmodlnaaGreatFxRecordPutC1
import Derived.Test.YtkpoiinkmodlnaaGreatRows
import Derived.ProofKit
import Derived.KernelRfl
namespace Go.Proofs.YtkpoiinkmodlnaaGreat.L
open Go
set_option linter.unusedVariables false
theorem wf_Int {P : Program} {ts : List T} (h : Wf [.i .i64] ts) : ∃ x : Int, LLe P ts [.s (.int .i64 x)] ∧ (-9223372036854775808 ≤ x ∧ x ≤ 9223372036854775807) := by
  cases h with
  | @i _ x0 _ _ hn0 h =>
    cases h
    exact ⟨x0, (LLe.c LLe.nil), hn0⟩

theorem wfs_Int {P : Program} : ∀ {rows : Rws}, (∀ r ∈ rows, Wf [.i .i64] r) → ∃ l : List Int, RLe P rows (rowsOf Int_c l) ∧ (∀ x ∈ l, (-9223372036854775808 ≤ x ∧ x ≤ 9223372036854775807))
  | [], _ => ⟨[], RLe.nil, by simp⟩
  | r :: rows, h => by
    obtain ⟨l, h1, h2⟩ := wfs_Int (P := P) (rows := rows) (fun r hr => h r (List.mem_cons_of_mem _ hr))
    obtain ⟨x, k1, k2⟩ := wf_Int (P := P) (h r (by simp))
    refine ⟨x :: l, RLe.cons (h r (by simp)).len k1 h1, fun y hy => (List.mem_cons.1 hy).elim (fun e => e ▸ k2) (h2 y)⟩

theorem wf_Row {P : Program} {ts : List T} (h : Wf [.i .i64, .sl [.i .i64]] ts) : ∃ x : Row, LLe P ts [.s (.int .i64 x.Id), .im false (rowsOf Int_c x.Cells)] ∧ Row_b x ∧ Row_r x := by
  cases h with
  | @i _ x0 _ _ hn0 h =>
    cases h with
    | @sl _ rows1 _ _ hr1 hl1 h =>
      obtain ⟨x1, le1, r1⟩ := wfs_Int (P := P) hr1
      have hn1 : x1.length ≤ 9223372036854775807 := by have := le1.len; rw [rowsOf_len] at this; rw [← this]; simpa [maxLen] using hl1
      cases h
      exact ⟨⟨x0, x1⟩, (LLe.c (LLe.cons (LLe.k le1) LLe.nil)), hn1, ⟨hn0, r1⟩⟩

theorem wfs_Row {P : Program} : ∀ {rows : Rws}, (∀ r ∈ rows, Wf [.i .i64, .sl [.i .i64]] r) → ∃ l : List Row, RLe P rows (rowsOf Row_i l) ∧ (∀ x ∈ l, Row_b x) ∧ (∀ x ∈ l, Row_r x)
  | [], _ => ⟨[], RLe.nil, by simp, by simp⟩
  | r :: rows, h => by
    obtain ⟨l, h1, h2, h3⟩ := wfs_Row (P := P) (rows := rows) (fun r hr => h r (List.mem_cons_of_mem _ hr))
    obtain ⟨x, k1, k2, k3⟩ := wf_Row (P := P) (h r (by simp))
    refine ⟨x :: l, RLe.cons (h r (by simp)).len k1 h1, fun y hy => (List.mem_cons.1 hy).elim (fun e => e ▸ k2) (h2 y), fun y hy => (List.mem_cons.1 hy).elim (fun e => e ▸ k3) (h3 y)⟩

theorem wf_RowS {P : Program} {ts : List T} (h : Wf [.sl [.i .i64, .sl [.i .i64]]] ts) : ∃ x : List Row, LLe P ts [.im false (rowsOf Row_i x)] ∧ RowS_b x ∧ RowS_r x := by
  cases h with
  | @sl _ rows0 _ _ hr0 hl0 h =>
    obtain ⟨x0, le0, b0, r0⟩ := wfs_Row (P := P) hr0
    have hn0 : x0.length ≤ 9223372036854775807 := by have := le0.len; rw [rowsOf_len] at this; rw [← this]; simpa [maxLen] using hl0
    cases h
    exact ⟨x0, (LLe.cons (LLe.k le0) LLe.nil), ⟨hn0, b0⟩, r0⟩

theorem wfs_RowS {P : Program} : ∀ {rows : Rws}, (∀ r ∈ rows, Wf [.sl [.i .i64, .sl [.i .i64]]] r) → ∃ l : List (List Row), RLe P rows (rowsOf RowS_i l) ∧ (∀ x ∈ l, RowS_b x) ∧ (∀ x ∈ l, RowS_r x)
  | [], _ => ⟨[], RLe.nil, by simp, by simp⟩
  | r :: rows, h => by
    obtain ⟨l, h1, h2, h3⟩ := wfs_RowS (P := P) (rows := rows) (fun r hr => h r (List.mem_cons_of_mem _ hr))
    obtain ⟨x, k1, k2, k3⟩ := wf_RowS (P := P) (h r (by simp))
    refine ⟨x :: l, RLe.cons (h r (by simp)).len k1 h1, fun y hy => (List.mem_cons.1 hy).elim (fun e => e ▸ k2) (h2 y), fun y hy => (List.mem_cons.1 hy).elim (fun e => e ▸ k3) (h3 y)⟩

theorem wf_Change {P : Program} {ts : List T} (h : Wf [.i .i64, .b, .b, .i .i64, .sl [.i .i64], .i .i64, .sl [.i .i64]] ts) : ∃ x : Change, LLe P ts [.s (.int .i64 x.Table), .s (.bool x.Had), .s (.bool x.Has), .s (.int .i64 x.Old.Id), .im false (rowsOf Int_c x.Old.Cells), .s (.int .i64 x.New.Id), .im false (rowsOf Int_c x.New.Cells)] ∧ Change_b x ∧ Change_r x := by
  cases h with
  | @i _ x0 _ _ hn0 h =>
    cases h with
    | @b x1 _ _ h =>
      cases h with
      | @b x2 _ _ h =>
        cases h with
        | @i _ x3 _ _ hn3 h =>
          cases h with
          | @sl _ rows4 _ _ hr4 hl4 h =>
            obtain ⟨x4, le4, r4⟩ := wfs_Int (P := P) hr4
            have hn4 : x4.length ≤ 9223372036854775807 := by have := le4.len; rw [rowsOf_len] at this; rw [← this]; simpa [maxLen] using hl4
            cases h with
            | @i _ x5 _ _ hn5 h =>
              cases h with
              | @sl _ rows6 _ _ hr6 hl6 h =>
                obtain ⟨x6, le6, r6⟩ := wfs_Int (P := P) hr6
                have hn6 : x6.length ≤ 9223372036854775807 := by have := le6.len; rw [rowsOf_len] at this; rw [← this]; simpa [maxLen] using hl6
                cases h
                exact ⟨⟨x0, x1, x2, ⟨x3, x4⟩, ⟨x5, x6⟩⟩, (LLe.c (LLe.c (LLe.c (LLe.c (LLe.cons (LLe.k le4) (LLe.c (LLe.cons (LLe.k le6) LLe.nil))))))), ⟨hn4, hn6⟩, ⟨hn0, ⟨hn3, r4⟩, ⟨hn5, r6⟩⟩⟩

theorem wfs_Change {P : Program} : ∀ {rows : Rws}, (∀ r ∈ rows, Wf [.i .i64, .b, .b, .i .i64, .sl [.i .i64], .i .i64, .sl [.i .i64]] r) → ∃ l : List Change, RLe P rows (rowsOf Change_i l) ∧ (∀ x ∈ l, Change_b x) ∧ (∀ x ∈ l, Change_r x)
  | [], _ => ⟨[], RLe.nil, by simp, by simp⟩
  | r :: rows, h => by
    obtain ⟨l, h1, h2, h3⟩ := wfs_Change (P := P) (rows := rows) (fun r hr => h r (List.mem_cons_of_mem _ hr))
    obtain ⟨x, k1, k2, k3⟩ := wf_Change (P := P) (h r (by simp))
    refine ⟨x :: l, RLe.cons (h r (by simp)).len k1 h1, fun y hy => (List.mem_cons.1 hy).elim (fun e => e ▸ k2) (h2 y), fun y hy => (List.mem_cons.1 hy).elim (fun e => e ▸ k3) (h3 y)⟩

theorem wf_ChangeS {P : Program} {ts : List T} (h : Wf [.sl [.i .i64, .b, .b, .i .i64, .sl [.i .i64], .i .i64, .sl [.i .i64]]] ts) : ∃ x : List Change, LLe P ts [.im false (rowsOf Change_i x)] ∧ ChangeS_b x ∧ ChangeS_r x := by
  cases h with
  | @sl _ rows0 _ _ hr0 hl0 h =>
    obtain ⟨x0, le0, b0, r0⟩ := wfs_Change (P := P) hr0
    have hn0 : x0.length ≤ 9223372036854775807 := by have := le0.len; rw [rowsOf_len] at this; rw [← this]; simpa [maxLen] using hl0
    cases h
    exact ⟨x0, (LLe.cons (LLe.k le0) LLe.nil), ⟨hn0, b0⟩, r0⟩

theorem wfs_ChangeS {P : Program} : ∀ {rows : Rws}, (∀ r ∈ rows, Wf [.sl [.i .i64, .b, .b, .i .i64, .sl [.i .i64], .i .i64, .sl [.i .i64]]] r) → ∃ l : List (List Change), RLe P rows (rowsOf ChangeS_i l) ∧ (∀ x ∈ l, ChangeS_b x) ∧ (∀ x ∈ l, ChangeS_r x)
  | [], _ => ⟨[], RLe.nil, by simp, by simp⟩
  | r :: rows, h => by
    obtain ⟨l, h1, h2, h3⟩ := wfs_ChangeS (P := P) (rows := rows) (fun r hr => h r (List.mem_cons_of_mem _ hr))
    obtain ⟨x, k1, k2, k3⟩ := wf_ChangeS (P := P) (h r (by simp))
    refine ⟨x :: l, RLe.cons (h r (by simp)).len k1 h1, fun y hy => (List.mem_cons.1 hy).elim (fun e => e ▸ k2) (h2 y), fun y hy => (List.mem_cons.1 hy).elim (fun e => e ▸ k3) (h3 y)⟩

theorem wf_Record {P : Program} {ts : List T} (h : Wf [.sl [.i .i64], .i .i64, .sl [.sl [.i .i64, .sl [.i .i64]]], .sl [.sl [.i .i64, .b, .b, .i .i64, .sl [.i .i64], .i .i64, .sl [.i .i64]]]] ts) : ∃ x : Record, LLe P ts [.im false (rowsOf Int_c x.First.Schema.Cols), .s (.int .i64 x.First.Version), .im false (rowsOf RowS_i x.First.Tables), .im false (rowsOf ChangeS_i x.Steps)] ∧ Record_b x ∧ Record_r x := by
  cases h with
  | @sl _ rows0 _ _ hr0 hl0 h =>
    obtain ⟨x0, le0, r0⟩ := wfs_Int (P := P) hr0
    have hn0 : x0.length ≤ 9223372036854775807 := by have := le0.len; rw [rowsOf_len] at this; rw [← this]; simpa [maxLen] using hl0
    cases h with
    | @i _ x1 _ _ hn1 h =>
      cases h with
      | @sl _ rows2 _ _ hr2 hl2 h =>
        obtain ⟨x2, le2, b2, r2⟩ := wfs_RowS (P := P) hr2
        have hn2 : x2.length ≤ 9223372036854775807 := by have := le2.len; rw [rowsOf_len] at this; rw [← this]; simpa [maxLen] using hl2
        cases h with
        | @sl _ rows3 _ _ hr3 hl3 h =>
          obtain ⟨x3, le3, b3, r3⟩ := wfs_ChangeS (P := P) hr3
          have hn3 : x3.length ≤ 9223372036854775807 := by have := le3.len; rw [rowsOf_len] at this; rw [← this]; simpa [maxLen] using hl3
          cases h
          exact ⟨⟨⟨⟨x0⟩, x1, x2⟩, x3⟩, (LLe.cons (LLe.k le0) (LLe.c (LLe.cons (LLe.k le2) (LLe.cons (LLe.k le3) LLe.nil)))), ⟨⟨hn0, ⟨hn2, b2⟩⟩, ⟨hn3, b3⟩⟩, ⟨⟨r0, hn1, r2⟩, r3⟩⟩

theorem law_wf (xs : List A) (h : AWf [(true, [.sl [.i .i64], .i .i64, .sl [.sl [.i .i64, .sl [.i .i64]]], .sl [.sl [.i .i64, .b, .b, .i .i64, .sl [.i .i64], .i .i64, .sl [.i .i64]]]]), (false, [.sl [.i .i64, .b, .b, .i .i64, .sl [.i .i64], .i .i64, .sl [.i .i64]]])] xs) : ∃ outs, AC Tryz.prog 3 xs outs [.v (.s (.bool true))] := by

  cases h with

  | ag h0 h =>

    cases h with

    | v h1 h =>

      cases h

      obtain ⟨a0, l0, b0, r0⟩ := wf_Record (P := Tryz.prog) h0

      obtain ⟨a1, l1, b1, r1⟩ := wf_ChangeS (P := Tryz.prog) h1

      exact ⟨_, (laws_FnExactRecordPut_ac (laws_FnExactRecordPut_pure a0 b0 r0 a1 b1 r1)).args (ALe.ag h0.len l0 (ALe.v l1 ALe.nil))⟩

end Go.Proofs.YtkpoiinkmodlnaaGreat.L

namespace Go.Proofs.YtkpoiinkmodlnaaGreat
open Go.ChangeShapes Go.WideShapes Go.ChangeAt Go.RowKit

theorem Tryz.own : ownKnob Tryz.prog.godebug = none := by kernel_rfl
theorem Tryz.laidOut : laidOutB Tryz.prog = true := by kernel_rfl

set_option maxRecDepth 100000 in
theorem fnExactRecordPut_lifted (os : Os) (started : os.Started) (H : Type) (enc : TypeId × Value → H) :
    ReturnsInHanded {} Tryz.checked os 3 .any (Rows.fnExactRecordPutSpec.pre6 enc Tryz.prog Tryz.f3 Rows.fnExactRecordPutRow.domain false) (Rows.fnExactRecordPutSpec.post enc Tryz.prog Tryz.f3 false true false false) := by
  refine returnsInHanded_of_change (C := Tryz.checked) Tryz.own started (by kernel_rfl) Tryz.func3
    (ChangeSpec.witness6 (enc := enc) (C := Tryz.checked) false ⟨#[], #[.agg #[.slice none 0 0, .int .i64 0, .slice none 0 0, .slice none 0 0], .slice none 0 0], []⟩ 8 (by kernel_rfl) (by kernel_rfl) (by kernel_rfl) (by kernel_rfl)) ?_
  intro W base args ds gs before hval hW hcnd _
  refine L.law_calls (P := Tryz.prog) (d := 8) (tb := 4) (shs := [(true, [.sl [.i .i64], .i .i64, .sl [.sl [.i .i64, .sl [.i .i64]]], .sl [.sl [.i .i64, .b, .b, .i .i64, .sl [.i .i64], .i .i64, .sl [.i .i64]]]]), (false, [.sl [.i .i64, .b, .b, .i .i64, .sl [.i .i64], .i .i64, .sl [.i .i64]]])]) Tryz.laidOut (by kernel_rfl) ?_ (by kernel_rfl) Tryz.underlying4 rfl ?_ L.law_wf hval hW
  · intro t ht
    have e : t = 30 ∨ t = 31 := by
      rw [Tryz.params3] at ht
      simpa using ht
    rcases e with rfl | rfl
    all_goals exact ⟨by kernel_rfl, of_decide_eq_true (by kernel_rfl)⟩
  · intro ds hds
    rw [Tryz.params3] at hds
    match ds, hds with
    | [x0, x1], _ => rfl

theorem fnExactRecordPut_holds : Rows.FnExactRecordPutSaid :=
  OpenClaim.holds_of_wide 3 Tryz.f3 rfl rfl rfl rfl rfl rfl rfl ⟨rfl, rfl, rfl, rfl, rfl⟩ rfl rfl rfl rfl rfl (by kernel_rfl) Tryz.func3 (by kernel_rfl)
    (of_decide_eq_true (by kernel_rfl)) (by unfold Func.isWrapper; first | (rw [if_pos (by decide +kernel)]; kernel_rfl) | (rw [if_neg (by decide +kernel)]; exact ⟨rfl, rfl⟩))
    (fun os started H enc _ => fnExactRecordPut_lifted os started H enc)

end Go.Proofs.YtkpoiinkmodlnaaGreat
