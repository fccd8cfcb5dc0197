/- The law fnExactViewOf returns true at every input, and its arguments read behind the call as they read before; no condition. -/
import Derived.Test.YtgicjbeaomjdgaaFxViewOfV
import Derived.Test.YtgicjbeaomjdgaaFxViewOfC1
import Derived.Test.YtgicjbeaomjdgaaRows
import Derived.ProofKit
import Derived.KernelRfl
namespace Go.Proofs.Ytgicjbeaomjdgaa.L
open Go
set_option linter.unusedVariables false
theorem wf_Int {P : Program} {ts : List T} (h : Wf [.i .i64] ts) : ∃ x : Int, LLe P ts [.s (.int .i64 x)] ∧ (-9223372036854775808 ≤ x ∧ x ≤ 9223372036854775807) := by
  cases h with
  | @i _ x0 _ _ hn0 h =>
    cases h
    exact ⟨x0, (LLe.c LLe.nil), hn0⟩

theorem wfs_Int {P : Program} : ∀ {rows : Rws}, (∀ r ∈ rows, Wf [.i .i64] r) → ∃ l : List Int, RLe P rows (rowsOf Int_c l) ∧ (∀ x ∈ l, (-9223372036854775808 ≤ x ∧ x ≤ 9223372036854775807))
  | [], _ => ⟨[], RLe.nil, by simp⟩
  | r :: rows, h => by
    obtain ⟨l, h1, h2⟩ := wfs_Int (P := P) (rows := rows) (fun r hr => h r (List.mem_cons_of_mem _ hr))
    obtain ⟨x, k1, k2⟩ := wf_Int (P := P) (h r (by simp))
    refine ⟨x :: l, RLe.cons (h r (by simp)).len k1 h1, fun y hy => (List.mem_cons.1 hy).elim (fun e => e ▸ k2) (h2 y)⟩

theorem wf_Row {P : Program} {ts : List T} (h : Wf [.i .i64, .sl [.i .i64]] ts) : ∃ x : Row, LLe P ts [.s (.int .i64 x.Id), .im false (rowsOf Int_c x.Cells)] ∧ Row_b x ∧ Row_r x := by
  cases h with
  | @i _ x0 _ _ hn0 h =>
    cases h with
    | @sl _ rows1 _ _ hr1 hl1 h =>
      obtain ⟨x1, le1, r1⟩ := wfs_Int (P := P) hr1
      have hn1 : x1.length ≤ 9223372036854775807 := by have := le1.len; rw [rowsOf_len] at this; rw [← this]; simpa [maxLen] using hl1
      cases h
      exact ⟨⟨x0, x1⟩, (LLe.c (LLe.cons (LLe.k le1) LLe.nil)), hn1, ⟨hn0, r1⟩⟩

theorem wfs_Row {P : Program} : ∀ {rows : Rws}, (∀ r ∈ rows, Wf [.i .i64, .sl [.i .i64]] r) → ∃ l : List Row, RLe P rows (rowsOf Row_i l) ∧ (∀ x ∈ l, Row_b x) ∧ (∀ x ∈ l, Row_r x)
  | [], _ => ⟨[], RLe.nil, by simp, by simp⟩
  | r :: rows, h => by
    obtain ⟨l, h1, h2, h3⟩ := wfs_Row (P := P) (rows := rows) (fun r hr => h r (List.mem_cons_of_mem _ hr))
    obtain ⟨x, k1, k2, k3⟩ := wf_Row (P := P) (h r (by simp))
    refine ⟨x :: l, RLe.cons (h r (by simp)).len k1 h1, fun y hy => (List.mem_cons.1 hy).elim (fun e => e ▸ k2) (h2 y), fun y hy => (List.mem_cons.1 hy).elim (fun e => e ▸ k3) (h3 y)⟩

theorem wf_RowS {P : Program} {ts : List T} (h : Wf [.sl [.i .i64, .sl [.i .i64]]] ts) : ∃ x : List Row, LLe P ts [.im false (rowsOf Row_i x)] ∧ RowS_b x ∧ RowS_r x := by
  cases h with
  | @sl _ rows0 _ _ hr0 hl0 h =>
    obtain ⟨x0, le0, b0, r0⟩ := wfs_Row (P := P) hr0
    have hn0 : x0.length ≤ 9223372036854775807 := by have := le0.len; rw [rowsOf_len] at this; rw [← this]; simpa [maxLen] using hl0
    cases h
    exact ⟨x0, (LLe.cons (LLe.k le0) LLe.nil), ⟨hn0, b0⟩, r0⟩

theorem wfs_RowS {P : Program} : ∀ {rows : Rws}, (∀ r ∈ rows, Wf [.sl [.i .i64, .sl [.i .i64]]] r) → ∃ l : List (List Row), RLe P rows (rowsOf RowS_i l) ∧ (∀ x ∈ l, RowS_b x) ∧ (∀ x ∈ l, RowS_r x)
  | [], _ => ⟨[], RLe.nil, by simp, by simp⟩
  | r :: rows, h => by
    obtain ⟨l, h1, h2, h3⟩ := wfs_RowS (P := P) (rows := rows) (fun r hr => h r (List.mem_cons_of_mem _ hr))
    obtain ⟨x, k1, k2, k3⟩ := wf_RowS (P := P) (h r (by simp))
    refine ⟨x :: l, RLe.cons (h r (by simp)).len k1 h1, fun y hy => (List.mem_cons.1 hy).elim (fun e => e ▸ k2) (h2 y), fun y hy => (List.mem_cons.1 hy).elim (fun e => e ▸ k3) (h3 y)⟩

theorem wf_Store {P : Program} {ts : List T} (h : Wf [.sl [.i .i64], .i .i64, .sl [.sl [.i .i64, .sl [.i .i64]]]] ts) : ∃ x : Store, LLe P ts [.im false (rowsOf Int_c x.Schema.Cols), .s (.int .i64 x.Version), .im false (rowsOf RowS_i x.Tables)] ∧ Store_b x ∧ Store_r x := by
  cases h with
  | @sl _ rows0 _ _ hr0 hl0 h =>
    obtain ⟨x0, le0, r0⟩ := wfs_Int (P := P) hr0
    have hn0 : x0.length ≤ 9223372036854775807 := by have := le0.len; rw [rowsOf_len] at this; rw [← this]; simpa [maxLen] using hl0
    cases h with
    | @i _ x1 _ _ hn1 h =>
      cases h with
      | @sl _ rows2 _ _ hr2 hl2 h =>
        obtain ⟨x2, le2, b2, r2⟩ := wfs_RowS (P := P) hr2
        have hn2 : x2.length ≤ 9223372036854775807 := by have := le2.len; rw [rowsOf_len] at this; rw [← this]; simpa [maxLen] using hl2
        cases h
        exact ⟨⟨⟨x0⟩, x1, x2⟩, (LLe.cons (LLe.k le0) (LLe.c (LLe.cons (LLe.k le2) LLe.nil))), ⟨hn0, ⟨hn2, b2⟩⟩, ⟨r0, hn1, r2⟩⟩

theorem wf_Cond {P : Program} {ts : List T} (h : Wf [.i .i64, .i .i64, .i .i64] ts) : ∃ x : Cond, LLe P ts [.s (.int .i64 x.Col), .s (.int .i64 x.Op), .s (.int .i64 x.V)] ∧ Cond_r x := by
  cases h with
  | @i _ x0 _ _ hn0 h =>
    cases h with
    | @i _ x1 _ _ hn1 h =>
      cases h with
      | @i _ x2 _ _ hn2 h =>
        cases h
        exact ⟨⟨x0, x1, x2⟩, (LLe.c (LLe.c (LLe.c LLe.nil))), ⟨hn0, hn1, hn2⟩⟩

theorem wfs_Cond {P : Program} : ∀ {rows : Rws}, (∀ r ∈ rows, Wf [.i .i64, .i .i64, .i .i64] r) → ∃ l : List Cond, RLe P rows (rowsOf Cond_c l) ∧ (∀ x ∈ l, Cond_r x)
  | [], _ => ⟨[], RLe.nil, by simp⟩
  | r :: rows, h => by
    obtain ⟨l, h1, h2⟩ := wfs_Cond (P := P) (rows := rows) (fun r hr => h r (List.mem_cons_of_mem _ hr))
    obtain ⟨x, k1, k2⟩ := wf_Cond (P := P) (h r (by simp))
    refine ⟨x :: l, RLe.cons (h r (by simp)).len k1 h1, fun y hy => (List.mem_cons.1 hy).elim (fun e => e ▸ k2) (h2 y)⟩

theorem wf_Query {P : Program} {ts : List T} (h : Wf [.i .i64, .sl [.i .i64, .i .i64, .i .i64], .i .i64, .b, .i .i64, .sl [.i .i64], .b, .i .i64, .i .i64] ts) : ∃ x : Query, LLe P ts [.s (.int .i64 x.Table), .im false (rowsOf Cond_c x.Where), .s (.int .i64 x.Order), .s (.bool x.Down), .s (.int .i64 x.First), .im false (rowsOf Int_c x.Show), .s (.bool x.Kids), .s (.int .i64 x.KidTable), .s (.int .i64 x.KidCol)] ∧ Query_b x ∧ Query_r x := by
  cases h with
  | @i _ x0 _ _ hn0 h =>
    cases h with
    | @sl _ rows1 _ _ hr1 hl1 h =>
      obtain ⟨x1, le1, r1⟩ := wfs_Cond (P := P) hr1
      have hn1 : x1.length ≤ 9223372036854775807 := by have := le1.len; rw [rowsOf_len] at this; rw [← this]; simpa [maxLen] using hl1
      cases h with
      | @i _ x2 _ _ hn2 h =>
        cases h with
        | @b x3 _ _ h =>
          cases h with
          | @i _ x4 _ _ hn4 h =>
            cases h with
            | @sl _ rows5 _ _ hr5 hl5 h =>
              obtain ⟨x5, le5, r5⟩ := wfs_Int (P := P) hr5
              have hn5 : x5.length ≤ 9223372036854775807 := by have := le5.len; rw [rowsOf_len] at this; rw [← this]; simpa [maxLen] using hl5
              cases h with
              | @b x6 _ _ h =>
                cases h with
                | @i _ x7 _ _ hn7 h =>
                  cases h with
                  | @i _ x8 _ _ hn8 h =>
                    cases h
                    exact ⟨⟨x0, x1, x2, x3, x4, x5, x6, x7, x8⟩, (LLe.c (LLe.cons (LLe.k le1) (LLe.c (LLe.c (LLe.c (LLe.cons (LLe.k le5) (LLe.c (LLe.c (LLe.c LLe.nil))))))))), ⟨hn1, hn5⟩, ⟨hn0, r1, hn2, hn4, r5, hn7, hn8⟩⟩

theorem law_wf (xs : List A) (h : AWf [(true, [.sl [.i .i64], .i .i64, .sl [.sl [.i .i64, .sl [.i .i64]]]]), (true, [.i .i64, .sl [.i .i64, .i .i64, .i .i64], .i .i64, .b, .i .i64, .sl [.i .i64], .b, .i .i64, .i .i64])] xs) : ∃ outs, AC Try.prog 4 xs outs [.v (.s (.bool true))] := by

  cases h with

  | ag h0 h =>

    cases h with

    | ag h1 h =>

      cases h

      obtain ⟨a0, l0, b0, r0⟩ := wf_Store (P := Try.prog) h0

      obtain ⟨a1, l1, b1, r1⟩ := wf_Query (P := Try.prog) h1

      exact ⟨_, (laws_FnExactViewOf_ac (laws_FnExactViewOf_pure a0 b0 r0 a1 b1 r1)).args (ALe.ag h0.len l0 (ALe.ag h1.len l1 ALe.nil))⟩

end Go.Proofs.Ytgicjbeaomjdgaa.L

namespace Go.Proofs.Ytgicjbeaomjdgaa
open Go.ChangeShapes Go.WideShapes Go.ChangeAt Go.RowKit

theorem Try.own : ownKnob Try.prog.godebug = none := by kernel_rfl
theorem Try.laidOut : laidOutB Try.prog = true := by kernel_rfl

set_option maxRecDepth 100000 in
theorem fnExactViewOf_lifted (os : Os) (started : os.Started) (H : Type) (enc : TypeId × Value → H) :
    ReturnsInHanded {} Try.checked os 4 .any (Rows.fnExactViewOfSpec.pre6 enc Try.prog Try.f4 Rows.fnExactViewOfRow.domain false) (Rows.fnExactViewOfSpec.post enc Try.prog Try.f4 false true false false) := by
  refine returnsInHanded_of_change (C := Try.checked) Try.own started (by kernel_rfl) Try.func4
    (ChangeSpec.witness6 (enc := enc) (C := Try.checked) false ⟨#[], #[.agg #[.slice none 0 0, .int .i64 0, .slice none 0 0], .agg #[.int .i64 0, .slice none 0 0, .int .i64 0, .bool false, .int .i64 0, .slice none 0 0, .bool false, .int .i64 0, .int .i64 0]], []⟩ 8 (by kernel_rfl) (by kernel_rfl) (by kernel_rfl) (by kernel_rfl)) ?_
  intro W base args ds gs before hval hW hcnd _
  refine L.law_calls (P := Try.prog) (d := 8) (tb := 4) (shs := [(true, [.sl [.i .i64], .i .i64, .sl [.sl [.i .i64, .sl [.i .i64]]]]), (true, [.i .i64, .sl [.i .i64, .i .i64, .i .i64], .i .i64, .b, .i .i64, .sl [.i .i64], .b, .i .i64, .i .i64])]) Try.laidOut (by kernel_rfl) ?_ (by kernel_rfl) Try.underlying4 rfl ?_ L.law_wf hval hW
  · intro t ht
    have e : t = 27 ∨ t = 30 := by
      rw [Try.params4] at ht
      simpa using ht
    rcases e with rfl | rfl
    all_goals exact ⟨by kernel_rfl, of_decide_eq_true (by kernel_rfl)⟩
  · intro ds hds
    rw [Try.params4] at hds
    match ds, hds with
    | [x0, x1], _ => rfl

theorem fnExactViewOf_holds : Rows.FnExactViewOfSaid :=
  OpenClaim.holds_of_wide 4 Try.f4 rfl rfl rfl rfl rfl rfl rfl ⟨rfl, rfl, rfl, rfl, rfl⟩ rfl rfl rfl rfl rfl (by kernel_rfl) Try.func4 (by kernel_rfl)
    (of_decide_eq_true (by kernel_rfl)) (by unfold Func.isWrapper; first | (rw [if_pos (by decide +kernel)]; kernel_rfl) | (rw [if_neg (by decide +kernel)]; exact ⟨rfl, rfl⟩))
    (fun os started H enc _ => fnExactViewOf_lifted os started H enc)

end Go.Proofs.Ytgicjbeaomjdgaa
