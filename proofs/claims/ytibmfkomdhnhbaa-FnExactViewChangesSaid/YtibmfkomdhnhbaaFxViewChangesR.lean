/- The law fnExactViewChanges returns true at every input, and its arguments read behind the call as they read before; no condition. -/
import Derived.Test.YtibmfkomdhnhbaaFxViewChangesV
import Derived.Test.YtibmfkomdhnhbaaFxViewChangesC1
import Derived.Test.YtibmfkomdhnhbaaRows
import Derived.ProofKit
import Derived.KernelRfl
namespace Go.Proofs.Ytibmfkomdhnhbaa.L
open Go
set_option linter.unusedVariables false
theorem wf_Cond {P : Program} {ts : List T} (h : Wf [.i .i64, .i .i64, .i .i64] ts) : ∃ x : Cond, LLe P ts [.s (.int .i64 x.Col), .s (.int .i64 x.Op), .s (.int .i64 x.V)] ∧ Cond_r x := by
  cases h with
  | @i _ x0 _ _ hn0 h =>
    cases h with
    | @i _ x1 _ _ hn1 h =>
      cases h with
      | @i _ x2 _ _ hn2 h =>
        cases h
        exact ⟨⟨x0, x1, x2⟩, (LLe.c (LLe.c (LLe.c LLe.nil))), ⟨hn0, hn1, hn2⟩⟩

theorem wfs_Cond {P : Program} : ∀ {rows : Rws}, (∀ r ∈ rows, Wf [.i .i64, .i .i64, .i .i64] r) → ∃ l : List Cond, RLe P rows (rowsOf Cond_c l) ∧ (∀ x ∈ l, Cond_r x)
  | [], _ => ⟨[], RLe.nil, by simp⟩
  | r :: rows, h => by
    obtain ⟨l, h1, h2⟩ := wfs_Cond (P := P) (rows := rows) (fun r hr => h r (List.mem_cons_of_mem _ hr))
    obtain ⟨x, k1, k2⟩ := wf_Cond (P := P) (h r (by simp))
    refine ⟨x :: l, RLe.cons (h r (by simp)).len k1 h1, fun y hy => (List.mem_cons.1 hy).elim (fun e => e ▸ k2) (h2 y)⟩

theorem wf_Int {P : Program} {ts : List T} (h : Wf [.i .i64] ts) : ∃ x : Int, LLe P ts [.s (.int .i64 x)] ∧ (-9223372036854775808 ≤ x ∧ x ≤ 9223372036854775807) := by
  cases h with
  | @i _ x0 _ _ hn0 h =>
    cases h
    exact ⟨x0, (LLe.c LLe.nil), hn0⟩

theorem wfs_Int {P : Program} : ∀ {rows : Rws}, (∀ r ∈ rows, Wf [.i .i64] r) → ∃ l : List Int, RLe P rows (rowsOf Int_c l) ∧ (∀ x ∈ l, (-9223372036854775808 ≤ x ∧ x ≤ 9223372036854775807))
  | [], _ => ⟨[], RLe.nil, by simp⟩
  | r :: rows, h => by
    obtain ⟨l, h1, h2⟩ := wfs_Int (P := P) (rows := rows) (fun r hr => h r (List.mem_cons_of_mem _ hr))
    obtain ⟨x, k1, k2⟩ := wf_Int (P := P) (h r (by simp))
    refine ⟨x :: l, RLe.cons (h r (by simp)).len k1 h1, fun y hy => (List.mem_cons.1 hy).elim (fun e => e ▸ k2) (h2 y)⟩

theorem wf_Row {P : Program} {ts : List T} (h : Wf [.i .i64, .sl [.i .i64]] ts) : ∃ x : Row, LLe P ts [.s (.int .i64 x.Id), .im false (rowsOf Int_c x.Cells)] ∧ Row_b x ∧ Row_r x := by
  cases h with
  | @i _ x0 _ _ hn0 h =>
    cases h with
    | @sl _ rows1 _ _ hr1 hl1 h =>
      obtain ⟨x1, le1, r1⟩ := wfs_Int (P := P) hr1
      have hn1 : x1.length ≤ 9223372036854775807 := by have := le1.len; rw [rowsOf_len] at this; rw [← this]; simpa [maxLen] using hl1
      cases h
      exact ⟨⟨x0, x1⟩, (LLe.c (LLe.cons (LLe.k le1) LLe.nil)), hn1, ⟨hn0, r1⟩⟩

theorem wfs_Row {P : Program} : ∀ {rows : Rws}, (∀ r ∈ rows, Wf [.i .i64, .sl [.i .i64]] r) → ∃ l : List Row, RLe P rows (rowsOf Row_i l) ∧ (∀ x ∈ l, Row_b x) ∧ (∀ x ∈ l, Row_r x)
  | [], _ => ⟨[], RLe.nil, by simp, by simp⟩
  | r :: rows, h => by
    obtain ⟨l, h1, h2, h3⟩ := wfs_Row (P := P) (rows := rows) (fun r hr => h r (List.mem_cons_of_mem _ hr))
    obtain ⟨x, k1, k2, k3⟩ := wf_Row (P := P) (h r (by simp))
    refine ⟨x :: l, RLe.cons (h r (by simp)).len k1 h1, fun y hy => (List.mem_cons.1 hy).elim (fun e => e ▸ k2) (h2 y), fun y hy => (List.mem_cons.1 hy).elim (fun e => e ▸ k3) (h3 y)⟩

theorem wf_Kid {P : Program} {ts : List T} (h : Wf [.i .i64, .i .i64] ts) : ∃ x : Kid, LLe P ts [.s (.int .i64 x.Id), .s (.int .i64 x.N)] ∧ Kid_r x := by
  cases h with
  | @i _ x0 _ _ hn0 h =>
    cases h with
    | @i _ x1 _ _ hn1 h =>
      cases h
      exact ⟨⟨x0, x1⟩, (LLe.c (LLe.c LLe.nil)), ⟨hn0, hn1⟩⟩

theorem wfs_Kid {P : Program} : ∀ {rows : Rws}, (∀ r ∈ rows, Wf [.i .i64, .i .i64] r) → ∃ l : List Kid, RLe P rows (rowsOf Kid_c l) ∧ (∀ x ∈ l, Kid_r x)
  | [], _ => ⟨[], RLe.nil, by simp⟩
  | r :: rows, h => by
    obtain ⟨l, h1, h2⟩ := wfs_Kid (P := P) (rows := rows) (fun r hr => h r (List.mem_cons_of_mem _ hr))
    obtain ⟨x, k1, k2⟩ := wf_Kid (P := P) (h r (by simp))
    refine ⟨x :: l, RLe.cons (h r (by simp)).len k1 h1, fun y hy => (List.mem_cons.1 hy).elim (fun e => e ▸ k2) (h2 y)⟩

theorem wf_View {P : Program} {ts : List T} (h : Wf [.i .i64, .sl [.i .i64, .i .i64, .i .i64], .i .i64, .b, .i .i64, .sl [.i .i64], .b, .i .i64, .i .i64, .sl [.i .i64, .sl [.i .i64]], .sl [.i .i64, .i .i64]] ts) : ∃ x : View, LLe P ts [.s (.int .i64 x.Q.Table), .im false (rowsOf Cond_c x.Q.Where), .s (.int .i64 x.Q.Order), .s (.bool x.Q.Down), .s (.int .i64 x.Q.First), .im false (rowsOf Int_c x.Q.Show), .s (.bool x.Q.Kids), .s (.int .i64 x.Q.KidTable), .s (.int .i64 x.Q.KidCol), .im false (rowsOf Row_i x.Rows), .im false (rowsOf Kid_c x.Kids)] ∧ View_b x ∧ View_r x := by
  cases h with
  | @i _ x0 _ _ hn0 h =>
    cases h with
    | @sl _ rows1 _ _ hr1 hl1 h =>
      obtain ⟨x1, le1, r1⟩ := wfs_Cond (P := P) hr1
      have hn1 : x1.length ≤ 9223372036854775807 := by have := le1.len; rw [rowsOf_len] at this; rw [← this]; simpa [maxLen] using hl1
      cases h with
      | @i _ x2 _ _ hn2 h =>
        cases h with
        | @b x3 _ _ h =>
          cases h with
          | @i _ x4 _ _ hn4 h =>
            cases h with
            | @sl _ rows5 _ _ hr5 hl5 h =>
              obtain ⟨x5, le5, r5⟩ := wfs_Int (P := P) hr5
              have hn5 : x5.length ≤ 9223372036854775807 := by have := le5.len; rw [rowsOf_len] at this; rw [← this]; simpa [maxLen] using hl5
              cases h with
              | @b x6 _ _ h =>
                cases h with
                | @i _ x7 _ _ hn7 h =>
                  cases h with
                  | @i _ x8 _ _ hn8 h =>
                    cases h with
                    | @sl _ rows9 _ _ hr9 hl9 h =>
                      obtain ⟨x9, le9, b9, r9⟩ := wfs_Row (P := P) hr9
                      have hn9 : x9.length ≤ 9223372036854775807 := by have := le9.len; rw [rowsOf_len] at this; rw [← this]; simpa [maxLen] using hl9
                      cases h with
                      | @sl _ rows10 _ _ hr10 hl10 h =>
                        obtain ⟨x10, le10, r10⟩ := wfs_Kid (P := P) hr10
                        have hn10 : x10.length ≤ 9223372036854775807 := by have := le10.len; rw [rowsOf_len] at this; rw [← this]; simpa [maxLen] using hl10
                        cases h
                        exact ⟨⟨⟨x0, x1, x2, x3, x4, x5, x6, x7, x8⟩, x9, x10⟩, (LLe.c (LLe.cons (LLe.k le1) (LLe.c (LLe.c (LLe.c (LLe.cons (LLe.k le5) (LLe.c (LLe.c (LLe.c (LLe.cons (LLe.k le9) (LLe.cons (LLe.k le10) LLe.nil))))))))))), ⟨⟨hn1, hn5⟩, ⟨hn9, b9⟩, hn10⟩, ⟨⟨hn0, r1, hn2, hn4, r5, hn7, hn8⟩, r9, r10⟩⟩

theorem wf_Change {P : Program} {ts : List T} (h : Wf [.i .i64, .b, .b, .i .i64, .sl [.i .i64], .i .i64, .sl [.i .i64]] ts) : ∃ x : Change, LLe P ts [.s (.int .i64 x.Table), .s (.bool x.Had), .s (.bool x.Has), .s (.int .i64 x.Old.Id), .im false (rowsOf Int_c x.Old.Cells), .s (.int .i64 x.New.Id), .im false (rowsOf Int_c x.New.Cells)] ∧ Change_b x ∧ Change_r x := by
  cases h with
  | @i _ x0 _ _ hn0 h =>
    cases h with
    | @b x1 _ _ h =>
      cases h with
      | @b x2 _ _ h =>
        cases h with
        | @i _ x3 _ _ hn3 h =>
          cases h with
          | @sl _ rows4 _ _ hr4 hl4 h =>
            obtain ⟨x4, le4, r4⟩ := wfs_Int (P := P) hr4
            have hn4 : x4.length ≤ 9223372036854775807 := by have := le4.len; rw [rowsOf_len] at this; rw [← this]; simpa [maxLen] using hl4
            cases h with
            | @i _ x5 _ _ hn5 h =>
              cases h with
              | @sl _ rows6 _ _ hr6 hl6 h =>
                obtain ⟨x6, le6, r6⟩ := wfs_Int (P := P) hr6
                have hn6 : x6.length ≤ 9223372036854775807 := by have := le6.len; rw [rowsOf_len] at this; rw [← this]; simpa [maxLen] using hl6
                cases h
                exact ⟨⟨x0, x1, x2, ⟨x3, x4⟩, ⟨x5, x6⟩⟩, (LLe.c (LLe.c (LLe.c (LLe.c (LLe.cons (LLe.k le4) (LLe.c (LLe.cons (LLe.k le6) LLe.nil))))))), ⟨hn4, hn6⟩, ⟨hn0, ⟨hn3, r4⟩, ⟨hn5, r6⟩⟩⟩

theorem wfs_Change {P : Program} : ∀ {rows : Rws}, (∀ r ∈ rows, Wf [.i .i64, .b, .b, .i .i64, .sl [.i .i64], .i .i64, .sl [.i .i64]] r) → ∃ l : List Change, RLe P rows (rowsOf Change_i l) ∧ (∀ x ∈ l, Change_b x) ∧ (∀ x ∈ l, Change_r x)
  | [], _ => ⟨[], RLe.nil, by simp, by simp⟩
  | r :: rows, h => by
    obtain ⟨l, h1, h2, h3⟩ := wfs_Change (P := P) (rows := rows) (fun r hr => h r (List.mem_cons_of_mem _ hr))
    obtain ⟨x, k1, k2, k3⟩ := wf_Change (P := P) (h r (by simp))
    refine ⟨x :: l, RLe.cons (h r (by simp)).len k1 h1, fun y hy => (List.mem_cons.1 hy).elim (fun e => e ▸ k2) (h2 y), fun y hy => (List.mem_cons.1 hy).elim (fun e => e ▸ k3) (h3 y)⟩

theorem wf_ChangeS {P : Program} {ts : List T} (h : Wf [.sl [.i .i64, .b, .b, .i .i64, .sl [.i .i64], .i .i64, .sl [.i .i64]]] ts) : ∃ x : List Change, LLe P ts [.im false (rowsOf Change_i x)] ∧ ChangeS_b x ∧ ChangeS_r x := by
  cases h with
  | @sl _ rows0 _ _ hr0 hl0 h =>
    obtain ⟨x0, le0, b0, r0⟩ := wfs_Change (P := P) hr0
    have hn0 : x0.length ≤ 9223372036854775807 := by have := le0.len; rw [rowsOf_len] at this; rw [← this]; simpa [maxLen] using hl0
    cases h
    exact ⟨x0, (LLe.cons (LLe.k le0) LLe.nil), ⟨hn0, b0⟩, r0⟩

theorem law_wf (xs : List A) (h : AWf [(true, [.i .i64, .sl [.i .i64, .i .i64, .i .i64], .i .i64, .b, .i .i64, .sl [.i .i64], .b, .i .i64, .i .i64, .sl [.i .i64, .sl [.i .i64]], .sl [.i .i64, .i .i64]]), (false, [.sl [.i .i64, .b, .b, .i .i64, .sl [.i .i64], .i .i64, .sl [.i .i64]]])] xs) : ∃ outs, AC Try.prog 13 xs outs [.v (.s (.bool true))] := by

  cases h with

  | ag h0 h =>

    cases h with

    | v h1 h =>

      cases h

      obtain ⟨a0, l0, b0, r0⟩ := wf_View (P := Try.prog) h0

      obtain ⟨a1, l1, b1, r1⟩ := wf_ChangeS (P := Try.prog) h1

      exact ⟨_, (laws_FnExactViewChanges_ac (laws_FnExactViewChanges_pure a0 b0 r0 a1 b1 r1)).args (ALe.ag h0.len l0 (ALe.v l1 ALe.nil))⟩

end Go.Proofs.Ytibmfkomdhnhbaa.L

namespace Go.Proofs.Ytibmfkomdhnhbaa
open Go.ChangeShapes Go.WideShapes Go.ChangeAt Go.RowKit

theorem Try.own : ownKnob Try.prog.godebug = none := by kernel_rfl
theorem Try.laidOut : laidOutB Try.prog = true := by kernel_rfl

set_option maxRecDepth 100000 in
theorem fnExactViewChanges_lifted (os : Os) (started : os.Started) (H : Type) (enc : TypeId × Value → H) :
    ReturnsInHanded {} Try.checked os 13 .any (Rows.fnExactViewChangesSpec.pre6 enc Try.prog Try.f13 Rows.fnExactViewChangesRow.domain false) (Rows.fnExactViewChangesSpec.post enc Try.prog Try.f13 false true false false) := by
  refine returnsInHanded_of_change (C := Try.checked) Try.own started (by kernel_rfl) Try.func13
    (ChangeSpec.witness6 (enc := enc) (C := Try.checked) false ⟨#[], #[.agg #[.int .i64 0, .slice none 0 0, .int .i64 0, .bool false, .int .i64 0, .slice none 0 0, .bool false, .int .i64 0, .int .i64 0, .slice none 0 0, .slice none 0 0], .slice none 0 0], []⟩ 8 (by kernel_rfl) (by kernel_rfl) (by kernel_rfl) (by kernel_rfl)) ?_
  intro W base args ds gs before hval hW hcnd _
  refine L.law_calls (P := Try.prog) (d := 8) (tb := 4) (shs := [(true, [.i .i64, .sl [.i .i64, .i .i64, .i .i64], .i .i64, .b, .i .i64, .sl [.i .i64], .b, .i .i64, .i .i64, .sl [.i .i64, .sl [.i .i64]], .sl [.i .i64, .i .i64]]), (false, [.sl [.i .i64, .b, .b, .i .i64, .sl [.i .i64], .i .i64, .sl [.i .i64]]])]) Try.laidOut (by kernel_rfl) ?_ (by kernel_rfl) Try.underlying4 rfl ?_ L.law_wf hval hW
  · intro t ht
    have e : t = 49 ∨ t = 71 := by
      rw [Try.params13] at ht
      simpa using ht
    rcases e with rfl | rfl
    all_goals exact ⟨by kernel_rfl, of_decide_eq_true (by kernel_rfl)⟩
  · intro ds hds
    rw [Try.params13] at hds
    match ds, hds with
    | [x0, x1], _ => rfl

theorem fnExactViewChanges_holds : Rows.FnExactViewChangesSaid :=
  OpenClaim.holds_of_wide 13 Try.f13 rfl rfl rfl rfl rfl rfl rfl ⟨rfl, rfl, rfl, rfl, rfl⟩ rfl rfl rfl rfl rfl (by kernel_rfl) Try.func13 (by kernel_rfl)
    (of_decide_eq_true (by kernel_rfl)) (by unfold Func.isWrapper; first | (rw [if_pos (by decide +kernel)]; kernel_rfl) | (rw [if_neg (by decide +kernel)]; exact ⟨rfl, rfl⟩))
    (fun os started H enc _ => fnExactViewChanges_lifted os started H enc)

end Go.Proofs.Ytibmfkomdhnhbaa
