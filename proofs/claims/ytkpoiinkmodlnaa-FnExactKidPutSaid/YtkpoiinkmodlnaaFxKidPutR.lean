/- The law fnExactKidPut returns true at every input, and its arguments read behind the call as they read before; no condition. -/
import Derived.Test.YtkpoiinkmodlnaaFxKidPutV
import Derived.Test.YtkpoiinkmodlnaaFxKidPutC0
import Derived.Test.YtkpoiinkmodlnaaRows
import Derived.ProofKit
import Derived.KernelRfl
namespace Go.Proofs.Ytkpoiinkmodlnaa.L
open Go
set_option linter.unusedVariables false
theorem wf_Kid {P : Program} {ts : List T} (h : Wf [.i .i64, .i .i64] ts) : ∃ x : Kid, LLe P ts [.s (.int .i64 x.Id), .s (.int .i64 x.N)] ∧ Kid_r x := by
  cases h with
  | @i _ x0 _ _ hn0 h =>
    cases h with
    | @i _ x1 _ _ hn1 h =>
      cases h
      exact ⟨⟨x0, x1⟩, (LLe.c (LLe.c LLe.nil)), ⟨hn0, hn1⟩⟩

theorem wfs_Kid {P : Program} : ∀ {rows : Rws}, (∀ r ∈ rows, Wf [.i .i64, .i .i64] r) → ∃ l : List Kid, RLe P rows (rowsOf Kid_c l) ∧ (∀ x ∈ l, Kid_r x)
  | [], _ => ⟨[], RLe.nil, by simp⟩
  | r :: rows, h => by
    obtain ⟨l, h1, h2⟩ := wfs_Kid (P := P) (rows := rows) (fun r hr => h r (List.mem_cons_of_mem _ hr))
    obtain ⟨x, k1, k2⟩ := wf_Kid (P := P) (h r (by simp))
    refine ⟨x :: l, RLe.cons (h r (by simp)).len k1 h1, fun y hy => (List.mem_cons.1 hy).elim (fun e => e ▸ k2) (h2 y)⟩

theorem wf_KidS {P : Program} {ts : List T} (h : Wf [.sl [.i .i64, .i .i64]] ts) : ∃ x : List Kid, LLe P ts [.im false (rowsOf Kid_c x)] ∧ KidS_b x ∧ KidS_r x := by
  cases h with
  | @sl _ rows0 _ _ hr0 hl0 h =>
    obtain ⟨x0, le0, r0⟩ := wfs_Kid (P := P) hr0
    have hn0 : x0.length ≤ 9223372036854775807 := by have := le0.len; rw [rowsOf_len] at this; rw [← this]; simpa [maxLen] using hl0
    cases h
    exact ⟨x0, (LLe.cons (LLe.k le0) LLe.nil), hn0, r0⟩

theorem wf_Int {P : Program} {ts : List T} (h : Wf [.i .i64] ts) : ∃ x : Int, LLe P ts [.s (.int .i64 x)] ∧ (-9223372036854775808 ≤ x ∧ x ≤ 9223372036854775807) := by
  cases h with
  | @i _ x0 _ _ hn0 h =>
    cases h
    exact ⟨x0, (LLe.c LLe.nil), hn0⟩

theorem law_wf (xs : List A) (h : AWf [(false, [.sl [.i .i64, .i .i64]]), (false, [.i .i64]), (false, [.i .i64])] xs) : ∃ outs, AC Try.prog 6 xs outs [.v (.s (.bool true))] := by

  cases h with

  | v h0 h =>

    cases h with

    | v h1 h =>

      cases h with

      | v h2 h =>

        cases h

        obtain ⟨a0, l0, b0, r0⟩ := wf_KidS (P := Try.prog) h0

        obtain ⟨a1, l1, r1⟩ := wf_Int (P := Try.prog) h1

        obtain ⟨a2, l2, r2⟩ := wf_Int (P := Try.prog) h2

        exact ⟨_, (laws_FnExactKidPut_ac (laws_FnExactKidPut_pure a0 b0 r0 a1 r1 a2 r2)).args (ALe.v l0 (ALe.v l1 (ALe.v l2 ALe.nil)))⟩

end Go.Proofs.Ytkpoiinkmodlnaa.L

namespace Go.Proofs.Ytkpoiinkmodlnaa
open Go.ChangeShapes Go.WideShapes Go.ChangeAt Go.RowKit

theorem Try.own : ownKnob Try.prog.godebug = none := by kernel_rfl
theorem Try.laidOut : laidOutB Try.prog = true := by kernel_rfl

set_option maxRecDepth 100000 in
theorem fnExactKidPut_lifted (os : Os) (started : os.Started) (H : Type) (enc : TypeId × Value → H) :
    ReturnsInHanded {} Try.checked os 6 .any (Rows.fnExactKidPutSpec.pre6 enc Try.prog Try.f6 Rows.fnExactKidPutRow.domain false) (Rows.fnExactKidPutSpec.post enc Try.prog Try.f6 false true false false) := by
  refine returnsInHanded_of_change (C := Try.checked) Try.own started (by kernel_rfl) Try.func6
    (ChangeSpec.witness6 (enc := enc) (C := Try.checked) false ⟨#[], #[.slice none 0 0, .int .i64 0, .int .i64 0], []⟩ 8 (by kernel_rfl) (by kernel_rfl) (by kernel_rfl) (by kernel_rfl)) ?_
  intro W base args ds gs before hval hW hcnd _
  refine L.law_calls (P := Try.prog) (d := 8) (tb := 4) (shs := [(false, [.sl [.i .i64, .i .i64]]), (false, [.i .i64]), (false, [.i .i64])]) Try.laidOut (by kernel_rfl) ?_ (by kernel_rfl) Try.underlying4 rfl ?_ L.law_wf hval hW
  · intro t ht
    have e : t = 73 ∨ t = 3 := by
      rw [Try.params6] at ht
      simpa using ht
    rcases e with rfl | rfl
    all_goals exact ⟨by kernel_rfl, of_decide_eq_true (by kernel_rfl)⟩
  · intro ds hds
    rw [Try.params6] at hds
    match ds, hds with
    | [x0, x1, x2], _ => rfl

theorem fnExactKidPut_holds : Rows.FnExactKidPutSaid :=
  OpenClaim.holds_of_wide 6 Try.f6 rfl rfl rfl rfl rfl rfl rfl ⟨rfl, rfl, rfl, rfl, rfl⟩ rfl rfl rfl rfl rfl (by kernel_rfl) Try.func6 (by kernel_rfl)
    (of_decide_eq_true (by kernel_rfl)) (by unfold Func.isWrapper; first | (rw [if_pos (by decide +kernel)]; kernel_rfl) | (rw [if_neg (by decide +kernel)]; exact ⟨rfl, rfl⟩))
    (fun os started H enc _ => fnExactKidPut_lifted os started H enc)

end Go.Proofs.Ytkpoiinkmodlnaa
