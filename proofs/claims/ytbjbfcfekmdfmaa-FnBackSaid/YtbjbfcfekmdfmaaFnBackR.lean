/- The law fnBack returns true at every input, and its arguments read behind the call as they read before; no condition. -/
import Derived.Test.YtbjbfcfekmdfmaaFnBackV
import Derived.Test.YtbjbfcfekmdfmaaFnBackC1
import Derived.Test.YtbjbfcfekmdfmaaRows
import Derived.ProofKit
import Derived.KernelRfl
namespace Go.Proofs.Ytbjbfcfekmdfmaa.L
open Go
set_option linter.unusedVariables false
theorem wf_u8 {P : Program} {ts : List T} (h : Wf [.i .u8] ts) : ∃ x : Int, LLe P ts [.s (.int .u8 x)] ∧ (0 ≤ x ∧ x ≤ 255) := by
  cases h with
  | @i _ x0 _ _ hn0 h =>
    cases h
    exact ⟨x0, (LLe.c LLe.nil), hn0⟩

theorem wfs_u8 {P : Program} : ∀ {rows : Rws}, (∀ r ∈ rows, Wf [.i .u8] r) → ∃ l : List Int, RLe P rows (rowsOf u8_c l) ∧ (∀ x ∈ l, (0 ≤ x ∧ x ≤ 255))
  | [], _ => ⟨[], RLe.nil, by simp⟩
  | r :: rows, h => by
    obtain ⟨l, h1, h2⟩ := wfs_u8 (P := P) (rows := rows) (fun r hr => h r (List.mem_cons_of_mem _ hr))
    obtain ⟨x, k1, k2⟩ := wf_u8 (P := P) (h r (by simp))
    refine ⟨x :: l, RLe.cons (h r (by simp)).len k1 h1, fun y hy => (List.mem_cons.1 hy).elim (fun e => e ▸ k2) (h2 y)⟩

theorem wf_u8S {P : Program} {ts : List T} (h : Wf [.sl [.i .u8]] ts) : ∃ x : List Int, LLe P ts [.im true (rowsOf u8_c x)] ∧ IntS_b x ∧ (∀ y ∈ x, 0 ≤ y ∧ y ≤ 255) := by
  cases h with
  | @sl _ rows0 _ _ hr0 hl0 h =>
    obtain ⟨x0, le0, r0⟩ := wfs_u8 (P := P) hr0
    have hn0 : x0.length ≤ 9223372036854775807 := by have := le0.len; rw [rowsOf_len] at this; rw [← this]; simpa [maxLen] using hl0
    cases h
    exact ⟨x0, (LLe.cons (LLe.im le0) LLe.nil), hn0, r0⟩

theorem law_wf (xs : List A) (h : AWf [(false, [.sl [.i .u8]])] xs) : ∃ outs, AC Try.prog 4 xs outs [.v (.s (.bool true))] := by

  cases h with

  | v h0 h =>

    cases h

    obtain ⟨a0, l0, b0, r0⟩ := wf_u8S (P := Try.prog) h0

    exact ⟨_, (laws_FnBack_ac (laws_FnBack_pure a0 b0 r0)).args (ALe.v l0 ALe.nil)⟩

end Go.Proofs.Ytbjbfcfekmdfmaa.L

namespace Go.Proofs.Ytbjbfcfekmdfmaa
open Go.ChangeShapes Go.WideShapes Go.ChangeAt Go.RowKit

theorem Try.own : ownKnob Try.prog.godebug = none := by kernel_rfl
theorem Try.laidOut : laidOutB Try.prog = true := by kernel_rfl

set_option maxRecDepth 100000 in
theorem fnBack_lifted (os : Os) (started : os.Started) (H : Type) (enc : TypeId × Value → H) :
    ReturnsInHanded {} Try.checked os 4 .any (Rows.fnBackSpec.pre6 enc Try.prog Try.f4 Rows.fnBackRow.domain false) (Rows.fnBackSpec.post enc Try.prog Try.f4 false true false false) := by
  refine returnsInHanded_of_change (C := Try.checked) Try.own started (by kernel_rfl) Try.func4
    (ChangeSpec.witness6 (enc := enc) (C := Try.checked) false ⟨#[], #[.slice none 0 0], []⟩ 8 (by kernel_rfl) (by kernel_rfl) (by kernel_rfl) (by kernel_rfl)) ?_
  intro W base args ds gs before hval hW hcnd _
  refine L.law_calls (P := Try.prog) (d := 8) (tb := 4) (shs := [(false, [.sl [.i .u8]])]) Try.laidOut (by kernel_rfl) ?_ (by kernel_rfl) Try.underlying4 rfl ?_ L.law_wf hval hW
  · intro t ht
    have e : t = 22 := by
      rw [Try.params4] at ht
      simpa using ht
    rcases e with rfl
    all_goals exact ⟨by kernel_rfl, of_decide_eq_true (by kernel_rfl)⟩
  · intro ds hds
    rw [Try.params4] at hds
    match ds, hds with
    | [x0], _ => rfl

theorem fnBack_holds : Rows.FnBackSaid :=
  OpenClaim.holds_of_wide 4 Try.f4 rfl rfl rfl rfl rfl rfl rfl ⟨rfl, rfl, rfl, rfl, rfl⟩ rfl rfl rfl rfl rfl (by kernel_rfl) Try.func4 (by kernel_rfl)
    (of_decide_eq_true (by kernel_rfl)) (by unfold Func.isWrapper; first | (rw [if_pos (by decide +kernel)]; kernel_rfl) | (rw [if_neg (by decide +kernel)]; exact ⟨rfl, rfl⟩))
    (fun os started H enc _ => fnBack_lifted os started H enc)

end Go.Proofs.Ytbjbfcfekmdfmaa
