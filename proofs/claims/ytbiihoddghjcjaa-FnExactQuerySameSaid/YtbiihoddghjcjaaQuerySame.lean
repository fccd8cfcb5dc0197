/- The law FnExactQuerySame returns true at every input, and its arguments read behind the call as they read before; no condition. -/
import Derived.Test.YtbiihoddghjcjaaQs
import Derived.Test.YtbiihoddghjcjaaRows
import Derived.ProofKit
import Derived.KernelRfl
namespace Go.Proofs.Ytbiihoddghjcjaa.L
open Go

theorem wf_conds : ∀ {rows : Rws}, (∀ r ∈ rows, Wf [.i .i64, .i .i64, .i .i64] r) → ∃ l, rows = conds l
  | [], _ => ⟨[], rfl⟩
  | r :: rows, h => by
    obtain ⟨l, rfl⟩ := wf_conds (fun r hr => h r (List.mem_cons_of_mem _ hr))
    have h0 := h r (by simp)
    cases h0 with
    | i _ h0 => cases h0 with
      | i _ h0 => cases h0 with
        | i _ h0 =>
          cases h0
          exact ⟨(_, _, _) :: l, rfl⟩

theorem wf_ints : ∀ {rows : Rws}, (∀ r ∈ rows, Wf [.i .i64] r) → ∃ l, rows = ints l
  | [], _ => ⟨[], rfl⟩
  | r :: rows, h => by
    obtain ⟨l, rfl⟩ := wf_ints (fun r hr => h r (List.mem_cons_of_mem _ hr))
    have h0 := h r (by simp)
    cases h0 with
    | i _ h0 =>
      cases h0
      exact ⟨_ :: l, rfl⟩

def qsh : List Sh := [.i .i64, .sl [.i .i64, .i .i64, .i .i64], .i .i64, .b, .i .i64, .sl [.i .i64], .b, .i .i64, .i .i64]

theorem wf_query {ts : List T} (h : Wf qsh ts) : ∃ (q0 : Int) (q1 : List C3) (q2 : Int) (q3 : Bool) (q4 : Int) (q5 : List Int) (q6 : Bool) (q7 q8 : Int), ts = [.s (.int .i64 q0), .im true (conds q1), .s (.int .i64 q2), .s (.bool q3), .s (.int .i64 q4), .im true (ints q5), .s (.bool q6), .s (.int .i64 q7), .s (.int .i64 q8)] ∧ q1.length ≤ 9223372036854775807 ∧ q5.length ≤ 9223372036854775807 := by
  cases h with
  | i _ h => cases h with
    | sl hr hl h =>
      obtain ⟨q1, rfl⟩ := wf_conds hr
      cases h with
      | i _ h => cases h with
        | b h => cases h with
          | i _ h => cases h with
            | sl hr' hl' h =>
              obtain ⟨q5, rfl⟩ := wf_ints hr'
              cases h with
              | b h => cases h with
                | i _ h => cases h with
                  | i _ h =>
                    cases h
                    refine ⟨_, q1, _, _, _, q5, _, _, _, rfl, ?_, ?_⟩
                    · rw [conds_len] at hl; simpa [maxLen] using hl
                    · rw [ints_len] at hl'; simpa [maxLen] using hl'

theorem law_wf (xs : List A) (h : AWf [(true, qsh), (true, qsh)] xs) : ∃ outs, AC Try.prog 3 xs outs [.v (.s (.bool true))] := by
  cases h with
  | ag h1 h => cases h with
    | ag h2 h =>
      cases h
      obtain ⟨p0, p1, p2, p3, p4, p5, p6, p7, p8, rfl, hp1, hp5⟩ := wf_query h1
      obtain ⟨q0, q1, q2, q3, q4, q5, q6, q7, q8, rfl, hq1, hq5⟩ := wf_query h2
      exact ⟨_, law_ac p0 p1 p2 p3 p4 p5 p6 p7 p8 true true q0 q1 q2 q3 q4 q5 q6 q7 q8 true true hp1 hp5 hq1 hq5⟩

end Go.Proofs.Ytbiihoddghjcjaa.L
namespace Go.Proofs.Ytbiihoddghjcjaa
open Go.ChangeShapes Go.WideShapes Go.ChangeAt Go.RowKit

theorem Try.own : ownKnob Try.prog.godebug = none := by kernel_rfl
theorem Try.laidOut : laidOutB Try.prog = true := by kernel_rfl

set_option maxRecDepth 100000 in
theorem qs_lifted (os : Os) (started : os.Started) (H : Type) (enc : TypeId × Value → H) :
    ReturnsInHanded {} Try.checked os 3 .any (Rows.fnExactQuerySameSpec.pre6 enc Try.prog Try.f3 Rows.fnExactQuerySameRow.domain false) (Rows.fnExactQuerySameSpec.post enc Try.prog Try.f3 false true false false) := by
  refine returnsInHanded_of_change (C := Try.checked) Try.own started (by kernel_rfl) Try.func3
    (ChangeSpec.witness6 (enc := enc) (C := Try.checked) false ⟨#[], #[.agg #[.int .i64 0, .slice none 0 0, .int .i64 0, .bool false, .int .i64 0, .slice none 0 0, .bool false, .int .i64 0, .int .i64 0], .agg #[.int .i64 0, .slice none 0 0, .int .i64 0, .bool false, .int .i64 0, .slice none 0 0, .bool false, .int .i64 0, .int .i64 0]], []⟩ 8 (by kernel_rfl) (by kernel_rfl) (by kernel_rfl) (by kernel_rfl)) ?_
  intro W base args ds gs before hval hW hcnd _
  refine L.law_calls (P := Try.prog) (d := 8) (tb := 4) (shs := [(true, L.qsh), (true, L.qsh)]) Try.laidOut (by kernel_rfl) ?_ (by kernel_rfl) Try.underlying4 rfl ?_ L.law_wf hval hW
  · intro t ht
    have e : t = 25 := by
      rw [Try.params3] at ht
      simpa using ht
    subst e
    exact ⟨by kernel_rfl, of_decide_eq_true (by kernel_rfl)⟩
  · intro ds hds
    rw [Try.params3] at hds
    match ds, hds with
    | [a, b], _ => rfl

theorem qs_holds : Rows.FnExactQuerySameSaid :=
  OpenClaim.holds_of_wide 3 Try.f3 rfl rfl rfl rfl rfl rfl rfl ⟨rfl, rfl, rfl, rfl, rfl⟩ rfl rfl rfl rfl rfl (by kernel_rfl) Try.func3 (by kernel_rfl)
    (of_decide_eq_true (by kernel_rfl)) (by unfold Func.isWrapper; first | (rw [if_pos (by decide +kernel)]; kernel_rfl) | (rw [if_neg (by decide +kernel)]; exact ⟨rfl, rfl⟩))
    (fun os started H enc _ => qs_lifted os started H enc)

end Go.Proofs.Ytbiihoddghjcjaa
