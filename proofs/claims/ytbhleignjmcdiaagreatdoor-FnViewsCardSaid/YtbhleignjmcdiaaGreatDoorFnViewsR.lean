/- The law fnViews returns true at every input, and its arguments read behind the call as they read before, whatever the world is in which the listed tables lie: the tied card; no condition of our own. -/
import Derived.Test.YtbhleignjmcdiaaGreatDoorFnViewsV
import Derived.Test.YtbhleignjmcdiaaGreatDoorFnViewsC2
import Derived.Test.YtbhleignjmcdiaaGreatDoorCards
import Derived.Test.YtbhleignjmcdiaaGreatDoorTie
import Derived.ProofKit
import Derived.KernelRfl
import Derived.Deep.DeepHandedRow
import Derived.Lib.LaidTab
import Derived.Stop.LaidErr
import Derived.SevenTiedAt
namespace Go.Proofs.YtbhleignjmcdiaaGreatDoor.L
open Go
set_option linter.unusedVariables false
theorem wf_u8 {P : Program} {ts : List T} (h : Wf [.i .u8] ts) : ∃ x : Int, LLe P ts [.s (.int .u8 x)] ∧ (0 ≤ x ∧ x ≤ 255) := by
  cases h with
  | @i _ x0 _ _ hn0 h =>
    cases h
    exact ⟨x0, (LLe.c LLe.nil), hn0⟩

theorem wfs_u8 {P : Program} : ∀ {rows : Rws}, (∀ r ∈ rows, Wf [.i .u8] r) → ∃ l : List Int, RLe P rows (rowsOf u8_c l) ∧ (∀ x ∈ l, (0 ≤ x ∧ x ≤ 255))
  | [], _ => ⟨[], RLe.nil, by simp⟩
  | r :: rows, h => by
    obtain ⟨l, h1, h2⟩ := wfs_u8 (P := P) (rows := rows) (fun r hr => h r (List.mem_cons_of_mem _ hr))
    obtain ⟨x, k1, k2⟩ := wf_u8 (P := P) (h r (by simp))
    refine ⟨x :: l, RLe.cons (h r (by simp)).len k1 h1, fun y hy => (List.mem_cons.1 hy).elim (fun e => e ▸ k2) (h2 y)⟩

theorem wf_u8S {P : Program} {ts : List T} (h : Wf [.sl [.i .u8]] ts) : ∃ x : List Int, LLe P ts [.im true (rowsOf u8_c x)] ∧ IntS_b x ∧ (∀ y ∈ x, 0 ≤ y ∧ y ≤ 255) := by
  cases h with
  | @sl _ rows0 _ _ hr0 hl0 h =>
    obtain ⟨x0, le0, r0⟩ := wfs_u8 (P := P) hr0
    have hn0 : x0.length ≤ 9223372036854775807 := by have := le0.len; rw [rowsOf_len] at this; rw [← this]; simpa [maxLen] using hl0
    cases h
    exact ⟨x0, (LLe.cons (LLe.im le0) LLe.nil), hn0, r0⟩

theorem law_wf (xs : List A) (h : AWf [(false, [.sl [.i .u8]])] xs) : ∃ outs, AC Tryz.prog 5 xs outs [.v (.s (.bool true))] := by

  cases h with

  | v h0 h =>

    cases h

    obtain ⟨a0, l0, b0, r0⟩ := wf_u8S (P := Tryz.prog) h0

    exact ⟨_, (laws_FnViews_ac (laws_FnViews_pure a0 b0 r0)).args (ALe.v l0 ALe.nil)⟩

end Go.Proofs.YtbhleignjmcdiaaGreatDoor.L

namespace Go.Proofs.YtbhleignjmcdiaaGreatDoor
open Go.ChangeShapes Go.WideShapes Go.ChangeAt Go.RowKit

theorem Tryz.own : ownKnob Tryz.prog.godebug = none := by kernel_rfl
theorem Tryz.laidOut : laidOutB Tryz.prog = true := by kernel_rfl
theorem Tryz.gTab : Tryz.prog.globalNamed "internal/strconv.uint64pow10" = some 0 := by kernel_rfl
theorem Tryz.gTabType : (Tryz.prog.globals[0]?).map (·.type) = some 189 := by kernel_rfl
theorem Tryz.cellsT : Tryz.prog.cellsOf 189 = 20 := by kernel_rfl
theorem Tryz.cellsE : Tryz.prog.cellsOf 180 = 1 := by kernel_rfl
theorem Tryz.noSyntax : Tryz.prog.globalNamed "strconv.ErrSyntax" = none := by kernel_rfl
theorem Tryz.noRange : Tryz.prog.globalNamed "strconv.ErrRange" = none := by kernel_rfl

/-- What the row's list gives: the table of tens. -/
theorem tabs {W : World} (h : laidMetH Tryz.prog Rows.fnViewsRow.laid W) : L.Tb Tryz.prog W L.no := by
  have h : laidMet Tryz.prog Rows.fnViewsRow.laid W := h
  have ht : Lib.TabIs Tryz.prog W "internal/strconv.uint64pow10" .u64 Lib.pow10Tab := Lib.tabIs_of_head (rest := _) Tryz.gTab Tryz.gTabType Tryz.underlying189 Tryz.underlying180 Tryz.cellsE Tryz.cellsT (laidMet.tail (laidMet.tail h))
  refine ⟨fun g hg => ?_, fun g hg => ?_, fun g hg => ?_⟩
  · rw [Tryz.gTab] at hg
    cases hg
    refine ⟨fun h => h, ?_, _, ht, rfl⟩
    unfold Lib.TabIs World.var? at ht
    rw [Tryz.gTab, Option.bind_some] at ht
    cases hb : W.heap[0]? with
    | none => rw [hb] at ht; cases ht
    | some o => exact (Array.getElem?_eq_some_iff.1 hb).1
  · rw [Tryz.noSyntax] at hg; cases hg
  · rw [Tryz.noRange] at hg; cases hg

/-- A world for the witness: the settled one, the tables as their initialisers lay them. -/
noncomputable def laidWorld (os : Os) : World :=
  let w0 : World := World.holding Tryz.prog os ⟨#[], #[], []⟩
  let w1 : World := { w0 with heap := w0.heap.modify 1 fun
      | .cells _ t frozen => .cells #[.int .u8 0, .int .u8 1, .int .u8 28, .int .u8 2, .int .u8 29, .int .u8 14, .int .u8 24, .int .u8 3, .int .u8 30, .int .u8 22, .int .u8 20, .int .u8 15, .int .u8 25, .int .u8 17, .int .u8 4, .int .u8 8, .int .u8 31, .int .u8 27, .int .u8 13, .int .u8 23, .int .u8 21, .int .u8 19, .int .u8 16, .int .u8 7, .int .u8 26, .int .u8 12, .int .u8 18, .int .u8 6, .int .u8 11, .int .u8 5, .int .u8 10, .int .u8 9] t frozen
      | o => o }
  let w2 : World := { w1 with heap := w1.heap.modify 2 fun
      | .cells _ t frozen => .cells #[.int .u8 0, .int .u8 1, .int .u8 56, .int .u8 2, .int .u8 57, .int .u8 49, .int .u8 28, .int .u8 3, .int .u8 61, .int .u8 58, .int .u8 42, .int .u8 50, .int .u8 38, .int .u8 29, .int .u8 17, .int .u8 4, .int .u8 62, .int .u8 47, .int .u8 59, .int .u8 36, .int .u8 45, .int .u8 43, .int .u8 51, .int .u8 22, .int .u8 53, .int .u8 39, .int .u8 33, .int .u8 30, .int .u8 24, .int .u8 18, .int .u8 12, .int .u8 5, .int .u8 63, .int .u8 55, .int .u8 48, .int .u8 27, .int .u8 60, .int .u8 41, .int .u8 37, .int .u8 16, .int .u8 46, .int .u8 35, .int .u8 44, .int .u8 21, .int .u8 52, .int .u8 32, .int .u8 23, .int .u8 11, .int .u8 54, .int .u8 26, .int .u8 40, .int .u8 15, .int .u8 34, .int .u8 20, .int .u8 31, .int .u8 10, .int .u8 25, .int .u8 14, .int .u8 19, .int .u8 9, .int .u8 13, .int .u8 8, .int .u8 7, .int .u8 6] t frozen
      | o => o }
  let w3 : World := { w2 with heap := w2.heap.modify 0 fun
      | .cells _ t frozen => .cells #[.int .u64 1, .int .u64 10, .int .u64 100, .int .u64 1000, .int .u64 10000, .int .u64 100000, .int .u64 1000000, .int .u64 10000000, .int .u64 100000000, .int .u64 1000000000, .int .u64 10000000000, .int .u64 100000000000, .int .u64 1000000000000, .int .u64 10000000000000, .int .u64 100000000000000, .int .u64 1000000000000000, .int .u64 10000000000000000, .int .u64 100000000000000000, .int .u64 1000000000000000000, .int .u64 10000000000000000000] t frozen
      | o => o }
  w3
theorem laid_met (os : Os) : laidMet Tryz.prog Rows.fnViewsRow.laid ((laidWorld os).forCall (fun _ _ => 0) ⟨#[], #[.slice none 0 0], []⟩).memory :=
  laidMet_of_run' 8 (by kernel_rfl) (by kernel_rfl)
theorem reads (os : Os) {H : Type} (enc : TypeId × Value → H) : ∃ places, DataW.whole enc Tryz.prog ((laidWorld os).forCall (fun _ _ => 0) ⟨#[], #[.slice none 0 0], []⟩).memory Tryz.f5.params.toList Rows.fnViewsSpec.vars false (#[.slice none 0 0] : Array Value).toList 8 = some ([.nil], [], places) :=
  ⟨[], by kernel_rfl⟩

set_option maxRecDepth 100000 in
theorem lifted (os : Os) (started : os.Started) (H : Type) (enc : TypeId × Value → H) (F : Stop.Interp) :
    ReturnsInHanded {} Tryz.checked os 5 .any ((OpenSpec.ofChange Rows.fnViewsSpec).preRow enc Tryz.prog Tryz.f5 Rows.fnViewsRow.domain false Rows.fnViewsRow.laid) (((OpenSpec.ofChange Rows.fnViewsSpec).at F).post enc Tryz.prog Tryz.f5 false true false false) := by
  obtain ⟨places, hx⟩ := reads os enc
  refine returnsInHanded_of_row (C := Tryz.checked) (s := OpenSpec.ofChange Rows.fnViewsSpec) Tryz.own started (by kernel_rfl) Tryz.func5
    (witness_row_at (enc := enc) (C := Tryz.checked) false (laidWorld os) #[.slice none 0 0] rfl (by kernel_rfl) (by kernel_rfl) (by kernel_rfl)
      (OpenSpec.preRow_of_cond 8 hx (by kernel_rfl) (fun k hk => by cases hk) (by kernel_rfl) (laid_met os))) ?_
  intro W base args ds gs before hval hW _ _ _ hL _ _
  refine L.law_calls (P := Tryz.prog) (d := 8) (tb := 4) (shs := [(false, [.sl [.i .u8]])]) Tryz.laidOut (by kernel_rfl) ?_ (by kernel_rfl) Tryz.underlying4 rfl ?_ L.law_wf (tabs hL) hval hW
  · intro t ht
    have e : t = 22 := by
      rw [Tryz.params5] at ht
      simpa using ht
    rcases e with rfl
    all_goals exact ⟨by kernel_rfl, of_decide_eq_true (by kernel_rfl)⟩
  · intro ds hds
    rw [Tryz.params5] at hds
    match ds, hds with
    | [_], _ => rfl

theorem said : Rows.FnViewsSaid :=
  OpenClaim.holds_of_cond 5 Tryz.f5 rfl rfl rfl rfl rfl rfl rfl ⟨rfl, rfl, rfl, rfl, rfl⟩ rfl rfl rfl rfl rfl (by kernel_rfl) Tryz.func5 (by kernel_rfl)
    (of_decide_eq_true (by kernel_rfl)) (by unfold Func.isWrapper; first | (rw [if_pos (by decide +kernel)]; kernel_rfl) | (rw [if_neg (by decide +kernel)]; exact ⟨rfl, rfl⟩))
    (fun os started H enc _ F => by rw [OpenClaim.pre_eq_preRow]; exact lifted os started H enc F)
theorem plain (f : FuncId) (fn : Func) (hf : Tryz.pinned.checked.prog.funcNamed "loop.example/g00198/laws.FnViews" = some f) (hfn : Tryz.pinned.checked.prog.funcs[f]? = some fn) :
    false = Tryz.pinned.checked.prog.looks [] ∧ ∀ (j : Nat) t, fn.params[j]? = some t → Tryz.pinned.checked.prog.wantsStandIn t = false := by
  obtain rfl : f = 5 := Option.some.inj ((show Tryz.prog.funcNamed "loop.example/g00198/laws.FnViews" = some 5 by kernel_rfl).symm.trans hf) |>.symm
  obtain rfl : fn = Tryz.f5 := (Option.some.inj (Tryz.func5.symm.trans hfn)).symm
  refine ⟨by kernel_rfl, fun j t ht => ?_⟩
  rw [Tryz.params5] at ht
  have e : t = 22 := by simpa using Array.mem_of_getElem? ht
  rcases e with rfl
  · exact (show Tryz.prog.wantsStandIn 22 = false by kernel_rfl)

theorem fnViews_holds : Rows.FnViewsCardSaid :=
  Claim7.holds_tied_plain_at .later [] _ _ _ _ said (fun _ h => by cases h) (by kernel_rfl) (fun _ h => by cases h) fnViews_row_tie rfl ⟨rfl, rfl⟩ (by kernel_rfl) rfl plain (by kernel_rfl)

end Go.Proofs.YtbhleignjmcdiaaGreatDoor
