/- The law fnQuestion returns true at every input, and its arguments read behind the call as they read before, whatever the world is in which the listed tables lie: the tied card; no condition of our own. -/
import Derived.Test.YtcpekllcbimpmaaDoorFnQuestionV
import Derived.Test.YtcpekllcbimpmaaDoorFnQuestionC1
import Derived.Test.YtcpekllcbimpmaaDoorCards
import Derived.Test.YtcpekllcbimpmaaDoorTie
import Derived.ProofKit
import Derived.KernelRfl
import Derived.Deep.DeepHandedRow
import Derived.Lib.LaidTab
import Derived.Stop.LaidErr
import Derived.Lay
import Derived.LaidLaws
import Derived.SevenTiedAt
namespace Go.Proofs.YtcpekllcbimpmaaDoor.L
open Go
set_option linter.unusedVariables false
theorem wf_u8 {P : Program} {ts : List T} (h : Wf [.i .u8] ts) : ∃ x : Int, LLe P ts [.s (.int .u8 x)] ∧ (0 ≤ x ∧ x ≤ 255) := by
  cases h with
  | @i _ x0 _ _ hn0 h =>
    cases h
    exact ⟨x0, (LLe.c LLe.nil), hn0⟩

theorem wfs_u8 {P : Program} : ∀ {rows : Rws}, (∀ r ∈ rows, Wf [.i .u8] r) → ∃ l : List Int, RLe P rows (rowsOf u8_c l) ∧ (∀ x ∈ l, (0 ≤ x ∧ x ≤ 255))
  | [], _ => ⟨[], RLe.nil, by simp⟩
  | r :: rows, h => by
    obtain ⟨l, h1, h2⟩ := wfs_u8 (P := P) (rows := rows) (fun r hr => h r (List.mem_cons_of_mem _ hr))
    obtain ⟨x, k1, k2⟩ := wf_u8 (P := P) (h r (by simp))
    refine ⟨x :: l, RLe.cons (h r (by simp)).len k1 h1, fun y hy => (List.mem_cons.1 hy).elim (fun e => e ▸ k2) (h2 y)⟩

theorem wf_u8S {P : Program} {ts : List T} (h : Wf [.sl [.i .u8]] ts) : ∃ x : List Int, LLe P ts [.im true (rowsOf u8_c x)] ∧ IntS_b x ∧ (∀ y ∈ x, 0 ≤ y ∧ y ≤ 255) := by
  cases h with
  | @sl _ rows0 _ _ hr0 hl0 h =>
    obtain ⟨x0, le0, r0⟩ := wfs_u8 (P := P) hr0
    have hn0 : x0.length ≤ 9223372036854775807 := by have := le0.len; rw [rowsOf_len] at this; rw [← this]; simpa [maxLen] using hl0
    cases h
    exact ⟨x0, (LLe.cons (LLe.im le0) LLe.nil), hn0, r0⟩

theorem law_wf (xs : List A) (h : AWf [(false, [.sl [.i .u8]])] xs) : ∃ outs, AC Tryd.prog 6 xs outs [.v (.s (.bool true))] := by

  cases h with

  | v h0 h =>

    cases h

    obtain ⟨a0, l0, b0, r0⟩ := wf_u8S (P := Tryd.prog) h0

    exact ⟨_, (laws_FnQuestion_ac (laws_FnQuestion_pure a0 b0 r0)).args (ALe.v l0 ALe.nil)⟩

end Go.Proofs.YtcpekllcbimpmaaDoor.L

namespace Go.Proofs.YtcpekllcbimpmaaDoor
open Go.ChangeShapes Go.WideShapes Go.ChangeAt Go.RowKit

theorem Tryd.own : ownKnob Tryd.prog.godebug = none := by kernel_rfl
theorem Tryd.laidOut : laidOutB Tryd.prog = true := by kernel_rfl
theorem Tryd.gTab : Tryd.prog.globalNamed "internal/strconv.uint64pow10" = some 1 := by kernel_rfl
theorem Tryd.gTabType : (Tryd.prog.globals[1]?).map (·.type) = some 166 := by kernel_rfl
theorem Tryd.cellsT : Tryd.prog.cellsOf 166 = 20 := by kernel_rfl
theorem Tryd.cellsE : Tryd.prog.cellsOf 152 = 1 := by kernel_rfl
theorem Tryd.gSyn : Tryd.prog.globalNamed "strconv.ErrSyntax" = some 4 := by kernel_rfl
theorem Tryd.gSynT : (Tryd.prog.globals[4]?).map (·.type) = some 111 := by kernel_rfl
theorem Tryd.gRng : Tryd.prog.globalNamed "strconv.ErrRange" = some 5 := by kernel_rfl
theorem Tryd.gRngT : (Tryd.prog.globals[5]?).map (·.type) = some 111 := by kernel_rfl
theorem Tryd.errRow (u : TypeId) (h : Tryd.prog.typeName? 3 u = some "*errors.errorString") : u = 183 := typeName_ptr_named (nm := "errors.errorString") (by rw [show "*" ++ "errors.errorString" = "*errors.errorString" from by decide]; kernel_rfl) (by kernel_rfl) (by decide) u (by rw [show "*" ++ "errors.errorString" = "*errors.errorString" from by decide]; exact h)
theorem Tryd.cellsEr : Tryd.prog.cellsOf 185 = 1 := by kernel_rfl
theorem Tryd.cellsStr : Tryd.prog.cellsOf 9 = 1 := by kernel_rfl

/-- What the row's list gives: the table of tens. -/
theorem tabs {W : World} (h : laidMetH Tryd.prog Rows.fnQuestionRow.laid W) : L.Tb Tryd.prog W L.no := by
  have h : laidMet Tryd.prog Rows.fnQuestionRow.laid W := h
  have ht : Lib.TabIs Tryd.prog W "internal/strconv.uint64pow10" .u64 Lib.pow10Tab := Lib.tabIs_of_head (rest := _) Tryd.gTab Tryd.gTabType Tryd.underlying166 Tryd.underlying152 Tryd.cellsE Tryd.cellsT (laidMet.tail (laidMet.tail h))
  refine ⟨fun g hg => ?_, fun g hg => ?_, fun g hg => ?_⟩
  · rw [Tryd.gTab] at hg
    cases hg
    refine ⟨fun h => h, ?_, _, ht, rfl⟩
    unfold Lib.TabIs World.var? at ht
    rw [Tryd.gTab, Option.bind_some] at ht
    cases hb : W.heap[1]? with
    | none => rw [hb] at ht; cases ht
    | some o => exact (Array.getElem?_eq_some_iff.1 hb).1
  · rw [Tryd.gSyn] at hg
    cases hg
    obtain ⟨a, s, hv, -, -, -⟩ := laid_sentinel (laidMet.tail (laidMet.tail (laidMet.tail (laidMet.tail (laidMet.tail h))))) Tryd.gSyn Tryd.gSynT Tryd.underlying111 Tryd.errRow Tryd.underlying183 Tryd.underlying185 rfl rfl Tryd.underlying9 Tryd.cellsEr Tryd.cellsStr
    refine ⟨fun h => h, ?_, _, hv, _, _, rfl⟩
    unfold World.var? at hv
    rw [Tryd.gSyn, Option.bind_some] at hv
    cases hb : W.heap[4]? with
    | none => rw [hb] at hv; cases hv
    | some o => exact (Array.getElem?_eq_some_iff.1 hb).1
  · rw [Tryd.gRng] at hg
    cases hg
    obtain ⟨a, s, hv, -, -, -⟩ := laid_sentinel (laidMet.tail (laidMet.tail (laidMet.tail (laidMet.tail h)))) Tryd.gRng Tryd.gRngT Tryd.underlying111 Tryd.errRow Tryd.underlying183 Tryd.underlying185 rfl rfl Tryd.underlying9 Tryd.cellsEr Tryd.cellsStr
    refine ⟨fun h => h, ?_, _, hv, _, _, rfl⟩
    unfold World.var? at hv
    rw [Tryd.gRng, Option.bind_some] at hv
    cases hb : W.heap[5]? with
    | none => rw [hb] at hv; cases hv
    | some o => exact (Array.getElem?_eq_some_iff.1 hb).1

/-- A world for the witness: the settled one, the tables as their initialisers lay them. -/
noncomputable def laidWorld (os : Os) : World := World.laidAll Tryd.prog os Rows.fnQuestionRow.laid
theorem laid_met (os : Os) : laidMet Tryd.prog Rows.fnQuestionRow.laid ((laidWorld os).forCall (fun _ _ => 0) ⟨#[], #[.slice none 0 0], []⟩).memory :=
  laidMet_laidAll _ (by kernel_rfl) (by kernel_rfl)
theorem reads (os : Os) {H : Type} (enc : TypeId × Value → H) : ∃ places, DataW.whole enc Tryd.prog ((laidWorld os).forCall (fun _ _ => 0) ⟨#[], #[.slice none 0 0], []⟩).memory Tryd.f6.params.toList Rows.fnQuestionSpec.vars false (#[.slice none 0 0] : Array Value).toList 8 = some ([.nil], [], places) :=
  ⟨[], by kernel_rfl⟩

set_option maxRecDepth 100000 in
theorem lifted (os : Os) (started : os.Started) (H : Type) (enc : TypeId × Value → H) (F : Stop.Interp) :
    ReturnsInHanded {} Tryd.checked os 6 .any ((OpenSpec.ofChange Rows.fnQuestionSpec).preRow enc Tryd.prog Tryd.f6 Rows.fnQuestionRow.domain false Rows.fnQuestionRow.laid) (((OpenSpec.ofChange Rows.fnQuestionSpec).at F).post enc Tryd.prog Tryd.f6 false true false false) := by
  obtain ⟨places, hx⟩ := reads os enc
  refine returnsInHanded_of_row (C := Tryd.checked) (s := OpenSpec.ofChange Rows.fnQuestionSpec) Tryd.own started (by kernel_rfl) Tryd.func6
    (witness_row_at (enc := enc) (C := Tryd.checked) false (laidWorld os) #[.slice none 0 0] (World.laidAll_os _ _ _) (by kernel_rfl) (by kernel_rfl) (by kernel_rfl)
      (OpenSpec.preRow_of_cond 8 hx (by kernel_rfl) (fun k hk => by cases hk) (by kernel_rfl) (laid_met os))) ?_
  intro W base args ds gs before hval hW _ _ _ hL _ _
  refine L.law_calls (P := Tryd.prog) (d := 8) (tb := 4) (shs := [(false, [.sl [.i .u8]])]) Tryd.laidOut (by kernel_rfl) ?_ (by kernel_rfl) Tryd.underlying4 rfl ?_ L.law_wf (tabs hL) hval hW
  · intro t ht
    have e : t = 54 := by
      rw [Tryd.params6] at ht
      simpa using ht
    rcases e with rfl
    all_goals exact ⟨by kernel_rfl, of_decide_eq_true (by kernel_rfl)⟩
  · intro ds hds
    rw [Tryd.params6] at hds
    match ds, hds with
    | [_], _ => rfl

theorem said : Rows.FnQuestionSaid :=
  OpenClaim.holds_of_cond 6 Tryd.f6 rfl rfl rfl rfl rfl rfl rfl ⟨rfl, rfl, rfl, rfl, rfl⟩ rfl rfl rfl rfl rfl (by kernel_rfl) Tryd.func6 (by kernel_rfl)
    (of_decide_eq_true (by kernel_rfl)) (by unfold Func.isWrapper; first | (rw [if_pos (by decide +kernel)]; kernel_rfl) | (rw [if_neg (by decide +kernel)]; exact ⟨rfl, rfl⟩))
    (fun os started H enc _ F => by rw [OpenClaim.pre_eq_preRow]; exact lifted os started H enc F)
theorem plain (f : FuncId) (fn : Func) (hf : Tryd.pinned.checked.prog.funcNamed "loop.example/g00198/laws.FnQuestion" = some f) (hfn : Tryd.pinned.checked.prog.funcs[f]? = some fn) :
    true = Tryd.pinned.checked.prog.looks [] ∧ ∀ (j : Nat) t, fn.params[j]? = some t → Tryd.pinned.checked.prog.wantsStandIn t = false := by
  obtain rfl : f = 6 := Option.some.inj ((show Tryd.prog.funcNamed "loop.example/g00198/laws.FnQuestion" = some 6 by kernel_rfl).symm.trans hf) |>.symm
  obtain rfl : fn = Tryd.f6 := (Option.some.inj (Tryd.func6.symm.trans hfn)).symm
  refine ⟨by kernel_rfl, fun j t ht => ?_⟩
  rw [Tryd.params6] at ht
  have e : t = 54 := by simpa using Array.mem_of_getElem? ht
  rcases e with rfl
  · exact (show Tryd.prog.wantsStandIn 54 = false by kernel_rfl)

theorem fnQuestion_holds : Rows.FnQuestionCardSaid :=
  Claim7.holds_tied_plain_at .later [] _ _ _ _ said (fun _ h => by cases h) (by kernel_rfl) (fun _ h => by cases h) fnQuestion_row_tie rfl ⟨rfl, rfl⟩ (by kernel_rfl) rfl plain (by kernel_rfl)

end Go.Proofs.YtcpekllcbimpmaaDoor
