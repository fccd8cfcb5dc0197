/- The law fnExactDecode returns true at every input, and its arguments read behind the call as they read before, whatever the world is in which the listed tables lie: the tied card; no condition of our own. -/
import Derived.Test.YtcpekllcbimpmaaDoorFxDecodeV
import Derived.Test.YtcpekllcbimpmaaDoorFxDecodeC1
import Derived.Test.YtcpekllcbimpmaaDoorCards
import Derived.Test.YtcpekllcbimpmaaDoorTie
import Derived.ProofKit
import Derived.KernelRfl
import Derived.Deep.DeepHandedRow
import Derived.Lib.LaidTab
import Derived.Stop.LaidErr
import Derived.Lay
import Derived.LaidLaws
import Derived.SevenTiedAt
namespace Go.Proofs.YtcpekllcbimpmaaDoor.L
open Go
set_option linter.unusedVariables false
theorem wf_Str {P : Program} {ts : List T} (h : Wf [.s] ts) : ∃ x : ByteArray, LLe P ts [.s (.string x)] ∧ x.size ≤ 9223372036854775807 := by
  cases h with
  | @s x0 _ _ hx0 h =>
    cases h
    exact ⟨x0, (LLe.c LLe.nil), hx0⟩

theorem law_wf (xs : List A) (h : AWf [(false, [.s])] xs) : ∃ outs, AC Tryd.prog 5 xs outs [.v (.s (.bool true))] := by

  cases h with

  | v h0 h =>

    cases h

    obtain ⟨a0, l0, b0⟩ := wf_Str (P := Tryd.prog) h0

    exact ⟨_, (laws_FnExactDecode_ac (laws_FnExactDecode_pure a0 b0)).args (ALe.v l0 ALe.nil)⟩

end Go.Proofs.YtcpekllcbimpmaaDoor.L

namespace Go.Proofs.YtcpekllcbimpmaaDoor
open Go.ChangeShapes Go.WideShapes Go.ChangeAt Go.RowKit

theorem Tryd.own : ownKnob Tryd.prog.godebug = none := by kernel_rfl
theorem Tryd.laidOut : laidOutB Tryd.prog = true := by kernel_rfl
theorem Tryd.gTab : Tryd.prog.globalNamed "internal/strconv.uint64pow10" = some 1 := by kernel_rfl
theorem Tryd.gTabType : (Tryd.prog.globals[1]?).map (·.type) = some 166 := by kernel_rfl
theorem Tryd.cellsT : Tryd.prog.cellsOf 166 = 20 := by kernel_rfl
theorem Tryd.cellsE : Tryd.prog.cellsOf 152 = 1 := by kernel_rfl
theorem Tryd.gSyn : Tryd.prog.globalNamed "strconv.ErrSyntax" = some 4 := by kernel_rfl
theorem Tryd.gSynT : (Tryd.prog.globals[4]?).map (·.type) = some 111 := by kernel_rfl
theorem Tryd.gRng : Tryd.prog.globalNamed "strconv.ErrRange" = some 5 := by kernel_rfl
theorem Tryd.gRngT : (Tryd.prog.globals[5]?).map (·.type) = some 111 := by kernel_rfl
theorem Tryd.errRow (u : TypeId) (h : Tryd.prog.typeName? 3 u = some "*errors.errorString") : u = 183 := typeName_ptr_named (nm := "errors.errorString") (by rw [show "*" ++ "errors.errorString" = "*errors.errorString" from by decide]; kernel_rfl) (by kernel_rfl) (by decide) u (by rw [show "*" ++ "errors.errorString" = "*errors.errorString" from by decide]; exact h)
theorem Tryd.cellsEr : Tryd.prog.cellsOf 185 = 1 := by kernel_rfl
theorem Tryd.cellsStr : Tryd.prog.cellsOf 9 = 1 := by kernel_rfl

/-- What the row's list gives: the table of tens. -/
theorem tabs {W : World} (h : laidMetH Tryd.prog Rows.fnExactDecodeRow.laid W) : L.Tb Tryd.prog W L.no := by
  have h : laidMet Tryd.prog Rows.fnExactDecodeRow.laid W := h
  have ht : Lib.TabIs Tryd.prog W "internal/strconv.uint64pow10" .u64 Lib.pow10Tab := Lib.tabIs_of_head (rest := _) Tryd.gTab Tryd.gTabType Tryd.underlying166 Tryd.underlying152 Tryd.cellsE Tryd.cellsT (laidMet.tail (laidMet.tail h))
  refine ⟨fun g hg => ?_, fun g hg => ?_, fun g hg => ?_⟩
  · rw [Tryd.gTab] at hg
    cases hg
    refine ⟨fun h => h, ?_, _, ht, rfl⟩
    unfold Lib.TabIs World.var? at ht
    rw [Tryd.gTab, Option.bind_some] at ht
    cases hb : W.heap[1]? with
    | none => rw [hb] at ht; cases ht
    | some o => exact (Array.getElem?_eq_some_iff.1 hb).1
  · rw [Tryd.gSyn] at hg
    cases hg
    obtain ⟨a, s, hv, -, -, -⟩ := laid_sentinel (laidMet.tail (laidMet.tail (laidMet.tail (laidMet.tail h)))) Tryd.gSyn Tryd.gSynT Tryd.underlying111 Tryd.errRow Tryd.underlying183 Tryd.underlying185 rfl rfl Tryd.underlying9 Tryd.cellsEr Tryd.cellsStr
    refine ⟨fun h => h, ?_, _, hv, _, _, rfl⟩
    unfold World.var? at hv
    rw [Tryd.gSyn, Option.bind_some] at hv
    cases hb : W.heap[4]? with
    | none => rw [hb] at hv; cases hv
    | some o => exact (Array.getElem?_eq_some_iff.1 hb).1
  · rw [Tryd.gRng] at hg
    cases hg
    obtain ⟨a, s, hv, -, -, -⟩ := laid_sentinel (laidMet.tail (laidMet.tail (laidMet.tail h))) Tryd.gRng Tryd.gRngT Tryd.underlying111 Tryd.errRow Tryd.underlying183 Tryd.underlying185 rfl rfl Tryd.underlying9 Tryd.cellsEr Tryd.cellsStr
    refine ⟨fun h => h, ?_, _, hv, _, _, rfl⟩
    unfold World.var? at hv
    rw [Tryd.gRng, Option.bind_some] at hv
    cases hb : W.heap[5]? with
    | none => rw [hb] at hv; cases hv
    | some o => exact (Array.getElem?_eq_some_iff.1 hb).1

/-- A world for the witness: the settled one, the tables as their initialisers lay them. -/
noncomputable def laidWorld (os : Os) : World := World.laidAll Tryd.prog os Rows.fnExactDecodeRow.laid
theorem laid_met (os : Os) : laidMet Tryd.prog Rows.fnExactDecodeRow.laid ((laidWorld os).forCall (fun _ _ => 0) ⟨#[], #[.string ByteArray.empty], []⟩).memory :=
  laidMet_laidAll _ (by kernel_rfl) (by kernel_rfl)
theorem reads (os : Os) {H : Type} (enc : TypeId × Value → H) : ∃ places, DataW.whole enc Tryd.prog ((laidWorld os).forCall (fun _ _ => 0) ⟨#[], #[.string ByteArray.empty], []⟩).memory Tryd.f5.params.toList Rows.fnExactDecodeSpec.vars false (#[.string ByteArray.empty] : Array Value).toList 8 = some ([.lit (.string [])], [], places) :=
  ⟨[], by kernel_rfl⟩

set_option maxRecDepth 100000 in
theorem lifted (os : Os) (started : os.Started) (H : Type) (enc : TypeId × Value → H) (F : Stop.Interp) :
    ReturnsInHanded {} Tryd.checked os 5 .any ((OpenSpec.ofChange Rows.fnExactDecodeSpec).preRow enc Tryd.prog Tryd.f5 Rows.fnExactDecodeRow.domain false Rows.fnExactDecodeRow.laid) (((OpenSpec.ofChange Rows.fnExactDecodeSpec).at F).post enc Tryd.prog Tryd.f5 false true false false) := by
  obtain ⟨places, hx⟩ := reads os enc
  refine returnsInHanded_of_row (C := Tryd.checked) (s := OpenSpec.ofChange Rows.fnExactDecodeSpec) Tryd.own started (by kernel_rfl) Tryd.func5
    (witness_row_at (enc := enc) (C := Tryd.checked) false (laidWorld os) #[.string ByteArray.empty] (World.laidAll_os _ _ _) (by kernel_rfl) (by kernel_rfl) (by kernel_rfl)
      (OpenSpec.preRow_of_cond 8 hx (by kernel_rfl) (fun k hk => by cases hk) (by kernel_rfl) (laid_met os))) ?_
  intro W base args ds gs before hval hW _ _ _ hL _ _
  refine L.law_calls (P := Tryd.prog) (d := 8) (tb := 4) (shs := [(false, [.s])]) Tryd.laidOut (by kernel_rfl) ?_ (by kernel_rfl) Tryd.underlying4 rfl ?_ L.law_wf (tabs hL) hval hW
  · intro t ht
    have e : t = 9 := by
      rw [Tryd.params5] at ht
      simpa using ht
    rcases e with rfl
    all_goals exact ⟨by kernel_rfl, of_decide_eq_true (by kernel_rfl)⟩
  · intro ds hds
    rw [Tryd.params5] at hds
    match ds, hds with
    | [_], _ => rfl

theorem said : Rows.FnExactDecodeSaid :=
  OpenClaim.holds_of_cond 5 Tryd.f5 rfl rfl rfl rfl rfl rfl rfl ⟨rfl, rfl, rfl, rfl, rfl⟩ rfl rfl rfl rfl rfl (by kernel_rfl) Tryd.func5 (by kernel_rfl)
    (of_decide_eq_true (by kernel_rfl)) (by unfold Func.isWrapper; first | (rw [if_pos (by decide +kernel)]; kernel_rfl) | (rw [if_neg (by decide +kernel)]; exact ⟨rfl, rfl⟩))
    (fun os started H enc _ F => by rw [OpenClaim.pre_eq_preRow]; exact lifted os started H enc F)
theorem plain (f : FuncId) (fn : Func) (hf : Tryd.pinned.checked.prog.funcNamed "loop.example/g00198/laws.FnExactDecode" = some f) (hfn : Tryd.pinned.checked.prog.funcs[f]? = some fn) :
    true = Tryd.pinned.checked.prog.looks [] ∧ ∀ (j : Nat) t, fn.params[j]? = some t → Tryd.pinned.checked.prog.wantsStandIn t = false := by
  obtain rfl : f = 5 := Option.some.inj ((show Tryd.prog.funcNamed "loop.example/g00198/laws.FnExactDecode" = some 5 by kernel_rfl).symm.trans hf) |>.symm
  obtain rfl : fn = Tryd.f5 := (Option.some.inj (Tryd.func5.symm.trans hfn)).symm
  refine ⟨by kernel_rfl, fun j t ht => ?_⟩
  rw [Tryd.params5] at ht
  have e : t = 9 := by simpa using Array.mem_of_getElem? ht
  rcases e with rfl
  · exact (show Tryd.prog.wantsStandIn 9 = false by kernel_rfl)

theorem fnExactDecode_holds : Rows.FnExactDecodeCardSaid :=
  Claim7.holds_tied_plain_at .later [] _ _ _ _ said (fun _ h => by cases h) (by kernel_rfl) (fun _ h => by cases h) fnExactDecode_row_tie rfl ⟨rfl, rfl⟩ (by kernel_rfl) rfl plain (by kernel_rfl)

end Go.Proofs.YtcpekllcbimpmaaDoor
