/- The law fnText returns true at every input, and its arguments read behind the call as they read before, whatever the world is in which the listed tables lie: the tied card; no condition of our own. -/
import Derived.Test.YtcpekllcbimpmaaGreatDoorFnTextV
import Derived.Test.YtcpekllcbimpmaaGreatDoorFnTextC1
import Derived.Test.YtcpekllcbimpmaaGreatDoorCards
import Derived.Test.YtcpekllcbimpmaaGreatDoorTie
import Derived.ProofKit
import Derived.KernelRfl
import Derived.Deep.DeepHandedRow
import Derived.Lib.LaidTab
import Derived.Stop.LaidErr
import Derived.Lay
import Derived.LaidLaws
import Derived.SevenTiedAt
namespace Go.Proofs.YtcpekllcbimpmaaGreatDoor.L
open Go
set_option linter.unusedVariables false
theorem wf_u8 {P : Program} {ts : List T} (h : Wf [.i .u8] ts) : ∃ x : Int, LLe P ts [.s (.int .u8 x)] ∧ (0 ≤ x ∧ x ≤ 255) := by
  cases h with
  | @i _ x0 _ _ hn0 h =>
    cases h
    exact ⟨x0, (LLe.c LLe.nil), hn0⟩

theorem wfs_u8 {P : Program} : ∀ {rows : Rws}, (∀ r ∈ rows, Wf [.i .u8] r) → ∃ l : List Int, RLe P rows (rowsOf u8_c l) ∧ (∀ x ∈ l, (0 ≤ x ∧ x ≤ 255))
  | [], _ => ⟨[], RLe.nil, by simp⟩
  | r :: rows, h => by
    obtain ⟨l, h1, h2⟩ := wfs_u8 (P := P) (rows := rows) (fun r hr => h r (List.mem_cons_of_mem _ hr))
    obtain ⟨x, k1, k2⟩ := wf_u8 (P := P) (h r (by simp))
    refine ⟨x :: l, RLe.cons (h r (by simp)).len k1 h1, fun y hy => (List.mem_cons.1 hy).elim (fun e => e ▸ k2) (h2 y)⟩

theorem wf_u8S {P : Program} {ts : List T} (h : Wf [.sl [.i .u8]] ts) : ∃ x : List Int, LLe P ts [.im true (rowsOf u8_c x)] ∧ IntS_b x ∧ (∀ y ∈ x, 0 ≤ y ∧ y ≤ 255) := by
  cases h with
  | @sl _ rows0 _ _ hr0 hl0 h =>
    obtain ⟨x0, le0, r0⟩ := wfs_u8 (P := P) hr0
    have hn0 : x0.length ≤ 9223372036854775807 := by have := le0.len; rw [rowsOf_len] at this; rw [← this]; simpa [maxLen] using hl0
    cases h
    exact ⟨x0, (LLe.cons (LLe.im le0) LLe.nil), hn0, r0⟩

theorem law_wf (xs : List A) (h : AWf [(false, [.sl [.i .u8]])] xs) : ∃ outs, AC Tryz.prog 3 xs outs [.v (.s (.bool true))] := by

  cases h with

  | v h0 h =>

    cases h

    obtain ⟨a0, l0, b0, r0⟩ := wf_u8S (P := Tryz.prog) h0

    exact ⟨_, (laws_FnText_ac (laws_FnText_pure a0 b0 r0)).args (ALe.v l0 ALe.nil)⟩

end Go.Proofs.YtcpekllcbimpmaaGreatDoor.L

namespace Go.Proofs.YtcpekllcbimpmaaGreatDoor
open Go.ChangeShapes Go.WideShapes Go.ChangeAt Go.RowKit

theorem Tryz.own : ownKnob Tryz.prog.godebug = none := by kernel_rfl
theorem Tryz.laidOut : laidOutB Tryz.prog = true := by kernel_rfl
theorem Tryz.gTab : Tryz.prog.globalNamed "internal/strconv.uint64pow10" = some 0 := by kernel_rfl
theorem Tryz.gTabType : (Tryz.prog.globals[0]?).map (·.type) = some 110 := by kernel_rfl
theorem Tryz.cellsT : Tryz.prog.cellsOf 110 = 20 := by kernel_rfl
theorem Tryz.cellsE : Tryz.prog.cellsOf 94 = 1 := by kernel_rfl
theorem Tryz.gSyn : Tryz.prog.globalNamed "strconv.ErrSyntax" = some 2 := by kernel_rfl
theorem Tryz.gSynT : (Tryz.prog.globals[2]?).map (·.type) = some 80 := by kernel_rfl
theorem Tryz.gRng : Tryz.prog.globalNamed "strconv.ErrRange" = some 3 := by kernel_rfl
theorem Tryz.gRngT : (Tryz.prog.globals[3]?).map (·.type) = some 80 := by kernel_rfl
theorem Tryz.errRow (u : TypeId) (h : Tryz.prog.typeName? 3 u = some "*errors.errorString") : u = 121 := typeName_ptr_named (nm := "errors.errorString") (by rw [show "*" ++ "errors.errorString" = "*errors.errorString" from by decide]; kernel_rfl) (by kernel_rfl) (by decide) u (by rw [show "*" ++ "errors.errorString" = "*errors.errorString" from by decide]; exact h)
theorem Tryz.cellsEr : Tryz.prog.cellsOf 123 = 1 := by kernel_rfl
theorem Tryz.cellsStr : Tryz.prog.cellsOf 9 = 1 := by kernel_rfl

/-- What the row's list gives: the table of tens. -/
theorem tabs {W : World} (h : laidMetH Tryz.prog Rows.fnTextRow.laid W) : L.Tb Tryz.prog W L.no := by
  have h : laidMet Tryz.prog Rows.fnTextRow.laid W := h
  have ht : Lib.TabIs Tryz.prog W "internal/strconv.uint64pow10" .u64 Lib.pow10Tab := Lib.tabIs_of_head (rest := _) Tryz.gTab Tryz.gTabType Tryz.underlying110 Tryz.underlying94 Tryz.cellsE Tryz.cellsT (laidMet.tail (laidMet.tail h))
  refine ⟨fun g hg => ?_, fun g hg => ?_, fun g hg => ?_⟩
  · rw [Tryz.gTab] at hg
    cases hg
    refine ⟨fun h => h, ?_, _, ht, rfl⟩
    unfold Lib.TabIs World.var? at ht
    rw [Tryz.gTab, Option.bind_some] at ht
    cases hb : W.heap[0]? with
    | none => rw [hb] at ht; cases ht
    | some o => exact (Array.getElem?_eq_some_iff.1 hb).1
  · rw [Tryz.gSyn] at hg
    cases hg
    obtain ⟨a, s, hv, -, -, -⟩ := laid_sentinel (laidMet.tail (laidMet.tail (laidMet.tail (laidMet.tail h)))) Tryz.gSyn Tryz.gSynT Tryz.underlying80 Tryz.errRow Tryz.underlying121 Tryz.underlying123 rfl rfl Tryz.underlying9 Tryz.cellsEr Tryz.cellsStr
    refine ⟨fun h => h, ?_, _, hv, _, _, rfl⟩
    unfold World.var? at hv
    rw [Tryz.gSyn, Option.bind_some] at hv
    cases hb : W.heap[2]? with
    | none => rw [hb] at hv; cases hv
    | some o => exact (Array.getElem?_eq_some_iff.1 hb).1
  · rw [Tryz.gRng] at hg
    cases hg
    obtain ⟨a, s, hv, -, -, -⟩ := laid_sentinel (laidMet.tail (laidMet.tail (laidMet.tail h))) Tryz.gRng Tryz.gRngT Tryz.underlying80 Tryz.errRow Tryz.underlying121 Tryz.underlying123 rfl rfl Tryz.underlying9 Tryz.cellsEr Tryz.cellsStr
    refine ⟨fun h => h, ?_, _, hv, _, _, rfl⟩
    unfold World.var? at hv
    rw [Tryz.gRng, Option.bind_some] at hv
    cases hb : W.heap[3]? with
    | none => rw [hb] at hv; cases hv
    | some o => exact (Array.getElem?_eq_some_iff.1 hb).1

/-- A world for the witness: the settled one, the tables as their initialisers lay them. -/
noncomputable def laidWorld (os : Os) : World := World.laidAll Tryz.prog os Rows.fnTextRow.laid
theorem laid_met (os : Os) : laidMet Tryz.prog Rows.fnTextRow.laid ((laidWorld os).forCall (fun _ _ => 0) ⟨#[], #[.slice none 0 0], []⟩).memory :=
  laidMet_laidAll _ (by kernel_rfl) (by kernel_rfl)
theorem reads (os : Os) {H : Type} (enc : TypeId × Value → H) : ∃ places, DataW.whole enc Tryz.prog ((laidWorld os).forCall (fun _ _ => 0) ⟨#[], #[.slice none 0 0], []⟩).memory Tryz.f3.params.toList Rows.fnTextSpec.vars false (#[.slice none 0 0] : Array Value).toList 8 = some ([.nil], [], places) :=
  ⟨[], by kernel_rfl⟩

set_option maxRecDepth 100000 in
theorem lifted (os : Os) (started : os.Started) (H : Type) (enc : TypeId × Value → H) (F : Stop.Interp) :
    ReturnsInHanded {} Tryz.checked os 3 .any ((OpenSpec.ofChange Rows.fnTextSpec).preRow enc Tryz.prog Tryz.f3 Rows.fnTextRow.domain false Rows.fnTextRow.laid) (((OpenSpec.ofChange Rows.fnTextSpec).at F).post enc Tryz.prog Tryz.f3 false true false false) := by
  obtain ⟨places, hx⟩ := reads os enc
  refine returnsInHanded_of_row (C := Tryz.checked) (s := OpenSpec.ofChange Rows.fnTextSpec) Tryz.own started (by kernel_rfl) Tryz.func3
    (witness_row_at (enc := enc) (C := Tryz.checked) false (laidWorld os) #[.slice none 0 0] (World.laidAll_os _ _ _) (by kernel_rfl) (by kernel_rfl) (by kernel_rfl)
      (OpenSpec.preRow_of_cond 8 hx (by kernel_rfl) (fun k hk => by cases hk) (by kernel_rfl) (laid_met os))) ?_
  intro W base args ds gs before hval hW _ _ _ hL _ _
  refine L.law_calls (P := Tryz.prog) (d := 8) (tb := 4) (shs := [(false, [.sl [.i .u8]])]) Tryz.laidOut (by kernel_rfl) ?_ (by kernel_rfl) Tryz.underlying4 rfl ?_ L.law_wf (tabs hL) hval hW
  · intro t ht
    have e : t = 22 := by
      rw [Tryz.params3] at ht
      simpa using ht
    rcases e with rfl
    all_goals exact ⟨by kernel_rfl, of_decide_eq_true (by kernel_rfl)⟩
  · intro ds hds
    rw [Tryz.params3] at hds
    match ds, hds with
    | [_], _ => rfl

theorem said : Rows.FnTextSaid :=
  OpenClaim.holds_of_cond 3 Tryz.f3 rfl rfl rfl rfl rfl rfl rfl ⟨rfl, rfl, rfl, rfl, rfl⟩ rfl rfl rfl rfl rfl (by kernel_rfl) Tryz.func3 (by kernel_rfl)
    (of_decide_eq_true (by kernel_rfl)) (by unfold Func.isWrapper; first | (rw [if_pos (by decide +kernel)]; kernel_rfl) | (rw [if_neg (by decide +kernel)]; exact ⟨rfl, rfl⟩))
    (fun os started H enc _ F => by rw [OpenClaim.pre_eq_preRow]; exact lifted os started H enc F)
theorem plain (f : FuncId) (fn : Func) (hf : Tryz.pinned.checked.prog.funcNamed "loop.example/g00198/laws.FnText" = some f) (hfn : Tryz.pinned.checked.prog.funcs[f]? = some fn) :
    true = Tryz.pinned.checked.prog.looks [] ∧ ∀ (j : Nat) t, fn.params[j]? = some t → Tryz.pinned.checked.prog.wantsStandIn t = false := by
  obtain rfl : f = 3 := Option.some.inj ((show Tryz.prog.funcNamed "loop.example/g00198/laws.FnText" = some 3 by kernel_rfl).symm.trans hf) |>.symm
  obtain rfl : fn = Tryz.f3 := (Option.some.inj (Tryz.func3.symm.trans hfn)).symm
  refine ⟨by kernel_rfl, fun j t ht => ?_⟩
  rw [Tryz.params3] at ht
  have e : t = 22 := by simpa using Array.mem_of_getElem? ht
  rcases e with rfl
  · exact (show Tryz.prog.wantsStandIn 22 = false by kernel_rfl)

theorem fnText_holds : Rows.FnTextCardSaid :=
  Claim7.holds_tied_plain_at .later [] _ _ _ _ said (fun _ h => by cases h) (by kernel_rfl) (fun _ h => by cases h) fnText_row_tie rfl ⟨rfl, rfl⟩ (by kernel_rfl) rfl plain (by kernel_rfl)

end Go.Proofs.YtcpekllcbimpmaaGreatDoor
