/- The law fnExactQueryText returns true at every input, and its arguments read behind the call as they read before, whatever the world is in which the listed tables lie: the tied card; no condition of our own. -/
import Derived.Test.YtjnahdkalbolkaaDoorFxQueryTextV
import Derived.Test.YtjnahdkalbolkaaDoorFxQueryTextC0
import Derived.Test.YtjnahdkalbolkaaDoorCards
import Derived.Test.YtjnahdkalbolkaaDoorTie
import Derived.ProofKit
import Derived.KernelRfl
import Derived.Deep.DeepHandedRow
import Derived.Lib.LaidTab
import Derived.Stop.LaidErr
import Derived.SevenTiedAt
namespace Go.Proofs.YtjnahdkalbolkaaDoor.L
open Go
set_option linter.unusedVariables false
theorem wf_Int {P : Program} {ts : List T} (h : Wf [.i .i64] ts) : ∃ x : Int, LLe P ts [.s (.int .i64 x)] ∧ (-9223372036854775808 ≤ x ∧ x ≤ 9223372036854775807) := by
  cases h with
  | @i _ x0 _ _ hn0 h =>
    cases h
    exact ⟨x0, (LLe.c LLe.nil), hn0⟩

theorem wfs_Int {P : Program} : ∀ {rows : Rws}, (∀ r ∈ rows, Wf [.i .i64] r) → ∃ l : List Int, RLe P rows (rowsOf Int_c l) ∧ (∀ x ∈ l, (-9223372036854775808 ≤ x ∧ x ≤ 9223372036854775807))
  | [], _ => ⟨[], RLe.nil, by simp⟩
  | r :: rows, h => by
    obtain ⟨l, h1, h2⟩ := wfs_Int (P := P) (rows := rows) (fun r hr => h r (List.mem_cons_of_mem _ hr))
    obtain ⟨x, k1, k2⟩ := wf_Int (P := P) (h r (by simp))
    refine ⟨x :: l, RLe.cons (h r (by simp)).len k1 h1, fun y hy => (List.mem_cons.1 hy).elim (fun e => e ▸ k2) (h2 y)⟩

theorem wf_Schema {P : Program} {ts : List T} (h : Wf [.sl [.i .i64]] ts) : ∃ x : Schema, LLe P ts [.im false (rowsOf Int_c x.Cols)] ∧ Schema_b x ∧ Schema_r x := by
  cases h with
  | @sl _ rows0 _ _ hr0 hl0 h =>
    obtain ⟨x0, le0, r0⟩ := wfs_Int (P := P) hr0
    have hn0 : x0.length ≤ 9223372036854775807 := by have := le0.len; rw [rowsOf_len] at this; rw [← this]; simpa [maxLen] using hl0
    cases h
    exact ⟨⟨x0⟩, (LLe.cons (LLe.k le0) LLe.nil), hn0, r0⟩

theorem wf_Cond {P : Program} {ts : List T} (h : Wf [.i .i64, .i .i64, .i .i64] ts) : ∃ x : Cond, LLe P ts [.s (.int .i64 x.Col), .s (.int .i64 x.Op), .s (.int .i64 x.V)] ∧ Cond_r x := by
  cases h with
  | @i _ x0 _ _ hn0 h =>
    cases h with
    | @i _ x1 _ _ hn1 h =>
      cases h with
      | @i _ x2 _ _ hn2 h =>
        cases h
        exact ⟨⟨x0, x1, x2⟩, (LLe.c (LLe.c (LLe.c LLe.nil))), ⟨hn0, hn1, hn2⟩⟩

theorem wfs_Cond {P : Program} : ∀ {rows : Rws}, (∀ r ∈ rows, Wf [.i .i64, .i .i64, .i .i64] r) → ∃ l : List Cond, RLe P rows (rowsOf Cond_c l) ∧ (∀ x ∈ l, Cond_r x)
  | [], _ => ⟨[], RLe.nil, by simp⟩
  | r :: rows, h => by
    obtain ⟨l, h1, h2⟩ := wfs_Cond (P := P) (rows := rows) (fun r hr => h r (List.mem_cons_of_mem _ hr))
    obtain ⟨x, k1, k2⟩ := wf_Cond (P := P) (h r (by simp))
    refine ⟨x :: l, RLe.cons (h r (by simp)).len k1 h1, fun y hy => (List.mem_cons.1 hy).elim (fun e => e ▸ k2) (h2 y)⟩

theorem wf_Query {P : Program} {ts : List T} (h : Wf [.i .i64, .sl [.i .i64, .i .i64, .i .i64], .i .i64, .b, .i .i64, .sl [.i .i64], .b, .i .i64, .i .i64] ts) : ∃ x : Query, LLe P ts [.s (.int .i64 x.Table), .im false (rowsOf Cond_c x.Where), .s (.int .i64 x.Order), .s (.bool x.Down), .s (.int .i64 x.First), .im false (rowsOf Int_c x.Show), .s (.bool x.Kids), .s (.int .i64 x.KidTable), .s (.int .i64 x.KidCol)] ∧ Query_b x ∧ Query_r x := by
  cases h with
  | @i _ x0 _ _ hn0 h =>
    cases h with
    | @sl _ rows1 _ _ hr1 hl1 h =>
      obtain ⟨x1, le1, r1⟩ := wfs_Cond (P := P) hr1
      have hn1 : x1.length ≤ 9223372036854775807 := by have := le1.len; rw [rowsOf_len] at this; rw [← this]; simpa [maxLen] using hl1
      cases h with
      | @i _ x2 _ _ hn2 h =>
        cases h with
        | @b x3 _ _ h =>
          cases h with
          | @i _ x4 _ _ hn4 h =>
            cases h with
            | @sl _ rows5 _ _ hr5 hl5 h =>
              obtain ⟨x5, le5, r5⟩ := wfs_Int (P := P) hr5
              have hn5 : x5.length ≤ 9223372036854775807 := by have := le5.len; rw [rowsOf_len] at this; rw [← this]; simpa [maxLen] using hl5
              cases h with
              | @b x6 _ _ h =>
                cases h with
                | @i _ x7 _ _ hn7 h =>
                  cases h with
                  | @i _ x8 _ _ hn8 h =>
                    cases h
                    exact ⟨⟨x0, x1, x2, x3, x4, x5, x6, x7, x8⟩, (LLe.c (LLe.cons (LLe.k le1) (LLe.c (LLe.c (LLe.c (LLe.cons (LLe.k le5) (LLe.c (LLe.c (LLe.c LLe.nil))))))))), ⟨hn1, hn5⟩, ⟨hn0, r1, hn2, hn4, r5, hn7, hn8⟩⟩

theorem law_wf (xs : List A) (h : AWf [(true, [.sl [.i .i64]]), (true, [.i .i64, .sl [.i .i64, .i .i64, .i .i64], .i .i64, .b, .i .i64, .sl [.i .i64], .b, .i .i64, .i .i64])] xs) : ∃ outs, AC Tryd.prog 3 xs outs [.v (.s (.bool true))] := by

  cases h with

  | ag h0 h =>

    cases h with

    | ag h1 h =>

      cases h

      obtain ⟨a0, l0, b0, r0⟩ := wf_Schema (P := Tryd.prog) h0

      obtain ⟨a1, l1, b1, r1⟩ := wf_Query (P := Tryd.prog) h1

      exact ⟨_, (laws_FnExactQueryText_ac (laws_FnExactQueryText_pure a0 b0 r0 a1 b1 r1)).args (ALe.ag h0.len l0 (ALe.ag h1.len l1 ALe.nil))⟩

end Go.Proofs.YtjnahdkalbolkaaDoor.L

namespace Go.Proofs.YtjnahdkalbolkaaDoor
open Go.ChangeShapes Go.WideShapes Go.ChangeAt Go.RowKit

theorem Tryd.own : ownKnob Tryd.prog.godebug = none := by kernel_rfl
theorem Tryd.laidOut : laidOutB Tryd.prog = true := by kernel_rfl
theorem Tryd.gTab : Tryd.prog.globalNamed "internal/strconv.uint64pow10" = some 1 := by kernel_rfl
theorem Tryd.gTabType : (Tryd.prog.globals[1]?).map (·.type) = some 83 := by kernel_rfl
theorem Tryd.cellsT : Tryd.prog.cellsOf 83 = 20 := by kernel_rfl
theorem Tryd.cellsE : Tryd.prog.cellsOf 76 = 1 := by kernel_rfl
theorem Tryd.noSyntax : Tryd.prog.globalNamed "strconv.ErrSyntax" = none := by kernel_rfl
theorem Tryd.noRange : Tryd.prog.globalNamed "strconv.ErrRange" = none := by kernel_rfl

/-- What the row's list gives: the table of tens. -/
theorem tabs {W : World} (h : laidMetH Tryd.prog Rows.fnExactQueryTextRow.laid W) : L.Tb Tryd.prog W L.no := by
  have h : laidMet Tryd.prog Rows.fnExactQueryTextRow.laid W := h
  have ht : Lib.TabIs Tryd.prog W "internal/strconv.uint64pow10" .u64 Lib.pow10Tab := Lib.tabIs_of_head (rest := _) Tryd.gTab Tryd.gTabType Tryd.underlying83 Tryd.underlying76 Tryd.cellsE Tryd.cellsT (laidMet.tail (laidMet.tail h))
  refine ⟨fun g hg => ?_, fun g hg => ?_, fun g hg => ?_⟩
  · rw [Tryd.gTab] at hg
    cases hg
    refine ⟨fun h => h, ?_, _, ht, rfl⟩
    unfold Lib.TabIs World.var? at ht
    rw [Tryd.gTab, Option.bind_some] at ht
    cases hb : W.heap[1]? with
    | none => rw [hb] at ht; cases ht
    | some o => exact (Array.getElem?_eq_some_iff.1 hb).1
  · rw [Tryd.noSyntax] at hg; cases hg
  · rw [Tryd.noRange] at hg; cases hg

/-- A world for the witness: the settled one, the tables as their initialisers lay them. -/
noncomputable def laidWorld (os : Os) : World :=
  let w0 : World := World.holding Tryd.prog os ⟨#[], #[], []⟩
  let w1 : World := { w0 with heap := w0.heap.modify 2 fun
      | .cells _ t frozen => .cells #[.int .u8 0, .int .u8 1, .int .u8 28, .int .u8 2, .int .u8 29, .int .u8 14, .int .u8 24, .int .u8 3, .int .u8 30, .int .u8 22, .int .u8 20, .int .u8 15, .int .u8 25, .int .u8 17, .int .u8 4, .int .u8 8, .int .u8 31, .int .u8 27, .int .u8 13, .int .u8 23, .int .u8 21, .int .u8 19, .int .u8 16, .int .u8 7, .int .u8 26, .int .u8 12, .int .u8 18, .int .u8 6, .int .u8 11, .int .u8 5, .int .u8 10, .int .u8 9] t frozen
      | o => o }
  let w2 : World := { w1 with heap := w1.heap.modify 3 fun
      | .cells _ t frozen => .cells #[.int .u8 0, .int .u8 1, .int .u8 56, .int .u8 2, .int .u8 57, .int .u8 49, .int .u8 28, .int .u8 3, .int .u8 61, .int .u8 58, .int .u8 42, .int .u8 50, .int .u8 38, .int .u8 29, .int .u8 17, .int .u8 4, .int .u8 62, .int .u8 47, .int .u8 59, .int .u8 36, .int .u8 45, .int .u8 43, .int .u8 51, .int .u8 22, .int .u8 53, .int .u8 39, .int .u8 33, .int .u8 30, .int .u8 24, .int .u8 18, .int .u8 12, .int .u8 5, .int .u8 63, .int .u8 55, .int .u8 48, .int .u8 27, .int .u8 60, .int .u8 41, .int .u8 37, .int .u8 16, .int .u8 46, .int .u8 35, .int .u8 44, .int .u8 21, .int .u8 52, .int .u8 32, .int .u8 23, .int .u8 11, .int .u8 54, .int .u8 26, .int .u8 40, .int .u8 15, .int .u8 34, .int .u8 20, .int .u8 31, .int .u8 10, .int .u8 25, .int .u8 14, .int .u8 19, .int .u8 9, .int .u8 13, .int .u8 8, .int .u8 7, .int .u8 6] t frozen
      | o => o }
  let w3 : World := { w2 with heap := w2.heap.modify 1 fun
      | .cells _ t frozen => .cells #[.int .u64 1, .int .u64 10, .int .u64 100, .int .u64 1000, .int .u64 10000, .int .u64 100000, .int .u64 1000000, .int .u64 10000000, .int .u64 100000000, .int .u64 1000000000, .int .u64 10000000000, .int .u64 100000000000, .int .u64 1000000000000, .int .u64 10000000000000, .int .u64 100000000000000, .int .u64 1000000000000000, .int .u64 10000000000000000, .int .u64 100000000000000000, .int .u64 1000000000000000000, .int .u64 10000000000000000000] t frozen
      | o => o }
  w3
theorem laid_met (os : Os) : laidMet Tryd.prog Rows.fnExactQueryTextRow.laid ((laidWorld os).forCall (fun _ _ => 0) ⟨#[], #[.agg #[.slice none 0 0], .agg #[.int .i64 0, .slice none 0 0, .int .i64 0, .bool false, .int .i64 0, .slice none 0 0, .bool false, .int .i64 0, .int .i64 0]], []⟩).memory :=
  laidMet_of_run' 8 (by kernel_rfl) (by kernel_rfl)
theorem reads (os : Os) {H : Type} (enc : TypeId × Value → H) : ∃ places, DataW.whole enc Tryd.prog ((laidWorld os).forCall (fun _ _ => 0) ⟨#[], #[.agg #[.slice none 0 0], .agg #[.int .i64 0, .slice none 0 0, .int .i64 0, .bool false, .int .i64 0, .slice none 0 0, .bool false, .int .i64 0, .int .i64 0]], []⟩).memory Tryd.f3.params.toList Rows.fnExactQueryTextSpec.vars false (#[.agg #[.slice none 0 0], .agg #[.int .i64 0, .slice none 0 0, .int .i64 0, .bool false, .int .i64 0, .slice none 0 0, .bool false, .int .i64 0, .int .i64 0]] : Array Value).toList 8 = some ([.agg [.nil], .agg [.lit (.int .i64 0), .nil, .lit (.int .i64 0), .lit (.bool false), .lit (.int .i64 0), .nil, .lit (.bool false), .lit (.int .i64 0), .lit (.int .i64 0)]], [], places) :=
  ⟨[], by kernel_rfl⟩

set_option maxRecDepth 100000 in
theorem lifted (os : Os) (started : os.Started) (H : Type) (enc : TypeId × Value → H) (F : Stop.Interp) :
    ReturnsInHanded {} Tryd.checked os 3 .any ((OpenSpec.ofChange Rows.fnExactQueryTextSpec).preRow enc Tryd.prog Tryd.f3 Rows.fnExactQueryTextRow.domain false Rows.fnExactQueryTextRow.laid) (((OpenSpec.ofChange Rows.fnExactQueryTextSpec).at F).post enc Tryd.prog Tryd.f3 false true false false) := by
  obtain ⟨places, hx⟩ := reads os enc
  refine returnsInHanded_of_row (C := Tryd.checked) (s := OpenSpec.ofChange Rows.fnExactQueryTextSpec) Tryd.own started (by kernel_rfl) Tryd.func3
    (witness_row_at (enc := enc) (C := Tryd.checked) false (laidWorld os) #[.agg #[.slice none 0 0], .agg #[.int .i64 0, .slice none 0 0, .int .i64 0, .bool false, .int .i64 0, .slice none 0 0, .bool false, .int .i64 0, .int .i64 0]] rfl (by kernel_rfl) (by kernel_rfl) (by kernel_rfl)
      (OpenSpec.preRow_of_cond 8 hx (by kernel_rfl) (fun k hk => by cases hk) (by kernel_rfl) (laid_met os))) ?_
  intro W base args ds gs before hval hW _ _ _ hL _ _
  refine L.law_calls (P := Tryd.prog) (d := 8) (tb := 4) (shs := [(true, [.sl [.i .i64]]), (true, [.i .i64, .sl [.i .i64, .i .i64, .i .i64], .i .i64, .b, .i .i64, .sl [.i .i64], .b, .i .i64, .i .i64])]) Tryd.laidOut (by kernel_rfl) ?_ (by kernel_rfl) Tryd.underlying4 rfl ?_ L.law_wf (tabs hL) hval hW
  · intro t ht
    have e : t = 24 ∨ t = 27 := by
      rw [Tryd.params3] at ht
      simpa using ht
    rcases e with rfl | rfl
    all_goals exact ⟨by kernel_rfl, of_decide_eq_true (by kernel_rfl)⟩
  · intro ds hds
    rw [Tryd.params3] at hds
    match ds, hds with
    | [_, _], _ => rfl

theorem said : Rows.FnExactQueryTextSaid :=
  OpenClaim.holds_of_cond 3 Tryd.f3 rfl rfl rfl rfl rfl rfl rfl ⟨rfl, rfl, rfl, rfl, rfl⟩ rfl rfl rfl rfl rfl (by kernel_rfl) Tryd.func3 (by kernel_rfl)
    (of_decide_eq_true (by kernel_rfl)) (by unfold Func.isWrapper; first | (rw [if_pos (by decide +kernel)]; kernel_rfl) | (rw [if_neg (by decide +kernel)]; exact ⟨rfl, rfl⟩))
    (fun os started H enc _ F => by rw [OpenClaim.pre_eq_preRow]; exact lifted os started H enc F)
theorem plain (f : FuncId) (fn : Func) (hf : Tryd.pinned.checked.prog.funcNamed "loop.example/g00198/laws.FnExactQueryText" = some f) (hfn : Tryd.pinned.checked.prog.funcs[f]? = some fn) :
    false = Tryd.pinned.checked.prog.looks [] ∧ ∀ (j : Nat) t, fn.params[j]? = some t → Tryd.pinned.checked.prog.wantsStandIn t = false := by
  obtain rfl : f = 3 := Option.some.inj ((show Tryd.prog.funcNamed "loop.example/g00198/laws.FnExactQueryText" = some 3 by kernel_rfl).symm.trans hf) |>.symm
  obtain rfl : fn = Tryd.f3 := (Option.some.inj (Tryd.func3.symm.trans hfn)).symm
  refine ⟨by kernel_rfl, fun j t ht => ?_⟩
  rw [Tryd.params3] at ht
  have e : t = 24 ∨ t = 27 := by simpa using Array.mem_of_getElem? ht
  rcases e with rfl | rfl
  · exact (show Tryd.prog.wantsStandIn 24 = false by kernel_rfl)
  · exact (show Tryd.prog.wantsStandIn 27 = false by kernel_rfl)

theorem fnExactQueryText_holds : Rows.FnExactQueryTextCardSaid :=
  Claim7.holds_tied_plain_at .later [] _ _ _ _ said (fun _ h => by cases h) (by kernel_rfl) (fun _ h => by cases h) fnExactQueryText_row_tie rfl ⟨rfl, rfl⟩ (by kernel_rfl) rfl plain (by kernel_rfl)

end Go.Proofs.YtjnahdkalbolkaaDoor
