/- The law fnExactEval returns true at every input, and its arguments read behind the call as they read before, whatever the world is in which the listed tables lie: the tied card; no condition of our own. -/
import Derived.Test.YtgjboegobhafhaaGreatDoorFxEvalV
import Derived.Test.YtgjboegobhafhaaGreatDoorFxEvalC2
import Derived.Test.YtgjboegobhafhaaGreatDoorCards
import Derived.Test.YtgjboegobhafhaaGreatDoorTie
import Derived.ProofKit
import Derived.KernelRfl
import Derived.Deep.DeepHandedRow
import Derived.Lib.LaidTab
import Derived.Stop.LaidErr
import Derived.SevenTiedAt
namespace Go.Proofs.YtgjboegobhafhaaGreatDoor.L
open Go
set_option linter.unusedVariables false
theorem wf_Int {P : Program} {ts : List T} (h : Wf [.i .i64] ts) : ∃ x : Int, LLe P ts [.s (.int .i64 x)] ∧ (-9223372036854775808 ≤ x ∧ x ≤ 9223372036854775807) := by
  cases h with
  | @i _ x0 _ _ hn0 h =>
    cases h
    exact ⟨x0, (LLe.c LLe.nil), hn0⟩

theorem wfs_Int {P : Program} : ∀ {rows : Rws}, (∀ r ∈ rows, Wf [.i .i64] r) → ∃ l : List Int, RLe P rows (rowsOf Int_c l) ∧ (∀ x ∈ l, (-9223372036854775808 ≤ x ∧ x ≤ 9223372036854775807))
  | [], _ => ⟨[], RLe.nil, by simp⟩
  | r :: rows, h => by
    obtain ⟨l, h1, h2⟩ := wfs_Int (P := P) (rows := rows) (fun r hr => h r (List.mem_cons_of_mem _ hr))
    obtain ⟨x, k1, k2⟩ := wf_Int (P := P) (h r (by simp))
    refine ⟨x :: l, RLe.cons (h r (by simp)).len k1 h1, fun y hy => (List.mem_cons.1 hy).elim (fun e => e ▸ k2) (h2 y)⟩

theorem wf_Row {P : Program} {ts : List T} (h : Wf [.i .i64, .sl [.i .i64]] ts) : ∃ x : Row, LLe P ts [.s (.int .i64 x.Id), .im false (rowsOf Int_c x.Cells)] ∧ Row_b x ∧ Row_r x := by
  cases h with
  | @i _ x0 _ _ hn0 h =>
    cases h with
    | @sl _ rows1 _ _ hr1 hl1 h =>
      obtain ⟨x1, le1, r1⟩ := wfs_Int (P := P) hr1
      have hn1 : x1.length ≤ 9223372036854775807 := by have := le1.len; rw [rowsOf_len] at this; rw [← this]; simpa [maxLen] using hl1
      cases h
      exact ⟨⟨x0, x1⟩, (LLe.c (LLe.cons (LLe.k le1) LLe.nil)), hn1, ⟨hn0, r1⟩⟩

theorem wfs_Row {P : Program} : ∀ {rows : Rws}, (∀ r ∈ rows, Wf [.i .i64, .sl [.i .i64]] r) → ∃ l : List Row, RLe P rows (rowsOf Row_i l) ∧ (∀ x ∈ l, Row_b x) ∧ (∀ x ∈ l, Row_r x)
  | [], _ => ⟨[], RLe.nil, by simp, by simp⟩
  | r :: rows, h => by
    obtain ⟨l, h1, h2, h3⟩ := wfs_Row (P := P) (rows := rows) (fun r hr => h r (List.mem_cons_of_mem _ hr))
    obtain ⟨x, k1, k2, k3⟩ := wf_Row (P := P) (h r (by simp))
    refine ⟨x :: l, RLe.cons (h r (by simp)).len k1 h1, fun y hy => (List.mem_cons.1 hy).elim (fun e => e ▸ k2) (h2 y), fun y hy => (List.mem_cons.1 hy).elim (fun e => e ▸ k3) (h3 y)⟩

theorem wf_RowS {P : Program} {ts : List T} (h : Wf [.sl [.i .i64, .sl [.i .i64]]] ts) : ∃ x : List Row, LLe P ts [.im false (rowsOf Row_i x)] ∧ RowS_b x ∧ RowS_r x := by
  cases h with
  | @sl _ rows0 _ _ hr0 hl0 h =>
    obtain ⟨x0, le0, b0, r0⟩ := wfs_Row (P := P) hr0
    have hn0 : x0.length ≤ 9223372036854775807 := by have := le0.len; rw [rowsOf_len] at this; rw [← this]; simpa [maxLen] using hl0
    cases h
    exact ⟨x0, (LLe.cons (LLe.k le0) LLe.nil), ⟨hn0, b0⟩, r0⟩

theorem wfs_RowS {P : Program} : ∀ {rows : Rws}, (∀ r ∈ rows, Wf [.sl [.i .i64, .sl [.i .i64]]] r) → ∃ l : List (List Row), RLe P rows (rowsOf RowS_i l) ∧ (∀ x ∈ l, RowS_b x) ∧ (∀ x ∈ l, RowS_r x)
  | [], _ => ⟨[], RLe.nil, by simp, by simp⟩
  | r :: rows, h => by
    obtain ⟨l, h1, h2, h3⟩ := wfs_RowS (P := P) (rows := rows) (fun r hr => h r (List.mem_cons_of_mem _ hr))
    obtain ⟨x, k1, k2, k3⟩ := wf_RowS (P := P) (h r (by simp))
    refine ⟨x :: l, RLe.cons (h r (by simp)).len k1 h1, fun y hy => (List.mem_cons.1 hy).elim (fun e => e ▸ k2) (h2 y), fun y hy => (List.mem_cons.1 hy).elim (fun e => e ▸ k3) (h3 y)⟩

theorem wf_Store {P : Program} {ts : List T} (h : Wf [.sl [.i .i64], .i .i64, .sl [.sl [.i .i64, .sl [.i .i64]]]] ts) : ∃ x : Store, LLe P ts [.im false (rowsOf Int_c x.Schema.Cols), .s (.int .i64 x.Version), .im false (rowsOf RowS_i x.Tables)] ∧ Store_b x ∧ Store_r x := by
  cases h with
  | @sl _ rows0 _ _ hr0 hl0 h =>
    obtain ⟨x0, le0, r0⟩ := wfs_Int (P := P) hr0
    have hn0 : x0.length ≤ 9223372036854775807 := by have := le0.len; rw [rowsOf_len] at this; rw [← this]; simpa [maxLen] using hl0
    cases h with
    | @i _ x1 _ _ hn1 h =>
      cases h with
      | @sl _ rows2 _ _ hr2 hl2 h =>
        obtain ⟨x2, le2, b2, r2⟩ := wfs_RowS (P := P) hr2
        have hn2 : x2.length ≤ 9223372036854775807 := by have := le2.len; rw [rowsOf_len] at this; rw [← this]; simpa [maxLen] using hl2
        cases h
        exact ⟨⟨⟨x0⟩, x1, x2⟩, (LLe.cons (LLe.k le0) (LLe.c (LLe.cons (LLe.k le2) LLe.nil))), ⟨hn0, ⟨hn2, b2⟩⟩, ⟨r0, hn1, r2⟩⟩

theorem wf_Cond {P : Program} {ts : List T} (h : Wf [.i .i64, .i .i64, .i .i64] ts) : ∃ x : Cond, LLe P ts [.s (.int .i64 x.Col), .s (.int .i64 x.Op), .s (.int .i64 x.V)] ∧ Cond_r x := by
  cases h with
  | @i _ x0 _ _ hn0 h =>
    cases h with
    | @i _ x1 _ _ hn1 h =>
      cases h with
      | @i _ x2 _ _ hn2 h =>
        cases h
        exact ⟨⟨x0, x1, x2⟩, (LLe.c (LLe.c (LLe.c LLe.nil))), ⟨hn0, hn1, hn2⟩⟩

theorem wfs_Cond {P : Program} : ∀ {rows : Rws}, (∀ r ∈ rows, Wf [.i .i64, .i .i64, .i .i64] r) → ∃ l : List Cond, RLe P rows (rowsOf Cond_c l) ∧ (∀ x ∈ l, Cond_r x)
  | [], _ => ⟨[], RLe.nil, by simp⟩
  | r :: rows, h => by
    obtain ⟨l, h1, h2⟩ := wfs_Cond (P := P) (rows := rows) (fun r hr => h r (List.mem_cons_of_mem _ hr))
    obtain ⟨x, k1, k2⟩ := wf_Cond (P := P) (h r (by simp))
    refine ⟨x :: l, RLe.cons (h r (by simp)).len k1 h1, fun y hy => (List.mem_cons.1 hy).elim (fun e => e ▸ k2) (h2 y)⟩

theorem wf_Query {P : Program} {ts : List T} (h : Wf [.i .i64, .sl [.i .i64, .i .i64, .i .i64], .i .i64, .b, .i .i64, .sl [.i .i64], .b, .i .i64, .i .i64] ts) : ∃ x : Query, LLe P ts [.s (.int .i64 x.Table), .im false (rowsOf Cond_c x.Where), .s (.int .i64 x.Order), .s (.bool x.Down), .s (.int .i64 x.First), .im false (rowsOf Int_c x.Show), .s (.bool x.Kids), .s (.int .i64 x.KidTable), .s (.int .i64 x.KidCol)] ∧ Query_b x ∧ Query_r x := by
  cases h with
  | @i _ x0 _ _ hn0 h =>
    cases h with
    | @sl _ rows1 _ _ hr1 hl1 h =>
      obtain ⟨x1, le1, r1⟩ := wfs_Cond (P := P) hr1
      have hn1 : x1.length ≤ 9223372036854775807 := by have := le1.len; rw [rowsOf_len] at this; rw [← this]; simpa [maxLen] using hl1
      cases h with
      | @i _ x2 _ _ hn2 h =>
        cases h with
        | @b x3 _ _ h =>
          cases h with
          | @i _ x4 _ _ hn4 h =>
            cases h with
            | @sl _ rows5 _ _ hr5 hl5 h =>
              obtain ⟨x5, le5, r5⟩ := wfs_Int (P := P) hr5
              have hn5 : x5.length ≤ 9223372036854775807 := by have := le5.len; rw [rowsOf_len] at this; rw [← this]; simpa [maxLen] using hl5
              cases h with
              | @b x6 _ _ h =>
                cases h with
                | @i _ x7 _ _ hn7 h =>
                  cases h with
                  | @i _ x8 _ _ hn8 h =>
                    cases h
                    exact ⟨⟨x0, x1, x2, x3, x4, x5, x6, x7, x8⟩, (LLe.c (LLe.cons (LLe.k le1) (LLe.c (LLe.c (LLe.c (LLe.cons (LLe.k le5) (LLe.c (LLe.c (LLe.c LLe.nil))))))))), ⟨hn1, hn5⟩, ⟨hn0, r1, hn2, hn4, r5, hn7, hn8⟩⟩

theorem law_wf (xs : List A) (h : AWf [(true, [.sl [.i .i64], .i .i64, .sl [.sl [.i .i64, .sl [.i .i64]]]]), (true, [.i .i64, .sl [.i .i64, .i .i64, .i .i64], .i .i64, .b, .i .i64, .sl [.i .i64], .b, .i .i64, .i .i64])] xs) : ∃ outs, AC Tryz.prog 4 xs outs [.v (.s (.bool true))] := by

  cases h with

  | ag h0 h =>

    cases h with

    | ag h1 h =>

      cases h

      obtain ⟨a0, l0, b0, r0⟩ := wf_Store (P := Tryz.prog) h0

      obtain ⟨a1, l1, b1, r1⟩ := wf_Query (P := Tryz.prog) h1

      exact ⟨_, (laws_FnExactEval_ac (laws_FnExactEval_pure a0 b0 r0 a1 b1 r1)).args (ALe.ag h0.len l0 (ALe.ag h1.len l1 ALe.nil))⟩

end Go.Proofs.YtgjboegobhafhaaGreatDoor.L

namespace Go.Proofs.YtgjboegobhafhaaGreatDoor
open Go.ChangeShapes Go.WideShapes Go.ChangeAt Go.RowKit

theorem Tryz.own : ownKnob Tryz.prog.godebug = none := by kernel_rfl
theorem Tryz.laidOut : laidOutB Tryz.prog = true := by kernel_rfl
theorem Tryz.gTab : Tryz.prog.globalNamed "internal/strconv.uint64pow10" = some 0 := by kernel_rfl
theorem Tryz.gTabType : (Tryz.prog.globals[0]?).map (·.type) = some 168 := by kernel_rfl
theorem Tryz.cellsT : Tryz.prog.cellsOf 168 = 20 := by kernel_rfl
theorem Tryz.cellsE : Tryz.prog.cellsOf 159 = 1 := by kernel_rfl
theorem Tryz.noSyntax : Tryz.prog.globalNamed "strconv.ErrSyntax" = none := by kernel_rfl
theorem Tryz.noRange : Tryz.prog.globalNamed "strconv.ErrRange" = none := by kernel_rfl

/-- What the row's list gives: the table of tens. -/
theorem tabs {W : World} (h : laidMetH Tryz.prog Rows.fnExactEvalRow.laid W) : L.Tb Tryz.prog W L.no := by
  have h : laidMet Tryz.prog Rows.fnExactEvalRow.laid W := h
  have ht : Lib.TabIs Tryz.prog W "internal/strconv.uint64pow10" .u64 Lib.pow10Tab := Lib.tabIs_of_head (rest := _) Tryz.gTab Tryz.gTabType Tryz.underlying168 Tryz.underlying159 Tryz.cellsE Tryz.cellsT (laidMet.tail (laidMet.tail h))
  refine ⟨fun g hg => ?_, fun g hg => ?_, fun g hg => ?_⟩
  · rw [Tryz.gTab] at hg
    cases hg
    refine ⟨fun h => h, ?_, _, ht, rfl⟩
    unfold Lib.TabIs World.var? at ht
    rw [Tryz.gTab, Option.bind_some] at ht
    cases hb : W.heap[0]? with
    | none => rw [hb] at ht; cases ht
    | some o => exact (Array.getElem?_eq_some_iff.1 hb).1
  · rw [Tryz.noSyntax] at hg; cases hg
  · rw [Tryz.noRange] at hg; cases hg

/-- A world for the witness: the settled one, the tables as their initialisers lay them. -/
noncomputable def laidWorld (os : Os) : World :=
  let w0 : World := World.holding Tryz.prog os ⟨#[], #[], []⟩
  let w1 : World := { w0 with heap := w0.heap.modify 1 fun
      | .cells _ t frozen => .cells #[.int .u8 0, .int .u8 1, .int .u8 28, .int .u8 2, .int .u8 29, .int .u8 14, .int .u8 24, .int .u8 3, .int .u8 30, .int .u8 22, .int .u8 20, .int .u8 15, .int .u8 25, .int .u8 17, .int .u8 4, .int .u8 8, .int .u8 31, .int .u8 27, .int .u8 13, .int .u8 23, .int .u8 21, .int .u8 19, .int .u8 16, .int .u8 7, .int .u8 26, .int .u8 12, .int .u8 18, .int .u8 6, .int .u8 11, .int .u8 5, .int .u8 10, .int .u8 9] t frozen
      | o => o }
  let w2 : World := { w1 with heap := w1.heap.modify 2 fun
      | .cells _ t frozen => .cells #[.int .u8 0, .int .u8 1, .int .u8 56, .int .u8 2, .int .u8 57, .int .u8 49, .int .u8 28, .int .u8 3, .int .u8 61, .int .u8 58, .int .u8 42, .int .u8 50, .int .u8 38, .int .u8 29, .int .u8 17, .int .u8 4, .int .u8 62, .int .u8 47, .int .u8 59, .int .u8 36, .int .u8 45, .int .u8 43, .int .u8 51, .int .u8 22, .int .u8 53, .int .u8 39, .int .u8 33, .int .u8 30, .int .u8 24, .int .u8 18, .int .u8 12, .int .u8 5, .int .u8 63, .int .u8 55, .int .u8 48, .int .u8 27, .int .u8 60, .int .u8 41, .int .u8 37, .int .u8 16, .int .u8 46, .int .u8 35, .int .u8 44, .int .u8 21, .int .u8 52, .int .u8 32, .int .u8 23, .int .u8 11, .int .u8 54, .int .u8 26, .int .u8 40, .int .u8 15, .int .u8 34, .int .u8 20, .int .u8 31, .int .u8 10, .int .u8 25, .int .u8 14, .int .u8 19, .int .u8 9, .int .u8 13, .int .u8 8, .int .u8 7, .int .u8 6] t frozen
      | o => o }
  let w3 : World := { w2 with heap := w2.heap.modify 0 fun
      | .cells _ t frozen => .cells #[.int .u64 1, .int .u64 10, .int .u64 100, .int .u64 1000, .int .u64 10000, .int .u64 100000, .int .u64 1000000, .int .u64 10000000, .int .u64 100000000, .int .u64 1000000000, .int .u64 10000000000, .int .u64 100000000000, .int .u64 1000000000000, .int .u64 10000000000000, .int .u64 100000000000000, .int .u64 1000000000000000, .int .u64 10000000000000000, .int .u64 100000000000000000, .int .u64 1000000000000000000, .int .u64 10000000000000000000] t frozen
      | o => o }
  w3
theorem laid_met (os : Os) : laidMet Tryz.prog Rows.fnExactEvalRow.laid ((laidWorld os).forCall (fun _ _ => 0) ⟨#[], #[.agg #[.slice none 0 0, .int .i64 0, .slice none 0 0], .agg #[.int .i64 0, .slice none 0 0, .int .i64 0, .bool false, .int .i64 0, .slice none 0 0, .bool false, .int .i64 0, .int .i64 0]], []⟩).memory :=
  laidMet_of_run' 8 (by kernel_rfl) (by kernel_rfl)
theorem reads (os : Os) {H : Type} (enc : TypeId × Value → H) : ∃ places, DataW.whole enc Tryz.prog ((laidWorld os).forCall (fun _ _ => 0) ⟨#[], #[.agg #[.slice none 0 0, .int .i64 0, .slice none 0 0], .agg #[.int .i64 0, .slice none 0 0, .int .i64 0, .bool false, .int .i64 0, .slice none 0 0, .bool false, .int .i64 0, .int .i64 0]], []⟩).memory Tryz.f4.params.toList Rows.fnExactEvalSpec.vars false (#[.agg #[.slice none 0 0, .int .i64 0, .slice none 0 0], .agg #[.int .i64 0, .slice none 0 0, .int .i64 0, .bool false, .int .i64 0, .slice none 0 0, .bool false, .int .i64 0, .int .i64 0]] : Array Value).toList 8 = some ([.agg [.agg [.nil], .lit (.int .i64 0), .nil], .agg [.lit (.int .i64 0), .nil, .lit (.int .i64 0), .lit (.bool false), .lit (.int .i64 0), .nil, .lit (.bool false), .lit (.int .i64 0), .lit (.int .i64 0)]], [], places) :=
  ⟨[], by kernel_rfl⟩

set_option maxRecDepth 100000 in
theorem lifted (os : Os) (started : os.Started) (H : Type) (enc : TypeId × Value → H) (F : Stop.Interp) :
    ReturnsInHanded {} Tryz.checked os 4 .any ((OpenSpec.ofChange Rows.fnExactEvalSpec).preRow enc Tryz.prog Tryz.f4 Rows.fnExactEvalRow.domain false Rows.fnExactEvalRow.laid) (((OpenSpec.ofChange Rows.fnExactEvalSpec).at F).post enc Tryz.prog Tryz.f4 false true false false) := by
  obtain ⟨places, hx⟩ := reads os enc
  refine returnsInHanded_of_row (C := Tryz.checked) (s := OpenSpec.ofChange Rows.fnExactEvalSpec) Tryz.own started (by kernel_rfl) Tryz.func4
    (witness_row_at (enc := enc) (C := Tryz.checked) false (laidWorld os) #[.agg #[.slice none 0 0, .int .i64 0, .slice none 0 0], .agg #[.int .i64 0, .slice none 0 0, .int .i64 0, .bool false, .int .i64 0, .slice none 0 0, .bool false, .int .i64 0, .int .i64 0]] rfl (by kernel_rfl) (by kernel_rfl) (by kernel_rfl)
      (OpenSpec.preRow_of_cond 8 hx (by kernel_rfl) (fun k hk => by cases hk) (by kernel_rfl) (laid_met os))) ?_
  intro W base args ds gs before hval hW _ _ _ hL _ _
  refine L.law_calls (P := Tryz.prog) (d := 8) (tb := 4) (shs := [(true, [.sl [.i .i64], .i .i64, .sl [.sl [.i .i64, .sl [.i .i64]]]]), (true, [.i .i64, .sl [.i .i64, .i .i64, .i .i64], .i .i64, .b, .i .i64, .sl [.i .i64], .b, .i .i64, .i .i64])]) Tryz.laidOut (by kernel_rfl) ?_ (by kernel_rfl) Tryz.underlying4 rfl ?_ L.law_wf (tabs hL) hval hW
  · intro t ht
    have e : t = 53 ∨ t = 25 := by
      rw [Tryz.params4] at ht
      simpa using ht
    rcases e with rfl | rfl
    all_goals exact ⟨by kernel_rfl, of_decide_eq_true (by kernel_rfl)⟩
  · intro ds hds
    rw [Tryz.params4] at hds
    match ds, hds with
    | [_, _], _ => rfl

theorem said : Rows.FnExactEvalSaid :=
  OpenClaim.holds_of_cond 4 Tryz.f4 rfl rfl rfl rfl rfl rfl rfl ⟨rfl, rfl, rfl, rfl, rfl⟩ rfl rfl rfl rfl rfl (by kernel_rfl) Tryz.func4 (by kernel_rfl)
    (of_decide_eq_true (by kernel_rfl)) (by unfold Func.isWrapper; first | (rw [if_pos (by decide +kernel)]; kernel_rfl) | (rw [if_neg (by decide +kernel)]; exact ⟨rfl, rfl⟩))
    (fun os started H enc _ F => by rw [OpenClaim.pre_eq_preRow]; exact lifted os started H enc F)
theorem plain (f : FuncId) (fn : Func) (hf : Tryz.pinned.checked.prog.funcNamed "loop.example/g00198/laws.FnExactEval" = some f) (hfn : Tryz.pinned.checked.prog.funcs[f]? = some fn) :
    false = Tryz.pinned.checked.prog.looks [] ∧ ∀ (j : Nat) t, fn.params[j]? = some t → Tryz.pinned.checked.prog.wantsStandIn t = false := by
  obtain rfl : f = 4 := Option.some.inj ((show Tryz.prog.funcNamed "loop.example/g00198/laws.FnExactEval" = some 4 by kernel_rfl).symm.trans hf) |>.symm
  obtain rfl : fn = Tryz.f4 := (Option.some.inj (Tryz.func4.symm.trans hfn)).symm
  refine ⟨by kernel_rfl, fun j t ht => ?_⟩
  rw [Tryz.params4] at ht
  have e : t = 53 ∨ t = 25 := by simpa using Array.mem_of_getElem? ht
  rcases e with rfl | rfl
  · exact (show Tryz.prog.wantsStandIn 53 = false by kernel_rfl)
  · exact (show Tryz.prog.wantsStandIn 25 = false by kernel_rfl)

theorem fnExactEval_holds : Rows.FnExactEvalCardSaid :=
  Claim7.holds_tied_plain_at .later [] _ _ _ _ said (fun _ h => by cases h) (by kernel_rfl) (fun _ h => by cases h) fnExactEval_row_tie rfl ⟨rfl, rfl⟩ (by kernel_rfl) rfl plain (by kernel_rfl)

end Go.Proofs.YtgjboegobhafhaaGreatDoor
