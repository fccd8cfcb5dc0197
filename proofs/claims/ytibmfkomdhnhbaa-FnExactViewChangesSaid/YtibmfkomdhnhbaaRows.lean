/-
  No cell of these rows narrows 'for every input' (looked for: loops, veiled, ifaces, maps, wideKeys, modest, calm, conditions, laid).
  DERIVED. THE GIVEN ROWS OF THIS SEAT. 12 by the template 'for every input the law returns true; each argument reads behind the call as it read before'; 0 by the template 'total and deterministic' (their statements: YtibmfkomdhnhbaaTotals.lean).
  GIVEN WITH THE SEED: the statements are not yours to turn. If you find one false, say at which input.
  Laid BY PROGRAM, IN A SANDBOX (cutbox-rows.mjs): the forced cells as the released guide's own fill.sh prints them over the translation dc08e8a1ee6145f2… (all of the seat's roots in one cut). By AI agents, Wed Nov 11 2026. No macro, syntax, notation, axiom, sorry.
-/
import Derived.Test.YtibmfkomdhnhbaaChecked
import GoSem.Claim
import GoSem.ClaimJoined
import GoSem.ClaimMapViews
import Derived.JoinedTies
import Derived.KernelRfl
namespace Go.Proofs.Ytibmfkomdhnhbaa
/- THE CELL 'sum', in the pinned program and in every row, IS THE sha256 OF THE DUMP (.gsa) THAT YtibmfkomdhnhbaaProg.lean LOADS. Nothing in Lean hashes anything: it is a label: what it is worth is what the hold of that sum in a sandbox is worth. -/
noncomputable def Try.pinned : Pinned := { name := "ytibmfkomdhnhbaa", sum := "dc08e8a1ee6145f2c75d3ba1b446333dd02299fe281af09091a98cd92902d308", checked := Try.checked }
namespace Rows
def none {H : Type} : Left H := { results := [], args := [] }

/-- 'laws.FnExactKidsOf': WHATEVER THE INPUT: true; the input reads as it did. -/
def fnExactKidsOfSpec : ChangeSpec := { name := "fnExactKidsOf", fn := fun _ => fun
  | [d1, d2, d3] => { results := [.lit (.bool true)], args := [d1, d2, d3] }
  | _ => none }
def fnExactKidsOfRow : OpenClaim := { program := "ytibmfkomdhnhbaa", sum := "dc08e8a1ee6145f2c75d3ba1b446333dd02299fe281af09091a98cd92902d308", func := "loop.example/g00198/laws.FnExactKidsOf", spec := "fnExactKidsOf", apart := false }
def FnExactKidsOfSaid : Prop := fnExactKidsOfRow.holds Try.pinned (OpenSpec.ofChange fnExactKidsOfSpec)

/-- ITS FALSE NEIGHBOUR: 'it returns false'. Refute it at one input. -/
def fnExactKidsOfWrong : ChangeSpec := { name := "fnExactKidsOf", fn := fun _ => fun
  | [d1, d2, d3] => { results := [.lit (.bool false)], args := [d1, d2, d3] }
  | _ => none }
def FnExactKidsOfWrongFalsely : Prop := fnExactKidsOfRow.holds Try.pinned (OpenSpec.ofChange fnExactKidsOfWrong)

/-- 'laws.FnExactViewOk': WHATEVER THE INPUT: true; the input reads as it did. -/
def fnExactViewOkSpec : ChangeSpec := { name := "fnExactViewOk", fn := fun _ => fun
  | [d1, d2] => { results := [.lit (.bool true)], args := [d1, d2] }
  | _ => none }
def fnExactViewOkRow : OpenClaim := { program := "ytibmfkomdhnhbaa", sum := "dc08e8a1ee6145f2c75d3ba1b446333dd02299fe281af09091a98cd92902d308", func := "loop.example/g00198/laws.FnExactViewOk", spec := "fnExactViewOk", unfollowed := true, recurses := true, apart := false }
def FnExactViewOkSaid : Prop := fnExactViewOkRow.holds Try.pinned (OpenSpec.ofChange fnExactViewOkSpec)

/-- ITS FALSE NEIGHBOUR: 'it returns false'. Refute it at one input. -/
def fnExactViewOkWrong : ChangeSpec := { name := "fnExactViewOk", fn := fun _ => fun
  | [d1, d2] => { results := [.lit (.bool false)], args := [d1, d2] }
  | _ => none }
def FnExactViewOkWrongFalsely : Prop := fnExactViewOkRow.holds Try.pinned (OpenSpec.ofChange fnExactViewOkWrong)

/-- 'laws.FnExactRecordNew': WHATEVER THE INPUT: true; the input reads as it did. -/
def fnExactRecordNewSpec : ChangeSpec := { name := "fnExactRecordNew", fn := fun _ => fun
  | [d] => { results := [.lit (.bool true)], args := [d] }
  | _ => none }
def fnExactRecordNewRow : OpenClaim := { program := "ytibmfkomdhnhbaa", sum := "dc08e8a1ee6145f2c75d3ba1b446333dd02299fe281af09091a98cd92902d308", func := "loop.example/g00198/laws.FnExactRecordNew", spec := "fnExactRecordNew", apart := false }
def FnExactRecordNewSaid : Prop := fnExactRecordNewRow.holds Try.pinned (OpenSpec.ofChange fnExactRecordNewSpec)

/-- ITS FALSE NEIGHBOUR: 'it returns false'. Refute it at one input. -/
def fnExactRecordNewWrong : ChangeSpec := { name := "fnExactRecordNew", fn := fun _ => fun
  | [d] => { results := [.lit (.bool false)], args := [d] }
  | _ => none }
def FnExactRecordNewWrongFalsely : Prop := fnExactRecordNewRow.holds Try.pinned (OpenSpec.ofChange fnExactRecordNewWrong)

/-- 'laws.FnExactConcerned': WHATEVER THE INPUT: true; the input reads as it did. -/
def fnExactConcernedSpec : ChangeSpec := { name := "fnExactConcerned", fn := fun _ => fun
  | [d1, d2, d3] => { results := [.lit (.bool true)], args := [d1, d2, d3] }
  | _ => none }
def fnExactConcernedRow : OpenClaim := { program := "ytibmfkomdhnhbaa", sum := "dc08e8a1ee6145f2c75d3ba1b446333dd02299fe281af09091a98cd92902d308", func := "loop.example/g00198/laws.FnExactConcerned", spec := "fnExactConcerned", apart := false }
def FnExactConcernedSaid : Prop := fnExactConcernedRow.holds Try.pinned (OpenSpec.ofChange fnExactConcernedSpec)

/-- ITS FALSE NEIGHBOUR: 'it returns false'. Refute it at one input. -/
def fnExactConcernedWrong : ChangeSpec := { name := "fnExactConcerned", fn := fun _ => fun
  | [d1, d2, d3] => { results := [.lit (.bool false)], args := [d1, d2, d3] }
  | _ => none }
def FnExactConcernedWrongFalsely : Prop := fnExactConcernedRow.holds Try.pinned (OpenSpec.ofChange fnExactConcernedWrong)

/-- 'laws.FnExactMutDo': WHATEVER THE INPUT: true; the input reads as it did. -/
def fnExactMutDoSpec : ChangeSpec := { name := "fnExactMutDo", fn := fun _ => fun
  | [d1, d2] => { results := [.lit (.bool true)], args := [d1, d2] }
  | _ => none }
def fnExactMutDoRow : OpenClaim := { program := "ytibmfkomdhnhbaa", sum := "dc08e8a1ee6145f2c75d3ba1b446333dd02299fe281af09091a98cd92902d308", func := "loop.example/g00198/laws.FnExactMutDo", spec := "fnExactMutDo", inPlace := ["slices.overlaps[loop.example/g00198/impl.Row]"], unfollowed := true, recurses := true, apart := false }
def FnExactMutDoSaid : Prop := fnExactMutDoRow.holds Try.pinned (OpenSpec.ofChange fnExactMutDoSpec)

/-- ITS FALSE NEIGHBOUR: 'it returns false'. Refute it at one input. -/
def fnExactMutDoWrong : ChangeSpec := { name := "fnExactMutDo", fn := fun _ => fun
  | [d1, d2] => { results := [.lit (.bool false)], args := [d1, d2] }
  | _ => none }
def FnExactMutDoWrongFalsely : Prop := fnExactMutDoRow.holds Try.pinned (OpenSpec.ofChange fnExactMutDoWrong)

/-- 'laws.FnExactRecordOk': WHATEVER THE INPUT: true; the input reads as it did. -/
def fnExactRecordOkSpec : ChangeSpec := { name := "fnExactRecordOk", fn := fun _ => fun
  | [d] => { results := [.lit (.bool true)], args := [d] }
  | _ => none }
def fnExactRecordOkRow : OpenClaim := { program := "ytibmfkomdhnhbaa", sum := "dc08e8a1ee6145f2c75d3ba1b446333dd02299fe281af09091a98cd92902d308", func := "loop.example/g00198/laws.FnExactRecordOk", spec := "fnExactRecordOk", inPlace := ["slices.overlaps[loop.example/g00198/impl.Row]"], unfollowed := true, recurses := true, apart := false }
def FnExactRecordOkSaid : Prop := fnExactRecordOkRow.holds Try.pinned (OpenSpec.ofChange fnExactRecordOkSpec)

/-- ITS FALSE NEIGHBOUR: 'it returns false'. Refute it at one input. -/
def fnExactRecordOkWrong : ChangeSpec := { name := "fnExactRecordOk", fn := fun _ => fun
  | [d] => { results := [.lit (.bool false)], args := [d] }
  | _ => none }
def FnExactRecordOkWrongFalsely : Prop := fnExactRecordOkRow.holds Try.pinned (OpenSpec.ofChange fnExactRecordOkWrong)

/-- 'laws.FnExactForward': WHATEVER THE INPUT: true; the input reads as it did. -/
def fnExactForwardSpec : ChangeSpec := { name := "fnExactForward", fn := fun _ => fun
  | [d1, d2] => { results := [.lit (.bool true)], args := [d1, d2] }
  | _ => none }
def fnExactForwardRow : OpenClaim := { program := "ytibmfkomdhnhbaa", sum := "dc08e8a1ee6145f2c75d3ba1b446333dd02299fe281af09091a98cd92902d308", func := "loop.example/g00198/laws.FnExactForward", spec := "fnExactForward", inPlace := ["slices.overlaps[loop.example/g00198/impl.Row]"], unfollowed := true, recurses := true, apart := false }
def FnExactForwardSaid : Prop := fnExactForwardRow.holds Try.pinned (OpenSpec.ofChange fnExactForwardSpec)

/-- ITS FALSE NEIGHBOUR: 'it returns false'. Refute it at one input. -/
def fnExactForwardWrong : ChangeSpec := { name := "fnExactForward", fn := fun _ => fun
  | [d1, d2] => { results := [.lit (.bool false)], args := [d1, d2] }
  | _ => none }
def FnExactForwardWrongFalsely : Prop := fnExactForwardRow.holds Try.pinned (OpenSpec.ofChange fnExactForwardWrong)

/-- 'laws.FnExactLast': WHATEVER THE INPUT: true; the input reads as it did. -/
def fnExactLastSpec : ChangeSpec := { name := "fnExactLast", fn := fun _ => fun
  | [d] => { results := [.lit (.bool true)], args := [d] }
  | _ => none }
def fnExactLastRow : OpenClaim := { program := "ytibmfkomdhnhbaa", sum := "dc08e8a1ee6145f2c75d3ba1b446333dd02299fe281af09091a98cd92902d308", func := "loop.example/g00198/laws.FnExactLast", spec := "fnExactLast", inPlace := ["slices.overlaps[loop.example/g00198/impl.Row]"], unfollowed := true, recurses := true, apart := false }
def FnExactLastSaid : Prop := fnExactLastRow.holds Try.pinned (OpenSpec.ofChange fnExactLastSpec)

/-- ITS FALSE NEIGHBOUR: 'it returns false'. Refute it at one input. -/
def fnExactLastWrong : ChangeSpec := { name := "fnExactLast", fn := fun _ => fun
  | [d] => { results := [.lit (.bool false)], args := [d] }
  | _ => none }
def FnExactLastWrongFalsely : Prop := fnExactLastRow.holds Try.pinned (OpenSpec.ofChange fnExactLastWrong)

/-- 'laws.FnExactBatchDo': WHATEVER THE INPUT: true; the input reads as it did. -/
def fnExactBatchDoSpec : ChangeSpec := { name := "fnExactBatchDo", fn := fun _ => fun
  | [d1, d2] => { results := [.lit (.bool true)], args := [d1, d2] }
  | _ => none }
def fnExactBatchDoRow : OpenClaim := { program := "ytibmfkomdhnhbaa", sum := "dc08e8a1ee6145f2c75d3ba1b446333dd02299fe281af09091a98cd92902d308", func := "loop.example/g00198/laws.FnExactBatchDo", spec := "fnExactBatchDo", inPlace := ["slices.overlaps[loop.example/g00198/impl.Row]"], unfollowed := true, recurses := true, apart := false }
def FnExactBatchDoSaid : Prop := fnExactBatchDoRow.holds Try.pinned (OpenSpec.ofChange fnExactBatchDoSpec)

/-- ITS FALSE NEIGHBOUR: 'it returns false'. Refute it at one input. -/
def fnExactBatchDoWrong : ChangeSpec := { name := "fnExactBatchDo", fn := fun _ => fun
  | [d1, d2] => { results := [.lit (.bool false)], args := [d1, d2] }
  | _ => none }
def FnExactBatchDoWrongFalsely : Prop := fnExactBatchDoRow.holds Try.pinned (OpenSpec.ofChange fnExactBatchDoWrong)

/-- 'laws.FnExactViewChange': WHATEVER THE INPUT: true; the input reads as it did. -/
def fnExactViewChangeSpec : ChangeSpec := { name := "fnExactViewChange", fn := fun _ => fun
  | [d1, d2] => { results := [.lit (.bool true)], args := [d1, d2] }
  | _ => none }
def fnExactViewChangeRow : OpenClaim := { program := "ytibmfkomdhnhbaa", sum := "dc08e8a1ee6145f2c75d3ba1b446333dd02299fe281af09091a98cd92902d308", func := "loop.example/g00198/laws.FnExactViewChange", spec := "fnExactViewChange", inPlace := ["slices.overlaps[loop.example/g00198/impl.Row]", "slices.overlaps[loop.example/g00198/impl.Kid]"], unfollowed := true, recurses := true, apart := false }
def FnExactViewChangeSaid : Prop := fnExactViewChangeRow.holds Try.pinned (OpenSpec.ofChange fnExactViewChangeSpec)

/-- ITS FALSE NEIGHBOUR: 'it returns false'. Refute it at one input. -/
def fnExactViewChangeWrong : ChangeSpec := { name := "fnExactViewChange", fn := fun _ => fun
  | [d1, d2] => { results := [.lit (.bool false)], args := [d1, d2] }
  | _ => none }
def FnExactViewChangeWrongFalsely : Prop := fnExactViewChangeRow.holds Try.pinned (OpenSpec.ofChange fnExactViewChangeWrong)

/-- 'laws.FnExactViewChanges': WHATEVER THE INPUT: true; the input reads as it did. -/
def fnExactViewChangesSpec : ChangeSpec := { name := "fnExactViewChanges", fn := fun _ => fun
  | [d1, d2] => { results := [.lit (.bool true)], args := [d1, d2] }
  | _ => none }
def fnExactViewChangesRow : OpenClaim := { program := "ytibmfkomdhnhbaa", sum := "dc08e8a1ee6145f2c75d3ba1b446333dd02299fe281af09091a98cd92902d308", func := "loop.example/g00198/laws.FnExactViewChanges", spec := "fnExactViewChanges", inPlace := ["slices.overlaps[loop.example/g00198/impl.Row]", "slices.overlaps[loop.example/g00198/impl.Kid]"], unfollowed := true, recurses := true, apart := false }
def FnExactViewChangesSaid : Prop := fnExactViewChangesRow.holds Try.pinned (OpenSpec.ofChange fnExactViewChangesSpec)

/-- ITS FALSE NEIGHBOUR: 'it returns false'. Refute it at one input. -/
def fnExactViewChangesWrong : ChangeSpec := { name := "fnExactViewChanges", fn := fun _ => fun
  | [d1, d2] => { results := [.lit (.bool false)], args := [d1, d2] }
  | _ => none }
def FnExactViewChangesWrongFalsely : Prop := fnExactViewChangesRow.holds Try.pinned (OpenSpec.ofChange fnExactViewChangesWrong)

/-- 'laws.FnExactAt': WHATEVER THE INPUT: true; the input reads as it did. -/
def fnExactAtSpec : ChangeSpec := { name := "fnExactAt", fn := fun _ => fun
  | [d1, d2] => { results := [.lit (.bool true)], args := [d1, d2] }
  | _ => none }
def fnExactAtRow : OpenClaim := { program := "ytibmfkomdhnhbaa", sum := "dc08e8a1ee6145f2c75d3ba1b446333dd02299fe281af09091a98cd92902d308", func := "loop.example/g00198/laws.FnExactAt", spec := "fnExactAt", inPlace := ["slices.overlaps[loop.example/g00198/impl.Row]"], unfollowed := true, recurses := true, apart := false }
def FnExactAtSaid : Prop := fnExactAtRow.holds Try.pinned (OpenSpec.ofChange fnExactAtSpec)

/-- ITS FALSE NEIGHBOUR: 'it returns false'. Refute it at one input. -/
def fnExactAtWrong : ChangeSpec := { name := "fnExactAt", fn := fun _ => fun
  | [d1, d2] => { results := [.lit (.bool false)], args := [d1, d2] }
  | _ => none }
def FnExactAtWrongFalsely : Prop := fnExactAtRow.holds Try.pinned (OpenSpec.ofChange fnExactAtWrong)

/- THE SECOND FORM. 'bulk': how many values and letters a reading holds, each counted each time it is reached (what is shared counts as often as it is met; a slice's spare places count too). A statement '..UptoSaid' is the law's where the arguments, and the package variables that the reading takes, are together of bulk at most 1048576: NARROWER than '..Said'. Prove '..Said' where nothing that the law and all that it calls make is longer than what came in: it says more and counts as full. Else prove '..UptoSaid'. A law counts once. -/
mutual
def uptoBulk {H : Type} : DataW H → Nat
  | .lit (.string bytes) => bytes.length + 1
  | .lit _ => 1
  | .nil => 1
  | .ptr d => uptoBulk d + 1
  | .slice elems spare => uptoBulkAll elems + uptoBulkAll spare + 1
  | .agg parts => uptoBulkAll parts + 1
  | .iface _ d => uptoBulk d + 1
  | .map entries => uptoBulkEntries entries + 1
  | .held _ => 1
def uptoBulkAll {H : Type} : List (DataW H) → Nat
  | [] => 0
  | d :: r => uptoBulk d + uptoBulkAll r
def uptoBulkEntries {H : Type} : List (Lit × DataW H) → Nat
  | [] => 0
  | x :: r => uptoBulkEntry x + uptoBulkEntries r
def uptoBulkEntry {H : Type} : Lit × DataW H → Nat
  | (.string bytes, d) => bytes.length + uptoBulk d + 1
  | (_, d) => uptoBulk d + 1
 end
def uptoSmall : (H : Type) → List (DataW H) → Bool := fun _ ds => decide (uptoBulkAll ds ≤ 1048576)
def OpenSpec.upto (s : _root_.Go.ChangeSpec) : _root_.Go.OpenSpec := { _root_.Go.OpenSpec.ofChange s with cond := some uptoSmall }

/-- 'laws.FnExactKidsOf', WHERE WHAT IT READS IS OF BULK AT MOST 1048576: true; the input reads as it did. -/
def fnExactKidsOfUptoRow : OpenClaim := { program := "ytibmfkomdhnhbaa", sum := "dc08e8a1ee6145f2c75d3ba1b446333dd02299fe281af09091a98cd92902d308", func := "loop.example/g00198/laws.FnExactKidsOf", spec := "fnExactKidsOf", apart := false, narrowed := true }
def FnExactKidsOfUptoSaid : Prop := fnExactKidsOfUptoRow.holds Try.pinned (OpenSpec.upto fnExactKidsOfSpec)

/-- 'laws.FnExactViewOk', WHERE WHAT IT READS IS OF BULK AT MOST 1048576: true; the input reads as it did. -/
def fnExactViewOkUptoRow : OpenClaim := { program := "ytibmfkomdhnhbaa", sum := "dc08e8a1ee6145f2c75d3ba1b446333dd02299fe281af09091a98cd92902d308", func := "loop.example/g00198/laws.FnExactViewOk", spec := "fnExactViewOk", unfollowed := true, recurses := true, apart := false, narrowed := true }
def FnExactViewOkUptoSaid : Prop := fnExactViewOkUptoRow.holds Try.pinned (OpenSpec.upto fnExactViewOkSpec)

/-- 'laws.FnExactRecordNew', WHERE WHAT IT READS IS OF BULK AT MOST 1048576: true; the input reads as it did. -/
def fnExactRecordNewUptoRow : OpenClaim := { program := "ytibmfkomdhnhbaa", sum := "dc08e8a1ee6145f2c75d3ba1b446333dd02299fe281af09091a98cd92902d308", func := "loop.example/g00198/laws.FnExactRecordNew", spec := "fnExactRecordNew", apart := false, narrowed := true }
def FnExactRecordNewUptoSaid : Prop := fnExactRecordNewUptoRow.holds Try.pinned (OpenSpec.upto fnExactRecordNewSpec)

/-- 'laws.FnExactConcerned', WHERE WHAT IT READS IS OF BULK AT MOST 1048576: true; the input reads as it did. -/
def fnExactConcernedUptoRow : OpenClaim := { program := "ytibmfkomdhnhbaa", sum := "dc08e8a1ee6145f2c75d3ba1b446333dd02299fe281af09091a98cd92902d308", func := "loop.example/g00198/laws.FnExactConcerned", spec := "fnExactConcerned", apart := false, narrowed := true }
def FnExactConcernedUptoSaid : Prop := fnExactConcernedUptoRow.holds Try.pinned (OpenSpec.upto fnExactConcernedSpec)

/-- 'laws.FnExactMutDo', WHERE WHAT IT READS IS OF BULK AT MOST 1048576: true; the input reads as it did. -/
def fnExactMutDoUptoRow : OpenClaim := { program := "ytibmfkomdhnhbaa", sum := "dc08e8a1ee6145f2c75d3ba1b446333dd02299fe281af09091a98cd92902d308", func := "loop.example/g00198/laws.FnExactMutDo", spec := "fnExactMutDo", inPlace := ["slices.overlaps[loop.example/g00198/impl.Row]"], unfollowed := true, recurses := true, apart := false, narrowed := true }
def FnExactMutDoUptoSaid : Prop := fnExactMutDoUptoRow.holds Try.pinned (OpenSpec.upto fnExactMutDoSpec)

/-- 'laws.FnExactRecordOk', WHERE WHAT IT READS IS OF BULK AT MOST 1048576: true; the input reads as it did. -/
def fnExactRecordOkUptoRow : OpenClaim := { program := "ytibmfkomdhnhbaa", sum := "dc08e8a1ee6145f2c75d3ba1b446333dd02299fe281af09091a98cd92902d308", func := "loop.example/g00198/laws.FnExactRecordOk", spec := "fnExactRecordOk", inPlace := ["slices.overlaps[loop.example/g00198/impl.Row]"], unfollowed := true, recurses := true, apart := false, narrowed := true }
def FnExactRecordOkUptoSaid : Prop := fnExactRecordOkUptoRow.holds Try.pinned (OpenSpec.upto fnExactRecordOkSpec)

/-- 'laws.FnExactForward', WHERE WHAT IT READS IS OF BULK AT MOST 1048576: true; the input reads as it did. -/
def fnExactForwardUptoRow : OpenClaim := { program := "ytibmfkomdhnhbaa", sum := "dc08e8a1ee6145f2c75d3ba1b446333dd02299fe281af09091a98cd92902d308", func := "loop.example/g00198/laws.FnExactForward", spec := "fnExactForward", inPlace := ["slices.overlaps[loop.example/g00198/impl.Row]"], unfollowed := true, recurses := true, apart := false, narrowed := true }
def FnExactForwardUptoSaid : Prop := fnExactForwardUptoRow.holds Try.pinned (OpenSpec.upto fnExactForwardSpec)

/-- 'laws.FnExactLast', WHERE WHAT IT READS IS OF BULK AT MOST 1048576: true; the input reads as it did. -/
def fnExactLastUptoRow : OpenClaim := { program := "ytibmfkomdhnhbaa", sum := "dc08e8a1ee6145f2c75d3ba1b446333dd02299fe281af09091a98cd92902d308", func := "loop.example/g00198/laws.FnExactLast", spec := "fnExactLast", inPlace := ["slices.overlaps[loop.example/g00198/impl.Row]"], unfollowed := true, recurses := true, apart := false, narrowed := true }
def FnExactLastUptoSaid : Prop := fnExactLastUptoRow.holds Try.pinned (OpenSpec.upto fnExactLastSpec)

/-- 'laws.FnExactBatchDo', WHERE WHAT IT READS IS OF BULK AT MOST 1048576: true; the input reads as it did. -/
def fnExactBatchDoUptoRow : OpenClaim := { program := "ytibmfkomdhnhbaa", sum := "dc08e8a1ee6145f2c75d3ba1b446333dd02299fe281af09091a98cd92902d308", func := "loop.example/g00198/laws.FnExactBatchDo", spec := "fnExactBatchDo", inPlace := ["slices.overlaps[loop.example/g00198/impl.Row]"], unfollowed := true, recurses := true, apart := false, narrowed := true }
def FnExactBatchDoUptoSaid : Prop := fnExactBatchDoUptoRow.holds Try.pinned (OpenSpec.upto fnExactBatchDoSpec)

/-- 'laws.FnExactViewChange', WHERE WHAT IT READS IS OF BULK AT MOST 1048576: true; the input reads as it did. -/
def fnExactViewChangeUptoRow : OpenClaim := { program := "ytibmfkomdhnhbaa", sum := "dc08e8a1ee6145f2c75d3ba1b446333dd02299fe281af09091a98cd92902d308", func := "loop.example/g00198/laws.FnExactViewChange", spec := "fnExactViewChange", inPlace := ["slices.overlaps[loop.example/g00198/impl.Row]", "slices.overlaps[loop.example/g00198/impl.Kid]"], unfollowed := true, recurses := true, apart := false, narrowed := true }
def FnExactViewChangeUptoSaid : Prop := fnExactViewChangeUptoRow.holds Try.pinned (OpenSpec.upto fnExactViewChangeSpec)

/-- 'laws.FnExactViewChanges', WHERE WHAT IT READS IS OF BULK AT MOST 1048576: true; the input reads as it did. -/
def fnExactViewChangesUptoRow : OpenClaim := { program := "ytibmfkomdhnhbaa", sum := "dc08e8a1ee6145f2c75d3ba1b446333dd02299fe281af09091a98cd92902d308", func := "loop.example/g00198/laws.FnExactViewChanges", spec := "fnExactViewChanges", inPlace := ["slices.overlaps[loop.example/g00198/impl.Row]", "slices.overlaps[loop.example/g00198/impl.Kid]"], unfollowed := true, recurses := true, apart := false, narrowed := true }
def FnExactViewChangesUptoSaid : Prop := fnExactViewChangesUptoRow.holds Try.pinned (OpenSpec.upto fnExactViewChangesSpec)

/-- 'laws.FnExactAt', WHERE WHAT IT READS IS OF BULK AT MOST 1048576: true; the input reads as it did. -/
def fnExactAtUptoRow : OpenClaim := { program := "ytibmfkomdhnhbaa", sum := "dc08e8a1ee6145f2c75d3ba1b446333dd02299fe281af09091a98cd92902d308", func := "loop.example/g00198/laws.FnExactAt", spec := "fnExactAt", inPlace := ["slices.overlaps[loop.example/g00198/impl.Row]"], unfollowed := true, recurses := true, apart := false, narrowed := true }
def FnExactAtUptoSaid : Prop := fnExactAtUptoRow.holds Try.pinned (OpenSpec.upto fnExactAtSpec)

end Rows
end Go.Proofs.Ytibmfkomdhnhbaa
