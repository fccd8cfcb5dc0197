/-
  No cell of these rows narrows 'for every input' (looked for: loops, veiled, ifaces, maps, wideKeys, modest, calm, conditions, laid).
  DERIVED. THE GIVEN ROWS OF THIS SEAT. 4 by the template 'for every input the law returns true; each argument reads behind the call as it read before'; 0 by the template 'total and deterministic' (their statements: YtbjbfcfekmdfmaaTotals.lean).
  GIVEN WITH THE SEED: the statements are not yours to turn. If you find one false, say at which input.
  Laid BY PROGRAM, IN A SANDBOX (cutbox-rows.mjs): the forced cells as the released guide's own fill.sh prints them over the translation a1aedf7f8b40c34f… (all of the seat's roots in one cut). By AI agents, Wed Nov 11 2026. No macro, syntax, notation, axiom, sorry.
-/
import Derived.Test.YtbjbfcfekmdfmaaChecked
import GoSem.Claim
import GoSem.ClaimJoined
import GoSem.ClaimMapViews
import Derived.JoinedTies
import Derived.KernelRfl
namespace Go.Proofs.Ytbjbfcfekmdfmaa
/- THE CELL 'sum', in the pinned program and in every row, IS THE sha256 OF THE DUMP (.gsa) THAT YtbjbfcfekmdfmaaProg.lean LOADS. Nothing in Lean hashes anything: it is a label: what it is worth is what the hold of that sum in a sandbox is worth. -/
noncomputable def Try.pinned : Pinned := { name := "ytbjbfcfekmdfmaa", sum := "a1aedf7f8b40c34fd601a7bb89c0c40e7e4ac4a0698d85a797aba2cdc574c6ab", checked := Try.checked }
namespace Rows
def none {H : Type} : Left H := { results := [], args := [] }

/-- 'laws.FnForward': WHATEVER THE INPUT: true; the input reads as it did. -/
def fnForwardSpec : ChangeSpec := { name := "fnForward", fn := fun _ => fun
  | [d] => { results := [.lit (.bool true)], args := [d] }
  | _ => none }
def fnForwardRow : OpenClaim := { program := "ytbjbfcfekmdfmaa", sum := "a1aedf7f8b40c34fd601a7bb89c0c40e7e4ac4a0698d85a797aba2cdc574c6ab", func := "loop.example/g00198/laws.FnForward", spec := "fnForward", inPlace := ["slices.overlaps[loop.example/g00198/impl.Row]"], unfollowed := true, recurses := true, apart := false }
def FnForwardSaid : Prop := fnForwardRow.holds Try.pinned (OpenSpec.ofChange fnForwardSpec)

/-- ITS FALSE NEIGHBOUR: 'it returns false'. Refute it at one input. -/
def fnForwardWrong : ChangeSpec := { name := "fnForward", fn := fun _ => fun
  | [d] => { results := [.lit (.bool false)], args := [d] }
  | _ => none }
def FnForwardWrongFalsely : Prop := fnForwardRow.holds Try.pinned (OpenSpec.ofChange fnForwardWrong)

/-- 'laws.FnBack': WHATEVER THE INPUT: true; the input reads as it did. -/
def fnBackSpec : ChangeSpec := { name := "fnBack", fn := fun _ => fun
  | [d] => { results := [.lit (.bool true)], args := [d] }
  | _ => none }
def fnBackRow : OpenClaim := { program := "ytbjbfcfekmdfmaa", sum := "a1aedf7f8b40c34fd601a7bb89c0c40e7e4ac4a0698d85a797aba2cdc574c6ab", func := "loop.example/g00198/laws.FnBack", spec := "fnBack", inPlace := ["slices.overlaps[loop.example/g00198/impl.Row]"], unfollowed := true, recurses := true, apart := false }
def FnBackSaid : Prop := fnBackRow.holds Try.pinned (OpenSpec.ofChange fnBackSpec)

/-- ITS FALSE NEIGHBOUR: 'it returns false'. Refute it at one input. -/
def fnBackWrong : ChangeSpec := { name := "fnBack", fn := fun _ => fun
  | [d] => { results := [.lit (.bool false)], args := [d] }
  | _ => none }
def FnBackWrongFalsely : Prop := fnBackRow.holds Try.pinned (OpenSpec.ofChange fnBackWrong)

/-- 'laws.FnRecord': WHATEVER THE INPUT: true; the input reads as it did. -/
def fnRecordSpec : ChangeSpec := { name := "fnRecord", fn := fun _ => fun
  | [d] => { results := [.lit (.bool true)], args := [d] }
  | _ => none }
def fnRecordRow : OpenClaim := { program := "ytbjbfcfekmdfmaa", sum := "a1aedf7f8b40c34fd601a7bb89c0c40e7e4ac4a0698d85a797aba2cdc574c6ab", func := "loop.example/g00198/laws.FnRecord", spec := "fnRecord", inPlace := ["slices.overlaps[loop.example/g00198/impl.Row]"], unfollowed := true, recurses := true, apart := false }
def FnRecordSaid : Prop := fnRecordRow.holds Try.pinned (OpenSpec.ofChange fnRecordSpec)

/-- ITS FALSE NEIGHBOUR: 'it returns false'. Refute it at one input. -/
def fnRecordWrong : ChangeSpec := { name := "fnRecord", fn := fun _ => fun
  | [d] => { results := [.lit (.bool false)], args := [d] }
  | _ => none }
def FnRecordWrongFalsely : Prop := fnRecordRow.holds Try.pinned (OpenSpec.ofChange fnRecordWrong)

/-- 'laws.FnRecordPut': WHATEVER THE INPUT: true; the input reads as it did. -/
def fnRecordPutSpec : ChangeSpec := { name := "fnRecordPut", fn := fun _ => fun
  | [d] => { results := [.lit (.bool true)], args := [d] }
  | _ => none }
def fnRecordPutRow : OpenClaim := { program := "ytbjbfcfekmdfmaa", sum := "a1aedf7f8b40c34fd601a7bb89c0c40e7e4ac4a0698d85a797aba2cdc574c6ab", func := "loop.example/g00198/laws.FnRecordPut", spec := "fnRecordPut", inPlace := ["slices.overlaps[loop.example/g00198/impl.Row]"], unfollowed := true, recurses := true, apart := false }
def FnRecordPutSaid : Prop := fnRecordPutRow.holds Try.pinned (OpenSpec.ofChange fnRecordPutSpec)

/-- ITS FALSE NEIGHBOUR: 'it returns false'. Refute it at one input. -/
def fnRecordPutWrong : ChangeSpec := { name := "fnRecordPut", fn := fun _ => fun
  | [d] => { results := [.lit (.bool false)], args := [d] }
  | _ => none }
def FnRecordPutWrongFalsely : Prop := fnRecordPutRow.holds Try.pinned (OpenSpec.ofChange fnRecordPutWrong)

/- THE SECOND FORM. 'bulk': how many values and letters a reading holds, each counted each time it is reached (what is shared counts as often as it is met; a slice's spare places count too). A statement '..UptoSaid' is the law's where the arguments, and the package variables that the reading takes, are together of bulk at most 1048576: NARROWER than '..Said'. Prove '..Said' where nothing that the law and all that it calls make is longer than what came in: it says more and counts as full. Else prove '..UptoSaid'. A law counts once. -/
mutual
def uptoBulk {H : Type} : DataW H → Nat
  | .lit (.string bytes) => bytes.length + 1
  | .lit _ => 1
  | .nil => 1
  | .ptr d => uptoBulk d + 1
  | .slice elems spare => uptoBulkAll elems + uptoBulkAll spare + 1
  | .agg parts => uptoBulkAll parts + 1
  | .iface _ d => uptoBulk d + 1
  | .map entries => uptoBulkEntries entries + 1
  | .held _ => 1
def uptoBulkAll {H : Type} : List (DataW H) → Nat
  | [] => 0
  | d :: r => uptoBulk d + uptoBulkAll r
def uptoBulkEntries {H : Type} : List (Lit × DataW H) → Nat
  | [] => 0
  | x :: r => uptoBulkEntry x + uptoBulkEntries r
def uptoBulkEntry {H : Type} : Lit × DataW H → Nat
  | (.string bytes, d) => bytes.length + uptoBulk d + 1
  | (_, d) => uptoBulk d + 1
 end
def uptoSmall : (H : Type) → List (DataW H) → Bool := fun _ ds => decide (uptoBulkAll ds ≤ 1048576)
def OpenSpec.upto (s : _root_.Go.ChangeSpec) : _root_.Go.OpenSpec := { _root_.Go.OpenSpec.ofChange s with cond := some uptoSmall }

/-- 'laws.FnForward', WHERE WHAT IT READS IS OF BULK AT MOST 1048576: true; the input reads as it did. -/
def fnForwardUptoRow : OpenClaim := { program := "ytbjbfcfekmdfmaa", sum := "a1aedf7f8b40c34fd601a7bb89c0c40e7e4ac4a0698d85a797aba2cdc574c6ab", func := "loop.example/g00198/laws.FnForward", spec := "fnForward", inPlace := ["slices.overlaps[loop.example/g00198/impl.Row]"], unfollowed := true, recurses := true, apart := false, narrowed := true }
def FnForwardUptoSaid : Prop := fnForwardUptoRow.holds Try.pinned (OpenSpec.upto fnForwardSpec)

/-- 'laws.FnBack', WHERE WHAT IT READS IS OF BULK AT MOST 1048576: true; the input reads as it did. -/
def fnBackUptoRow : OpenClaim := { program := "ytbjbfcfekmdfmaa", sum := "a1aedf7f8b40c34fd601a7bb89c0c40e7e4ac4a0698d85a797aba2cdc574c6ab", func := "loop.example/g00198/laws.FnBack", spec := "fnBack", inPlace := ["slices.overlaps[loop.example/g00198/impl.Row]"], unfollowed := true, recurses := true, apart := false, narrowed := true }
def FnBackUptoSaid : Prop := fnBackUptoRow.holds Try.pinned (OpenSpec.upto fnBackSpec)

/-- 'laws.FnRecord', WHERE WHAT IT READS IS OF BULK AT MOST 1048576: true; the input reads as it did. -/
def fnRecordUptoRow : OpenClaim := { program := "ytbjbfcfekmdfmaa", sum := "a1aedf7f8b40c34fd601a7bb89c0c40e7e4ac4a0698d85a797aba2cdc574c6ab", func := "loop.example/g00198/laws.FnRecord", spec := "fnRecord", inPlace := ["slices.overlaps[loop.example/g00198/impl.Row]"], unfollowed := true, recurses := true, apart := false, narrowed := true }
def FnRecordUptoSaid : Prop := fnRecordUptoRow.holds Try.pinned (OpenSpec.upto fnRecordSpec)

/-- 'laws.FnRecordPut', WHERE WHAT IT READS IS OF BULK AT MOST 1048576: true; the input reads as it did. -/
def fnRecordPutUptoRow : OpenClaim := { program := "ytbjbfcfekmdfmaa", sum := "a1aedf7f8b40c34fd601a7bb89c0c40e7e4ac4a0698d85a797aba2cdc574c6ab", func := "loop.example/g00198/laws.FnRecordPut", spec := "fnRecordPut", inPlace := ["slices.overlaps[loop.example/g00198/impl.Row]"], unfollowed := true, recurses := true, apart := false, narrowed := true }
def FnRecordPutUptoSaid : Prop := fnRecordPutUptoRow.holds Try.pinned (OpenSpec.upto fnRecordPutSpec)

end Rows
end Go.Proofs.Ytbjbfcfekmdfmaa
