/-
  No cell of these rows narrows 'for every input' (looked for: loops, veiled, ifaces, maps, wideKeys, modest, calm, conditions, laid).
  DERIVED. THE GIVEN ROWS OF THIS SEAT. 12 by the template 'for every input the law returns true; each argument reads behind the call as it read before'; 0 by the template 'total and deterministic' (their statements: YtplgbjbpimbcbaaTotals.lean).
  GIVEN WITH THE SEED: the statements are not yours to turn. If you find one false, say at which input.
  Laid BY PROGRAM, IN A SANDBOX (cutbox-rows.mjs): the forced cells as the released guide's own fill.sh prints them over the translation b8b397ab2ceb3dba… (all of the seat's roots in one cut). By AI agents, Wed Nov 11 2026. No macro, syntax, notation, axiom, sorry.
-/
import Derived.Test.YtplgbjbpimbcbaaChecked
import GoSem.Claim
import GoSem.ClaimJoined
import GoSem.ClaimMapViews
import Derived.JoinedTies
import Derived.KernelRfl
namespace Go.Proofs.Ytplgbjbpimbcbaa
/- THE CELL 'sum', in the pinned program and in every row, IS THE sha256 OF THE DUMP (.gsa) THAT YtplgbjbpimbcbaaProg.lean LOADS. Nothing in Lean hashes anything: it is a label: what it is worth is what the hold of that sum in a sandbox is worth. -/
noncomputable def Try.pinned : Pinned := { name := "ytplgbjbpimbcbaa", sum := "b8b397ab2ceb3dbaeb29d44cf59ee000d1d7e6a8a27a0adf10d323382aacd0b2", checked := Try.checked }
namespace Rows
def none {H : Type} : Left H := { results := [], args := [] }

/-- 'laws.FnExactQuerySame': WHATEVER THE INPUT: true; the input reads as it did. -/
def fnExactQuerySameSpec : ChangeSpec := { name := "fnExactQuerySame", fn := fun _ => fun
  | [d1, d2] => { results := [.lit (.bool true)], args := [d1, d2] }
  | _ => none }
def fnExactQuerySameRow : OpenClaim := { program := "ytplgbjbpimbcbaa", sum := "b8b397ab2ceb3dbaeb29d44cf59ee000d1d7e6a8a27a0adf10d323382aacd0b2", func := "loop.example/g00198/laws.FnExactQuerySame", spec := "fnExactQuerySame", apart := false }
def FnExactQuerySameSaid : Prop := fnExactQuerySameRow.holds Try.pinned (OpenSpec.ofChange fnExactQuerySameSpec)

/-- ITS FALSE NEIGHBOUR: 'it returns false'. Refute it at one input. -/
def fnExactQuerySameWrong : ChangeSpec := { name := "fnExactQuerySame", fn := fun _ => fun
  | [d1, d2] => { results := [.lit (.bool false)], args := [d1, d2] }
  | _ => none }
def FnExactQuerySameWrongFalsely : Prop := fnExactQuerySameRow.holds Try.pinned (OpenSpec.ofChange fnExactQuerySameWrong)

/-- 'laws.FnExactAhead': WHATEVER THE INPUT: true; the input reads as it did. -/
def fnExactAheadSpec : ChangeSpec := { name := "fnExactAhead", fn := fun _ => fun
  | [d1, d2, d3] => { results := [.lit (.bool true)], args := [d1, d2, d3] }
  | _ => none }
def fnExactAheadRow : OpenClaim := { program := "ytplgbjbpimbcbaa", sum := "b8b397ab2ceb3dbaeb29d44cf59ee000d1d7e6a8a27a0adf10d323382aacd0b2", func := "loop.example/g00198/laws.FnExactAhead", spec := "fnExactAhead", apart := false }
def FnExactAheadSaid : Prop := fnExactAheadRow.holds Try.pinned (OpenSpec.ofChange fnExactAheadSpec)

/-- ITS FALSE NEIGHBOUR: 'it returns false'. Refute it at one input. -/
def fnExactAheadWrong : ChangeSpec := { name := "fnExactAhead", fn := fun _ => fun
  | [d1, d2, d3] => { results := [.lit (.bool false)], args := [d1, d2, d3] }
  | _ => none }
def FnExactAheadWrongFalsely : Prop := fnExactAheadRow.holds Try.pinned (OpenSpec.ofChange fnExactAheadWrong)

/-- 'laws.FnExactMatches': WHATEVER THE INPUT: true; the input reads as it did. -/
def fnExactMatchesSpec : ChangeSpec := { name := "fnExactMatches", fn := fun _ => fun
  | [d1, d2] => { results := [.lit (.bool true)], args := [d1, d2] }
  | _ => none }
def fnExactMatchesRow : OpenClaim := { program := "ytplgbjbpimbcbaa", sum := "b8b397ab2ceb3dbaeb29d44cf59ee000d1d7e6a8a27a0adf10d323382aacd0b2", func := "loop.example/g00198/laws.FnExactMatches", spec := "fnExactMatches", apart := false }
def FnExactMatchesSaid : Prop := fnExactMatchesRow.holds Try.pinned (OpenSpec.ofChange fnExactMatchesSpec)

/-- ITS FALSE NEIGHBOUR: 'it returns false'. Refute it at one input. -/
def fnExactMatchesWrong : ChangeSpec := { name := "fnExactMatches", fn := fun _ => fun
  | [d1, d2] => { results := [.lit (.bool false)], args := [d1, d2] }
  | _ => none }
def FnExactMatchesWrongFalsely : Prop := fnExactMatchesRow.holds Try.pinned (OpenSpec.ofChange fnExactMatchesWrong)

/-- 'laws.FnExactQueryOk': WHATEVER THE INPUT: true; the input reads as it did. -/
def fnExactQueryOkSpec : ChangeSpec := { name := "fnExactQueryOk", fn := fun _ => fun
  | [d1, d2] => { results := [.lit (.bool true)], args := [d1, d2] }
  | _ => none }
def fnExactQueryOkRow : OpenClaim := { program := "ytplgbjbpimbcbaa", sum := "b8b397ab2ceb3dbaeb29d44cf59ee000d1d7e6a8a27a0adf10d323382aacd0b2", func := "loop.example/g00198/laws.FnExactQueryOk", spec := "fnExactQueryOk", apart := false }
def FnExactQueryOkSaid : Prop := fnExactQueryOkRow.holds Try.pinned (OpenSpec.ofChange fnExactQueryOkSpec)

/-- ITS FALSE NEIGHBOUR: 'it returns false'. Refute it at one input. -/
def fnExactQueryOkWrong : ChangeSpec := { name := "fnExactQueryOk", fn := fun _ => fun
  | [d1, d2] => { results := [.lit (.bool false)], args := [d1, d2] }
  | _ => none }
def FnExactQueryOkWrongFalsely : Prop := fnExactQueryOkRow.holds Try.pinned (OpenSpec.ofChange fnExactQueryOkWrong)

/-- 'laws.FnKidPut': WHATEVER THE INPUT: true; the input reads as it did. -/
def fnKidPutSpec : ChangeSpec := { name := "fnKidPut", fn := fun _ => fun
  | [d] => { results := [.lit (.bool true)], args := [d] }
  | _ => none }
def fnKidPutRow : OpenClaim := { program := "ytplgbjbpimbcbaa", sum := "b8b397ab2ceb3dbaeb29d44cf59ee000d1d7e6a8a27a0adf10d323382aacd0b2", func := "loop.example/g00198/laws.FnKidPut", spec := "fnKidPut", inPlace := ["slices.overlaps[loop.example/g00198/impl.Kid]"], apart := false }
def FnKidPutSaid : Prop := fnKidPutRow.holds Try.pinned (OpenSpec.ofChange fnKidPutSpec)

/-- ITS FALSE NEIGHBOUR: 'it returns false'. Refute it at one input. -/
def fnKidPutWrong : ChangeSpec := { name := "fnKidPut", fn := fun _ => fun
  | [d] => { results := [.lit (.bool false)], args := [d] }
  | _ => none }
def FnKidPutWrongFalsely : Prop := fnKidPutRow.holds Try.pinned (OpenSpec.ofChange fnKidPutWrong)

/-- 'laws.FnExactKidPut': WHATEVER THE INPUT: true; the input reads as it did. -/
def fnExactKidPutSpec : ChangeSpec := { name := "fnExactKidPut", fn := fun _ => fun
  | [d1, d2, d3] => { results := [.lit (.bool true)], args := [d1, d2, d3] }
  | _ => none }
def fnExactKidPutRow : OpenClaim := { program := "ytplgbjbpimbcbaa", sum := "b8b397ab2ceb3dbaeb29d44cf59ee000d1d7e6a8a27a0adf10d323382aacd0b2", func := "loop.example/g00198/laws.FnExactKidPut", spec := "fnExactKidPut", inPlace := ["slices.overlaps[loop.example/g00198/impl.Kid]"], apart := false }
def FnExactKidPutSaid : Prop := fnExactKidPutRow.holds Try.pinned (OpenSpec.ofChange fnExactKidPutSpec)

/-- ITS FALSE NEIGHBOUR: 'it returns false'. Refute it at one input. -/
def fnExactKidPutWrong : ChangeSpec := { name := "fnExactKidPut", fn := fun _ => fun
  | [d1, d2, d3] => { results := [.lit (.bool false)], args := [d1, d2, d3] }
  | _ => none }
def FnExactKidPutWrongFalsely : Prop := fnExactKidPutRow.holds Try.pinned (OpenSpec.ofChange fnExactKidPutWrong)

/-- 'laws.FnMatches': WHATEVER THE INPUT: true; the input reads as it did. -/
def fnMatchesSpec : ChangeSpec := { name := "fnMatches", fn := fun _ => fun
  | [d] => { results := [.lit (.bool true)], args := [d] }
  | _ => none }
def fnMatchesRow : OpenClaim := { program := "ytplgbjbpimbcbaa", sum := "b8b397ab2ceb3dbaeb29d44cf59ee000d1d7e6a8a27a0adf10d323382aacd0b2", func := "loop.example/g00198/laws.FnMatches", spec := "fnMatches", apart := false }
def FnMatchesSaid : Prop := fnMatchesRow.holds Try.pinned (OpenSpec.ofChange fnMatchesSpec)

/-- ITS FALSE NEIGHBOUR: 'it returns false'. Refute it at one input. -/
def fnMatchesWrong : ChangeSpec := { name := "fnMatches", fn := fun _ => fun
  | [d] => { results := [.lit (.bool false)], args := [d] }
  | _ => none }
def FnMatchesWrongFalsely : Prop := fnMatchesRow.holds Try.pinned (OpenSpec.ofChange fnMatchesWrong)

/-- 'laws.FnAhead': WHATEVER THE INPUT: true; the input reads as it did. -/
def fnAheadSpec : ChangeSpec := { name := "fnAhead", fn := fun _ => fun
  | [d] => { results := [.lit (.bool true)], args := [d] }
  | _ => none }
def fnAheadRow : OpenClaim := { program := "ytplgbjbpimbcbaa", sum := "b8b397ab2ceb3dbaeb29d44cf59ee000d1d7e6a8a27a0adf10d323382aacd0b2", func := "loop.example/g00198/laws.FnAhead", spec := "fnAhead", apart := false }
def FnAheadSaid : Prop := fnAheadRow.holds Try.pinned (OpenSpec.ofChange fnAheadSpec)

/-- ITS FALSE NEIGHBOUR: 'it returns false'. Refute it at one input. -/
def fnAheadWrong : ChangeSpec := { name := "fnAhead", fn := fun _ => fun
  | [d] => { results := [.lit (.bool false)], args := [d] }
  | _ => none }
def FnAheadWrongFalsely : Prop := fnAheadRow.holds Try.pinned (OpenSpec.ofChange fnAheadWrong)

/-- 'laws.FnExactKidsIn': WHATEVER THE INPUT: true; the input reads as it did. -/
def fnExactKidsInSpec : ChangeSpec := { name := "fnExactKidsIn", fn := fun _ => fun
  | [d1, d2] => { results := [.lit (.bool true)], args := [d1, d2] }
  | _ => none }
def fnExactKidsInRow : OpenClaim := { program := "ytplgbjbpimbcbaa", sum := "b8b397ab2ceb3dbaeb29d44cf59ee000d1d7e6a8a27a0adf10d323382aacd0b2", func := "loop.example/g00198/laws.FnExactKidsIn", spec := "fnExactKidsIn", apart := false }
def FnExactKidsInSaid : Prop := fnExactKidsInRow.holds Try.pinned (OpenSpec.ofChange fnExactKidsInSpec)

/-- ITS FALSE NEIGHBOUR: 'it returns false'. Refute it at one input. -/
def fnExactKidsInWrong : ChangeSpec := { name := "fnExactKidsIn", fn := fun _ => fun
  | [d1, d2] => { results := [.lit (.bool false)], args := [d1, d2] }
  | _ => none }
def FnExactKidsInWrongFalsely : Prop := fnExactKidsInRow.holds Try.pinned (OpenSpec.ofChange fnExactKidsInWrong)

/-- 'laws.FnExactTouches': WHATEVER THE INPUT: true; the input reads as it did. -/
def fnExactTouchesSpec : ChangeSpec := { name := "fnExactTouches", fn := fun _ => fun
  | [d1, d2] => { results := [.lit (.bool true)], args := [d1, d2] }
  | _ => none }
def fnExactTouchesRow : OpenClaim := { program := "ytplgbjbpimbcbaa", sum := "b8b397ab2ceb3dbaeb29d44cf59ee000d1d7e6a8a27a0adf10d323382aacd0b2", func := "loop.example/g00198/laws.FnExactTouches", spec := "fnExactTouches", apart := false }
def FnExactTouchesSaid : Prop := fnExactTouchesRow.holds Try.pinned (OpenSpec.ofChange fnExactTouchesSpec)

/-- ITS FALSE NEIGHBOUR: 'it returns false'. Refute it at one input. -/
def fnExactTouchesWrong : ChangeSpec := { name := "fnExactTouches", fn := fun _ => fun
  | [d1, d2] => { results := [.lit (.bool false)], args := [d1, d2] }
  | _ => none }
def FnExactTouchesWrongFalsely : Prop := fnExactTouchesRow.holds Try.pinned (OpenSpec.ofChange fnExactTouchesWrong)

/-- 'laws.FnExactTouchesAny': WHATEVER THE INPUT: true; the input reads as it did. -/
def fnExactTouchesAnySpec : ChangeSpec := { name := "fnExactTouchesAny", fn := fun _ => fun
  | [d1, d2] => { results := [.lit (.bool true)], args := [d1, d2] }
  | _ => none }
def fnExactTouchesAnyRow : OpenClaim := { program := "ytplgbjbpimbcbaa", sum := "b8b397ab2ceb3dbaeb29d44cf59ee000d1d7e6a8a27a0adf10d323382aacd0b2", func := "loop.example/g00198/laws.FnExactTouchesAny", spec := "fnExactTouchesAny", apart := false }
def FnExactTouchesAnySaid : Prop := fnExactTouchesAnyRow.holds Try.pinned (OpenSpec.ofChange fnExactTouchesAnySpec)

/-- ITS FALSE NEIGHBOUR: 'it returns false'. Refute it at one input. -/
def fnExactTouchesAnyWrong : ChangeSpec := { name := "fnExactTouchesAny", fn := fun _ => fun
  | [d1, d2] => { results := [.lit (.bool false)], args := [d1, d2] }
  | _ => none }
def FnExactTouchesAnyWrongFalsely : Prop := fnExactTouchesAnyRow.holds Try.pinned (OpenSpec.ofChange fnExactTouchesAnyWrong)

/-- 'laws.FnExactViewSame': WHATEVER THE INPUT: true; the input reads as it did. -/
def fnExactViewSameSpec : ChangeSpec := { name := "fnExactViewSame", fn := fun _ => fun
  | [d1, d2] => { results := [.lit (.bool true)], args := [d1, d2] }
  | _ => none }
def fnExactViewSameRow : OpenClaim := { program := "ytplgbjbpimbcbaa", sum := "b8b397ab2ceb3dbaeb29d44cf59ee000d1d7e6a8a27a0adf10d323382aacd0b2", func := "loop.example/g00198/laws.FnExactViewSame", spec := "fnExactViewSame", unfollowed := true, recurses := true, apart := false }
def FnExactViewSameSaid : Prop := fnExactViewSameRow.holds Try.pinned (OpenSpec.ofChange fnExactViewSameSpec)

/-- ITS FALSE NEIGHBOUR: 'it returns false'. Refute it at one input. -/
def fnExactViewSameWrong : ChangeSpec := { name := "fnExactViewSame", fn := fun _ => fun
  | [d1, d2] => { results := [.lit (.bool false)], args := [d1, d2] }
  | _ => none }
def FnExactViewSameWrongFalsely : Prop := fnExactViewSameRow.holds Try.pinned (OpenSpec.ofChange fnExactViewSameWrong)

/- THE SECOND FORM. 'bulk': how many values and letters a reading holds, each counted each time it is reached (what is shared counts as often as it is met; a slice's spare places count too). A statement '..UptoSaid' is the law's where the arguments, and the package variables that the reading takes, are together of bulk at most 1048576: NARROWER than '..Said'. Prove '..Said' where nothing that the law and all that it calls make is longer than what came in: it says more and counts as full. Else prove '..UptoSaid'. A law counts once. -/
mutual
def uptoBulk {H : Type} : DataW H → Nat
  | .lit (.string bytes) => bytes.length + 1
  | .lit _ => 1
  | .nil => 1
  | .ptr d => uptoBulk d + 1
  | .slice elems spare => uptoBulkAll elems + uptoBulkAll spare + 1
  | .agg parts => uptoBulkAll parts + 1
  | .iface _ d => uptoBulk d + 1
  | .map entries => uptoBulkEntries entries + 1
  | .held _ => 1
def uptoBulkAll {H : Type} : List (DataW H) → Nat
  | [] => 0
  | d :: r => uptoBulk d + uptoBulkAll r
def uptoBulkEntries {H : Type} : List (Lit × DataW H) → Nat
  | [] => 0
  | x :: r => uptoBulkEntry x + uptoBulkEntries r
def uptoBulkEntry {H : Type} : Lit × DataW H → Nat
  | (.string bytes, d) => bytes.length + uptoBulk d + 1
  | (_, d) => uptoBulk d + 1
 end
def uptoSmall : (H : Type) → List (DataW H) → Bool := fun _ ds => decide (uptoBulkAll ds ≤ 1048576)
def OpenSpec.upto (s : _root_.Go.ChangeSpec) : _root_.Go.OpenSpec := { _root_.Go.OpenSpec.ofChange s with cond := some uptoSmall }

/-- 'laws.FnExactQuerySame', WHERE WHAT IT READS IS OF BULK AT MOST 1048576: true; the input reads as it did. -/
def fnExactQuerySameUptoRow : OpenClaim := { program := "ytplgbjbpimbcbaa", sum := "b8b397ab2ceb3dbaeb29d44cf59ee000d1d7e6a8a27a0adf10d323382aacd0b2", func := "loop.example/g00198/laws.FnExactQuerySame", spec := "fnExactQuerySame", apart := false, narrowed := true }
def FnExactQuerySameUptoSaid : Prop := fnExactQuerySameUptoRow.holds Try.pinned (OpenSpec.upto fnExactQuerySameSpec)

/-- 'laws.FnExactAhead', WHERE WHAT IT READS IS OF BULK AT MOST 1048576: true; the input reads as it did. -/
def fnExactAheadUptoRow : OpenClaim := { program := "ytplgbjbpimbcbaa", sum := "b8b397ab2ceb3dbaeb29d44cf59ee000d1d7e6a8a27a0adf10d323382aacd0b2", func := "loop.example/g00198/laws.FnExactAhead", spec := "fnExactAhead", apart := false, narrowed := true }
def FnExactAheadUptoSaid : Prop := fnExactAheadUptoRow.holds Try.pinned (OpenSpec.upto fnExactAheadSpec)

/-- 'laws.FnExactMatches', WHERE WHAT IT READS IS OF BULK AT MOST 1048576: true; the input reads as it did. -/
def fnExactMatchesUptoRow : OpenClaim := { program := "ytplgbjbpimbcbaa", sum := "b8b397ab2ceb3dbaeb29d44cf59ee000d1d7e6a8a27a0adf10d323382aacd0b2", func := "loop.example/g00198/laws.FnExactMatches", spec := "fnExactMatches", apart := false, narrowed := true }
def FnExactMatchesUptoSaid : Prop := fnExactMatchesUptoRow.holds Try.pinned (OpenSpec.upto fnExactMatchesSpec)

/-- 'laws.FnExactQueryOk', WHERE WHAT IT READS IS OF BULK AT MOST 1048576: true; the input reads as it did. -/
def fnExactQueryOkUptoRow : OpenClaim := { program := "ytplgbjbpimbcbaa", sum := "b8b397ab2ceb3dbaeb29d44cf59ee000d1d7e6a8a27a0adf10d323382aacd0b2", func := "loop.example/g00198/laws.FnExactQueryOk", spec := "fnExactQueryOk", apart := false, narrowed := true }
def FnExactQueryOkUptoSaid : Prop := fnExactQueryOkUptoRow.holds Try.pinned (OpenSpec.upto fnExactQueryOkSpec)

/-- 'laws.FnKidPut', WHERE WHAT IT READS IS OF BULK AT MOST 1048576: true; the input reads as it did. -/
def fnKidPutUptoRow : OpenClaim := { program := "ytplgbjbpimbcbaa", sum := "b8b397ab2ceb3dbaeb29d44cf59ee000d1d7e6a8a27a0adf10d323382aacd0b2", func := "loop.example/g00198/laws.FnKidPut", spec := "fnKidPut", inPlace := ["slices.overlaps[loop.example/g00198/impl.Kid]"], apart := false, narrowed := true }
def FnKidPutUptoSaid : Prop := fnKidPutUptoRow.holds Try.pinned (OpenSpec.upto fnKidPutSpec)

/-- 'laws.FnExactKidPut', WHERE WHAT IT READS IS OF BULK AT MOST 1048576: true; the input reads as it did. -/
def fnExactKidPutUptoRow : OpenClaim := { program := "ytplgbjbpimbcbaa", sum := "b8b397ab2ceb3dbaeb29d44cf59ee000d1d7e6a8a27a0adf10d323382aacd0b2", func := "loop.example/g00198/laws.FnExactKidPut", spec := "fnExactKidPut", inPlace := ["slices.overlaps[loop.example/g00198/impl.Kid]"], apart := false, narrowed := true }
def FnExactKidPutUptoSaid : Prop := fnExactKidPutUptoRow.holds Try.pinned (OpenSpec.upto fnExactKidPutSpec)

/-- 'laws.FnMatches', WHERE WHAT IT READS IS OF BULK AT MOST 1048576: true; the input reads as it did. -/
def fnMatchesUptoRow : OpenClaim := { program := "ytplgbjbpimbcbaa", sum := "b8b397ab2ceb3dbaeb29d44cf59ee000d1d7e6a8a27a0adf10d323382aacd0b2", func := "loop.example/g00198/laws.FnMatches", spec := "fnMatches", apart := false, narrowed := true }
def FnMatchesUptoSaid : Prop := fnMatchesUptoRow.holds Try.pinned (OpenSpec.upto fnMatchesSpec)

/-- 'laws.FnAhead', WHERE WHAT IT READS IS OF BULK AT MOST 1048576: true; the input reads as it did. -/
def fnAheadUptoRow : OpenClaim := { program := "ytplgbjbpimbcbaa", sum := "b8b397ab2ceb3dbaeb29d44cf59ee000d1d7e6a8a27a0adf10d323382aacd0b2", func := "loop.example/g00198/laws.FnAhead", spec := "fnAhead", apart := false, narrowed := true }
def FnAheadUptoSaid : Prop := fnAheadUptoRow.holds Try.pinned (OpenSpec.upto fnAheadSpec)

/-- 'laws.FnExactKidsIn', WHERE WHAT IT READS IS OF BULK AT MOST 1048576: true; the input reads as it did. -/
def fnExactKidsInUptoRow : OpenClaim := { program := "ytplgbjbpimbcbaa", sum := "b8b397ab2ceb3dbaeb29d44cf59ee000d1d7e6a8a27a0adf10d323382aacd0b2", func := "loop.example/g00198/laws.FnExactKidsIn", spec := "fnExactKidsIn", apart := false, narrowed := true }
def FnExactKidsInUptoSaid : Prop := fnExactKidsInUptoRow.holds Try.pinned (OpenSpec.upto fnExactKidsInSpec)

/-- 'laws.FnExactTouches', WHERE WHAT IT READS IS OF BULK AT MOST 1048576: true; the input reads as it did. -/
def fnExactTouchesUptoRow : OpenClaim := { program := "ytplgbjbpimbcbaa", sum := "b8b397ab2ceb3dbaeb29d44cf59ee000d1d7e6a8a27a0adf10d323382aacd0b2", func := "loop.example/g00198/laws.FnExactTouches", spec := "fnExactTouches", apart := false, narrowed := true }
def FnExactTouchesUptoSaid : Prop := fnExactTouchesUptoRow.holds Try.pinned (OpenSpec.upto fnExactTouchesSpec)

/-- 'laws.FnExactTouchesAny', WHERE WHAT IT READS IS OF BULK AT MOST 1048576: true; the input reads as it did. -/
def fnExactTouchesAnyUptoRow : OpenClaim := { program := "ytplgbjbpimbcbaa", sum := "b8b397ab2ceb3dbaeb29d44cf59ee000d1d7e6a8a27a0adf10d323382aacd0b2", func := "loop.example/g00198/laws.FnExactTouchesAny", spec := "fnExactTouchesAny", apart := false, narrowed := true }
def FnExactTouchesAnyUptoSaid : Prop := fnExactTouchesAnyUptoRow.holds Try.pinned (OpenSpec.upto fnExactTouchesAnySpec)

/-- 'laws.FnExactViewSame', WHERE WHAT IT READS IS OF BULK AT MOST 1048576: true; the input reads as it did. -/
def fnExactViewSameUptoRow : OpenClaim := { program := "ytplgbjbpimbcbaa", sum := "b8b397ab2ceb3dbaeb29d44cf59ee000d1d7e6a8a27a0adf10d323382aacd0b2", func := "loop.example/g00198/laws.FnExactViewSame", spec := "fnExactViewSame", unfollowed := true, recurses := true, apart := false, narrowed := true }
def FnExactViewSameUptoSaid : Prop := fnExactViewSameUptoRow.holds Try.pinned (OpenSpec.upto fnExactViewSameSpec)

end Rows
end Go.Proofs.Ytplgbjbpimbcbaa
