/-
  No cell of these rows narrows 'for every input' (looked for: loops, veiled, ifaces, maps, wideKeys, modest, calm, conditions, laid).
  DERIVED. THE GIVEN ROWS OF THIS SEAT. 2 by the template 'for every input the law returns true; each argument reads behind the call as it read before'; 0 by the template 'total and deterministic' (their statements: YtgicjbeaomjdgaaTotals.lean).
  GIVEN WITH THE SEED: the statements are not yours to turn. If you find one false, say at which input.
  Laid BY PROGRAM, IN A SANDBOX (cutbox-rows.mjs): the forced cells as the released guide's own fill.sh prints them over the translation 166e9db49364f3e5… (all of the seat's roots in one cut). By AI agents, Wed Nov 11 2026. No macro, syntax, notation, axiom, sorry.
-/
import Derived.Test.YtgicjbeaomjdgaaChecked
import GoSem.Claim
import GoSem.ClaimJoined
import GoSem.ClaimMapViews
import Derived.JoinedTies
import Derived.KernelRfl
namespace Go.Proofs.Ytgicjbeaomjdgaa
/- THE CELL 'sum', in the pinned program and in every row, IS THE sha256 OF THE DUMP (.gsa) THAT YtgicjbeaomjdgaaProg.lean LOADS. Nothing in Lean hashes anything: it is a label: what it is worth is what the hold of that sum in a sandbox is worth. -/
noncomputable def Try.pinned : Pinned := { name := "ytgicjbeaomjdgaa", sum := "166e9db49364f3e532166d4025aed0721fb4e8a5bfd2c3e8c0a8c2361bc1c001", checked := Try.checked }
namespace Rows
def none {H : Type} : Left H := { results := [], args := [] }

/-- 'laws.FnExactRowsFor': WHATEVER THE INPUT: true; the input reads as it did. -/
def fnExactRowsForSpec : ChangeSpec := { name := "fnExactRowsFor", fn := fun _ => fun
  | [d1, d2] => { results := [.lit (.bool true)], args := [d1, d2] }
  | _ => none }
def fnExactRowsForRow : OpenClaim := { program := "ytgicjbeaomjdgaa", sum := "166e9db49364f3e532166d4025aed0721fb4e8a5bfd2c3e8c0a8c2361bc1c001", func := "loop.example/g00198/laws.FnExactRowsFor", spec := "fnExactRowsFor", unfollowed := true, recurses := true, apart := false }
def FnExactRowsForSaid : Prop := fnExactRowsForRow.holds Try.pinned (OpenSpec.ofChange fnExactRowsForSpec)

/-- ITS FALSE NEIGHBOUR: 'it returns false'. Refute it at one input. -/
def fnExactRowsForWrong : ChangeSpec := { name := "fnExactRowsFor", fn := fun _ => fun
  | [d1, d2] => { results := [.lit (.bool false)], args := [d1, d2] }
  | _ => none }
def FnExactRowsForWrongFalsely : Prop := fnExactRowsForRow.holds Try.pinned (OpenSpec.ofChange fnExactRowsForWrong)

/-- 'laws.FnExactViewOf': WHATEVER THE INPUT: true; the input reads as it did. -/
def fnExactViewOfSpec : ChangeSpec := { name := "fnExactViewOf", fn := fun _ => fun
  | [d1, d2] => { results := [.lit (.bool true)], args := [d1, d2] }
  | _ => none }
def fnExactViewOfRow : OpenClaim := { program := "ytgicjbeaomjdgaa", sum := "166e9db49364f3e532166d4025aed0721fb4e8a5bfd2c3e8c0a8c2361bc1c001", func := "loop.example/g00198/laws.FnExactViewOf", spec := "fnExactViewOf", inPlace := ["slices.overlaps[loop.example/g00198/impl.Kid]"], unfollowed := true, recurses := true, apart := false }
def FnExactViewOfSaid : Prop := fnExactViewOfRow.holds Try.pinned (OpenSpec.ofChange fnExactViewOfSpec)

/-- ITS FALSE NEIGHBOUR: 'it returns false'. Refute it at one input. -/
def fnExactViewOfWrong : ChangeSpec := { name := "fnExactViewOf", fn := fun _ => fun
  | [d1, d2] => { results := [.lit (.bool false)], args := [d1, d2] }
  | _ => none }
def FnExactViewOfWrongFalsely : Prop := fnExactViewOfRow.holds Try.pinned (OpenSpec.ofChange fnExactViewOfWrong)

/- THE SECOND FORM. 'bulk': how many values and letters a reading holds, each counted each time it is reached (what is shared counts as often as it is met; a slice's spare places count too). A statement '..UptoSaid' is the law's where the arguments, and the package variables that the reading takes, are together of bulk at most 1048576: NARROWER than '..Said'. Prove '..Said' where nothing that the law and all that it calls make is longer than what came in: it says more and counts as full. Else prove '..UptoSaid'. A law counts once. -/
mutual
def uptoBulk {H : Type} : DataW H → Nat
  | .lit (.string bytes) => bytes.length + 1
  | .lit _ => 1
  | .nil => 1
  | .ptr d => uptoBulk d + 1
  | .slice elems spare => uptoBulkAll elems + uptoBulkAll spare + 1
  | .agg parts => uptoBulkAll parts + 1
  | .iface _ d => uptoBulk d + 1
  | .map entries => uptoBulkEntries entries + 1
  | .held _ => 1
def uptoBulkAll {H : Type} : List (DataW H) → Nat
  | [] => 0
  | d :: r => uptoBulk d + uptoBulkAll r
def uptoBulkEntries {H : Type} : List (Lit × DataW H) → Nat
  | [] => 0
  | x :: r => uptoBulkEntry x + uptoBulkEntries r
def uptoBulkEntry {H : Type} : Lit × DataW H → Nat
  | (.string bytes, d) => bytes.length + uptoBulk d + 1
  | (_, d) => uptoBulk d + 1
 end
def uptoSmall : (H : Type) → List (DataW H) → Bool := fun _ ds => decide (uptoBulkAll ds ≤ 1048576)
def OpenSpec.upto (s : _root_.Go.ChangeSpec) : _root_.Go.OpenSpec := { _root_.Go.OpenSpec.ofChange s with cond := some uptoSmall }

/-- 'laws.FnExactRowsFor', WHERE WHAT IT READS IS OF BULK AT MOST 1048576: true; the input reads as it did. -/
def fnExactRowsForUptoRow : OpenClaim := { program := "ytgicjbeaomjdgaa", sum := "166e9db49364f3e532166d4025aed0721fb4e8a5bfd2c3e8c0a8c2361bc1c001", func := "loop.example/g00198/laws.FnExactRowsFor", spec := "fnExactRowsFor", unfollowed := true, recurses := true, apart := false, narrowed := true }
def FnExactRowsForUptoSaid : Prop := fnExactRowsForUptoRow.holds Try.pinned (OpenSpec.upto fnExactRowsForSpec)

/-- 'laws.FnExactViewOf', WHERE WHAT IT READS IS OF BULK AT MOST 1048576: true; the input reads as it did. -/
def fnExactViewOfUptoRow : OpenClaim := { program := "ytgicjbeaomjdgaa", sum := "166e9db49364f3e532166d4025aed0721fb4e8a5bfd2c3e8c0a8c2361bc1c001", func := "loop.example/g00198/laws.FnExactViewOf", spec := "fnExactViewOf", inPlace := ["slices.overlaps[loop.example/g00198/impl.Kid]"], unfollowed := true, recurses := true, apart := false, narrowed := true }
def FnExactViewOfUptoSaid : Prop := fnExactViewOfUptoRow.holds Try.pinned (OpenSpec.upto fnExactViewOfSpec)

end Rows
end Go.Proofs.Ytgicjbeaomjdgaa
