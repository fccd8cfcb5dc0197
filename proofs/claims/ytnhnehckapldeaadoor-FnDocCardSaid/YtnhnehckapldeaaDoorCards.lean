/-
  DERIVED. GIVEN WITH THE SEED: THE CARDS: each row of YtnhnehckapldeaaDoorRows.lean that lists a variable, with what it lists TIED to the program's text (the seventh form; the later family's looks); each row that meets fmt, with fmt's text TOLD by the authors' own Lean function (tested against real Go, not proved from fmt's source: count such statements apart). THE CARD IS WHAT COUNTS. Prove the row's statement (the work); the ties are given (YtnhnehckapldeaaDoorTie.lean); close each card by the builder's one call (the guide's Derived/Test/ToyasCard.lean, 'card_holds'). Laid BY PROGRAM, IN A SANDBOX (cutbox-door.mjs). By AI agents, Wed Nov 11 2026. No macro, syntax, notation, axiom, sorry.
-/
import Derived.Test.YtnhnehckapldeaaDoorRows
import GoSem.ClaimSeven
namespace Go.Proofs.YtnhnehckapldeaaDoor
namespace Rows

/-- THE TIED CARD OF 'laws.FnDoc'. -/
def fnDocCard : Claim7 := { stood := { row := fnDocRow, standIns := [], harness := (true, "530f14074f09f3fb9405779b9397690ac8f88c2e109466a177667fc525e1c1d9"), looks := false }, kinds := [], alts := [], laidByText := true, laidKinds := [.data, .data, .data], laidTests := true, laidLooks := .later }
def FnDocCardSaid : Prop := Claim7.holds Tryd.pinned (.plain (OpenSpec.ofChange fnDocSpec)) fnDocCard

/-- THE TIED CARD OF 'laws.FnKids'. -/
def fnKidsCard : Claim7 := { stood := { row := fnKidsRow, standIns := [], harness := (true, "530f14074f09f3fb9405779b9397690ac8f88c2e109466a177667fc525e1c1d9"), looks := false }, kinds := [], alts := [], laidByText := true, laidKinds := [.data, .data, .data], laidTests := true, laidLooks := .later }
def FnKidsCardSaid : Prop := Claim7.holds Tryd.pinned (.plain (OpenSpec.ofChange fnKidsSpec)) fnKidsCard

/-- THE SECOND FORM's CARD OF 'laws.FnDoc'. -/
def fnDocUptoCard : Claim7 := { stood := { row := fnDocUptoRow, standIns := [], harness := (true, "530f14074f09f3fb9405779b9397690ac8f88c2e109466a177667fc525e1c1d9"), looks := false }, kinds := [], alts := [], laidByText := true, laidKinds := [.data, .data, .data], laidTests := true, laidLooks := .later }
def FnDocUptoCardSaid : Prop := Claim7.holds Tryd.pinned (.plain (OpenSpec.upto fnDocSpec)) fnDocUptoCard

/-- THE SECOND FORM's CARD OF 'laws.FnKids'. -/
def fnKidsUptoCard : Claim7 := { stood := { row := fnKidsUptoRow, standIns := [], harness := (true, "530f14074f09f3fb9405779b9397690ac8f88c2e109466a177667fc525e1c1d9"), looks := false }, kinds := [], alts := [], laidByText := true, laidKinds := [.data, .data, .data], laidTests := true, laidLooks := .later }
def FnKidsUptoCardSaid : Prop := Claim7.holds Tryd.pinned (.plain (OpenSpec.upto fnKidsSpec)) fnKidsUptoCard
end Rows
end Go.Proofs.YtnhnehckapldeaaDoor
