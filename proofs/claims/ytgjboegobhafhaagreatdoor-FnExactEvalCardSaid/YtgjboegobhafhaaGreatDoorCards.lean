/-
  DERIVED. GIVEN WITH THE SEED: THE CARDS: each row of YtgjboegobhafhaaGreatDoorRows.lean that lists a variable, with what it lists TIED to the program's text (the seventh form; the later family's looks); each row that meets fmt, with fmt's text TOLD by the authors' own Lean function (tested against real Go, not proved from fmt's source: count such statements apart). THE CARD IS WHAT COUNTS. Prove the row's statement (the work); the ties are given (YtgjboegobhafhaaGreatDoorTie.lean); close each card by the builder's one call (the guide's Derived/Test/ToyasCard.lean, 'card_holds'). Laid BY PROGRAM, IN A SANDBOX (cutbox-door.mjs). By AI agents, Wed Nov 11 2026. No macro, syntax, notation, axiom, sorry.
-/
import Derived.Test.YtgjboegobhafhaaGreatDoorRows
import GoSem.ClaimSeven
namespace Go.Proofs.YtgjboegobhafhaaGreatDoor
namespace Rows

/-- THE TIED CARD OF 'laws.FnExactViewDoc'. -/
def fnExactViewDocCard : Claim7 := { stood := { row := fnExactViewDocRow, standIns := [], harness := (true, "5b574b3cb04f2d44402a64e9e5abf91820e47dd9d703c38bec8bfa76d631a905"), looks := false }, kinds := [], alts := [], laidByText := true, laidKinds := [.data, .data, .data], laidTests := true, laidLooks := .later }
def FnExactViewDocCardSaid : Prop := Claim7.holds Tryz.pinned (.plain (OpenSpec.ofChange fnExactViewDocSpec)) fnExactViewDocCard

/-- THE TIED CARD OF 'laws.FnExactEval'. -/
def fnExactEvalCard : Claim7 := { stood := { row := fnExactEvalRow, standIns := [], harness := (true, "5b574b3cb04f2d44402a64e9e5abf91820e47dd9d703c38bec8bfa76d631a905"), looks := false }, kinds := [], alts := [], laidByText := true, laidKinds := [.data, .data, .data], laidTests := true, laidLooks := .later }
def FnExactEvalCardSaid : Prop := Claim7.holds Tryz.pinned (.plain (OpenSpec.ofChange fnExactEvalSpec)) fnExactEvalCard

/-- THE SECOND FORM's CARD OF 'laws.FnExactViewDoc'. -/
def fnExactViewDocUptoCard : Claim7 := { stood := { row := fnExactViewDocUptoRow, standIns := [], harness := (true, "5b574b3cb04f2d44402a64e9e5abf91820e47dd9d703c38bec8bfa76d631a905"), looks := false }, kinds := [], alts := [], laidByText := true, laidKinds := [.data, .data, .data], laidTests := true, laidLooks := .later }
def FnExactViewDocUptoCardSaid : Prop := Claim7.holds Tryz.pinned (.plain (OpenSpec.upto fnExactViewDocSpec)) fnExactViewDocUptoCard

/-- THE SECOND FORM's CARD OF 'laws.FnExactEval'. -/
def fnExactEvalUptoCard : Claim7 := { stood := { row := fnExactEvalUptoRow, standIns := [], harness := (true, "5b574b3cb04f2d44402a64e9e5abf91820e47dd9d703c38bec8bfa76d631a905"), looks := false }, kinds := [], alts := [], laidByText := true, laidKinds := [.data, .data, .data], laidTests := true, laidLooks := .later }
def FnExactEvalUptoCardSaid : Prop := Claim7.holds Tryz.pinned (.plain (OpenSpec.upto fnExactEvalSpec)) fnExactEvalUptoCard
end Rows
end Go.Proofs.YtgjboegobhafhaaGreatDoor
