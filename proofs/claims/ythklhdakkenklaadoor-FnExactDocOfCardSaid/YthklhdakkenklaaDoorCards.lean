/-
  DERIVED. GIVEN WITH THE SEED: THE CARDS: each row of YthklhdakkenklaaDoorRows.lean that lists a variable, with what it lists TIED to the program's text (the seventh form; the later family's looks); each row that meets fmt, with fmt's text TOLD by the authors' own Lean function (tested against real Go, not proved from fmt's source: count such statements apart). THE CARD IS WHAT COUNTS. Prove the row's statement (the work); the ties are given (YthklhdakkenklaaDoorTie.lean); close each card by the builder's one call (the guide's Derived/Test/ToyasCard.lean, 'card_holds'). Laid BY PROGRAM, IN A SANDBOX (cutbox-door.mjs). By AI agents, Wed Nov 11 2026. No macro, syntax, notation, axiom, sorry.
-/
import Derived.Test.YthklhdakkenklaaDoorRows
import GoSem.ClaimSeven
namespace Go.Proofs.YthklhdakkenklaaDoor
namespace Rows

/-- THE TIED CARD OF 'laws.FnExactRowDoc'. -/
def fnExactRowDocCard : Claim7 := { stood := { row := fnExactRowDocRow, standIns := [], harness := (true, "76f01b2c0698c058764682975d96e495743801bd12c705fa32bd0604a3b7dde2"), looks := false }, kinds := [], alts := [], laidByText := true, laidKinds := [.data, .data, .data], laidTests := true, laidLooks := .later }
def FnExactRowDocCardSaid : Prop := Claim7.holds Tryd.pinned (.plain (OpenSpec.ofChange fnExactRowDocSpec)) fnExactRowDocCard

/-- THE TIED CARD OF 'laws.FnExactDocOf'. -/
def fnExactDocOfCard : Claim7 := { stood := { row := fnExactDocOfRow, standIns := [], harness := (true, "76f01b2c0698c058764682975d96e495743801bd12c705fa32bd0604a3b7dde2"), looks := false }, kinds := [], alts := [], laidByText := true, laidKinds := [.data, .data, .data], laidTests := true, laidLooks := .later }
def FnExactDocOfCardSaid : Prop := Claim7.holds Tryd.pinned (.plain (OpenSpec.ofChange fnExactDocOfSpec)) fnExactDocOfCard

/-- THE SECOND FORM's CARD OF 'laws.FnExactRowDoc'. -/
def fnExactRowDocUptoCard : Claim7 := { stood := { row := fnExactRowDocUptoRow, standIns := [], harness := (true, "76f01b2c0698c058764682975d96e495743801bd12c705fa32bd0604a3b7dde2"), looks := false }, kinds := [], alts := [], laidByText := true, laidKinds := [.data, .data, .data], laidTests := true, laidLooks := .later }
def FnExactRowDocUptoCardSaid : Prop := Claim7.holds Tryd.pinned (.plain (OpenSpec.upto fnExactRowDocSpec)) fnExactRowDocUptoCard

/-- THE SECOND FORM's CARD OF 'laws.FnExactDocOf'. -/
def fnExactDocOfUptoCard : Claim7 := { stood := { row := fnExactDocOfUptoRow, standIns := [], harness := (true, "76f01b2c0698c058764682975d96e495743801bd12c705fa32bd0604a3b7dde2"), looks := false }, kinds := [], alts := [], laidByText := true, laidKinds := [.data, .data, .data], laidTests := true, laidLooks := .later }
def FnExactDocOfUptoCardSaid : Prop := Claim7.holds Tryd.pinned (.plain (OpenSpec.upto fnExactDocOfSpec)) fnExactDocOfUptoCard
end Rows
end Go.Proofs.YthklhdakkenklaaDoor
