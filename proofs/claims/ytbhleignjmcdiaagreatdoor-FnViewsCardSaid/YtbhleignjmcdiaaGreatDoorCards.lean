/-
  DERIVED. GIVEN WITH THE SEED: THE CARDS: each row of YtbhleignjmcdiaaGreatDoorRows.lean that lists a variable, with what it lists TIED to the program's text (the seventh form; the later family's looks); each row that meets fmt, with fmt's text TOLD by the authors' own Lean function (tested against real Go, not proved from fmt's source: count such statements apart). THE CARD IS WHAT COUNTS. Prove the row's statement (the work); the ties are given (YtbhleignjmcdiaaGreatDoorTie.lean); close each card by the builder's one call (the guide's Derived/Test/ToyasCard.lean, 'card_holds'). Laid BY PROGRAM, IN A SANDBOX (cutbox-door.mjs). By AI agents, Wed Nov 11 2026. No macro, syntax, notation, axiom, sorry.
-/
import Derived.Test.YtbhleignjmcdiaaGreatDoorRows
import GoSem.ClaimSeven
namespace Go.Proofs.YtbhleignjmcdiaaGreatDoor
namespace Rows

/-- THE TIED CARD OF 'laws.FnUntouched'. -/
def fnUntouchedCard : Claim7 := { stood := { row := fnUntouchedRow, standIns := [], harness := (true, "5e41248319d988027dbc0de08824cd932eb2a42a3270df69fffc0166269b3525"), looks := false }, kinds := [], alts := [], laidByText := true, laidKinds := [.data, .data, .data], laidTests := true, laidLooks := .later }
def FnUntouchedCardSaid : Prop := Claim7.holds Tryz.pinned (.plain (OpenSpec.ofChange fnUntouchedSpec)) fnUntouchedCard

/-- THE TIED CARD OF 'laws.FnAnswer'. -/
def fnAnswerCard : Claim7 := { stood := { row := fnAnswerRow, standIns := [], harness := (true, "5e41248319d988027dbc0de08824cd932eb2a42a3270df69fffc0166269b3525"), looks := false }, kinds := [], alts := [], laidByText := true, laidKinds := [.data, .data, .data], laidTests := true, laidLooks := .later }
def FnAnswerCardSaid : Prop := Claim7.holds Tryz.pinned (.plain (OpenSpec.ofChange fnAnswerSpec)) fnAnswerCard

/-- THE TIED CARD OF 'laws.FnViews'. -/
def fnViewsCard : Claim7 := { stood := { row := fnViewsRow, standIns := [], harness := (true, "5e41248319d988027dbc0de08824cd932eb2a42a3270df69fffc0166269b3525"), looks := false }, kinds := [], alts := [], laidByText := true, laidKinds := [.data, .data, .data], laidTests := true, laidLooks := .later }
def FnViewsCardSaid : Prop := Claim7.holds Tryz.pinned (.plain (OpenSpec.ofChange fnViewsSpec)) fnViewsCard

/-- THE SECOND FORM's CARD OF 'laws.FnUntouched'. -/
def fnUntouchedUptoCard : Claim7 := { stood := { row := fnUntouchedUptoRow, standIns := [], harness := (true, "5e41248319d988027dbc0de08824cd932eb2a42a3270df69fffc0166269b3525"), looks := false }, kinds := [], alts := [], laidByText := true, laidKinds := [.data, .data, .data], laidTests := true, laidLooks := .later }
def FnUntouchedUptoCardSaid : Prop := Claim7.holds Tryz.pinned (.plain (OpenSpec.upto fnUntouchedSpec)) fnUntouchedUptoCard

/-- THE SECOND FORM's CARD OF 'laws.FnAnswer'. -/
def fnAnswerUptoCard : Claim7 := { stood := { row := fnAnswerUptoRow, standIns := [], harness := (true, "5e41248319d988027dbc0de08824cd932eb2a42a3270df69fffc0166269b3525"), looks := false }, kinds := [], alts := [], laidByText := true, laidKinds := [.data, .data, .data], laidTests := true, laidLooks := .later }
def FnAnswerUptoCardSaid : Prop := Claim7.holds Tryz.pinned (.plain (OpenSpec.upto fnAnswerSpec)) fnAnswerUptoCard

/-- THE SECOND FORM's CARD OF 'laws.FnViews'. -/
def fnViewsUptoCard : Claim7 := { stood := { row := fnViewsUptoRow, standIns := [], harness := (true, "5e41248319d988027dbc0de08824cd932eb2a42a3270df69fffc0166269b3525"), looks := false }, kinds := [], alts := [], laidByText := true, laidKinds := [.data, .data, .data], laidTests := true, laidLooks := .later }
def FnViewsUptoCardSaid : Prop := Claim7.holds Tryz.pinned (.plain (OpenSpec.upto fnViewsSpec)) fnViewsUptoCard
end Rows
end Go.Proofs.YtbhleignjmcdiaaGreatDoor
