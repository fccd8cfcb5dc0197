/-
  DERIVED. GIVEN WITH THE SEED: THE CARDS: each row of YtcpekllcbimpmaaDoorRows.lean that lists a variable, with what it lists TIED to the program's text (the seventh form; the later family's looks); each row that meets fmt, with fmt's text TOLD by the authors' own Lean function (tested against real Go, not proved from fmt's source: count such statements apart). THE CARD IS WHAT COUNTS. Prove the row's statement (the work); the ties are given (YtcpekllcbimpmaaDoorTie.lean); close each card by the builder's one call (the guide's Derived/Test/ToyasCard.lean, 'card_holds'). Laid BY PROGRAM, IN A SANDBOX (cutbox-door.mjs). By AI agents, Wed Nov 11 2026. No macro, syntax, notation, axiom, sorry.
-/
import Derived.Test.YtcpekllcbimpmaaDoorRows
import GoSem.ClaimSeven
namespace Go.Proofs.YtcpekllcbimpmaaDoor
namespace Rows

/-- THE TIED CARD OF 'laws.FnExactQueryText'. -/
def fnExactQueryTextCard : Claim7 := { stood := { row := fnExactQueryTextRow, standIns := [], harness := (true, "5976cdfd594282034e236a846434393a0f15e04424f3ca4dc2c24e0f49dfd837"), looks := true }, kinds := [], alts := [], laidByText := true, laidKinds := [.data, .data, .data], laidTests := true, laidLooks := .later }
def FnExactQueryTextCardSaid : Prop := Claim7.holds Tryd.pinned (.plain (OpenSpec.ofChange fnExactQueryTextSpec)) fnExactQueryTextCard

/-- THE TIED CARD OF 'laws.FnExactQueryRead'. -/
def fnExactQueryReadCard : Claim7 := { stood := { row := fnExactQueryReadRow, standIns := [], harness := (true, "5976cdfd594282034e236a846434393a0f15e04424f3ca4dc2c24e0f49dfd837"), looks := true }, kinds := [], alts := [], laidByText := true, laidKinds := [.data, .data, .data, .data, .sentinel, .sentinel, .pinned], laidTests := true, laidLooks := .later }
def FnExactQueryReadCardSaid : Prop := Claim7.holds Tryd.pinned (.plain (OpenSpec.ofChange fnExactQueryReadSpec)) fnExactQueryReadCard

/-- THE TIED CARD OF 'laws.FnExactDecode'. -/
def fnExactDecodeCard : Claim7 := { stood := { row := fnExactDecodeRow, standIns := [], harness := (true, "5976cdfd594282034e236a846434393a0f15e04424f3ca4dc2c24e0f49dfd837"), looks := true }, kinds := [], alts := [], laidByText := true, laidKinds := [.data, .data, .data, .sentinel, .sentinel], laidTests := true, laidLooks := .later }
def FnExactDecodeCardSaid : Prop := Claim7.holds Tryd.pinned (.plain (OpenSpec.ofChange fnExactDecodeSpec)) fnExactDecodeCard

/-- THE TIED CARD OF 'laws.FnQuestion'. -/
def fnQuestionCard : Claim7 := { stood := { row := fnQuestionRow, standIns := [], harness := (true, "5976cdfd594282034e236a846434393a0f15e04424f3ca4dc2c24e0f49dfd837"), looks := true }, kinds := [], alts := [], laidByText := true, laidKinds := [.data, .data, .data, .data, .sentinel, .sentinel, .pinned], laidTests := true, laidLooks := .later }
def FnQuestionCardSaid : Prop := Claim7.holds Tryd.pinned (.plain (OpenSpec.ofChange fnQuestionSpec)) fnQuestionCard

/-- THE SECOND FORM's CARD OF 'laws.FnExactQueryText'. -/
def fnExactQueryTextUptoCard : Claim7 := { stood := { row := fnExactQueryTextUptoRow, standIns := [], harness := (true, "5976cdfd594282034e236a846434393a0f15e04424f3ca4dc2c24e0f49dfd837"), looks := true }, kinds := [], alts := [], laidByText := true, laidKinds := [.data, .data, .data], laidTests := true, laidLooks := .later }
def FnExactQueryTextUptoCardSaid : Prop := Claim7.holds Tryd.pinned (.plain (OpenSpec.upto fnExactQueryTextSpec)) fnExactQueryTextUptoCard

/-- THE SECOND FORM's CARD OF 'laws.FnExactQueryRead'. -/
def fnExactQueryReadUptoCard : Claim7 := { stood := { row := fnExactQueryReadUptoRow, standIns := [], harness := (true, "5976cdfd594282034e236a846434393a0f15e04424f3ca4dc2c24e0f49dfd837"), looks := true }, kinds := [], alts := [], laidByText := true, laidKinds := [.data, .data, .data, .data, .sentinel, .sentinel, .pinned], laidTests := true, laidLooks := .later }
def FnExactQueryReadUptoCardSaid : Prop := Claim7.holds Tryd.pinned (.plain (OpenSpec.upto fnExactQueryReadSpec)) fnExactQueryReadUptoCard

/-- THE SECOND FORM's CARD OF 'laws.FnExactDecode'. -/
def fnExactDecodeUptoCard : Claim7 := { stood := { row := fnExactDecodeUptoRow, standIns := [], harness := (true, "5976cdfd594282034e236a846434393a0f15e04424f3ca4dc2c24e0f49dfd837"), looks := true }, kinds := [], alts := [], laidByText := true, laidKinds := [.data, .data, .data, .sentinel, .sentinel], laidTests := true, laidLooks := .later }
def FnExactDecodeUptoCardSaid : Prop := Claim7.holds Tryd.pinned (.plain (OpenSpec.upto fnExactDecodeSpec)) fnExactDecodeUptoCard

/-- THE SECOND FORM's CARD OF 'laws.FnQuestion'. -/
def fnQuestionUptoCard : Claim7 := { stood := { row := fnQuestionUptoRow, standIns := [], harness := (true, "5976cdfd594282034e236a846434393a0f15e04424f3ca4dc2c24e0f49dfd837"), looks := true }, kinds := [], alts := [], laidByText := true, laidKinds := [.data, .data, .data, .data, .sentinel, .sentinel, .pinned], laidTests := true, laidLooks := .later }
def FnQuestionUptoCardSaid : Prop := Claim7.holds Tryd.pinned (.plain (OpenSpec.upto fnQuestionSpec)) fnQuestionUptoCard
end Rows
end Go.Proofs.YtcpekllcbimpmaaDoor
