/-
  DERIVED. GIVEN WITH THE SEED: THE CARDS: each row of YtdnfefkkbckmgaaGreatDoorRows.lean that lists a variable, with what it lists TIED to the program's text (the seventh form; the later family's looks); each row that meets fmt, with fmt's text TOLD by the authors' own Lean function (tested against real Go, not proved from fmt's source: count such statements apart). THE CARD IS WHAT COUNTS. Prove the row's statement (the work); the ties are given (YtdnfefkkbckmgaaGreatDoorTie.lean); close each card by the builder's one call (the guide's Derived/Test/ToyasCard.lean, 'card_holds'). Laid BY PROGRAM, IN A SANDBOX (cutbox-door.mjs). By AI agents, Wed Nov 11 2026. No macro, syntax, notation, axiom, sorry.
-/
import Derived.Test.YtdnfefkkbckmgaaGreatDoorRows
import GoSem.ClaimSeven
namespace Go.Proofs.YtdnfefkkbckmgaaGreatDoor
namespace Rows

/-- THE TIED CARD OF 'laws.FnExactReadPadic'. -/
def fnExactReadPadicCard : Claim7 := { stood := { row := fnExactReadPadicRow, standIns := [], harness := (true, "44ef9eed6895ce6a35d6feadd05b9ad320dadf02ee8a07e7685fa50825c6fa30"), looks := true }, kinds := [], alts := [], laidByText := true, laidKinds := [.data, .data, .data, .data, .sentinel, .sentinel, .pinned], laidTests := true, laidLooks := .later }
def FnExactReadPadicCardSaid : Prop := Claim7.holds Tryz.pinned (.plain (OpenSpec.ofChange fnExactReadPadicSpec)) fnExactReadPadicCard

/-- THE TIED CARD OF 'laws.FnPadicTexts'. -/
def fnPadicTextsCard : Claim7 := { stood := { row := fnPadicTextsRow, standIns := [], harness := (true, "44ef9eed6895ce6a35d6feadd05b9ad320dadf02ee8a07e7685fa50825c6fa30"), looks := true }, kinds := [], alts := [], laidByText := true, laidKinds := [.data, .data, .data, .data, .sentinel, .sentinel, .pinned], laidTests := true, laidLooks := .later }
def FnPadicTextsCardSaid : Prop := Claim7.holds Tryz.pinned (.plain (OpenSpec.ofChange fnPadicTextsSpec)) fnPadicTextsCard

/-- THE SECOND FORM's CARD OF 'laws.FnExactReadPadic'. -/
def fnExactReadPadicUptoCard : Claim7 := { stood := { row := fnExactReadPadicUptoRow, standIns := [], harness := (true, "44ef9eed6895ce6a35d6feadd05b9ad320dadf02ee8a07e7685fa50825c6fa30"), looks := true }, kinds := [], alts := [], laidByText := true, laidKinds := [.data, .data, .data, .data, .sentinel, .sentinel, .pinned], laidTests := true, laidLooks := .later }
def FnExactReadPadicUptoCardSaid : Prop := Claim7.holds Tryz.pinned (.plain (OpenSpec.upto fnExactReadPadicSpec)) fnExactReadPadicUptoCard

/-- THE SECOND FORM's CARD OF 'laws.FnPadicTexts'. -/
def fnPadicTextsUptoCard : Claim7 := { stood := { row := fnPadicTextsUptoRow, standIns := [], harness := (true, "44ef9eed6895ce6a35d6feadd05b9ad320dadf02ee8a07e7685fa50825c6fa30"), looks := true }, kinds := [], alts := [], laidByText := true, laidKinds := [.data, .data, .data, .data, .sentinel, .sentinel, .pinned], laidTests := true, laidLooks := .later }
def FnPadicTextsUptoCardSaid : Prop := Claim7.holds Tryz.pinned (.plain (OpenSpec.upto fnPadicTextsSpec)) fnPadicTextsUptoCard
end Rows
end Go.Proofs.YtdnfefkkbckmgaaGreatDoor
