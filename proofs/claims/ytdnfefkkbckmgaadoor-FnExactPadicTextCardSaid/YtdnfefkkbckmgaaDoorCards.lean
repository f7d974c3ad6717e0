/-
  DERIVED. GIVEN WITH THE SEED: THE CARDS: each row of YtdnfefkkbckmgaaDoorRows.lean that lists a variable, with what it lists TIED to the program's text (the seventh form; the later family's looks); each row that meets fmt, with fmt's text TOLD by the authors' own Lean function (tested against real Go, not proved from fmt's source: count such statements apart). THE CARD IS WHAT COUNTS. Prove the row's statement (the work); the ties are given (YtdnfefkkbckmgaaDoorTie.lean); close each card by the builder's one call (the guide's Derived/Test/ToyasCard.lean, 'card_holds'). Laid BY PROGRAM, IN A SANDBOX (cutbox-door.mjs). By AI agents, Wed Nov 11 2026. No macro, syntax, notation, axiom, sorry.
-/
import Derived.Test.YtdnfefkkbckmgaaDoorRows
import GoSem.ClaimSeven
namespace Go.Proofs.YtdnfefkkbckmgaaDoor
namespace Rows

/-- THE TIED CARD OF 'laws.FnExactPadicText'. -/
def fnExactPadicTextCard : Claim7 := { stood := { row := fnExactPadicTextRow, standIns := [], harness := (true, "79e46f8420ab5fb8230dedc28ff09ee0ee5f01a76c8ab14a077120457b01e92a"), looks := false }, kinds := [], alts := [], laidByText := true, laidKinds := [.data, .data, .data], laidTests := true, laidLooks := .later }
def FnExactPadicTextCardSaid : Prop := Claim7.holds Tryd.pinned (.plain (OpenSpec.ofChange fnExactPadicTextSpec)) fnExactPadicTextCard

/-- THE SECOND FORM's CARD OF 'laws.FnExactPadicText'. -/
def fnExactPadicTextUptoCard : Claim7 := { stood := { row := fnExactPadicTextUptoRow, standIns := [], harness := (true, "79e46f8420ab5fb8230dedc28ff09ee0ee5f01a76c8ab14a077120457b01e92a"), looks := false }, kinds := [], alts := [], laidByText := true, laidKinds := [.data, .data, .data], laidTests := true, laidLooks := .later }
def FnExactPadicTextUptoCardSaid : Prop := Claim7.holds Tryd.pinned (.plain (OpenSpec.upto fnExactPadicTextSpec)) fnExactPadicTextUptoCard
end Rows
end Go.Proofs.YtdnfefkkbckmgaaDoor
