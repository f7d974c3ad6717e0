/-
  No cell of these rows narrows 'for every input' (looked for: loops, veiled, ifaces, maps, wideKeys, modest, calm, conditions, laid).
  DERIVED. THE GIVEN ROWS OF THIS SEAT. 6 by the template 'for every input the law returns true; each argument reads behind the call as it read before'; 0 by the template 'total and deterministic' (their statements: YtehdkbopkkgabaaTotals.lean).
  GIVEN WITH THE SEED: the statements are not yours to turn. If you find one false, say at which input.
  Laid BY PROGRAM, IN A SANDBOX (cutbox-rows.mjs): the forced cells as the released guide's own fill.sh prints them over the translation b22e20528e9b3dbb… (all of the seat's roots in one cut). By AI agents, Wed Nov 11 2026. No macro, syntax, notation, axiom, sorry.
-/
import Derived.Test.YtehdkbopkkgabaaChecked
import GoSem.Claim
import GoSem.ClaimJoined
import GoSem.ClaimMapViews
import Derived.JoinedTies
import Derived.KernelRfl
namespace Go.Proofs.Ytehdkbopkkgabaa
/- THE CELL 'sum', in the pinned program and in every row, IS THE sha256 OF THE DUMP (.gsa) THAT YtehdkbopkkgabaaProg.lean LOADS. Nothing in Lean hashes anything: it is a label: what it is worth is what the hold of that sum in a sandbox is worth. -/
noncomputable def Try.pinned : Pinned := { name := "ytehdkbopkkgabaa", sum := "b22e20528e9b3dbb74174dfa4387584c1683a90c984bf20dd14ddbf6eb7f886a", checked := Try.checked }
namespace Rows
def none {H : Type} : Left H := { results := [], args := [] }

/-- 'laws.FnRootsOfPrimes': WHATEVER THE INPUT: true; the input reads as it did. -/
def fnRootsOfPrimesSpec : ChangeSpec := { name := "fnRootsOfPrimes", fn := fun _ => fun
  | [d] => { results := [.lit (.bool true)], args := [d] }
  | _ => none }
def fnRootsOfPrimesRow : OpenClaim := { program := "ytehdkbopkkgabaa", sum := "b22e20528e9b3dbb74174dfa4387584c1683a90c984bf20dd14ddbf6eb7f886a", func := "loop.example/g01000/laws.FnRootsOfPrimes", spec := "fnRootsOfPrimes", apart := false }
def FnRootsOfPrimesSaid : Prop := fnRootsOfPrimesRow.holds Try.pinned (OpenSpec.ofChange fnRootsOfPrimesSpec)

/-- ITS FALSE NEIGHBOUR: 'it returns false'. Refute it at one input. -/
def fnRootsOfPrimesWrong : ChangeSpec := { name := "fnRootsOfPrimes", fn := fun _ => fun
  | [d] => { results := [.lit (.bool false)], args := [d] }
  | _ => none }
def FnRootsOfPrimesWrongFalsely : Prop := fnRootsOfPrimesRow.holds Try.pinned (OpenSpec.ofChange fnRootsOfPrimesWrong)

/-- 'laws.FnPadicDigits': WHATEVER THE INPUT: true; the input reads as it did. -/
def fnPadicDigitsSpec : ChangeSpec := { name := "fnPadicDigits", fn := fun _ => fun
  | [d] => { results := [.lit (.bool true)], args := [d] }
  | _ => none }
def fnPadicDigitsRow : OpenClaim := { program := "ytehdkbopkkgabaa", sum := "b22e20528e9b3dbb74174dfa4387584c1683a90c984bf20dd14ddbf6eb7f886a", func := "loop.example/g01000/laws.FnPadicDigits", spec := "fnPadicDigits", unfollowed := true, recurses := true, apart := false }
def FnPadicDigitsSaid : Prop := fnPadicDigitsRow.holds Try.pinned (OpenSpec.ofChange fnPadicDigitsSpec)

/-- ITS FALSE NEIGHBOUR: 'it returns false'. Refute it at one input. -/
def fnPadicDigitsWrong : ChangeSpec := { name := "fnPadicDigits", fn := fun _ => fun
  | [d] => { results := [.lit (.bool false)], args := [d] }
  | _ => none }
def FnPadicDigitsWrongFalsely : Prop := fnPadicDigitsRow.holds Try.pinned (OpenSpec.ofChange fnPadicDigitsWrong)

/-- 'laws.FnParts': WHATEVER THE INPUT: true; the input reads as it did. -/
def fnPartsSpec : ChangeSpec := { name := "fnParts", fn := fun _ => fun
  | [d] => { results := [.lit (.bool true)], args := [d] }
  | _ => none }
def fnPartsRow : OpenClaim := { program := "ytehdkbopkkgabaa", sum := "b22e20528e9b3dbb74174dfa4387584c1683a90c984bf20dd14ddbf6eb7f886a", func := "loop.example/g01000/laws.FnParts", spec := "fnParts", apart := false }
def FnPartsSaid : Prop := fnPartsRow.holds Try.pinned (OpenSpec.ofChange fnPartsSpec)

/-- ITS FALSE NEIGHBOUR: 'it returns false'. Refute it at one input. -/
def fnPartsWrong : ChangeSpec := { name := "fnParts", fn := fun _ => fun
  | [d] => { results := [.lit (.bool false)], args := [d] }
  | _ => none }
def FnPartsWrongFalsely : Prop := fnPartsRow.holds Try.pinned (OpenSpec.ofChange fnPartsWrong)

/-- 'laws.FnFound': WHATEVER THE INPUT: true; the input reads as it did. -/
def fnFoundSpec : ChangeSpec := { name := "fnFound", fn := fun _ => fun
  | [d] => { results := [.lit (.bool true)], args := [d] }
  | _ => none }
def fnFoundRow : OpenClaim := { program := "ytehdkbopkkgabaa", sum := "b22e20528e9b3dbb74174dfa4387584c1683a90c984bf20dd14ddbf6eb7f886a", func := "loop.example/g01000/laws.FnFound", spec := "fnFound", apart := false }
def FnFoundSaid : Prop := fnFoundRow.holds Try.pinned (OpenSpec.ofChange fnFoundSpec)

/-- ITS FALSE NEIGHBOUR: 'it returns false'. Refute it at one input. -/
def fnFoundWrong : ChangeSpec := { name := "fnFound", fn := fun _ => fun
  | [d] => { results := [.lit (.bool false)], args := [d] }
  | _ => none }
def FnFoundWrongFalsely : Prop := fnFoundRow.holds Try.pinned (OpenSpec.ofChange fnFoundWrong)

/-- 'laws.FnConics': WHATEVER THE INPUT: true; the input reads as it did. -/
def fnConicsSpec : ChangeSpec := { name := "fnConics", fn := fun _ => fun
  | [d] => { results := [.lit (.bool true)], args := [d] }
  | _ => none }
def fnConicsRow : OpenClaim := { program := "ytehdkbopkkgabaa", sum := "b22e20528e9b3dbb74174dfa4387584c1683a90c984bf20dd14ddbf6eb7f886a", func := "loop.example/g01000/laws.FnConics", spec := "fnConics", apart := false }
def FnConicsSaid : Prop := fnConicsRow.holds Try.pinned (OpenSpec.ofChange fnConicsSpec)

/-- ITS FALSE NEIGHBOUR: 'it returns false'. Refute it at one input. -/
def fnConicsWrong : ChangeSpec := { name := "fnConics", fn := fun _ => fun
  | [d] => { results := [.lit (.bool false)], args := [d] }
  | _ => none }
def FnConicsWrongFalsely : Prop := fnConicsRow.holds Try.pinned (OpenSpec.ofChange fnConicsWrong)

/-- 'laws.FnExactFindRational': WHATEVER THE INPUT: true; the input reads as it did. -/
def fnExactFindRationalSpec : ChangeSpec := { name := "fnExactFindRational", fn := fun _ => fun
  | [d] => { results := [.lit (.bool true)], args := [d] }
  | _ => none }
def fnExactFindRationalRow : OpenClaim := { program := "ytehdkbopkkgabaa", sum := "b22e20528e9b3dbb74174dfa4387584c1683a90c984bf20dd14ddbf6eb7f886a", func := "loop.example/g01000/laws.FnExactFindRational", spec := "fnExactFindRational", apart := false }
def FnExactFindRationalSaid : Prop := fnExactFindRationalRow.holds Try.pinned (OpenSpec.ofChange fnExactFindRationalSpec)

/-- ITS FALSE NEIGHBOUR: 'it returns false'. Refute it at one input. -/
def fnExactFindRationalWrong : ChangeSpec := { name := "fnExactFindRational", fn := fun _ => fun
  | [d] => { results := [.lit (.bool false)], args := [d] }
  | _ => none }
def FnExactFindRationalWrongFalsely : Prop := fnExactFindRationalRow.holds Try.pinned (OpenSpec.ofChange fnExactFindRationalWrong)

/- THE SECOND FORM. 'bulk': how many values and letters a reading holds, each counted each time it is reached (what is shared counts as often as it is met; a slice's spare places count too). A statement '..UptoSaid' is the law's where the arguments, and the package variables that the reading takes, are together of bulk at most 1048576: NARROWER than '..Said'. Prove '..Said' where nothing that the law and all that it calls make is longer than what came in: it says more and counts as full. Else prove '..UptoSaid'. A law counts once. -/
mutual
def uptoBulk {H : Type} : DataW H → Nat
  | .lit (.string bytes) => bytes.length + 1
  | .lit _ => 1
  | .nil => 1
  | .ptr d => uptoBulk d + 1
  | .slice elems spare => uptoBulkAll elems + uptoBulkAll spare + 1
  | .agg parts => uptoBulkAll parts + 1
  | .iface _ d => uptoBulk d + 1
  | .map entries => uptoBulkEntries entries + 1
  | .held _ => 1
def uptoBulkAll {H : Type} : List (DataW H) → Nat
  | [] => 0
  | d :: r => uptoBulk d + uptoBulkAll r
def uptoBulkEntries {H : Type} : List (Lit × DataW H) → Nat
  | [] => 0
  | x :: r => uptoBulkEntry x + uptoBulkEntries r
def uptoBulkEntry {H : Type} : Lit × DataW H → Nat
  | (.string bytes, d) => bytes.length + uptoBulk d + 1
  | (_, d) => uptoBulk d + 1
 end
def uptoSmall : (H : Type) → List (DataW H) → Bool := fun _ ds => decide (uptoBulkAll ds ≤ 1048576)
def OpenSpec.upto (s : _root_.Go.ChangeSpec) : _root_.Go.OpenSpec := { _root_.Go.OpenSpec.ofChange s with cond := some uptoSmall }

/-- 'laws.FnRootsOfPrimes', WHERE WHAT IT READS IS OF BULK AT MOST 1048576: true; the input reads as it did. -/
def fnRootsOfPrimesUptoRow : OpenClaim := { program := "ytehdkbopkkgabaa", sum := "b22e20528e9b3dbb74174dfa4387584c1683a90c984bf20dd14ddbf6eb7f886a", func := "loop.example/g01000/laws.FnRootsOfPrimes", spec := "fnRootsOfPrimes", apart := false, narrowed := true }
def FnRootsOfPrimesUptoSaid : Prop := fnRootsOfPrimesUptoRow.holds Try.pinned (OpenSpec.upto fnRootsOfPrimesSpec)

/-- 'laws.FnPadicDigits', WHERE WHAT IT READS IS OF BULK AT MOST 1048576: true; the input reads as it did. -/
def fnPadicDigitsUptoRow : OpenClaim := { program := "ytehdkbopkkgabaa", sum := "b22e20528e9b3dbb74174dfa4387584c1683a90c984bf20dd14ddbf6eb7f886a", func := "loop.example/g01000/laws.FnPadicDigits", spec := "fnPadicDigits", unfollowed := true, recurses := true, apart := false, narrowed := true }
def FnPadicDigitsUptoSaid : Prop := fnPadicDigitsUptoRow.holds Try.pinned (OpenSpec.upto fnPadicDigitsSpec)

/-- 'laws.FnParts', WHERE WHAT IT READS IS OF BULK AT MOST 1048576: true; the input reads as it did. -/
def fnPartsUptoRow : OpenClaim := { program := "ytehdkbopkkgabaa", sum := "b22e20528e9b3dbb74174dfa4387584c1683a90c984bf20dd14ddbf6eb7f886a", func := "loop.example/g01000/laws.FnParts", spec := "fnParts", apart := false, narrowed := true }
def FnPartsUptoSaid : Prop := fnPartsUptoRow.holds Try.pinned (OpenSpec.upto fnPartsSpec)

/-- 'laws.FnFound', WHERE WHAT IT READS IS OF BULK AT MOST 1048576: true; the input reads as it did. -/
def fnFoundUptoRow : OpenClaim := { program := "ytehdkbopkkgabaa", sum := "b22e20528e9b3dbb74174dfa4387584c1683a90c984bf20dd14ddbf6eb7f886a", func := "loop.example/g01000/laws.FnFound", spec := "fnFound", apart := false, narrowed := true }
def FnFoundUptoSaid : Prop := fnFoundUptoRow.holds Try.pinned (OpenSpec.upto fnFoundSpec)

/-- 'laws.FnConics', WHERE WHAT IT READS IS OF BULK AT MOST 1048576: true; the input reads as it did. -/
def fnConicsUptoRow : OpenClaim := { program := "ytehdkbopkkgabaa", sum := "b22e20528e9b3dbb74174dfa4387584c1683a90c984bf20dd14ddbf6eb7f886a", func := "loop.example/g01000/laws.FnConics", spec := "fnConics", apart := false, narrowed := true }
def FnConicsUptoSaid : Prop := fnConicsUptoRow.holds Try.pinned (OpenSpec.upto fnConicsSpec)

/-- 'laws.FnExactFindRational', WHERE WHAT IT READS IS OF BULK AT MOST 1048576: true; the input reads as it did. -/
def fnExactFindRationalUptoRow : OpenClaim := { program := "ytehdkbopkkgabaa", sum := "b22e20528e9b3dbb74174dfa4387584c1683a90c984bf20dd14ddbf6eb7f886a", func := "loop.example/g01000/laws.FnExactFindRational", spec := "fnExactFindRational", apart := false, narrowed := true }
def FnExactFindRationalUptoSaid : Prop := fnExactFindRationalUptoRow.holds Try.pinned (OpenSpec.upto fnExactFindRationalSpec)

end Rows
end Go.Proofs.Ytehdkbopkkgabaa
