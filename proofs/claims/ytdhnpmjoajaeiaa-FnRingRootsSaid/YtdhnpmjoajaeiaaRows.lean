/-
  No cell of these rows narrows 'for every input' (looked for: loops, veiled, ifaces, maps, wideKeys, modest, calm, conditions, laid).
  DERIVED. THE GIVEN ROWS OF THIS SEAT. 2 by the template 'for every input the law returns true; each argument reads behind the call as it read before'; 0 by the template 'total and deterministic' (their statements: YtdhnpmjoajaeiaaTotals.lean).
  GIVEN WITH THE SEED: the statements are not yours to turn. If you find one false, say at which input.
  Laid BY PROGRAM, IN A SANDBOX (cutbox-rows.mjs): the forced cells as the released guide's own fill.sh prints them over the translation 07f75771644dfd7b… (all of the seat's roots in one cut). By AI agents, Wed Nov 11 2026. No macro, syntax, notation, axiom, sorry.
-/
import Derived.Test.YtdhnpmjoajaeiaaChecked
import GoSem.Claim
import GoSem.ClaimJoined
import GoSem.ClaimMapViews
import Derived.JoinedTies
import Derived.KernelRfl
namespace Go.Proofs.Ytdhnpmjoajaeiaa
/- THE CELL 'sum', in the pinned program and in every row, IS THE sha256 OF THE DUMP (.gsa) THAT YtdhnpmjoajaeiaaProg.lean LOADS. Nothing in Lean hashes anything: it is a label: what it is worth is what the hold of that sum in a sandbox is worth. -/
noncomputable def Try.pinned : Pinned := { name := "ytdhnpmjoajaeiaa", sum := "07f75771644dfd7b193430111a6842bd5a2cde2c3a962e7cedf01a8f1878d32c", checked := Try.checked }
namespace Rows
def none {H : Type} : Left H := { results := [], args := [] }

/-- 'laws.FnExactSquareRootsOf': WHATEVER THE INPUT: true; the input reads as it did. -/
def fnExactSquareRootsOfSpec : ChangeSpec := { name := "fnExactSquareRootsOf", fn := fun _ => fun
  | [d1, d2] => { results := [.lit (.bool true)], args := [d1, d2] }
  | _ => none }
def fnExactSquareRootsOfRow : OpenClaim := { program := "ytdhnpmjoajaeiaa", sum := "07f75771644dfd7b193430111a6842bd5a2cde2c3a962e7cedf01a8f1878d32c", func := "loop.example/g01000/laws.FnExactSquareRootsOf", spec := "fnExactSquareRootsOf", recurses := true, apart := false }
def FnExactSquareRootsOfSaid : Prop := fnExactSquareRootsOfRow.holds Try.pinned (OpenSpec.ofChange fnExactSquareRootsOfSpec)

/-- ITS FALSE NEIGHBOUR: 'it returns false'. Refute it at one input. -/
def fnExactSquareRootsOfWrong : ChangeSpec := { name := "fnExactSquareRootsOf", fn := fun _ => fun
  | [d1, d2] => { results := [.lit (.bool false)], args := [d1, d2] }
  | _ => none }
def FnExactSquareRootsOfWrongFalsely : Prop := fnExactSquareRootsOfRow.holds Try.pinned (OpenSpec.ofChange fnExactSquareRootsOfWrong)

/-- 'laws.FnRingRoots': WHATEVER THE INPUT: true; the input reads as it did. -/
def fnRingRootsSpec : ChangeSpec := { name := "fnRingRoots", fn := fun _ => fun
  | [d] => { results := [.lit (.bool true)], args := [d] }
  | _ => none }
def fnRingRootsRow : OpenClaim := { program := "ytdhnpmjoajaeiaa", sum := "07f75771644dfd7b193430111a6842bd5a2cde2c3a962e7cedf01a8f1878d32c", func := "loop.example/g01000/laws.FnRingRoots", spec := "fnRingRoots", unfollowed := true, recurses := true, apart := false }
def FnRingRootsSaid : Prop := fnRingRootsRow.holds Try.pinned (OpenSpec.ofChange fnRingRootsSpec)

/-- ITS FALSE NEIGHBOUR: 'it returns false'. Refute it at one input. -/
def fnRingRootsWrong : ChangeSpec := { name := "fnRingRoots", fn := fun _ => fun
  | [d] => { results := [.lit (.bool false)], args := [d] }
  | _ => none }
def FnRingRootsWrongFalsely : Prop := fnRingRootsRow.holds Try.pinned (OpenSpec.ofChange fnRingRootsWrong)

/- THE SECOND FORM. 'bulk': how many values and letters a reading holds, each counted each time it is reached (what is shared counts as often as it is met; a slice's spare places count too). A statement '..UptoSaid' is the law's where the arguments, and the package variables that the reading takes, are together of bulk at most 1048576: NARROWER than '..Said'. Prove '..Said' where nothing that the law and all that it calls make is longer than what came in: it says more and counts as full. Else prove '..UptoSaid'. A law counts once. -/
mutual
def uptoBulk {H : Type} : DataW H → Nat
  | .lit (.string bytes) => bytes.length + 1
  | .lit _ => 1
  | .nil => 1
  | .ptr d => uptoBulk d + 1
  | .slice elems spare => uptoBulkAll elems + uptoBulkAll spare + 1
  | .agg parts => uptoBulkAll parts + 1
  | .iface _ d => uptoBulk d + 1
  | .map entries => uptoBulkEntries entries + 1
  | .held _ => 1
def uptoBulkAll {H : Type} : List (DataW H) → Nat
  | [] => 0
  | d :: r => uptoBulk d + uptoBulkAll r
def uptoBulkEntries {H : Type} : List (Lit × DataW H) → Nat
  | [] => 0
  | x :: r => uptoBulkEntry x + uptoBulkEntries r
def uptoBulkEntry {H : Type} : Lit × DataW H → Nat
  | (.string bytes, d) => bytes.length + uptoBulk d + 1
  | (_, d) => uptoBulk d + 1
 end
def uptoSmall : (H : Type) → List (DataW H) → Bool := fun _ ds => decide (uptoBulkAll ds ≤ 1048576)
def OpenSpec.upto (s : _root_.Go.ChangeSpec) : _root_.Go.OpenSpec := { _root_.Go.OpenSpec.ofChange s with cond := some uptoSmall }

/-- 'laws.FnExactSquareRootsOf', WHERE WHAT IT READS IS OF BULK AT MOST 1048576: true; the input reads as it did. -/
def fnExactSquareRootsOfUptoRow : OpenClaim := { program := "ytdhnpmjoajaeiaa", sum := "07f75771644dfd7b193430111a6842bd5a2cde2c3a962e7cedf01a8f1878d32c", func := "loop.example/g01000/laws.FnExactSquareRootsOf", spec := "fnExactSquareRootsOf", recurses := true, apart := false, narrowed := true }
def FnExactSquareRootsOfUptoSaid : Prop := fnExactSquareRootsOfUptoRow.holds Try.pinned (OpenSpec.upto fnExactSquareRootsOfSpec)

/-- 'laws.FnRingRoots', WHERE WHAT IT READS IS OF BULK AT MOST 1048576: true; the input reads as it did. -/
def fnRingRootsUptoRow : OpenClaim := { program := "ytdhnpmjoajaeiaa", sum := "07f75771644dfd7b193430111a6842bd5a2cde2c3a962e7cedf01a8f1878d32c", func := "loop.example/g01000/laws.FnRingRoots", spec := "fnRingRoots", unfollowed := true, recurses := true, apart := false, narrowed := true }
def FnRingRootsUptoSaid : Prop := fnRingRootsUptoRow.holds Try.pinned (OpenSpec.upto fnRingRootsSpec)

end Rows
end Go.Proofs.Ytdhnpmjoajaeiaa
