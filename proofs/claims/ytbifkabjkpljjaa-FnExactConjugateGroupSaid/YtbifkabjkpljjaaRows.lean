/-
  No cell of these rows narrows 'for every input' (looked for: loops, veiled, ifaces, maps, wideKeys, modest, calm, conditions, laid).
  DERIVED. THE GIVEN ROWS OF THIS SEAT. 4 by the template 'for every input the law returns true; each argument reads behind the call as it read before'; 0 by the template 'total and deterministic' (their statements: YtbifkabjkpljjaaTotals.lean).
  GIVEN WITH THE SEED: the statements are not yours to turn. If you find one false, say at which input.
  Laid BY PROGRAM, IN A SANDBOX (cutbox-rows.mjs): the forced cells as the released guide's own fill.sh prints them over the translation 940e80f06873432d… (all of the seat's roots in one cut). By AI agents, Wed Nov 11 2026. No macro, syntax, notation, axiom, sorry.
-/
import Derived.Test.YtbifkabjkpljjaaChecked
import GoSem.Claim
import GoSem.ClaimJoined
import GoSem.ClaimMapViews
import Derived.JoinedTies
import Derived.KernelRfl
namespace Go.Proofs.Ytbifkabjkpljjaa
/- THE CELL 'sum', in the pinned program and in every row, IS THE sha256 OF THE DUMP (.gsa) THAT YtbifkabjkpljjaaProg.lean LOADS. Nothing in Lean hashes anything: it is a label: what it is worth is what the hold of that sum in a sandbox is worth. -/
noncomputable def Try.pinned : Pinned := { name := "ytbifkabjkpljjaa", sum := "940e80f06873432d1ade20abf2efb735a4f070b9f99ff884e57536df1825419c", checked := Try.checked }
namespace Rows
def none {H : Type} : Left H := { results := [], args := [] }

/-- 'laws.FnExactEvenPart': WHATEVER THE INPUT: true; the input reads as it did. -/
def fnExactEvenPartSpec : ChangeSpec := { name := "fnExactEvenPart", fn := fun _ => fun
  | [d] => { results := [.lit (.bool true)], args := [d] }
  | _ => none }
def fnExactEvenPartRow : OpenClaim := { program := "ytbifkabjkpljjaa", sum := "940e80f06873432d1ade20abf2efb735a4f070b9f99ff884e57536df1825419c", func := "loop.example/g01000/laws.FnExactEvenPart", spec := "fnExactEvenPart", unfollowed := true, recurses := true, apart := false }
def FnExactEvenPartSaid : Prop := fnExactEvenPartRow.holds Try.pinned (OpenSpec.ofChange fnExactEvenPartSpec)

/-- ITS FALSE NEIGHBOUR: 'it returns false'. Refute it at one input. -/
def fnExactEvenPartWrong : ChangeSpec := { name := "fnExactEvenPart", fn := fun _ => fun
  | [d] => { results := [.lit (.bool false)], args := [d] }
  | _ => none }
def FnExactEvenPartWrongFalsely : Prop := fnExactEvenPartRow.holds Try.pinned (OpenSpec.ofChange fnExactEvenPartWrong)

/-- 'laws.FnExactCenterOf': WHATEVER THE INPUT: true; the input reads as it did. -/
def fnExactCenterOfSpec : ChangeSpec := { name := "fnExactCenterOf", fn := fun _ => fun
  | [d] => { results := [.lit (.bool true)], args := [d] }
  | _ => none }
def fnExactCenterOfRow : OpenClaim := { program := "ytbifkabjkpljjaa", sum := "940e80f06873432d1ade20abf2efb735a4f070b9f99ff884e57536df1825419c", func := "loop.example/g01000/laws.FnExactCenterOf", spec := "fnExactCenterOf", unfollowed := true, recurses := true, apart := false }
def FnExactCenterOfSaid : Prop := fnExactCenterOfRow.holds Try.pinned (OpenSpec.ofChange fnExactCenterOfSpec)

/-- ITS FALSE NEIGHBOUR: 'it returns false'. Refute it at one input. -/
def fnExactCenterOfWrong : ChangeSpec := { name := "fnExactCenterOf", fn := fun _ => fun
  | [d] => { results := [.lit (.bool false)], args := [d] }
  | _ => none }
def FnExactCenterOfWrongFalsely : Prop := fnExactCenterOfRow.holds Try.pinned (OpenSpec.ofChange fnExactCenterOfWrong)

/-- 'laws.FnExactIsAbelian': WHATEVER THE INPUT: true; the input reads as it did. -/
def fnExactIsAbelianSpec : ChangeSpec := { name := "fnExactIsAbelian", fn := fun _ => fun
  | [d] => { results := [.lit (.bool true)], args := [d] }
  | _ => none }
def fnExactIsAbelianRow : OpenClaim := { program := "ytbifkabjkpljjaa", sum := "940e80f06873432d1ade20abf2efb735a4f070b9f99ff884e57536df1825419c", func := "loop.example/g01000/laws.FnExactIsAbelian", spec := "fnExactIsAbelian", unfollowed := true, recurses := true, apart := false }
def FnExactIsAbelianSaid : Prop := fnExactIsAbelianRow.holds Try.pinned (OpenSpec.ofChange fnExactIsAbelianSpec)

/-- ITS FALSE NEIGHBOUR: 'it returns false'. Refute it at one input. -/
def fnExactIsAbelianWrong : ChangeSpec := { name := "fnExactIsAbelian", fn := fun _ => fun
  | [d] => { results := [.lit (.bool false)], args := [d] }
  | _ => none }
def FnExactIsAbelianWrongFalsely : Prop := fnExactIsAbelianRow.holds Try.pinned (OpenSpec.ofChange fnExactIsAbelianWrong)

/-- 'laws.FnExactConjugateGroup': WHATEVER THE INPUT: true; the input reads as it did. -/
def fnExactConjugateGroupSpec : ChangeSpec := { name := "fnExactConjugateGroup", fn := fun _ => fun
  | [d1, d2] => { results := [.lit (.bool true)], args := [d1, d2] }
  | _ => none }
def fnExactConjugateGroupRow : OpenClaim := { program := "ytbifkabjkpljjaa", sum := "940e80f06873432d1ade20abf2efb735a4f070b9f99ff884e57536df1825419c", func := "loop.example/g01000/laws.FnExactConjugateGroup", spec := "fnExactConjugateGroup", unfollowed := true, recurses := true, apart := false }
def FnExactConjugateGroupSaid : Prop := fnExactConjugateGroupRow.holds Try.pinned (OpenSpec.ofChange fnExactConjugateGroupSpec)

/-- ITS FALSE NEIGHBOUR: 'it returns false'. Refute it at one input. -/
def fnExactConjugateGroupWrong : ChangeSpec := { name := "fnExactConjugateGroup", fn := fun _ => fun
  | [d1, d2] => { results := [.lit (.bool false)], args := [d1, d2] }
  | _ => none }
def FnExactConjugateGroupWrongFalsely : Prop := fnExactConjugateGroupRow.holds Try.pinned (OpenSpec.ofChange fnExactConjugateGroupWrong)

/- THE SECOND FORM. 'bulk': how many values and letters a reading holds, each counted each time it is reached (what is shared counts as often as it is met; a slice's spare places count too). A statement '..UptoSaid' is the law's where the arguments, and the package variables that the reading takes, are together of bulk at most 1048576: NARROWER than '..Said'. Prove '..Said' where nothing that the law and all that it calls make is longer than what came in: it says more and counts as full. Else prove '..UptoSaid'. A law counts once. -/
mutual
def uptoBulk {H : Type} : DataW H → Nat
  | .lit (.string bytes) => bytes.length + 1
  | .lit _ => 1
  | .nil => 1
  | .ptr d => uptoBulk d + 1
  | .slice elems spare => uptoBulkAll elems + uptoBulkAll spare + 1
  | .agg parts => uptoBulkAll parts + 1
  | .iface _ d => uptoBulk d + 1
  | .map entries => uptoBulkEntries entries + 1
  | .held _ => 1
def uptoBulkAll {H : Type} : List (DataW H) → Nat
  | [] => 0
  | d :: r => uptoBulk d + uptoBulkAll r
def uptoBulkEntries {H : Type} : List (Lit × DataW H) → Nat
  | [] => 0
  | x :: r => uptoBulkEntry x + uptoBulkEntries r
def uptoBulkEntry {H : Type} : Lit × DataW H → Nat
  | (.string bytes, d) => bytes.length + uptoBulk d + 1
  | (_, d) => uptoBulk d + 1
 end
def uptoSmall : (H : Type) → List (DataW H) → Bool := fun _ ds => decide (uptoBulkAll ds ≤ 1048576)
def OpenSpec.upto (s : _root_.Go.ChangeSpec) : _root_.Go.OpenSpec := { _root_.Go.OpenSpec.ofChange s with cond := some uptoSmall }

/-- 'laws.FnExactEvenPart', WHERE WHAT IT READS IS OF BULK AT MOST 1048576: true; the input reads as it did. -/
def fnExactEvenPartUptoRow : OpenClaim := { program := "ytbifkabjkpljjaa", sum := "940e80f06873432d1ade20abf2efb735a4f070b9f99ff884e57536df1825419c", func := "loop.example/g01000/laws.FnExactEvenPart", spec := "fnExactEvenPart", unfollowed := true, recurses := true, apart := false, narrowed := true }
def FnExactEvenPartUptoSaid : Prop := fnExactEvenPartUptoRow.holds Try.pinned (OpenSpec.upto fnExactEvenPartSpec)

/-- 'laws.FnExactCenterOf', WHERE WHAT IT READS IS OF BULK AT MOST 1048576: true; the input reads as it did. -/
def fnExactCenterOfUptoRow : OpenClaim := { program := "ytbifkabjkpljjaa", sum := "940e80f06873432d1ade20abf2efb735a4f070b9f99ff884e57536df1825419c", func := "loop.example/g01000/laws.FnExactCenterOf", spec := "fnExactCenterOf", unfollowed := true, recurses := true, apart := false, narrowed := true }
def FnExactCenterOfUptoSaid : Prop := fnExactCenterOfUptoRow.holds Try.pinned (OpenSpec.upto fnExactCenterOfSpec)

/-- 'laws.FnExactIsAbelian', WHERE WHAT IT READS IS OF BULK AT MOST 1048576: true; the input reads as it did. -/
def fnExactIsAbelianUptoRow : OpenClaim := { program := "ytbifkabjkpljjaa", sum := "940e80f06873432d1ade20abf2efb735a4f070b9f99ff884e57536df1825419c", func := "loop.example/g01000/laws.FnExactIsAbelian", spec := "fnExactIsAbelian", unfollowed := true, recurses := true, apart := false, narrowed := true }
def FnExactIsAbelianUptoSaid : Prop := fnExactIsAbelianUptoRow.holds Try.pinned (OpenSpec.upto fnExactIsAbelianSpec)

/-- 'laws.FnExactConjugateGroup', WHERE WHAT IT READS IS OF BULK AT MOST 1048576: true; the input reads as it did. -/
def fnExactConjugateGroupUptoRow : OpenClaim := { program := "ytbifkabjkpljjaa", sum := "940e80f06873432d1ade20abf2efb735a4f070b9f99ff884e57536df1825419c", func := "loop.example/g01000/laws.FnExactConjugateGroup", spec := "fnExactConjugateGroup", unfollowed := true, recurses := true, apart := false, narrowed := true }
def FnExactConjugateGroupUptoSaid : Prop := fnExactConjugateGroupUptoRow.holds Try.pinned (OpenSpec.upto fnExactConjugateGroupSpec)

end Rows
end Go.Proofs.Ytbifkabjkpljjaa
