/-
  No cell of these rows narrows 'for every input' (looked for: loops, veiled, ifaces, maps, wideKeys, modest, calm, conditions, laid).
  DERIVED. THE GIVEN ROWS OF THIS SEAT. 3 by the template 'for every input the law returns true; each argument reads behind the call as it read before'; 0 by the template 'total and deterministic' (their statements: YtcillfhkgckiaaaTotals.lean).
  GIVEN WITH THE SEED: the statements are not yours to turn. If you find one false, say at which input.
  Laid BY PROGRAM, IN A SANDBOX (cutbox-rows.mjs): the forced cells as the released guide's own fill.sh prints them over the translation 19cb18637309b572… (all of the seat's roots in one cut). By AI agents, Wed Nov 11 2026. No macro, syntax, notation, axiom, sorry.
-/
import Derived.Test.YtcillfhkgckiaaaChecked
import GoSem.Claim
import GoSem.ClaimJoined
import GoSem.ClaimMapViews
import Derived.JoinedTies
import Derived.KernelRfl
namespace Go.Proofs.Ytcillfhkgckiaaa
/- THE CELL 'sum', in the pinned program and in every row, IS THE sha256 OF THE DUMP (.gsa) THAT YtcillfhkgckiaaaProg.lean LOADS. Nothing in Lean hashes anything: it is a label: what it is worth is what the hold of that sum in a sandbox is worth. -/
noncomputable def Try.pinned : Pinned := { name := "ytcillfhkgckiaaa", sum := "19cb18637309b5720a9bb31ab966b333de241d40886c24dbc98adcdb8f7fa1fc", checked := Try.checked }
namespace Rows
def none {H : Type} : Left H := { results := [], args := [] }

/-- 'laws.FnExactOrderOf': WHATEVER THE INPUT: true; the input reads as it did. -/
def fnExactOrderOfSpec : ChangeSpec := { name := "fnExactOrderOf", fn := fun _ => fun
  | [d1, d2] => { results := [.lit (.bool true)], args := [d1, d2] }
  | _ => none }
def fnExactOrderOfRow : OpenClaim := { program := "ytcillfhkgckiaaa", sum := "19cb18637309b5720a9bb31ab966b333de241d40886c24dbc98adcdb8f7fa1fc", func := "loop.example/g01000/laws.FnExactOrderOf", spec := "fnExactOrderOf", apart := false }
def FnExactOrderOfSaid : Prop := fnExactOrderOfRow.holds Try.pinned (OpenSpec.ofChange fnExactOrderOfSpec)

/-- ITS FALSE NEIGHBOUR: 'it returns false'. Refute it at one input. -/
def fnExactOrderOfWrong : ChangeSpec := { name := "fnExactOrderOf", fn := fun _ => fun
  | [d1, d2] => { results := [.lit (.bool false)], args := [d1, d2] }
  | _ => none }
def FnExactOrderOfWrongFalsely : Prop := fnExactOrderOfRow.holds Try.pinned (OpenSpec.ofChange fnExactOrderOfWrong)

/-- 'laws.FnResiduePowers': WHATEVER THE INPUT: true; the input reads as it did. -/
def fnResiduePowersSpec : ChangeSpec := { name := "fnResiduePowers", fn := fun _ => fun
  | [d] => { results := [.lit (.bool true)], args := [d] }
  | _ => none }
def fnResiduePowersRow : OpenClaim := { program := "ytcillfhkgckiaaa", sum := "19cb18637309b5720a9bb31ab966b333de241d40886c24dbc98adcdb8f7fa1fc", func := "loop.example/g01000/laws.FnResiduePowers", spec := "fnResiduePowers", apart := false }
def FnResiduePowersSaid : Prop := fnResiduePowersRow.holds Try.pinned (OpenSpec.ofChange fnResiduePowersSpec)

/-- ITS FALSE NEIGHBOUR: 'it returns false'. Refute it at one input. -/
def fnResiduePowersWrong : ChangeSpec := { name := "fnResiduePowers", fn := fun _ => fun
  | [d] => { results := [.lit (.bool false)], args := [d] }
  | _ => none }
def FnResiduePowersWrongFalsely : Prop := fnResiduePowersRow.holds Try.pinned (OpenSpec.ofChange fnResiduePowersWrong)

/-- 'laws.FnInverses': WHATEVER THE INPUT: true; the input reads as it did. -/
def fnInversesSpec : ChangeSpec := { name := "fnInverses", fn := fun _ => fun
  | [d] => { results := [.lit (.bool true)], args := [d] }
  | _ => none }
def fnInversesRow : OpenClaim := { program := "ytcillfhkgckiaaa", sum := "19cb18637309b5720a9bb31ab966b333de241d40886c24dbc98adcdb8f7fa1fc", func := "loop.example/g01000/laws.FnInverses", spec := "fnInverses", apart := false }
def FnInversesSaid : Prop := fnInversesRow.holds Try.pinned (OpenSpec.ofChange fnInversesSpec)

/-- ITS FALSE NEIGHBOUR: 'it returns false'. Refute it at one input. -/
def fnInversesWrong : ChangeSpec := { name := "fnInverses", fn := fun _ => fun
  | [d] => { results := [.lit (.bool false)], args := [d] }
  | _ => none }
def FnInversesWrongFalsely : Prop := fnInversesRow.holds Try.pinned (OpenSpec.ofChange fnInversesWrong)

/- THE SECOND FORM. 'bulk': how many values and letters a reading holds, each counted each time it is reached (what is shared counts as often as it is met; a slice's spare places count too). A statement '..UptoSaid' is the law's where the arguments, and the package variables that the reading takes, are together of bulk at most 1048576: NARROWER than '..Said'. Prove '..Said' where nothing that the law and all that it calls make is longer than what came in: it says more and counts as full. Else prove '..UptoSaid'. A law counts once. -/
mutual
def uptoBulk {H : Type} : DataW H → Nat
  | .lit (.string bytes) => bytes.length + 1
  | .lit _ => 1
  | .nil => 1
  | .ptr d => uptoBulk d + 1
  | .slice elems spare => uptoBulkAll elems + uptoBulkAll spare + 1
  | .agg parts => uptoBulkAll parts + 1
  | .iface _ d => uptoBulk d + 1
  | .map entries => uptoBulkEntries entries + 1
  | .held _ => 1
def uptoBulkAll {H : Type} : List (DataW H) → Nat
  | [] => 0
  | d :: r => uptoBulk d + uptoBulkAll r
def uptoBulkEntries {H : Type} : List (Lit × DataW H) → Nat
  | [] => 0
  | x :: r => uptoBulkEntry x + uptoBulkEntries r
def uptoBulkEntry {H : Type} : Lit × DataW H → Nat
  | (.string bytes, d) => bytes.length + uptoBulk d + 1
  | (_, d) => uptoBulk d + 1
 end
def uptoSmall : (H : Type) → List (DataW H) → Bool := fun _ ds => decide (uptoBulkAll ds ≤ 1048576)
def OpenSpec.upto (s : _root_.Go.ChangeSpec) : _root_.Go.OpenSpec := { _root_.Go.OpenSpec.ofChange s with cond := some uptoSmall }

/-- 'laws.FnExactOrderOf', WHERE WHAT IT READS IS OF BULK AT MOST 1048576: true; the input reads as it did. -/
def fnExactOrderOfUptoRow : OpenClaim := { program := "ytcillfhkgckiaaa", sum := "19cb18637309b5720a9bb31ab966b333de241d40886c24dbc98adcdb8f7fa1fc", func := "loop.example/g01000/laws.FnExactOrderOf", spec := "fnExactOrderOf", apart := false, narrowed := true }
def FnExactOrderOfUptoSaid : Prop := fnExactOrderOfUptoRow.holds Try.pinned (OpenSpec.upto fnExactOrderOfSpec)

/-- 'laws.FnResiduePowers', WHERE WHAT IT READS IS OF BULK AT MOST 1048576: true; the input reads as it did. -/
def fnResiduePowersUptoRow : OpenClaim := { program := "ytcillfhkgckiaaa", sum := "19cb18637309b5720a9bb31ab966b333de241d40886c24dbc98adcdb8f7fa1fc", func := "loop.example/g01000/laws.FnResiduePowers", spec := "fnResiduePowers", apart := false, narrowed := true }
def FnResiduePowersUptoSaid : Prop := fnResiduePowersUptoRow.holds Try.pinned (OpenSpec.upto fnResiduePowersSpec)

/-- 'laws.FnInverses', WHERE WHAT IT READS IS OF BULK AT MOST 1048576: true; the input reads as it did. -/
def fnInversesUptoRow : OpenClaim := { program := "ytcillfhkgckiaaa", sum := "19cb18637309b5720a9bb31ab966b333de241d40886c24dbc98adcdb8f7fa1fc", func := "loop.example/g01000/laws.FnInverses", spec := "fnInverses", apart := false, narrowed := true }
def FnInversesUptoSaid : Prop := fnInversesUptoRow.holds Try.pinned (OpenSpec.upto fnInversesSpec)

end Rows
end Go.Proofs.Ytcillfhkgckiaaa
