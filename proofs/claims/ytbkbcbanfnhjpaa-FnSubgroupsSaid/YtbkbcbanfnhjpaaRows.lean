/-
  No cell of these rows narrows 'for every input' (looked for: loops, veiled, ifaces, maps, wideKeys, modest, calm, conditions, laid).
  DERIVED. THE GIVEN ROWS OF THIS SEAT. 5 by the template 'for every input the law returns true; each argument reads behind the call as it read before'; 0 by the template 'total and deterministic' (their statements: YtbkbcbanfnhjpaaTotals.lean).
  GIVEN WITH THE SEED: the statements are not yours to turn. If you find one false, say at which input.
  Laid BY PROGRAM, IN A SANDBOX (cutbox-rows.mjs): the forced cells as the released guide's own fill.sh prints them over the translation 8a472686bf060af4… (all of the seat's roots in one cut). By AI agents, Wed Nov 11 2026. No macro, syntax, notation, axiom, sorry.
-/
import Derived.Test.YtbkbcbanfnhjpaaChecked
import GoSem.Claim
import GoSem.ClaimJoined
import GoSem.ClaimMapViews
import Derived.JoinedTies
import Derived.KernelRfl
namespace Go.Proofs.Ytbkbcbanfnhjpaa
/- THE CELL 'sum', in the pinned program and in every row, IS THE sha256 OF THE DUMP (.gsa) THAT YtbkbcbanfnhjpaaProg.lean LOADS. Nothing in Lean hashes anything: it is a label: what it is worth is what the hold of that sum in a sandbox is worth. -/
noncomputable def Try.pinned : Pinned := { name := "ytbkbcbanfnhjpaa", sum := "8a472686bf060af4b0d56206dcc49c076560eb0a1f557be1e2cc52a6a54102ce", checked := Try.checked }
namespace Rows
def none {H : Type} : Left H := { results := [], args := [] }

/-- 'laws.FnSubgroups': WHATEVER THE INPUT: true; the input reads as it did. -/
def fnSubgroupsSpec : ChangeSpec := { name := "fnSubgroups", fn := fun _ => fun
  | [d] => { results := [.lit (.bool true)], args := [d] }
  | _ => none }
def fnSubgroupsRow : OpenClaim := { program := "ytbkbcbanfnhjpaa", sum := "8a472686bf060af4b0d56206dcc49c076560eb0a1f557be1e2cc52a6a54102ce", func := "loop.example/g01000/laws.FnSubgroups", spec := "fnSubgroups", unfollowed := true, recurses := true, apart := false }
def FnSubgroupsSaid : Prop := fnSubgroupsRow.holds Try.pinned (OpenSpec.ofChange fnSubgroupsSpec)

/-- ITS FALSE NEIGHBOUR: 'it returns false'. Refute it at one input. -/
def fnSubgroupsWrong : ChangeSpec := { name := "fnSubgroups", fn := fun _ => fun
  | [d] => { results := [.lit (.bool false)], args := [d] }
  | _ => none }
def FnSubgroupsWrongFalsely : Prop := fnSubgroupsRow.holds Try.pinned (OpenSpec.ofChange fnSubgroupsWrong)

/-- 'laws.FnExactGenerateGroup': WHATEVER THE INPUT: true; the input reads as it did. -/
def fnExactGenerateGroupSpec : ChangeSpec := { name := "fnExactGenerateGroup", fn := fun _ => fun
  | [d1, d2] => { results := [.lit (.bool true)], args := [d1, d2] }
  | _ => none }
def fnExactGenerateGroupRow : OpenClaim := { program := "ytbkbcbanfnhjpaa", sum := "8a472686bf060af4b0d56206dcc49c076560eb0a1f557be1e2cc52a6a54102ce", func := "loop.example/g01000/laws.FnExactGenerateGroup", spec := "fnExactGenerateGroup", unfollowed := true, recurses := true, apart := false }
def FnExactGenerateGroupSaid : Prop := fnExactGenerateGroupRow.holds Try.pinned (OpenSpec.ofChange fnExactGenerateGroupSpec)

/-- ITS FALSE NEIGHBOUR: 'it returns false'. Refute it at one input. -/
def fnExactGenerateGroupWrong : ChangeSpec := { name := "fnExactGenerateGroup", fn := fun _ => fun
  | [d1, d2] => { results := [.lit (.bool false)], args := [d1, d2] }
  | _ => none }
def FnExactGenerateGroupWrongFalsely : Prop := fnExactGenerateGroupRow.holds Try.pinned (OpenSpec.ofChange fnExactGenerateGroupWrong)

/-- 'laws.FnExactClassesOf': WHATEVER THE INPUT: true; the input reads as it did. -/
def fnExactClassesOfSpec : ChangeSpec := { name := "fnExactClassesOf", fn := fun _ => fun
  | [d] => { results := [.lit (.bool true)], args := [d] }
  | _ => none }
def fnExactClassesOfRow : OpenClaim := { program := "ytbkbcbanfnhjpaa", sum := "8a472686bf060af4b0d56206dcc49c076560eb0a1f557be1e2cc52a6a54102ce", func := "loop.example/g01000/laws.FnExactClassesOf", spec := "fnExactClassesOf", unfollowed := true, recurses := true, apart := false }
def FnExactClassesOfSaid : Prop := fnExactClassesOfRow.holds Try.pinned (OpenSpec.ofChange fnExactClassesOfSpec)

/-- ITS FALSE NEIGHBOUR: 'it returns false'. Refute it at one input. -/
def fnExactClassesOfWrong : ChangeSpec := { name := "fnExactClassesOf", fn := fun _ => fun
  | [d] => { results := [.lit (.bool false)], args := [d] }
  | _ => none }
def FnExactClassesOfWrongFalsely : Prop := fnExactClassesOfRow.holds Try.pinned (OpenSpec.ofChange fnExactClassesOfWrong)

/-- 'laws.FnGroups': WHATEVER THE INPUT: true; the input reads as it did. -/
def fnGroupsSpec : ChangeSpec := { name := "fnGroups", fn := fun _ => fun
  | [d] => { results := [.lit (.bool true)], args := [d] }
  | _ => none }
def fnGroupsRow : OpenClaim := { program := "ytbkbcbanfnhjpaa", sum := "8a472686bf060af4b0d56206dcc49c076560eb0a1f557be1e2cc52a6a54102ce", func := "loop.example/g01000/laws.FnGroups", spec := "fnGroups", unfollowed := true, recurses := true, apart := false }
def FnGroupsSaid : Prop := fnGroupsRow.holds Try.pinned (OpenSpec.ofChange fnGroupsSpec)

/-- ITS FALSE NEIGHBOUR: 'it returns false'. Refute it at one input. -/
def fnGroupsWrong : ChangeSpec := { name := "fnGroups", fn := fun _ => fun
  | [d] => { results := [.lit (.bool false)], args := [d] }
  | _ => none }
def FnGroupsWrongFalsely : Prop := fnGroupsRow.holds Try.pinned (OpenSpec.ofChange fnGroupsWrong)

/-- 'laws.FnClasses': WHATEVER THE INPUT: true; the input reads as it did. -/
def fnClassesSpec : ChangeSpec := { name := "fnClasses", fn := fun _ => fun
  | [d] => { results := [.lit (.bool true)], args := [d] }
  | _ => none }
def fnClassesRow : OpenClaim := { program := "ytbkbcbanfnhjpaa", sum := "8a472686bf060af4b0d56206dcc49c076560eb0a1f557be1e2cc52a6a54102ce", func := "loop.example/g01000/laws.FnClasses", spec := "fnClasses", unfollowed := true, recurses := true, apart := false }
def FnClassesSaid : Prop := fnClassesRow.holds Try.pinned (OpenSpec.ofChange fnClassesSpec)

/-- ITS FALSE NEIGHBOUR: 'it returns false'. Refute it at one input. -/
def fnClassesWrong : ChangeSpec := { name := "fnClasses", fn := fun _ => fun
  | [d] => { results := [.lit (.bool false)], args := [d] }
  | _ => none }
def FnClassesWrongFalsely : Prop := fnClassesRow.holds Try.pinned (OpenSpec.ofChange fnClassesWrong)

/- THE SECOND FORM. 'bulk': how many values and letters a reading holds, each counted each time it is reached (what is shared counts as often as it is met; a slice's spare places count too). A statement '..UptoSaid' is the law's where the arguments, and the package variables that the reading takes, are together of bulk at most 1048576: NARROWER than '..Said'. Prove '..Said' where nothing that the law and all that it calls make is longer than what came in: it says more and counts as full. Else prove '..UptoSaid'. A law counts once. -/
mutual
def uptoBulk {H : Type} : DataW H → Nat
  | .lit (.string bytes) => bytes.length + 1
  | .lit _ => 1
  | .nil => 1
  | .ptr d => uptoBulk d + 1
  | .slice elems spare => uptoBulkAll elems + uptoBulkAll spare + 1
  | .agg parts => uptoBulkAll parts + 1
  | .iface _ d => uptoBulk d + 1
  | .map entries => uptoBulkEntries entries + 1
  | .held _ => 1
def uptoBulkAll {H : Type} : List (DataW H) → Nat
  | [] => 0
  | d :: r => uptoBulk d + uptoBulkAll r
def uptoBulkEntries {H : Type} : List (Lit × DataW H) → Nat
  | [] => 0
  | x :: r => uptoBulkEntry x + uptoBulkEntries r
def uptoBulkEntry {H : Type} : Lit × DataW H → Nat
  | (.string bytes, d) => bytes.length + uptoBulk d + 1
  | (_, d) => uptoBulk d + 1
 end
def uptoSmall : (H : Type) → List (DataW H) → Bool := fun _ ds => decide (uptoBulkAll ds ≤ 1048576)
def OpenSpec.upto (s : _root_.Go.ChangeSpec) : _root_.Go.OpenSpec := { _root_.Go.OpenSpec.ofChange s with cond := some uptoSmall }

/-- 'laws.FnSubgroups', WHERE WHAT IT READS IS OF BULK AT MOST 1048576: true; the input reads as it did. -/
def fnSubgroupsUptoRow : OpenClaim := { program := "ytbkbcbanfnhjpaa", sum := "8a472686bf060af4b0d56206dcc49c076560eb0a1f557be1e2cc52a6a54102ce", func := "loop.example/g01000/laws.FnSubgroups", spec := "fnSubgroups", unfollowed := true, recurses := true, apart := false, narrowed := true }
def FnSubgroupsUptoSaid : Prop := fnSubgroupsUptoRow.holds Try.pinned (OpenSpec.upto fnSubgroupsSpec)

/-- 'laws.FnExactGenerateGroup', WHERE WHAT IT READS IS OF BULK AT MOST 1048576: true; the input reads as it did. -/
def fnExactGenerateGroupUptoRow : OpenClaim := { program := "ytbkbcbanfnhjpaa", sum := "8a472686bf060af4b0d56206dcc49c076560eb0a1f557be1e2cc52a6a54102ce", func := "loop.example/g01000/laws.FnExactGenerateGroup", spec := "fnExactGenerateGroup", unfollowed := true, recurses := true, apart := false, narrowed := true }
def FnExactGenerateGroupUptoSaid : Prop := fnExactGenerateGroupUptoRow.holds Try.pinned (OpenSpec.upto fnExactGenerateGroupSpec)

/-- 'laws.FnExactClassesOf', WHERE WHAT IT READS IS OF BULK AT MOST 1048576: true; the input reads as it did. -/
def fnExactClassesOfUptoRow : OpenClaim := { program := "ytbkbcbanfnhjpaa", sum := "8a472686bf060af4b0d56206dcc49c076560eb0a1f557be1e2cc52a6a54102ce", func := "loop.example/g01000/laws.FnExactClassesOf", spec := "fnExactClassesOf", unfollowed := true, recurses := true, apart := false, narrowed := true }
def FnExactClassesOfUptoSaid : Prop := fnExactClassesOfUptoRow.holds Try.pinned (OpenSpec.upto fnExactClassesOfSpec)

/-- 'laws.FnGroups', WHERE WHAT IT READS IS OF BULK AT MOST 1048576: true; the input reads as it did. -/
def fnGroupsUptoRow : OpenClaim := { program := "ytbkbcbanfnhjpaa", sum := "8a472686bf060af4b0d56206dcc49c076560eb0a1f557be1e2cc52a6a54102ce", func := "loop.example/g01000/laws.FnGroups", spec := "fnGroups", unfollowed := true, recurses := true, apart := false, narrowed := true }
def FnGroupsUptoSaid : Prop := fnGroupsUptoRow.holds Try.pinned (OpenSpec.upto fnGroupsSpec)

/-- 'laws.FnClasses', WHERE WHAT IT READS IS OF BULK AT MOST 1048576: true; the input reads as it did. -/
def fnClassesUptoRow : OpenClaim := { program := "ytbkbcbanfnhjpaa", sum := "8a472686bf060af4b0d56206dcc49c076560eb0a1f557be1e2cc52a6a54102ce", func := "loop.example/g01000/laws.FnClasses", spec := "fnClasses", unfollowed := true, recurses := true, apart := false, narrowed := true }
def FnClassesUptoSaid : Prop := fnClassesUptoRow.holds Try.pinned (OpenSpec.upto fnClassesSpec)

end Rows
end Go.Proofs.Ytbkbcbanfnhjpaa
