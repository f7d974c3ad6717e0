/-
  No cell of these rows narrows 'for every input' (looked for: loops, veiled, ifaces, maps, wideKeys, modest, calm, conditions, laid).
  DERIVED. THE GIVEN ROWS OF THIS SEAT. 9 by the template 'for every input the law returns true; each argument reads behind the call as it read before'; 0 by the template 'total and deterministic' (their statements: YtfdcadgjcppokaaTotals.lean).
  GIVEN WITH THE SEED: the statements are not yours to turn. If you find one false, say at which input.
  Laid BY PROGRAM, IN A SANDBOX (cutbox-rows.mjs): the forced cells as the released guide's own fill.sh prints them over the translation 95a7573547d2517b… (all of the seat's roots in one cut). By AI agents, Wed Nov 11 2026. No macro, syntax, notation, axiom, sorry.
-/
import Derived.Test.YtfdcadgjcppokaaChecked
import GoSem.Claim
import GoSem.ClaimJoined
import GoSem.ClaimMapViews
import Derived.JoinedTies
import Derived.KernelRfl
namespace Go.Proofs.Ytfdcadgjcppokaa
/- THE CELL 'sum', in the pinned program and in every row, IS THE sha256 OF THE DUMP (.gsa) THAT YtfdcadgjcppokaaProg.lean LOADS. Nothing in Lean hashes anything: it is a label: what it is worth is what the hold of that sum in a sandbox is worth. -/
noncomputable def Try.pinned : Pinned := { name := "ytfdcadgjcppokaa", sum := "95a7573547d2517b7a09e806f4d70747d9c31aec0f91c11fedfd47e579da3571", checked := Try.checked }
namespace Rows
def none {H : Type} : Left H := { results := [], args := [] }

/-- 'laws.FnExactValueInRing': WHATEVER THE INPUT: true; the input reads as it did. -/
def fnExactValueInRingSpec : ChangeSpec := { name := "fnExactValueInRing", fn := fun _ => fun
  | [d1, d2, d3] => { results := [.lit (.bool true)], args := [d1, d2, d3] }
  | _ => none }
def fnExactValueInRingRow : OpenClaim := { program := "ytfdcadgjcppokaa", sum := "95a7573547d2517b7a09e806f4d70747d9c31aec0f91c11fedfd47e579da3571", func := "loop.example/g01000/laws.FnExactValueInRing", spec := "fnExactValueInRing", unfollowed := true, recurses := true, apart := false }
def FnExactValueInRingSaid : Prop := fnExactValueInRingRow.holds Try.pinned (OpenSpec.ofChange fnExactValueInRingSpec)

/-- ITS FALSE NEIGHBOUR: 'it returns false'. Refute it at one input. -/
def fnExactValueInRingWrong : ChangeSpec := { name := "fnExactValueInRing", fn := fun _ => fun
  | [d1, d2, d3] => { results := [.lit (.bool false)], args := [d1, d2, d3] }
  | _ => none }
def FnExactValueInRingWrongFalsely : Prop := fnExactValueInRingRow.holds Try.pinned (OpenSpec.ofChange fnExactValueInRingWrong)

/-- 'laws.FnExactImageOf': WHATEVER THE INPUT: true; the input reads as it did. -/
def fnExactImageOfSpec : ChangeSpec := { name := "fnExactImageOf", fn := fun _ => fun
  | [d1, d2] => { results := [.lit (.bool true)], args := [d1, d2] }
  | _ => none }
def fnExactImageOfRow : OpenClaim := { program := "ytfdcadgjcppokaa", sum := "95a7573547d2517b7a09e806f4d70747d9c31aec0f91c11fedfd47e579da3571", func := "loop.example/g01000/laws.FnExactImageOf", spec := "fnExactImageOf", unfollowed := true, recurses := true, apart := false }
def FnExactImageOfSaid : Prop := fnExactImageOfRow.holds Try.pinned (OpenSpec.ofChange fnExactImageOfSpec)

/-- ITS FALSE NEIGHBOUR: 'it returns false'. Refute it at one input. -/
def fnExactImageOfWrong : ChangeSpec := { name := "fnExactImageOf", fn := fun _ => fun
  | [d1, d2] => { results := [.lit (.bool false)], args := [d1, d2] }
  | _ => none }
def FnExactImageOfWrongFalsely : Prop := fnExactImageOfRow.holds Try.pinned (OpenSpec.ofChange fnExactImageOfWrong)

/-- 'laws.FnExactDivideInRing': WHATEVER THE INPUT: true; the input reads as it did. -/
def fnExactDivideInRingSpec : ChangeSpec := { name := "fnExactDivideInRing", fn := fun _ => fun
  | [d1, d2, d3] => { results := [.lit (.bool true)], args := [d1, d2, d3] }
  | _ => none }
def fnExactDivideInRingRow : OpenClaim := { program := "ytfdcadgjcppokaa", sum := "95a7573547d2517b7a09e806f4d70747d9c31aec0f91c11fedfd47e579da3571", func := "loop.example/g01000/laws.FnExactDivideInRing", spec := "fnExactDivideInRing", unfollowed := true, recurses := true, apart := false }
def FnExactDivideInRingSaid : Prop := fnExactDivideInRingRow.holds Try.pinned (OpenSpec.ofChange fnExactDivideInRingSpec)

/-- ITS FALSE NEIGHBOUR: 'it returns false'. Refute it at one input. -/
def fnExactDivideInRingWrong : ChangeSpec := { name := "fnExactDivideInRing", fn := fun _ => fun
  | [d1, d2, d3] => { results := [.lit (.bool false)], args := [d1, d2, d3] }
  | _ => none }
def FnExactDivideInRingWrongFalsely : Prop := fnExactDivideInRingRow.holds Try.pinned (OpenSpec.ofChange fnExactDivideInRingWrong)

/-- 'laws.FnExactMultiplyInRing': WHATEVER THE INPUT: true; the input reads as it did. -/
def fnExactMultiplyInRingSpec : ChangeSpec := { name := "fnExactMultiplyInRing", fn := fun _ => fun
  | [d1, d2, d3] => { results := [.lit (.bool true)], args := [d1, d2, d3] }
  | _ => none }
def fnExactMultiplyInRingRow : OpenClaim := { program := "ytfdcadgjcppokaa", sum := "95a7573547d2517b7a09e806f4d70747d9c31aec0f91c11fedfd47e579da3571", func := "loop.example/g01000/laws.FnExactMultiplyInRing", spec := "fnExactMultiplyInRing", unfollowed := true, recurses := true, apart := false }
def FnExactMultiplyInRingSaid : Prop := fnExactMultiplyInRingRow.holds Try.pinned (OpenSpec.ofChange fnExactMultiplyInRingSpec)

/-- ITS FALSE NEIGHBOUR: 'it returns false'. Refute it at one input. -/
def fnExactMultiplyInRingWrong : ChangeSpec := { name := "fnExactMultiplyInRing", fn := fun _ => fun
  | [d1, d2, d3] => { results := [.lit (.bool false)], args := [d1, d2, d3] }
  | _ => none }
def FnExactMultiplyInRingWrongFalsely : Prop := fnExactMultiplyInRingRow.holds Try.pinned (OpenSpec.ofChange fnExactMultiplyInRingWrong)

/-- 'laws.FnExactStableRoot': WHATEVER THE INPUT: true; the input reads as it did. -/
def fnExactStableRootSpec : ChangeSpec := { name := "fnExactStableRoot", fn := fun _ => fun
  | [d1, d2, d3] => { results := [.lit (.bool true)], args := [d1, d2, d3] }
  | _ => none }
def fnExactStableRootRow : OpenClaim := { program := "ytfdcadgjcppokaa", sum := "95a7573547d2517b7a09e806f4d70747d9c31aec0f91c11fedfd47e579da3571", func := "loop.example/g01000/laws.FnExactStableRoot", spec := "fnExactStableRoot", unfollowed := true, recurses := true, apart := false }
def FnExactStableRootSaid : Prop := fnExactStableRootRow.holds Try.pinned (OpenSpec.ofChange fnExactStableRootSpec)

/-- ITS FALSE NEIGHBOUR: 'it returns false'. Refute it at one input. -/
def fnExactStableRootWrong : ChangeSpec := { name := "fnExactStableRoot", fn := fun _ => fun
  | [d1, d2, d3] => { results := [.lit (.bool false)], args := [d1, d2, d3] }
  | _ => none }
def FnExactStableRootWrongFalsely : Prop := fnExactStableRootRow.holds Try.pinned (OpenSpec.ofChange fnExactStableRootWrong)

/-- 'laws.FnExactNewtonStep': WHATEVER THE INPUT: true; the input reads as it did. -/
def fnExactNewtonStepSpec : ChangeSpec := { name := "fnExactNewtonStep", fn := fun _ => fun
  | [d1, d2, d3] => { results := [.lit (.bool true)], args := [d1, d2, d3] }
  | _ => none }
def fnExactNewtonStepRow : OpenClaim := { program := "ytfdcadgjcppokaa", sum := "95a7573547d2517b7a09e806f4d70747d9c31aec0f91c11fedfd47e579da3571", func := "loop.example/g01000/laws.FnExactNewtonStep", spec := "fnExactNewtonStep", unfollowed := true, recurses := true, apart := false }
def FnExactNewtonStepSaid : Prop := fnExactNewtonStepRow.holds Try.pinned (OpenSpec.ofChange fnExactNewtonStepSpec)

/-- ITS FALSE NEIGHBOUR: 'it returns false'. Refute it at one input. -/
def fnExactNewtonStepWrong : ChangeSpec := { name := "fnExactNewtonStep", fn := fun _ => fun
  | [d1, d2, d3] => { results := [.lit (.bool false)], args := [d1, d2, d3] }
  | _ => none }
def FnExactNewtonStepWrongFalsely : Prop := fnExactNewtonStepRow.holds Try.pinned (OpenSpec.ofChange fnExactNewtonStepWrong)

/-- 'laws.FnExactArePair': WHATEVER THE INPUT: true; the input reads as it did. -/
def fnExactArePairSpec : ChangeSpec := { name := "fnExactArePair", fn := fun _ => fun
  | [d1, d2, d3, d4] => { results := [.lit (.bool true)], args := [d1, d2, d3, d4] }
  | _ => none }
def fnExactArePairRow : OpenClaim := { program := "ytfdcadgjcppokaa", sum := "95a7573547d2517b7a09e806f4d70747d9c31aec0f91c11fedfd47e579da3571", func := "loop.example/g01000/laws.FnExactArePair", spec := "fnExactArePair", unfollowed := true, recurses := true, apart := false }
def FnExactArePairSaid : Prop := fnExactArePairRow.holds Try.pinned (OpenSpec.ofChange fnExactArePairSpec)

/-- ITS FALSE NEIGHBOUR: 'it returns false'. Refute it at one input. -/
def fnExactArePairWrong : ChangeSpec := { name := "fnExactArePair", fn := fun _ => fun
  | [d1, d2, d3, d4] => { results := [.lit (.bool false)], args := [d1, d2, d3, d4] }
  | _ => none }
def FnExactArePairWrongFalsely : Prop := fnExactArePairRow.holds Try.pinned (OpenSpec.ofChange fnExactArePairWrong)

/-- 'laws.FnExactLiftPair': WHATEVER THE INPUT: true; the input reads as it did. -/
def fnExactLiftPairSpec : ChangeSpec := { name := "fnExactLiftPair", fn := fun _ => fun
  | [d1, d2, d3, d4] => { results := [.lit (.bool true)], args := [d1, d2, d3, d4] }
  | _ => none }
def fnExactLiftPairRow : OpenClaim := { program := "ytfdcadgjcppokaa", sum := "95a7573547d2517b7a09e806f4d70747d9c31aec0f91c11fedfd47e579da3571", func := "loop.example/g01000/laws.FnExactLiftPair", spec := "fnExactLiftPair", unfollowed := true, recurses := true, apart := false }
def FnExactLiftPairSaid : Prop := fnExactLiftPairRow.holds Try.pinned (OpenSpec.ofChange fnExactLiftPairSpec)

/-- ITS FALSE NEIGHBOUR: 'it returns false'. Refute it at one input. -/
def fnExactLiftPairWrong : ChangeSpec := { name := "fnExactLiftPair", fn := fun _ => fun
  | [d1, d2, d3, d4] => { results := [.lit (.bool false)], args := [d1, d2, d3, d4] }
  | _ => none }
def FnExactLiftPairWrongFalsely : Prop := fnExactLiftPairRow.holds Try.pinned (OpenSpec.ofChange fnExactLiftPairWrong)

/-- 'laws.FnExactSquareRootsOf': WHATEVER THE INPUT: true; the input reads as it did. -/
def fnExactSquareRootsOfSpec : ChangeSpec := { name := "fnExactSquareRootsOf", fn := fun _ => fun
  | [d1, d2] => { results := [.lit (.bool true)], args := [d1, d2] }
  | _ => none }
def fnExactSquareRootsOfRow : OpenClaim := { program := "ytfdcadgjcppokaa", sum := "95a7573547d2517b7a09e806f4d70747d9c31aec0f91c11fedfd47e579da3571", func := "loop.example/g01000/laws.FnExactSquareRootsOf", spec := "fnExactSquareRootsOf", recurses := true, apart := false }
def FnExactSquareRootsOfSaid : Prop := fnExactSquareRootsOfRow.holds Try.pinned (OpenSpec.ofChange fnExactSquareRootsOfSpec)

/-- ITS FALSE NEIGHBOUR: 'it returns false'. Refute it at one input. -/
def fnExactSquareRootsOfWrong : ChangeSpec := { name := "fnExactSquareRootsOf", fn := fun _ => fun
  | [d1, d2] => { results := [.lit (.bool false)], args := [d1, d2] }
  | _ => none }
def FnExactSquareRootsOfWrongFalsely : Prop := fnExactSquareRootsOfRow.holds Try.pinned (OpenSpec.ofChange fnExactSquareRootsOfWrong)

/- THE SECOND FORM. 'bulk': how many values and letters a reading holds, each counted each time it is reached (what is shared counts as often as it is met; a slice's spare places count too). A statement '..UptoSaid' is the law's where the arguments, and the package variables that the reading takes, are together of bulk at most 1048576: NARROWER than '..Said'. Prove '..Said' where nothing that the law and all that it calls make is longer than what came in: it says more and counts as full. Else prove '..UptoSaid'. A law counts once. -/
mutual
def uptoBulk {H : Type} : DataW H → Nat
  | .lit (.string bytes) => bytes.length + 1
  | .lit _ => 1
  | .nil => 1
  | .ptr d => uptoBulk d + 1
  | .slice elems spare => uptoBulkAll elems + uptoBulkAll spare + 1
  | .agg parts => uptoBulkAll parts + 1
  | .iface _ d => uptoBulk d + 1
  | .map entries => uptoBulkEntries entries + 1
  | .held _ => 1
def uptoBulkAll {H : Type} : List (DataW H) → Nat
  | [] => 0
  | d :: r => uptoBulk d + uptoBulkAll r
def uptoBulkEntries {H : Type} : List (Lit × DataW H) → Nat
  | [] => 0
  | x :: r => uptoBulkEntry x + uptoBulkEntries r
def uptoBulkEntry {H : Type} : Lit × DataW H → Nat
  | (.string bytes, d) => bytes.length + uptoBulk d + 1
  | (_, d) => uptoBulk d + 1
 end
def uptoSmall : (H : Type) → List (DataW H) → Bool := fun _ ds => decide (uptoBulkAll ds ≤ 1048576)
def OpenSpec.upto (s : _root_.Go.ChangeSpec) : _root_.Go.OpenSpec := { _root_.Go.OpenSpec.ofChange s with cond := some uptoSmall }

/-- 'laws.FnExactValueInRing', WHERE WHAT IT READS IS OF BULK AT MOST 1048576: true; the input reads as it did. -/
def fnExactValueInRingUptoRow : OpenClaim := { program := "ytfdcadgjcppokaa", sum := "95a7573547d2517b7a09e806f4d70747d9c31aec0f91c11fedfd47e579da3571", func := "loop.example/g01000/laws.FnExactValueInRing", spec := "fnExactValueInRing", unfollowed := true, recurses := true, apart := false, narrowed := true }
def FnExactValueInRingUptoSaid : Prop := fnExactValueInRingUptoRow.holds Try.pinned (OpenSpec.upto fnExactValueInRingSpec)

/-- 'laws.FnExactImageOf', WHERE WHAT IT READS IS OF BULK AT MOST 1048576: true; the input reads as it did. -/
def fnExactImageOfUptoRow : OpenClaim := { program := "ytfdcadgjcppokaa", sum := "95a7573547d2517b7a09e806f4d70747d9c31aec0f91c11fedfd47e579da3571", func := "loop.example/g01000/laws.FnExactImageOf", spec := "fnExactImageOf", unfollowed := true, recurses := true, apart := false, narrowed := true }
def FnExactImageOfUptoSaid : Prop := fnExactImageOfUptoRow.holds Try.pinned (OpenSpec.upto fnExactImageOfSpec)

/-- 'laws.FnExactDivideInRing', WHERE WHAT IT READS IS OF BULK AT MOST 1048576: true; the input reads as it did. -/
def fnExactDivideInRingUptoRow : OpenClaim := { program := "ytfdcadgjcppokaa", sum := "95a7573547d2517b7a09e806f4d70747d9c31aec0f91c11fedfd47e579da3571", func := "loop.example/g01000/laws.FnExactDivideInRing", spec := "fnExactDivideInRing", unfollowed := true, recurses := true, apart := false, narrowed := true }
def FnExactDivideInRingUptoSaid : Prop := fnExactDivideInRingUptoRow.holds Try.pinned (OpenSpec.upto fnExactDivideInRingSpec)

/-- 'laws.FnExactMultiplyInRing', WHERE WHAT IT READS IS OF BULK AT MOST 1048576: true; the input reads as it did. -/
def fnExactMultiplyInRingUptoRow : OpenClaim := { program := "ytfdcadgjcppokaa", sum := "95a7573547d2517b7a09e806f4d70747d9c31aec0f91c11fedfd47e579da3571", func := "loop.example/g01000/laws.FnExactMultiplyInRing", spec := "fnExactMultiplyInRing", unfollowed := true, recurses := true, apart := false, narrowed := true }
def FnExactMultiplyInRingUptoSaid : Prop := fnExactMultiplyInRingUptoRow.holds Try.pinned (OpenSpec.upto fnExactMultiplyInRingSpec)

/-- 'laws.FnExactStableRoot', WHERE WHAT IT READS IS OF BULK AT MOST 1048576: true; the input reads as it did. -/
def fnExactStableRootUptoRow : OpenClaim := { program := "ytfdcadgjcppokaa", sum := "95a7573547d2517b7a09e806f4d70747d9c31aec0f91c11fedfd47e579da3571", func := "loop.example/g01000/laws.FnExactStableRoot", spec := "fnExactStableRoot", unfollowed := true, recurses := true, apart := false, narrowed := true }
def FnExactStableRootUptoSaid : Prop := fnExactStableRootUptoRow.holds Try.pinned (OpenSpec.upto fnExactStableRootSpec)

/-- 'laws.FnExactNewtonStep', WHERE WHAT IT READS IS OF BULK AT MOST 1048576: true; the input reads as it did. -/
def fnExactNewtonStepUptoRow : OpenClaim := { program := "ytfdcadgjcppokaa", sum := "95a7573547d2517b7a09e806f4d70747d9c31aec0f91c11fedfd47e579da3571", func := "loop.example/g01000/laws.FnExactNewtonStep", spec := "fnExactNewtonStep", unfollowed := true, recurses := true, apart := false, narrowed := true }
def FnExactNewtonStepUptoSaid : Prop := fnExactNewtonStepUptoRow.holds Try.pinned (OpenSpec.upto fnExactNewtonStepSpec)

/-- 'laws.FnExactArePair', WHERE WHAT IT READS IS OF BULK AT MOST 1048576: true; the input reads as it did. -/
def fnExactArePairUptoRow : OpenClaim := { program := "ytfdcadgjcppokaa", sum := "95a7573547d2517b7a09e806f4d70747d9c31aec0f91c11fedfd47e579da3571", func := "loop.example/g01000/laws.FnExactArePair", spec := "fnExactArePair", unfollowed := true, recurses := true, apart := false, narrowed := true }
def FnExactArePairUptoSaid : Prop := fnExactArePairUptoRow.holds Try.pinned (OpenSpec.upto fnExactArePairSpec)

/-- 'laws.FnExactLiftPair', WHERE WHAT IT READS IS OF BULK AT MOST 1048576: true; the input reads as it did. -/
def fnExactLiftPairUptoRow : OpenClaim := { program := "ytfdcadgjcppokaa", sum := "95a7573547d2517b7a09e806f4d70747d9c31aec0f91c11fedfd47e579da3571", func := "loop.example/g01000/laws.FnExactLiftPair", spec := "fnExactLiftPair", unfollowed := true, recurses := true, apart := false, narrowed := true }
def FnExactLiftPairUptoSaid : Prop := fnExactLiftPairUptoRow.holds Try.pinned (OpenSpec.upto fnExactLiftPairSpec)

/-- 'laws.FnExactSquareRootsOf', WHERE WHAT IT READS IS OF BULK AT MOST 1048576: true; the input reads as it did. -/
def fnExactSquareRootsOfUptoRow : OpenClaim := { program := "ytfdcadgjcppokaa", sum := "95a7573547d2517b7a09e806f4d70747d9c31aec0f91c11fedfd47e579da3571", func := "loop.example/g01000/laws.FnExactSquareRootsOf", spec := "fnExactSquareRootsOf", recurses := true, apart := false, narrowed := true }
def FnExactSquareRootsOfUptoSaid : Prop := fnExactSquareRootsOfUptoRow.holds Try.pinned (OpenSpec.upto fnExactSquareRootsOfSpec)

end Rows
end Go.Proofs.Ytfdcadgjcppokaa
