/-
  No cell of these rows narrows 'for every input' (looked for: loops, veiled, ifaces, maps, wideKeys, modest, calm, conditions, laid).
  DERIVED. THE GIVEN ROWS OF THIS SEAT. 5 by the template 'for every input the law returns true; each argument reads behind the call as it read before'; 0 by the template 'total and deterministic' (their statements: YteolkmgdnbdccaaTotals.lean).
  GIVEN WITH THE SEED: the statements are not yours to turn. If you find one false, say at which input.
  Laid BY PROGRAM, IN A SANDBOX (cutbox-rows.mjs): the forced cells as the released guide's own fill.sh prints them over the translation b9052a23f2850ebb… (all of the seat's roots in one cut). By AI agents, Wed Nov 11 2026. No macro, syntax, notation, axiom, sorry.
-/
import Derived.Test.YteolkmgdnbdccaaChecked
import GoSem.Claim
import GoSem.ClaimJoined
import GoSem.ClaimMapViews
import Derived.JoinedTies
import Derived.KernelRfl
namespace Go.Proofs.Yteolkmgdnbdccaa
/- THE CELL 'sum', in the pinned program and in every row, IS THE sha256 OF THE DUMP (.gsa) THAT YteolkmgdnbdccaaProg.lean LOADS. Nothing in Lean hashes anything: it is a label: what it is worth is what the hold of that sum in a sandbox is worth. -/
noncomputable def Try.pinned : Pinned := { name := "yteolkmgdnbdccaa", sum := "b9052a23f2850ebb6f24ef93354deb2529af37acc2c244563ee522c44eaa9862", checked := Try.checked }
namespace Rows
def none {H : Type} : Left H := { results := [], args := [] }

/-- 'laws.FnExactOrbitOf': WHATEVER THE INPUT: true; the input reads as it did. -/
def fnExactOrbitOfSpec : ChangeSpec := { name := "fnExactOrbitOf", fn := fun _ => fun
  | [d1, d2] => { results := [.lit (.bool true)], args := [d1, d2] }
  | _ => none }
def fnExactOrbitOfRow : OpenClaim := { program := "yteolkmgdnbdccaa", sum := "b9052a23f2850ebb6f24ef93354deb2529af37acc2c244563ee522c44eaa9862", func := "loop.example/g01000/laws.FnExactOrbitOf", spec := "fnExactOrbitOf", unfollowed := true, recurses := true, apart := false }
def FnExactOrbitOfSaid : Prop := fnExactOrbitOfRow.holds Try.pinned (OpenSpec.ofChange fnExactOrbitOfSpec)

/-- ITS FALSE NEIGHBOUR: 'it returns false'. Refute it at one input. -/
def fnExactOrbitOfWrong : ChangeSpec := { name := "fnExactOrbitOf", fn := fun _ => fun
  | [d1, d2] => { results := [.lit (.bool false)], args := [d1, d2] }
  | _ => none }
def FnExactOrbitOfWrongFalsely : Prop := fnExactOrbitOfRow.holds Try.pinned (OpenSpec.ofChange fnExactOrbitOfWrong)

/-- 'laws.FnExactIsTransitive': WHATEVER THE INPUT: true; the input reads as it did. -/
def fnExactIsTransitiveSpec : ChangeSpec := { name := "fnExactIsTransitive", fn := fun _ => fun
  | [d] => { results := [.lit (.bool true)], args := [d] }
  | _ => none }
def fnExactIsTransitiveRow : OpenClaim := { program := "yteolkmgdnbdccaa", sum := "b9052a23f2850ebb6f24ef93354deb2529af37acc2c244563ee522c44eaa9862", func := "loop.example/g01000/laws.FnExactIsTransitive", spec := "fnExactIsTransitive", unfollowed := true, recurses := true, apart := false }
def FnExactIsTransitiveSaid : Prop := fnExactIsTransitiveRow.holds Try.pinned (OpenSpec.ofChange fnExactIsTransitiveSpec)

/-- ITS FALSE NEIGHBOUR: 'it returns false'. Refute it at one input. -/
def fnExactIsTransitiveWrong : ChangeSpec := { name := "fnExactIsTransitive", fn := fun _ => fun
  | [d] => { results := [.lit (.bool false)], args := [d] }
  | _ => none }
def FnExactIsTransitiveWrongFalsely : Prop := fnExactIsTransitiveRow.holds Try.pinned (OpenSpec.ofChange fnExactIsTransitiveWrong)

/-- 'laws.FnExactCountOrbits': WHATEVER THE INPUT: true; the input reads as it did. -/
def fnExactCountOrbitsSpec : ChangeSpec := { name := "fnExactCountOrbits", fn := fun _ => fun
  | [d] => { results := [.lit (.bool true)], args := [d] }
  | _ => none }
def fnExactCountOrbitsRow : OpenClaim := { program := "yteolkmgdnbdccaa", sum := "b9052a23f2850ebb6f24ef93354deb2529af37acc2c244563ee522c44eaa9862", func := "loop.example/g01000/laws.FnExactCountOrbits", spec := "fnExactCountOrbits", unfollowed := true, recurses := true, apart := false }
def FnExactCountOrbitsSaid : Prop := fnExactCountOrbitsRow.holds Try.pinned (OpenSpec.ofChange fnExactCountOrbitsSpec)

/-- ITS FALSE NEIGHBOUR: 'it returns false'. Refute it at one input. -/
def fnExactCountOrbitsWrong : ChangeSpec := { name := "fnExactCountOrbits", fn := fun _ => fun
  | [d] => { results := [.lit (.bool false)], args := [d] }
  | _ => none }
def FnExactCountOrbitsWrongFalsely : Prop := fnExactCountOrbitsRow.holds Try.pinned (OpenSpec.ofChange fnExactCountOrbitsWrong)

/-- 'laws.FnExactStabilizerOf': WHATEVER THE INPUT: true; the input reads as it did. -/
def fnExactStabilizerOfSpec : ChangeSpec := { name := "fnExactStabilizerOf", fn := fun _ => fun
  | [d1, d2] => { results := [.lit (.bool true)], args := [d1, d2] }
  | _ => none }
def fnExactStabilizerOfRow : OpenClaim := { program := "yteolkmgdnbdccaa", sum := "b9052a23f2850ebb6f24ef93354deb2529af37acc2c244563ee522c44eaa9862", func := "loop.example/g01000/laws.FnExactStabilizerOf", spec := "fnExactStabilizerOf", unfollowed := true, recurses := true, apart := false }
def FnExactStabilizerOfSaid : Prop := fnExactStabilizerOfRow.holds Try.pinned (OpenSpec.ofChange fnExactStabilizerOfSpec)

/-- ITS FALSE NEIGHBOUR: 'it returns false'. Refute it at one input. -/
def fnExactStabilizerOfWrong : ChangeSpec := { name := "fnExactStabilizerOf", fn := fun _ => fun
  | [d1, d2] => { results := [.lit (.bool false)], args := [d1, d2] }
  | _ => none }
def FnExactStabilizerOfWrongFalsely : Prop := fnExactStabilizerOfRow.holds Try.pinned (OpenSpec.ofChange fnExactStabilizerOfWrong)

/-- 'laws.FnExactMeetGroups': WHATEVER THE INPUT: true; the input reads as it did. -/
def fnExactMeetGroupsSpec : ChangeSpec := { name := "fnExactMeetGroups", fn := fun _ => fun
  | [d1, d2] => { results := [.lit (.bool true)], args := [d1, d2] }
  | _ => none }
def fnExactMeetGroupsRow : OpenClaim := { program := "yteolkmgdnbdccaa", sum := "b9052a23f2850ebb6f24ef93354deb2529af37acc2c244563ee522c44eaa9862", func := "loop.example/g01000/laws.FnExactMeetGroups", spec := "fnExactMeetGroups", unfollowed := true, recurses := true, apart := false }
def FnExactMeetGroupsSaid : Prop := fnExactMeetGroupsRow.holds Try.pinned (OpenSpec.ofChange fnExactMeetGroupsSpec)

/-- ITS FALSE NEIGHBOUR: 'it returns false'. Refute it at one input. -/
def fnExactMeetGroupsWrong : ChangeSpec := { name := "fnExactMeetGroups", fn := fun _ => fun
  | [d1, d2] => { results := [.lit (.bool false)], args := [d1, d2] }
  | _ => none }
def FnExactMeetGroupsWrongFalsely : Prop := fnExactMeetGroupsRow.holds Try.pinned (OpenSpec.ofChange fnExactMeetGroupsWrong)

/- THE SECOND FORM. 'bulk': how many values and letters a reading holds, each counted each time it is reached (what is shared counts as often as it is met; a slice's spare places count too). A statement '..UptoSaid' is the law's where the arguments, and the package variables that the reading takes, are together of bulk at most 1048576: NARROWER than '..Said'. Prove '..Said' where nothing that the law and all that it calls make is longer than what came in: it says more and counts as full. Else prove '..UptoSaid'. A law counts once. -/
mutual
def uptoBulk {H : Type} : DataW H → Nat
  | .lit (.string bytes) => bytes.length + 1
  | .lit _ => 1
  | .nil => 1
  | .ptr d => uptoBulk d + 1
  | .slice elems spare => uptoBulkAll elems + uptoBulkAll spare + 1
  | .agg parts => uptoBulkAll parts + 1
  | .iface _ d => uptoBulk d + 1
  | .map entries => uptoBulkEntries entries + 1
  | .held _ => 1
def uptoBulkAll {H : Type} : List (DataW H) → Nat
  | [] => 0
  | d :: r => uptoBulk d + uptoBulkAll r
def uptoBulkEntries {H : Type} : List (Lit × DataW H) → Nat
  | [] => 0
  | x :: r => uptoBulkEntry x + uptoBulkEntries r
def uptoBulkEntry {H : Type} : Lit × DataW H → Nat
  | (.string bytes, d) => bytes.length + uptoBulk d + 1
  | (_, d) => uptoBulk d + 1
 end
def uptoSmall : (H : Type) → List (DataW H) → Bool := fun _ ds => decide (uptoBulkAll ds ≤ 1048576)
def OpenSpec.upto (s : _root_.Go.ChangeSpec) : _root_.Go.OpenSpec := { _root_.Go.OpenSpec.ofChange s with cond := some uptoSmall }

/-- 'laws.FnExactOrbitOf', WHERE WHAT IT READS IS OF BULK AT MOST 1048576: true; the input reads as it did. -/
def fnExactOrbitOfUptoRow : OpenClaim := { program := "yteolkmgdnbdccaa", sum := "b9052a23f2850ebb6f24ef93354deb2529af37acc2c244563ee522c44eaa9862", func := "loop.example/g01000/laws.FnExactOrbitOf", spec := "fnExactOrbitOf", unfollowed := true, recurses := true, apart := false, narrowed := true }
def FnExactOrbitOfUptoSaid : Prop := fnExactOrbitOfUptoRow.holds Try.pinned (OpenSpec.upto fnExactOrbitOfSpec)

/-- 'laws.FnExactIsTransitive', WHERE WHAT IT READS IS OF BULK AT MOST 1048576: true; the input reads as it did. -/
def fnExactIsTransitiveUptoRow : OpenClaim := { program := "yteolkmgdnbdccaa", sum := "b9052a23f2850ebb6f24ef93354deb2529af37acc2c244563ee522c44eaa9862", func := "loop.example/g01000/laws.FnExactIsTransitive", spec := "fnExactIsTransitive", unfollowed := true, recurses := true, apart := false, narrowed := true }
def FnExactIsTransitiveUptoSaid : Prop := fnExactIsTransitiveUptoRow.holds Try.pinned (OpenSpec.upto fnExactIsTransitiveSpec)

/-- 'laws.FnExactCountOrbits', WHERE WHAT IT READS IS OF BULK AT MOST 1048576: true; the input reads as it did. -/
def fnExactCountOrbitsUptoRow : OpenClaim := { program := "yteolkmgdnbdccaa", sum := "b9052a23f2850ebb6f24ef93354deb2529af37acc2c244563ee522c44eaa9862", func := "loop.example/g01000/laws.FnExactCountOrbits", spec := "fnExactCountOrbits", unfollowed := true, recurses := true, apart := false, narrowed := true }
def FnExactCountOrbitsUptoSaid : Prop := fnExactCountOrbitsUptoRow.holds Try.pinned (OpenSpec.upto fnExactCountOrbitsSpec)

/-- 'laws.FnExactStabilizerOf', WHERE WHAT IT READS IS OF BULK AT MOST 1048576: true; the input reads as it did. -/
def fnExactStabilizerOfUptoRow : OpenClaim := { program := "yteolkmgdnbdccaa", sum := "b9052a23f2850ebb6f24ef93354deb2529af37acc2c244563ee522c44eaa9862", func := "loop.example/g01000/laws.FnExactStabilizerOf", spec := "fnExactStabilizerOf", unfollowed := true, recurses := true, apart := false, narrowed := true }
def FnExactStabilizerOfUptoSaid : Prop := fnExactStabilizerOfUptoRow.holds Try.pinned (OpenSpec.upto fnExactStabilizerOfSpec)

/-- 'laws.FnExactMeetGroups', WHERE WHAT IT READS IS OF BULK AT MOST 1048576: true; the input reads as it did. -/
def fnExactMeetGroupsUptoRow : OpenClaim := { program := "yteolkmgdnbdccaa", sum := "b9052a23f2850ebb6f24ef93354deb2529af37acc2c244563ee522c44eaa9862", func := "loop.example/g01000/laws.FnExactMeetGroups", spec := "fnExactMeetGroups", unfollowed := true, recurses := true, apart := false, narrowed := true }
def FnExactMeetGroupsUptoSaid : Prop := fnExactMeetGroupsUptoRow.holds Try.pinned (OpenSpec.upto fnExactMeetGroupsSpec)

end Rows
end Go.Proofs.Yteolkmgdnbdccaa
