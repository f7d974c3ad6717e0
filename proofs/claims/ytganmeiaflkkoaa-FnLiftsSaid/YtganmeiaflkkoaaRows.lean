/-
  No cell of these rows narrows 'for every input' (looked for: loops, veiled, ifaces, maps, wideKeys, modest, calm, conditions, laid).
  DERIVED. THE GIVEN ROWS OF THIS SEAT. 2 by the template 'for every input the law returns true; each argument reads behind the call as it read before'; 0 by the template 'total and deterministic' (their statements: YtganmeiaflkkoaaTotals.lean).
  GIVEN WITH THE SEED: the statements are not yours to turn. If you find one false, say at which input.
  Laid BY PROGRAM, IN A SANDBOX (cutbox-rows.mjs): the forced cells as the released guide's own fill.sh prints them over the translation 8bc43de94f1e176a… (all of the seat's roots in one cut). By AI agents, Wed Nov 11 2026. No macro, syntax, notation, axiom, sorry.
-/
import Derived.Test.YtganmeiaflkkoaaChecked
import GoSem.Claim
import GoSem.ClaimJoined
import GoSem.ClaimMapViews
import Derived.JoinedTies
import Derived.KernelRfl
namespace Go.Proofs.Ytganmeiaflkkoaa
/- THE CELL 'sum', in the pinned program and in every row, IS THE sha256 OF THE DUMP (.gsa) THAT YtganmeiaflkkoaaProg.lean LOADS. Nothing in Lean hashes anything: it is a label: what it is worth is what the hold of that sum in a sandbox is worth. -/
noncomputable def Try.pinned : Pinned := { name := "ytganmeiaflkkoaa", sum := "8bc43de94f1e176a91a0bc1a6df8550d03357e7c35ea228f9f086f36440c8d98", checked := Try.checked }
namespace Rows
def none {H : Type} : Left H := { results := [], args := [] }

/-- 'laws.FnRingProducts': WHATEVER THE INPUT: true; the input reads as it did. -/
def fnRingProductsSpec : ChangeSpec := { name := "fnRingProducts", fn := fun _ => fun
  | [d] => { results := [.lit (.bool true)], args := [d] }
  | _ => none }
def fnRingProductsRow : OpenClaim := { program := "ytganmeiaflkkoaa", sum := "8bc43de94f1e176a91a0bc1a6df8550d03357e7c35ea228f9f086f36440c8d98", func := "loop.example/g01000/laws.FnRingProducts", spec := "fnRingProducts", unfollowed := true, recurses := true, apart := false }
def FnRingProductsSaid : Prop := fnRingProductsRow.holds Try.pinned (OpenSpec.ofChange fnRingProductsSpec)

/-- ITS FALSE NEIGHBOUR: 'it returns false'. Refute it at one input. -/
def fnRingProductsWrong : ChangeSpec := { name := "fnRingProducts", fn := fun _ => fun
  | [d] => { results := [.lit (.bool false)], args := [d] }
  | _ => none }
def FnRingProductsWrongFalsely : Prop := fnRingProductsRow.holds Try.pinned (OpenSpec.ofChange fnRingProductsWrong)

/-- 'laws.FnLifts': WHATEVER THE INPUT: true; the input reads as it did. -/
def fnLiftsSpec : ChangeSpec := { name := "fnLifts", fn := fun _ => fun
  | [d] => { results := [.lit (.bool true)], args := [d] }
  | _ => none }
def fnLiftsRow : OpenClaim := { program := "ytganmeiaflkkoaa", sum := "8bc43de94f1e176a91a0bc1a6df8550d03357e7c35ea228f9f086f36440c8d98", func := "loop.example/g01000/laws.FnLifts", spec := "fnLifts", unfollowed := true, recurses := true, apart := false }
def FnLiftsSaid : Prop := fnLiftsRow.holds Try.pinned (OpenSpec.ofChange fnLiftsSpec)

/-- ITS FALSE NEIGHBOUR: 'it returns false'. Refute it at one input. -/
def fnLiftsWrong : ChangeSpec := { name := "fnLifts", fn := fun _ => fun
  | [d] => { results := [.lit (.bool false)], args := [d] }
  | _ => none }
def FnLiftsWrongFalsely : Prop := fnLiftsRow.holds Try.pinned (OpenSpec.ofChange fnLiftsWrong)

/- THE SECOND FORM. 'bulk': how many values and letters a reading holds, each counted each time it is reached (what is shared counts as often as it is met; a slice's spare places count too). A statement '..UptoSaid' is the law's where the arguments, and the package variables that the reading takes, are together of bulk at most 1048576: NARROWER than '..Said'. Prove '..Said' where nothing that the law and all that it calls make is longer than what came in: it says more and counts as full. Else prove '..UptoSaid'. A law counts once. -/
mutual
def uptoBulk {H : Type} : DataW H → Nat
  | .lit (.string bytes) => bytes.length + 1
  | .lit _ => 1
  | .nil => 1
  | .ptr d => uptoBulk d + 1
  | .slice elems spare => uptoBulkAll elems + uptoBulkAll spare + 1
  | .agg parts => uptoBulkAll parts + 1
  | .iface _ d => uptoBulk d + 1
  | .map entries => uptoBulkEntries entries + 1
  | .held _ => 1
def uptoBulkAll {H : Type} : List (DataW H) → Nat
  | [] => 0
  | d :: r => uptoBulk d + uptoBulkAll r
def uptoBulkEntries {H : Type} : List (Lit × DataW H) → Nat
  | [] => 0
  | x :: r => uptoBulkEntry x + uptoBulkEntries r
def uptoBulkEntry {H : Type} : Lit × DataW H → Nat
  | (.string bytes, d) => bytes.length + uptoBulk d + 1
  | (_, d) => uptoBulk d + 1
 end
def uptoSmall : (H : Type) → List (DataW H) → Bool := fun _ ds => decide (uptoBulkAll ds ≤ 1048576)
def OpenSpec.upto (s : _root_.Go.ChangeSpec) : _root_.Go.OpenSpec := { _root_.Go.OpenSpec.ofChange s with cond := some uptoSmall }

/-- 'laws.FnRingProducts', WHERE WHAT IT READS IS OF BULK AT MOST 1048576: true; the input reads as it did. -/
def fnRingProductsUptoRow : OpenClaim := { program := "ytganmeiaflkkoaa", sum := "8bc43de94f1e176a91a0bc1a6df8550d03357e7c35ea228f9f086f36440c8d98", func := "loop.example/g01000/laws.FnRingProducts", spec := "fnRingProducts", unfollowed := true, recurses := true, apart := false, narrowed := true }
def FnRingProductsUptoSaid : Prop := fnRingProductsUptoRow.holds Try.pinned (OpenSpec.upto fnRingProductsSpec)

/-- 'laws.FnLifts', WHERE WHAT IT READS IS OF BULK AT MOST 1048576: true; the input reads as it did. -/
def fnLiftsUptoRow : OpenClaim := { program := "ytganmeiaflkkoaa", sum := "8bc43de94f1e176a91a0bc1a6df8550d03357e7c35ea228f9f086f36440c8d98", func := "loop.example/g01000/laws.FnLifts", spec := "fnLifts", unfollowed := true, recurses := true, apart := false, narrowed := true }
def FnLiftsUptoSaid : Prop := fnLiftsUptoRow.holds Try.pinned (OpenSpec.upto fnLiftsSpec)

end Rows
end Go.Proofs.Ytganmeiaflkkoaa
