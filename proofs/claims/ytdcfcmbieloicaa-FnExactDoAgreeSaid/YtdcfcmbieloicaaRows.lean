/-
  No cell of these rows narrows 'for every input' (looked for: loops, veiled, ifaces, maps, wideKeys, modest, calm, conditions, laid).
  DERIVED. THE GIVEN ROWS OF THIS SEAT. 14 by the template 'for every input the law returns true; each argument reads behind the call as it read before'; 0 by the template 'total and deterministic' (their statements: YtdcfcmbieloicaaTotals.lean).
  GIVEN WITH THE SEED: the statements are not yours to turn. If you find one false, say at which input.
  Laid BY PROGRAM, IN A SANDBOX (cutbox-rows.mjs): the forced cells as the released guide's own fill.sh prints them over the translation 40c5530648d33e86… (all of the seat's roots in one cut). By AI agents, Wed Nov 11 2026. No macro, syntax, notation, axiom, sorry.
-/
import Derived.Test.YtdcfcmbieloicaaChecked
import GoSem.Claim
import GoSem.ClaimJoined
import GoSem.ClaimMapViews
import Derived.JoinedTies
import Derived.KernelRfl
namespace Go.Proofs.Ytdcfcmbieloicaa
/- THE CELL 'sum', in the pinned program and in every row, IS THE sha256 OF THE DUMP (.gsa) THAT YtdcfcmbieloicaaProg.lean LOADS. Nothing in Lean hashes anything: it is a label: what it is worth is what the hold of that sum in a sandbox is worth. -/
noncomputable def Try.pinned : Pinned := { name := "ytdcfcmbieloicaa", sum := "40c5530648d33e86b15c2ebdb10b53c799d67103303c393698d921d0af634ecd", checked := Try.checked }
namespace Rows
def none {H : Type} : Left H := { results := [], args := [] }

/-- 'laws.FnExactShiftPadic': WHATEVER THE INPUT: true; the input reads as it did. -/
def fnExactShiftPadicSpec : ChangeSpec := { name := "fnExactShiftPadic", fn := fun _ => fun
  | [d1, d2] => { results := [.lit (.bool true)], args := [d1, d2] }
  | _ => none }
def fnExactShiftPadicRow : OpenClaim := { program := "ytdcfcmbieloicaa", sum := "40c5530648d33e86b15c2ebdb10b53c799d67103303c393698d921d0af634ecd", func := "loop.example/g01000/laws.FnExactShiftPadic", spec := "fnExactShiftPadic", apart := false }
def FnExactShiftPadicSaid : Prop := fnExactShiftPadicRow.holds Try.pinned (OpenSpec.ofChange fnExactShiftPadicSpec)

/-- ITS FALSE NEIGHBOUR: 'it returns false'. Refute it at one input. -/
def fnExactShiftPadicWrong : ChangeSpec := { name := "fnExactShiftPadic", fn := fun _ => fun
  | [d1, d2] => { results := [.lit (.bool false)], args := [d1, d2] }
  | _ => none }
def FnExactShiftPadicWrongFalsely : Prop := fnExactShiftPadicRow.holds Try.pinned (OpenSpec.ofChange fnExactShiftPadicWrong)

/-- 'laws.FnExactInverseOf': WHATEVER THE INPUT: true; the input reads as it did. -/
def fnExactInverseOfSpec : ChangeSpec := { name := "fnExactInverseOf", fn := fun _ => fun
  | [d1, d2] => { results := [.lit (.bool true)], args := [d1, d2] }
  | _ => none }
def fnExactInverseOfRow : OpenClaim := { program := "ytdcfcmbieloicaa", sum := "40c5530648d33e86b15c2ebdb10b53c799d67103303c393698d921d0af634ecd", func := "loop.example/g01000/laws.FnExactInverseOf", spec := "fnExactInverseOf", apart := false }
def FnExactInverseOfSaid : Prop := fnExactInverseOfRow.holds Try.pinned (OpenSpec.ofChange fnExactInverseOfSpec)

/-- ITS FALSE NEIGHBOUR: 'it returns false'. Refute it at one input. -/
def fnExactInverseOfWrong : ChangeSpec := { name := "fnExactInverseOf", fn := fun _ => fun
  | [d1, d2] => { results := [.lit (.bool false)], args := [d1, d2] }
  | _ => none }
def FnExactInverseOfWrongFalsely : Prop := fnExactInverseOfRow.holds Try.pinned (OpenSpec.ofChange fnExactInverseOfWrong)

/-- 'laws.FnExactSumOfDigits': WHATEVER THE INPUT: true; the input reads as it did. -/
def fnExactSumOfDigitsSpec : ChangeSpec := { name := "fnExactSumOfDigits", fn := fun _ => fun
  | [d] => { results := [.lit (.bool true)], args := [d] }
  | _ => none }
def fnExactSumOfDigitsRow : OpenClaim := { program := "ytdcfcmbieloicaa", sum := "40c5530648d33e86b15c2ebdb10b53c799d67103303c393698d921d0af634ecd", func := "loop.example/g01000/laws.FnExactSumOfDigits", spec := "fnExactSumOfDigits", apart := false }
def FnExactSumOfDigitsSaid : Prop := fnExactSumOfDigitsRow.holds Try.pinned (OpenSpec.ofChange fnExactSumOfDigitsSpec)

/-- ITS FALSE NEIGHBOUR: 'it returns false'. Refute it at one input. -/
def fnExactSumOfDigitsWrong : ChangeSpec := { name := "fnExactSumOfDigits", fn := fun _ => fun
  | [d] => { results := [.lit (.bool false)], args := [d] }
  | _ => none }
def FnExactSumOfDigitsWrongFalsely : Prop := fnExactSumOfDigitsRow.holds Try.pinned (OpenSpec.ofChange fnExactSumOfDigitsWrong)

/-- 'laws.FnExactDigitsOf': WHATEVER THE INPUT: true; the input reads as it did. -/
def fnExactDigitsOfSpec : ChangeSpec := { name := "fnExactDigitsOf", fn := fun _ => fun
  | [d] => { results := [.lit (.bool true)], args := [d] }
  | _ => none }
def fnExactDigitsOfRow : OpenClaim := { program := "ytdcfcmbieloicaa", sum := "40c5530648d33e86b15c2ebdb10b53c799d67103303c393698d921d0af634ecd", func := "loop.example/g01000/laws.FnExactDigitsOf", spec := "fnExactDigitsOf", apart := false }
def FnExactDigitsOfSaid : Prop := fnExactDigitsOfRow.holds Try.pinned (OpenSpec.ofChange fnExactDigitsOfSpec)

/-- ITS FALSE NEIGHBOUR: 'it returns false'. Refute it at one input. -/
def fnExactDigitsOfWrong : ChangeSpec := { name := "fnExactDigitsOf", fn := fun _ => fun
  | [d] => { results := [.lit (.bool false)], args := [d] }
  | _ => none }
def FnExactDigitsOfWrongFalsely : Prop := fnExactDigitsOfRow.holds Try.pinned (OpenSpec.ofChange fnExactDigitsOfWrong)

/-- 'laws.FnExactIsSquarePadic': WHATEVER THE INPUT: true; the input reads as it did. -/
def fnExactIsSquarePadicSpec : ChangeSpec := { name := "fnExactIsSquarePadic", fn := fun _ => fun
  | [d] => { results := [.lit (.bool true)], args := [d] }
  | _ => none }
def fnExactIsSquarePadicRow : OpenClaim := { program := "ytdcfcmbieloicaa", sum := "40c5530648d33e86b15c2ebdb10b53c799d67103303c393698d921d0af634ecd", func := "loop.example/g01000/laws.FnExactIsSquarePadic", spec := "fnExactIsSquarePadic", apart := false }
def FnExactIsSquarePadicSaid : Prop := fnExactIsSquarePadicRow.holds Try.pinned (OpenSpec.ofChange fnExactIsSquarePadicSpec)

/-- ITS FALSE NEIGHBOUR: 'it returns false'. Refute it at one input. -/
def fnExactIsSquarePadicWrong : ChangeSpec := { name := "fnExactIsSquarePadic", fn := fun _ => fun
  | [d] => { results := [.lit (.bool false)], args := [d] }
  | _ => none }
def FnExactIsSquarePadicWrongFalsely : Prop := fnExactIsSquarePadicRow.holds Try.pinned (OpenSpec.ofChange fnExactIsSquarePadicWrong)

/-- 'laws.FnExactInvertPadic': WHATEVER THE INPUT: true; the input reads as it did. -/
def fnExactInvertPadicSpec : ChangeSpec := { name := "fnExactInvertPadic", fn := fun _ => fun
  | [d] => { results := [.lit (.bool true)], args := [d] }
  | _ => none }
def fnExactInvertPadicRow : OpenClaim := { program := "ytdcfcmbieloicaa", sum := "40c5530648d33e86b15c2ebdb10b53c799d67103303c393698d921d0af634ecd", func := "loop.example/g01000/laws.FnExactInvertPadic", spec := "fnExactInvertPadic", apart := false }
def FnExactInvertPadicSaid : Prop := fnExactInvertPadicRow.holds Try.pinned (OpenSpec.ofChange fnExactInvertPadicSpec)

/-- ITS FALSE NEIGHBOUR: 'it returns false'. Refute it at one input. -/
def fnExactInvertPadicWrong : ChangeSpec := { name := "fnExactInvertPadic", fn := fun _ => fun
  | [d] => { results := [.lit (.bool false)], args := [d] }
  | _ => none }
def FnExactInvertPadicWrongFalsely : Prop := fnExactInvertPadicRow.holds Try.pinned (OpenSpec.ofChange fnExactInvertPadicWrong)

/-- 'laws.FnExactMultiplyPadics': WHATEVER THE INPUT: true; the input reads as it did. -/
def fnExactMultiplyPadicsSpec : ChangeSpec := { name := "fnExactMultiplyPadics", fn := fun _ => fun
  | [d1, d2] => { results := [.lit (.bool true)], args := [d1, d2] }
  | _ => none }
def fnExactMultiplyPadicsRow : OpenClaim := { program := "ytdcfcmbieloicaa", sum := "40c5530648d33e86b15c2ebdb10b53c799d67103303c393698d921d0af634ecd", func := "loop.example/g01000/laws.FnExactMultiplyPadics", spec := "fnExactMultiplyPadics", apart := false }
def FnExactMultiplyPadicsSaid : Prop := fnExactMultiplyPadicsRow.holds Try.pinned (OpenSpec.ofChange fnExactMultiplyPadicsSpec)

/-- ITS FALSE NEIGHBOUR: 'it returns false'. Refute it at one input. -/
def fnExactMultiplyPadicsWrong : ChangeSpec := { name := "fnExactMultiplyPadics", fn := fun _ => fun
  | [d1, d2] => { results := [.lit (.bool false)], args := [d1, d2] }
  | _ => none }
def FnExactMultiplyPadicsWrongFalsely : Prop := fnExactMultiplyPadicsRow.holds Try.pinned (OpenSpec.ofChange fnExactMultiplyPadicsWrong)

/-- 'laws.FnExactOrderOf': WHATEVER THE INPUT: true; the input reads as it did. -/
def fnExactOrderOfSpec : ChangeSpec := { name := "fnExactOrderOf", fn := fun _ => fun
  | [d1, d2] => { results := [.lit (.bool true)], args := [d1, d2] }
  | _ => none }
def fnExactOrderOfRow : OpenClaim := { program := "ytdcfcmbieloicaa", sum := "40c5530648d33e86b15c2ebdb10b53c799d67103303c393698d921d0af634ecd", func := "loop.example/g01000/laws.FnExactOrderOf", spec := "fnExactOrderOf", apart := false }
def FnExactOrderOfSaid : Prop := fnExactOrderOfRow.holds Try.pinned (OpenSpec.ofChange fnExactOrderOfSpec)

/-- ITS FALSE NEIGHBOUR: 'it returns false'. Refute it at one input. -/
def fnExactOrderOfWrong : ChangeSpec := { name := "fnExactOrderOf", fn := fun _ => fun
  | [d1, d2] => { results := [.lit (.bool false)], args := [d1, d2] }
  | _ => none }
def FnExactOrderOfWrongFalsely : Prop := fnExactOrderOfRow.holds Try.pinned (OpenSpec.ofChange fnExactOrderOfWrong)

/-- 'laws.FnExactFindRational': WHATEVER THE INPUT: true; the input reads as it did. -/
def fnExactFindRationalSpec : ChangeSpec := { name := "fnExactFindRational", fn := fun _ => fun
  | [d] => { results := [.lit (.bool true)], args := [d] }
  | _ => none }
def fnExactFindRationalRow : OpenClaim := { program := "ytdcfcmbieloicaa", sum := "40c5530648d33e86b15c2ebdb10b53c799d67103303c393698d921d0af634ecd", func := "loop.example/g01000/laws.FnExactFindRational", spec := "fnExactFindRational", apart := false }
def FnExactFindRationalSaid : Prop := fnExactFindRationalRow.holds Try.pinned (OpenSpec.ofChange fnExactFindRationalSpec)

/-- ITS FALSE NEIGHBOUR: 'it returns false'. Refute it at one input. -/
def fnExactFindRationalWrong : ChangeSpec := { name := "fnExactFindRational", fn := fun _ => fun
  | [d] => { results := [.lit (.bool false)], args := [d] }
  | _ => none }
def FnExactFindRationalWrongFalsely : Prop := fnExactFindRationalRow.holds Try.pinned (OpenSpec.ofChange fnExactFindRationalWrong)

/-- 'laws.FnExactWholePart': WHATEVER THE INPUT: true; the input reads as it did. -/
def fnExactWholePartSpec : ChangeSpec := { name := "fnExactWholePart", fn := fun _ => fun
  | [d] => { results := [.lit (.bool true)], args := [d] }
  | _ => none }
def fnExactWholePartRow : OpenClaim := { program := "ytdcfcmbieloicaa", sum := "40c5530648d33e86b15c2ebdb10b53c799d67103303c393698d921d0af634ecd", func := "loop.example/g01000/laws.FnExactWholePart", spec := "fnExactWholePart", apart := false }
def FnExactWholePartSaid : Prop := fnExactWholePartRow.holds Try.pinned (OpenSpec.ofChange fnExactWholePartSpec)

/-- ITS FALSE NEIGHBOUR: 'it returns false'. Refute it at one input. -/
def fnExactWholePartWrong : ChangeSpec := { name := "fnExactWholePart", fn := fun _ => fun
  | [d] => { results := [.lit (.bool false)], args := [d] }
  | _ => none }
def FnExactWholePartWrongFalsely : Prop := fnExactWholePartRow.holds Try.pinned (OpenSpec.ofChange fnExactWholePartWrong)

/-- 'laws.FnExactAreEqualTo': WHATEVER THE INPUT: true; the input reads as it did. -/
def fnExactAreEqualToSpec : ChangeSpec := { name := "fnExactAreEqualTo", fn := fun _ => fun
  | [d1, d2] => { results := [.lit (.bool true)], args := [d1, d2] }
  | _ => none }
def fnExactAreEqualToRow : OpenClaim := { program := "ytdcfcmbieloicaa", sum := "40c5530648d33e86b15c2ebdb10b53c799d67103303c393698d921d0af634ecd", func := "loop.example/g01000/laws.FnExactAreEqualTo", spec := "fnExactAreEqualTo", apart := false }
def FnExactAreEqualToSaid : Prop := fnExactAreEqualToRow.holds Try.pinned (OpenSpec.ofChange fnExactAreEqualToSpec)

/-- ITS FALSE NEIGHBOUR: 'it returns false'. Refute it at one input. -/
def fnExactAreEqualToWrong : ChangeSpec := { name := "fnExactAreEqualTo", fn := fun _ => fun
  | [d1, d2] => { results := [.lit (.bool false)], args := [d1, d2] }
  | _ => none }
def FnExactAreEqualToWrongFalsely : Prop := fnExactAreEqualToRow.holds Try.pinned (OpenSpec.ofChange fnExactAreEqualToWrong)

/-- 'laws.FnExactFromDigits': WHATEVER THE INPUT: true; the input reads as it did. -/
def fnExactFromDigitsSpec : ChangeSpec := { name := "fnExactFromDigits", fn := fun _ => fun
  | [d1, d2, d3] => { results := [.lit (.bool true)], args := [d1, d2, d3] }
  | _ => none }
def fnExactFromDigitsRow : OpenClaim := { program := "ytdcfcmbieloicaa", sum := "40c5530648d33e86b15c2ebdb10b53c799d67103303c393698d921d0af634ecd", func := "loop.example/g01000/laws.FnExactFromDigits", spec := "fnExactFromDigits", unfollowed := true, recurses := true, apart := false }
def FnExactFromDigitsSaid : Prop := fnExactFromDigitsRow.holds Try.pinned (OpenSpec.ofChange fnExactFromDigitsSpec)

/-- ITS FALSE NEIGHBOUR: 'it returns false'. Refute it at one input. -/
def fnExactFromDigitsWrong : ChangeSpec := { name := "fnExactFromDigits", fn := fun _ => fun
  | [d1, d2, d3] => { results := [.lit (.bool false)], args := [d1, d2, d3] }
  | _ => none }
def FnExactFromDigitsWrongFalsely : Prop := fnExactFromDigitsRow.holds Try.pinned (OpenSpec.ofChange fnExactFromDigitsWrong)

/-- 'laws.FnExactAddPadics': WHATEVER THE INPUT: true; the input reads as it did. -/
def fnExactAddPadicsSpec : ChangeSpec := { name := "fnExactAddPadics", fn := fun _ => fun
  | [d1, d2] => { results := [.lit (.bool true)], args := [d1, d2] }
  | _ => none }
def fnExactAddPadicsRow : OpenClaim := { program := "ytdcfcmbieloicaa", sum := "40c5530648d33e86b15c2ebdb10b53c799d67103303c393698d921d0af634ecd", func := "loop.example/g01000/laws.FnExactAddPadics", spec := "fnExactAddPadics", apart := false }
def FnExactAddPadicsSaid : Prop := fnExactAddPadicsRow.holds Try.pinned (OpenSpec.ofChange fnExactAddPadicsSpec)

/-- ITS FALSE NEIGHBOUR: 'it returns false'. Refute it at one input. -/
def fnExactAddPadicsWrong : ChangeSpec := { name := "fnExactAddPadics", fn := fun _ => fun
  | [d1, d2] => { results := [.lit (.bool false)], args := [d1, d2] }
  | _ => none }
def FnExactAddPadicsWrongFalsely : Prop := fnExactAddPadicsRow.holds Try.pinned (OpenSpec.ofChange fnExactAddPadicsWrong)

/-- 'laws.FnExactDoAgree': WHATEVER THE INPUT: true; the input reads as it did. -/
def fnExactDoAgreeSpec : ChangeSpec := { name := "fnExactDoAgree", fn := fun _ => fun
  | [d1, d2] => { results := [.lit (.bool true)], args := [d1, d2] }
  | _ => none }
def fnExactDoAgreeRow : OpenClaim := { program := "ytdcfcmbieloicaa", sum := "40c5530648d33e86b15c2ebdb10b53c799d67103303c393698d921d0af634ecd", func := "loop.example/g01000/laws.FnExactDoAgree", spec := "fnExactDoAgree", apart := false }
def FnExactDoAgreeSaid : Prop := fnExactDoAgreeRow.holds Try.pinned (OpenSpec.ofChange fnExactDoAgreeSpec)

/-- ITS FALSE NEIGHBOUR: 'it returns false'. Refute it at one input. -/
def fnExactDoAgreeWrong : ChangeSpec := { name := "fnExactDoAgree", fn := fun _ => fun
  | [d1, d2] => { results := [.lit (.bool false)], args := [d1, d2] }
  | _ => none }
def FnExactDoAgreeWrongFalsely : Prop := fnExactDoAgreeRow.holds Try.pinned (OpenSpec.ofChange fnExactDoAgreeWrong)

/- THE SECOND FORM. 'bulk': how many values and letters a reading holds, each counted each time it is reached (what is shared counts as often as it is met; a slice's spare places count too). A statement '..UptoSaid' is the law's where the arguments, and the package variables that the reading takes, are together of bulk at most 1048576: NARROWER than '..Said'. Prove '..Said' where nothing that the law and all that it calls make is longer than what came in: it says more and counts as full. Else prove '..UptoSaid'. A law counts once. -/
mutual
def uptoBulk {H : Type} : DataW H → Nat
  | .lit (.string bytes) => bytes.length + 1
  | .lit _ => 1
  | .nil => 1
  | .ptr d => uptoBulk d + 1
  | .slice elems spare => uptoBulkAll elems + uptoBulkAll spare + 1
  | .agg parts => uptoBulkAll parts + 1
  | .iface _ d => uptoBulk d + 1
  | .map entries => uptoBulkEntries entries + 1
  | .held _ => 1
def uptoBulkAll {H : Type} : List (DataW H) → Nat
  | [] => 0
  | d :: r => uptoBulk d + uptoBulkAll r
def uptoBulkEntries {H : Type} : List (Lit × DataW H) → Nat
  | [] => 0
  | x :: r => uptoBulkEntry x + uptoBulkEntries r
def uptoBulkEntry {H : Type} : Lit × DataW H → Nat
  | (.string bytes, d) => bytes.length + uptoBulk d + 1
  | (_, d) => uptoBulk d + 1
 end
def uptoSmall : (H : Type) → List (DataW H) → Bool := fun _ ds => decide (uptoBulkAll ds ≤ 1048576)
def OpenSpec.upto (s : _root_.Go.ChangeSpec) : _root_.Go.OpenSpec := { _root_.Go.OpenSpec.ofChange s with cond := some uptoSmall }

/-- 'laws.FnExactShiftPadic', WHERE WHAT IT READS IS OF BULK AT MOST 1048576: true; the input reads as it did. -/
def fnExactShiftPadicUptoRow : OpenClaim := { program := "ytdcfcmbieloicaa", sum := "40c5530648d33e86b15c2ebdb10b53c799d67103303c393698d921d0af634ecd", func := "loop.example/g01000/laws.FnExactShiftPadic", spec := "fnExactShiftPadic", apart := false, narrowed := true }
def FnExactShiftPadicUptoSaid : Prop := fnExactShiftPadicUptoRow.holds Try.pinned (OpenSpec.upto fnExactShiftPadicSpec)

/-- 'laws.FnExactInverseOf', WHERE WHAT IT READS IS OF BULK AT MOST 1048576: true; the input reads as it did. -/
def fnExactInverseOfUptoRow : OpenClaim := { program := "ytdcfcmbieloicaa", sum := "40c5530648d33e86b15c2ebdb10b53c799d67103303c393698d921d0af634ecd", func := "loop.example/g01000/laws.FnExactInverseOf", spec := "fnExactInverseOf", apart := false, narrowed := true }
def FnExactInverseOfUptoSaid : Prop := fnExactInverseOfUptoRow.holds Try.pinned (OpenSpec.upto fnExactInverseOfSpec)

/-- 'laws.FnExactSumOfDigits', WHERE WHAT IT READS IS OF BULK AT MOST 1048576: true; the input reads as it did. -/
def fnExactSumOfDigitsUptoRow : OpenClaim := { program := "ytdcfcmbieloicaa", sum := "40c5530648d33e86b15c2ebdb10b53c799d67103303c393698d921d0af634ecd", func := "loop.example/g01000/laws.FnExactSumOfDigits", spec := "fnExactSumOfDigits", apart := false, narrowed := true }
def FnExactSumOfDigitsUptoSaid : Prop := fnExactSumOfDigitsUptoRow.holds Try.pinned (OpenSpec.upto fnExactSumOfDigitsSpec)

/-- 'laws.FnExactDigitsOf', WHERE WHAT IT READS IS OF BULK AT MOST 1048576: true; the input reads as it did. -/
def fnExactDigitsOfUptoRow : OpenClaim := { program := "ytdcfcmbieloicaa", sum := "40c5530648d33e86b15c2ebdb10b53c799d67103303c393698d921d0af634ecd", func := "loop.example/g01000/laws.FnExactDigitsOf", spec := "fnExactDigitsOf", apart := false, narrowed := true }
def FnExactDigitsOfUptoSaid : Prop := fnExactDigitsOfUptoRow.holds Try.pinned (OpenSpec.upto fnExactDigitsOfSpec)

/-- 'laws.FnExactIsSquarePadic', WHERE WHAT IT READS IS OF BULK AT MOST 1048576: true; the input reads as it did. -/
def fnExactIsSquarePadicUptoRow : OpenClaim := { program := "ytdcfcmbieloicaa", sum := "40c5530648d33e86b15c2ebdb10b53c799d67103303c393698d921d0af634ecd", func := "loop.example/g01000/laws.FnExactIsSquarePadic", spec := "fnExactIsSquarePadic", apart := false, narrowed := true }
def FnExactIsSquarePadicUptoSaid : Prop := fnExactIsSquarePadicUptoRow.holds Try.pinned (OpenSpec.upto fnExactIsSquarePadicSpec)

/-- 'laws.FnExactInvertPadic', WHERE WHAT IT READS IS OF BULK AT MOST 1048576: true; the input reads as it did. -/
def fnExactInvertPadicUptoRow : OpenClaim := { program := "ytdcfcmbieloicaa", sum := "40c5530648d33e86b15c2ebdb10b53c799d67103303c393698d921d0af634ecd", func := "loop.example/g01000/laws.FnExactInvertPadic", spec := "fnExactInvertPadic", apart := false, narrowed := true }
def FnExactInvertPadicUptoSaid : Prop := fnExactInvertPadicUptoRow.holds Try.pinned (OpenSpec.upto fnExactInvertPadicSpec)

/-- 'laws.FnExactMultiplyPadics', WHERE WHAT IT READS IS OF BULK AT MOST 1048576: true; the input reads as it did. -/
def fnExactMultiplyPadicsUptoRow : OpenClaim := { program := "ytdcfcmbieloicaa", sum := "40c5530648d33e86b15c2ebdb10b53c799d67103303c393698d921d0af634ecd", func := "loop.example/g01000/laws.FnExactMultiplyPadics", spec := "fnExactMultiplyPadics", apart := false, narrowed := true }
def FnExactMultiplyPadicsUptoSaid : Prop := fnExactMultiplyPadicsUptoRow.holds Try.pinned (OpenSpec.upto fnExactMultiplyPadicsSpec)

/-- 'laws.FnExactOrderOf', WHERE WHAT IT READS IS OF BULK AT MOST 1048576: true; the input reads as it did. -/
def fnExactOrderOfUptoRow : OpenClaim := { program := "ytdcfcmbieloicaa", sum := "40c5530648d33e86b15c2ebdb10b53c799d67103303c393698d921d0af634ecd", func := "loop.example/g01000/laws.FnExactOrderOf", spec := "fnExactOrderOf", apart := false, narrowed := true }
def FnExactOrderOfUptoSaid : Prop := fnExactOrderOfUptoRow.holds Try.pinned (OpenSpec.upto fnExactOrderOfSpec)

/-- 'laws.FnExactFindRational', WHERE WHAT IT READS IS OF BULK AT MOST 1048576: true; the input reads as it did. -/
def fnExactFindRationalUptoRow : OpenClaim := { program := "ytdcfcmbieloicaa", sum := "40c5530648d33e86b15c2ebdb10b53c799d67103303c393698d921d0af634ecd", func := "loop.example/g01000/laws.FnExactFindRational", spec := "fnExactFindRational", apart := false, narrowed := true }
def FnExactFindRationalUptoSaid : Prop := fnExactFindRationalUptoRow.holds Try.pinned (OpenSpec.upto fnExactFindRationalSpec)

/-- 'laws.FnExactWholePart', WHERE WHAT IT READS IS OF BULK AT MOST 1048576: true; the input reads as it did. -/
def fnExactWholePartUptoRow : OpenClaim := { program := "ytdcfcmbieloicaa", sum := "40c5530648d33e86b15c2ebdb10b53c799d67103303c393698d921d0af634ecd", func := "loop.example/g01000/laws.FnExactWholePart", spec := "fnExactWholePart", apart := false, narrowed := true }
def FnExactWholePartUptoSaid : Prop := fnExactWholePartUptoRow.holds Try.pinned (OpenSpec.upto fnExactWholePartSpec)

/-- 'laws.FnExactAreEqualTo', WHERE WHAT IT READS IS OF BULK AT MOST 1048576: true; the input reads as it did. -/
def fnExactAreEqualToUptoRow : OpenClaim := { program := "ytdcfcmbieloicaa", sum := "40c5530648d33e86b15c2ebdb10b53c799d67103303c393698d921d0af634ecd", func := "loop.example/g01000/laws.FnExactAreEqualTo", spec := "fnExactAreEqualTo", apart := false, narrowed := true }
def FnExactAreEqualToUptoSaid : Prop := fnExactAreEqualToUptoRow.holds Try.pinned (OpenSpec.upto fnExactAreEqualToSpec)

/-- 'laws.FnExactFromDigits', WHERE WHAT IT READS IS OF BULK AT MOST 1048576: true; the input reads as it did. -/
def fnExactFromDigitsUptoRow : OpenClaim := { program := "ytdcfcmbieloicaa", sum := "40c5530648d33e86b15c2ebdb10b53c799d67103303c393698d921d0af634ecd", func := "loop.example/g01000/laws.FnExactFromDigits", spec := "fnExactFromDigits", unfollowed := true, recurses := true, apart := false, narrowed := true }
def FnExactFromDigitsUptoSaid : Prop := fnExactFromDigitsUptoRow.holds Try.pinned (OpenSpec.upto fnExactFromDigitsSpec)

/-- 'laws.FnExactAddPadics', WHERE WHAT IT READS IS OF BULK AT MOST 1048576: true; the input reads as it did. -/
def fnExactAddPadicsUptoRow : OpenClaim := { program := "ytdcfcmbieloicaa", sum := "40c5530648d33e86b15c2ebdb10b53c799d67103303c393698d921d0af634ecd", func := "loop.example/g01000/laws.FnExactAddPadics", spec := "fnExactAddPadics", apart := false, narrowed := true }
def FnExactAddPadicsUptoSaid : Prop := fnExactAddPadicsUptoRow.holds Try.pinned (OpenSpec.upto fnExactAddPadicsSpec)

/-- 'laws.FnExactDoAgree', WHERE WHAT IT READS IS OF BULK AT MOST 1048576: true; the input reads as it did. -/
def fnExactDoAgreeUptoRow : OpenClaim := { program := "ytdcfcmbieloicaa", sum := "40c5530648d33e86b15c2ebdb10b53c799d67103303c393698d921d0af634ecd", func := "loop.example/g01000/laws.FnExactDoAgree", spec := "fnExactDoAgree", apart := false, narrowed := true }
def FnExactDoAgreeUptoSaid : Prop := fnExactDoAgreeUptoRow.holds Try.pinned (OpenSpec.upto fnExactDoAgreeSpec)

end Rows
end Go.Proofs.Ytdcfcmbieloicaa
