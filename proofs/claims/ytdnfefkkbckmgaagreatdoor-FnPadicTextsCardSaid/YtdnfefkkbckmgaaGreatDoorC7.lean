/- SumOfDigits and DigitsOf: the program's text; the laws. -/
import Derived.Test.YtdnfefkkbckmgaaGreatDoorC6
namespace Go.Proofs.YtdnfefkkbckmgaaGreatDoor
open Go Go.RowKit


def digitsF (p v u n : Int) : List Int × Int := if padicB p v u n = true then (digs p u n.toNat, 0) else ([], 1)

end Go.Proofs.YtdnfefkkbckmgaaGreatDoor
