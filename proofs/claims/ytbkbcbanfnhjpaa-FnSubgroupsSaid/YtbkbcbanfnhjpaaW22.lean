/- Plain: signs multiply. -/
import Derived.Test.YtbkbcbanfnhjpaaW18
import Derived.Test.YtbkbcbanfnhjpaaX5
namespace Go.Proofs.Ytbkbcbanfnhjpaa
open Go Go.RowKit

/-- The permutation that changes i and i + 1. -/
def trP (n i : Nat) : List Int := (List.range n).map fun x => if x = i then ((i + 1 : Nat) : Int) else if x = i + 1 then (i : Int) else (x : Int)
def trOk (n r : Nat) : Bool := (r == 0 || (List.range (n - 1)).any fun i => decide (rankF (prodF (trP n i) (withF n r)) < r)) && (List.range (n - 1)).all fun i => (evB (prodF (trP n i) (withF n r)) == !evB (withF n r))
theorem tr_5 : (List.range (facN 5)).all (trOk 5) = true := by decide +kernel
theorem tr_6 : (List.range (facN 6)).all (trOk 6) = true := by decide +kernel
end Go.Proofs.Ytbkbcbanfnhjpaa
