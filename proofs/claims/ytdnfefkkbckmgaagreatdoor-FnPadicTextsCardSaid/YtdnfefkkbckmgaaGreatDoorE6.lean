/- WholePart: the statement's text. -/
import Derived.Test.YtdnfefkkbckmgaaGreatDoorD7
import Derived.Test.YtdnfefkkbckmgaaGreatDoorC1
namespace Go.Proofs.YtdnfefkkbckmgaaGreatDoor
open Go Go.RowKit

/-- A number whose end is at least 0, without its digits at places below 0. -/
def wholeF (p v u n : Int) : Pd := if 0 ≤ v then ⟨p, v, u, n⟩ else makeF p 0 (u / p ^ (-v).toNat) (v + n)
def wpF (p v u n : Int) : Pd × Int := if padicB p v u n = true then (if v + n < 0 then (⟨0, 0, 0, 0⟩, 4) else (wholeF p v u n, 0)) else (⟨0, 0, 0, 0⟩, 1)

end Go.Proofs.YtdnfefkkbckmgaaGreatDoor
