/- Contracts: shifts of p-adic numbers; the arguments' copies; equality. -/
import Derived.Test.YtflmoopiajhadaaMA
namespace Go.Proofs.Ytflmoopiajhadaa
open Go Go.RowKit


def shiftF (x : Pd) (k : Int) : Pd × Int := if padicB x.p x.v x.u x.n = true then (if inB k (-60) 60 = true then limF ⟨x.p, x.v + k, x.u, x.n⟩ else (⟨0, 0, 0, 0⟩, 2)) else (⟨0, 0, 0, 0⟩, 1)

end Go.Proofs.Ytflmoopiajhadaa
