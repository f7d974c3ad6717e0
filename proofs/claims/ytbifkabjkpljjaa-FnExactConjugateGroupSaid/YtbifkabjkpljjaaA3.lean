/- Contracts: remainders, powers, valuations, common divisors. -/
import Derived.Test.YtbifkabjkpljjaaA2
import Derived.Test.YtbifkabjkpljjaaM1
namespace Go.Proofs.Ytbifkabjkpljjaa
open Go Go.RowKit

theorem ret_i {a b : Int} (h : a = b) : Ending.returned (.int .i64 a) = .returned (.int .i64 b) := by rw [h]
theorem ret_b {a b : Bool} (h : a = b) : Ending.returned (.bool a) = .returned (.bool b) := by rw [h]

end Go.Proofs.Ytbifkabjkpljjaa
