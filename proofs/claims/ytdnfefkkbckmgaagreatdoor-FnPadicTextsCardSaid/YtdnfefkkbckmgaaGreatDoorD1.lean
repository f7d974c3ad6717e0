/- Contracts: squares by a prime, squares of p-adic numbers. -/
import Derived.Test.YtdnfefkkbckmgaaGreatDoorA9
import Derived.Test.YtdnfefkkbckmgaaGreatDoorM3
namespace Go.Proofs.YtdnfefkkbckmgaaGreatDoor
open Go Go.RowKit

theorem sq_small {k : Nat} (h : k ≤ 97) : 0 ≤ (k : Int) * k ∧ (k : Int) * k ≤ 9409 := by
  have h6 : (k : Int) * k ≤ (97 : Int) * 97 := Int.mul_le_mul (by omega) (by omega) (by omega) (by omega)
  have h7 : (0 : Int) ≤ (k : Int) * k := Int.mul_nonneg (by omega) (by omega)
  exact ⟨h7, by omega⟩

end Go.Proofs.YtdnfefkkbckmgaaGreatDoor
