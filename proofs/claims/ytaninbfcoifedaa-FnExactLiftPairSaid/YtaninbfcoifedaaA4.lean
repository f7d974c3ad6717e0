/- Contracts: common divisors. -/
import Derived.Test.YtaninbfcoifedaaMA
namespace Go.Proofs.Ytaninbfcoifedaa
open Go Go.RowKit

theorem gcd_step (x y : Int) : Int.gcd y (x.tmod y) = Int.gcd x y := by
  rw [Int.tmod_def, Int.gcd_sub_mul_left_right, Int.gcd_comm]
theorem gcd_bd {x y B : Int} (hx : -B ≤ x ∧ x ≤ B) (hy : -B ≤ y ∧ y ≤ B) : (Int.gcd x y : Int) ≤ B := by
  by_cases h : x = 0
  · rw [h, Int.zero_gcd]; omega
  · have := Int.gcd_le_natAbs_left y h; omega

end Go.Proofs.Ytaninbfcoifedaa
