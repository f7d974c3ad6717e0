/- Contracts: common divisors. -/
import Derived.Test.YtdeehgcabnoclaaMA
namespace Go.Proofs.Ytdeehgcabnoclaa
open Go Go.RowKit

theorem gcd_step (x y : Int) : Int.gcd y (x.tmod y) = Int.gcd x y := by
  rw [Int.tmod_def, Int.gcd_sub_mul_left_right, Int.gcd_comm]
theorem gcd_bd {x y B : Int} (hx : -B ≤ x ∧ x ≤ B) (hy : -B ≤ y ∧ y ≤ B) : (Int.gcd x y : Int) ≤ B := by
  by_cases h : x = 0
  · rw [h, Int.zero_gcd]; omega
  · have := Int.gcd_le_natAbs_left y h; omega

set_option maxHeartbeats 400000 in
theorem i_abs (n : Int) (w : World) (h : -4000000000000000000 ≤ n ∧ n ≤ 4000000000000000000) :
    Calls Try.prog 75 #[.int .i64 n] w fun e w' => e = .returned (.int .i64 n.natAbs) ∧ w = w' := by
  rcases Int.le_total 0 n with h' | h'
  · have h1 : -n ≤ n := by omega
    go_enter Try.func75, Try.ntmps75
    go_wp2
    go_ret
    refine ⟨ret_i ?_, rfl⟩
    omega
  · by_cases h0 : n = 0
    · subst h0
      go_enter Try.func75, Try.ntmps75
      go_wp2
      go_ret
      exact ⟨rfl, rfl⟩
    have h1 : n < -n := by omega
    go_enter Try.func75, Try.ntmps75
    go_wp2
    go_ret
    refine ⟨ret_i ?_, rfl⟩
    omega

end Go.Proofs.Ytdeehgcabnoclaa
