/- Contracts: ranges, primes of the reference, moduli. -/
import Derived.Test.YtbkbcbanfnhjpaaA4
namespace Go.Proofs.Ytbkbcbanfnhjpaa
open Go Go.RowKit

set_option maxHeartbeats 400000 in
theorem s_in (n a b : Int) (w : World) :
    Calls Try.prog 69 #[.int .i64 n, .int .i64 a, .int .i64 b] w fun e w' => e = .returned (.bool (inB n a b)) ∧ w = w' := by
  by_cases h1 : a ≤ n
  · by_cases h2 : n ≤ b
    · rw [inB_t h1 h2]; go_enter Try.func69, Try.ntmps69
      go_wp2
      go_ret
      exact ⟨rfl, rfl⟩
    · rw [inB_r (by omega)]; go_enter Try.func69, Try.ntmps69
      go_wp2
      go_ret
      exact ⟨rfl, rfl⟩
  · rw [inB_l (by omega)]; go_enter Try.func69, Try.ntmps69
    go_wp2
    go_ret
    exact ⟨rfl, rfl⟩

theorem in_lo {n a b : Int} (h : n < a) : inB n a b = false := inB_l h

end Go.Proofs.Ytbkbcbanfnhjpaa
