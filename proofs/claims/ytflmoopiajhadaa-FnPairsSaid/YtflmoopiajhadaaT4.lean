/- Draws: a p-adic number of a prime. -/
import Derived.Test.YtflmoopiajhadaaT3
import Derived.Test.YtflmoopiajhadaaMA
namespace Go.Proofs.Ytflmoopiajhadaa
open Go Go.RowKit

theorem modu_1 {p : Int} (hp : 2 ≤ p ∧ p ≤ 97) : modu p 1 = p := by
  unfold modu
  have e : p ^ (1 : Int).toNat = p := by show p ^ (0 + 1) = p; rw [Int.pow_succ]; simp
  rw [e, if_pos (by omega)]
theorem modu_bd {p n : Int} (hp : 2 ≤ p ∧ p ≤ 97) (h : modu p n ≠ 0) : 1 ≤ modu p n ∧ modu p n ≤ 1000000000 := by
  unfold modu at h ⊢
  split
  · have := pow_pos' (show 1 ≤ p by omega) n.toNat
    omega
  · rename_i h1
    rw [if_neg h1] at h
    exact absurd rfl h

end Go.Proofs.Ytflmoopiajhadaa
