/- Powers, Teichmueller residues, remainders: both texts. -/
import Derived.Test.YtflmoopiajhadaaT26
import Derived.Test.YtflmoopiajhadaaMA
namespace Go.Proofs.Ytflmoopiajhadaa
open Go Go.RowKit

def powpF (p n a e : Int) : Int × Int := if ringB p n = true then (if inB a 0 (p ^ n.toNat - 1) = true ∧ inB e 0 1000000000000 = true then (powF a e (p ^ n.toNat), 0) else (0, 2)) else (0, 1)
def teipF (p n a : Int) : Int × Int := if ringB p n = true then (if inB a 0 (p ^ n.toNat - 1) = true then (powF a (p ^ (n.toNat - 1)) (p ^ n.toNat), 0) else (0, 2)) else (0, 1)
def redpF (p n x : Int) : Int × Int := if ringB p n = true then (if inB x (-1000000000000) 1000000000000 = true then (x % p ^ n.toNat, 0) else (0, 2)) else (0, 1)
def mdlF (p n : Int) : Int × Int := if ringB p n = true then (p ^ n.toNat, 0) else (0, 1)

theorem ring_facts2 {p n : Int} (h : ringB p n = true) : (2 ≤ p ∧ p ≤ 97) ∧ (1 ≤ n ∧ n ≤ 40) ∧ 2 ≤ p ^ n.toNat ∧ p ^ n.toNat ≤ 1000000000 ∧ p ^ n.toNat = p ^ (n.toNat - 1) * p ∧ 1 ≤ p ^ (n.toNat - 1) ∧ (p ^ n.toNat).tdiv p = p ^ (n.toNat - 1) := by
  obtain ⟨hs, h1, h2, h3⟩ := ringB_iff.1 h
  have hp := smallP_bd hs
  have q1 := pow_pos' (show 1 ≤ p by omega) (n.toNat - 1)
  have q2 : p ^ n.toNat = p ^ (n.toNat - 1) * p := by rw [← Int.pow_succ]; congr 1; omega
  have q3 := Int.mul_le_mul_of_nonneg_left (show (2 : Int) ≤ p by omega) (show 0 ≤ p ^ (n.toNat - 1) by omega)
  refine ⟨hp, ⟨h1, h2⟩, by omega, h3, q2, q1, ?_⟩
  rw [q2]
  exact Int.mul_tdiv_cancel _ (by omega)

end Go.Proofs.Ytflmoopiajhadaa
