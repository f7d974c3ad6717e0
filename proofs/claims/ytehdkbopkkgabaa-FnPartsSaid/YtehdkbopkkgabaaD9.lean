/- Sums: the statement's text. -/
import Derived.Test.YtehdkbopkkgabaaD8
namespace Go.Proofs.Ytehdkbopkkgabaa
open Go Go.RowKit

theorem add_mod_step {p u a : Int} (hp : 2 ≤ p) {s c : Nat} (h : s ≤ c) : (u + a * p ^ s) % p ^ c = (u + a % p ^ (c - s) * p ^ s) % p ^ c := by
  rw [Int.add_emod, ← mul_pow_mod hp h, ← Int.add_emod]
theorem add_mod_none {p u a : Int} {s c : Nat} (h : c ≤ s) : (u + a * p ^ s) % p ^ c = u % p ^ c := by
  rw [Int.add_emod, mul_pow_zero h, Int.add_zero, Int.emod_emod]
theorem modu_le {p k : Int} (h : p ^ k.toNat ≤ 1000000000) : modu p k = p ^ k.toNat := by unfold modu; rw [if_pos h]

end Go.Proofs.Ytehdkbopkkgabaa
