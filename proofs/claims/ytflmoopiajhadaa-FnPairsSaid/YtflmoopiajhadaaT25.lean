/- Plain arithmetic: powers by a modulus; Fermat and Euler by powers of small primes. -/
import Derived.Test.YtflmoopiajhadaaMA
namespace Go.Proofs.Ytflmoopiajhadaa

theorem pow_mod' (x m : Int) (k : Nat) : (x % m) ^ k % m = x ^ k % m := by
  induction k with
  | zero => simp
  | succ k ih => rw [Int.pow_succ, Int.pow_succ, Int.mul_emod, ih, Int.emod_emod, ← Int.mul_emod]
theorem fermat_small : ∀ p : Fin 98, primeB (p.val : Int) = true → ∀ a : Fin 98, a.val ^ p.val % p.val = a.val % p.val := by decide +kernel
theorem fermat {p : Int} (hs : smallP p = true) (a : Int) : a ^ p.toNat % p = a % p := by
  have hp := smallP_bd hs
  have h1 := Int.emod_nonneg a (show p ≠ 0 by omega)
  have h2 := Int.emod_lt_of_pos a (show 0 < p by omega)
  obtain ⟨q, rfl⟩ : ∃ q : Nat, p = (q : Int) := ⟨p.toNat, by omega⟩
  obtain ⟨b, hb⟩ : ∃ b : Nat, a % (q : Int) = (b : Int) := ⟨(a % (q : Int)).toNat, by omega⟩
  have h3 := fermat_small ⟨q, by omega⟩ (smallP_prime hs) ⟨b, by omega⟩
  simp only at h3
  rw [← pow_mod', hb, Int.toNat_natCast]
  have h4 : ((b : Int) ^ q) % (q : Int) = ((b ^ q % q : Nat) : Int) := by push_cast; rfl
  rw [h4, h3, Nat.mod_eq_of_lt (by omega)]
theorem binom2 (y d : Int) : ∀ m : Nat, ∃ K : Int, (y + d) ^ m = y ^ m + m * y ^ (m - 1) * d + d * d * K := by
  intro m
  induction m with
  | zero => exact ⟨0, by simp⟩
  | succ m ih =>
    obtain ⟨K, hK⟩ := ih
    refine ⟨m * y ^ (m - 1) + K * (y + d), ?_⟩
    have e : (m : Int) * y ^ (m - 1) * y = m * y ^ m := by
      cases m with
      | zero => simp
      | succ m => rw [Nat.add_sub_cancel, Int.pow_succ, Int.mul_assoc]
    rw [Int.pow_succ, hK, Nat.add_sub_cancel, Int.pow_succ]
    push_cast
    grind
theorem pow_lift {x y p : Int} {j : Nat} (hp : 0 ≤ p) (hj : 1 ≤ j) (h : p ^ j ∣ x - y) : p ^ (j + 1) ∣ x ^ p.toNat - y ^ p.toNat := by
  obtain ⟨c, hc⟩ := h
  obtain ⟨K, hK⟩ := binom2 y (p ^ j * c) p.toNat
  have e : x = y + p ^ j * c := by omega
  rw [e, hK]
  refine ⟨y ^ (p.toNat - 1) * c + p ^ (j - 1) * c * c * K, ?_⟩
  have e1 : ((p.toNat : Nat) : Int) = p := by omega
  have e2 : p ^ j = p ^ (j - 1) * p := by rw [← Int.pow_succ]; congr 1; omega
  rw [e1, Int.pow_succ, e2]
  grind
/-- The power that a Teichmueller residue is made by. -/
theorem teich {p : Int} (hs : smallP p = true) (b : Int) : ∀ k : Nat, p ^ (k + 1) ∣ (b ^ (p.toNat ^ k)) ^ p.toNat - b ^ (p.toNat ^ k) := by
  have hp := smallP_bd hs
  intro k
  induction k with
  | zero =>
    rw [Nat.pow_zero, Int.pow_succ, Int.pow_zero, Int.one_mul, Int.pow_succ, Int.pow_zero, Int.one_mul]
    exact Int.dvd_of_emod_eq_zero (Int.emod_eq_emod_iff_emod_sub_eq_zero.1 (fermat hs b))
  | succ k ih =>
    have := pow_lift (by omega) (by omega) ih
    have e : b ^ p.toNat ^ (k + 1) = (b ^ p.toNat ^ k) ^ p.toNat := by rw [Nat.pow_succ, Int.pow_mul]
    rw [e]
    exact this
theorem teich_p {p : Int} (hs : smallP p = true) (b : Int) : ∀ k : Nat, b ^ (p.toNat ^ k) % p = b % p := by
  intro k
  induction k with
  | zero => rw [Nat.pow_zero, Int.pow_succ, Int.pow_zero, Int.one_mul]
  | succ k ih => rw [Nat.pow_succ, Int.pow_mul, fermat hs, ih]
end Go.Proofs.Ytflmoopiajhadaa
