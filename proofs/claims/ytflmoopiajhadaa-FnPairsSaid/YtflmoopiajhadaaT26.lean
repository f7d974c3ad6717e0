/- Plain arithmetic: what the powers of the texts are. -/
import Derived.Test.YtflmoopiajhadaaI1
import Derived.Test.YtflmoopiajhadaaT25
namespace Go.Proofs.Ytflmoopiajhadaa

theorem pwF_spec (m : Int) : ∀ (f : Nat) (out a : Int) (e : Nat), e < 2 ^ f → pwF f out a (e : Int) m % m = out * a ^ e % m := by
  intro f
  induction f with
  | zero =>
    intro out a e h
    have h0 : e = 0 := by simpa using h
    subst h0
    simp [pwF]
  | succ f ih =>
    intro out a e h
    unfold pwF
    by_cases h0 : e = 0
    · subst h0; simp
    · rw [if_neg (by omega)]
      have h1 : ((e : Int) / 2) = ((e / 2 : Nat) : Int) := by omega
      rw [h1, ih _ _ _ (by rw [Nat.pow_succ] at h; omega)]
      have h2 : (a * a % m) ^ (e / 2) % m = (a * a) ^ (e / 2) % m := pow_mod' _ _ _
      have h3 : ∀ o : Int, o * (a * a % m) ^ (e / 2) % m = o * (a * a) ^ (e / 2) % m := fun o => by rw [Int.mul_emod, h2, ← Int.mul_emod]
      rw [h3]
      have h4 : (a * a) ^ (e / 2) = a ^ (2 * (e / 2)) := by
        rw [show a * a = a ^ 2 by rw [Int.pow_succ, Int.pow_succ, Int.pow_zero, Int.one_mul], ← Int.pow_mul]
      rw [h4]
      by_cases hz : (e : Int) % 2 = 1
      · rw [if_pos hz]
        have h5 : a ^ e = a * a ^ (2 * (e / 2)) := by
          rw [Int.mul_comm, ← Int.pow_succ]; congr 1; omega
        rw [h5, ← Int.mul_assoc, Int.mul_emod, Int.emod_emod, ← Int.mul_emod]
      · rw [if_neg hz]
        have h5 : e = 2 * (e / 2) := by omega
        rw [← h5]
theorem powF_eq {a m : Int} {e : Nat} (hm : 2 ≤ m) (he : e < 2 ^ 60) : powF a (e : Int) m = a ^ e % m := by
  have h1 := pwF_bd hm 60 1 (a % m) (e : Int) (by omega)
  have h2 := pwF_spec m 60 1 (a % m) e he
  unfold powF
  rw [Int.emod_eq_of_lt h1.1 (by omega), Int.one_mul, pow_mod'] at h2
  exact h2
/-- One more factor. -/
theorem powF_succ {a m : Int} {e : Nat} (hm : 2 ≤ m) (he : e + 1 < 2 ^ 60) : powF a ((e + 1 : Nat) : Int) m = powF a (e : Int) m * a % m := by
  rw [powF_eq hm he, powF_eq hm (by omega), Int.pow_succ, Int.mul_emod (a ^ e % m), Int.emod_emod, ← Int.mul_emod]
/-- A Teichmueller residue is its own power, and has the residue's remainder. -/
theorem teichF {p b : Int} {k : Nat} (hs : smallP p = true) (hM : p ^ (k + 1) ≤ 1000000000) :
    powF (powF b (p ^ k) (p ^ (k + 1))) p (p ^ (k + 1)) = powF b (p ^ k) (p ^ (k + 1)) ∧ (powF b (p ^ k) (p ^ (k + 1)) - b) % p = 0 := by
  have hp := smallP_bd hs
  have hM1 := pow_pos' (show 1 ≤ p by omega) k
  have hM2 : p ^ (k + 1) = p ^ k * p := Int.pow_succ _ _
  have hM3 : p ^ k ≤ p ^ k * p := by
    have := Int.mul_le_mul_of_nonneg_left (show (1 : Int) ≤ p by omega) (show 0 ≤ p ^ k by omega)
    omega
  have hM4 : 2 ≤ p ^ (k + 1) := by
    have := Int.mul_le_mul_of_nonneg_left (show (2 : Int) ≤ p by omega) (show 0 ≤ p ^ k by omega)
    omega
  have e1 : p ^ k = ((p.toNat ^ k : Nat) : Int) := by
    push_cast
    rw [show ((p.toNat : Nat) : Int) = p by omega]
  have e2 : p.toNat ^ k < 2 ^ 60 := by omega
  have e3 : powF b (p ^ k) (p ^ (k + 1)) = b ^ (p.toNat ^ k) % p ^ (k + 1) := by
    rw [e1]; exact powF_eq hM4 e2
  have e4 : powF (powF b (p ^ k) (p ^ (k + 1))) p (p ^ (k + 1)) = (powF b (p ^ k) (p ^ (k + 1))) ^ p.toNat % p ^ (k + 1) := by
    have := @powF_eq (powF b (p ^ k) (p ^ (k + 1))) (p ^ (k + 1)) p.toNat hM4 (by omega)
    rw [show ((p.toNat : Nat) : Int) = p by omega] at this
    exact this
  rw [e4, e3]
  refine ⟨?_, ?_⟩
  · rw [pow_mod']
    exact Int.emod_eq_emod_iff_emod_sub_eq_zero.2 (Int.emod_eq_zero_of_dvd (teich hs b k))
  · have h1 : b ^ p.toNat ^ k % p ^ (k + 1) % p = b % p := by
      rw [Int.emod_emod_of_dvd _ ⟨p ^ k, by rw [hM2, Int.mul_comm]⟩]
      exact teich_p hs b k
    exact Int.emod_eq_emod_iff_emod_sub_eq_zero.1 h1
end Go.Proofs.Ytflmoopiajhadaa
