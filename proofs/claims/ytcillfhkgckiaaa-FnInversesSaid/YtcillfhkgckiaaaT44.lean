/- Euler: a unit to the power of the number of units is 1; the order. Plain. -/
import Derived.Test.YtcillfhkgckiaaaT43
namespace Go.Proofs.Ytcillfhkgckiaaa

theorem cop_unit {p b : Int} (hs : smallP p = true) (hb : ¬ b % p = 0) (k : Nat) : Nat.Coprime (p.natAbs ^ k) b.natAbs := by
  have hp := smallP_bd hs
  have hc : Nat.Coprime p.natAbs b.natAbs := by
    have h1 : Nat.gcd p.natAbs b.natAbs ∣ p.natAbs := Nat.gcd_dvd_left _ _
    have h2 := Nat.le_of_dvd (show 0 < p.natAbs by omega) h1
    have h3 := prime_div2 ⟨p.natAbs, by omega⟩ (by simp only; rw [show ((p.natAbs : Nat) : Int) = p by omega]; exact smallP_prime hs) ⟨Nat.gcd p.natAbs b.natAbs, by omega⟩ (Nat.mod_eq_zero_of_dvd h1)
    simp only at h3
    rcases h3 with h3 | h3
    · exact h3
    · exfalso
      have h4 : p.natAbs ∣ b.natAbs := by
        have := Nat.gcd_dvd_right p.natAbs b.natAbs
        rw [h3] at this
        exact this
      exact hb (Int.emod_eq_zero_of_dvd (Int.natAbs_dvd_natAbs.1 h4))
  exact Nat.Coprime.pow_left k hc
theorem euler {p b : Int} (hs : smallP p = true) (hb : ¬ b % p = 0) (k : Nat) : p ^ (k + 1) ∣ b ^ (p.toNat ^ k * (p.toNat - 1)) - 1 := by
  have hp := smallP_bd hs
  have h1 := teich hs b k
  have h2 : (b ^ (p.toNat ^ k)) ^ p.toNat - b ^ (p.toNat ^ k) = b ^ (p.toNat ^ k) * (b ^ (p.toNat ^ k * (p.toNat - 1)) - 1) := by
    have e : p.toNat = (p.toNat - 1) + 1 := by omega
    have e2 : (b ^ (p.toNat ^ k)) ^ p.toNat = b ^ (p.toNat ^ k * (p.toNat - 1)) * b ^ (p.toNat ^ k) := by
      conv => lhs; rw [e]
      rw [Int.pow_succ, ← Int.pow_mul]
      rw [← e]
    rw [e2, Int.mul_sub, Int.mul_one, Int.mul_comm]
  rw [h2] at h1
  have h3 := Int.natAbs_dvd_natAbs.2 h1
  rw [Int.natAbs_mul, Int.natAbs_pow] at h3
  have h4 : Nat.Coprime (p.natAbs ^ (k + 1)) (b ^ (p.toNat ^ k)).natAbs := by
    rw [Int.natAbs_pow]
    exact Nat.Coprime.pow_right _ (cop_unit hs hb (k + 1))
  have h5 := Nat.Coprime.dvd_of_dvd_mul_left h4 h3
  exact Int.natAbs_dvd_natAbs.1 (by rw [Int.natAbs_pow]; exact h5)
/-- The order divides what it is taken from, and its power is 1. -/
theorem strip_good {a M q : Int} (hq : 2 ≤ q) : ∀ (k : Nat) (e : Int), 1 ≤ e → k ≤ vl e q → powF a e M = 1 → stripK a M q k e ∣ e ∧ powF a (stripK a M q k e) M = 1 := by
  intro k
  induction k with
  | zero => intro e _ _ h; exact ⟨Int.dvd_refl _, h⟩
  | succ k ih =>
    intro e he hk h
    unfold stripK
    by_cases hp : powF a (e / q) M = 1
    · rw [if_pos hp]
      have hz := zero_of_vl (e := e) hq (by omega)
      obtain ⟨h1, h2⟩ := vl_succ hq he hz
      obtain ⟨h3, h4⟩ := ih (e / q) h2 (by omega) hp
      refine ⟨Int.dvd_trans h3 ⟨q, ?_⟩, h4⟩
      exact (Int.ediv_mul_cancel (Int.dvd_of_emod_eq_zero hz)).symm
    · rw [if_neg hp]
      exact ⟨Int.dvd_refl _, h⟩
theorem ordS_good {a M : Int} : ∀ (L : List (Int × Int)), (∀ x ∈ L, 2 ≤ x.1) → ∀ e, 1 ≤ e → powF a e M = 1 → ordS a M L e ∣ e ∧ powF a (ordS a M L e) M = 1 := by
  intro L
  induction L with
  | nil => intro _ e _ h; exact ⟨Int.dvd_refl _, h⟩
  | cons x L ih =>
    intro hs e he h
    have hx := hs x (List.mem_cons_self ..)
    obtain ⟨h1, h2⟩ := @strip_good a M x.1 hx (vl e x.1) e he (Nat.le_refl _) h
    have h3 := @strip_ge a M x.1 hx (vl e x.1) e he rfl
    obtain ⟨h4, h5⟩ := ih (fun y hy => hs y (List.mem_cons_of_mem _ hy)) _ h3 h2
    unfold ordS
    exact ⟨Int.dvd_trans h4 h1, h5⟩
theorem unit_pow {p n a : Int} (h : ringB p n = true) (ha : ¬ a % p = 0) : powF a (p ^ n.toNat - p ^ (n.toNat - 1)) (p ^ n.toNat) = 1 := by
  obtain ⟨r1, r2, r3, r4, r5, r6, r7⟩ := ring_facts2 h
  have hs := (ringB_iff.1 h).1
  have h1 := euler hs ha (n.toNat - 1)
  rw [show n.toNat - 1 + 1 = n.toNat by omega] at h1
  have e1 : p ^ n.toNat - p ^ (n.toNat - 1) = ((p.toNat ^ (n.toNat - 1) * (p.toNat - 1) : Nat) : Int) := by
    rw [r5]
    have e2 : ((p.toNat - 1 : Nat) : Int) = p - 1 := by omega
    have e3 : ((p.toNat ^ (n.toNat - 1) : Nat) : Int) = p ^ (n.toNat - 1) := by
      push_cast
      rw [show ((p.toNat : Nat) : Int) = p by omega]
    rw [Int.natCast_mul, e2, e3, Int.mul_sub, Int.mul_one]
  have hb : p.toNat ^ (n.toNat - 1) * (p.toNat - 1) < 2 ^ 60 := by
    have : ((p.toNat ^ (n.toNat - 1) * (p.toNat - 1) : Nat) : Int) ≤ 1000000000 := by rw [← e1]; omega
    omega
  rw [e1, powF_eq r3 hb]
  have h2 := Int.emod_eq_emod_iff_emod_sub_eq_zero.2 (Int.emod_eq_zero_of_dvd h1)
  rw [h2]
  exact Int.emod_eq_of_lt (by omega) (by omega)
end Go.Proofs.Ytcillfhkgckiaaa
