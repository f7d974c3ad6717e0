/- Plain: both texts list the same prime powers; Legendre's symbol by Euler's criterion. -/
import Derived.Test.YtdeehgcabnoclaaCD
import Derived.Test.YtdeehgcabnoclaaT26
import Derived.Test.YtdeehgcabnoclaaT38
namespace Go.Proofs.Ytdeehgcabnoclaa
open Go

theorem fac_same : ∀ (f : Nat) (n p : Int), 2 ≤ p → 1 ≤ n → (∀ d : Int, 2 ≤ d → d < p → ¬ d ∣ n) → (n - p).toNat + 2 ≤ f →
    facI f n p = facS f n p ∧ ∀ x ∈ facI f n p, isP x.1.toNat ∧ 2 ≤ x.1 ∧ x.1 ∣ n := by
  intro f
  induction f with
  | zero => intro n p _ _ _ hf; omega
  | succ f ih =>
    intro n p hp hn hd hf
    have h2p : 2 * p ≤ p * p := Int.mul_le_mul_of_nonneg_right hp (by omega)
    unfold facI facS
    by_cases h1 : n ≤ 1
    · rw [if_pos h1, if_pos (show n < p * p by omega), if_neg (show ¬ 1 < n by omega)]
      exact ⟨rfl, by simp⟩
    rw [if_neg h1]
    by_cases hc : n < p * p
    · have hv : vl n n = 1 := vl_eq (c := 1) (k := 1) (by omega) (by rw [Int.pow_succ, Int.pow_zero]; omega) (by rw [Int.emod_eq_of_lt (by omega) (by omega)]; omega)
      have e0 : n / n ^ 1 = 1 := by rw [Int.pow_succ, Int.pow_zero, Int.one_mul]; exact Int.ediv_self (by omega)
      have e1 : facI f 1 (n + 1) = [] := by cases f with
        | zero => rfl
        | succ f => unfold facI; rw [if_pos (by omega)]
      simp only [if_pos hc]
      rw [hv, e0, e1, if_neg (by omega), if_pos (by omega)]
      refine ⟨rfl, fun x hx => ?_⟩
      simp at hx
      subst hx
      refine ⟨⟨by simp only; omega, fun d hdn => ?_⟩, by simp only; omega, Int.dvd_refl _⟩
      simp only at hdn ⊢
      obtain ⟨c, hc2⟩ := hdn
      have hN : (n : Int) = (d : Int) * (c : Int) := by rw [← Int.natCast_mul, ← hc2]; omega
      have hnd : (d : Int) ∣ n := ⟨c, hN⟩
      have hnc : (c : Int) ∣ n := ⟨d, by rw [hN, Int.mul_comm]⟩
      by_cases hd1 : d = 1
      · exact .inl hd1
      by_cases hc1 : c = 1
      · right; rw [hc2, hc1, Nat.mul_one]
      exfalso
      have hd0 : d ≠ 0 := fun h => by rw [h] at hN; simp at hN; omega
      have hc0 : c ≠ 0 := fun h => by rw [h] at hN; simp at hN; omega
      have g1 : p ≤ d := by
        rcases Int.lt_or_le (d : Int) p with h | h
        · exact absurd hnd (hd d (by omega) h)
        · exact h
      have g2 : p ≤ c := by
        rcases Int.lt_or_le (c : Int) p with h | h
        · exact absurd hnc (hd c (by omega) h)
        · exact h
      have := Int.mul_le_mul g1 g2 (by omega) (by omega)
      omega
    · simp only [if_neg hc]
      obtain ⟨k1, k2, k3, k4⟩ := @quo_le n p hp hn
      obtain ⟨c, q1, q2, q3⟩ := @vl_spec n p hp (show n ≠ 0 by omega)
      have hdiv : (n / p ^ vl n p) ∣ n := by rw [q3]; exact ⟨p ^ vl n p, q1⟩
      obtain ⟨r1, r2⟩ := ih (n / p ^ vl n p) (p + 1) (by omega) k1 (fun d d2 d3 d4 => by
        rcases (show d < p ∨ d = p by omega) with h | h
        · exact hd d d2 h (Int.dvd_trans d4 hdiv)
        · subst h; rw [q3] at d4; exact q2 (Int.emod_eq_zero_of_dvd d4)) (by omega)
      rw [← r1]
      refine ⟨rfl, fun x hx => ?_⟩
      rcases List.mem_append.1 hx with hx | hx
      · split at hx
        · simp at hx
        · rename_i hv0
          simp at hx
          subst hx
          have hpn : p ∣ n := by
            rw [q1]
            refine Int.dvd_trans ?_ (Int.dvd_mul_left _ _)
            obtain ⟨k, hk⟩ : ∃ k, vl n p = k + 1 := ⟨vl n p - 1, by omega⟩
            rw [hk, Int.pow_succ]; exact Int.dvd_mul_left _ _
          refine ⟨⟨by simp only; omega, fun d hdp => ?_⟩, hp, hpn⟩
          simp only at hdp ⊢
          have hdp' : (d : Int) ∣ p := by
            have : ((d : Nat) : Int) ∣ ((p.toNat : Nat) : Int) := Int.natCast_dvd_natCast.2 hdp
            rwa [show ((p.toNat : Nat) : Int) = p by omega] at this
          have hle := Int.le_of_dvd (by omega) hdp'
          by_cases hd1 : d = 1
          · exact .inl hd1
          by_cases hdq : (d : Int) = p
          · right; omega
          have hd0 : d ≠ 0 := fun h => by rw [h] at hdp'; have := Int.zero_dvd.1 hdp'; omega
          exact absurd (Int.dvd_trans hdp' hpn) (hd d (by omega) (by omega))
      · obtain ⟨s1, s2, s3⟩ := r2 x hx
        exact ⟨s1, s2, Int.dvd_trans s3 hdiv⟩
/-- Legendre's symbol, by Euler's criterion. -/
def legF (a p : Int) : Int := if powF a ((p - 1) / 2) p = 0 then 0 else if powF a ((p - 1) / 2) p = 1 then 1 else -1
theorem legF_bd (a p : Int) : -1 ≤ legF a p ∧ legF a p ≤ 1 := by unfold legF; repeat (first | split | omega)
theorem leg_euler {a p : Int} (hp : isP p.toNat) (h0 : 3 ≤ p) (h2 : p % 2 = 1) (hb : p ≤ 1000000000) : (if powF a ((p - 1) / 2) p = p - 1 then -1 else powF a ((p - 1) / 2) p) = legF a p ∧ 0 ≤ powF a ((p - 1) / 2) p ∧ powF a ((p - 1) / 2) p ≤ p - 1 := by
  have q1 := Int.emod_nonneg a (show p ≠ 0 by omega)
  obtain ⟨n, hn⟩ : ∃ n : Nat, a % p = (n : Int) := ⟨(a % p).toNat, by omega⟩
  have e : powF a ((p - 1) / 2) p = ((n ^ ((p.toNat - 1) / 2) % p.toNat : Nat) : Int) := by
    have : (p - 1) / 2 = (((p.toNat - 1) / 2 : Nat) : Int) := by omega
    rw [this, powF_eq (by omega) (by
      have : (p.toNat - 1) / 2 < 1000000000 := by omega
      exact Nat.lt_trans this (by decide)), ← pow_mod', hn]
    rw [Int.natCast_emod, show ((p.toNat : Nat) : Int) = p by omega, Int.natCast_pow]
  rw [e]
  have hE := @eulerN p.toNat n hp (by omega)
  unfold legF
  rw [e]
  rcases hE with h | h | h <;> rw [h]
  · simp; omega
  · rw [if_neg (by omega)]; simp; omega
  · rw [if_pos (by omega), if_neg (by omega), if_neg (by omega)]
    refine ⟨rfl, by omega, by omega⟩
/-- The product of the symbols by prime powers. -/
def jacP (a : Int) : List (Int × Int) → Int → Int
  | [], s => s
  | x :: r, s => jacP a r (s * legF a x.1 ^ x.2.toNat)
/-- Jacobi's symbol and the code. -/
def jacF (a n : Int) : Int × Int := if inB a (-1000000000000) 1000000000000 = true ∧ inB n 1 1000000 = true ∧ ¬ n % 2 = 0 then (jacP a (facI (3 * n.toNat + 300) n 2) 1, 0) else (0, 2)
theorem jac_facts {n : Int} (h1 : 1 ≤ n) (h2 : ¬ n % 2 = 0) : facI (3 * n.toNat + 300) n 2 = facS (3 * n.toNat + 300) n 2 ∧ ∀ x ∈ facI (3 * n.toNat + 300) n 2, isP x.1.toNat ∧ 3 ≤ x.1 ∧ x.1 % 2 = 1 ∧ x.1 ≤ n := by
  obtain ⟨e1, e2⟩ := fac_same (3 * n.toNat + 300) n 2 (by omega) h1 (fun d d2 d3 => by omega) (by omega)
  refine ⟨e1, fun x hx => ?_⟩
  obtain ⟨s1, s2, s3⟩ := e2 x hx
  have hle := Int.le_of_dvd (by omega) s3
  have hodd : x.1 % 2 = 1 := by
    rcases (show x.1 % 2 = 0 ∨ x.1 % 2 = 1 by omega) with h | h
    · exact absurd (Int.emod_eq_zero_of_dvd (Int.dvd_trans (Int.dvd_of_emod_eq_zero h) s3)) h2
    · exact h
  exact ⟨s1, by omega, hodd, hle⟩
end Go.Proofs.Ytdeehgcabnoclaa
