/- Plain arithmetic: powers, remainders, valuations, moduli. -/
import Derived.Test.YtdnfefkkbckmgaaGreatDoorM0
namespace Go.Proofs.YtdnfefkkbckmgaaGreatDoor

theorem pow_pos' {n : Int} (h : 1 ≤ n) (k : Nat) : 1 ≤ n ^ k := by
  induction k with
  | zero => simp
  | succ k ih => rw [Int.pow_succ]; have := Int.mul_le_mul ih h (by omega) (by omega); omega
theorem pow_mono {n : Int} (h : 1 ≤ n) {a b : Nat} (hab : a ≤ b) : n ^ a ≤ n ^ b := by
  induction hab with
  | refl => exact Int.le_refl _
  | step _ ih =>
    rename_i m _
    rw [Int.pow_succ]
    have h1 := pow_pos' h m
    have := Int.mul_le_mul (Int.le_refl (n ^ m)) h (by omega) (by omega)
    omega
theorem pow_step {n B : Int} {e k : Nat} (h : 1 ≤ n) (hb : n ^ e ≤ B) (hk : k < e) : 1 ≤ n ^ k ∧ n ^ k ≤ B ∧ 1 ≤ n ^ k * n ∧ n ^ k * n ≤ B := by
  have h1 := pow_pos' h k
  have h2 := pow_pos' h (k + 1)
  have h3 := pow_mono h (show k + 1 ≤ e from hk)
  have h4 := pow_mono h (show k ≤ e by omega)
  rw [Int.pow_succ] at h2 h3
  omega

theorem tmod_emod {n m : Int} : (n.tmod m) % m = n % m := by
  rw [Int.tmod_def, show n - m * n.tdiv m = n + m * (-(n.tdiv m)) by rw [Int.mul_neg]; omega, Int.add_mul_emod_self_left]
theorem tmod_bd {n m : Int} (h : 0 < m) : -m < n.tmod m ∧ n.tmod m < m := by
  refine ⟨Int.lt_tmod_of_pos _ h, Int.tmod_lt_of_pos _ h⟩
theorem mod_fix {n m : Int} (_h : 0 < m) : (n.tmod m + m) % m = n % m := by
  rw [Int.add_emod_right, tmod_emod]
theorem tmod_zero_iff {n p : Int} : n.tmod p = 0 ↔ n % p = 0 := by
  rw [← Int.dvd_iff_tmod_eq_zero, Int.dvd_iff_emod_eq_zero]

/-! ### How often p divides n -/
def vlF : Nat → Int → Int → Nat
  | 0, _, _ => 0
  | f + 1, n, p => if n % p = 0 then vlF f (n / p) p + 1 else 0
def vl (n p : Int) : Nat := vlF n.natAbs n p

theorem vlF_eq {p c : Int} (hp : 2 ≤ p) (hc : ¬ c % p = 0) : ∀ (k f : Nat), k ≤ f → vlF f (c * p ^ k) p = k := by
  intro k
  induction k with
  | zero =>
    intro f _
    cases f with
    | zero => rfl
    | succ f => simp only [Int.pow_zero, Int.mul_one, vlF]; rw [if_neg hc]
  | succ k ih =>
    intro f hf
    cases f with
    | zero => omega
    | succ f =>
      have e : c * p ^ (k + 1) = c * p ^ k * p := by rw [Int.pow_succ, Int.mul_assoc]
      simp only [vlF]
      rw [if_pos (by rw [e]; exact Int.mul_emod_left _ _), e, Int.mul_ediv_cancel _ (by omega), ih f (by omega)]
theorem pow_gt (p : Int) (hp : 2 ≤ p) (k : Nat) : (k : Int) < p ^ k := by
  induction k with
  | zero => simp
  | succ k ih =>
    rw [Int.pow_succ]
    have := Int.mul_le_mul (show (k : Int) + 1 ≤ p ^ k by omega) hp (by omega) (by omega)
    omega
theorem vl_eq {n p c : Int} {k : Nat} (hp : 2 ≤ p) (hn : n = c * p ^ k) (hc : ¬ c % p = 0) : vl n p = k := by
  unfold vl
  have h0 : c ≠ 0 := fun h => hc (by rw [h]; simp)
  have h1 := pow_gt p hp k
  have h2 : n.natAbs = c.natAbs * (p ^ k).natAbs := by rw [hn, Int.natAbs_mul]
  have h3 : 1 ≤ c.natAbs := by omega
  have h4 := Nat.mul_le_mul h3 (Nat.le_refl (p ^ k).natAbs)
  have h5 : k ≤ n.natAbs := by omega
  rw [hn] at h5 ⊢
  exact vlF_eq hp hc k _ h5
/-- n is p to the power of vl times something that p does not divide. -/
theorem vl_ex {p : Int} (hp : 2 ≤ p) : ∀ (f : Nat) (n : Int), n ≠ 0 → n.natAbs ≤ f → ∃ (c : Int) (k : Nat), n = c * p ^ k ∧ ¬ c % p = 0 := by
  intro f
  induction f with
  | zero => intro n h0 h; omega
  | succ f ih =>
    intro n h0 hf
    by_cases h : n % p = 0
    · have hd : n = n / p * p := by have := Int.ediv_mul_cancel (Int.dvd_of_emod_eq_zero h); omega
      have h1 : n / p ≠ 0 := fun h' => h0 (by rw [hd, h']; simp)
      have h2 : n.natAbs = (n / p).natAbs * p.natAbs := by rw [← Int.natAbs_mul, ← hd]
      have h3 := Nat.mul_le_mul (Nat.le_refl (n / p).natAbs) (show 2 ≤ p.natAbs by omega)
      obtain ⟨c, k, e, hc⟩ := ih (n / p) h1 (by omega)
      exact ⟨c, k + 1, by rw [Int.pow_succ, ← Int.mul_assoc, ← e]; exact hd, hc⟩
    · exact ⟨n, 0, by simp, h⟩
theorem vl_spec {n p : Int} (hp : 2 ≤ p) (hn : n ≠ 0) : ∃ c, n = c * p ^ vl n p ∧ ¬ c % p = 0 ∧ n / p ^ vl n p = c := by
  obtain ⟨c, k, e, hc⟩ := vl_ex hp n.natAbs n hn (Nat.le_refl _)
  have hk := vl_eq hp e hc
  have h1 := pow_pos' (show 1 ≤ p by omega) k
  rw [hk]
  exact ⟨c, e, hc, by rw [e]; exact Int.mul_ediv_cancel _ (by omega)⟩

/-! ### Moduli -/
def modu (p n : Int) : Int := if p ^ n.toNat ≤ 1000000000 then p ^ n.toNat else 0
/-- A valid ring. -/
def ringB (p n : Int) : Bool := smallP p && (decide (1 ≤ n) && decide (n ≤ 40) && decide (p ^ n.toNat ≤ 1000000000))
theorem ringB_iff {p n : Int} : ringB p n = true ↔ smallP p = true ∧ 1 ≤ n ∧ n ≤ 40 ∧ p ^ n.toNat ≤ 1000000000 := by
  simp [ringB, and_assoc]
theorem modu_ring {p n : Int} (h : ringB p n = true) : modu p n = p ^ n.toNat := by
  unfold modu; rw [if_pos (ringB_iff.1 h).2.2.2]
theorem pow_large {p : Int} (hp : 2 ≤ p) {k : Nat} (hk : 30 ≤ k) : 1000000000 < p ^ k := by
  have h1 : p ^ 30 ≤ p ^ k := pow_mono (by omega) hk
  have h2 : (2 : Int) ^ 30 ≤ p ^ 30 := by
    have h : ∀ j : Nat, (2 : Int) ^ j ≤ p ^ j := by
      intro j
      induction j with
      | zero => simp
      | succ j ih => rw [Int.pow_succ, Int.pow_succ]; exact Int.mul_le_mul ih hp (by omega) (by have := pow_pos' (show 1 ≤ p by omega) j; omega)
    exact h 30
  have h3 : (2 : Int) ^ 30 = 1073741824 := by decide
  omega
end Go.Proofs.YtdnfefkkbckmgaaGreatDoor
