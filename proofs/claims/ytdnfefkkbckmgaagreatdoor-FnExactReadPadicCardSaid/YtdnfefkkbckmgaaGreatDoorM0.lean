/- Plain arithmetic: primes. -/
import Derived.Test.YtdnfefkkbckmgaaGreatDoorRows
namespace Go.Proofs.YtdnfefkkbckmgaaGreatDoor

def noDivB (n : Int) : Bool := (List.range 1001).all fun d => decide (d < 2) || decide (n < (d : Int) * d) || decide (n % (d : Int) ≠ 0)
/-- A prime number up to 1000000. -/
def primeB (n : Int) : Bool := decide (2 ≤ n) && decide (n ≤ 1000000) && noDivB n
/-- A prime number up to 97. -/
def smallP (n : Int) : Bool := decide (n ≤ 97) && primeB n

theorem noDiv_t {n : Int} {k : Nat} (h : ∀ j : Nat, 2 ≤ j → j < k → n % (j : Int) ≠ 0) (hk : n < (k : Int) * k) : noDivB n = true := by
  unfold noDivB
  rw [List.all_eq_true]
  intro d _
  by_cases h2 : d < 2
  · simp [h2]
  by_cases h3 : n < (d : Int) * d
  · simp [h3]
  have : d < k := by
    rcases Nat.lt_or_ge d k with h4 | h4
    · exact h4
    · have h6 : (k : Int) * k ≤ (d : Int) * d := Int.mul_le_mul (by omega) (by omega) (by omega) (by omega)
      omega
  have h7 := h d (by omega) this
  simp [h7]

theorem noDiv_f {n : Int} {k : Nat} (h2 : 2 ≤ k) (hk : (k : Int) * k ≤ n) (hn : n ≤ 1000000) (hm : n % (k : Int) = 0) : noDivB n = false := by
  unfold noDivB
  rw [List.all_eq_false]
  have hk1 : k < 1001 := by
    rcases Nat.lt_or_ge k 1001 with h | h
    · exact h
    · have h6 : (1001 : Int) * 1001 ≤ (k : Int) * k := Int.mul_le_mul (by omega) (by omega) (by omega) (by omega)
      omega
  refine ⟨k, List.mem_range.2 hk1, ?_⟩
  have a : ¬ k < 2 := by omega
  have b : ¬ n < (k : Int) * k := by omega
  simp [a, b, hm]

theorem sq_bd {k : Nat} (h : k ≤ 1001) : 0 ≤ (k : Int) * k ∧ (k : Int) * k ≤ 1002001 := by
  have h6 : (k : Int) * k ≤ (1001 : Int) * 1001 := Int.mul_le_mul (by omega) (by omega) (by omega) (by omega)
  have h7 : (0 : Int) ≤ (k : Int) * k := Int.mul_nonneg (by omega) (by omega)
  exact ⟨h7, by omega⟩

theorem sq_lt {n : Int} {k : Nat} (hn : n ≤ 1000000) (h : (k : Int) * k ≤ n) : k ≤ 1000 := by
  rcases Nat.lt_or_ge k 1001 with h' | h'
  · omega
  · have h6 : (1001 : Int) * 1001 ≤ (k : Int) * k := Int.mul_le_mul (by omega) (by omega) (by omega) (by omega)
    omega

theorem primeB_out {n : Int} (h : n < 2 ∨ 1000000 < n) : primeB n = false := by
  unfold primeB
  rcases h with h | h
  · have : ¬ 2 ≤ n := by omega
    simp [this]
  · have : ¬ n ≤ 1000000 := by omega
    simp [this]
theorem primeB_in {n : Int} (h1 : 2 ≤ n) (h2 : n ≤ 1000000) : primeB n = noDivB n := by simp [primeB, h1, h2]
theorem smallP_hi {n : Int} (h : 97 < n) : smallP n = false := by
  have : ¬ n ≤ 97 := by omega
  simp [smallP, this]
theorem smallP_lo {n : Int} (h : n ≤ 97) : smallP n = primeB n := by simp [smallP, h]
theorem smallP_bd {n : Int} (h : smallP n = true) : 2 ≤ n ∧ n ≤ 97 := by
  simp [smallP, primeB] at h
  omega
theorem smallP_prime {n : Int} (h : smallP n = true) : primeB n = true := by
  simp [smallP] at h
  exact h.2
theorem smallP_out {n : Int} (h : n < 2 ∨ 97 < n) : smallP n = false := by
  rcases h with h | h
  · by_cases h3 : n ≤ 97
    · rw [smallP_lo h3, primeB_out (.inl h)]
    · exact smallP_hi (by omega)
  · exact smallP_hi h
end Go.Proofs.YtdnfefkkbckmgaaGreatDoor
