/- The program's prime powers of the number of units, by evaluation. -/
import Derived.Test.YtehdkbopkkgabaaT39
namespace Go.Proofs.Ytehdkbopkkgabaa

/-- How often q divides n, and what is left: each number is laid out before it is used. -/
def vN : Nat → Nat → Nat → Nat × Nat
  | 0, n, _ => (0, n)
  | f + 1, n, q => if n % q = 0 then (match n / q with | 0 => (0, n) | m + 1 => ((vN f (m + 1) q).1 + 1, (vN f (m + 1) q).2)) else (0, n)
theorem vN_spec {q : Nat} (hq : 2 ≤ q) : ∀ (f n : Nat), 1 ≤ n → n < 2 ^ f → n = (vN f n q).2 * q ^ (vN f n q).1 ∧ ¬ (vN f n q).2 % q = 0 := by
  intro f
  induction f with
  | zero => intro n h1 h2; simp at h2; omega
  | succ f ih =>
    intro n h1 h2
    unfold vN
    by_cases hz : n % q = 0
    · rw [if_pos hz]
      have h3 : q * (n / q) = n := Nat.mul_div_cancel' (Nat.dvd_of_mod_eq_zero hz)
      have h4 : 1 ≤ n / q := by
        rcases Nat.eq_zero_or_pos (n / q) with h | h
        · rw [h] at h3; omega
        · exact h
      have h5 : n / q < 2 ^ f := by
        have := Nat.mul_le_mul_right (n / q) hq
        rw [Nat.pow_succ] at h2
        omega
      split
      · omega
      · rename_i m hm
        have hm : n / q = m + 1 := hm
        rw [← hm]
        obtain ⟨e1, e2⟩ := ih (n / q) h4 h5
        refine ⟨?_, e2⟩
        simp only
        rw [Nat.pow_succ, ← Nat.mul_assoc, ← e1, Nat.mul_comm]
        exact h3.symm
    · rw [if_neg hz]
      exact ⟨by simp, hz⟩
theorem vN_vl {q n : Nat} (hq : 2 ≤ q) (hn : 1 ≤ n) (h : n < 2 ^ 64) : vl (n : Int) (q : Int) = (vN 64 n q).1 ∧ (n : Int) / (q : Int) ^ (vN 64 n q).1 = ((vN 64 n q).2 : Nat) := by
  obtain ⟨e1, e2⟩ := vN_spec hq 64 n hn h
  have h1 : (n : Int) = ((vN 64 n q).2 : Int) * (q : Int) ^ (vN 64 n q).1 := by
    have := congrArg (fun x : Nat => (x : Int)) e1
    push_cast at this
    exact this
  have h2 : ¬ ((vN 64 n q).2 : Int) % (q : Int) = 0 := by
    intro hz
    exact e2 (by exact_mod_cast hz)
  refine ⟨vl_eq (by omega) h1 h2, ?_⟩
  have h3 := pow_pos' (show (1 : Int) ≤ (q : Int) by omega) (vN 64 n q).1
  conv => lhs; rw [h1]
  exact Int.mul_ediv_cancel _ (by omega)
def facN : Nat → Nat → Nat → Option (List (Nat × Nat))
  | 0, _, _ => none
  | f + 1, n, p => if n ≤ 1 then some [] else
    match (if n < p * p then n else p) with
    | 0 => none
    | q + 1 => match (vN 64 n (q + 1)).2 with
      | 0 => none
      | r + 1 => match facN f (r + 1) (q + 2) with
        | none => none
        | some L => some (if (vN 64 n (q + 1)).1 = 0 then L else (q + 1, (vN 64 n (q + 1)).1) :: L)
theorem facN_spec : ∀ (g f n p : Nat) (L : List (Nat × Nat)), g ≤ f → 2 ≤ p → 1 ≤ n → n < 2 ^ 64 → facN g n p = some L → facI f (n : Int) (p : Int) = L.map (fun x => ((x.1 : Int), (x.2 : Int))) := by
  intro g
  induction g with
  | zero => intro f n p L _ _ _ _ h; simp [facN] at h
  | succ g ih =>
    intro f n p L hf hp hn hn2 h
    obtain ⟨f, rfl⟩ : ∃ k, f = k + 1 := ⟨f - 1, by omega⟩
    unfold facN at h
    unfold facI
    by_cases h1 : n ≤ 1
    · rw [if_pos h1] at h
      rw [if_pos (by omega)]
      simp at h
      subst h
      rfl
    rw [if_neg h1] at h
    rw [if_neg (by omega)]
    have hqe : (if (n : Int) < (p : Int) * (p : Int) then (n : Int) else (p : Int)) = ((if n < p * p then n else p : Nat) : Int) := by
      by_cases hc : n < p * p
      · rw [if_pos hc, if_pos (by exact_mod_cast hc)]
      · rw [if_neg hc, if_neg (by intro q; exact hc (by exact_mod_cast q))]
    rw [hqe]
    split at h
    · simp at h
    · rename_i q hq
      have hq : (if n < p * p then n else p) = q + 1 := hq
      rw [hq]
      have hq2 : 2 ≤ q + 1 := by
        rw [← hq]
        split <;> omega
      obtain ⟨v1, v2⟩ := vN_vl hq2 hn hn2
      rw [v1, v2]
      obtain ⟨s1, s2⟩ := vN_spec hq2 64 n hn hn2
      split at h
      · simp at h
      · rename_i r hr
        have hr : (vN 64 n (q + 1)).2 = r + 1 := hr
        split at h
        · simp at h
        · rename_i L' hL'
          have hr2 : r + 1 ≤ n := by
            rw [hr] at s1
            have h8 := Nat.pow_le_pow_left (show 1 ≤ q + 1 by omega) (vN 64 n (q + 1)).1
            rw [Nat.one_pow] at h8
            have := Nat.mul_le_mul_left (r + 1) h8
            omega
          have hi := ih f (r + 1) (q + 2) L' (by omega) (by omega) (by omega) (by omega) hL'
          rw [hr]
          have e9 : (((q + 1 : Nat) : Int) + 1) = ((q + 2 : Nat) : Int) := by omega
          rw [e9, hi]
          simp at h
          subst h
          by_cases hk : (vN 64 n (q + 1)).1 = 0
          · rw [if_pos hk, if_pos hk]; rfl
          · rw [if_neg hk, if_neg hk]; rfl
end Go.Proofs.Ytehdkbopkkgabaa
