/- The order of a unit: the statement's text walked. -/
import Derived.Test.YtdeehgcabnoclaaT37
import Derived.Test.YtdeehgcabnoclaaT35
namespace Go.Proofs.Ytdeehgcabnoclaa
open Go Go.RowKit

def ordS (a M : Int) : List (Int × Int) → Int → Int
  | [], e => e
  | x :: r, e => ordS a M r (stripK a M x.1 (vl e x.1) e)
theorem vl_succ {e q : Int} (hq : 2 ≤ q) (he : 1 ≤ e) (h : e % q = 0) : vl e q = vl (e / q) q + 1 ∧ 1 ≤ e / q := by
  have h1 : e / q * q = e := Int.ediv_mul_cancel (Int.dvd_of_emod_eq_zero h)
  have h2 : 1 ≤ e / q := by
    rcases Int.lt_or_le 0 (e / q) with h3 | h3
    · omega
    · have := Int.mul_nonpos_of_nonpos_of_nonneg h3 (show 0 ≤ q by omega); omega
  obtain ⟨c, e1, e2, e3⟩ := vl_spec hq (show e / q ≠ 0 by omega)
  refine ⟨vl_eq hq (c := c) ?_ e2, h2⟩
  rw [Int.pow_succ, ← Int.mul_assoc, ← e1, h1]
theorem strip_ge {a M q : Int} (hq : 2 ≤ q) : ∀ (k : Nat) (e : Int), 1 ≤ e → vl e q = k → 1 ≤ stripK a M q k e := by
  intro k
  induction k with
  | zero => intro e h _; exact h
  | succ k ih =>
    intro e h hv
    unfold stripK
    split
    · have hz : e % q = 0 := by
        rcases Int.emod_two_eq (0 : Int) with _ | _
        all_goals
          by_cases hz : e % q = 0
          · exact hz
          · have := vl_eq hq (n := e) (c := e) (k := 0) (by simp) hz
            omega
      obtain ⟨h1, h2⟩ := vl_succ hq h hz
      exact ih (e / q) h2 (by omega)
    · exact h
theorem facS_mem : ∀ (f : Nat) (n p : Int), 2 ≤ p → p ≤ 1000000001 → 1 ≤ n → n ≤ 1000000000 → ∀ x ∈ facS f n p, (2 ≤ x.1 ∧ x.1 ≤ 1000000001) := by
  intro f
  induction f with
  | zero => intro n p _ _ _ _ x hx; simp [facS] at hx
  | succ f ih =>
    intro n p hp hp2 hn hn2 x hx
    unfold facS at hx
    split at hx
    · split at hx
      · simp at hx; subst hx; simp only; omega
      · simp at hx
    · rename_i hc
      have h9 := Int.mul_le_mul_of_nonneg_right hp (show 0 ≤ p by omega)
      obtain ⟨k1, k2, k3, k4⟩ := @quo_le n p hp hn
      rw [List.mem_append] at hx
      rcases hx with hx | hx
      · split at hx
        · simp at hx
        · simp at hx; subst hx; simp only; omega
      · exact ih _ _ (by omega) (by omega) k1 (by omega) x hx

end Go.Proofs.Ytdeehgcabnoclaa
