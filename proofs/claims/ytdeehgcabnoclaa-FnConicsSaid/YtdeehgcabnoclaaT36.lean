/- The order of a unit: the program's text. -/
import Derived.Test.YtdeehgcabnoclaaT34
import Derived.Test.YtdeehgcabnoclaaT27
import Derived.Test.YtdeehgcabnoclaaB4
namespace Go.Proofs.Ytdeehgcabnoclaa
open Go Go.RowKit

/-- e, with q taken off at most k times, as long as the power is 1. -/
def stripK (a M q : Int) : Nat → Int → Int
  | 0, e => e
  | k + 1, e => if powF a (e / q) M = 1 then stripK a M q k (e / q) else e
theorem strip_stay {a M q e : Int} (h : ¬ powF a (e / q) M = 1) : ∀ k, stripK a M q k e = e
  | 0 => rfl
  | k + 1 => by unfold stripK; rw [if_neg h]
def ordI (a M : Int) : List (Int × Int) → Int → Int
  | [], e => e
  | x :: r, e => ordI a M r (stripK a M x.1 x.2.toNat e)
theorem facI_mem : ∀ (f : Nat) (n p : Int), 2 ≤ p → p ≤ 1000000001 → 1 ≤ n → n ≤ 1000000000 → ∀ x ∈ facI f n p, (2 ≤ x.1 ∧ x.1 ≤ 1000000001) ∧ (1 ≤ x.2 ∧ x.2 ≤ 1000000000) := by
  intro f
  induction f with
  | zero => intro n p _ _ _ _ x hx; simp [facI] at hx
  | succ f ih =>
    intro n p hp hp2 hn hn2 x hx
    unfold facI at hx
    split at hx
    · simp at hx
    · rename_i h1
      obtain ⟨q, hq, hq2, hq3⟩ : ∃ q, q = (if n < p * p then n else p) ∧ 2 ≤ q ∧ q ≤ 1000000000 := by
        refine ⟨_, rfl, ?_, ?_⟩
        · split <;> omega
        · split
          · omega
          · rename_i hc
            have := Int.mul_le_mul_of_nonneg_right hp (show 0 ≤ p by omega)
            omega
      rw [← hq] at hx
      obtain ⟨k1, k2, k3, k4⟩ := @quo_le n q hq2 hn
      rw [List.mem_append] at hx
      rcases hx with hx | hx
      · split at hx
        · simp at hx
        · simp at hx
          subst hx
          have h5 : (vl n q : Int) ≤ 1000000000 := by
            obtain ⟨c, e1, e2, e3⟩ := vl_spec hq2 (show n ≠ 0 by omega)
            have := pow_gt q hq2 (vl n q)
            have h7 := vl_pow_bd hq2 (show n ≠ 0 by omega)
            omega
          simp only
          omega
      · exact ih _ _ (by omega) (by omega) k1 (by omega) x hx

theorem strip_bd {a M q : Int} (hq : 2 ≤ q) : ∀ (k : Nat) (e : Int), 0 ≤ e → 0 ≤ stripK a M q k e ∧ stripK a M q k e ≤ e := by
  intro k
  induction k with
  | zero => intro e h; exact ⟨h, Int.le_refl _⟩
  | succ k ih =>
    intro e h
    have h1 : 0 ≤ e / q := Int.ediv_nonneg h (by omega)
    have h2 : e / q ≤ e := Int.ediv_le_self _ h
    unfold stripK
    split
    · have := ih (e / q) h1; omega
    · omega

end Go.Proofs.Ytdeehgcabnoclaa
