/- A small fraction: bounds, the last steps: plain. -/
import Derived.Test.YtehdkbopkkgabaaQ1
import Derived.Test.YtehdkbopkkgabaaF4
namespace Go.Proofs.Ytehdkbopkkgabaa
open Go Go.RowKit

theorem exB (m : Int) (h2 : 2 ≤ m) (h9 : m ≤ 1000000000) : ∃ B : Nat, 2 * ((B : Int) * B) < m ∧ m ≤ 2 * (((B : Int) + 1) * (B + 1)) ∧ B ≤ 22360 := by
  have key : ∀ n : Nat, (∃ B : Nat, B < n ∧ 2 * ((B : Int) * B) < m ∧ m ≤ 2 * (((B : Int) + 1) * (B + 1))) ∨ 2 * ((n : Int) * n) < m := by
    intro n
    induction n with
    | zero => exact .inr (by simp; omega)
    | succ n ih =>
      rcases ih with ⟨B, h1, h2⟩ | h
      · exact .inl ⟨B, by omega, h2⟩
      · rcases Int.lt_or_le (2 * (((n : Int) + 1) * (n + 1))) m with h1 | h1
        · exact .inr (by rw [Int.natCast_add]; exact h1)
        · exact .inl ⟨n, by omega, h, h1⟩
  rcases key 22361 with ⟨B, h1, h2, h3⟩ | h
  · exact ⟨B, h2, h3, by omega⟩
  · exfalso; simp at h; omega
/-- Where a counter stands: below the bound the next one fits, at the bound it does not. -/
theorem bnd_lt {m : Int} {k B : Nat} (h : 2 * ((B : Int) * B) < m) (hk : k < B) : 2 * ((k : Int) + 1) * ((k : Int) + 1) < m := by
  have := Int.mul_le_mul (show (k : Int) + 1 ≤ B by omega) (show (k : Int) + 1 ≤ B by omega) (by omega) (by omega)
  rw [Int.mul_assoc]; omega
theorem bnd_ge {m : Int} {B : Nat} (h : m ≤ 2 * (((B : Int) + 1) * (B + 1))) : ¬ 2 * ((B : Int) + 1) * ((B : Int) + 1) < m := by
  rw [Int.mul_assoc]; omega
theorem sq_fits {k : Nat} (h : k ≤ 22360) : 0 ≤ 2 * ((k : Int) + 1) ∧ 2 * ((k : Int) + 1) ≤ 44722 ∧ 0 ≤ 2 * ((k : Int) + 1) * ((k : Int) + 1) ∧ 2 * ((k : Int) + 1) * ((k : Int) + 1) ≤ 1000100000 := by
  have := Int.mul_le_mul (show (k : Int) + 1 ≤ 22361 by omega) (show (k : Int) + 1 ≤ 22361 by omega) (by omega) (by omega)
  have h0 := Int.mul_nonneg (show 0 ≤ (k : Int) + 1 by omega) (show 0 ≤ (k : Int) + 1 by omega)
  rw [Int.mul_assoc]; omega

/-- A number times a power, if all steps are values. -/
def mulUp : Nat → Int → Int → Option Int
  | 0, _, x => some x
  | k + 1, p, x => if inB (x * p) (-1000000000000) 1000000000000 then mulUp k p (x * p) else none
def tailF (p v N D : Int) : Int × Int × Int :=
  match mulUp v.toNat p N with
  | none => (0, 0, 3)
  | some N' => match mulUp (-v).toNat p D with
    | none => (0, 0, 3)
    | some D' => (N', D', 0)
end Go.Proofs.Ytehdkbopkkgabaa
