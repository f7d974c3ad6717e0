/- Polynomials with valid coefficients: the statement's text; values by a modulus: both texts. -/
import Derived.Test.YtaninbfcoifedaaG1
import Derived.Test.YtaninbfcoifedaaC2
namespace Go.Proofs.Ytaninbfcoifedaa
open Go Go.RowKit

/-- The value at x by a modulus. -/
def valF (m x : Int) : List Int → Int
  | [] => 0
  | c :: r => (valF m x r * x + c) % m
theorem valF_drop {m x : Int} {xs : List Int} {k : Nat} (h : k < xs.length) : valF m x (xs.drop k) = (valF m x (xs.drop (k + 1)) * x + xs[k]) % m := by
  rw [List.drop_eq_getElem_cons h]; rfl
theorem valF_bd {m x : Int} (hm : 1 ≤ m) (xs : List Int) : 0 ≤ valF m x xs ∧ valF m x xs ≤ m - 1 := by
  cases xs with
  | nil => simp [valF]; omega
  | cons c r => exact ⟨Int.emod_nonneg _ (by omega), by have := Int.emod_lt_of_pos (valF m x r * x + c) (show 0 < m by omega); simp only [valF]; omega⟩
theorem valF_fits {m x : Int} (hm : 1 ≤ m ∧ m ≤ 1000000000) (hx : 0 ≤ x ∧ x ≤ 1000000000) (xs : List Int) : 0 ≤ valF m x xs ∧ valF m x xs ≤ 1000000000 ∧ 0 ≤ valF m x xs * x ∧ valF m x xs * x ≤ 1000000000000000000 := by
  have h := valF_bd (x := x) hm.1 xs
  have h1 := Int.mul_nonneg h.1 hx.1
  have h2 : valF m x xs * x ≤ 1000000000 * 1000000000 := Int.mul_le_mul (by omega) hx.2 hx.1 (by omega)
  exact ⟨h.1, by omega, h1, by omega⟩
theorem mod_add_mod2 {a c m : Int} : (a + c % m) % m = (a + c) % m := by
  rw [Int.add_emod, Int.emod_emod, ← Int.add_emod]

end Go.Proofs.Ytaninbfcoifedaa
