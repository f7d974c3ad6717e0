/- Polynomials with valid coefficients: both texts. -/
import Derived.Test.YtaninbfcoifedaaMA
import Derived.Test.YtaninbfcoifedaaA9
namespace Go.Proofs.Ytaninbfcoifedaa
open Go Go.RowKit

/-- A number that is no coefficient. -/
def noCoef : Int → Bool := fun c => !inB c (-1000000) 1000000
/-- The last one is not 0. -/
def lastNZ (xs : List Int) : Bool := xs.getLast? != some 0
/-- A valid polynomial. -/
def polyB (xs : List Int) : Bool := decide (xs.length ≤ 9) && !(xs.any noCoef) && lastNZ xs
theorem polyB_iff {xs : List Int} : polyB xs = true ↔ xs.length ≤ 9 ∧ xs.any noCoef = false ∧ lastNZ xs = true := by
  simp [polyB, and_assoc]
theorem coef_bd {xs : List Int} (h : xs.any noCoef = false) : ∀ x ∈ xs, -1000000 ≤ x ∧ x ≤ 1000000 := by
  intro x hx
  have := List.any_eq_false.1 h x hx
  simp [noCoef] at this
  exact inB_iff.1 this
theorem lastNZ_nil : lastNZ [] = true := rfl
theorem lastNZ_at {xs : List Int} {k : Nat} (h : xs.length = k + 1) : lastNZ xs = (xs[k]'(by omega) != 0) := by
  unfold lastNZ
  have e : xs.getLast? = some (xs[k]'(by omega)) := by
    rw [List.getLast?_eq_getElem?, show xs.length - 1 = k by omega, List.getElem?_eq_getElem]
  rw [e]
  simp [bne]

end Go.Proofs.Ytaninbfcoifedaa
