/- Division of polynomials by a prime: both texts. -/
import Derived.Test.YtdhnpmjoajaeiaaMA
import Derived.Test.YtdhnpmjoajaeiaaG6
namespace Go.Proofs.Ytdhnpmjoajaeiaa
open Go Go.RowKit

def leadF (m L x : Int) : Int := x * L % m
theorem leadF_bd {m L : Int} (hm : 1 ≤ m) : ∀ x, 0 ≤ x ∧ x ≤ m - 1 → 0 ≤ leadF m L x ∧ leadF m L x ≤ m - 1 := fun x _ =>
  ⟨Int.emod_nonneg _ (by omega), by have := Int.emod_lt_of_pos (x * L) (show 0 < m by omega); unfold leadF; omega⟩
/-- The quotient and the remainder by a prime. -/
def quoP (p : Int) (f g : List Int) : List Int := quoF p (leadF p (inv (g.getD (g.length - 1) 0) p)) f g
def remP (p : Int) (f g : List Int) : List Int := remF p (leadF p (inv (g.getD (g.length - 1) 0) p)) f g
theorem ringB_one {p : Int} (h : smallP p = true) : ringB p 1 = true := by
  have := smallP_bd h
  exact ringB_iff.2 ⟨h, by omega, by omega, by show p ^ 1 ≤ 1000000000; rw [Int.pow_succ, Int.pow_zero]; omega⟩

end Go.Proofs.Ytdhnpmjoajaeiaa
