/- Polynomials in a ring; images: both texts. -/
import Derived.Test.YtdhnpmjoajaeiaaH2
import Derived.Test.YtdhnpmjoajaeiaaG4
namespace Go.Proofs.Ytdhnpmjoajaeiaa
open Go Go.RowKit

/-- A number that is no residue. -/
def noRes (p n : Int) : Int → Bool := fun c => !inB c 0 (p ^ n.toNat - 1)
/-- A polynomial in a ring. -/
def inRingB (p n : Int) (xs : List Int) : Bool := ringB p n && decide (xs.length ≤ 9) && !(xs.any (noRes p n)) && lastNZ xs
theorem inRing_facts {p n : Int} {xs : List Int} (h : inRingB p n xs = true) : ringB p n = true ∧ xs.length ≤ 9 ∧ (∀ c ∈ xs, 0 ≤ c ∧ c ≤ p ^ n.toNat - 1) ∧ lastNZ xs = true := by
  simp [inRingB, and_assoc] at h
  obtain ⟨h1, h2, h3, h4⟩ := h
  refine ⟨h1, h2, fun c hc => ?_, h4⟩
  have := h3 c hc
  simp [noRes] at this
  exact inB_iff.1 this

end Go.Proofs.Ytdhnpmjoajaeiaa
