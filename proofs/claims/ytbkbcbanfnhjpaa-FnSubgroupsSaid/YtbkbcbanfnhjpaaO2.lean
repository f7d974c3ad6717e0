/- Orbits: both texts. -/
import Derived.Test.YtbkbcbanfnhjpaaMB
namespace Go.Proofs.Ytbkbcbanfnhjpaa
open Go Go.RowKit

theorem asc_len {rs : List Int} {F : Nat} (ha : rs.Pairwise (· < ·)) (hr : ∀ x ∈ rs, 0 ≤ x ∧ x < (F : Int)) : rs.length ≤ F := by
  rw [← listedU_self ha hr (fun _ => Iff.rfl)]; exact listedU_len _ _
end Go.Proofs.Ytbkbcbanfnhjpaa
