/- A text is that of its number. -/
import Derived.Test.YtdnfefkkbckmgaaGreatDoorTBB
import Derived.Test.YtdnfefkkbckmgaaGreatDoorT54
namespace Go.Proofs.YtdnfefkkbckmgaaGreatDoor
open Go Go.RowKit

theorem good_text {x : Pd} (h : padicB x.p x.v x.u x.n = true) : goodT (textL x.p x.v x.u x.n) x := by
  refine ⟨h, rfl, ?_⟩
  have e := digits_back h
  unfold dgs
  split
  · rename_i h0
    have : digs x.p x.u x.n.toNat = [] := by rw [h0]; rfl
    rw [this] at e
    exact e
  · exact e
theorem res_text {x z : Pd} {d : Int} (h : padicB x.p x.v x.u x.n = true) (hz : resT (textL x.p x.v x.u x.n) z d) : z = x ∧ d = 0 := by
  rcases hz with ⟨rfl, hz⟩ | ⟨_, _, hz⟩
  · exact ⟨good_one hz (good_text h), rfl⟩
  · exact absurd (good_text h) (hz x)
end Go.Proofs.YtdnfefkkbckmgaaGreatDoor
