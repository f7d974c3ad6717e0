/- HasPermutation: both texts. -/
import Derived.Test.YteolkmgdnbdccaaP3
namespace Go.Proofs.Yteolkmgdnbdccaa
open Go Go.RowKit

theorem group_facts {n : Int} {rs : List Int} (h : groupB n rs = true) : ∃ m : Nat, n = m ∧ 1 ≤ m ∧ m ≤ 6 ∧ rs ≠ [] ∧ rs.head? = some 0 ∧ (∀ x ∈ rs, 0 ≤ x ∧ x < (facN m : Int)) ∧ rs.Pairwise (· < ·) ∧ closedB m rs = true := by
  unfold groupB at h
  simp only [Bool.and_eq_true, decide_eq_true_eq, beq_iff_eq] at h
  obtain ⟨⟨⟨h1, h2⟩, h3⟩, h4⟩ := h
  refine ⟨n.toNat, by omega, by omega, by omega, ?_, h2, fun x hx => by have := rises_mem rs _ h3 x hx; omega, rises_pair rs _ h3, h4⟩
  intro e; rw [e] at h2; simp at h2
def memC (n : Int) (rs a : List Int) : Int := if groupB n rs = true ∧ permB a = true then (if (a.length : Int) = n then 0 else 5) else 1
def hasF (n : Int) (rs a : List Int) : Bool × Int := if memC n rs a = 0 then (rs.contains (rankF a), 0) else (false, memC n rs a)
theorem mem_zero {n : Int} {rs a : List Int} (h : memC n rs a = 0) : groupB n rs = true ∧ permB a = true ∧ (a.length : Int) = n := by
  unfold memC at h
  split at h
  · rename_i h1
    split at h
    · exact ⟨h1.1, h1.2, ‹_›⟩
    · omega
  · omega
end Go.Proofs.Yteolkmgdnbdccaa
