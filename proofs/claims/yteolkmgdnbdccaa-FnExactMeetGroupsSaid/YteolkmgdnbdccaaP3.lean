/- Permutations: tests, both texts; HasPermutation: both texts. -/
import Derived.Test.YteolkmgdnbdccaaP2
namespace Go.Proofs.Yteolkmgdnbdccaa
open Go Go.RowKit

def noP (xs : List Int) (i : Nat) : Bool := !inB (xs.getD i 0) 0 ((xs.length : Int) - 1) || (xs.take i).contains (xs.getD i 0)
def permB (xs : List Int) : Bool := !(List.range xs.length).any (noP xs) && inB xs.length 1 6
theorem noP_step {xs : List Int} {k : Nat} (h : (List.range k).any (noP xs) = false) (h2 : noP xs k = false) : (List.range (k + 1)).any (noP xs) = false := by
  rw [List.range_succ, List.any_append, h]; simp [h2]
theorem noP_hit {xs : List Int} {k : Nat} (hk : k < xs.length) (h2 : noP xs k = true) : permB xs = false := by
  unfold permB
  have : (List.range xs.length).any (noP xs) = true := List.any_eq_true.2 ⟨k, by simp [hk], h2⟩
  simp [this]
theorem noP_end {xs : List Int} (h : (List.range xs.length).any (noP xs) = false) : permB xs = inB xs.length 1 6 := by simp [permB, h]
theorem perm_facts {xs : List Int} (h : permB xs = true) : 1 ≤ xs.length ∧ xs.length ≤ 6 ∧ (∀ y ∈ xs, 0 ≤ y ∧ y < (xs.length : Int)) ∧ xs.Nodup := by
  unfold permB at h
  simp only [Bool.and_eq_true, Bool.not_eq_true'] at h
  obtain ⟨h1, h2⟩ := h
  have h3 := inB_iff.1 h2
  have hno : ∀ i, i < xs.length → noP xs i = false := fun i hi => by
    rcases hq : noP xs i
    · rfl
    · have : (List.range xs.length).any (noP xs) = true := List.any_eq_true.2 ⟨i, by simp [hi], hq⟩
      rw [this] at h1; cases h1
  refine ⟨by omega, by omega, fun y hy => ?_, ?_⟩
  · obtain ⟨i, hi, rfl⟩ := List.getElem_of_mem hy
    have := hno i hi
    unfold noP at this
    simp only [Bool.or_eq_false_iff, Bool.not_eq_false'] at this
    have h4 := inB_iff.1 this.1
    rw [List.getD, List.getElem?_eq_getElem hi] at h4
    simp at h4
    omega
  · rw [List.nodup_iff_pairwise_ne, List.pairwise_iff_getElem]
    intro i j hi hj hij e
    have := hno j hj
    unfold noP at this
    simp only [Bool.or_eq_false_iff] at this
    have h5 := this.2
    rw [List.getD, List.getElem?_eq_getElem hj] at h5
    simp only [Option.getD_some, List.contains_eq_mem, decide_eq_false_iff_not] at h5
    exact h5 (by rw [← e, List.mem_take_iff_getElem]; exact ⟨i, by omega, rfl⟩)

end Go.Proofs.Yteolkmgdnbdccaa
