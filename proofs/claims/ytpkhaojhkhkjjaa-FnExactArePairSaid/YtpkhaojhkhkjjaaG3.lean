/- The derivative: both texts. -/
import Derived.Test.YtpkhaojhkhkjjaaG2
import Derived.Test.YtpkhaojhkhkjjaaB3
namespace Go.Proofs.Ytpkhaojhkhkjjaa
open Go Go.RowKit

theorem own_empty' (w : World) : ownR w.heap.size (w.alloc (.cells #[] 2)) (.slice (some ⟨w.heap.size, 0, none⟩) 0 0) [] :=
  World.ownsRow_made w #[] 0 (Nat.le_refl _) (by simp [maxLen]) (by simp)
/-- The first k coefficients of the derivative. -/
def derK (xs : List Int) (k : Nat) : List Int := (List.range k).map fun (i : Nat) => ((i : Int) + 1) * xs.getD (i + 1) 0
def derF (xs : List Int) : List Int := derK xs (xs.length - 1)
theorem derK_len (xs : List Int) (k : Nat) : (derK xs k).length = k := by simp [derK]
theorem derK_succ (xs : List Int) (k : Nat) : derK xs (k + 1) = derK xs k ++ [((k : Int) + 1) * xs.getD (k + 1) 0] := by simp [derK, List.range_succ]
theorem derF_bd {xs : List Int} (hl : xs.length ≤ 9) (h : ∀ c ∈ xs, -1000000 ≤ c ∧ c ≤ 1000000) : ∀ c ∈ derF xs, -1000000000 ≤ c ∧ c ≤ 1000000000 := by
  intro c hc
  simp only [derF, derK, List.mem_map, List.mem_range] at hc
  obtain ⟨i, hi, rfl⟩ := hc
  have e : xs.getD (i + 1) 0 = xs[i + 1]'(by omega) := by simp [List.getD, List.getElem?_eq_getElem (show i + 1 < xs.length by omega)]
  rw [e]
  have h1 := h xs[i + 1] (List.getElem_mem _)
  obtain ⟨y, hy⟩ : ∃ y, y = xs[i + 1]'(by omega) := ⟨_, rfl⟩
  rw [← hy] at h1 ⊢
  have hi8 : i < 8 := by omega
  have : i = 0 ∨ i = 1 ∨ i = 2 ∨ i = 3 ∨ i = 4 ∨ i = 5 ∨ i = 6 ∨ i = 7 := by omega
  rcases this with rfl | rfl | rfl | rfl | rfl | rfl | rfl | rfl <;> simp <;> omega

end Go.Proofs.Ytpkhaojhkhkjjaa
