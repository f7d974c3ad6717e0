/- A copy of a slice: laws.toInt64S. -/
import Derived.Test.YtdnfefkkbckmgaaGreatDoorB3
namespace Go.Proofs.YtdnfefkkbckmgaaGreatDoor
open Go Go.RowKit

/-- The first j numbers, then noughts. -/
def part (xs : List Int) (j : Nat) : List Int := xs.take j ++ List.replicate (xs.length - j) 0
theorem part_len {xs : List Int} {j : Nat} (h : j ≤ xs.length) : (part xs j).length = xs.length := by simp [part]; omega
theorem part_all (xs : List Int) : part xs xs.length = xs := by simp [part]
theorem part_zero (xs : List Int) : part xs 0 = List.replicate xs.length 0 := by simp [part]
theorem part_step {xs : List Int} {j : Nat} (h : j < xs.length) : (vI (part xs j)).set j (.int .i64 xs[j]) = vI (part xs (j + 1)) := by
  have e : (part xs j).set j xs[j] = part xs (j + 1) := by
    unfold part
    have hl : (xs.take j).length = j := by rw [List.length_take]; omega
    obtain ⟨d, hd⟩ : ∃ d, xs.length - j = d + 1 := ⟨xs.length - j - 1, by omega⟩
    rw [List.set_append_right _ _ (by omega), hl, Nat.sub_self, hd, List.replicate_succ, List.set_cons_zero, take_snocI _ _ h, List.append_assoc, show xs.length - (j + 1) = d by omega]
    rfl
  rw [← e]
  simp [vI, List.map_set]
theorem vI_zeros (n : Nat) : (madeCells #[Value.int .i64 0] n).toList = vI (List.replicate n 0) := by
  rw [toList_madeCells_one]; simp [vI]

end Go.Proofs.YtdnfefkkbckmgaaGreatDoor
