/- Readers of slices: sums, comparisons, marks. -/
import Derived.Test.YtdeehgcabnoclaaB1
import Derived.Test.YtdeehgcabnoclaaMA
namespace Go.Proofs.Ytdeehgcabnoclaa
open Go Go.RowKit

def lsum : List Int → Int
  | [] => 0
  | x :: r => x + lsum r
theorem lsum_snoc (xs : List Int) (x : Int) : lsum (xs ++ [x]) = lsum xs + x := by
  induction xs with
  | nil => simp [lsum]
  | cons y r ih => simp only [List.cons_append, lsum, ih]; omega
theorem take_snocI (xs : List Int) (k : Nat) (h : k < xs.length) : xs.take (k + 1) = xs.take k ++ [xs[k]] := by
  rw [List.take_succ_eq_append_getElem h]
theorem lsum_take {xs : List Int} {k : Nat} (h : k < xs.length) : lsum (xs.take (k + 1)) = lsum (xs.take k) + xs[k] := by rw [take_snocI _ _ h, lsum_snoc]
theorem lsum_bd {B : Int} (xs : List Int) (h : ∀ x ∈ xs, 0 ≤ x ∧ x ≤ B) : 0 ≤ lsum xs ∧ lsum xs ≤ B * xs.length := by
  induction xs with
  | nil => simp [lsum]
  | cons y r ih =>
    have h1 := h y (by simp)
    have h2 := ih (fun x hx => h x (by simp [hx]))
    have e : B * ((r.length + 1 : Nat) : Int) = B * (r.length : Int) + B := by rw [Int.natCast_add, Int.mul_add]; simp
    simp only [lsum, List.length_cons]
    rw [e]
    omega
theorem lsum_take_bd {xs : List Int} (h : ∀ x ∈ xs, 0 ≤ x ∧ x ≤ 1000) (hl : xs.length ≤ 1000) (k : Nat) : 0 ≤ lsum (xs.take k) ∧ lsum (xs.take k) ≤ 1000000 := by
  have h1 := lsum_bd (B := 1000) (xs.take k) (fun x hx => h x (List.mem_of_mem_take hx))
  have h2 : (xs.take k).length ≤ 1000 := by rw [List.length_take]; omega
  omega


end Go.Proofs.Ytdeehgcabnoclaa
