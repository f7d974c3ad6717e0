/- Division by a monic polynomial in a ring: the program's text. -/
import Derived.Test.YtdhnpmjoajaeiaaH11
import Derived.Test.YtdhnpmjoajaeiaaH5
namespace Go.Proofs.Ytdhnpmjoajaeiaa
open Go Go.RowKit

/-- A monic polynomial. -/
def monicB (xs : List Int) : Bool := xs.getLast? == some 1
theorem monicB_nil : monicB [] = false := rfl
theorem monicB_at {xs : List Int} {k : Nat} (h : xs.length = k + 1) : monicB xs = (xs.getD k 0 == 1) := by
  unfold monicB
  have e : xs.getLast? = some (xs[k]'(by omega)) := by
    rw [List.getLast?_eq_getElem?, show xs.length - 1 = k by omega, List.getElem?_eq_getElem]
  rw [e, getD_lt (by omega)]
  cases h : (xs[k]'(by omega) == 1) <;> simp_all

/-- Division by a monic polynomial in a ring, with its error. -/
def divideInRingF (p n : Int) (f g : List Int) : List Int × List Int × Int :=
  if inRingB p n f = true ∧ inRingB p n g = true then (if monicB g = true then (quoF (p ^ n.toNat) (fun x => x) f g, remF (p ^ n.toNat) (fun x => x) f g, 0) else ([], [], 5)) else ([], [], 1)
theorem monic_len {g : List Int} (h : monicB g = true) : 1 ≤ g.length := by
  rcases Nat.eq_zero_or_pos g.length with h0 | h0
  · rw [List.eq_nil_of_length_eq_zero h0] at h; cases h
  · exact h0

end Go.Proofs.Ytdhnpmjoajaeiaa
