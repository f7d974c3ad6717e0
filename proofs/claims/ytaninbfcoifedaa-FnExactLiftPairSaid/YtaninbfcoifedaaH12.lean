/- Division by a monic polynomial in a ring: the program's text. -/
import Derived.Test.YtaninbfcoifedaaH11
import Derived.Test.YtaninbfcoifedaaH5
namespace Go.Proofs.Ytaninbfcoifedaa
open Go Go.RowKit

/-- A monic polynomial. -/
def monicB (xs : List Int) : Bool := xs.getLast? == some 1
theorem monicB_nil : monicB [] = false := rfl
theorem monicB_at {xs : List Int} {k : Nat} (h : xs.length = k + 1) : monicB xs = (xs.getD k 0 == 1) := by
  unfold monicB
  have e : xs.getLast? = some (xs[k]'(by omega)) := by
    rw [List.getLast?_eq_getElem?, show xs.length - 1 = k by omega, List.getElem?_eq_getElem]
  rw [e, getD_lt (by omega)]
  cases h : (xs[k]'(by omega) == 1) <;> simp_all

set_option maxHeartbeats 1000000 in
theorem i_isMonic (r : Value) (xs : List Int) (w : World) (h : rdI w r xs) :
    Calls Try.prog 45 #[r] w fun e w' => e = .returned (.bool (monicB xs)) ∧ w = w' := by
  obtain ⟨a, cap, rfl, hm, _⟩ := id h
  unfold maxLen at hm
  rcases Nat.eq_zero_or_pos xs.length with h0 | h0
  · obtain rfl : xs = [] := List.eq_nil_of_length_eq_zero h0
    rw [monicB_nil]
    simp only [List.length_nil]
    go_enter Try.func45, Try.ntmps45
    go_wp2_with fail
    go_ret
    exact ⟨rfl, rfl⟩
  · obtain ⟨k, hk⟩ : ∃ k, xs.length = k + 1 := ⟨xs.length - 1, by omega⟩
    rw [monicB_at hk]
    obtain ⟨b, o, rfl⟩ := rd_head h (by intro e; subst e; simp at h0)
    have h1 := rd_at h (j := k) (by omega)
    obtain ⟨x, hx⟩ : ∃ x, x = xs.getD k 0 := ⟨_, rfl⟩
    rw [← hx] at h1 ⊢
    rw [hk]
    clear h hx h0
    have hk0 : 0 ≤ (k : Int) := by omega
    cases hx1 : (x == 1)
    all_goals
      go_enter Try.func45, Try.ntmps45
      go_wp2_with fail
      go_ret
      exact ⟨by simp [hx1], rfl⟩
set_option maxHeartbeats 1000000 in
theorem s_isMonic (r : Value) (xs : List Int) (w : World) (h : rdI w r xs) :
    Calls Try.prog 32 #[r] w fun e w' => e = .returned (.bool (monicB xs)) ∧ w = w' := by
  obtain ⟨a, cap, rfl, hm, _⟩ := id h
  unfold maxLen at hm
  rcases Nat.eq_zero_or_pos xs.length with h0 | h0
  · obtain rfl : xs = [] := List.eq_nil_of_length_eq_zero h0
    rw [monicB_nil]
    simp only [List.length_nil]
    go_enter Try.func32, Try.ntmps32
    go_wp2_with fail
    go_ret
    exact ⟨rfl, rfl⟩
  · obtain ⟨k, hk⟩ : ∃ k, xs.length = k + 1 := ⟨xs.length - 1, by omega⟩
    rw [monicB_at hk]
    obtain ⟨b, o, rfl⟩ := rd_head h (by intro e; subst e; simp at h0)
    have h1 := rd_at h (j := k) (by omega)
    obtain ⟨x, hx⟩ : ∃ x, x = xs.getD k 0 := ⟨_, rfl⟩
    rw [← hx] at h1 ⊢
    rw [hk]
    clear h hx h0
    have hk0 : 0 ≤ (k : Int) := by omega
    cases hx1 : (x == 1)
    all_goals
      go_enter Try.func32, Try.ntmps32
      go_wp2_with fail
      go_ret
      exact ⟨by simp [hx1], rfl⟩

/-- Division by a monic polynomial in a ring, with its error. -/
def divideInRingF (p n : Int) (f g : List Int) : List Int × List Int × Int :=
  if inRingB p n f = true ∧ inRingB p n g = true then (if monicB g = true then (quoF (p ^ n.toNat) (fun x => x) f g, remF (p ^ n.toNat) (fun x => x) f g, 0) else ([], [], 5)) else ([], [], 1)
theorem monic_len {g : List Int} (h : monicB g = true) : 1 ≤ g.length := by
  rcases Nat.eq_zero_or_pos g.length with h0 | h0
  · rw [List.eq_nil_of_length_eq_zero h0] at h; cases h
  · exact h0

end Go.Proofs.Ytaninbfcoifedaa
