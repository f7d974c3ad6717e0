/- Readers of slices: sums, comparisons, marks. -/
import Derived.Test.YtehdkbopkkgabaaB1
import Derived.Test.YtehdkbopkkgabaaA3
namespace Go.Proofs.Ytehdkbopkkgabaa
open Go Go.RowKit

def lsum : List Int → Int
  | [] => 0
  | x :: r => x + lsum r
theorem lsum_snoc (xs : List Int) (x : Int) : lsum (xs ++ [x]) = lsum xs + x := by
  induction xs with
  | nil => simp [lsum]
  | cons y r ih => simp only [List.cons_append, lsum, ih]; omega
theorem take_snocI (xs : List Int) (k : Nat) (h : k < xs.length) : xs.take (k + 1) = xs.take k ++ [xs[k]] := by
  rw [List.take_succ_eq_append_getElem h]
theorem lsum_take {xs : List Int} {k : Nat} (h : k < xs.length) : lsum (xs.take (k + 1)) = lsum (xs.take k) + xs[k] := by rw [take_snocI _ _ h, lsum_snoc]
theorem lsum_bd {B : Int} (xs : List Int) (h : ∀ x ∈ xs, 0 ≤ x ∧ x ≤ B) : 0 ≤ lsum xs ∧ lsum xs ≤ B * xs.length := by
  induction xs with
  | nil => simp [lsum]
  | cons y r ih =>
    have h1 := h y (by simp)
    have h2 := ih (fun x hx => h x (by simp [hx]))
    have e : B * ((r.length + 1 : Nat) : Int) = B * (r.length : Int) + B := by rw [Int.natCast_add, Int.mul_add]; simp
    simp only [lsum, List.length_cons]
    rw [e]
    omega
theorem lsum_take_bd {xs : List Int} (h : ∀ x ∈ xs, 0 ≤ x ∧ x ≤ 1000) (hl : xs.length ≤ 1000) (k : Nat) : 0 ≤ lsum (xs.take k) ∧ lsum (xs.take k) ≤ 1000000 := by
  have h1 := lsum_bd (B := 1000) (xs.take k) (fun x hx => h x (List.mem_of_mem_take hx))
  have h2 : (xs.take k).length ≤ 1000 := by rw [List.length_take]; omega
  omega

set_option maxHeartbeats 400000 in
theorem s_sum (r : Value) (xs : List Int) (w : World) (h : rdI w r xs) (hx : ∀ x ∈ xs, 0 ≤ x ∧ x ≤ 1000) (hl : xs.length ≤ 1000) :
    Calls Try.prog 98 #[r] w fun e w' => e = .returned (.int .i64 (lsum xs)) ∧ w = w' := by
  obtain ⟨a, cap, rfl, hm, hc⟩ := h
  have Hx := hid hx
  have Hc := hid hc
  have Hs := hid (lsum_take_bd hx hl)
  clear hx hc
  go_enter Try.func98, Try.ntmps98
  go_wp2_with fail
  go_loop [3, 4] (fun s i => ∃ k : Nat, k ≤ xs.length ∧ i = .int .i64 k ∧ s = .int .i64 (lsum (xs.take k))) (fun _ i => xs.length - (intOf i).toNat)
  case atStart => exact ⟨0, by omega, rfl, by simp [lsum]⟩
  case round =>
    obtain ⟨k, hk, rfl, rfl⟩ := hrel
    by_cases hlt : k < xs.length
    · obtain ⟨b, o, rfl, hcell⟩ := Hc.out (by intro e; subst e; simp at hlt)
      have h1 := hcell k hlt
      have h2 := Hs.out k
      have h3 := Hx.out xs[k] (List.getElem_mem hlt)
      obtain ⟨x, hx⟩ : ∃ x, x = xs[k] := ⟨_, rfl⟩
      rw [← hx] at h1 h3
      have HX := hid hx
      clear hx hcell
      go_wp2
      go_round
      case rel => exact ⟨k + 1, by omega, by go_num, by rw [lsum_take hlt, ← HX.out]⟩
      case measure => simp [intOf]; omega
    · obtain rfl : k = xs.length := by omega
      go_wp2
      go_ret
      exact ⟨ret_i (by simp), rfl⟩

end Go.Proofs.Ytehdkbopkkgabaa
