/- Numbers of permutations, ranks, products, lists 0, 1, ..: both texts. -/
import Derived.Test.YtbkbcbanfnhjpaaN1
import Derived.Test.YtbkbcbanfnhjpaaH1
namespace Go.Proofs.Ytbkbcbanfnhjpaa
open Go Go.RowKit

theorem facN_succ_le {k n : Nat} (h : k ≤ n) : facN k ≤ facN n := by
  induction n with
  | zero => obtain rfl : k = 0 := by omega
            exact Nat.le_refl _
  | succ n ih =>
    rcases Nat.lt_or_ge k (n + 1) with h1 | h1
    · refine Nat.le_trans (ih (by omega)) ?_
      show facN n ≤ (n + 1) * facN n
      exact Nat.le_mul_of_pos_left _ (by omega)
    · obtain rfl : k = n + 1 := by omega
      exact Nat.le_refl _
set_option maxHeartbeats 1000000 in
theorem i_fact (n : Nat) (w : World) (hn : n ≤ 6) :
    Calls Try.prog 90 #[.int .i64 n] w fun e w' => e = .returned (.int .i64 (facN n)) ∧ w = w' := by
  go_enter Try.func90, Try.ntmps90
  go_wp2_with fail
  go_loop [3, 4] (fun o k => ∃ j : Nat, 1 ≤ j ∧ j ≤ max n 1 ∧ k = .int .i64 ((j : Int) + 1) ∧ o = .int .i64 (facN j)) (fun _ k => n + 1 - (intOf k).toNat)
  case atStart => exact ⟨1, by omega, by omega, by go_num, rfl⟩
  case round =>
    obtain ⟨j, hj1, hj, rfl, rfl⟩ := hrel
    by_cases hlt : j < n
    · have hb := facN_le (show j + 1 ≤ 6 by omega)
      have hb0 := facN_le (show j ≤ 6 by omega)
      have e : facN (j + 1) = (j + 1) * facN j := rfl
      have hz : (j : Int) + 1 ≤ (n : Int) := by omega
      have ez : (facN j : Int) * ((j : Int) + 1) = (facN (j + 1) : Nat) := by rw [e, Int.natCast_mul, Int.mul_comm]; rfl
      have EZ := hid ez
      have hm : 0 ≤ (facN j : Int) * ((j : Int) + 1) ∧ (facN j : Int) * ((j : Int) + 1) ≤ 720 := by rw [ez]; omega
      clear e ez
      go_wp2
      go_round
      case rel => exact ⟨j + 1, by omega, by omega, by go_num, by rw [EZ.out]⟩
      case measure => simp [intOf]; omega
    · have hz : ¬ (j : Int) + 1 ≤ (n : Int) := by omega
      have e : facN j = facN n := by
        rcases Nat.eq_zero_or_pos n with h0 | h0
        · subst h0; obtain rfl : j = 1 := by omega
          rfl
        · obtain rfl : j = n := by omega
          rfl
      have E := hid e
      clear e
      go_wp2
      go_ret
      exact ⟨ret_i (by rw [E.out]), rfl⟩
/-- n (n - 1) .. (j + 1). -/
theorem fac_down {n j o : Nat} (h : o * facN j = facN n) (hj : 1 ≤ j) : (o * j) * facN (j - 1) = facN n := by
  obtain ⟨i, rfl⟩ : ∃ i, j = i + 1 := ⟨j - 1, by omega⟩
  rw [← h, Nat.add_sub_cancel, Nat.mul_assoc]; rfl
set_option maxHeartbeats 1000000 in
theorem s_fact (n : Nat) (w : World) (hn : n ≤ 6) :
    Calls Try.prog 84 #[.int .i64 n] w fun e w' => e = .returned (.int .i64 (facN n)) ∧ w = w' := by
  go_enter Try.func84, Try.ntmps84
  go_wp2_with fail
  go_loop [0, 3] (fun k o => ∃ j x : Nat, j ≤ n ∧ k = .int .i64 j ∧ o = .int .i64 x ∧ Hid (x * facN j = facN n) ∧ x ≤ 720) (fun k _ => (intOf k).toNat)
  case atStart => exact ⟨n, 1, by omega, rfl, rfl, hid (by simp), by omega⟩
  case round =>
    obtain ⟨j, x, hj, rfl, rfl, HX, hx⟩ := hrel
    by_cases hlt : 1 < j
    · have hz : (1 : Int) < (j : Int) := by omega
      have H2 := hid (fac_down HX.out (show 1 ≤ j by omega))
      have hb : x * j ≤ 720 := by
        have := facN_le hn
        have h3 := H2.out
        have := Nat.le_mul_of_pos_right (x * j) (facN_pos (j - 1))
        omega
      have hm : 0 ≤ (x : Int) * (j : Int) ∧ (x : Int) * (j : Int) ≤ 720 := by rw [← Int.natCast_mul]; omega
      go_wp2
      go_round
      case rel => exact ⟨j - 1, x * j, by omega, by go_num, by go_num, H2, hb⟩
      case measure => simp [intOf]; omega
    · have hz : ¬ (1 : Int) < (j : Int) := by omega
      have e : x = facN n := by
        have := HX.out
        rw [← this]
        rcases Nat.eq_zero_or_pos j with h0 | h0
        · subst h0; simp [facN]
        · obtain rfl : j = 1 := by omega
          simp [facN]
      have E := hid e
      clear e
      go_wp2
      go_ret
      exact ⟨ret_i (by rw [E.out]), rfl⟩
end Go.Proofs.Ytbkbcbanfnhjpaa
