/- Contracts: common divisors. -/
import Derived.Test.YtehdkbopkkgabaaA3
namespace Go.Proofs.Ytehdkbopkkgabaa
open Go Go.RowKit

theorem gcd_step (x y : Int) : Int.gcd y (x.tmod y) = Int.gcd x y := by
  rw [Int.tmod_def, Int.gcd_sub_mul_left_right, Int.gcd_comm]
theorem gcd_bd {x y B : Int} (hx : -B ≤ x ∧ x ≤ B) (hy : -B ≤ y ∧ y ≤ B) : (Int.gcd x y : Int) ≤ B := by
  by_cases h : x = 0
  · rw [h, Int.zero_gcd]; omega
  · have := Int.gcd_le_natAbs_left y h; omega

set_option maxHeartbeats 400000 in
theorem i_abs (n : Int) (w : World) (h : -4000000000000000000 ≤ n ∧ n ≤ 4000000000000000000) :
    Calls Try.prog 152 #[.int .i64 n] w fun e w' => e = .returned (.int .i64 n.natAbs) ∧ w = w' := by
  rcases Int.le_total 0 n with h' | h'
  · have h1 : -n ≤ n := by omega
    go_enter Try.func152, Try.ntmps152
    go_wp2
    go_ret
    refine ⟨ret_i ?_, rfl⟩
    omega
  · by_cases h0 : n = 0
    · subst h0
      go_enter Try.func152, Try.ntmps152
      go_wp2
      go_ret
      exact ⟨rfl, rfl⟩
    have h1 : n < -n := by omega
    go_enter Try.func152, Try.ntmps152
    go_wp2
    go_ret
    refine ⟨ret_i ?_, rfl⟩
    omega

set_option maxHeartbeats 400000 in
theorem s_abs (n : Int) (w : World) (h : -4000000000000000000 ≤ n ∧ n ≤ 4000000000000000000) :
    Calls Try.prog 151 #[.int .i64 n] w fun e w' => e = .returned (.int .i64 n.natAbs) ∧ w = w' := by
  rcases Int.le_total 0 n with h' | h'
  · have h1 : -n ≤ n := by omega
    go_enter Try.func151, Try.ntmps151
    go_wp2
    go_ret
    refine ⟨ret_i ?_, rfl⟩
    omega
  · by_cases h0 : n = 0
    · subst h0
      go_enter Try.func151, Try.ntmps151
      go_wp2
      go_ret
      exact ⟨rfl, rfl⟩
    have h1 : n < -n := by omega
    go_enter Try.func151, Try.ntmps151
    go_wp2
    go_ret
    refine ⟨ret_i ?_, rfl⟩
    omega

set_option maxHeartbeats 400000 in
theorem i_gcd (a b : Int) (w : World) (ha : -4000000000000000000 ≤ a ∧ a ≤ 4000000000000000000) (hb : -4000000000000000000 ≤ b ∧ b ≤ 4000000000000000000) :
    Calls Try.prog 104 #[.int .i64 a, .int .i64 b] w fun e w' => e = .returned (.int .i64 (Int.gcd a b)) ∧ Below w.heap.size w w' := by
  go_enter Try.func104, Try.ntmps104
  go_wp2_with fail
  go_loopw [0, 1] (fun s t wr => ∃ x y : Int, s = .int .i64 x ∧ t = .int .i64 y ∧ Int.gcd x y = Int.gcd a b ∧ (-4000000000000000000 ≤ x ∧ x ≤ 4000000000000000000) ∧ (-4000000000000000000 ≤ y ∧ y ≤ 4000000000000000000) ∧ Below w.heap.size w wr) (fun _ t _ => (intOf t).natAbs)
  case atStart => exact ⟨a, b, rfl, rfl, rfl, ha, hb, Below.refl _ _⟩
  case round =>
    obtain ⟨x, y, rfl, rfl, hg, hx, hy, hw⟩ := hrel
    have Hg := hid hg
    have Hw := hid hw
    clear hg hw
    by_cases h0 : y = 0
    · subst h0
      go_wp2_with (go_at_call 152; refine (i_abs _ _ hx).mono ?_; rintro e w' ⟨rfl, rfl⟩)
      go_ret
      exact ⟨ret_i (by rw [← Hg.out, Int.gcd_zero]), Hw.out⟩
    · have hn : (y == 0) = false := by simp [h0]
      have hn2 : (y != 0) = true := by simp [h0]
      have hq : -4000000000000000000 ≤ x.tmod y ∧ x.tmod y ≤ 4000000000000000000 ∧ (x.tmod y).natAbs < y.natAbs := by
        have := Int.natAbs_tmod x y
        have h3 := Nat.mod_lt x.natAbs (show 0 < y.natAbs by omega)
        omega
      have Hs := hid (gcd_step x y)
      clear h0
      go_wp2_with fail
      go_quiet (fail)
      go_wp2_with fail
      go_roundw
      case rel => exact ⟨y, x.tmod y, rfl, rfl, by rw [Hs.out, Hg.out], hy, by omega, below_drewN Hw.out _⟩
      case measure => simp only [intOf]; omega

set_option maxHeartbeats 400000 in
theorem s_gcd (a b : Int) (w : World) (ha : -4000000000000000000 ≤ a ∧ a ≤ 4000000000000000000) (hb : -4000000000000000000 ≤ b ∧ b ≤ 4000000000000000000) :
    Calls Try.prog 103 #[.int .i64 a, .int .i64 b] w fun e w' => e = .returned (.int .i64 (Int.gcd a b)) ∧ Below w.heap.size w w' := by
  go_enter Try.func103, Try.ntmps103
  go_wp2_with fail
  refine (s_abs _ _ ha).mono ?_
  rintro e w' ⟨rfl, rfl⟩
  go_wp2_with fail
  refine (s_abs _ _ hb).mono ?_
  rintro e w' ⟨rfl, rfl⟩
  go_wp2_with fail
  go_loopw [0, 1] (fun s t wr => ∃ x y : Int, s = .int .i64 x ∧ t = .int .i64 y ∧ Int.gcd x y = Int.gcd a b ∧ (0 ≤ x ∧ x ≤ 4000000000000000000) ∧ (0 ≤ y ∧ y ≤ 4000000000000000000) ∧ Below w.heap.size w wr) (fun _ t _ => (intOf t).natAbs)
  case atStart => exact ⟨a.natAbs, b.natAbs, rfl, rfl, by simp [Int.gcd], by omega, by omega, Below.refl _ _⟩
  case round =>
    obtain ⟨x, y, rfl, rfl, hg, hx, hy, hw⟩ := hrel
    have Hg := hid hg
    have Hw := hid hw
    clear hg hw
    by_cases h0 : y = 0
    · subst h0
      go_wp2
      go_ret
      exact ⟨ret_i (by rw [← Hg.out, Int.gcd_zero]; omega), Hw.out⟩
    · have hn : (y == 0) = false := by simp [h0]
      have hn2 : (y != 0) = true := by simp [h0]
      have hq : 0 ≤ x % y ∧ x % y < y := ⟨Int.emod_nonneg _ h0, Int.emod_lt_of_pos _ (by omega)⟩
      have hs := gcd_step x y
      rw [Int.tmod_eq_emod_of_nonneg hx.1] at hs
      have Hs := hid hs
      have hy1 : 1 ≤ y := by omega
      clear h0 hs
      go_wp2_with fail
      go_quiet (fail)
      go_wp2_with fail
      go_roundw
      case rel => exact ⟨y, x % y, rfl, rfl, by rw [Hs.out, Hg.out], hy, by omega, below_drewN Hw.out _⟩
      case measure => simp only [intOf]; omega
end Go.Proofs.Ytehdkbopkkgabaa
