/- Powers by a modulus, of any value; Legendre's symbol of the program. -/
import Derived.Test.YtdeehgcabnoclaaCE
namespace Go.Proofs.Ytdeehgcabnoclaa
open Go Go.RowKit

set_option maxHeartbeats 1000000 in
theorem i_powW (a0 e0 m : Int) (w : World) (ha : -1000000000000 ≤ a0 ∧ a0 ≤ 1000000000000) (he : 0 ≤ e0 ∧ e0 ≤ 1000000000000) (hm : 2 ≤ m ∧ m ≤ 1000000000) :
    Calls Try.prog 70 #[.int .i64 a0, .int .i64 e0, .int .i64 m] w fun x w' => x = .returned (.int .i64 (powF a0 e0 m)) ∧ w = w' := by
  have h1 : (1 : Int) % m = 1 := Int.emod_eq_of_lt (by omega) (by omega)
  have h1t : (1 : Int).tmod m = 1 := by rw [Int.tmod_eq_emod_of_nonneg (by omega)]; exact h1
  have q1 := Int.emod_nonneg a0 (show m ≠ 0 by omega)
  have q2 := Int.emod_lt_of_pos a0 (show 0 < m by omega)
  go_enter Try.func70, Try.ntmps70
  go_wp2_with (go_at_call 65; refine pur (i_mod _ _ _ (by omega) (by omega)) ?_)
  go_loop [7, 0, 1] (fun out a e => ∃ (f : Nat) (x y z : Int), out = .int .i64 x ∧ a = .int .i64 y ∧ e = .int .i64 z ∧ (0 ≤ x ∧ x ≤ m - 1) ∧ (0 ≤ y ∧ y ≤ m - 1) ∧ (0 ≤ z ∧ z ≤ 1000000000000) ∧ z.toNat < 2 ^ f ∧ pwF f x y z m = powF a0 e0 m) (fun _ _ e => (intOf e).toNat)
  case atStart => exact ⟨60, 1, a0 % m, e0, by simp [h1, h1t], rfl, rfl, by omega, by omega, he, by omega, rfl⟩
  case round =>
    obtain ⟨f, x, y, z, rfl, rfl, rfl, hx, hy, hz, hf, hp⟩ := hrel
    by_cases h0 : z = 0
    · subst h0
      rw [pwF_0 _ _ _ _ _ (by omega)] at hp
      go_wp2
      go_ret
      exact ⟨by first | rfl | rw [hp], rfl⟩
    · obtain ⟨f, rfl⟩ : ∃ g, f = g + 1 := ⟨f - 1, by cases f with
        | zero => simp at hf; omega
        | succ f => rfl⟩
      have hpos : 0 < z := by omega
      have hd0 : decide (0 < z) = true := by simpa using hpos
      have hxy := sqm_bd hm.2 hx hy
      have hyy := sqm_bd hm.2 hy hy
      have r1 := Int.emod_nonneg (x * y) (show m ≠ 0 by omega)
      have r2 := Int.emod_lt_of_pos (x * y) (show 0 < m by omega)
      have r3 := Int.emod_nonneg (y * y) (show m ≠ 0 by omega)
      have r4 := Int.emod_lt_of_pos (y * y) (show 0 < m by omega)
      have hf2 : (z / 2).toNat < 2 ^ f := by rw [Nat.pow_succ] at hf; omega
      by_cases h2 : z % 2 = 1
      · have hp2 : pwF f (x * y % m) (y * y % m) (z / 2) m = powF a0 e0 m := by rw [← hp]; conv => rhs; unfold pwF; rw [if_neg (show ¬ z ≤ 0 by omega), if_pos h2]
        have HP := hid hp2
        have HF := hid hf2
        have h2' : (z % 2 == 1) = true := by simpa using h2
        clear hp hp2 hf hf2 h0
        go_wp2
        go_round
        case rel => exact ⟨f, x * y % m, y * y % m, z / 2, by go_num, by go_num, by go_num, by omega, by omega, by omega, HF.out, HP.out⟩
        case measure => simp only [intOf]; omega
      · have hp2 : pwF f x (y * y % m) (z / 2) m = powF a0 e0 m := by rw [← hp]; conv => rhs; unfold pwF; rw [if_neg (show ¬ z ≤ 0 by omega), if_neg h2]
        have HP := hid hp2
        have HF := hid hf2
        have h2' : (z % 2 == 1) = false := by simpa using h2
        clear hp hp2 hf hf2 h0
        go_wp2
        go_round
        case rel => exact ⟨f, x, y * y % m, z / 2, by go_num, by go_num, by go_num, by omega, by omega, by omega, HF.out, HP.out⟩
        case measure => simp only [intOf]; omega
set_option maxHeartbeats 1000000 in
theorem s_powW (a0 e0 m : Int) (w : World) (ha : -1000000000000 ≤ a0 ∧ a0 ≤ 1000000000000) (he : 0 ≤ e0 ∧ e0 ≤ 1000000000000) (hm : 2 ≤ m ∧ m ≤ 1000000000) :
    Calls Try.prog 48 #[.int .i64 a0, .int .i64 e0, .int .i64 m] w fun x w' => x = .returned (.int .i64 (powF a0 e0 m)) ∧ w = w' := by
  have h1 : (1 : Int) % m = 1 := Int.emod_eq_of_lt (by omega) (by omega)
  have h1t : (1 : Int).tmod m = 1 := by rw [Int.tmod_eq_emod_of_nonneg (by omega)]; exact h1
  have q1 := Int.emod_nonneg a0 (show m ≠ 0 by omega)
  have q2 := Int.emod_lt_of_pos a0 (show 0 < m by omega)
  go_enter Try.func48, Try.ntmps48
  go_wp2_with (go_at_call 41; refine pur (s_mod _ _ _ (by omega) (by omega)) ?_)
  go_loop [7, 0, 1] (fun out a e => ∃ (f : Nat) (x y z : Int), out = .int .i64 x ∧ a = .int .i64 y ∧ e = .int .i64 z ∧ (0 ≤ x ∧ x ≤ m - 1) ∧ (0 ≤ y ∧ y ≤ m - 1) ∧ (0 ≤ z ∧ z ≤ 1000000000000) ∧ z.toNat < 2 ^ f ∧ pwF f x y z m = powF a0 e0 m) (fun _ _ e => (intOf e).toNat)
  case atStart => exact ⟨60, 1, a0 % m, e0, by simp [h1, h1t], rfl, rfl, by omega, by omega, he, by omega, rfl⟩
  case round =>
    obtain ⟨f, x, y, z, rfl, rfl, rfl, hx, hy, hz, hf, hp⟩ := hrel
    by_cases h0 : z = 0
    · subst h0
      rw [pwF_0 _ _ _ _ _ (by omega)] at hp
      go_wp2
      go_ret
      exact ⟨by first | rfl | rw [hp], rfl⟩
    · obtain ⟨f, rfl⟩ : ∃ g, f = g + 1 := ⟨f - 1, by cases f with
        | zero => simp at hf; omega
        | succ f => rfl⟩
      have hpos : 0 < z := by omega
      have hd0 : decide (0 < z) = true := by simpa using hpos
      have hxy := sqm_bd hm.2 hx hy
      have hyy := sqm_bd hm.2 hy hy
      have r1 := Int.emod_nonneg (x * y) (show m ≠ 0 by omega)
      have r2 := Int.emod_lt_of_pos (x * y) (show 0 < m by omega)
      have r3 := Int.emod_nonneg (y * y) (show m ≠ 0 by omega)
      have r4 := Int.emod_lt_of_pos (y * y) (show 0 < m by omega)
      have hf2 : (z / 2).toNat < 2 ^ f := by rw [Nat.pow_succ] at hf; omega
      by_cases h2 : z % 2 = 1
      · have hp2 : pwF f (x * y % m) (y * y % m) (z / 2) m = powF a0 e0 m := by rw [← hp]; conv => rhs; unfold pwF; rw [if_neg (show ¬ z ≤ 0 by omega), if_pos h2]
        have HP := hid hp2
        have HF := hid hf2
        have h2' : (z % 2 == 1) = true := by simpa using h2
        clear hp hp2 hf hf2 h0
        go_wp2
        go_round
        case rel => exact ⟨f, x * y % m, y * y % m, z / 2, by go_num, by go_num, by go_num, by omega, by omega, by omega, HF.out, HP.out⟩
        case measure => simp only [intOf]; omega
      · have hp2 : pwF f x (y * y % m) (z / 2) m = powF a0 e0 m := by rw [← hp]; conv => rhs; unfold pwF; rw [if_neg (show ¬ z ≤ 0 by omega), if_neg h2]
        have HP := hid hp2
        have HF := hid hf2
        have h2' : (z % 2 == 1) = false := by simpa using h2
        clear hp hp2 hf hf2 h0
        go_wp2
        go_round
        case rel => exact ⟨f, x, y * y % m, z / 2, by go_num, by go_num, by go_num, by omega, by omega, by omega, HF.out, HP.out⟩
        case measure => simp only [intOf]; omega

set_option maxHeartbeats 1000000 in
theorem i_legendre (a p : Int) (w : World) (ha : -1000000000000 ≤ a ∧ a ≤ 1000000000000) (hp : 3 ≤ p ∧ p ≤ 1000000) :
    Calls Try.prog 46 #[.int .i64 a, .int .i64 p] w fun e w' => e = .returned (.int .i64 (legF a p)) ∧ w = w' := by
  have ht : (p - 1).tdiv 2 = (p - 1) / 2 := Int.tdiv_eq_ediv_of_nonneg (by omega)
  have HP : Hid (∀ W : World, Calls Try.prog 70 #[.int .i64 a, .int .i64 ((p - 1) / 2), .int .i64 p] W fun x w' => x = .returned (.int .i64 (powF a ((p - 1) / 2) p)) ∧ W = w') := hid fun W => i_powW a ((p - 1) / 2) p W ha (by omega) (by omega)
  obtain ⟨x, hx⟩ : ∃ x, x = powF a ((p - 1) / 2) p := ⟨_, rfl⟩
  have e : legF a p = if x = 0 then 0 else if x = 1 then 1 else -1 := by rw [hx]; rfl
  rw [← hx] at HP
  rw [e]
  clear hx e
  by_cases h0 : x = 0
  · subst h0
    rw [if_pos rfl]
    go_enter Try.func46, Try.ntmps46
    go_wp2_with (go_at_call 70; refine pur (HP.out _) ?_)
    go_ret
    exact ⟨rfl, rfl⟩
  by_cases h1 : x = 1
  · subst h1
    rw [if_neg (by decide), if_pos rfl]
    go_enter Try.func46, Try.ntmps46
    go_wp2_with (go_at_call 70; refine pur (HP.out _) ?_)
    go_ret
    exact ⟨rfl, rfl⟩
  rw [if_neg h0, if_neg h1]
  have h0' : (x == 0) = false := by simpa using h0
  have h1' : (x == 1) = false := by simpa using h1
  clear h0 h1
  go_enter Try.func46, Try.ntmps46
  go_wp2_with (go_at_call 70; refine pur (HP.out _) ?_)
  go_ret
  exact ⟨rfl, rfl⟩
end Go.Proofs.Ytdeehgcabnoclaa
