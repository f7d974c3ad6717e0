/- Powers by a modulus: both texts. -/
import Derived.Test.YtdeehgcabnoclaaC3
import Derived.Laws.Bits128
namespace Go.Proofs.Ytdeehgcabnoclaa
open Go Go.RowKit

theorem and_one_i64 (n : Int) : bits BinOp.and IntKind.i64 n 1 = n % 2 := by
  have h1 : (BitVec.ofInt 64 1).toNat = 2 ^ 1 - 1 := by decide
  have key : (BitVec.ofInt 64 n &&& BitVec.ofInt 64 1).toNat = (n % ((2 ^ 64 : Nat) : Int)).toNat % 2 ^ 1 := by
    rw [BitVec.toNat_and, BitVec.toNat_ofInt, h1, Nat.and_two_pow_sub_one_eq_mod]
  show IntKind.i64.wrap ((BitVec.ofInt 64 n &&& BitVec.ofInt 64 1).toNat : Nat) = n % 2
  rw [key, IntKind.wrap_i64]
  omega
attribute [go_sem] and_one_i64

def pwF : Nat → Int → Int → Int → Int → Int
  | 0, out, _, _, _ => out
  | f + 1, out, a, e, m => if e ≤ 0 then out else pwF f (if e % 2 = 1 then out * a % m else out) (a * a % m) (e / 2) m
/-- a to the power of e by m. -/
def powF (a e m : Int) : Int := pwF 60 1 (a % m) e m
theorem pwF_0 (f : Nat) (out a e m : Int) (h : e ≤ 0) : pwF f out a e m = out := by
  cases f with
  | zero => rfl
  | succ f => simp [pwF, h]
theorem sqm_bd {m a b : Int} (hm : m ≤ 1000000000) (ha : 0 ≤ a ∧ a ≤ m - 1) (hb : 0 ≤ b ∧ b ≤ m - 1) : 0 ≤ a * b ∧ a * b ≤ 1000000000000000000 := by
  refine ⟨Int.mul_nonneg ha.1 hb.1, ?_⟩
  have : a * b ≤ 1000000000 * 1000000000 := Int.mul_le_mul (by omega) (by omega) (by omega) (by omega)
  omega
theorem pwF_bd {m : Int} (hm : 2 ≤ m) : ∀ (f : Nat) (out a e : Int), 0 ≤ out ∧ out ≤ m - 1 → 0 ≤ pwF f out a e m ∧ pwF f out a e m ≤ m - 1 := by
  intro f
  induction f with
  | zero => intro out a e h; exact h
  | succ f ih =>
    intro out a e h
    unfold pwF
    split
    · exact h
    · refine ih _ _ _ ?_
      split
      · have := Int.emod_nonneg (out * a) (show m ≠ 0 by omega)
        have := Int.emod_lt_of_pos (out * a) (show 0 < m by omega)
        omega
      · exact h

set_option maxHeartbeats 1000000 in
theorem i_pow (a0 e0 m : Int) (w : World) (ha : 0 ≤ a0 ∧ a0 ≤ 1000000000) (he : 0 ≤ e0 ∧ e0 ≤ 1000000000000) (hm : 2 ≤ m ∧ m ≤ 1000000000) :
    Calls Try.prog 70 #[.int .i64 a0, .int .i64 e0, .int .i64 m] w fun x w' => x = .returned (.int .i64 (powF a0 e0 m)) ∧ w = w' := by
  have h1 : (1 : Int) % m = 1 := Int.emod_eq_of_lt (by omega) (by omega)
  have h1t : (1 : Int).tmod m = 1 := by rw [Int.tmod_eq_emod_of_nonneg (by omega)]; exact h1
  have q1 := Int.emod_nonneg a0 (show m ≠ 0 by omega)
  have q2 := Int.emod_lt_of_pos a0 (show 0 < m by omega)
  go_enter Try.func70, Try.ntmps70
  go_wp2_with (go_at_call 65; refine pur (i_mod _ _ _ (by omega) (by omega)) ?_)
  go_loop [7, 0, 1] (fun out a e => ∃ (f : Nat) (x y z : Int), out = .int .i64 x ∧ a = .int .i64 y ∧ e = .int .i64 z ∧ (0 ≤ x ∧ x ≤ m - 1) ∧ (0 ≤ y ∧ y ≤ m - 1) ∧ (0 ≤ z ∧ z ≤ 1000000000000) ∧ z.toNat < 2 ^ f ∧ pwF f x y z m = powF a0 e0 m) (fun _ _ e => (intOf e).toNat)
  case atStart => exact ⟨60, 1, a0 % m, e0, by simp [h1, h1t], rfl, rfl, by omega, by omega, he, by omega, rfl⟩
  case round =>
    obtain ⟨f, x, y, z, rfl, rfl, rfl, hx, hy, hz, hf, hp⟩ := hrel
    by_cases h0 : z = 0
    · subst h0
      rw [pwF_0 _ _ _ _ _ (by omega)] at hp
      go_wp2
      go_ret
      exact ⟨by first | rfl | rw [hp], rfl⟩
    · obtain ⟨f, rfl⟩ : ∃ g, f = g + 1 := ⟨f - 1, by cases f with
        | zero => simp at hf; omega
        | succ f => rfl⟩
      have hpos : 0 < z := by omega
      have hd0 : decide (0 < z) = true := by simpa using hpos
      have hxy := sqm_bd hm.2 hx hy
      have hyy := sqm_bd hm.2 hy hy
      have r1 := Int.emod_nonneg (x * y) (show m ≠ 0 by omega)
      have r2 := Int.emod_lt_of_pos (x * y) (show 0 < m by omega)
      have r3 := Int.emod_nonneg (y * y) (show m ≠ 0 by omega)
      have r4 := Int.emod_lt_of_pos (y * y) (show 0 < m by omega)
      have hf2 : (z / 2).toNat < 2 ^ f := by rw [Nat.pow_succ] at hf; omega
      by_cases h2 : z % 2 = 1
      · have hp2 : pwF f (x * y % m) (y * y % m) (z / 2) m = powF a0 e0 m := by rw [← hp]; conv => rhs; unfold pwF; rw [if_neg (show ¬ z ≤ 0 by omega), if_pos h2]
        have HP := hid hp2
        have HF := hid hf2
        have h2' : (z % 2 == 1) = true := by simpa using h2
        clear hp hp2 hf hf2 h0
        go_wp2
        go_round
        case rel => exact ⟨f, x * y % m, y * y % m, z / 2, by go_num, by go_num, by go_num, by omega, by omega, by omega, HF.out, HP.out⟩
        case measure => simp only [intOf]; omega
      · have hp2 : pwF f x (y * y % m) (z / 2) m = powF a0 e0 m := by rw [← hp]; conv => rhs; unfold pwF; rw [if_neg (show ¬ z ≤ 0 by omega), if_neg h2]
        have HP := hid hp2
        have HF := hid hf2
        have h2' : (z % 2 == 1) = false := by simpa using h2
        clear hp hp2 hf hf2 h0
        go_wp2
        go_round
        case rel => exact ⟨f, x, y * y % m, z / 2, by go_num, by go_num, by go_num, by omega, by omega, by omega, HF.out, HP.out⟩
        case measure => simp only [intOf]; omega
set_option maxHeartbeats 1000000 in
theorem s_pow (a0 e0 m : Int) (w : World) (ha : 0 ≤ a0 ∧ a0 ≤ 1000000000) (he : 0 ≤ e0 ∧ e0 ≤ 1000000000000) (hm : 2 ≤ m ∧ m ≤ 1000000000) :
    Calls Try.prog 48 #[.int .i64 a0, .int .i64 e0, .int .i64 m] w fun x w' => x = .returned (.int .i64 (powF a0 e0 m)) ∧ w = w' := by
  have h1 : (1 : Int) % m = 1 := Int.emod_eq_of_lt (by omega) (by omega)
  have h1t : (1 : Int).tmod m = 1 := by rw [Int.tmod_eq_emod_of_nonneg (by omega)]; exact h1
  have q1 := Int.emod_nonneg a0 (show m ≠ 0 by omega)
  have q2 := Int.emod_lt_of_pos a0 (show 0 < m by omega)
  go_enter Try.func48, Try.ntmps48
  go_wp2_with (go_at_call 41; refine pur (s_mod _ _ _ (by omega) (by omega)) ?_)
  go_loop [7, 0, 1] (fun out a e => ∃ (f : Nat) (x y z : Int), out = .int .i64 x ∧ a = .int .i64 y ∧ e = .int .i64 z ∧ (0 ≤ x ∧ x ≤ m - 1) ∧ (0 ≤ y ∧ y ≤ m - 1) ∧ (0 ≤ z ∧ z ≤ 1000000000000) ∧ z.toNat < 2 ^ f ∧ pwF f x y z m = powF a0 e0 m) (fun _ _ e => (intOf e).toNat)
  case atStart => exact ⟨60, 1, a0 % m, e0, by simp [h1, h1t], rfl, rfl, by omega, by omega, he, by omega, rfl⟩
  case round =>
    obtain ⟨f, x, y, z, rfl, rfl, rfl, hx, hy, hz, hf, hp⟩ := hrel
    by_cases h0 : z = 0
    · subst h0
      rw [pwF_0 _ _ _ _ _ (by omega)] at hp
      go_wp2
      go_ret
      exact ⟨by first | rfl | rw [hp], rfl⟩
    · obtain ⟨f, rfl⟩ : ∃ g, f = g + 1 := ⟨f - 1, by cases f with
        | zero => simp at hf; omega
        | succ f => rfl⟩
      have hpos : 0 < z := by omega
      have hd0 : decide (0 < z) = true := by simpa using hpos
      have hxy := sqm_bd hm.2 hx hy
      have hyy := sqm_bd hm.2 hy hy
      have r1 := Int.emod_nonneg (x * y) (show m ≠ 0 by omega)
      have r2 := Int.emod_lt_of_pos (x * y) (show 0 < m by omega)
      have r3 := Int.emod_nonneg (y * y) (show m ≠ 0 by omega)
      have r4 := Int.emod_lt_of_pos (y * y) (show 0 < m by omega)
      have hf2 : (z / 2).toNat < 2 ^ f := by rw [Nat.pow_succ] at hf; omega
      by_cases h2 : z % 2 = 1
      · have hp2 : pwF f (x * y % m) (y * y % m) (z / 2) m = powF a0 e0 m := by rw [← hp]; conv => rhs; unfold pwF; rw [if_neg (show ¬ z ≤ 0 by omega), if_pos h2]
        have HP := hid hp2
        have HF := hid hf2
        have h2' : (z % 2 == 1) = true := by simpa using h2
        clear hp hp2 hf hf2 h0
        go_wp2
        go_round
        case rel => exact ⟨f, x * y % m, y * y % m, z / 2, by go_num, by go_num, by go_num, by omega, by omega, by omega, HF.out, HP.out⟩
        case measure => simp only [intOf]; omega
      · have hp2 : pwF f x (y * y % m) (z / 2) m = powF a0 e0 m := by rw [← hp]; conv => rhs; unfold pwF; rw [if_neg (show ¬ z ≤ 0 by omega), if_neg h2]
        have HP := hid hp2
        have HF := hid hf2
        have h2' : (z % 2 == 1) = false := by simpa using h2
        clear hp hp2 hf hf2 h0
        go_wp2
        go_round
        case rel => exact ⟨f, x, y * y % m, z / 2, by go_num, by go_num, by go_num, by omega, by omega, by omega, HF.out, HP.out⟩
        case measure => simp only [intOf]; omega
end Go.Proofs.Ytdeehgcabnoclaa
