/- Contracts: remainders, powers, valuations, common divisors. -/
import Derived.Test.YtdnfefkkbckmgaaGreatDoorA2
import Derived.Test.YtdnfefkkbckmgaaGreatDoorM1
namespace Go.Proofs.YtdnfefkkbckmgaaGreatDoor
open Go Go.RowKit

theorem ret_i {a b : Int} (h : a = b) : Ending.returned (.int .i64 a) = .returned (.int .i64 b) := by rw [h]
theorem ret_b {a b : Bool} (h : a = b) : Ending.returned (.bool a) = .returned (.bool b) := by rw [h]

set_option maxHeartbeats 400000 in
theorem s_mod (n m : Int) (w : World) (h1 : 1 ≤ m) (h2 : m ≤ 4000000000000000000) :
    Calls Tryz.prog 63 #[.int .i64 n, .int .i64 m] w fun e w' => e = .returned (.int .i64 (n % m)) ∧ w = w' := by
  have hb := @tmod_bd n m (by omega)
  have HF := hid (@mod_fix n m (by omega))
  go_enter Tryz.func63, Tryz.ntmps63
  go_wp2
  go_ret
  exact ⟨ret_i HF.out, rfl⟩

set_option maxHeartbeats 400000 in
theorem i_val (n p : Int) (w : World) (hp : 2 ≤ p) (hp2 : p ≤ 1000000) (hn : n ≠ 0) (hb : -4000000000000000000 ≤ n ∧ n ≤ 4000000000000000000) :
    Calls Tryz.prog 89 #[.int .i64 n, .int .i64 p] w fun e w' => e = .returned (.int .i64 (vl n p)) ∧ w = w' := by
  have Hn := hid hn
  clear hn
  go_enter Tryz.func89, Tryz.ntmps89
  go_wp2_with fail
  go_loop [0, 5] (fun s v => ∃ (c : Int) (k : Nat), s = .int .i64 c ∧ v = .int .i64 k ∧ n = c * p ^ k ∧ k + c.natAbs ≤ n.natAbs) (fun s _ => (intOf s).natAbs)
  case atStart => exact ⟨n, 0, rfl, rfl, by simp, by omega⟩
  case round =>
    obtain ⟨c, k, rfl, rfl, he, hk⟩ := hrel
    have h0 : c ≠ 0 := fun h => Hn.out (by rw [he, h]; simp)
    have hm1 := @tmod_bd c p (by omega)
    by_cases hm : c % p = 0
    · have hd : c / p * p = c := Int.ediv_mul_cancel (Int.dvd_of_emod_eq_zero hm)
      have ht : c.tdiv p = c / p := Int.tdiv_eq_ediv_of_dvd (Int.dvd_of_emod_eq_zero hm)
      have h1 : c / p ≠ 0 := fun h' => h0 (by rw [← hd, h']; simp)
      have h2 : c.natAbs = (c / p).natAbs * p.natAbs := by rw [← Int.natAbs_mul, hd]
      have h3 := Nat.mul_le_mul (Nat.le_refl (c / p).natAbs) (show 2 ≤ p.natAbs by omega)
      have hz : (c.tmod p == 0) = true := by rw [beq_iff_eq, tmod_zero_iff]; exact hm
      have He := hid he
      have Hd := hid hd
      have H4 : (c / p).natAbs < c.natAbs := by omega
      have hq : -4000000000000000000 ≤ c.tdiv p ∧ c.tdiv p ≤ 4000000000000000000 := by rw [ht]; omega
      have Ht := hid ht
      clear hm he hd h2 h3 ht h0 h1
      go_wp2
      go_round
      case rel => exact ⟨c / p, k + 1, by rw [Ht.out], by go_num, by rw [He.out, Int.pow_succ, ← Int.mul_assoc, Int.mul_right_comm, Hd.out], by omega⟩
      case measure => simp only [intOf]; rw [Ht.out]; omega
    · have hz : (c.tmod p == 0) = false := by rw [beq_eq_false_iff_ne]; exact fun h => hm (tmod_zero_iff.1 h)
      have HF := hid (vl_eq hp he hm)
      clear he hm h0
      go_wp2
      go_ret
      exact ⟨ret_i (by rw [HF.out]), rfl⟩
set_option maxHeartbeats 400000 in
theorem s_val (n p : Int) (w : World) (hp : 2 ≤ p) (hp2 : p ≤ 1000000) (hn : n ≠ 0) (hb : -4000000000000000000 ≤ n ∧ n ≤ 4000000000000000000) :
    Calls Tryz.prog 64 #[.int .i64 n, .int .i64 p] w fun e w' => e = .returned (.int .i64 (vl n p)) ∧ w = w' := by
  have Hn := hid hn
  clear hn
  go_enter Tryz.func64, Tryz.ntmps64
  go_wp2_with fail
  go_loop [0, 5] (fun s v => ∃ (c : Int) (k : Nat), s = .int .i64 c ∧ v = .int .i64 k ∧ n = c * p ^ k ∧ k + c.natAbs ≤ n.natAbs) (fun s _ => (intOf s).natAbs)
  case atStart => exact ⟨n, 0, rfl, rfl, by simp, by omega⟩
  case round =>
    obtain ⟨c, k, rfl, rfl, he, hk⟩ := hrel
    have h0 : c ≠ 0 := fun h => Hn.out (by rw [he, h]; simp)
    have hm1 := @tmod_bd c p (by omega)
    by_cases hm : c % p = 0
    · have hd : c / p * p = c := Int.ediv_mul_cancel (Int.dvd_of_emod_eq_zero hm)
      have ht : c.tdiv p = c / p := Int.tdiv_eq_ediv_of_dvd (Int.dvd_of_emod_eq_zero hm)
      have h1 : c / p ≠ 0 := fun h' => h0 (by rw [← hd, h']; simp)
      have h2 : c.natAbs = (c / p).natAbs * p.natAbs := by rw [← Int.natAbs_mul, hd]
      have h3 := Nat.mul_le_mul (Nat.le_refl (c / p).natAbs) (show 2 ≤ p.natAbs by omega)
      have hz : (c.tmod p == 0) = true := by rw [beq_iff_eq, tmod_zero_iff]; exact hm
      have He := hid he
      have Hd := hid hd
      have H4 : (c / p).natAbs < c.natAbs := by omega
      have hq : -4000000000000000000 ≤ c.tdiv p ∧ c.tdiv p ≤ 4000000000000000000 := by rw [ht]; omega
      have Ht := hid ht
      clear hm he hd h2 h3 ht h0 h1
      go_wp2
      go_round
      case rel => exact ⟨c / p, k + 1, by rw [Ht.out], by go_num, by rw [He.out, Int.pow_succ, ← Int.mul_assoc, Int.mul_right_comm, Hd.out], by omega⟩
      case measure => simp only [intOf]; rw [Ht.out]; omega
    · have hz : (c.tmod p == 0) = false := by rw [beq_eq_false_iff_ne]; exact fun h => hm (tmod_zero_iff.1 h)
      have HF := hid (vl_eq hp he hm)
      clear he hm h0
      go_wp2
      go_ret
      exact ⟨ret_i (by rw [HF.out]), rfl⟩

set_option maxHeartbeats 400000 in
theorem i_power (n e : Int) (w : World) (hn : 1 ≤ n) (he : e ≤ 4000000000000000000) (hb : n ^ e.toNat ≤ 4000000000000000000) :
    Calls Tryz.prog 90 #[.int .i64 n, .int .i64 e] w fun e1 w' => e1 = .returned (.int .i64 (n ^ e.toNat)) ∧ w = w' := by
  obtain ⟨P, hP⟩ : ∃ P, P = n ^ e.toNat := ⟨_, rfl⟩
  have hst := fun k (hk : k < e.toNat) => pow_step hn hb hk
  rw [← hP]
  have Hst := hid hst
  have HP := hid hP
  clear hst hP hb
  go_enter Tryz.func90, Tryz.ntmps90
  go_wp2_with fail
  go_loop [5, 7] (fun o i => ∃ k : Nat, k ≤ e.toNat ∧ i = .int .i64 k ∧ o = .int .i64 (n ^ k)) (fun _ i => e.toNat - (intOf i).toNat)
  case atStart => exact ⟨0, by omega, rfl, by simp⟩
  case round =>
    obtain ⟨k, hk, rfl, rfl⟩ := hrel
    by_cases hlt : (k : Int) < e
    · have hk2 : k < e.toNat := by omega
      have h := Hst.out k hk2
      go_wp2
      go_round
      case rel => exact ⟨k + 1, by omega, by go_num, by rw [Int.pow_succ]⟩
      case measure => simp [intOf]; omega
    · have e1 : k = e.toNat := by omega
      have He := hid e1
      clear e1
      go_wp2
      go_ret
      exact ⟨ret_i (by rw [HP.out, He.out]), rfl⟩
end Go.Proofs.YtdnfefkkbckmgaaGreatDoor
