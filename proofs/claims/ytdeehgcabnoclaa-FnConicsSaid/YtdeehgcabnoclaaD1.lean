/- Contracts: squares by a prime, squares of p-adic numbers. -/
import Derived.Test.YtdeehgcabnoclaaA9
import Derived.Test.YtdeehgcabnoclaaMA
namespace Go.Proofs.Ytdeehgcabnoclaa
open Go Go.RowKit

theorem sq_small {k : Nat} (h : k ≤ 97) : 0 ≤ (k : Int) * k ∧ (k : Int) * k ≤ 9409 := by
  have h6 : (k : Int) * k ≤ (97 : Int) * 97 := Int.mul_le_mul (by omega) (by omega) (by omega) (by omega)
  have h7 : (0 : Int) ≤ (k : Int) * k := Int.mul_nonneg (by omega) (by omega)
  exact ⟨h7, by omega⟩

set_option maxHeartbeats 1000000 in
theorem i_sq (p a : Int) (w : World) (hp : 2 ≤ p ∧ p ≤ 97) (ha : -4000000000000000 ≤ a ∧ a ≤ 4000000000000000) :
    Calls Try.prog 66 #[.int .i64 p, .int .i64 a] w fun e w' => e = .returned (.int .i64 (sqF p a)) ∧ w = w' := by
  by_cases h0 : a % p = 0
  · rw [sqF_0 h0]
    have hz : (a.tmod p == 0) = true := by rw [beq_iff_eq, tmod_zero_iff]; exact h0
    clear h0
    go_enter Try.func66, Try.ntmps66
    go_wp2
    go_ret
    exact ⟨rfl, rfl⟩
  · have hz : (a.tmod p == 0) = false := by rw [beq_eq_false_iff_ne]; exact fun h => h0 (tmod_zero_iff.1 h)
    have H0 := hid h0
    clear h0
    go_enter Try.func66, Try.ntmps66
    go_wp2
    go_loop [5] (fun d => ∃ k : Nat, 1 ≤ k ∧ (k : Int) ≤ p ∧ d = .int .i64 k ∧ ∀ x : Nat, 1 ≤ x → x < k → ¬ ((x : Int) * x - a) % p = 0) (fun d => (p - intOf d).toNat)
    case atStart => exact ⟨1, by omega, by omega, rfl, by omega⟩
    case round =>
      obtain ⟨k, hk1, hk, rfl, hj⟩ := hrel
      have Hj := hid hj
      clear hj
      have hq := sq_small (show k ≤ 97 by omega)
      by_cases hlt : (k : Int) < p
      · have hb := @tmod_bd ((k : Int) * k - a) p (by omega)
        by_cases hm : ((k : Int) * k - a) % p = 0
        · have HF := hid (sqF_1 H0.out hk1 hlt hm)
          have hm' : (((k : Int) * k - a).tmod p == 0) = true := by rw [beq_iff_eq, tmod_zero_iff]; exact hm
          clear hm
          go_wp2
          go_ret
          exact ⟨ret_i HF.out.symm, rfl⟩
        · have hm' : (((k : Int) * k - a).tmod p == 0) = false := by rw [beq_eq_false_iff_ne]; exact fun h => hm (tmod_zero_iff.1 h)
          have Hm := hid hm
          clear hm
          go_wp2
          go_round
          case rel => exact ⟨k + 1, by omega, by omega, by go_num, fun j a b => by rcases Nat.lt_or_ge j k with h | h; (exact Hj.out j a h); (obtain rfl : j = k := by omega); exact Hm.out⟩
          case measure => simp [intOf]; omega
      · have HF := hid (sqF_m H0.out (fun x h1 h2 => Hj.out x h1 (by omega)))
        go_wp2
        go_ret
        exact ⟨ret_i HF.out.symm, rfl⟩

set_option maxHeartbeats 1000000 in
theorem s_sq (a p : Int) (w : World) (hp : 2 ≤ p ∧ p ≤ 97) :
    Calls Try.prog 67 #[.int .i64 a, .int .i64 p] w fun e w' => e = .returned (.int .i64 (sqF p a)) ∧ w = w' := by
  have hr : 0 ≤ a % p ∧ a % p < p := ⟨Int.emod_nonneg _ (by omega), Int.emod_lt_of_pos _ (by omega)⟩
  by_cases h0 : a % p = 0
  · rw [sqF_0 h0]
    have hz : (a % p == 0) = true := by rw [beq_iff_eq]; exact h0
    clear h0
    go_enter Try.func67, Try.ntmps67
    go_wp2_with (go_at_call 41; refine pur (s_mod _ _ _ (by omega) (by omega)) ?_)
    go_ret
    exact ⟨rfl, rfl⟩
  · have hz : (a % p == 0) = false := by rw [beq_eq_false_iff_ne]; exact h0
    have H0 := hid h0
    clear h0
    go_enter Try.func67, Try.ntmps67
    go_wp2_with (go_at_call 41; refine pur (s_mod _ _ _ (by omega) (by omega)) ?_)
    go_loop [5] (fun d => ∃ k : Nat, 1 ≤ k ∧ (k : Int) ≤ p ∧ d = .int .i64 k ∧ ∀ x : Nat, 1 ≤ x → x < k → ¬ ((x : Int) * x - a) % p = 0) (fun d => (p - intOf d).toNat)
    case atStart => exact ⟨1, by omega, by omega, rfl, by omega⟩
    case round =>
      obtain ⟨k, hk1, hk, rfl, hj⟩ := hrel
      have Hj := hid hj
      clear hj
      have hq := sq_small (show k ≤ 97 by omega)
      by_cases hlt : (k : Int) < p
      · have hb : 0 ≤ ((k : Int) * k) % p ∧ ((k : Int) * k) % p < p := ⟨Int.emod_nonneg _ (by omega), Int.emod_lt_of_pos _ (by omega)⟩
        by_cases hm : ((k : Int) * k - a) % p = 0
        · have HF := hid (sqF_1 H0.out hk1 hlt hm)
          have hm' : (((k : Int) * k) % p == a % p) = true := by rw [beq_iff_eq, mod_sub_iff]; exact hm
          clear hm
          go_wp2
          go_ret
          exact ⟨ret_i HF.out.symm, rfl⟩
        · have hm' : (((k : Int) * k) % p == a % p) = false := by rw [beq_eq_false_iff_ne]; exact fun h => hm (mod_sub_iff.1 h)
          have Hm := hid hm
          clear hm
          go_wp2
          go_round
          case rel => exact ⟨k + 1, by omega, by omega, by go_num, fun j a b => by rcases Nat.lt_or_ge j k with h | h; (exact Hj.out j a h); (obtain rfl : j = k := by omega); exact Hm.out⟩
          case measure => simp [intOf]; omega
      · have HF := hid (sqF_m H0.out (fun x h1 h2 => Hj.out x h1 (by omega)))
        go_wp2
        go_ret
        exact ⟨ret_i HF.out.symm, rfl⟩

set_option maxHeartbeats 1000000 in
theorem i_isSquareOf (p n : Int) (w : World) (hp : 2 ≤ p ∧ p ≤ 97) (hn : n ≠ 0) (hb : -4000000000000000 ≤ n ∧ n ≤ 4000000000000000) :
    Calls Try.prog 32 #[.int .i64 p, .int .i64 n] w fun e w' => e = .returned (.bool (sqrB p n)) ∧ w = w' := by
  have hv := vl_pow_bd hp.1 hn
  obtain ⟨k, hk⟩ : ∃ k, k = vl n p := ⟨_, rfl⟩
  obtain ⟨m, hm⟩ : ∃ m, m = n / p ^ vl n p := ⟨_, rfl⟩
  have e : sqrB p n = (decide (k % 2 = 0) && (if p = 2 then m % 8 == 1 else sqF p m == 1)) := by rw [hk, hm]; rfl
  rw [e]
  rw [← hk] at hv
  rw [← hk] at hm
  rw [← hm] at hv
  have hpw : p ^ ((k : Int)).toNat ≤ 4000000000000000000 := by have : (k : Int).toNat = k := by omega
                                                               rw [this]; omega
  have hmb : -4000000000000000 ≤ m ∧ m ≤ 4000000000000000 := by omega
  have hkb : k ≤ 100 := by
    rcases Nat.lt_or_ge k 100 with h | h
    · omega
    · have h1 := pow_mono (show (1 : Int) ≤ p by omega) h
      have h2 : (2 : Int) ^ 100 ≤ p ^ 100 := by
        have : ∀ j : Nat, (2 : Int) ^ j ≤ p ^ j := by
          intro j
          induction j with
          | zero => simp
          | succ j ih => rw [Int.pow_succ, Int.pow_succ]; exact Int.mul_le_mul ih hp.1 (by omega) (by have := pow_pos' (show 1 ≤ p by omega) j; omega)
        exact this 100
      have h3 : (2 : Int) ^ 100 = 1267650600228229401496703205376 := by decide
      omega
  have e2 : n.tdiv (p ^ k) = m := hv.2.2.1
  have Hn := hid hn
  have Hk := hid hk
  have Hpw := hid hpw
  have e3 : ((vl n p : Int)) = (k : Int) := by rw [hk]
  have hm8 : 0 ≤ m % 8 ∧ m % 8 < 8 := ⟨Int.emod_nonneg _ (by omega), Int.emod_lt_of_pos _ (by omega)⟩
  have hpk := pow_pos' (show 1 ≤ p by omega) k
  have hsb := sqF_bd p m
  have hsq : -1 ≤ sqF p m ∧ sqF p m ≤ 1 := by omega
  clear hn hk hm hv e hpw hsb
  by_cases h2 : (k : Int) % 2 = 0
  · have hk2 : ((k : Int) % 2 == 0) = true := by rw [beq_iff_eq]; exact h2
    have hd : decide (k % 2 = 0) = true := by simp; omega
    rw [hd]
    clear h2 hd
    by_cases h3 : p = 2
    · rw [if_pos h3]
      have hp2 : (p == 2) = true := by rw [beq_iff_eq]; exact h3
      clear h3
      go_enter Try.func32, Try.ntmps32
      go_wp2_with fail
      refine pur (i_val _ _ _ hp.1 (by omega) Hn.out (by omega)) ?_
      rw [e3]
      go_wp2_with fail
      refine pur (i_power _ _ _ (by omega) (by omega) Hpw.out) ?_
      go_wp2_with (go_at_call 65; refine pur (i_mod _ _ _ (by omega) (by omega)) ?_)
      go_ret
      exact ⟨rfl, rfl⟩
    · rw [if_neg h3]
      have hp2 : (p == 2) = false := by rw [beq_eq_false_iff_ne]; exact h3
      clear h3
      go_enter Try.func32, Try.ntmps32
      go_wp2_with fail
      refine pur (i_val _ _ _ hp.1 (by omega) Hn.out (by omega)) ?_
      rw [e3]
      go_wp2_with fail
      refine pur (i_power _ _ _ (by omega) (by omega) Hpw.out) ?_
      go_wp2_with (go_at_call 66; refine pur (i_sq _ _ _ hp hmb) ?_)
      go_ret
      exact ⟨rfl, rfl⟩
  · have hk2 : ((k : Int) % 2 == 0) = false := by rw [beq_eq_false_iff_ne]; exact h2
    have hd : decide (k % 2 = 0) = false := by simp; omega
    rw [hd]
    clear h2 hd
    by_cases h3 : p = 2
    · have hp2 : (p == 2) = true := by rw [beq_iff_eq]; exact h3
      clear h3
      go_enter Try.func32, Try.ntmps32
      go_wp2_with fail
      refine pur (i_val _ _ _ hp.1 (by omega) Hn.out (by omega)) ?_
      rw [e3]
      go_wp2_with fail
      refine pur (i_power _ _ _ (by omega) (by omega) Hpw.out) ?_
      go_wp2_with fail
      all_goals (go_ret; exact ⟨rfl, rfl⟩)
    · have hp2 : (p == 2) = false := by rw [beq_eq_false_iff_ne]; exact h3
      clear h3
      go_enter Try.func32, Try.ntmps32
      go_wp2_with fail
      refine pur (i_val _ _ _ hp.1 (by omega) Hn.out (by omega)) ?_
      rw [e3]
      go_wp2_with fail
      refine pur (i_power _ _ _ (by omega) (by omega) Hpw.out) ?_
      go_wp2_with fail
      all_goals (go_ret; exact ⟨rfl, rfl⟩)

set_option maxHeartbeats 400000 in
theorem s_16Square (u p : Int) (w : World) (hp : 2 ≤ p ∧ p ≤ 97) :
    Calls Try.prog 33 #[.int .i64 u, .int .i64 p] w fun e w' => e = .returned (.bool (if p = 2 then u % 8 == 1 else sqF p u == 1)) ∧ w = w' := by
  by_cases h3 : p = 2
  · rw [if_pos h3]
    have hp2 : (p == 2) = true := by rw [beq_iff_eq]; exact h3
    clear h3
    go_enter Try.func33, Try.ntmps33
    go_wp2_with (go_at_call 41; refine pur (s_mod _ _ _ (by omega) (by omega)) ?_)
    go_ret
    exact ⟨rfl, rfl⟩
  · rw [if_neg h3]
    have hp2 : (p == 2) = false := by rw [beq_eq_false_iff_ne]; exact h3
    clear h3
    go_enter Try.func33, Try.ntmps33
    go_wp2_with (go_at_call 67; refine pur (s_sq _ _ _ hp) ?_)
    go_ret
    exact ⟨rfl, rfl⟩
theorem s_16 (u p : Int) (w : World) (hp : 2 ≤ p ∧ p ≤ 97) (hu : ¬ u % p = 0) :
    Calls Try.prog 33 #[.int .i64 u, .int .i64 p] w fun e w' => e = .returned (.bool (sqrB p u)) ∧ w = w' := by
  rw [sqrB_unit hp.1 hu]; exact s_16Square u p w hp
end Go.Proofs.Ytdeehgcabnoclaa
