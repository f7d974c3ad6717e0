/- Contracts: ranges, primes of the reference, moduli. -/
import Derived.Test.YtdeehgcabnoclaaA4
namespace Go.Proofs.Ytdeehgcabnoclaa
open Go Go.RowKit

set_option maxHeartbeats 400000 in
theorem s_in (n a b : Int) (w : World) :
    Calls Try.prog 26 #[.int .i64 n, .int .i64 a, .int .i64 b] w fun e w' => e = .returned (.bool (inB n a b)) ∧ w = w' := by
  by_cases h1 : a ≤ n
  · by_cases h2 : n ≤ b
    · rw [inB_t h1 h2]; go_enter Try.func26, Try.ntmps26
      go_wp2
      go_ret
      exact ⟨rfl, rfl⟩
    · rw [inB_r (by omega)]; go_enter Try.func26, Try.ntmps26
      go_wp2
      go_ret
      exact ⟨rfl, rfl⟩
  · rw [inB_l (by omega)]; go_enter Try.func26, Try.ntmps26
    go_wp2
    go_ret
    exact ⟨rfl, rfl⟩

set_option maxHeartbeats 400000 in
theorem i_isValue (n : Int) (w : World) :
    Calls Try.prog 43 #[.int .i64 n] w fun e w' => e = .returned (.bool (inB n (-1000000000000) 1000000000000)) ∧ w = w' := by
  go_enter Try.func43, Try.ntmps43
  go_wp2_with (go_at_call 24; refine (i_within _ _ _ _).mono ?_; rintro e w' ⟨rfl, rfl⟩)
  go_ret
  exact ⟨rfl, rfl⟩
set_option maxHeartbeats 400000 in
theorem s_is (n : Int) (w : World) :
    Calls Try.prog 39 #[.int .i64 n] w fun e w' => e = .returned (.bool (inB n (-1000000000000) 1000000000000)) ∧ w = w' := by
  go_enter Try.func39, Try.ntmps39
  go_wp2_with (go_at_call 26; refine (s_in _ _ _ _).mono ?_; rintro e w' ⟨rfl, rfl⟩)
  go_ret
  exact ⟨rfl, rfl⟩

theorem in_lo {n a b : Int} (h : n < a) : inB n a b = false := inB_l h

set_option maxHeartbeats 400000 in
theorem s_prime (n : Int) (w : World) (hn : n ≤ 1000000) :
    Calls Try.prog 69 #[.int .i64 n] w fun e w' => e = .returned (.bool (primeB n)) ∧ w = w' := by
  by_cases h1 : 2 ≤ n
  · rw [primeB_in h1 hn]
    go_enter Try.func69, Try.ntmps69
    go_wp2
    go_loop [3] (fun d => ∃ k : Nat, 2 ≤ k ∧ k ≤ 1001 ∧ d = .int .i64 k ∧ ∀ j : Nat, 2 ≤ j → j < k → n % (j : Int) ≠ 0) (fun d => 1001 - (intOf d).toNat)
    case atStart => exact ⟨2, by omega, by omega, rfl, by omega⟩
    case round =>
      obtain ⟨k, hk2, hk, rfl, hj⟩ := hrel
      have hq := sq_bd hk
      by_cases hlt : (k : Int) * k ≤ n
      · have hk3 := sq_lt hn hlt
        by_cases hm : n % (k : Int) = 0
        · have HF := hid (noDiv_f hk2 hlt hn hm)
          have hm' : (n % (k : Int) == 0) = true := by simp [hm]
          clear hm hj
          go_wp2
          go_ret
          exact ⟨by rw [HF.out]; rfl, rfl⟩
        · have hm' : (n % (k : Int) == 0) = false := by simp [hm]
          have Hj := hid hj
          clear hj
          have Hm := hid hm
          clear hm
          go_wp2
          go_round
          case rel => exact ⟨k + 1, by omega, by omega, by go_num, fun j a b => by rcases Nat.lt_or_ge j k with h | h; (exact Hj.out j a h); (obtain rfl : j = k := by omega); exact Hm.out⟩
          case measure => simp [intOf]; omega
      · have HF := hid (noDiv_t hj (by omega))
        clear hj
        go_wp2
        go_ret
        exact ⟨by rw [HF.out]; rfl, rfl⟩
  · rw [primeB_out (by omega)]
    go_enter Try.func69, Try.ntmps69
    go_wp2
    go_ret
    exact ⟨rfl, rfl⟩

set_option maxHeartbeats 400000 in
theorem i_small (n : Int) (w : World) :
    Calls Try.prog 36 #[.int .i64 n] w fun e w' => e = .returned (.bool (smallP n)) ∧ w = w' := by
  by_cases h : n ≤ 97
  · rw [smallP_lo h]
    go_enter Try.func36, Try.ntmps36
    go_wp2_with (go_at_call 68; refine (i_IsPrime _ _).mono ?_; rintro e w' ⟨rfl, rfl⟩)
    go_ret
    exact ⟨rfl, rfl⟩
  · rw [smallP_hi (by omega)]
    go_enter Try.func36, Try.ntmps36
    go_wp2_with (go_at_call 68; refine (i_IsPrime _ _).mono ?_; rintro e w' ⟨rfl, rfl⟩)
    go_ret
    exact ⟨rfl, rfl⟩

set_option maxHeartbeats 400000 in
theorem s_small (n : Int) (w : World) :
    Calls Try.prog 38 #[.int .i64 n] w fun e w' => e = .returned (.bool (smallP n)) ∧ w = w' := by
  by_cases h : 2 ≤ n ∧ n ≤ 97
  · rw [smallP_lo h.2]
    have hin := inB_t h.1 h.2
    go_enter Try.func38, Try.ntmps38
    go_wp2_with fail
    refine (s_in _ _ _ _).mono ?_; rintro e w' ⟨rfl, rfl⟩
    go_wp2_with fail
    refine (s_prime _ _ (by omega)).mono ?_; rintro e w' ⟨rfl, rfl⟩
    go_wp2_with fail
    go_ret
    exact ⟨rfl, rfl⟩
  · rw [smallP_out (by omega)]
    have hin : inB n 2 97 = false := by
      rcases Int.lt_or_le n 2 with h | h
      · exact inB_l h
      · exact inB_r (by omega)
    go_enter Try.func38, Try.ntmps38
    go_wp2_with fail
    refine (s_in _ _ _ _).mono ?_; rintro e w' ⟨rfl, rfl⟩
    go_wp2_with fail
    go_ret
    exact ⟨rfl, rfl⟩

set_option maxHeartbeats 400000 in
theorem s_modulus (p n : Int) (w : World) (hp : 2 ≤ p) (hp2 : p ≤ 1000000) (hn : -4000000000000000000 ≤ n ∧ n ≤ 4000000000000000000) :
    Calls Try.prog 62 #[.int .i64 p, .int .i64 n] w fun e w' => e = .returned (.int .i64 (modu p n)) ∧ w = w' := by
  go_enter Try.func62, Try.ntmps62
  go_wp2_with fail
  go_loop [1, 5] (fun i o => ∃ k : Nat, k ≤ n.toNat ∧ i = .int .i64 (n - k) ∧ o = .int .i64 (p ^ k) ∧ p ^ k ≤ 1000000000) (fun i _ => (intOf i).toNat)
  case atStart => exact ⟨0, by omega, by go_num, by simp, by simp⟩
  case round =>
    obtain ⟨k, hk, rfl, rfl, hb⟩ := hrel
    have h1 := pow_pos' (show 1 ≤ p by omega) k
    by_cases hlt : (k : Int) < n
    · have h2 : 0 ≤ p ^ k * p ∧ p ^ k * p ≤ 1000000000 * 1000000 := by
        have a := Int.mul_le_mul hb hp2 (by omega) (by omega)
        have b := Int.mul_nonneg (show 0 ≤ p ^ k by omega) (show 0 ≤ p by omega)
        exact ⟨b, a⟩
      have hlt2 : 0 < n - k := by omega
      have hk2 : k < n.toNat := by omega
      by_cases hbig : p ^ k * p ≤ 1000000000
      · go_wp2
        go_round
        case rel => exact ⟨k + 1, by omega, by go_num, by rw [Int.pow_succ], by rw [Int.pow_succ]; exact hbig⟩
        case measure => simp [intOf]; omega
      · have HF : Hid (modu p n = 0) := by
          refine hid ?_
          unfold modu
          have := pow_mono (show 1 ≤ p by omega) (show k + 1 ≤ n.toNat by omega)
          rw [Int.pow_succ] at this
          rw [if_neg (by omega)]
        go_wp2
        go_ret
        exact ⟨ret_i (by rw [HF.out]), rfl⟩
    · have HF : Hid (modu p n = p ^ k) := by
        refine hid ?_
        have : n.toNat = k := by omega
        unfold modu
        rw [this, if_pos hb]
      have hlt2 : ¬ 0 < n - k := by omega
      go_wp2
      go_ret
      exact ⟨ret_i (by rw [HF.out]), rfl⟩
end Go.Proofs.Ytdeehgcabnoclaa
