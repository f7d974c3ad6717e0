/- Contracts: primes. -/
import Derived.Test.YtdnfefkkbckmgaaGreatDoorA1
import Derived.Test.YtdnfefkkbckmgaaGreatDoorM0
namespace Go.Proofs.YtdnfefkkbckmgaaGreatDoor
open Go Go.RowKit

set_option maxHeartbeats 400000 in
theorem i_IsPrime (n : Int) (w : World) :
    Calls Tryz.prog 72 #[.int .i64 n] w fun e w' => e = .returned (.bool (primeB n)) ∧ w = w' := by
  by_cases h1 : 2 ≤ n ∧ n ≤ 1000000
  · obtain ⟨h1, h2⟩ := h1
    rw [primeB_in h1 h2]
    have hin := inB_t h1 h2
    go_enter Tryz.func72, Tryz.ntmps72
    go_wp2_with (go_at_call 48; refine (i_within _ _ _ _).mono ?_; rintro e w' ⟨rfl, rfl⟩)
    go_loop [3] (fun d => ∃ k : Nat, 2 ≤ k ∧ k ≤ 1001 ∧ d = .int .i64 k ∧ ∀ j : Nat, 2 ≤ j → j < k → n % (j : Int) ≠ 0) (fun d => 1001 - (intOf d).toNat)
    case atStart => exact ⟨2, by omega, by omega, rfl, by omega⟩
    case round =>
      obtain ⟨k, hk2, hk, rfl, hj⟩ := hrel
      have hq := sq_bd hk
      by_cases hlt : (k : Int) * k ≤ n
      · have hk3 := sq_lt h2 hlt
        by_cases hm : n % (k : Int) = 0
        · have HF := hid (noDiv_f hk2 hlt h2 hm)
          have hm' : (n % (k : Int) == 0) = true := by simp [hm]
          clear hm hj
          go_wp2
          go_ret
          exact ⟨by rw [HF.out]; rfl, rfl⟩
        · have hm' : (n % (k : Int) == 0) = false := by simp [hm]
          have Hj := hid hj
          clear hj
          have Hm := hid hm
          clear hm
          go_wp2
          go_round
          case rel => exact ⟨k + 1, by omega, by omega, by go_num, fun j a b => by rcases Nat.lt_or_ge j k with h | h; (exact Hj.out j a h); (obtain rfl : j = k := by omega); exact Hm.out⟩
          case measure => simp [intOf]; omega
      · have HF := hid (noDiv_t hj (by omega))
        clear hj
        go_wp2
        go_ret
        exact ⟨by rw [HF.out]; rfl, rfl⟩
  · rw [primeB_out (by omega)]
    have hin : inB n 2 1000000 = false := by
      rcases Int.lt_or_le n 2 with h | h
      · exact inB_l h
      · exact inB_r (by omega)
    go_enter Tryz.func72, Tryz.ntmps72
    go_wp2_with (go_at_call 48; refine (i_within _ _ _ _).mono ?_; rintro e w' ⟨rfl, rfl⟩)
    go_ret
    exact ⟨rfl, rfl⟩
end Go.Proofs.YtdnfefkkbckmgaaGreatDoor
