/- Contracts: remainders, powers, valuations, common divisors. -/
import Derived.Test.YtdnfefkkbckmgaaDoorA2
import Derived.Test.YtdnfefkkbckmgaaDoorM1
namespace Go.Proofs.YtdnfefkkbckmgaaDoor
open Go Go.RowKit

theorem ret_i {a b : Int} (h : a = b) : Ending.returned (.int .i64 a) = .returned (.int .i64 b) := by rw [h]
theorem ret_b {a b : Bool} (h : a = b) : Ending.returned (.bool a) = .returned (.bool b) := by rw [h]

set_option maxHeartbeats 400000 in
theorem i_power (n e : Int) (w : World) (hn : 1 ≤ n) (he : e ≤ 4000000000000000000) (hb : n ^ e.toNat ≤ 4000000000000000000) :
    Calls Tryd.prog 39 #[.int .i64 n, .int .i64 e] w fun e1 w' => e1 = .returned (.int .i64 (n ^ e.toNat)) ∧ w = w' := by
  obtain ⟨P, hP⟩ : ∃ P, P = n ^ e.toNat := ⟨_, rfl⟩
  have hst := fun k (hk : k < e.toNat) => pow_step hn hb hk
  rw [← hP]
  have Hst := hid hst
  have HP := hid hP
  clear hst hP hb
  go_enter Tryd.func39, Tryd.ntmps39
  go_wp2_with fail
  go_loop [5, 7] (fun o i => ∃ k : Nat, k ≤ e.toNat ∧ i = .int .i64 k ∧ o = .int .i64 (n ^ k)) (fun _ i => e.toNat - (intOf i).toNat)
  case atStart => exact ⟨0, by omega, rfl, by simp⟩
  case round =>
    obtain ⟨k, hk, rfl, rfl⟩ := hrel
    by_cases hlt : (k : Int) < e
    · have hk2 : k < e.toNat := by omega
      have h := Hst.out k hk2
      go_wp2
      go_round
      case rel => exact ⟨k + 1, by omega, by go_num, by rw [Int.pow_succ]⟩
      case measure => simp [intOf]; omega
    · have e1 : k = e.toNat := by omega
      have He := hid e1
      clear e1
      go_wp2
      go_ret
      exact ⟨ret_i (by rw [HP.out, He.out]), rfl⟩
end Go.Proofs.YtdnfefkkbckmgaaDoor
