/- Contracts: rings. -/
import Derived.Test.YtdeehgcabnoclaaA5
namespace Go.Proofs.Ytdeehgcabnoclaa
open Go Go.RowKit


theorem ringB_f {p n : Int} (h : smallP p = false ∨ n < 1) : ringB p n = false := by
  rcases h with h | h
  · simp [ringB, h]
  · have : ¬ 1 ≤ n := by omega
    simp [ringB, this]
theorem ringB_big {p n : Int} {k : Nat} (hp : 2 ≤ p) (hk : (k : Int) ≤ n) (hb : 1000000000 < p ^ k) : ringB p n = false := by
  have := pow_mono (show 1 ≤ p by omega) (show k ≤ n.toNat by omega)
  have h2 : ¬ p ^ n.toNat ≤ 1000000000 := by omega
  simp [ringB, h2]
theorem ringB_t {p n : Int} {k : Nat} (hs : smallP p = true) (h1 : 1 ≤ n) (hk : n = k) (h40 : n ≤ 40) (hb : p ^ k ≤ 1000000000) : ringB p n = true := by
  have : n.toNat = k := by omega
  simp [ringB, hs, h1, h40, this, hb]

set_option maxHeartbeats 1000000 in
theorem i_IsRing (p n : Int) (w : World) :
    Calls Try.prog 50 #[(.agg #[.int .i64 p, .int .i64 n])] w fun e w' => e = .returned (.bool (ringB p n)) ∧ Below w.heap.size w w' := by
  by_cases hs : smallP p = true
  · by_cases hn : 1 ≤ n
    · have hp := smallP_bd hs
      obtain ⟨B, hB⟩ : ∃ B, B = ringB p n := ⟨_, rfl⟩
      rw [← hB]
      have HB := hid hB
      clear hB
      rcases (show n ≤ 40 ∨ 40 < n by omega) with h40 | h40
      all_goals
        go_enter Try.func50, Try.ntmps50
        go_wp2_with (go_at_call 36; refine pur (i_small _ _) ?_)
        go_loop [3, 16] (fun o i => ∃ k : Nat, (k : Int) ≤ n ∧ k ≤ 40 ∧ i = .int .i64 k ∧ o = .int .i64 (p ^ k) ∧ p ^ k ≤ 1000000000) (fun _ i => 41 - (intOf i).toNat)
        case atStart => exact ⟨0, by omega, by omega, rfl, by simp, by simp⟩
        case round =>
          obtain ⟨k, hk, hk40, rfl, rfl, hb⟩ := hrel
          have h1 := pow_pos' (show 1 ≤ p by omega) k
          by_cases hlt : (k : Int) < n ∧ k < 40
          · obtain ⟨hlt, hlt2⟩ := hlt
            have h2 : 0 ≤ p ^ k * p ∧ p ^ k * p ≤ 1000000000 * 97 := by
              have a := Int.mul_le_mul hb hp.2 (by omega) (by omega)
              have b := Int.mul_nonneg (show 0 ≤ p ^ k by omega) (show 0 ≤ p by omega)
              exact ⟨b, a⟩
            by_cases hbig : p ^ k * p ≤ 1000000000
            · go_wp2
              go_round
              case rel => exact ⟨k + 1, by omega, by omega, by go_num, by rw [Int.pow_succ], by rw [Int.pow_succ]; exact hbig⟩
              case measure => simp [intOf]; omega
            · have HF := hid (ringB_big (p := p) (n := n) (k := k + 1) (by omega) (by omega) (by rw [Int.pow_succ]; omega))
              go_wp2
              go_ret
              exact ⟨ret_b (by rw [HB.out, HF.out]), (by refine Ext.bel ?_; repeat (with_reducible first | exact Ext.refl _ | apply Ext.alloc | apply Ext.aft | apply Ext.drew | apply Ext.drewN | apply Ext.setCell | exact Nat.le_add_right _ _ | exact Nat.le_refl _ | (simp; done) | omega))⟩
          · have HF : Hid (ringB p n = true) := by
              refine hid ?_
              by_cases h : n = k
              · exact ringB_t hs hn h (by omega) hb
              · have := pow_large (show 2 ≤ p by omega) (show 30 ≤ k by omega)
                omega
            first
              | (have hlt3 : ¬ (k : Int) < n := (by omega); go_wp2; go_ret; exact ⟨ret_b (by rw [HB.out, HF.out]), (by refine Ext.bel ?_; repeat (with_reducible first | exact Ext.refl _ | apply Ext.alloc | apply Ext.aft | apply Ext.drew | apply Ext.drewN | apply Ext.setCell | exact Nat.le_add_right _ _ | exact Nat.le_refl _ | (simp; done) | omega))⟩)
              | (have hlt3 : ¬ k < 40 := (by omega); go_wp2; go_ret; exact ⟨ret_b (by rw [HB.out, HF.out]), (by refine Ext.bel ?_; repeat (with_reducible first | exact Ext.refl _ | apply Ext.alloc | apply Ext.aft | apply Ext.drew | apply Ext.drewN | apply Ext.setCell | exact Nat.le_add_right _ _ | exact Nat.le_refl _ | (simp; done) | omega))⟩)
    · rw [ringB_f (.inr (by omega))]
      have hn' : n < 1 := by omega
      go_enter Try.func50, Try.ntmps50
      go_wp2_with (go_at_call 36; refine pur (i_small _ _) ?_)
      go_ret
      exact ⟨rfl, (by refine Ext.bel ?_; repeat (with_reducible first | exact Ext.refl _ | apply Ext.alloc | apply Ext.aft | apply Ext.drew | apply Ext.drewN | apply Ext.setCell | exact Nat.le_add_right _ _ | exact Nat.le_refl _ | (simp; done) | omega))⟩
  · have hs' : smallP p = false := by simpa using hs
    rw [ringB_f (.inl hs')]
    go_enter Try.func50, Try.ntmps50
    go_wp2_with (go_at_call 36; refine pur (i_small _ _) ?_)
    go_ret
    exact ⟨rfl, (by refine Ext.bel ?_; repeat (with_reducible first | exact Ext.refl _ | apply Ext.alloc | apply Ext.aft | apply Ext.drew | apply Ext.drewN | apply Ext.setCell | exact Nat.le_add_right _ _ | exact Nat.le_refl _ | (simp; done) | omega))⟩
end Go.Proofs.Ytdeehgcabnoclaa
