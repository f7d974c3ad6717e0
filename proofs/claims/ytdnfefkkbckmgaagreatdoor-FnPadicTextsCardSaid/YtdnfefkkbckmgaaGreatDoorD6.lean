/- Sums: known digits, both texts. -/
import Derived.Test.YtdnfefkkbckmgaaGreatDoorM3
import Derived.Test.YtdnfefkkbckmgaaGreatDoorM4
import Derived.Test.YtdnfefkkbckmgaaGreatDoorD2
import Derived.Test.YtdnfefkkbckmgaaGreatDoorB4
namespace Go.Proofs.YtdnfefkkbckmgaaGreatDoor
open Go Go.RowKit

set_option maxHeartbeats 1000000 in
theorem i_known (p v r c : Int) (w : World) (hp : 2 ≤ p ∧ p ≤ 97) (hv : -1000 ≤ v ∧ v ≤ 1000) (hr : 0 ≤ r ∧ r ≤ 1000000000000) (hc : 0 ≤ c ∧ c ≤ 1000) :
    Calls Tryz.prog 74 #[.int .i64 p, .int .i64 v, .int .i64 r, .int .i64 c] w fun e w' => e = .returned (.agg #[.int .i64 (knownF p v r c).p, .int .i64 (knownF p v r c).v, .int .i64 (knownF p v r c).u, .int .i64 (knownF p v r c).n]) ∧ Below w.heap.size w w' := by
  by_cases h0 : r = 0
  · have e : (knownF p v r c) = ⟨p, v + c, 0, 0⟩ := by unfold knownF; rw [if_pos h0]
    rw [e]; clear e
    subst h0
    have hc1 : ¬ c < 0 := by omega
    rcases (show c = 0 ∨ 0 < c by omega) with rfl | hc0
    · go_enter Tryz.func74, Tryz.ntmps74
      go_wp2
      exact bodyPost_ret (v := .agg #[.int .i64 p, .int .i64 v, .int .i64 0, .int .i64 0]) (by first | (simp [results, go_sem]; done) | simp [results, go_sem, ↓IntWalk.iteOmega]) rfl ⟨rfl, (by refine Ext.bel ?_; repeat (with_reducible first | exact Ext.refl _ | apply Ext.alloc | apply Ext.aft | apply Ext.drew | apply Ext.drewN | apply Ext.setCell | exact Nat.le_add_right _ _ | exact Nat.le_refl _ | (simp; done) | omega))⟩
    · go_enter Tryz.func74, Tryz.ntmps74
      go_wp2
      exact bodyPost_ret (v := .agg #[.int .i64 p, .int .i64 (v + c), .int .i64 0, .int .i64 0]) (by first | (simp [results, go_sem]; done) | simp [results, go_sem, ↓IntWalk.iteOmega]) rfl ⟨rfl, (by refine Ext.bel ?_; repeat (with_reducible first | exact Ext.refl _ | apply Ext.alloc | apply Ext.aft | apply Ext.drew | apply Ext.drewN | apply Ext.setCell | exact Nat.le_add_right _ _ | exact Nat.le_refl _ | (simp; done) | omega))⟩
  · have e : (knownF p v r c) = ⟨p, v + vl r p, r / p ^ vl r p, c - vl r p⟩ := by unfold knownF; rw [if_neg h0]
    rw [e]; clear e
    obtain ⟨h1, h2, h3, h4, h5⟩ := vl_pow_bd (p := p) hp.1 h0
    have h6 := pow_gt p hp.1 (vl r p)
    have hk : (vl r p : Int) ≤ 1000000000000 := by omega
    have h7 : (r == 0) = false := by simp [h0]
    have H0 := hid h0
    have Hb := hid (show p ^ ((vl r p : Int)).toNat ≤ 4000000000000000000 by rw [Int.toNat_natCast]; omega)
    have h8 := pow_pos' (show 1 ≤ p by omega) (vl r p)
    have h9 : 0 ≤ r / p ^ vl r p ∧ r / p ^ vl r p ≤ 1000000000000 := by
      have := Int.ediv_nonneg hr.1 (show 0 ≤ p ^ vl r p by omega)
      omega
    rw [← h3] at h9 ⊢
    clear h0 h1 h2 h3 h4 h5 h6
    go_enter Tryz.func74, Tryz.ntmps74
    go_wp2_with (first | (go_at_call 89; refine pur (i_val _ _ _ (by omega) (by omega) H0.out (by omega)) ?_) | (go_at_call 90; refine pur (i_power _ _ _ (by omega) (by omega) Hb.out) ?_))
    exact bodyPost_ret (v := .agg #[.int .i64 p, .int .i64 (v + vl r p), .int .i64 (r.tdiv (p ^ vl r p)), .int .i64 (c - vl r p)]) (by first | (simp [results, go_sem]; done) | simp [results, go_sem, ↓IntWalk.iteOmega]) rfl ⟨rfl, (by refine Ext.bel ?_; repeat (with_reducible first | exact Ext.refl _ | apply Ext.alloc | apply Ext.aft | apply Ext.drew | apply Ext.drewN | apply Ext.setCell | exact Nat.le_add_right _ _ | exact Nat.le_refl _ | (simp; done) | omega))⟩

end Go.Proofs.YtdnfefkkbckmgaaGreatDoor
