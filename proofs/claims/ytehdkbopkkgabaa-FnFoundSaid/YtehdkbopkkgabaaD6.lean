/- Sums: known digits, both texts. -/
import Derived.Test.YtehdkbopkkgabaaM3
import Derived.Test.YtehdkbopkkgabaaM4
import Derived.Test.YtehdkbopkkgabaaD2
import Derived.Test.YtehdkbopkkgabaaB4
namespace Go.Proofs.Ytehdkbopkkgabaa
open Go Go.RowKit

set_option maxHeartbeats 1000000 in
theorem i_known (p v r c : Int) (w : World) (hp : 2 ≤ p ∧ p ≤ 97) (hv : -1000 ≤ v ∧ v ≤ 1000) (hr : 0 ≤ r ∧ r ≤ 1000000000000) (hc : 0 ≤ c ∧ c ≤ 1000) :
    Calls Try.prog 149 #[.int .i64 p, .int .i64 v, .int .i64 r, .int .i64 c] w fun e w' => e = .returned (.agg #[.int .i64 (knownF p v r c).p, .int .i64 (knownF p v r c).v, .int .i64 (knownF p v r c).u, .int .i64 (knownF p v r c).n]) ∧ Below w.heap.size w w' := by
  by_cases h0 : r = 0
  · have e : (knownF p v r c) = ⟨p, v + c, 0, 0⟩ := by unfold knownF; rw [if_pos h0]
    rw [e]; clear e
    subst h0
    have hc1 : ¬ c < 0 := by omega
    rcases (show c = 0 ∨ 0 < c by omega) with rfl | hc0
    · go_enter Try.func149, Try.ntmps149
      go_wp2
      exact bodyPost_ret (v := .agg #[.int .i64 p, .int .i64 v, .int .i64 0, .int .i64 0]) (by first | (simp [results, go_sem]; done) | simp [results, go_sem, ↓IntWalk.iteOmega]) rfl ⟨rfl, (by refine Ext.bel ?_; repeat (with_reducible first | exact Ext.refl _ | apply Ext.alloc | apply Ext.aft | apply Ext.drew | apply Ext.drewN | apply Ext.setCell | exact Nat.le_add_right _ _ | exact Nat.le_refl _ | (simp; done) | omega))⟩
    · go_enter Try.func149, Try.ntmps149
      go_wp2
      exact bodyPost_ret (v := .agg #[.int .i64 p, .int .i64 (v + c), .int .i64 0, .int .i64 0]) (by first | (simp [results, go_sem]; done) | simp [results, go_sem, ↓IntWalk.iteOmega]) rfl ⟨rfl, (by refine Ext.bel ?_; repeat (with_reducible first | exact Ext.refl _ | apply Ext.alloc | apply Ext.aft | apply Ext.drew | apply Ext.drewN | apply Ext.setCell | exact Nat.le_add_right _ _ | exact Nat.le_refl _ | (simp; done) | omega))⟩
  · have e : (knownF p v r c) = ⟨p, v + vl r p, r / p ^ vl r p, c - vl r p⟩ := by unfold knownF; rw [if_neg h0]
    rw [e]; clear e
    obtain ⟨h1, h2, h3, h4, h5⟩ := vl_pow_bd (p := p) hp.1 h0
    have h6 := pow_gt p hp.1 (vl r p)
    have hk : (vl r p : Int) ≤ 1000000000000 := by omega
    have h7 : (r == 0) = false := by simp [h0]
    have H0 := hid h0
    have Hb := hid (show p ^ ((vl r p : Int)).toNat ≤ 4000000000000000000 by rw [Int.toNat_natCast]; omega)
    have h8 := pow_pos' (show 1 ≤ p by omega) (vl r p)
    have h9 : 0 ≤ r / p ^ vl r p ∧ r / p ^ vl r p ≤ 1000000000000 := by
      have := Int.ediv_nonneg hr.1 (show 0 ≤ p ^ vl r p by omega)
      omega
    rw [← h3] at h9 ⊢
    clear h0 h1 h2 h3 h4 h5 h6
    go_enter Try.func149, Try.ntmps149
    go_wp2_with (first | (go_at_call 118; refine pur (i_val _ _ _ (by omega) (by omega) H0.out (by omega)) ?_) | (go_at_call 102; refine pur (i_power _ _ _ (by omega) (by omega) Hb.out) ?_))
    exact bodyPost_ret (v := .agg #[.int .i64 p, .int .i64 (v + vl r p), .int .i64 (r.tdiv (p ^ vl r p)), .int .i64 (c - vl r p)]) (by first | (simp [results, go_sem]; done) | simp [results, go_sem, ↓IntWalk.iteOmega]) rfl ⟨rfl, (by refine Ext.bel ?_; repeat (with_reducible first | exact Ext.refl _ | apply Ext.alloc | apply Ext.aft | apply Ext.drew | apply Ext.drewN | apply Ext.setCell | exact Nat.le_add_right _ _ | exact Nat.le_refl _ | (simp; done) | omega))⟩

set_option maxHeartbeats 1000000 in
theorem i_from (p v u n k c : Int) (w : World) (hp : 2 ≤ p ∧ p ≤ 97) (hv : -60 ≤ v ∧ v ≤ 60) (hu : 0 ≤ u ∧ u ≤ 1000000000) (hk : -60 ≤ k ∧ k ≤ v) (hc : 0 ≤ c ∧ c ≤ 1000) (hb : p ^ c.toNat ≤ 1000000000) :
    Calls Try.prog 155 #[(.agg #[.int .i64 p, .int .i64 v, .int .i64 u, .int .i64 n]), .int .i64 k, .int .i64 c] w fun e w' => e = .returned (.int .i64 (u * p ^ (v - k).toNat % p ^ c.toNat)) ∧ Below w.heap.size w w' := by
  by_cases h0 : c ≤ v - k
  · have e := mul_pow_zero (p := p) (a := u) (s := (v - k).toNat) (c := c.toNat) (by omega)
    rw [e]; clear e hb
    go_enter Try.func155, Try.ntmps155
    go_wp2
    go_ret
    exact ⟨rfl, (by refine Ext.bel ?_; repeat (with_reducible first | exact Ext.refl _ | apply Ext.alloc | apply Ext.aft | apply Ext.drew | apply Ext.drewN | apply Ext.setCell | exact Nat.le_add_right _ _ | exact Nat.le_refl _ | (simp; done) | omega))⟩
  · have h1 := pow_pos' (show 1 ≤ p by omega) c.toNat
    have h2 := pow_pos' (show 1 ≤ p by omega) (v - k).toNat
    have h3 := pow_mono (show 1 ≤ p by omega) (show (v - k).toNat ≤ c.toNat by omega)
    have Hb := hid (show p ^ c.toNat ≤ 4000000000000000000 by omega)
    have Hb2 := hid (show p ^ (v - k).toNat ≤ 4000000000000000000 by omega)
    have h4 := Int.emod_nonneg u (show p ^ c.toNat ≠ 0 by omega)
    have h5 := Int.emod_lt_of_pos u (show 0 < p ^ c.toNat by omega)
    have h6 : 0 ≤ u % p ^ c.toNat * p ^ (v - k).toNat := Int.mul_nonneg h4 (by omega)
    have h7 : u % p ^ c.toNat * p ^ (v - k).toNat ≤ 1000000000 * 1000000000 := Int.mul_le_mul (by omega) (by omega) (by omega) (by omega)
    have h8 := Int.emod_nonneg (u % p ^ c.toNat * p ^ (v - k).toNat) (show p ^ c.toNat ≠ 0 by omega)
    have h9 := Int.emod_lt_of_pos (u % p ^ c.toNat * p ^ (v - k).toNat) (show 0 < p ^ c.toNat by omega)
    rw [← mod_mul_mod]
    clear hb h3
    go_enter Try.func155, Try.ntmps155
    go_wp2_with (go_at_call 102; refine pur (i_power _ _ _ (by omega) (by omega) Hb.out) ?_)
    refine wp_region_calm (by kernel_rfl) (by kernel_rfl) ?_
    repeat (go_big_quiet_step (first | (go_at_call 102; exact calmp (i_power _ _ _ (by omega) (by omega) Hb2.out))))
    refine wpQuiet_nil ?_; intro uq zq; try simp at zq
    go_wp2
    go_ret
    exact ⟨rfl, (by refine Ext.bel ?_; repeat (with_reducible first | exact Ext.refl _ | apply Ext.alloc | apply Ext.aft | apply Ext.drew | apply Ext.drewN | apply Ext.setCell | exact Nat.le_add_right _ _ | exact Nat.le_refl _ | (simp; done) | omega))⟩
end Go.Proofs.Ytehdkbopkkgabaa
