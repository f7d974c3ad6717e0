/- Opposite numbers: both texts. -/
import Derived.Test.YtfbpkbnepojlnaaC1
import Derived.Test.YtfbpkbnepojlnaaD2
import Derived.Test.YtfbpkbnepojlnaaB4
namespace Go.Proofs.Ytfbpkbnepojlnaa
open Go Go.RowKit

def ngF (p u n : Int) : Int := if n = 0 then u else p ^ n.toNat - u
theorem padicB_ng {p v u n : Int} (h : padicB p v u n = true) : padicB p v (ngF p u n) n = true := by
  unfold ngF
  by_cases h0 : n = 0
  · rw [if_pos h0]; exact h
  rw [if_neg h0]
  obtain ⟨hr, hu, hun⟩ := padic_unit h h0
  have hpl := padicB_place h
  have hp := smallP_bd hpl.1
  have hn := (ringB_iff.1 hr).2.1
  have hu1 : 1 ≤ u := by
    rcases (show u = 0 ∨ 1 ≤ u by omega) with h | h
    · exact absurd (by rw [h]; simp) hun
    · exact h
  have hd : (p ^ n.toNat) % p = 0 := by
    rw [show n.toNat = (n.toNat - 1) + 1 by omega, Int.pow_succ, Int.mul_emod_left]
  rw [padicB_alt hpl.1 (inB_t hpl.2.1 hpl.2.2) h0, hr, inB_t (by omega) (by omega)]
  simp only [Bool.true_and, bne_iff_ne, ne_eq]
  intro hz
  have h1 := Int.dvd_sub (Int.dvd_of_emod_eq_zero hd) (Int.dvd_of_emod_eq_zero hz)
  rw [Int.sub_sub_self] at h1
  exact hun (Int.emod_eq_zero_of_dvd h1)

set_option maxHeartbeats 1000000 in
theorem s_negate (p v u n : Int) (w : World) (h : padicB p v u n = true) :
    Calls Try.prog 70 #[(.agg #[.int .i64 p, .int .i64 v, .int .i64 u, .int .i64 n])] w fun e w' => e = .returned (.agg #[.int .i64 p, .int .i64 v, .int .i64 (ngF p u n), .int .i64 n]) ∧ Below w.heap.size w w' := by
  obtain ⟨hp, hv, hu, hn, hb⟩ := padic_facts h
  by_cases h0 : n = 0
  · have e : ngF p u n = u := by unfold ngF; rw [if_pos h0]
    rw [e]; clear e h hb
    have h0' : (n == 0) = true := by rw [beq_iff_eq]; exact h0
    clear h0
    go_enter Try.func70, Try.ntmps70
    go_wp2
    exact bodyPost_ret (v := (.agg #[.int .i64 p, .int .i64 v, .int .i64 u, .int .i64 n])) (by first | (simp [results, go_sem]; done) | simp [results, go_sem, ↓IntWalk.iteOmega]) rfl ⟨rfl, (by refine Ext.bel ?_; repeat (with_reducible first | exact Ext.refl _ | apply Ext.alloc | apply Ext.aft | apply Ext.drew | apply Ext.drewN | apply Ext.setCell | exact Nat.le_add_right _ _ | exact Nat.le_refl _ | (simp; done) | omega))⟩
  · have e : ngF p u n = modu p n - u := by unfold ngF; rw [if_neg h0]; unfold modu; rw [if_pos hb]
    rw [e]; clear e
    have hM : 0 ≤ modu p n ∧ modu p n ≤ 1000000000 := by
      have := pow_pos' (show 1 ≤ p by omega) n.toNat
      unfold modu; rw [if_pos hb]; omega
    have h0' : (n == 0) = false := by rw [beq_eq_false_iff_ne]; exact h0
    clear h0 h hb
    go_enter Try.func70, Try.ntmps70
    go_wp2_with fail
    refine wp_region_calm_tail 15 (by kernel_rfl) (by kernel_rfl) ?_
    simp only [List.take_succ_cons, List.take_zero, List.drop_succ_cons, List.drop_zero]
    repeat (go_big_quiet_step (first | (go_at_call 50; exact calmp (s_modulus _ _ _ (by omega) (by omega) (by omega)))))
    refine wpQuiet_nil ?_; intro uq zq; try simp at zq
    go_wp2
    exact bodyPost_ret (v := .agg #[.int .i64 p, .int .i64 v, .int .i64 (modu p n - u), .int .i64 n]) (by first | (simp [results, go_sem]; done) | simp [results, go_sem, ↓IntWalk.iteOmega]) rfl ⟨rfl, (by refine Ext.bel ?_; repeat (with_reducible first | exact Ext.refl _ | apply Ext.alloc | apply Ext.aft | apply Ext.drew | apply Ext.drewN | apply Ext.setCell | exact Nat.le_add_right _ _ | exact Nat.le_refl _ | (simp; done) | omega))⟩

set_option maxHeartbeats 1000000 in
theorem i_negate (p v u n : Int) (w : World) (h : padicB p v u n = true) :
    Calls Try.prog 69 #[(.agg #[.int .i64 p, .int .i64 v, .int .i64 u, .int .i64 n])] w fun e w' => e = .returned (.agg #[.int .i64 p, .int .i64 v, .int .i64 (ngF p u n), .int .i64 n]) ∧ Below w.heap.size w w' := by
  obtain ⟨hp, hv, hu, hn, hb⟩ := padic_facts h
  by_cases h0 : n = 0
  · have e : ngF p u n = u := by unfold ngF; rw [if_pos h0]
    rw [e]; clear e h hb
    have h0' : (n == 0) = true := by rw [beq_iff_eq]; exact h0
    clear h0
    go_enter Try.func69, Try.ntmps69
    go_wp2_with (go_at_call 58; refine via (i_isZero _ _ _ _ _) ?_; intro uu zz; try simp at zz)
    exact bodyPost_ret (v := (.agg #[.int .i64 p, .int .i64 v, .int .i64 u, .int .i64 n])) (by first | (simp [results, go_sem]; done) | simp [results, go_sem, ↓IntWalk.iteOmega]) rfl ⟨rfl, (by refine Ext.bel ?_; repeat (with_reducible first | exact Ext.refl _ | apply Ext.alloc | apply Ext.aft | apply Ext.drew | apply Ext.drewN | apply Ext.setCell | exact Nat.le_add_right _ _ | exact Nat.le_refl _ | (simp; done) | omega))⟩
  · have e : ngF p u n = p ^ n.toNat - u := by unfold ngF; rw [if_neg h0]
    rw [e]; clear e
    have Hr := hid (padic_unit h h0).1
    have hM := pow_pos' (show 1 ≤ p by omega) n.toNat
    have h0' : (n == 0) = false := by rw [beq_eq_false_iff_ne]; exact h0
    clear h0 h
    go_enter Try.func69, Try.ntmps69
    go_wp2_with (go_at_call 58; refine via (i_isZero _ _ _ _ _) ?_; intro uu zz; try simp at zz)
    refine wp_region_calm_tail 7 (by kernel_rfl) (by kernel_rfl) ?_
    simp only [List.take_succ_cons, List.take_zero, List.drop_succ_cons, List.drop_zero]
    repeat (go_big_quiet_step (first | (go_at_call 59; exact calm (i_ring _ _ _ _ _)) | (go_at_call 45; exact calm (i_modulus _ _ _ Hr.out))))
    refine wpQuiet_nil ?_; intro uq zq; try simp at zq
    go_wp2
    exact bodyPost_ret (v := .agg #[.int .i64 p, .int .i64 v, .int .i64 (p ^ n.toNat - u), .int .i64 n]) (by first | (simp [results, go_sem]; done) | simp [results, go_sem, ↓IntWalk.iteOmega]) rfl ⟨rfl, (by refine Ext.bel ?_; repeat (with_reducible first | exact Ext.refl _ | apply Ext.alloc | apply Ext.aft | apply Ext.drew | apply Ext.drewN | apply Ext.setCell | exact Nat.le_add_right _ _ | exact Nat.le_refl _ | (simp; done) | omega))⟩
end Go.Proofs.Ytfbpkbnepojlnaa
