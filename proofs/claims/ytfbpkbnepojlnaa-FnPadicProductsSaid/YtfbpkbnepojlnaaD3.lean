/- InvertPadic: both texts, the law. -/
import Derived.Test.YtfbpkbnepojlnaaC2
import Derived.Test.YtfbpkbnepojlnaaC1
import Derived.Test.YtfbpkbnepojlnaaD2
import Derived.Test.YtfbpkbnepojlnaaB4
namespace Go.Proofs.Ytfbpkbnepojlnaa
open Go Go.RowKit

def invpF (p v u n : Int) : Pd × Int := if padicB p v u n = true then (if n = 0 then (⟨0, 0, 0, 0⟩, 4) else (⟨p, -v, inv u (p ^ n.toNat), n⟩, 0)) else (⟨0, 0, 0, 0⟩, 1)

set_option maxHeartbeats 1000000 in
theorem s_InvertPadic (p v u n : Int) (w : World) :
    Calls Try.prog 31 #[(.agg #[.int .i64 p, .int .i64 v, .int .i64 u, .int .i64 n])] w fun e w' => e = .returned (.tuple #[.agg #[.int .i64 (invpF p v u n).1.p, .int .i64 (invpF p v u n).1.v, .int .i64 (invpF p v u n).1.u, .int .i64 (invpF p v u n).1.n], .int .i64 (invpF p v u n).2]) ∧ Below w.heap.size w w' := by
  cases h : padicB p v u n
  · have e : invpF p v u n = (⟨0, 0, 0, 0⟩, 1) := by simp [invpF, h]
    rw [e]; clear e
    go_enter Try.func31, Try.ntmps31
    go_wp2_with (go_at_call 54; refine via (s_IsPadic _ _ _ _ _) ?_; intro uu zz; try simp at zz)
    exact bodyPost_ret (v := .tuple #[(.agg #[.int .i64 0, .int .i64 0, .int .i64 0, .int .i64 0]), .int .i64 1]) (by first | (simp [results, go_sem]; done) | simp [results, go_sem, ↓IntWalk.iteOmega]) rfl ⟨rfl, (by refine Ext.bel ?_; repeat (with_reducible first | exact Ext.refl _ | apply Ext.alloc | apply Ext.aft | apply Ext.drew | apply Ext.drewN | apply Ext.setCell | exact Nat.le_add_right _ _ | exact Nat.le_refl _ | (simp; done) | omega))⟩
  have hp := smallP_bd (padicB_place h).1
  have hv := (padicB_place h).2
  by_cases h0 : n = 0
  · have e : invpF p v u n = (⟨0, 0, 0, 0⟩, 4) := by unfold invpF; rw [if_pos h, if_pos h0]
    rw [e]; clear e
    have h0' : (n == 0) = true := by rw [beq_iff_eq]; exact h0
    clear h0
    go_enter Try.func31, Try.ntmps31
    go_wp2_with (go_at_call 54; refine via (s_IsPadic _ _ _ _ _) ?_; intro uu zz; try simp at zz)
    exact bodyPost_ret (v := .tuple #[(.agg #[.int .i64 0, .int .i64 0, .int .i64 0, .int .i64 0]), .int .i64 4]) (by first | (simp [results, go_sem]; done) | simp [results, go_sem, ↓IntWalk.iteOmega]) rfl ⟨rfl, (by refine Ext.bel ?_; repeat (with_reducible first | exact Ext.refl _ | apply Ext.alloc | apply Ext.aft | apply Ext.drew | apply Ext.drewN | apply Ext.setCell | exact Nat.le_add_right _ _ | exact Nat.le_refl _ | (simp; done) | omega))⟩
  have h0' : (n == 0) = false := by rw [beq_eq_false_iff_ne]; exact h0
  obtain ⟨hr, hu, hun⟩ := padic_unit h h0
  have hr2 := ringB_iff.1 hr
  have hM := modu_ring hr
  have hpp := pow_pos' (show 1 ≤ p by omega) n.toNat
  have e : invpF p v u n = (⟨p, -v, inv u (modu p n), n⟩, 0) := by unfold invpF; rw [if_pos h, if_neg h0, hM]
  rw [e]; clear e
  have hub : 0 ≤ u ∧ u ≤ 1000000000000 := by omega
  have hM1 : 1 ≤ modu p n ∧ modu p n ≤ 1000000000000 := by rw [hM]; omega
  have hn : 1 ≤ n ∧ n ≤ 40 := by omega
  clear h0 hr hun hr2 hu hM hpp
  go_enter Try.func31, Try.ntmps31
  go_wp2_with (go_at_call 54; refine via (s_IsPadic _ _ _ _ _) ?_; intro uu zz; try simp at zz)
  refine wp_region_calm_tail 16 (by kernel_rfl) (by kernel_rfl) ?_
  simp only [List.take_succ_cons, List.take_zero, List.drop_succ_cons, List.drop_zero]
  repeat (go_big_quiet_step (first | (go_at_call 50; exact calmp (s_modulus _ _ _ (by omega) (by omega) (by omega))) | (go_at_call 74; exact calmp (s_inverse _ _ _ hub hM1))))
  refine wpQuiet_nil ?_; intro uq zq; try simp at zq
  go_wp2
  exact bodyPost_ret (v := .tuple #[.agg #[.int .i64 p, .int .i64 (-v), .int .i64 (inv u (modu p n)), .int .i64 n], .int .i64 0]) (by first | (simp [results, go_sem]; done) | simp [results, go_sem, ↓IntWalk.iteOmega]) rfl ⟨rfl, (by refine Ext.bel ?_; repeat (with_reducible first | exact Ext.refl _ | apply Ext.alloc | apply Ext.aft | apply Ext.drew | apply Ext.drewN | apply Ext.setCell | exact Nat.le_add_right _ _ | exact Nat.le_refl _ | (simp; done) | omega))⟩

set_option maxHeartbeats 1000000 in
theorem i_InvertPadic (p v u n : Int) (w : World) :
    Calls Try.prog 30 #[(.agg #[.int .i64 p, .int .i64 v, .int .i64 u, .int .i64 n])] w fun e w' => e = .returned (.tuple #[.agg #[.int .i64 (invpF p v u n).1.p, .int .i64 (invpF p v u n).1.v, .int .i64 (invpF p v u n).1.u, .int .i64 (invpF p v u n).1.n], .int .i64 (invpF p v u n).2]) ∧ Below w.heap.size w w' := by
  cases h : padicB p v u n
  · have e : invpF p v u n = (⟨0, 0, 0, 0⟩, 1) := by simp [invpF, h]
    rw [e]; clear e
    go_enter Try.func30, Try.ntmps30
    go_wp2_with (go_at_call 16; refine via (i_IsPadic _ _ _ _ _) ?_; intro uu zz; try simp at zz)
    exact bodyPost_ret (v := .tuple #[(.agg #[.int .i64 0, .int .i64 0, .int .i64 0, .int .i64 0]), .int .i64 1]) (by first | (simp [results, go_sem]; done) | simp [results, go_sem, ↓IntWalk.iteOmega]) rfl ⟨rfl, (by refine Ext.bel ?_; repeat (with_reducible first | exact Ext.refl _ | apply Ext.alloc | apply Ext.aft | apply Ext.drew | apply Ext.drewN | apply Ext.setCell | exact Nat.le_add_right _ _ | exact Nat.le_refl _ | (simp; done) | omega))⟩
  have hp := smallP_bd (padicB_place h).1
  have hv := (padicB_place h).2
  by_cases h0 : n = 0
  · have e : invpF p v u n = (⟨0, 0, 0, 0⟩, 4) := by unfold invpF; rw [if_pos h, if_pos h0]
    rw [e]; clear e
    have h0' : (n == 0) = true := by rw [beq_iff_eq]; exact h0
    clear h0
    go_enter Try.func30, Try.ntmps30
    go_wp2_with (first | (go_at_call 16; refine via (i_IsPadic _ _ _ _ _) ?_; intro uu zz; try simp at zz) | (go_at_call 58; refine via (i_isZero _ _ _ _ _) ?_; intro uu zz; try simp at zz))
    exact bodyPost_ret (v := .tuple #[(.agg #[.int .i64 0, .int .i64 0, .int .i64 0, .int .i64 0]), .int .i64 4]) (by first | (simp [results, go_sem]; done) | simp [results, go_sem, ↓IntWalk.iteOmega]) rfl ⟨rfl, (by refine Ext.bel ?_; repeat (with_reducible first | exact Ext.refl _ | apply Ext.alloc | apply Ext.aft | apply Ext.drew | apply Ext.drewN | apply Ext.setCell | exact Nat.le_add_right _ _ | exact Nat.le_refl _ | (simp; done) | omega))⟩
  have h0' : (n == 0) = false := by rw [beq_eq_false_iff_ne]; exact h0
  obtain ⟨hr, hu, hun⟩ := padic_unit h h0
  have hr2 := ringB_iff.1 hr
  have e : invpF p v u n = (⟨p, -v, inv u (p ^ n.toNat), n⟩, 0) := by unfold invpF; rw [if_pos h, if_neg h0]
  rw [e]; clear e
  have hub : 0 ≤ u ∧ u ≤ 1000000000000 := by omega
  have hn : 1 ≤ n ∧ n ≤ 40 := by omega
  have Hr := hid hr
  clear h0 hr hun hr2 hu
  go_enter Try.func30, Try.ntmps30
  go_wp2_with (first | (go_at_call 16; refine via (i_IsPadic _ _ _ _ _) ?_; intro uu zz; try simp at zz) | (go_at_call 58; refine via (i_isZero _ _ _ _ _) ?_; intro uu zz; try simp at zz))
  refine wp_region_calm_tail 9 (by kernel_rfl) (by kernel_rfl) ?_
  simp only [List.take_succ_cons, List.take_zero, List.drop_succ_cons, List.drop_zero]
  repeat (go_big_quiet_step (first | (go_at_call 59; exact calm (i_ring _ _ _ _ _)) | (go_at_call 73; exact calm (i_inverse _ _ _ _ Hr.out hub))))
  refine wpQuiet_nil ?_; intro uq zq; try simp at zq
  go_wp2
  exact bodyPost_ret (v := .tuple #[.agg #[.int .i64 p, .int .i64 (-v), .int .i64 (inv u (p ^ n.toNat)), .int .i64 n], .int .i64 0]) (by first | (simp [results, go_sem]; done) | simp [results, go_sem, ↓IntWalk.iteOmega]) rfl ⟨rfl, (by refine Ext.bel ?_; repeat (with_reducible first | exact Ext.refl _ | apply Ext.alloc | apply Ext.aft | apply Ext.drew | apply Ext.drewN | apply Ext.setCell | exact Nat.le_add_right _ _ | exact Nat.le_refl _ | (simp; done) | omega))⟩

end Go.Proofs.Ytfbpkbnepojlnaa
