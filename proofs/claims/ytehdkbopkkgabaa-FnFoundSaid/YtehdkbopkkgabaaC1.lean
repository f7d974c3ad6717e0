/- Contracts: shifts of p-adic numbers; the arguments' copies; equality. -/
import Derived.Test.YtehdkbopkkgabaaA9
namespace Go.Proofs.Ytehdkbopkkgabaa
open Go Go.RowKit


def shiftF (x : Pd) (k : Int) : Pd × Int := if padicB x.p x.v x.u x.n = true then (if inB k (-60) 60 = true then limF ⟨x.p, x.v + k, x.u, x.n⟩ else (⟨0, 0, 0, 0⟩, 2)) else (⟨0, 0, 0, 0⟩, 1)

set_option maxHeartbeats 400000 in
theorem i_Shift (p v u n k : Int) (w : World) :
    Calls Try.prog 27 #[(.agg #[.int .i64 p, .int .i64 v, .int .i64 u, .int .i64 n]), .int .i64 k] w fun e w' => e = .returned (.tuple #[.agg #[.int .i64 (shiftF ⟨p, v, u, n⟩ k).1.p, .int .i64 (shiftF ⟨p, v, u, n⟩ k).1.v, .int .i64 (shiftF ⟨p, v, u, n⟩ k).1.u, .int .i64 (shiftF ⟨p, v, u, n⟩ k).1.n], .int .i64 (shiftF ⟨p, v, u, n⟩ k).2]) ∧ Below w.heap.size w w' := by
  cases h : padicB p v u n
  · have e : shiftF ⟨p, v, u, n⟩ k = (⟨0, 0, 0, 0⟩, 1) := by simp [shiftF, h]
    rw [e]
    clear e
    go_enter Try.func27, Try.ntmps27
    go_wp2_with (first | (go_at_call 62; refine via (i_IsPadic _ _ _ _ _) ?_; intro u1 z1; try simp at z1) | (go_at_call 87; refine pur (i_isPlace _ _) ?_))
    exact bodyPost_ret (v := .tuple #[(.agg #[.int .i64 0, .int .i64 0, .int .i64 0, .int .i64 0]), .int .i64 1]) (by first | (simp [results, go_sem]; done) | simp [results, go_sem, ↓IntWalk.iteOmega]) rfl ⟨rfl, (by refine Ext.bel ?_; repeat (with_reducible first | exact Ext.refl _ | apply Ext.alloc | apply Ext.aft | apply Ext.drew | apply Ext.drewN | apply Ext.setCell | exact Nat.le_add_right _ _ | exact Nat.le_refl _ | (simp; done) | omega))⟩
  cases h2 : inB k (-60) 60
  · have e : shiftF ⟨p, v, u, n⟩ k = (⟨0, 0, 0, 0⟩, 2) := by simp [shiftF, h, h2]
    rw [e]
    clear e
    go_enter Try.func27, Try.ntmps27
    go_wp2_with (first | (go_at_call 62; refine via (i_IsPadic _ _ _ _ _) ?_; intro u1 z1; try simp at z1) | (go_at_call 87; refine pur (i_isPlace _ _) ?_))
    exact bodyPost_ret (v := .tuple #[(.agg #[.int .i64 0, .int .i64 0, .int .i64 0, .int .i64 0]), .int .i64 2]) (by first | (simp [results, go_sem]; done) | simp [results, go_sem, ↓IntWalk.iteOmega]) rfl ⟨rfl, (by refine Ext.bel ?_; repeat (with_reducible first | exact Ext.refl _ | apply Ext.alloc | apply Ext.aft | apply Ext.drew | apply Ext.drewN | apply Ext.setCell | exact Nat.le_add_right _ _ | exact Nat.le_refl _ | (simp; done) | omega))⟩
  · have e : shiftF ⟨p, v, u, n⟩ k = limF ⟨p, v + k, u, n⟩ := by simp [shiftF, h, h2]
    rw [e]
    clear e
    have hv := (padicB_place h).2
    have hk := inB_iff.1 h2
    go_enter Try.func27, Try.ntmps27
    go_wp2_with (first | (go_at_call 62; refine via (i_IsPadic _ _ _ _ _) ?_; intro u1 z1; try simp at z1) | (go_at_call 87; refine pur (i_isPlace _ _) ?_) | (go_at_call 92; refine via (i_orLimit _ _ _ _ _) ?_; intro u2 z2; try simp at z2))
    exact bodyPost_ret (v := (.tuple #[.agg #[.int .i64 (limF ⟨p, v + k, u, n⟩).1.p, .int .i64 (limF ⟨p, v + k, u, n⟩).1.v, .int .i64 (limF ⟨p, v + k, u, n⟩).1.u, .int .i64 (limF ⟨p, v + k, u, n⟩).1.n], .int .i64 (limF ⟨p, v + k, u, n⟩).2])) (by first | (simp [results, go_sem]; done) | simp [results, go_sem, ↓IntWalk.iteOmega]) rfl ⟨rfl, (by refine Ext.bel ?_; repeat (with_reducible first | exact Ext.refl _ | apply Ext.alloc | apply Ext.aft | apply Ext.drew | apply Ext.drewN | apply Ext.setCell | exact Nat.le_add_right _ _ | exact Nat.le_refl _ | (simp; done) | omega))⟩
set_option maxHeartbeats 400000 in
theorem s_Shift (p v u n k : Int) (w : World) :
    Calls Try.prog 28 #[(.agg #[.int .i64 p, .int .i64 v, .int .i64 u, .int .i64 n]), .int .i64 k] w fun e w' => e = .returned (.tuple #[.agg #[.int .i64 (shiftF ⟨p, v, u, n⟩ k).1.p, .int .i64 (shiftF ⟨p, v, u, n⟩ k).1.v, .int .i64 (shiftF ⟨p, v, u, n⟩ k).1.u, .int .i64 (shiftF ⟨p, v, u, n⟩ k).1.n], .int .i64 (shiftF ⟨p, v, u, n⟩ k).2]) ∧ Below w.heap.size w w' := by
  cases h : padicB p v u n
  · have e : shiftF ⟨p, v, u, n⟩ k = (⟨0, 0, 0, 0⟩, 1) := by simp [shiftF, h]
    rw [e]
    clear e
    go_enter Try.func28, Try.ntmps28
    go_wp2_with (first | (go_at_call 85; refine via (s_IsPadic _ _ _ _ _) ?_; intro u1 z1; try simp at z1) | (go_at_call 94; refine pur (s_in _ _ _ _) ?_))
    exact bodyPost_ret (v := .tuple #[(.agg #[.int .i64 0, .int .i64 0, .int .i64 0, .int .i64 0]), .int .i64 1]) (by first | (simp [results, go_sem]; done) | simp [results, go_sem, ↓IntWalk.iteOmega]) rfl ⟨rfl, (by refine Ext.bel ?_; repeat (with_reducible first | exact Ext.refl _ | apply Ext.alloc | apply Ext.aft | apply Ext.drew | apply Ext.drewN | apply Ext.setCell | exact Nat.le_add_right _ _ | exact Nat.le_refl _ | (simp; done) | omega))⟩
  cases h2 : inB k (-60) 60
  · have e : shiftF ⟨p, v, u, n⟩ k = (⟨0, 0, 0, 0⟩, 2) := by simp [shiftF, h, h2]
    rw [e]
    clear e
    go_enter Try.func28, Try.ntmps28
    go_wp2_with (first | (go_at_call 85; refine via (s_IsPadic _ _ _ _ _) ?_; intro u1 z1; try simp at z1) | (go_at_call 94; refine pur (s_in _ _ _ _) ?_))
    exact bodyPost_ret (v := .tuple #[(.agg #[.int .i64 0, .int .i64 0, .int .i64 0, .int .i64 0]), .int .i64 2]) (by first | (simp [results, go_sem]; done) | simp [results, go_sem, ↓IntWalk.iteOmega]) rfl ⟨rfl, (by refine Ext.bel ?_; repeat (with_reducible first | exact Ext.refl _ | apply Ext.alloc | apply Ext.aft | apply Ext.drew | apply Ext.drewN | apply Ext.setCell | exact Nat.le_add_right _ _ | exact Nat.le_refl _ | (simp; done) | omega))⟩
  · have e : shiftF ⟨p, v, u, n⟩ k = limF ⟨p, v + k, u, n⟩ := by simp [shiftF, h, h2]
    rw [e]
    clear e
    have hv := (padicB_place h).2
    have hk := inB_iff.1 h2
    go_enter Try.func28, Try.ntmps28
    go_wp2_with (first | (go_at_call 85; refine via (s_IsPadic _ _ _ _ _) ?_; intro u1 z1; try simp at z1) | (go_at_call 94; refine pur (s_in _ _ _ _) ?_) | (go_at_call 96; refine via (s_result _ _ _ _ _) ?_; intro u2 z2; try simp at z2))
    exact bodyPost_ret (v := (.tuple #[.agg #[.int .i64 (limF ⟨p, v + k, u, n⟩).1.p, .int .i64 (limF ⟨p, v + k, u, n⟩).1.v, .int .i64 (limF ⟨p, v + k, u, n⟩).1.u, .int .i64 (limF ⟨p, v + k, u, n⟩).1.n], .int .i64 (limF ⟨p, v + k, u, n⟩).2])) (by first | (simp [results, go_sem]; done) | simp [results, go_sem, ↓IntWalk.iteOmega]) rfl ⟨rfl, (by refine Ext.bel ?_; repeat (with_reducible first | exact Ext.refl _ | apply Ext.alloc | apply Ext.aft | apply Ext.drew | apply Ext.drewN | apply Ext.setCell | exact Nat.le_add_right _ _ | exact Nat.le_refl _ | (simp; done) | omega))⟩

set_option maxHeartbeats 400000 in
theorem l_toPadic (p v u n : Int) (w : World) :
    Calls Try.prog 65 #[(.agg #[.int .i64 p, .int .i64 v, .int .i64 u, .int .i64 n])] w fun e w' => e = .returned (.agg #[.int .i64 p, .int .i64 v, .int .i64 u, .int .i64 n]) ∧ Below w.heap.size w w' := by
  go_enter Try.func65, Try.ntmps65
  go_wp2
  exact bodyPost_ret (v := (.agg #[.int .i64 p, .int .i64 v, .int .i64 u, .int .i64 n])) (by first | (simp [results, go_sem]; done) | simp [results, go_sem, ↓IntWalk.iteOmega]) rfl ⟨rfl, (by refine Ext.bel ?_; repeat (with_reducible first | exact Ext.refl _ | apply Ext.alloc | apply Ext.aft | apply Ext.drew | apply Ext.drewN | apply Ext.setCell | exact Nat.le_add_right _ _ | exact Nat.le_refl _ | (simp; done) | omega))⟩

end Go.Proofs.Ytehdkbopkkgabaa
