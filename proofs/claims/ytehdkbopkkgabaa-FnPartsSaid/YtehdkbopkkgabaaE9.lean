/- WholePart: the law. -/
import Derived.Test.YtehdkbopkkgabaaE8
namespace Go.Proofs.Ytehdkbopkkgabaa
open Go Go.RowKit

set_option maxHeartbeats 1000000 in
theorem i_WholePart (p v u n : Int) (w : World) :
    Calls Try.prog 35 #[(.agg #[.int .i64 p, .int .i64 v, .int .i64 u, .int .i64 n])] w fun e w' => e = .returned (.tuple #[.agg #[.int .i64 (wpF p v u n).1.p, .int .i64 (wpF p v u n).1.v, .int .i64 (wpF p v u n).1.u, .int .i64 (wpF p v u n).1.n], .int .i64 (wpF p v u n).2]) ∧ Below w.heap.size w w' := by
  cases h : padicB p v u n
  · have e : (wpF p v u n) = (⟨0, 0, 0, 0⟩, 1) := by simp [wpF, h]
    rw [e]; clear e
    go_enter Try.func35, Try.ntmps35
    go_wp2_with (go_at_call 62; refine via (i_IsPadic _ _ _ _ _) ?_; intro uu zz; try simp at zz)
    exact bodyPost_ret (v := .tuple #[(.agg #[.int .i64 0, .int .i64 0, .int .i64 0, .int .i64 0]), .int .i64 1]) (by first | (simp [results, go_sem]; done) | simp [results, go_sem, ↓IntWalk.iteOmega]) rfl ⟨rfl, (by refine Ext.bel ?_; repeat (with_reducible first | exact Ext.refl _ | apply Ext.alloc | apply Ext.aft | apply Ext.drew | apply Ext.drewN | apply Ext.setCell | exact Nat.le_add_right _ _ | exact Nat.le_refl _ | (simp; done) | omega))⟩
  obtain ⟨hp, hv, hu, hn, hb⟩ := padic_facts h
  by_cases he : v + n < 0
  · have e : (wpF p v u n) = (⟨0, 0, 0, 0⟩, 4) := by unfold wpF; rw [if_pos h, if_pos he]
    rw [e]; clear e hb
    go_enter Try.func35, Try.ntmps35
    go_wp2_with (first | (go_at_call 62; refine via (i_IsPadic _ _ _ _ _) ?_; intro uu zz; try simp at zz) | (go_at_call 99; refine via (i_end _ _ _ _ _ (by omega) (by omega)) ?_; intro uu zz; try simp at zz))
    exact bodyPost_ret (v := .tuple #[(.agg #[.int .i64 0, .int .i64 0, .int .i64 0, .int .i64 0]), .int .i64 4]) (by first | (simp [results, go_sem]; done) | simp [results, go_sem, ↓IntWalk.iteOmega]) rfl ⟨rfl, (by refine Ext.bel ?_; repeat (with_reducible first | exact Ext.refl _ | apply Ext.alloc | apply Ext.aft | apply Ext.drew | apply Ext.drewN | apply Ext.setCell | exact Nat.le_add_right _ _ | exact Nat.le_refl _ | (simp; done) | omega))⟩
  have e : (wpF p v u n) = ((wholeF p v u n), 0) := by unfold wpF; rw [if_pos h, if_neg he]
  rw [e]; clear e hb
  have H := hid h
  have He := hid (show 0 ≤ v + n by omega)
  go_enter Try.func35, Try.ntmps35
  go_wp2_with (first | (go_at_call 62; refine via (i_IsPadic _ _ _ _ _) ?_; intro uu zz; try simp at zz) | (go_at_call 99; refine via (i_end _ _ _ _ _ (by omega) (by omega)) ?_; intro uu zz; try simp at zz) | (go_at_call 100; refine via (i_whole _ _ _ _ _ H.out He.out) ?_; intro uu zz; try simp at zz))
  exact bodyPost_ret (v := .tuple #[.agg #[.int .i64 (wholeF p v u n).p, .int .i64 (wholeF p v u n).v, .int .i64 (wholeF p v u n).u, .int .i64 (wholeF p v u n).n], .int .i64 0]) (by first | (simp [results, go_sem]; done) | simp [results, go_sem, ↓IntWalk.iteOmega]) rfl ⟨rfl, (by refine Ext.bel ?_; repeat (with_reducible first | exact Ext.refl _ | apply Ext.alloc | apply Ext.aft | apply Ext.drew | apply Ext.drewN | apply Ext.setCell | exact Nat.le_add_right _ _ | exact Nat.le_refl _ | (simp; done) | omega))⟩

end Go.Proofs.Ytehdkbopkkgabaa
