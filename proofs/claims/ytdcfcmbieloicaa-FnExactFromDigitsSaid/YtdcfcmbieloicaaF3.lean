/- FromDigits: the law. -/
import Derived.Test.YtdcfcmbieloicaaF2
namespace Go.Proofs.Ytdcfcmbieloicaa
open Go Go.RowKit

set_option maxHeartbeats 4000000 in
theorem law_FromDigits (p v : Int) (r : Value) (xs : List Int) (w : World) (h : rdI w r xs) :
    Calls Try.prog 14 #[.int .i64 p, .int .i64 v, r] w fun e w' => e = .returned (.bool true) ∧ Below w.heap.size w w' := by
  have hlen : xs.length ≤ maxLen := by obtain ⟨a, cap, _, hm, _⟩ := h; exact hm
  unfold maxLen at hlen
  obtain ⟨a, cap, hr, _, _⟩ := id h
  by_cases hl : xs.length ≤ 1048576
  · have hl2 : (xs.length : Int) ≤ 1048576 := by omega
    subst hr
    go_enter Try.func14, Try.ntmps14
    go_wp2_with fail
    refine viaI (g := id) (l_toI _ _ _ (by repeat (with_reducible first | assumption | apply rdI.aft | apply rdI.alloc | apply rdI.drew | apply rdI.drewN)) hl) ?_
    intro r0 u0 z0 own0
    try simp at z0
    have rd0 := own0.rd
    go_wp2_with (go_at_call 46; refine via (s_FromDigits _ _ _ _ _ (by repeat (with_reducible first | assumption | apply rdI.aft | apply rdI.alloc | apply rdI.drew | apply rdI.drewN))) ?_; intro uu zz; try simp at zz)
    refine viaI (g := id) (l_toI _ _ _ (by repeat (with_reducible first | assumption | apply rdI.aft | apply rdI.alloc | apply rdI.drew | apply rdI.drewN)) hl) ?_
    intro r1 u1 z1 own1
    try simp at z1
    have rd1 := own1.rd
    go_wp2_with (first | (go_at_call 48; refine via (i_FromDigits _ _ _ _ _ (by repeat (with_reducible first | assumption | apply rdI.aft | apply rdI.alloc | apply rdI.drew | apply rdI.drewN))) ?_; intro uu zz; try simp at zz) | (go_at_call 20; refine via (l_eqPadic _ _ _ _ _) ?_; intro uu zz; try simp at zz))
    refine viaI (g := id) (l_toI _ _ _ (by repeat (with_reducible first | assumption | apply rdI.aft | apply rdI.alloc | apply rdI.drew | apply rdI.drewN)) hl) ?_
    intro r2 u2 z2 own2
    try simp at z2
    have rd2 := own2.rd
    go_wp2_with (first | (go_at_call 28; refine via (l_eqI _ _ xs _ (by repeat (with_reducible first | assumption | apply rdI.aft | apply rdI.alloc | apply rdI.drew | apply rdI.drewN)) (by repeat (with_reducible first | assumption | apply rdI.aft | apply rdI.alloc | apply rdI.drew | apply rdI.drewN))) ?_; intro uu zz; try simp at zz))
    go_ret
    exact ⟨rfl, (by refine Ext.bel ?_; repeat (with_reducible first | exact Ext.refl _ | apply Ext.alloc | apply Ext.aft | apply Ext.drew | apply Ext.drewN | apply Ext.setCell | exact Nat.le_add_right _ _ | exact Nat.le_refl _ | (simp; done) | omega))⟩
  · have hl2 : ¬ (xs.length : Int) ≤ 1048576 := by omega
    subst hr
    go_enter Try.func14, Try.ntmps14
    go_wp2_with fail
    go_ret
    exact ⟨rfl, (by refine Ext.bel ?_; repeat (with_reducible first | exact Ext.refl _ | apply Ext.alloc | apply Ext.aft | apply Ext.drew | apply Ext.drewN | apply Ext.setCell | exact Nat.le_add_right _ _ | exact Nat.le_refl _ | (simp; done) | omega))⟩
end Go.Proofs.Ytdcfcmbieloicaa
