/- AddPadics: both texts. -/
import Derived.Test.YtehdkbopkkgabaaD4
import Derived.Test.YtehdkbopkkgabaaD9
namespace Go.Proofs.Ytehdkbopkkgabaa
open Go Go.RowKit

def addpF (p v u n q v2 u2 n2 : Int) : Pd × Int := if pairF p v u n q v2 u2 n2 = 0 then limF (addF p v u n v2 u2 n2) else (⟨0, 0, 0, 0⟩, pairF p v u n q v2 u2 n2)
set_option maxHeartbeats 1000000 in
theorem i_AddPadics (p v u n q v2 u2 n2 : Int) (w : World) :
    Calls Try.prog 41 #[(.agg #[.int .i64 p, .int .i64 v, .int .i64 u, .int .i64 n]), (.agg #[.int .i64 q, .int .i64 v2, .int .i64 u2, .int .i64 n2])] w fun e w' => e = .returned (.tuple #[.agg #[.int .i64 (addpF p v u n q v2 u2 n2).1.p, .int .i64 (addpF p v u n q v2 u2 n2).1.v, .int .i64 (addpF p v u n q v2 u2 n2).1.u, .int .i64 (addpF p v u n q v2 u2 n2).1.n], .int .i64 (addpF p v u n q v2 u2 n2).2]) ∧ Below w.heap.size w w' := by
  rcases pairF_cases p v u n q v2 u2 n2 with h | h | ⟨h, h1, h2, h3⟩
  · have e : (addpF p v u n q v2 u2 n2) = (⟨0, 0, 0, 0⟩, 1) := by unfold addpF; rw [if_neg (by omega), h]
    rw [e]; clear e
    go_enter Try.func41, Try.ntmps41
    go_wp2_with fail
    refine via (i_pair _ _ _ _ _ _ _ _ _) ?_
    rw [h]; clear h; intro uu zz; try simp at zz
    go_wp2_with fail
    exact bodyPost_ret (v := .tuple #[(.agg #[.int .i64 0, .int .i64 0, .int .i64 0, .int .i64 0]), .int .i64 1]) (by first | (simp [results, go_sem]; done) | simp [results, go_sem, ↓IntWalk.iteOmega]) rfl ⟨rfl, (by refine Ext.bel ?_; repeat (with_reducible first | exact Ext.refl _ | apply Ext.alloc | apply Ext.aft | apply Ext.drew | apply Ext.drewN | apply Ext.setCell | exact Nat.le_add_right _ _ | exact Nat.le_refl _ | (simp; done) | omega))⟩
  · have e : (addpF p v u n q v2 u2 n2) = (⟨0, 0, 0, 0⟩, 5) := by unfold addpF; rw [if_neg (by omega), h]
    rw [e]; clear e
    go_enter Try.func41, Try.ntmps41
    go_wp2_with fail
    refine via (i_pair _ _ _ _ _ _ _ _ _) ?_
    rw [h]; clear h; intro uu zz; try simp at zz
    go_wp2_with fail
    exact bodyPost_ret (v := .tuple #[(.agg #[.int .i64 0, .int .i64 0, .int .i64 0, .int .i64 0]), .int .i64 5]) (by first | (simp [results, go_sem]; done) | simp [results, go_sem, ↓IntWalk.iteOmega]) rfl ⟨rfl, (by refine Ext.bel ?_; repeat (with_reducible first | exact Ext.refl _ | apply Ext.alloc | apply Ext.aft | apply Ext.drew | apply Ext.drewN | apply Ext.setCell | exact Nat.le_add_right _ _ | exact Nat.le_refl _ | (simp; done) | omega))⟩
  · have e : (addpF p v u n q v2 u2 n2) = (limF (addF p v u n v2 u2 n2)) := by unfold addpF; rw [if_pos h]
    rw [e]; clear e
    subst h3
    have H1 := hid h1
    have H2 := hid h2
    clear h1 h2
    go_enter Try.func41, Try.ntmps41
    go_wp2_with fail
    refine via (i_pair _ _ _ _ _ _ _ _ _) ?_
    rw [h]; clear h; intro uu zz; try simp at zz
    go_wp2_with (first | (go_at_call 107; refine via (i_add _ _ _ _ _ _ _ _ H1.out H2.out) ?_; intro uu zz; try simp at zz) | (go_at_call 92; refine via (i_orLimit _ _ _ _ _) ?_; intro uu zz; try simp at zz))
    exact bodyPost_ret (v := (.tuple #[.agg #[.int .i64 (limF (addF p v u n v2 u2 n2)).1.p, .int .i64 (limF (addF p v u n v2 u2 n2)).1.v, .int .i64 (limF (addF p v u n v2 u2 n2)).1.u, .int .i64 (limF (addF p v u n v2 u2 n2)).1.n], .int .i64 (limF (addF p v u n v2 u2 n2)).2])) (by first | (simp [results, go_sem]; done) | simp [results, go_sem, ↓IntWalk.iteOmega]) rfl ⟨rfl, (by refine Ext.bel ?_; repeat (with_reducible first | exact Ext.refl _ | apply Ext.alloc | apply Ext.aft | apply Ext.drew | apply Ext.drewN | apply Ext.setCell | exact Nat.le_add_right _ _ | exact Nat.le_refl _ | (simp; done) | omega))⟩
end Go.Proofs.Ytehdkbopkkgabaa
