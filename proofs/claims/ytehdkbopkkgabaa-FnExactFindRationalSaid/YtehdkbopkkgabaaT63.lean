/- FindRational: the law. -/
import Derived.Test.YtehdkbopkkgabaaT62
namespace Go.Proofs.Ytehdkbopkkgabaa
open Go Go.RowKit

set_option maxHeartbeats 1000000 in
theorem l_eqRational (nu de : Int) (w : World) :
    Calls Try.prog 66 #[.agg #[.int .i64 nu, .int .i64 de], .agg #[.int .i64 nu, .int .i64 de]] w fun e w' => e = .returned (.bool true) ∧ Below w.heap.size w w' := by
  go_enter Try.func66, Try.ntmps66
  go_wp2_with fail
  go_ret
  exact ⟨rfl, (by refine Ext.bel ?_; repeat (with_reducible first | exact Ext.refl _ | apply Ext.alloc | apply Ext.aft | apply Ext.drew | apply Ext.drewN | apply Ext.setCell | exact Nat.le_add_right _ _ | exact Nat.le_refl _ | (simp; done) | omega))⟩
set_option maxHeartbeats 8000000 in
theorem law_FindRational (p v u n : Int) (w : World) :
    Calls Try.prog 8 #[(.agg #[.int .i64 p, .int .i64 v, .int .i64 u, .int .i64 n])] w fun e w' => e = .returned (.bool true) ∧ Below w.heap.size w w' := by
  obtain ⟨N, hN⟩ : ∃ N, N = (frtF p v u n).1 := ⟨_, rfl⟩
  obtain ⟨D, hD⟩ : ∃ D, D = (frtF p v u n).2.1 := ⟨_, rfl⟩
  obtain ⟨C, hC⟩ : ∃ C, C = (frtF p v u n).2.2 := ⟨_, rfl⟩
  have HS : Hid (∀ w, Calls Try.prog 44 #[(.agg #[.int .i64 p, .int .i64 v, .int .i64 u, .int .i64 n])] w fun e w' => e = .returned (.tuple #[.agg #[.int .i64 N, .int .i64 D], .int .i64 C]) ∧ Below w.heap.size w w') := hid (by rw [hN, hD, hC]; exact fun w => s_FindRational _ _ _ _ w)
  have HI : Hid (∀ w, Calls Try.prog 43 #[(.agg #[.int .i64 p, .int .i64 v, .int .i64 u, .int .i64 n])] w fun e w' => e = .returned (.tuple #[.agg #[.int .i64 N, .int .i64 D], .int .i64 C]) ∧ Below w.heap.size w w') := hid (by rw [hN, hD, hC]; exact fun w => i_FindRational _ _ _ _ w)
  clear hN hD hC
  go_enter Try.func8, Try.ntmps8
  go_wp2_with (first | (go_at_call 65; refine via (l_toPadic _ _ _ _ _) ?_; intro uu zz; try simp at zz) | (go_at_call 44; refine via (HS.out _) ?_; intro uu zz; try simp at zz) | (go_at_call 43; refine via (HI.out _) ?_; intro uu zz; try simp at zz) | (go_at_call 66; refine via (l_eqRational _ _ _) ?_; intro uu zz; try simp at zz))
  go_ret
  exact ⟨rfl, (by refine Ext.bel ?_; repeat (with_reducible first | exact Ext.refl _ | apply Ext.alloc | apply Ext.aft | apply Ext.drew | apply Ext.drewN | apply Ext.setCell | exact Nat.le_add_right _ _ | exact Nat.le_refl _ | (simp; done) | omega))⟩
end Go.Proofs.Ytehdkbopkkgabaa
