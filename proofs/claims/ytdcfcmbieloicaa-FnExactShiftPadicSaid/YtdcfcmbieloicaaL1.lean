/- ShiftPadic: the program's and the reference's answers are the same, for all arguments. -/
import Derived.Test.YtdcfcmbieloicaaC1
namespace Go.Proofs.Ytdcfcmbieloicaa
open Go Go.RowKit


set_option maxHeartbeats 1000000 in
theorem law_Shift (p v u n k : Int) (w : World) :
    Calls Try.prog 3 #[(.agg #[.int .i64 p, .int .i64 v, .int .i64 u, .int .i64 n]), .int .i64 k] w fun e w' => e = .returned (.bool true) ∧ Below w.heap.size w w' := by
  go_enter Try.func3, Try.ntmps3
  go_wp2_with (first | (go_at_call 18; refine via (l_toPadic _ _ _ _ _) ?_; intro u1 z1; try simp at z1) | (go_at_call 17; refine via (s_Shift _ _ _ _ _ _) ?_; intro u2 z2; try simp at z2) | (go_at_call 19; refine via (i_Shift _ _ _ _ _ _) ?_; intro u3 z3; try simp at z3) | (go_at_call 20; refine via (l_eqPadic _ _ _ _ _) ?_; intro u4 z4; try simp at z4))
  go_ret
  exact ⟨rfl, (by refine Ext.bel ?_; repeat (with_reducible first | exact Ext.refl _ | apply Ext.alloc | apply Ext.aft | apply Ext.drew | apply Ext.drewN | apply Ext.setCell | exact Nat.le_add_right _ _ | exact Nat.le_refl _ | (simp; done) | omega))⟩
end Go.Proofs.Ytdcfcmbieloicaa
