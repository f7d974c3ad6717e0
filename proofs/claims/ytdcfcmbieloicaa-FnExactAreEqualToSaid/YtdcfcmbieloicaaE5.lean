/- AreEqualTo: the law. -/
import Derived.Test.YtdcfcmbieloicaaE4
namespace Go.Proofs.Ytdcfcmbieloicaa
open Go Go.RowKit

set_option maxHeartbeats 1000000 in
theorem law_AreEqualTo (p v u n q v2 u2 n2 : Int) (w : World) :
    Calls Try.prog 13 #[(.agg #[.int .i64 p, .int .i64 v, .int .i64 u, .int .i64 n]), (.agg #[.int .i64 q, .int .i64 v2, .int .i64 u2, .int .i64 n2])] w fun e w' => e = .returned (.bool true) ∧ Below w.heap.size w w' := by
  go_enter Try.func13, Try.ntmps13
  go_wp2_with fail
  refine wp_region_calm (by kernel_rfl) (by kernel_rfl) ?_
  repeat (go_big_quiet_step (first | (go_at_call 18; exact calm (l_toPadic _ _ _ _ _)) | (go_at_call 44; exact calm (s_AreEqualTo _ _ _ _ _ _ _ _ _))))
  refine wpQuiet_nil ?_; intro uq zq; try simp at zq
  go_wp2_with fail
  refine wp_region_calm (by kernel_rfl) (by kernel_rfl) ?_
  repeat (go_big_quiet_step (first | (go_at_call 18; exact calm (l_toPadic _ _ _ _ _)) | (go_at_call 45; exact calm (i_AreEqualTo _ _ _ _ _ _ _ _ _))))
  refine wpQuiet_nil ?_; intro uq zq; try simp at zq
  go_wp2
  go_ret
  exact ⟨rfl, (by refine Ext.bel ?_; repeat (with_reducible first | exact Ext.refl _ | apply Ext.alloc | apply Ext.aft | apply Ext.drew | apply Ext.drewN | apply Ext.setCell | exact Nat.le_add_right _ _ | exact Nat.le_refl _ | (simp; done) | omega))⟩
end Go.Proofs.Ytdcfcmbieloicaa
