/- Contracts: shifts of p-adic numbers; the arguments' copies; equality. -/
import Derived.Test.YtdnfefkkbckmgaaGreatDoorA9
namespace Go.Proofs.YtdnfefkkbckmgaaGreatDoor
open Go Go.RowKit


def shiftF (x : Pd) (k : Int) : Pd × Int := if padicB x.p x.v x.u x.n = true then (if inB k (-60) 60 = true then limF ⟨x.p, x.v + k, x.u, x.n⟩ else (⟨0, 0, 0, 0⟩, 2)) else (⟨0, 0, 0, 0⟩, 1)

set_option maxHeartbeats 400000 in
theorem l_eqPadic (p v u n : Int) (w : World) :
    Calls Tryz.prog 7 #[(.agg #[.int .i64 p, .int .i64 v, .int .i64 u, .int .i64 n]), (.agg #[.int .i64 p, .int .i64 v, .int .i64 u, .int .i64 n])] w fun e w' => e = .returned (.bool true) ∧ Below w.heap.size w w' := by
  go_enter Tryz.func7, Tryz.ntmps7
  go_wp2
  go_ret
  exact ⟨rfl, (by refine Ext.bel ?_; repeat (with_reducible first | exact Ext.refl _ | apply Ext.alloc | apply Ext.aft | apply Ext.drew | apply Ext.drewN | apply Ext.setCell | exact Nat.le_add_right _ _ | exact Nat.le_refl _ | (simp; done) | omega))⟩
end Go.Proofs.YtdnfefkkbckmgaaGreatDoor
