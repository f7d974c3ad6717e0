/- Contracts: shifts of p-adic numbers; the arguments' copies; equality. -/
import Derived.Test.YtdnfefkkbckmgaaDoorA9
namespace Go.Proofs.YtdnfefkkbckmgaaDoor
open Go Go.RowKit


def shiftF (x : Pd) (k : Int) : Pd × Int := if padicB x.p x.v x.u x.n = true then (if inB k (-60) 60 = true then limF ⟨x.p, x.v + k, x.u, x.n⟩ else (⟨0, 0, 0, 0⟩, 2)) else (⟨0, 0, 0, 0⟩, 1)

set_option maxHeartbeats 400000 in
theorem l_toPadic (p v u n : Int) (w : World) :
    Calls Tryd.prog 5 #[(.agg #[.int .i64 p, .int .i64 v, .int .i64 u, .int .i64 n])] w fun e w' => e = .returned (.agg #[.int .i64 p, .int .i64 v, .int .i64 u, .int .i64 n]) ∧ Below w.heap.size w w' := by
  go_enter Tryd.func5, Tryd.ntmps5
  go_wp2
  exact bodyPost_ret (v := (.agg #[.int .i64 p, .int .i64 v, .int .i64 u, .int .i64 n])) (by first | (simp [results, go_sem]; done) | simp [results, go_sem, ↓IntWalk.iteOmega]) rfl ⟨rfl, (by refine Ext.bel ?_; repeat (with_reducible first | exact Ext.refl _ | apply Ext.alloc | apply Ext.aft | apply Ext.drew | apply Ext.drewN | apply Ext.setCell | exact Nat.le_add_right _ _ | exact Nat.le_refl _ | (simp; done) | omega))⟩

end Go.Proofs.YtdnfefkkbckmgaaDoor
