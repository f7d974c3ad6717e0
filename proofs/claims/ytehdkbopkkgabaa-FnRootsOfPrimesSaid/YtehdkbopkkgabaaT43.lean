/- OrderOf: both texts; the law. -/
import Derived.Test.YtehdkbopkkgabaaT42
namespace Go.Proofs.Ytehdkbopkkgabaa
open Go Go.RowKit

def ordV (p n a : Int) : Int := ordS a (p ^ n.toNat) (facS (3 * (p - 1).toNat + 300) (p - 1) 2 ++ [(p, 0)]) (p ^ n.toNat - p ^ (n.toNat - 1))
def ordpF (p n a : Int) : Int × Int := if unitF p n a = 0 then (ordV p n a, 0) else (0, unitF p n a)

set_option maxHeartbeats 1000000 in
theorem i_OrderOf (p n a : Int) (w : World) :
    Calls Try.prog 19 #[(.agg #[.int .i64 p, .int .i64 n]), .int .i64 a] w fun e w' => e = .returned (.tuple #[.int .i64 (ordpF p n a).1, .int .i64 (ordpF p n a).2]) ∧ Below w.heap.size w w' := by
  by_cases h : unitF p n a = 0
  · have e : ordpF p n a = (ordV p n a, 0) := by simp [ordpF, h]
    rw [e]; clear e
    obtain ⟨h1, h2, h3⟩ := unitF_0 h
    have hb := inB_iff.1 h2
    have hr := (ringB_iff.1 h1).2
    have h' : (unitF p n a != 0) = false := by simp [h]
    have HO : Hid (∀ W : World, Calls Try.prog 82 #[(.agg #[.int .i64 p, .int .i64 n]), .int .i64 a] W fun x w' => x = .returned (.int .i64 (ordV p n a)) ∧ Below W.heap.size W w') := hid fun W => by
      have := i_order p n a W h1 (by omega)
      rw [ord_same h1] at this
      exact this
    obtain ⟨g, hg⟩ : ∃ g, g = ordV p n a := ⟨_, rfl⟩
    rw [← hg] at HO ⊢
    clear h h1 h2 h3 hb hr hg
    go_enter Try.func19, Try.ntmps19
    go_wp2_with (first | (go_at_call 81; refine via (i_unit _ _ _ _) ?_; intro uu zz; try simp at zz) | (go_at_call 82; refine via (HO.out _) ?_; intro uu zz; try simp at zz))
    go_ret2
    exact ⟨rfl, (by refine Ext.bel ?_; repeat (with_reducible first | exact Ext.refl _ | apply Ext.alloc | apply Ext.aft | apply Ext.drew | apply Ext.drewN | apply Ext.setCell | exact Nat.le_add_right _ _ | exact Nat.le_refl _ | (simp; done) | omega))⟩
  · have e : ordpF p n a = (0, unitF p n a) := by simp [ordpF, h]
    rw [e]; clear e
    have h' : (unitF p n a != 0) = true := by simp [h]
    clear h
    go_enter Try.func19, Try.ntmps19
    go_wp2_with (first | (go_at_call 81; refine via (i_unit _ _ _ _) ?_; intro uu zz; try simp at zz))
    go_ret2
    exact ⟨rfl, (by refine Ext.bel ?_; repeat (with_reducible first | exact Ext.refl _ | apply Ext.alloc | apply Ext.aft | apply Ext.drew | apply Ext.drewN | apply Ext.setCell | exact Nat.le_add_right _ _ | exact Nat.le_refl _ | (simp; done) | omega))⟩

end Go.Proofs.Ytehdkbopkkgabaa
