/- Images: both texts, the law. -/
import Derived.Test.YtaninbfcoifedaaH4
namespace Go.Proofs.Ytaninbfcoifedaa
open Go Go.RowKit

def imgF (p n : Int) (xs : List Int) : List Int × Int := if inRingB p n xs = true then (redF p xs, 0) else ([], 1)
theorem redF_len (m : Int) (xs : List Int) : (redF m xs).length ≤ xs.length := by unfold redF; have := trimF_len (xs.map (· % m)); simpa using this

set_option maxHeartbeats 2000000 in
theorem i_ImageOf (p n : Int) (r : Value) (xs : List Int) (w : World) (h : rdI w r xs) :
    Calls Try.prog 18 #[(.agg #[.int .i64 p, .int .i64 n]), r] w fun e w' => ∃ v, e = .returned (.tuple #[v, .int .i64 (imgF p n xs).2]) ∧ ownR w.heap.size w' v (imgF p n xs).1 ∧ Below w.heap.size w w' := by
  cases h1 : inRingB p n xs
  · have e : imgF p n xs = ([], 1) := by simp [imgF, h1]
    rw [e]; clear e
    go_enter Try.func18, Try.ntmps18
    go_wp2_with (first | (go_at_call 27; refine via (i_IsInRing _ _ _ _ _ (by repeat (with_reducible first | assumption | apply rdI.aft | apply rdI.alloc | apply rdI.drew | apply rdI.drewN))) ?_; intro uu zz; try simp at zz))
    go_ret2
    exact ⟨.slice none 0 0, rfl, ownR.nil _ _, (by refine Ext.bel ?_; repeat (with_reducible first | exact Ext.refl _ | apply Ext.alloc | apply Ext.aft | apply Ext.drew | apply Ext.drewN | apply Ext.setCell | exact Nat.le_add_right _ _ | exact Nat.le_refl _ | (simp; done) | omega))⟩
  · have e : imgF p n xs = (redF p xs, 0) := by simp [imgF, h1]
    rw [e]; clear e
    obtain ⟨h2, h3, _, _⟩ := inRing_facts h1
    have hp := smallP_bd (ringB_iff.1 h2).1
    have hp2 : 1 ≤ p ∧ p ≤ 1000000000 := by omega
    have hl : xs.length ≤ 1000000 := by omega
    clear h2
    go_enter Try.func18, Try.ntmps18
    go_wp2_with (first | (go_at_call 27; refine via (i_IsInRing _ _ _ _ _ (by repeat (with_reducible first | assumption | apply rdI.aft | apply rdI.alloc | apply rdI.drew | apply rdI.drewN))) ?_; intro uu zz; try simp at zz) | (go_at_call 29; refine viaI (g := id) (i_reduce _ _ _ _ (by repeat (with_reducible first | assumption | apply rdI.aft | apply rdI.alloc | apply rdI.drew | apply rdI.drewN)) hp2 hl) ?_; intro rr ur zr hown; (try simp at zr)))
    go_ret2
    exact ⟨_, rfl, hown.mono (by first | omega | (simp; omega)), (by refine Ext.bel ?_; repeat (with_reducible first | exact Ext.refl _ | apply Ext.alloc | apply Ext.aft | apply Ext.drew | apply Ext.drewN | apply Ext.setCell | exact Nat.le_add_right _ _ | exact Nat.le_refl _ | (simp; done) | omega))⟩
end Go.Proofs.Ytaninbfcoifedaa
