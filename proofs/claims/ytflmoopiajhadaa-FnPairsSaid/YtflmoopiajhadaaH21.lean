/- ArePair: both texts, the law. -/
import Derived.Test.YtflmoopiajhadaaH22
namespace Go.Proofs.Ytflmoopiajhadaa
open Go Go.RowKit

theorem pairingF_0 {p n : Int} {f g h : List Int} (e : pairingF p n f g h = 0) : inRingB p n f = true ∧ modB p g = true ∧ modB p h = true ∧ monicB f = true := by
  unfold pairingF at e
  split at e
  · rename_i h1
    split at e
    · rename_i h2; exact ⟨h1.1, h1.2.1, h1.2.2, h2⟩
    · omega
  · omega
def arePairF (p n : Int) (f g h : List Int) : Bool × Int := if pairingF p n f g h = 0 then (isPairB p f g h, 0) else (false, pairingF p n f g h)
set_option maxHeartbeats 2000000 in
theorem i_ArePair (p n : Int) (r1 r2 r3 : Value) (f g h : List Int) (w : World) (h1 : rdI w r1 f) (h2 : rdI w r2 g) (h3 : rdI w r3 h) :
    Calls Try.prog 8 #[(.agg #[.int .i64 p, .int .i64 n]), r1, r2, r3] w fun e w' => e = .returned (.tuple #[.bool (arePairF p n f g h).1, .int .i64 (arePairF p n f g h).2]) ∧ Below w.heap.size w w' := by
  by_cases h0 : pairingF p n f g h = 0
  · have e : (arePairF p n f g h) = (isPairB p f g h, 0) := by unfold arePairF; rw [if_pos h0]
    rw [e]; clear e
    obtain ⟨q1, q2, q3, _⟩ := pairingF_0 h0
    have hl : f.length ≤ 1000000 := by have := (inRing_facts q1).2.1; omega
    have Q2 := hid q2
    have Q3 := hid q3
    clear q1 q2 q3
    go_enter Try.func8, Try.ntmps8
    go_wp2_with (first | (go_at_call 14; refine via (i_pairing _ _ _ _ _ f g h _ (by repeat (with_reducible first | assumption | apply rdI.aft | apply rdI.alloc | apply rdI.drew | apply rdI.drewN)) (by repeat (with_reducible first | assumption | apply rdI.aft | apply rdI.alloc | apply rdI.drew | apply rdI.drewN)) (by repeat (with_reducible first | assumption | apply rdI.aft | apply rdI.alloc | apply rdI.drew | apply rdI.drewN))) ?_; intro uu zz; try simp at zz) | (go_at_call 15; refine via (i_isPair _ _ _ _ _ f g h _ (by repeat (with_reducible first | assumption | apply rdI.aft | apply rdI.alloc | apply rdI.drew | apply rdI.drewN)) (by repeat (with_reducible first | assumption | apply rdI.aft | apply rdI.alloc | apply rdI.drew | apply rdI.drewN)) (by repeat (with_reducible first | assumption | apply rdI.aft | apply rdI.alloc | apply rdI.drew | apply rdI.drewN)) hl Q2.out Q3.out) ?_; intro uu zz; try simp at zz))
    go_ret2
    exact ⟨rfl, (by refine Ext.bel ?_; repeat (with_reducible first | exact Ext.refl _ | apply Ext.alloc | apply Ext.aft | apply Ext.drew | apply Ext.drewN | apply Ext.setCell | exact Nat.le_add_right _ _ | exact Nat.le_refl _ | (simp; done) | omega))⟩
  · have e : (arePairF p n f g h) = (false, pairingF p n f g h) := by unfold arePairF; rw [if_neg h0]
    rw [e]; clear e
    have h0' : (pairingF p n f g h != 0) = true := by simpa using h0
    clear h0
    go_enter Try.func8, Try.ntmps8
    go_wp2_with (first | (go_at_call 14; refine via (i_pairing _ _ _ _ _ f g h _ (by repeat (with_reducible first | assumption | apply rdI.aft | apply rdI.alloc | apply rdI.drew | apply rdI.drewN)) (by repeat (with_reducible first | assumption | apply rdI.aft | apply rdI.alloc | apply rdI.drew | apply rdI.drewN)) (by repeat (with_reducible first | assumption | apply rdI.aft | apply rdI.alloc | apply rdI.drew | apply rdI.drewN))) ?_; intro uu zz; try simp at zz))
    go_ret2
    exact ⟨rfl, (by refine Ext.bel ?_; repeat (with_reducible first | exact Ext.refl _ | apply Ext.alloc | apply Ext.aft | apply Ext.drew | apply Ext.drewN | apply Ext.setCell | exact Nat.le_add_right _ _ | exact Nat.le_refl _ | (simp; done) | omega))⟩
set_option maxHeartbeats 2000000 in
theorem s_ArePair (p n : Int) (r1 r2 r3 : Value) (f g h : List Int) (w : World) (h1 : rdI w r1 f) (h2 : rdI w r2 g) (h3 : rdI w r3 h) :
    Calls Try.prog 9 #[(.agg #[.int .i64 p, .int .i64 n]), r1, r2, r3] w fun e w' => e = .returned (.tuple #[.bool (arePairF p n f g h).1, .int .i64 (arePairF p n f g h).2]) ∧ Below w.heap.size w w' := by
  by_cases h0 : pairingF p n f g h = 0
  · have e : (arePairF p n f g h) = (isPairB p f g h, 0) := by unfold arePairF; rw [if_pos h0]
    rw [e]; clear e
    obtain ⟨q1, q2, q3, _⟩ := pairingF_0 h0
    have hl : f.length ≤ 1000000 := by have := (inRing_facts q1).2.1; omega
    have Q2 := hid q2
    have Q3 := hid q3
    clear q1 q2 q3
    go_enter Try.func9, Try.ntmps9
    go_wp2_with (first | (go_at_call 18; refine via (s_pairing _ _ _ _ _ f g h _ (by repeat (with_reducible first | assumption | apply rdI.aft | apply rdI.alloc | apply rdI.drew | apply rdI.drewN)) (by repeat (with_reducible first | assumption | apply rdI.aft | apply rdI.alloc | apply rdI.drew | apply rdI.drewN)) (by repeat (with_reducible first | assumption | apply rdI.aft | apply rdI.alloc | apply rdI.drew | apply rdI.drewN))) ?_; intro uu zz; try simp at zz) | (go_at_call 19; refine via (s_isPair _ _ _ _ _ f g h _ (by repeat (with_reducible first | assumption | apply rdI.aft | apply rdI.alloc | apply rdI.drew | apply rdI.drewN)) (by repeat (with_reducible first | assumption | apply rdI.aft | apply rdI.alloc | apply rdI.drew | apply rdI.drewN)) (by repeat (with_reducible first | assumption | apply rdI.aft | apply rdI.alloc | apply rdI.drew | apply rdI.drewN)) hl Q2.out Q3.out) ?_; intro uu zz; try simp at zz))
    go_ret2
    exact ⟨rfl, (by refine Ext.bel ?_; repeat (with_reducible first | exact Ext.refl _ | apply Ext.alloc | apply Ext.aft | apply Ext.drew | apply Ext.drewN | apply Ext.setCell | exact Nat.le_add_right _ _ | exact Nat.le_refl _ | (simp; done) | omega))⟩
  · have e : (arePairF p n f g h) = (false, pairingF p n f g h) := by unfold arePairF; rw [if_neg h0]
    rw [e]; clear e
    have h0' : (pairingF p n f g h != 0) = true := by simpa using h0
    clear h0
    go_enter Try.func9, Try.ntmps9
    go_wp2_with (first | (go_at_call 18; refine via (s_pairing _ _ _ _ _ f g h _ (by repeat (with_reducible first | assumption | apply rdI.aft | apply rdI.alloc | apply rdI.drew | apply rdI.drewN)) (by repeat (with_reducible first | assumption | apply rdI.aft | apply rdI.alloc | apply rdI.drew | apply rdI.drewN)) (by repeat (with_reducible first | assumption | apply rdI.aft | apply rdI.alloc | apply rdI.drew | apply rdI.drewN))) ?_; intro uu zz; try simp at zz))
    go_ret2
    exact ⟨rfl, (by refine Ext.bel ?_; repeat (with_reducible first | exact Ext.refl _ | apply Ext.alloc | apply Ext.aft | apply Ext.drew | apply Ext.drewN | apply Ext.setCell | exact Nat.le_add_right _ _ | exact Nat.le_refl _ | (simp; done) | omega))⟩

end Go.Proofs.Ytflmoopiajhadaa
