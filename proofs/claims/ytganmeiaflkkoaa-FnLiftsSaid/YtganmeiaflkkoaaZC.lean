/- LiftRoot, SimpleRoots: both texts. -/
import Derived.Test.YtganmeiaflkkoaaZB
import Derived.Test.YtganmeiaflkkoaaMA
namespace Go.Proofs.Ytganmeiaflkkoaa
open Go Go.RowKit

set_option maxRecDepth 20000 in
set_option maxHeartbeats 4000000 in
theorem i_LiftRoot (p n a : Int) (r : Value) (xs : List Int) (w : World) (h : rdI w r xs) :
    Calls Try.prog 23 #[(.agg #[.int .i64 p, .int .i64 n]), r, .int .i64 a] w fun e w' => e = .returned (.tuple #[.int .i64 (liftRF p n xs a).1, .int .i64 (liftRF p n xs a).2]) ∧ Below w.heap.size w w' := by
  have H := hid h
  cases h1 : ringB p n
  · have e : (liftRF p n xs a) = (0, 1) := by simp [liftRF, h1]
    rw [e]; clear e
    go_enter Try.func23, Try.ntmps23
    go_wp2_with (first | (go_at_call 51; refine via (i_IsRing _ _ _) ?_; intro uu zz; try simp at zz))
    go_ret2
    exact ⟨rfl, (by refine Ext.bel ?_; repeat (with_reducible first | exact Ext.refl _ | apply Ext.alloc | apply Ext.aft | apply Ext.drew | apply Ext.drewN | apply Ext.setCell | exact Nat.le_add_right _ _ | exact Nat.le_refl _ | (simp; done) | omega))⟩
  cases h2 : polyB xs
  · have e : (liftRF p n xs a) = (0, 1) := by simp [liftRF, h2]
    rw [e]; clear e
    go_enter Try.func23, Try.ntmps23
    go_wp2_with (first | (go_at_call 51; refine via (i_IsRing _ _ _) ?_; intro uu zz; try simp at zz) | (go_at_call 52; refine via (i_IsPolynomial _ xs _ (by repeat (with_reducible first | assumption | apply rdI.aft | apply rdI.alloc | apply rdI.drew | apply rdI.drewN))) ?_; intro uu zz; try simp at zz) | (go_at_call 52; refine pur (i_IsPolynomial _ xs _ (by repeat (with_reducible first | assumption | apply rdI.aft | apply rdI.alloc | apply rdI.drew | apply rdI.drewN))) ?_))
    go_ret2
    exact ⟨rfl, (by refine Ext.bel ?_; repeat (with_reducible first | exact Ext.refl _ | apply Ext.alloc | apply Ext.aft | apply Ext.drew | apply Ext.drewN | apply Ext.setCell | exact Nat.le_add_right _ _ | exact Nat.le_refl _ | (simp; done) | omega))⟩
  obtain ⟨r1, r2, r3, r4, _, _, _⟩ := ring_facts2 h1
  cases h3 : inB a 0 (p - 1)
  · have e : (liftRF p n xs a) = (0, 2) := by simp [liftRF, h1, h2, h3]
    rw [e]; clear e
    go_enter Try.func23, Try.ntmps23
    go_wp2_with (first | (go_at_call 51; refine via (i_IsRing _ _ _) ?_; intro uu zz; try simp at zz) | (go_at_call 52; refine via (i_IsPolynomial _ xs _ (by repeat (with_reducible first | assumption | apply rdI.aft | apply rdI.alloc | apply rdI.drew | apply rdI.drewN))) ?_; intro uu zz; try simp at zz) | (go_at_call 52; refine pur (i_IsPolynomial _ xs _ (by repeat (with_reducible first | assumption | apply rdI.aft | apply rdI.alloc | apply rdI.drew | apply rdI.drewN))) ?_) | (go_at_call 61; refine pur (i_within _ _ _ _) ?_))
    go_ret2
    exact ⟨rfl, (by refine Ext.bel ?_; repeat (with_reducible first | exact Ext.refl _ | apply Ext.alloc | apply Ext.aft | apply Ext.drew | apply Ext.drewN | apply Ext.setCell | exact Nat.le_add_right _ _ | exact Nat.le_refl _ | (simp; done) | omega))⟩
  have ha := inB_iff.1 h3
  have HR := hid h1
  have HPO := hid h2
  have HA := hid ha
  cases h4 : simpB p xs a
  · have e : (liftRF p n xs a) = (0, 5) := by simp [liftRF, h1, h2, h3, h4]
    rw [e]; clear e
    have HS := hid h4
    have hneg : ¬ (simpB p xs a = true) := by rw [h4]; simp
    have HNG := hid hneg
    clear h4 hneg
    go_enter Try.func23, Try.ntmps23
    go_wp2_with (first | (go_at_call 51; refine via (i_IsRing _ _ _) ?_; intro uu zz; try simp at zz) | (go_at_call 52; refine via (i_IsPolynomial _ xs _ (by repeat (with_reducible first | assumption | apply rdI.aft | apply rdI.alloc | apply rdI.drew | apply rdI.drewN))) ?_; intro uu zz; try simp at zz) | (go_at_call 52; refine pur (i_IsPolynomial _ xs _ (by repeat (with_reducible first | assumption | apply rdI.aft | apply rdI.alloc | apply rdI.drew | apply rdI.drewN))) ?_) | (go_at_call 61; refine pur (i_within _ _ _ _) ?_) | (go_at_call 62; refine via (i_lift _ _ _ _ xs _ (by repeat (with_reducible first | exact H.out | apply rdI.aft | apply rdI.alloc)) HR.out HPO.out HA.out) ?_; rw [if_neg HNG.out]; intro uu zz; try simp at zz) | (go_at_call 63; refine via (s_simple _ _ _ xs _ (by repeat (with_reducible first | exact H.out | apply rdI.aft | apply rdI.alloc)) (by omega) HPO.out HA.out) ?_; rw [HS.out]; intro uu zz; try simp at zz))
    go_ret2
    exact ⟨rfl, (by refine Ext.bel ?_; repeat (with_reducible first | exact Ext.refl _ | apply Ext.alloc | apply Ext.aft | apply Ext.drew | apply Ext.drewN | apply Ext.setCell | exact Nat.le_add_right _ _ | exact Nat.le_refl _ | (simp; done) | omega))⟩
  · have e : (liftRF p n xs a) = (lifF p n xs a, 0) := by simp [liftRF, h1, h2, h3, h4]
    rw [e]; clear e
    have HS := hid h4
    obtain ⟨y, hy⟩ : ∃ y, y = lifF p n xs a := ⟨_, rfl⟩
    have HY := hid hy.symm
    rw [← hy]
    clear h4 hy
    go_enter Try.func23, Try.ntmps23
    go_wp2_with (first | (go_at_call 51; refine via (i_IsRing _ _ _) ?_; intro uu zz; try simp at zz) | (go_at_call 52; refine via (i_IsPolynomial _ xs _ (by repeat (with_reducible first | assumption | apply rdI.aft | apply rdI.alloc | apply rdI.drew | apply rdI.drewN))) ?_; intro uu zz; try simp at zz) | (go_at_call 52; refine pur (i_IsPolynomial _ xs _ (by repeat (with_reducible first | assumption | apply rdI.aft | apply rdI.alloc | apply rdI.drew | apply rdI.drewN))) ?_) | (go_at_call 61; refine pur (i_within _ _ _ _) ?_) | (go_at_call 62; refine via (i_lift _ _ _ _ xs _ (by repeat (with_reducible first | exact H.out | apply rdI.aft | apply rdI.alloc)) HR.out HPO.out HA.out) ?_; rw [if_pos HS.out, HY.out]; intro uu zz; try simp at zz) | (go_at_call 63; refine via (s_simple _ _ _ xs _ (by repeat (with_reducible first | exact H.out | apply rdI.aft | apply rdI.alloc)) (by omega) HPO.out HA.out) ?_; rw [HS.out]; intro uu zz; try simp at zz) | (go_at_call 64; refine via (s_lift _ _ _ _ xs _ (by repeat (with_reducible first | exact H.out | apply rdI.aft | apply rdI.alloc)) HR.out HPO.out HA.out HS.out) ?_; rw [HY.out]; intro uu zz; try simp at zz))
    go_ret2
    exact ⟨rfl, (by refine Ext.bel ?_; repeat (with_reducible first | exact Ext.refl _ | apply Ext.alloc | apply Ext.aft | apply Ext.drew | apply Ext.drewN | apply Ext.setCell | exact Nat.le_add_right _ _ | exact Nat.le_refl _ | (simp; done) | omega))⟩
set_option maxRecDepth 20000 in
set_option maxHeartbeats 4000000 in
theorem s_LiftRoot (p n a : Int) (r : Value) (xs : List Int) (w : World) (h : rdI w r xs) :
    Calls Try.prog 24 #[(.agg #[.int .i64 p, .int .i64 n]), r, .int .i64 a] w fun e w' => e = .returned (.tuple #[.int .i64 (liftRF p n xs a).1, .int .i64 (liftRF p n xs a).2]) ∧ Below w.heap.size w w' := by
  have H := hid h
  cases h1 : ringB p n
  · have e : (liftRF p n xs a) = (0, 1) := by simp [liftRF, h1]
    rw [e]; clear e
    go_enter Try.func24, Try.ntmps24
    go_wp2_with (first | (go_at_call 43; refine via (s_IsRing _ _ _) ?_; intro uu zz; try simp at zz))
    go_ret2
    exact ⟨rfl, (by refine Ext.bel ?_; repeat (with_reducible first | exact Ext.refl _ | apply Ext.alloc | apply Ext.aft | apply Ext.drew | apply Ext.drewN | apply Ext.setCell | exact Nat.le_add_right _ _ | exact Nat.le_refl _ | (simp; done) | omega))⟩
  cases h2 : polyB xs
  · have e : (liftRF p n xs a) = (0, 1) := by simp [liftRF, h2]
    rw [e]; clear e
    go_enter Try.func24, Try.ntmps24
    go_wp2_with (first | (go_at_call 43; refine via (s_IsRing _ _ _) ?_; intro uu zz; try simp at zz) | (go_at_call 53; refine via (s_IsPolynomial _ xs _ (by repeat (with_reducible first | assumption | apply rdI.aft | apply rdI.alloc | apply rdI.drew | apply rdI.drewN))) ?_; intro uu zz; try simp at zz) | (go_at_call 53; refine pur (s_IsPolynomial _ xs _ (by repeat (with_reducible first | assumption | apply rdI.aft | apply rdI.alloc | apply rdI.drew | apply rdI.drewN))) ?_))
    go_ret2
    exact ⟨rfl, (by refine Ext.bel ?_; repeat (with_reducible first | exact Ext.refl _ | apply Ext.alloc | apply Ext.aft | apply Ext.drew | apply Ext.drewN | apply Ext.setCell | exact Nat.le_add_right _ _ | exact Nat.le_refl _ | (simp; done) | omega))⟩
  obtain ⟨r1, r2, r3, r4, _, _, _⟩ := ring_facts2 h1
  cases h3 : inB a 0 (p - 1)
  · have e : (liftRF p n xs a) = (0, 2) := by simp [liftRF, h1, h2, h3]
    rw [e]; clear e
    go_enter Try.func24, Try.ntmps24
    go_wp2_with (first | (go_at_call 43; refine via (s_IsRing _ _ _) ?_; intro uu zz; try simp at zz) | (go_at_call 53; refine via (s_IsPolynomial _ xs _ (by repeat (with_reducible first | assumption | apply rdI.aft | apply rdI.alloc | apply rdI.drew | apply rdI.drewN))) ?_; intro uu zz; try simp at zz) | (go_at_call 53; refine pur (s_IsPolynomial _ xs _ (by repeat (with_reducible first | assumption | apply rdI.aft | apply rdI.alloc | apply rdI.drew | apply rdI.drewN))) ?_) | (go_at_call 57; refine pur (s_in _ _ _ _) ?_))
    go_ret2
    exact ⟨rfl, (by refine Ext.bel ?_; repeat (with_reducible first | exact Ext.refl _ | apply Ext.alloc | apply Ext.aft | apply Ext.drew | apply Ext.drewN | apply Ext.setCell | exact Nat.le_add_right _ _ | exact Nat.le_refl _ | (simp; done) | omega))⟩
  have ha := inB_iff.1 h3
  have HR := hid h1
  have HPO := hid h2
  have HA := hid ha
  cases h4 : simpB p xs a
  · have e : (liftRF p n xs a) = (0, 5) := by simp [liftRF, h1, h2, h3, h4]
    rw [e]; clear e
    have HS := hid h4
    have hneg : ¬ (simpB p xs a = true) := by rw [h4]; simp
    have HNG := hid hneg
    clear h4 hneg
    go_enter Try.func24, Try.ntmps24
    go_wp2_with (first | (go_at_call 43; refine via (s_IsRing _ _ _) ?_; intro uu zz; try simp at zz) | (go_at_call 53; refine via (s_IsPolynomial _ xs _ (by repeat (with_reducible first | assumption | apply rdI.aft | apply rdI.alloc | apply rdI.drew | apply rdI.drewN))) ?_; intro uu zz; try simp at zz) | (go_at_call 53; refine pur (s_IsPolynomial _ xs _ (by repeat (with_reducible first | assumption | apply rdI.aft | apply rdI.alloc | apply rdI.drew | apply rdI.drewN))) ?_) | (go_at_call 57; refine pur (s_in _ _ _ _) ?_) | (go_at_call 62; refine via (i_lift _ _ _ _ xs _ (by repeat (with_reducible first | exact H.out | apply rdI.aft | apply rdI.alloc)) HR.out HPO.out HA.out) ?_; rw [if_neg HNG.out]; intro uu zz; try simp at zz) | (go_at_call 63; refine via (s_simple _ _ _ xs _ (by repeat (with_reducible first | exact H.out | apply rdI.aft | apply rdI.alloc)) (by omega) HPO.out HA.out) ?_; rw [HS.out]; intro uu zz; try simp at zz))
    go_ret2
    exact ⟨rfl, (by refine Ext.bel ?_; repeat (with_reducible first | exact Ext.refl _ | apply Ext.alloc | apply Ext.aft | apply Ext.drew | apply Ext.drewN | apply Ext.setCell | exact Nat.le_add_right _ _ | exact Nat.le_refl _ | (simp; done) | omega))⟩
  · have e : (liftRF p n xs a) = (lifF p n xs a, 0) := by simp [liftRF, h1, h2, h3, h4]
    rw [e]; clear e
    have HS := hid h4
    obtain ⟨y, hy⟩ : ∃ y, y = lifF p n xs a := ⟨_, rfl⟩
    have HY := hid hy.symm
    rw [← hy]
    clear h4 hy
    go_enter Try.func24, Try.ntmps24
    go_wp2_with (first | (go_at_call 43; refine via (s_IsRing _ _ _) ?_; intro uu zz; try simp at zz) | (go_at_call 53; refine via (s_IsPolynomial _ xs _ (by repeat (with_reducible first | assumption | apply rdI.aft | apply rdI.alloc | apply rdI.drew | apply rdI.drewN))) ?_; intro uu zz; try simp at zz) | (go_at_call 53; refine pur (s_IsPolynomial _ xs _ (by repeat (with_reducible first | assumption | apply rdI.aft | apply rdI.alloc | apply rdI.drew | apply rdI.drewN))) ?_) | (go_at_call 57; refine pur (s_in _ _ _ _) ?_) | (go_at_call 62; refine via (i_lift _ _ _ _ xs _ (by repeat (with_reducible first | exact H.out | apply rdI.aft | apply rdI.alloc)) HR.out HPO.out HA.out) ?_; rw [if_pos HS.out, HY.out]; intro uu zz; try simp at zz) | (go_at_call 63; refine via (s_simple _ _ _ xs _ (by repeat (with_reducible first | exact H.out | apply rdI.aft | apply rdI.alloc)) (by omega) HPO.out HA.out) ?_; rw [HS.out]; intro uu zz; try simp at zz) | (go_at_call 64; refine via (s_lift _ _ _ _ xs _ (by repeat (with_reducible first | exact H.out | apply rdI.aft | apply rdI.alloc)) HR.out HPO.out HA.out HS.out) ?_; rw [HY.out]; intro uu zz; try simp at zz))
    go_ret2
    exact ⟨rfl, (by refine Ext.bel ?_; repeat (with_reducible first | exact Ext.refl _ | apply Ext.alloc | apply Ext.aft | apply Ext.drew | apply Ext.drewN | apply Ext.setCell | exact Nat.le_add_right _ _ | exact Nat.le_refl _ | (simp; done) | omega))⟩
end Go.Proofs.Ytganmeiaflkkoaa
