/- IsSquarePadic: both texts, the law. -/
import Derived.Test.YtdeehgcabnoclaaD1
import Derived.Test.YtdeehgcabnoclaaC1
namespace Go.Proofs.Ytdeehgcabnoclaa
open Go Go.RowKit

def isqF (p v u n : Int) : Bool × Int :=
  if padicB p v u n = true then (if n = 0 ∨ (p = 2 ∧ n < 3) then (false, 4) else (decide (v % 2 = 0) && sqrB p u, 0)) else (false, 1)

theorem tmod2 {v : Int} : (v.tmod 2 == 0) = decide (v % 2 = 0) := by
  by_cases h : v % 2 = 0
  · have : v.tmod 2 = 0 := tmod_zero_iff.2 h
    rw [this]; simp [h]
  · have : ¬ v.tmod 2 = 0 := fun h' => h (tmod_zero_iff.1 h')
    simp [this, h]

set_option maxHeartbeats 2000000 in
theorem i_IsSq (p v u n : Int) (w : World) :
    Calls Try.prog 9 #[(.agg #[.int .i64 p, .int .i64 v, .int .i64 u, .int .i64 n])] w fun e w' => e = .returned (.tuple #[.bool (isqF p v u n).1, .int .i64 (isqF p v u n).2]) ∧ Below w.heap.size w w' := by
  cases h : padicB p v u n
  · have e : isqF p v u n = (false, 1) := by simp [isqF, h]
    rw [e]; clear e
    go_enter Try.func9, Try.ntmps9
    go_wp2_with (go_at_call 17; refine via (i_IsPadic _ _ _ _ _) ?_; intro uu zz; try simp at zz)
    go_ret2
    exact ⟨rfl, (by refine Ext.bel ?_; repeat (with_reducible first | exact Ext.refl _ | apply Ext.alloc | apply Ext.aft | apply Ext.drew | apply Ext.drewN | apply Ext.setCell | exact Nat.le_add_right _ _ | exact Nat.le_refl _ | (simp; done) | omega))⟩
  have hp := smallP_bd (padicB_place h).1
  have hv := (padicB_place h).2
  have hvb := @tmod_bd v 2 (by omega)
  by_cases h0 : n = 0
  · have e : isqF p v u n = (false, 4) := by unfold isqF; rw [if_pos h, if_pos (.inl h0)]
    rw [e]; clear e
    have h0' : (n == 0) = true := by rw [beq_iff_eq]; exact h0
    clear h0
    go_enter Try.func9, Try.ntmps9
    go_wp2_with (first | (go_at_call 17; refine via (i_IsPadic _ _ _ _ _) ?_; intro uu zz; try simp at zz) | (go_at_call 31; refine via (i_isZero _ _ _ _ _) ?_; intro uu zz; try simp at zz))
    go_ret2
    exact ⟨rfl, (by refine Ext.bel ?_; repeat (with_reducible first | exact Ext.refl _ | apply Ext.alloc | apply Ext.aft | apply Ext.drew | apply Ext.drewN | apply Ext.setCell | exact Nat.le_add_right _ _ | exact Nat.le_refl _ | (simp; done) | omega))⟩
  have h0' : (n == 0) = false := by rw [beq_eq_false_iff_ne]; exact h0
  obtain ⟨hr, hu, hun⟩ := padic_unit h h0
  have hr2 := ringB_iff.1 hr
  have hub : -4000000000000000 ≤ u ∧ u ≤ 4000000000000000 := by omega
  have hu0 : u ≠ 0 := fun h => hun (by rw [h]; simp)
  have Hu := hid hu0
  have Hun := hid hun
  by_cases h2 : p = 2
  · have h2' : (p == 2) = true := by rw [beq_iff_eq]; exact h2
    by_cases h3 : n < 3
    · have e : isqF p v u n = (false, 4) := by unfold isqF; rw [if_pos h, if_pos (.inr ⟨h2, h3⟩)]
      rw [e]; clear e h0 h2 hr hun hu0 hr2 hu
      go_enter Try.func9, Try.ntmps9
      go_wp2_with (first | (go_at_call 17; refine via (i_IsPadic _ _ _ _ _) ?_; intro uu zz; try simp at zz) | (go_at_call 31; refine via (i_isZero _ _ _ _ _) ?_; intro uu zz; try simp at zz))
      go_ret2
      exact ⟨rfl, (by refine Ext.bel ?_; repeat (with_reducible first | exact Ext.refl _ | apply Ext.alloc | apply Ext.aft | apply Ext.drew | apply Ext.drewN | apply Ext.setCell | exact Nat.le_add_right _ _ | exact Nat.le_refl _ | (simp; done) | omega))⟩
    · have e : isqF p v u n = (decide (v % 2 = 0) && sqrB p u, 0) := by simp [isqF, h, h3, h0]
      rw [e, ← tmod2]; clear e h0 h2 hr hun hu0 hr2 hu
      have h3' : decide (n < 3) = false := by simpa using h3
      cases hv2 : (v.tmod 2 == 0)
      · go_enter Try.func9, Try.ntmps9
        go_wp2_with (first | (go_at_call 17; refine via (i_IsPadic _ _ _ _ _) ?_; intro uu zz; try simp at zz) | (go_at_call 31; refine via (i_isZero _ _ _ _ _) ?_; intro uu zz; try simp at zz))
        go_ret2
        exact ⟨rfl, (by refine Ext.bel ?_; repeat (with_reducible first | exact Ext.refl _ | apply Ext.alloc | apply Ext.aft | apply Ext.drew | apply Ext.drewN | apply Ext.setCell | exact Nat.le_add_right _ _ | exact Nat.le_refl _ | (simp; done) | omega))⟩
      · go_enter Try.func9, Try.ntmps9
        go_wp2_with (first | (go_at_call 17; refine via (i_IsPadic _ _ _ _ _) ?_; intro uu zz; try simp at zz) | (go_at_call 31; refine via (i_isZero _ _ _ _ _) ?_; intro uu zz; try simp at zz) | (go_at_call 32; refine pur (i_isSquareOf _ _ _ hp Hu.out hub) ?_) | (go_at_call 33; refine pur (s_16 _ _ _ hp Hun.out) ?_))
        go_ret2
        exact ⟨rfl, (by refine Ext.bel ?_; repeat (with_reducible first | exact Ext.refl _ | apply Ext.alloc | apply Ext.aft | apply Ext.drew | apply Ext.drewN | apply Ext.setCell | exact Nat.le_add_right _ _ | exact Nat.le_refl _ | (simp; done) | omega))⟩
  · have h2' : (p == 2) = false := by rw [beq_eq_false_iff_ne]; exact h2
    have e : isqF p v u n = (decide (v % 2 = 0) && sqrB p u, 0) := by simp [isqF, h, h2, h0]
    rw [e, ← tmod2]; clear e h0 h2 hr hun hu0 hr2 hu
    cases hv2 : (v.tmod 2 == 0)
    · go_enter Try.func9, Try.ntmps9
      go_wp2_with (first | (go_at_call 17; refine via (i_IsPadic _ _ _ _ _) ?_; intro uu zz; try simp at zz) | (go_at_call 31; refine via (i_isZero _ _ _ _ _) ?_; intro uu zz; try simp at zz))
      go_ret2
      exact ⟨rfl, (by refine Ext.bel ?_; repeat (with_reducible first | exact Ext.refl _ | apply Ext.alloc | apply Ext.aft | apply Ext.drew | apply Ext.drewN | apply Ext.setCell | exact Nat.le_add_right _ _ | exact Nat.le_refl _ | (simp; done) | omega))⟩
    · go_enter Try.func9, Try.ntmps9
      go_wp2_with (first | (go_at_call 17; refine via (i_IsPadic _ _ _ _ _) ?_; intro uu zz; try simp at zz) | (go_at_call 31; refine via (i_isZero _ _ _ _ _) ?_; intro uu zz; try simp at zz) | (go_at_call 32; refine pur (i_isSquareOf _ _ _ hp Hu.out hub) ?_) | (go_at_call 33; refine pur (s_16 _ _ _ hp Hun.out) ?_))
      go_ret2
      exact ⟨rfl, (by refine Ext.bel ?_; repeat (with_reducible first | exact Ext.refl _ | apply Ext.alloc | apply Ext.aft | apply Ext.drew | apply Ext.drewN | apply Ext.setCell | exact Nat.le_add_right _ _ | exact Nat.le_refl _ | (simp; done) | omega))⟩
set_option maxHeartbeats 2000000 in
theorem s_IsSq (p v u n : Int) (w : World) :
    Calls Try.prog 10 #[(.agg #[.int .i64 p, .int .i64 v, .int .i64 u, .int .i64 n])] w fun e w' => e = .returned (.tuple #[.bool (isqF p v u n).1, .int .i64 (isqF p v u n).2]) ∧ Below w.heap.size w w' := by
  cases h : padicB p v u n
  · have e : isqF p v u n = (false, 1) := by simp [isqF, h]
    rw [e]; clear e
    go_enter Try.func10, Try.ntmps10
    go_wp2_with (go_at_call 29; refine via (s_IsPadic _ _ _ _ _) ?_; intro uu zz; try simp at zz)
    go_ret2
    exact ⟨rfl, (by refine Ext.bel ?_; repeat (with_reducible first | exact Ext.refl _ | apply Ext.alloc | apply Ext.aft | apply Ext.drew | apply Ext.drewN | apply Ext.setCell | exact Nat.le_add_right _ _ | exact Nat.le_refl _ | (simp; done) | omega))⟩
  have hp := smallP_bd (padicB_place h).1
  have hv := (padicB_place h).2
  have hvb := @tmod_bd v 2 (by omega)
  by_cases h0 : n = 0
  · have e : isqF p v u n = (false, 4) := by unfold isqF; rw [if_pos h, if_pos (.inl h0)]
    rw [e]; clear e
    have h0' : (n == 0) = true := by rw [beq_iff_eq]; exact h0
    clear h0
    go_enter Try.func10, Try.ntmps10
    go_wp2_with (first | (go_at_call 29; refine via (s_IsPadic _ _ _ _ _) ?_; intro uu zz; try simp at zz) | (go_at_call 31; refine via (i_isZero _ _ _ _ _) ?_; intro uu zz; try simp at zz))
    go_ret2
    exact ⟨rfl, (by refine Ext.bel ?_; repeat (with_reducible first | exact Ext.refl _ | apply Ext.alloc | apply Ext.aft | apply Ext.drew | apply Ext.drewN | apply Ext.setCell | exact Nat.le_add_right _ _ | exact Nat.le_refl _ | (simp; done) | omega))⟩
  have h0' : (n == 0) = false := by rw [beq_eq_false_iff_ne]; exact h0
  obtain ⟨hr, hu, hun⟩ := padic_unit h h0
  have hr2 := ringB_iff.1 hr
  have hub : -4000000000000000 ≤ u ∧ u ≤ 4000000000000000 := by omega
  have hu0 : u ≠ 0 := fun h => hun (by rw [h]; simp)
  have Hu := hid hu0
  have Hun := hid hun
  by_cases h2 : p = 2
  · have h2' : (p == 2) = true := by rw [beq_iff_eq]; exact h2
    by_cases h3 : n < 3
    · have e : isqF p v u n = (false, 4) := by unfold isqF; rw [if_pos h, if_pos (.inr ⟨h2, h3⟩)]
      rw [e]; clear e h0 h2 hr hun hu0 hr2 hu
      go_enter Try.func10, Try.ntmps10
      go_wp2_with (first | (go_at_call 29; refine via (s_IsPadic _ _ _ _ _) ?_; intro uu zz; try simp at zz) | (go_at_call 31; refine via (i_isZero _ _ _ _ _) ?_; intro uu zz; try simp at zz))
      go_ret2
      exact ⟨rfl, (by refine Ext.bel ?_; repeat (with_reducible first | exact Ext.refl _ | apply Ext.alloc | apply Ext.aft | apply Ext.drew | apply Ext.drewN | apply Ext.setCell | exact Nat.le_add_right _ _ | exact Nat.le_refl _ | (simp; done) | omega))⟩
    · have e : isqF p v u n = (decide (v % 2 = 0) && sqrB p u, 0) := by simp [isqF, h, h3, h0]
      rw [e, ← tmod2]; clear e h0 h2 hr hun hu0 hr2 hu
      have h3' : decide (n < 3) = false := by simpa using h3
      cases hv2 : (v.tmod 2 == 0)
      · go_enter Try.func10, Try.ntmps10
        go_wp2_with (first | (go_at_call 29; refine via (s_IsPadic _ _ _ _ _) ?_; intro uu zz; try simp at zz) | (go_at_call 31; refine via (i_isZero _ _ _ _ _) ?_; intro uu zz; try simp at zz))
        go_ret2
        exact ⟨rfl, (by refine Ext.bel ?_; repeat (with_reducible first | exact Ext.refl _ | apply Ext.alloc | apply Ext.aft | apply Ext.drew | apply Ext.drewN | apply Ext.setCell | exact Nat.le_add_right _ _ | exact Nat.le_refl _ | (simp; done) | omega))⟩
      · go_enter Try.func10, Try.ntmps10
        go_wp2_with (first | (go_at_call 29; refine via (s_IsPadic _ _ _ _ _) ?_; intro uu zz; try simp at zz) | (go_at_call 31; refine via (i_isZero _ _ _ _ _) ?_; intro uu zz; try simp at zz) | (go_at_call 32; refine pur (i_isSquareOf _ _ _ hp Hu.out hub) ?_) | (go_at_call 33; refine pur (s_16 _ _ _ hp Hun.out) ?_))
        go_ret2
        exact ⟨rfl, (by refine Ext.bel ?_; repeat (with_reducible first | exact Ext.refl _ | apply Ext.alloc | apply Ext.aft | apply Ext.drew | apply Ext.drewN | apply Ext.setCell | exact Nat.le_add_right _ _ | exact Nat.le_refl _ | (simp; done) | omega))⟩
  · have h2' : (p == 2) = false := by rw [beq_eq_false_iff_ne]; exact h2
    have e : isqF p v u n = (decide (v % 2 = 0) && sqrB p u, 0) := by simp [isqF, h, h2, h0]
    rw [e, ← tmod2]; clear e h0 h2 hr hun hu0 hr2 hu
    cases hv2 : (v.tmod 2 == 0)
    · go_enter Try.func10, Try.ntmps10
      go_wp2_with (first | (go_at_call 29; refine via (s_IsPadic _ _ _ _ _) ?_; intro uu zz; try simp at zz) | (go_at_call 31; refine via (i_isZero _ _ _ _ _) ?_; intro uu zz; try simp at zz))
      go_ret2
      exact ⟨rfl, (by refine Ext.bel ?_; repeat (with_reducible first | exact Ext.refl _ | apply Ext.alloc | apply Ext.aft | apply Ext.drew | apply Ext.drewN | apply Ext.setCell | exact Nat.le_add_right _ _ | exact Nat.le_refl _ | (simp; done) | omega))⟩
    · go_enter Try.func10, Try.ntmps10
      go_wp2_with (first | (go_at_call 29; refine via (s_IsPadic _ _ _ _ _) ?_; intro uu zz; try simp at zz) | (go_at_call 31; refine via (i_isZero _ _ _ _ _) ?_; intro uu zz; try simp at zz) | (go_at_call 32; refine pur (i_isSquareOf _ _ _ hp Hu.out hub) ?_) | (go_at_call 33; refine pur (s_16 _ _ _ hp Hun.out) ?_))
      go_ret2
      exact ⟨rfl, (by refine Ext.bel ?_; repeat (with_reducible first | exact Ext.refl _ | apply Ext.alloc | apply Ext.aft | apply Ext.drew | apply Ext.drewN | apply Ext.setCell | exact Nat.le_add_right _ _ | exact Nat.le_refl _ | (simp; done) | omega))⟩

end Go.Proofs.Ytdeehgcabnoclaa
