/- Two groups: both texts; IsSubgroup: both texts. -/
import Derived.Test.YtbkbcbanfnhjpaaP6
namespace Go.Proofs.Ytbkbcbanfnhjpaa
open Go Go.RowKit

def twoC (n : Int) (rs : List Int) (m : Int) (ss : List Int) : Int := if groupB n rs = true ∧ groupB m ss = true then (if n = m then 0 else 5) else 1
theorem two_zero {n m : Int} {rs ss : List Int} (h : twoC n rs m ss = 0) : groupB n rs = true ∧ groupB m ss = true ∧ n = m := by
  unfold twoC at h
  split at h
  · rename_i h1
    split at h
    · exact ⟨h1.1, h1.2, ‹_›⟩
    · omega
  · omega
set_option maxRecDepth 20000 in
set_option maxHeartbeats 4000000 in
theorem i_two (n m : Int) (r s : Value) (rs ss : List Int) (w : World) (c : Int) (h : rdI w r rs) (hl : rs.length ≤ 1048576) (h2 : rdI w s ss) (hl2 : ss.length ≤ 1048576) (hc : twoC n rs m ss = c) :
    Calls Try.prog 62 #[(.agg #[.int .i64 n, r]), (.agg #[.int .i64 m, s])] w fun e w' => e = .returned (.int .i64 c) ∧ Below w.heap.size w w' := by
  subst hc
  have hR := (h.alloc (Obj.cells #[.int .i64 n, r] 26)).alloc (Obj.cells #[.int .i64 m, s] 26)
  have hS := (h2.alloc (Obj.cells #[.int .i64 n, r] 26)).alloc (Obj.cells #[.int .i64 m, s] 26)
  cases hg : groupB n rs
  · have e : twoC n rs m ss = 1 := by simp [twoC, hg]
    rw [e]; clear e
    go_enter Try.func62, Try.ntmps62
    go_wp2_with (first | (go_at_call 43; refine via (i_IsGroupE _ _ rs _ false hR hl hg) ?_; intro uu zz; try simp at zz))
    go_ret
    exact ⟨rfl, (by refine Ext.bel ?_; repeat (with_reducible first | exact Ext.refl _ | apply Ext.alloc | apply Ext.aft | apply Ext.drew | apply Ext.drewN | apply Ext.setCell | exact Nat.le_add_right _ _ | exact Nat.le_refl _ | (simp; done) | omega))⟩
  have HG := hid hg
  cases hp : groupB m ss
  · have e : twoC n rs m ss = 1 := by simp [twoC, hp]
    rw [e]; clear e
    have HP := hid hp
    clear hg hp
    go_enter Try.func62, Try.ntmps62
    go_wp2_with (first | (go_at_call 43; refine via (i_IsGroupE _ _ rs _ true hR hl HG.out) ?_; intro uu zz; try simp at zz) | (go_at_call 43; refine via (i_IsGroupE _ _ ss _ false (hS.aft _) hl2 HP.out) ?_; intro uu zz; try simp at zz))
    go_ret
    exact ⟨rfl, (by refine Ext.bel ?_; repeat (with_reducible first | exact Ext.refl _ | apply Ext.alloc | apply Ext.aft | apply Ext.drew | apply Ext.drewN | apply Ext.setCell | exact Nat.le_add_right _ _ | exact Nat.le_refl _ | (simp; done) | omega))⟩
  have HP := hid hp
  clear hg hp
  by_cases hn : n = m
  · have e : twoC n rs m ss = 0 := by unfold twoC; rw [if_pos ⟨HG.out, HP.out⟩, if_pos hn]
    rw [e]; clear e
    have hnn : (n != m) = false := by simpa using hn
    have HN := hid hn
    clear hn
    go_enter Try.func62, Try.ntmps62
    go_wp2_with fail
    refine via (i_IsGroupE _ _ rs _ true hR hl HG.out) ?_
    intro u1 z1; try simp at z1
    go_wp2_with fail
    refine via (i_IsGroupE _ _ ss _ true (hS.aft _) hl2 HP.out) ?_
    intro u2 z2; try simp at z2
    go_wp2_with fail
    go_ret
    exact ⟨rfl, (by refine Ext.bel ?_; repeat (with_reducible first | exact Ext.refl _ | apply Ext.alloc | apply Ext.aft | apply Ext.drew | apply Ext.drewN | apply Ext.setCell | exact Nat.le_add_right _ _ | exact Nat.le_refl _ | (simp; done) | omega))⟩
  · have e : twoC n rs m ss = 5 := by unfold twoC; rw [if_pos ⟨HG.out, HP.out⟩, if_neg hn]
    rw [e]; clear e
    have hnn : (n != m) = true := by simpa using hn
    have HN := hid hn
    clear hn
    go_enter Try.func62, Try.ntmps62
    go_wp2_with fail
    refine via (i_IsGroupE _ _ rs _ true hR hl HG.out) ?_
    intro u1 z1; try simp at z1
    go_wp2_with fail
    refine via (i_IsGroupE _ _ ss _ true (hS.aft _) hl2 HP.out) ?_
    intro u2 z2; try simp at z2
    go_wp2_with fail
    go_ret
    exact ⟨rfl, (by refine Ext.bel ?_; repeat (with_reducible first | exact Ext.refl _ | apply Ext.alloc | apply Ext.aft | apply Ext.drew | apply Ext.drewN | apply Ext.setCell | exact Nat.le_add_right _ _ | exact Nat.le_refl _ | (simp; done) | omega))⟩
set_option maxRecDepth 20000 in
set_option maxHeartbeats 4000000 in
theorem s_two (n m : Int) (r s : Value) (rs ss : List Int) (w : World) (c : Int) (h : rdI w r rs) (hl : rs.length ≤ 1048576) (h2 : rdI w s ss) (hl2 : ss.length ≤ 1048576) (hc : twoC n rs m ss = c) :
    Calls Try.prog 64 #[(.agg #[.int .i64 n, r]), (.agg #[.int .i64 m, s])] w fun e w' => e = .returned (.int .i64 c) ∧ Below w.heap.size w w' := by
  subst hc
  have hR := (h.alloc (Obj.cells #[.int .i64 n, r] 26)).alloc (Obj.cells #[.int .i64 m, s] 26)
  have hS := (h2.alloc (Obj.cells #[.int .i64 n, r] 26)).alloc (Obj.cells #[.int .i64 m, s] 26)
  cases hg : groupB n rs
  · have e : twoC n rs m ss = 1 := by simp [twoC, hg]
    rw [e]; clear e
    go_enter Try.func64, Try.ntmps64
    go_wp2_with (first | (go_at_call 57; refine via (s_IsGroupE _ _ rs _ false hR hl hg) ?_; intro uu zz; try simp at zz))
    go_ret
    exact ⟨rfl, (by refine Ext.bel ?_; repeat (with_reducible first | exact Ext.refl _ | apply Ext.alloc | apply Ext.aft | apply Ext.drew | apply Ext.drewN | apply Ext.setCell | exact Nat.le_add_right _ _ | exact Nat.le_refl _ | (simp; done) | omega))⟩
  have HG := hid hg
  cases hp : groupB m ss
  · have e : twoC n rs m ss = 1 := by simp [twoC, hp]
    rw [e]; clear e
    have HP := hid hp
    clear hg hp
    go_enter Try.func64, Try.ntmps64
    go_wp2_with (first | (go_at_call 57; refine via (s_IsGroupE _ _ rs _ true hR hl HG.out) ?_; intro uu zz; try simp at zz) | (go_at_call 57; refine via (s_IsGroupE _ _ ss _ false (hS.aft _) hl2 HP.out) ?_; intro uu zz; try simp at zz))
    go_ret
    exact ⟨rfl, (by refine Ext.bel ?_; repeat (with_reducible first | exact Ext.refl _ | apply Ext.alloc | apply Ext.aft | apply Ext.drew | apply Ext.drewN | apply Ext.setCell | exact Nat.le_add_right _ _ | exact Nat.le_refl _ | (simp; done) | omega))⟩
  have HP := hid hp
  clear hg hp
  by_cases hn : n = m
  · have e : twoC n rs m ss = 0 := by unfold twoC; rw [if_pos ⟨HG.out, HP.out⟩, if_pos hn]
    rw [e]; clear e
    have hnn : (n != m) = false := by simpa using hn
    have HN := hid hn
    clear hn
    go_enter Try.func64, Try.ntmps64
    go_wp2_with fail
    refine via (s_IsGroupE _ _ rs _ true hR hl HG.out) ?_
    intro u1 z1; try simp at z1
    go_wp2_with fail
    refine via (s_IsGroupE _ _ ss _ true (hS.aft _) hl2 HP.out) ?_
    intro u2 z2; try simp at z2
    go_wp2_with fail
    go_ret
    exact ⟨rfl, (by refine Ext.bel ?_; repeat (with_reducible first | exact Ext.refl _ | apply Ext.alloc | apply Ext.aft | apply Ext.drew | apply Ext.drewN | apply Ext.setCell | exact Nat.le_add_right _ _ | exact Nat.le_refl _ | (simp; done) | omega))⟩
  · have e : twoC n rs m ss = 5 := by unfold twoC; rw [if_pos ⟨HG.out, HP.out⟩, if_neg hn]
    rw [e]; clear e
    have hnn : (n != m) = true := by simpa using hn
    have HN := hid hn
    clear hn
    go_enter Try.func64, Try.ntmps64
    go_wp2_with fail
    refine via (s_IsGroupE _ _ rs _ true hR hl HG.out) ?_
    intro u1 z1; try simp at z1
    go_wp2_with fail
    refine via (s_IsGroupE _ _ ss _ true (hS.aft _) hl2 HP.out) ?_
    intro u2 z2; try simp at z2
    go_wp2_with fail
    go_ret
    exact ⟨rfl, (by refine Ext.bel ?_; repeat (with_reducible first | exact Ext.refl _ | apply Ext.alloc | apply Ext.aft | apply Ext.drew | apply Ext.drewN | apply Ext.setCell | exact Nat.le_add_right _ _ | exact Nat.le_refl _ | (simp; done) | omega))⟩
end Go.Proofs.Ytbkbcbanfnhjpaa
