/- OrbitOf: both texts; marks in groups. -/
import Derived.Test.YteolkmgdnbdccaaO4
import Derived.Test.YteolkmgdnbdccaaO6m
namespace Go.Proofs.Yteolkmgdnbdccaa
open Go Go.RowKit

def orbOf (n : Int) (rs : List Int) (p : Int) : List Int × Int := if groupB n rs = true then (if inB p 0 (n - 1) = true then (orbF n.toNat rs p.toNat, 0) else ([], 2)) else ([], 1)
theorem orbOf_len (n : Int) (rs : List Int) (p : Int) : (orbOf n rs p).1.length ≤ 1000 := by
  unfold orbOf
  split
  · rename_i h
    obtain ⟨m, rfl, _, hm6, _⟩ := group_facts h
    split
    · exact Nat.le_trans (listedU_len _ _) (by simp; omega)
    · simp
  · simp
set_option maxRecDepth 20000 in
set_option maxHeartbeats 4000000 in
theorem i_OrbitOf (n p : Int) (r : Value) (rs : List Int) (w : World) (h : rdI w r rs) (hl : rs.length ≤ 1048576) :
    Calls Try.prog 11 #[(.agg #[.int .i64 n, r]), .int .i64 p] w fun e w' => ∃ v, e = .returned (.tuple #[v, .int .i64 (orbOf n rs p).2]) ∧ ownR w.heap.size w' v (orbOf n rs p).1 ∧ Below w.heap.size w w' := by
  have hR := (h.alloc (Obj.cells #[.int .i64 n, r] 28)).alloc (Obj.cells #[.int .i64 p] 2)
  have hV : rdI ((w.alloc (Obj.cells #[.int .i64 n, r] 28)).alloc (Obj.cells #[.int .i64 p] 2)) (.slice (some ⟨w.heap.size + 1, 0, none⟩) 1 1) [p] := ⟨_, 1, rfl, by simp [maxLen], fun _ => ⟨_, _, rfl, fun i hi => by
    obtain rfl : i = 0 := by simp at hi; omega
    rw [alloc_cell, if_pos (by simp)]; rfl⟩⟩
  cases hg : groupB n rs
  · have e : orbOf n rs p = ([], 1) := by simp [orbOf, hg]
    rw [e]; clear e
    have HM := hid (show movC n rs [p] = 1 by simp [movC, hg])
    clear hg
    go_enter Try.func11, Try.ntmps11
    go_wp2_with (first | (go_at_call 30; refine via (i_moved _ _ _ rs [p] _ 1 hR hl hV HM.out) ?_; intro uu zz; try simp at zz))
    exact bodyPost_ret (v := .tuple #[.slice none 0 0, .int .i64 1]) (by first | (simp [results, go_sem]; done) | simp [results, go_sem, ↓IntWalk.iteOmega]) rfl ⟨_, rfl, ownR.nil _ _, (by refine Ext.bel ?_; repeat (with_reducible first | exact Ext.refl _ | apply Ext.alloc | apply Ext.aft | apply Ext.drew | apply Ext.drewN | apply Ext.setCell | exact Nat.le_add_right _ _ | exact Nat.le_refl _ | (simp; done) | omega))⟩
  obtain ⟨m, rfl, hm1, hm6, hne, hhd, hr, hpw, _⟩ := group_facts hg
  have hl7 : rs.length ≤ 720 := Nat.le_trans (asc_len hpw hr) (facN_le hm6)
  have Hr := hid hr
  cases hp : inB p 0 ((m : Int) - 1)
  · have e : orbOf m rs p = ([], 2) := by unfold orbOf; rw [if_pos hg, if_neg (by rw [hp]; simp)]
    rw [e]; clear e
    have HM := hid (show movC m rs [p] = 2 by simp [movC, hg, outP, hp])
    clear hg hp hr hpw hne hhd
    go_enter Try.func11, Try.ntmps11
    go_wp2_with (first | (go_at_call 30; refine via (i_moved _ _ _ rs [p] _ 2 hR hl hV HM.out) ?_; intro uu zz; try simp at zz))
    exact bodyPost_ret (v := .tuple #[.slice none 0 0, .int .i64 2]) (by first | (simp [results, go_sem]; done) | simp [results, go_sem, ↓IntWalk.iteOmega]) rfl ⟨_, rfl, ownR.nil _ _, (by refine Ext.bel ?_; repeat (with_reducible first | exact Ext.refl _ | apply Ext.alloc | apply Ext.aft | apply Ext.drew | apply Ext.drewN | apply Ext.setCell | exact Nat.le_add_right _ _ | exact Nat.le_refl _ | (simp; done) | omega))⟩
  · obtain ⟨os, hos⟩ : ∃ os, orbF m rs p.toNat = os := ⟨_, rfl⟩
    have e : orbOf m rs p = (os, 0) := by unfold orbOf; rw [if_pos hg, if_pos hp]; simp only [Int.toNat_natCast]; rw [hos]
    rw [e]; clear e
    have hpr := inB_iff.1 hp
    have HM := hid (show movC m rs [p] = 0 by simp [movC, hg, outP, hp])
    have HOS := hid hos
    clear hg hp hr hpw hne hhd hos
    go_enter Try.func11, Try.ntmps11
    go_wp2_with (first | (go_at_call 30; refine via (i_moved _ _ _ rs [p] _ 0 hR hl hV HM.out) ?_; intro uu zz; try simp at zz))
    refine viaX (g := id) (i_orbitE m p.toNat p _ rs os _ (hR.aft _) hm6 (by omega) Hr.out hl7 (by omega) HOS.out) ?_
    intro v2 u2 z2 own2
    try simp at z2
    go_wp2_with fail
    exact bodyPost_ret (v := .tuple #[v2, .int .i64 0]) (by first | (simp [results, go_sem]; done) | simp [results, go_sem, ↓IntWalk.iteOmega]) rfl ⟨_, rfl, own2.mono (by omega), (by refine Ext.bel ?_; repeat (with_reducible first | exact Ext.refl _ | apply Ext.alloc | apply Ext.aft | apply Ext.drew | apply Ext.drewN | apply Ext.setCell | exact Nat.le_add_right _ _ | exact Nat.le_refl _ | (simp; done) | omega))⟩
set_option maxRecDepth 20000 in
set_option maxHeartbeats 4000000 in
theorem s_code23 (n p : Int) (r : Value) (rs : List Int) (w : World) (c : Int) (h : rdI w r rs) (hl : rs.length ≤ 1048576) (hc : movC n rs [p] = c) :
    Calls Try.prog 27 #[(.agg #[.int .i64 n, r]), .int .i64 p, .int .i64 p] w fun e w' => e = .returned (.int .i64 c) ∧ Below w.heap.size w w' := by
  subst hc
  have hR := h.alloc (Obj.cells #[.int .i64 n, r] 28)
  cases hg : groupB n rs
  · have e : movC n rs [p] = 1 := by simp [movC, hg]
    rw [e]; clear e
    go_enter Try.func27, Try.ntmps27
    go_wp2_with (first | (go_at_call 32; refine via (s_IsGroupE _ _ rs _ false hR hl hg) ?_; intro uu zz; try simp at zz))
    go_ret
    exact ⟨rfl, (by refine Ext.bel ?_; repeat (with_reducible first | exact Ext.refl _ | apply Ext.alloc | apply Ext.aft | apply Ext.drew | apply Ext.drewN | apply Ext.setCell | exact Nat.le_add_right _ _ | exact Nat.le_refl _ | (simp; done) | omega))⟩
  have HG := hid hg
  obtain ⟨m, rfl, hm1, hm6, _⟩ := group_facts hg
  cases hp : inB p 0 ((m : Int) - 1)
  · have e : movC m rs [p] = 2 := by simp [movC, hg, outP, hp]
    rw [e]; clear e hg
    go_enter Try.func27, Try.ntmps27
    go_wp2_with (first | (go_at_call 32; refine via (s_IsGroupE _ _ rs _ true hR hl HG.out) ?_; intro uu zz; try simp at zz) | (go_at_call 44; refine pur (s_in _ _ _ _) ?_))
    go_ret
    exact ⟨rfl, (by refine Ext.bel ?_; repeat (with_reducible first | exact Ext.refl _ | apply Ext.alloc | apply Ext.aft | apply Ext.drew | apply Ext.drewN | apply Ext.setCell | exact Nat.le_add_right _ _ | exact Nat.le_refl _ | (simp; done) | omega))⟩
  · have e : movC m rs [p] = 0 := by simp [movC, hg, outP, hp]
    rw [e]; clear e hg
    go_enter Try.func27, Try.ntmps27
    go_wp2_with (first | (go_at_call 32; refine via (s_IsGroupE _ _ rs _ true hR hl HG.out) ?_; intro uu zz; try simp at zz) | (go_at_call 44; refine pur (s_in _ _ _ _) ?_))
    go_ret
    exact ⟨rfl, (by refine Ext.bel ?_; repeat (with_reducible first | exact Ext.refl _ | apply Ext.alloc | apply Ext.aft | apply Ext.drew | apply Ext.drewN | apply Ext.setCell | exact Nat.le_add_right _ _ | exact Nat.le_refl _ | (simp; done) | omega))⟩
set_option maxRecDepth 20000 in
set_option maxHeartbeats 4000000 in
theorem s_OrbitOf (n p : Int) (r : Value) (rs : List Int) (w : World) (h : rdI w r rs) (hl : rs.length ≤ 1048576) :
    Calls Try.prog 9 #[(.agg #[.int .i64 n, r]), .int .i64 p] w fun e w' => ∃ v, e = .returned (.tuple #[v, .int .i64 (orbOf n rs p).2]) ∧ ownR w.heap.size w' v (orbOf n rs p).1 ∧ Below w.heap.size w w' := by
  have hR := h.alloc (Obj.cells #[.int .i64 n, r] 28)
  cases hg : groupB n rs
  · have e : orbOf n rs p = ([], 1) := by simp [orbOf, hg]
    rw [e]; clear e
    have HM := hid (show movC n rs [p] = 1 by simp [movC, hg])
    clear hg
    go_enter Try.func9, Try.ntmps9
    go_wp2_with (first | (go_at_call 27; refine via (s_code23 _ p _ rs _ 1 hR hl HM.out) ?_; intro uu zz; try simp at zz))
    exact bodyPost_ret (v := .tuple #[.slice none 0 0, .int .i64 1]) (by first | (simp [results, go_sem]; done) | simp [results, go_sem, ↓IntWalk.iteOmega]) rfl ⟨_, rfl, ownR.nil _ _, (by refine Ext.bel ?_; repeat (with_reducible first | exact Ext.refl _ | apply Ext.alloc | apply Ext.aft | apply Ext.drew | apply Ext.drewN | apply Ext.setCell | exact Nat.le_add_right _ _ | exact Nat.le_refl _ | (simp; done) | omega))⟩
  obtain ⟨m, rfl, hm1, hm6, hne, hhd, hr, hpw, _⟩ := group_facts hg
  have hl7 : rs.length ≤ 720 := Nat.le_trans (asc_len hpw hr) (facN_le hm6)
  have Hr := hid hr
  cases hp : inB p 0 ((m : Int) - 1)
  · have e : orbOf m rs p = ([], 2) := by unfold orbOf; rw [if_pos hg, if_neg (by rw [hp]; simp)]
    rw [e]; clear e
    have HM := hid (show movC m rs [p] = 2 by simp [movC, hg, outP, hp])
    clear hg hp hr hpw hne hhd
    go_enter Try.func9, Try.ntmps9
    go_wp2_with (first | (go_at_call 27; refine via (s_code23 _ p _ rs _ 2 hR hl HM.out) ?_; intro uu zz; try simp at zz))
    exact bodyPost_ret (v := .tuple #[.slice none 0 0, .int .i64 2]) (by first | (simp [results, go_sem]; done) | simp [results, go_sem, ↓IntWalk.iteOmega]) rfl ⟨_, rfl, ownR.nil _ _, (by refine Ext.bel ?_; repeat (with_reducible first | exact Ext.refl _ | apply Ext.alloc | apply Ext.aft | apply Ext.drew | apply Ext.drewN | apply Ext.setCell | exact Nat.le_add_right _ _ | exact Nat.le_refl _ | (simp; done) | omega))⟩
  · obtain ⟨os, hos⟩ : ∃ os, orbF m rs p.toNat = os := ⟨_, rfl⟩
    have e : orbOf m rs p = (os, 0) := by unfold orbOf; rw [if_pos hg, if_pos hp]; simp only [Int.toNat_natCast]; rw [hos]
    rw [e]; clear e
    have hpr := inB_iff.1 hp
    have HM := hid (show movC m rs [p] = 0 by simp [movC, hg, outP, hp])
    have HOS := hid hos
    clear hg hp hr hpw hne hhd hos
    go_enter Try.func9, Try.ntmps9
    go_wp2_with (first | (go_at_call 27; refine via (s_code23 _ p _ rs _ 0 hR hl HM.out) ?_; intro uu zz; try simp at zz))
    refine viaX (g := id) (s_orbitE m p.toNat p _ rs os _ (hR.aft _) hm6 (by omega) Hr.out hl7 (by omega) HOS.out) ?_
    intro v2 u2 z2 own2
    try simp at z2
    go_wp2_with fail
    exact bodyPost_ret (v := .tuple #[v2, .int .i64 0]) (by first | (simp [results, go_sem]; done) | simp [results, go_sem, ↓IntWalk.iteOmega]) rfl ⟨_, rfl, own2.mono (by omega), (by refine Ext.bel ?_; repeat (with_reducible first | exact Ext.refl _ | apply Ext.alloc | apply Ext.aft | apply Ext.drew | apply Ext.drewN | apply Ext.setCell | exact Nat.le_add_right _ _ | exact Nat.le_refl _ | (simp; done) | omega))⟩
end Go.Proofs.Yteolkmgdnbdccaa
