/- WholePart: the statement's text. -/
import Derived.Test.YtehdkbopkkgabaaD7
import Derived.Test.YtehdkbopkkgabaaC1
namespace Go.Proofs.Ytehdkbopkkgabaa
open Go Go.RowKit

/-- A number whose end is at least 0, without its digits at places below 0. -/
def wholeF (p v u n : Int) : Pd := if 0 ≤ v then ⟨p, v, u, n⟩ else makeF p 0 (u / p ^ (-v).toNat) (v + n)
def wpF (p v u n : Int) : Pd × Int := if padicB p v u n = true then (if v + n < 0 then (⟨0, 0, 0, 0⟩, 4) else (wholeF p v u n, 0)) else (⟨0, 0, 0, 0⟩, 1)

set_option maxHeartbeats 1000000 in
theorem s_low (p v u n : Int) (w : World) (hp : 2 ≤ p ∧ p ≤ 97) (hv : -60 ≤ v ∧ v < 0) (hu : 0 ≤ u ∧ u ≤ 1000000000) (hn : (n == 0) = false) (hM : 1 ≤ modu p (-v)) :
    Calls Try.prog 101 #[(.agg #[.int .i64 p, .int .i64 v, .int .i64 u, .int .i64 n])] w fun e w' => e = .returned (.tuple #[.int .i64 (u % modu p (-v)), .int .i64 (modu p (-v))]) ∧ Below w.heap.size w w' := by
  go_enter Try.func101, Try.ntmps101
  go_wp2_with (go_at_call 95; refine pur (s_modulus _ _ _ (by omega) (by omega) (by omega)) ?_)
  go_ret2
  exact ⟨rfl, (by refine Ext.bel ?_; repeat (with_reducible first | exact Ext.refl _ | apply Ext.alloc | apply Ext.aft | apply Ext.drew | apply Ext.drewN | apply Ext.setCell | exact Nat.le_add_right _ _ | exact Nat.le_refl _ | (simp; done) | omega))⟩

set_option maxHeartbeats 1000000 in
theorem s_WholePart (p v u n : Int) (w : World) :
    Calls Try.prog 36 #[(.agg #[.int .i64 p, .int .i64 v, .int .i64 u, .int .i64 n])] w fun e w' => e = .returned (.tuple #[.agg #[.int .i64 (wpF p v u n).1.p, .int .i64 (wpF p v u n).1.v, .int .i64 (wpF p v u n).1.u, .int .i64 (wpF p v u n).1.n], .int .i64 (wpF p v u n).2]) ∧ Below w.heap.size w w' := by
  cases h : padicB p v u n
  · have e : (wpF p v u n) = (⟨0, 0, 0, 0⟩, 1) := by simp [wpF, h]
    rw [e]; clear e
    go_enter Try.func36, Try.ntmps36
    go_wp2_with (go_at_call 85; refine via (s_IsPadic _ _ _ _ _) ?_; intro uu zz; try simp at zz)
    exact bodyPost_ret (v := .tuple #[(.agg #[.int .i64 0, .int .i64 0, .int .i64 0, .int .i64 0]), .int .i64 1]) (by first | (simp [results, go_sem]; done) | simp [results, go_sem, ↓IntWalk.iteOmega]) rfl ⟨rfl, (by refine Ext.bel ?_; repeat (with_reducible first | exact Ext.refl _ | apply Ext.alloc | apply Ext.aft | apply Ext.drew | apply Ext.drewN | apply Ext.setCell | exact Nat.le_add_right _ _ | exact Nat.le_refl _ | (simp; done) | omega))⟩
  obtain ⟨hp, hv, hu, hn, hb⟩ := padic_facts h
  by_cases he : v + n < 0
  · have e : (wpF p v u n) = (⟨0, 0, 0, 0⟩, 4) := by unfold wpF; rw [if_pos h, if_pos he]
    rw [e]; clear e hb
    go_enter Try.func36, Try.ntmps36
    go_wp2_with (go_at_call 85; refine via (s_IsPadic _ _ _ _ _) ?_; intro uu zz; try simp at zz)
    exact bodyPost_ret (v := .tuple #[(.agg #[.int .i64 0, .int .i64 0, .int .i64 0, .int .i64 0]), .int .i64 4]) (by first | (simp [results, go_sem]; done) | simp [results, go_sem, ↓IntWalk.iteOmega]) rfl ⟨rfl, (by refine Ext.bel ?_; repeat (with_reducible first | exact Ext.refl _ | apply Ext.alloc | apply Ext.aft | apply Ext.drew | apply Ext.drewN | apply Ext.setCell | exact Nat.le_add_right _ _ | exact Nat.le_refl _ | (simp; done) | omega))⟩
  by_cases h0 : 0 ≤ v
  · have e : (wpF p v u n) = (⟨p, v, u, n⟩, 0) := by unfold wpF wholeF; rw [if_pos h, if_neg he, if_pos h0]
    rw [e]; clear e hb
    go_enter Try.func36, Try.ntmps36
    go_wp2_with (go_at_call 85; refine via (s_IsPadic _ _ _ _ _) ?_; intro uu zz; try simp at zz)
    exact bodyPost_ret (v := .tuple #[(.agg #[.int .i64 p, .int .i64 v, .int .i64 u, .int .i64 n]), .int .i64 0]) (by first | (simp [results, go_sem]; done) | simp [results, go_sem, ↓IntWalk.iteOmega]) rfl ⟨rfl, (by refine Ext.bel ?_; repeat (with_reducible first | exact Ext.refl _ | apply Ext.alloc | apply Ext.aft | apply Ext.drew | apply Ext.drewN | apply Ext.setCell | exact Nat.le_add_right _ _ | exact Nat.le_refl _ | (simp; done) | omega))⟩
  have hb1 := pow_mono (show 1 ≤ p by omega) (show (-v).toNat ≤ n.toNat by omega)
  have hb2 := pow_mono (show 1 ≤ p by omega) (show (v + n - 0).toNat ≤ n.toNat by omega)
  have hb3 := pow_pos' (show 1 ≤ p by omega) (-v).toNat
  have hM : modu p (-v) = p ^ (-v).toNat := by unfold modu; rw [if_pos (by omega)]
  have hM1 : 1 ≤ modu p (-v) ∧ modu p (-v) ≤ 1000000000 := by omega
  have e : (wpF p v u n) = ((makeF p 0 (u.tdiv (modu p (-v))) (v + n)), 0) := by unfold wpF wholeF; rw [if_pos h, if_neg he, if_neg h0, hM, Int.tdiv_eq_ediv_of_nonneg hu.1]
  rw [e]; clear e
  have hq : 0 ≤ u.tdiv (modu p (-v)) ∧ u.tdiv (modu p (-v)) ≤ 1000000000 := by
    rw [Int.tdiv_eq_ediv_of_nonneg hu.1]
    exact ⟨Int.ediv_nonneg hu.1 (by omega), Int.le_trans (Int.ediv_le_self _ hu.1) hu.2⟩
  have Hb : Hid (0 < v + n → p ^ (v + n - 0).toNat ≤ 1000000000) := hid fun _ => by omega
  have hn0 : (n == 0) = false := by rw [beq_eq_false_iff_ne]; omega
  clear hb hb1 hb2 hb3 hM
  go_enter Try.func36, Try.ntmps36
  go_wp2_with (first | (go_at_call 85; refine via (s_IsPadic _ _ _ _ _) ?_; intro uu zz; try simp at zz) | (go_at_call 101; refine via (s_low _ _ _ _ _ hp (by omega) hu hn0 hM1.1) ?_; intro uu zz; try simp at zz))
  refine wp_region_calm_tail 8 (by kernel_rfl) (by kernel_rfl) ?_
  simp only [List.take_succ_cons, List.take_zero, List.drop_succ_cons, List.drop_zero]
  repeat (go_big_quiet_step (first | (go_at_call 97; exact calm (s_make _ _ _ _ _ hp (by omega) (by omega) (by omega) Hb.out))))
  refine wpQuiet_nil ?_; intro uq zq; try simp at zq
  go_wp2
  exact bodyPost_ret (v := .tuple #[.agg #[.int .i64 (makeF p 0 (u.tdiv (modu p (-v))) (v + n)).p, .int .i64 (makeF p 0 (u.tdiv (modu p (-v))) (v + n)).v, .int .i64 (makeF p 0 (u.tdiv (modu p (-v))) (v + n)).u, .int .i64 (makeF p 0 (u.tdiv (modu p (-v))) (v + n)).n], .int .i64 0]) (by first | (simp [results, go_sem]; done) | simp [results, go_sem, ↓IntWalk.iteOmega]) rfl ⟨rfl, (by refine Ext.bel ?_; repeat (with_reducible first | exact Ext.refl _ | apply Ext.alloc | apply Ext.aft | apply Ext.drew | apply Ext.drewN | apply Ext.setCell | exact Nat.le_add_right _ _ | exact Nat.le_refl _ | (simp; done) | omega))⟩
end Go.Proofs.Ytehdkbopkkgabaa
