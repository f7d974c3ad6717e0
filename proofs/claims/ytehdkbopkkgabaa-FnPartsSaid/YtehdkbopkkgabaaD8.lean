/- Sums: both texts. -/
import Derived.Test.YtehdkbopkkgabaaD7
namespace Go.Proofs.Ytehdkbopkkgabaa
open Go Go.RowKit

theorem pow_le_bd {p n : Int} {k : Nat} (hp : 2 ≤ p) (hk : (k : Int) ≤ n) (hb : p ^ n.toNat ≤ 1000000000) : 1 ≤ p ^ k ∧ p ^ k ≤ 1000000000 := by
  have := pow_mono (show 1 ≤ p by omega) (show k ≤ n.toNat by omega)
  exact ⟨pow_pos' (by omega) _, by omega⟩
def frmF (p v u k c : Int) : Int := u * p ^ (v - k).toNat % p ^ c.toNat
theorem frmF_bd {p v u k c : Int} (h : 1 ≤ p ^ c.toNat) : 0 ≤ frmF p v u k c ∧ frmF p v u k c < p ^ c.toNat :=
  ⟨Int.emod_nonneg _ (by omega), Int.emod_lt_of_pos _ (by omega)⟩
theorem i_from2 (p v u n k c : Int) (w : World) (hp : 2 ≤ p ∧ p ≤ 97) (hv : -60 ≤ v ∧ v ≤ 60) (hu : 0 ≤ u ∧ u ≤ 1000000000) (hk : -60 ≤ k ∧ k ≤ v) (hc : 0 ≤ c ∧ c ≤ 1000) (hb : p ^ c.toNat ≤ 1000000000) :
    Calls Try.prog 155 #[(.agg #[.int .i64 p, .int .i64 v, .int .i64 u, .int .i64 n]), .int .i64 k, .int .i64 c] w fun e w' => e = .returned (.int .i64 (frmF p v u k c)) ∧ Below w.heap.size w w' := i_from p v u n k c w hp hv hu hk hc hb
theorem addF_at {p v u n v2 u2 n2 lo en : Int} (h1 : min v v2 = lo) (h2 : min (v + n) (v2 + n2) = en) : addF p v u n v2 u2 n2 = if en ≤ lo then ⟨p, en, 0, 0⟩ else knownF p lo ((frmF p v u lo (en - lo) + frmF p v2 u2 lo (en - lo)) % p ^ (en - lo).toNat) (en - lo) := by
  unfold addF makeF; rw [h1, h2]; unfold frmF; rw [mod_add_mod]

set_option maxHeartbeats 2000000 in
theorem i_add_11 (p v u n v2 u2 n2 : Int) (w : World) (h1 : padicB p v u n = true) (h2 : padicB p v2 u2 n2 = true) (hlo : v ≤ v2) (hen : (v + n) ≤ (v2 + n2)) :
    Calls Try.prog 107 #[(.agg #[.int .i64 p, .int .i64 v, .int .i64 u, .int .i64 n]), (.agg #[.int .i64 p, .int .i64 v2, .int .i64 u2, .int .i64 n2])] w fun e w' => e = .returned (.agg #[.int .i64 (addF p v u n v2 u2 n2).p, .int .i64 (addF p v u n v2 u2 n2).v, .int .i64 (addF p v u n v2 u2 n2).u, .int .i64 (addF p v u n v2 u2 n2).n]) ∧ Below w.heap.size w w' := by
  obtain ⟨hp, hv, hu, hn, hb⟩ := padic_facts h1
  obtain ⟨_, hv2, hu2, hn2, hb2⟩ := padic_facts h2
  have e := addF_at (p := p) (u := u) (u2 := u2) (show min v v2 = v by omega) (show min (v + n) (v2 + n2) = (v + n) by omega)
  clear h1 h2
  by_cases h0 : (v + n) ≤ v
  · try (exfalso; omega)
    all_goals
      rw [if_pos h0] at e
      rw [e]; clear e hb hb2
      go_enter Try.func107, Try.ntmps107
      go_wp2_with fail
      refine wp_region_calm (by kernel_rfl) (by kernel_rfl) ?_
      repeat (go_big_quiet_step (first | (go_at_call 99; exact calm (i_end _ _ _ _ _ (by omega) (by omega)))))
      refine wpQuiet_nil ?_; intro uq zq; try simp at zq
      go_wp2
      exact bodyPost_ret (v := .agg #[.int .i64 p, .int .i64 (v + n), .int .i64 0, .int .i64 0]) (by first | (simp [results, go_sem]; done) | simp [results, go_sem, ↓IntWalk.iteOmega]) rfl ⟨rfl, (by refine Ext.bel ?_; repeat (with_reducible first | exact Ext.refl _ | apply Ext.alloc | apply Ext.aft | apply Ext.drew | apply Ext.drewN | apply Ext.setCell | exact Nat.le_add_right _ _ | exact Nat.le_refl _ | (simp; done) | omega))⟩
  · rw [if_neg h0] at e
    rw [e]; clear e
    have hc : 0 ≤ (v + n) - v ∧ (v + n) - v ≤ 1000 := by omega
    obtain ⟨hm, hm2⟩ := pow_le_bd (k := ((v + n) - v).toNat) (n := n) hp.1 (by omega) (by omega)
    have Hm := hid hm2
    have Hb := hid (show p ^ ((v + n) - v).toNat ≤ 4000000000000000000 by omega)
    have f1 := frmF_bd (v := v) (u := u) (k := v) hm
    have f2 := frmF_bd (v := v2) (u := u2) (k := v) hm
    have f5 : 0 ≤ frmF p v u v ((v + n) - v) + frmF p v2 u2 v ((v + n) - v) := by omega
    have f6 := Int.emod_nonneg (frmF p v u v ((v + n) - v) + frmF p v2 u2 v ((v + n) - v)) (show p ^ ((v + n) - v).toNat ≠ 0 by omega)
    have f7 := Int.emod_lt_of_pos (frmF p v u v ((v + n) - v) + frmF p v2 u2 v ((v + n) - v)) (show 0 < p ^ ((v + n) - v).toNat by omega)
    clear hb hb2
    go_enter Try.func107, Try.ntmps107
    go_wp2_with fail
    refine wp_region_calm (by kernel_rfl) (by kernel_rfl) ?_
    repeat (go_big_quiet_step (first | (go_at_call 99; exact calm (i_end _ _ _ _ _ (by omega) (by omega)))))
    refine wpQuiet_nil ?_; intro uq zq; try simp at zq
    go_wp2_with fail
    refine wp_region_calm_tail 19 (by kernel_rfl) (by kernel_rfl) ?_
    simp only [List.take_succ_cons, List.take_zero, List.drop_succ_cons, List.drop_zero]
    repeat (go_big_quiet_step (first | (go_at_call 155; exact calm (i_from2 _ _ _ _ _ _ _ hp (by omega) (by omega) (by omega) hc Hm.out)) | (go_at_call 102; exact calmp (i_power _ _ _ (by omega) (by omega) Hb.out)) | (go_at_call 149; exact calm (i_known _ _ _ _ _ hp (by omega) (by omega) hc))))
    refine wpQuiet_nil ?_; intro uq zq; try simp at zq
    go_wp2
    exact bodyPost_ret (v := (.agg #[.int .i64 (knownF p v ((frmF p v u v ((v + n) - v) + frmF p v2 u2 v ((v + n) - v)) % p ^ ((v + n) - v).toNat) ((v + n) - v)).p, .int .i64 (knownF p v ((frmF p v u v ((v + n) - v) + frmF p v2 u2 v ((v + n) - v)) % p ^ ((v + n) - v).toNat) ((v + n) - v)).v, .int .i64 (knownF p v ((frmF p v u v ((v + n) - v) + frmF p v2 u2 v ((v + n) - v)) % p ^ ((v + n) - v).toNat) ((v + n) - v)).u, .int .i64 (knownF p v ((frmF p v u v ((v + n) - v) + frmF p v2 u2 v ((v + n) - v)) % p ^ ((v + n) - v).toNat) ((v + n) - v)).n])) (by first | (simp [results, go_sem]; done) | simp [results, go_sem, ↓IntWalk.iteOmega]) rfl ⟨rfl, (by refine Ext.bel ?_; repeat (with_reducible first | exact Ext.refl _ | apply Ext.alloc | apply Ext.aft | apply Ext.drew | apply Ext.drewN | apply Ext.setCell | exact Nat.le_add_right _ _ | exact Nat.le_refl _ | (simp; done) | omega))⟩
set_option maxHeartbeats 2000000 in
theorem i_add_12 (p v u n v2 u2 n2 : Int) (w : World) (h1 : padicB p v u n = true) (h2 : padicB p v2 u2 n2 = true) (hlo : v ≤ v2) (hen : (v2 + n2) < (v + n)) :
    Calls Try.prog 107 #[(.agg #[.int .i64 p, .int .i64 v, .int .i64 u, .int .i64 n]), (.agg #[.int .i64 p, .int .i64 v2, .int .i64 u2, .int .i64 n2])] w fun e w' => e = .returned (.agg #[.int .i64 (addF p v u n v2 u2 n2).p, .int .i64 (addF p v u n v2 u2 n2).v, .int .i64 (addF p v u n v2 u2 n2).u, .int .i64 (addF p v u n v2 u2 n2).n]) ∧ Below w.heap.size w w' := by
  obtain ⟨hp, hv, hu, hn, hb⟩ := padic_facts h1
  obtain ⟨_, hv2, hu2, hn2, hb2⟩ := padic_facts h2
  have e := addF_at (p := p) (u := u) (u2 := u2) (show min v v2 = v by omega) (show min (v + n) (v2 + n2) = (v2 + n2) by omega)
  clear h1 h2
  by_cases h0 : (v2 + n2) ≤ v
  · try (exfalso; omega)
    all_goals
      rw [if_pos h0] at e
      rw [e]; clear e hb hb2
      go_enter Try.func107, Try.ntmps107
      go_wp2_with fail
      refine wp_region_calm (by kernel_rfl) (by kernel_rfl) ?_
      repeat (go_big_quiet_step (first | (go_at_call 99; exact calm (i_end _ _ _ _ _ (by omega) (by omega)))))
      refine wpQuiet_nil ?_; intro uq zq; try simp at zq
      go_wp2
      exact bodyPost_ret (v := .agg #[.int .i64 p, .int .i64 (v2 + n2), .int .i64 0, .int .i64 0]) (by first | (simp [results, go_sem]; done) | simp [results, go_sem, ↓IntWalk.iteOmega]) rfl ⟨rfl, (by refine Ext.bel ?_; repeat (with_reducible first | exact Ext.refl _ | apply Ext.alloc | apply Ext.aft | apply Ext.drew | apply Ext.drewN | apply Ext.setCell | exact Nat.le_add_right _ _ | exact Nat.le_refl _ | (simp; done) | omega))⟩
  · rw [if_neg h0] at e
    rw [e]; clear e
    have hc : 0 ≤ (v2 + n2) - v ∧ (v2 + n2) - v ≤ 1000 := by omega
    obtain ⟨hm, hm2⟩ := pow_le_bd (k := ((v2 + n2) - v).toNat) (n := n) hp.1 (by omega) (by omega)
    have Hm := hid hm2
    have Hb := hid (show p ^ ((v2 + n2) - v).toNat ≤ 4000000000000000000 by omega)
    have f1 := frmF_bd (v := v) (u := u) (k := v) hm
    have f2 := frmF_bd (v := v2) (u := u2) (k := v) hm
    have f5 : 0 ≤ frmF p v u v ((v2 + n2) - v) + frmF p v2 u2 v ((v2 + n2) - v) := by omega
    have f6 := Int.emod_nonneg (frmF p v u v ((v2 + n2) - v) + frmF p v2 u2 v ((v2 + n2) - v)) (show p ^ ((v2 + n2) - v).toNat ≠ 0 by omega)
    have f7 := Int.emod_lt_of_pos (frmF p v u v ((v2 + n2) - v) + frmF p v2 u2 v ((v2 + n2) - v)) (show 0 < p ^ ((v2 + n2) - v).toNat by omega)
    clear hb hb2
    go_enter Try.func107, Try.ntmps107
    go_wp2_with fail
    refine wp_region_calm (by kernel_rfl) (by kernel_rfl) ?_
    repeat (go_big_quiet_step (first | (go_at_call 99; exact calm (i_end _ _ _ _ _ (by omega) (by omega)))))
    refine wpQuiet_nil ?_; intro uq zq; try simp at zq
    go_wp2_with fail
    refine wp_region_calm_tail 19 (by kernel_rfl) (by kernel_rfl) ?_
    simp only [List.take_succ_cons, List.take_zero, List.drop_succ_cons, List.drop_zero]
    repeat (go_big_quiet_step (first | (go_at_call 155; exact calm (i_from2 _ _ _ _ _ _ _ hp (by omega) (by omega) (by omega) hc Hm.out)) | (go_at_call 102; exact calmp (i_power _ _ _ (by omega) (by omega) Hb.out)) | (go_at_call 149; exact calm (i_known _ _ _ _ _ hp (by omega) (by omega) hc))))
    refine wpQuiet_nil ?_; intro uq zq; try simp at zq
    go_wp2
    exact bodyPost_ret (v := (.agg #[.int .i64 (knownF p v ((frmF p v u v ((v2 + n2) - v) + frmF p v2 u2 v ((v2 + n2) - v)) % p ^ ((v2 + n2) - v).toNat) ((v2 + n2) - v)).p, .int .i64 (knownF p v ((frmF p v u v ((v2 + n2) - v) + frmF p v2 u2 v ((v2 + n2) - v)) % p ^ ((v2 + n2) - v).toNat) ((v2 + n2) - v)).v, .int .i64 (knownF p v ((frmF p v u v ((v2 + n2) - v) + frmF p v2 u2 v ((v2 + n2) - v)) % p ^ ((v2 + n2) - v).toNat) ((v2 + n2) - v)).u, .int .i64 (knownF p v ((frmF p v u v ((v2 + n2) - v) + frmF p v2 u2 v ((v2 + n2) - v)) % p ^ ((v2 + n2) - v).toNat) ((v2 + n2) - v)).n])) (by first | (simp [results, go_sem]; done) | simp [results, go_sem, ↓IntWalk.iteOmega]) rfl ⟨rfl, (by refine Ext.bel ?_; repeat (with_reducible first | exact Ext.refl _ | apply Ext.alloc | apply Ext.aft | apply Ext.drew | apply Ext.drewN | apply Ext.setCell | exact Nat.le_add_right _ _ | exact Nat.le_refl _ | (simp; done) | omega))⟩
set_option maxHeartbeats 2000000 in
theorem i_add_21 (p v u n v2 u2 n2 : Int) (w : World) (h1 : padicB p v u n = true) (h2 : padicB p v2 u2 n2 = true) (hlo : v2 < v) (hen : (v + n) ≤ (v2 + n2)) :
    Calls Try.prog 107 #[(.agg #[.int .i64 p, .int .i64 v, .int .i64 u, .int .i64 n]), (.agg #[.int .i64 p, .int .i64 v2, .int .i64 u2, .int .i64 n2])] w fun e w' => e = .returned (.agg #[.int .i64 (addF p v u n v2 u2 n2).p, .int .i64 (addF p v u n v2 u2 n2).v, .int .i64 (addF p v u n v2 u2 n2).u, .int .i64 (addF p v u n v2 u2 n2).n]) ∧ Below w.heap.size w w' := by
  obtain ⟨hp, hv, hu, hn, hb⟩ := padic_facts h1
  obtain ⟨_, hv2, hu2, hn2, hb2⟩ := padic_facts h2
  have e := addF_at (p := p) (u := u) (u2 := u2) (show min v v2 = v2 by omega) (show min (v + n) (v2 + n2) = (v + n) by omega)
  clear h1 h2
  by_cases h0 : (v + n) ≤ v2
  · try (exfalso; omega)
    all_goals
      rw [if_pos h0] at e
      rw [e]; clear e hb hb2
      go_enter Try.func107, Try.ntmps107
      go_wp2_with fail
      refine wp_region_calm (by kernel_rfl) (by kernel_rfl) ?_
      repeat (go_big_quiet_step (first | (go_at_call 99; exact calm (i_end _ _ _ _ _ (by omega) (by omega)))))
      refine wpQuiet_nil ?_; intro uq zq; try simp at zq
      go_wp2
      exact bodyPost_ret (v := .agg #[.int .i64 p, .int .i64 (v + n), .int .i64 0, .int .i64 0]) (by first | (simp [results, go_sem]; done) | simp [results, go_sem, ↓IntWalk.iteOmega]) rfl ⟨rfl, (by refine Ext.bel ?_; repeat (with_reducible first | exact Ext.refl _ | apply Ext.alloc | apply Ext.aft | apply Ext.drew | apply Ext.drewN | apply Ext.setCell | exact Nat.le_add_right _ _ | exact Nat.le_refl _ | (simp; done) | omega))⟩
  · rw [if_neg h0] at e
    rw [e]; clear e
    have hc : 0 ≤ (v + n) - v2 ∧ (v + n) - v2 ≤ 1000 := by omega
    obtain ⟨hm, hm2⟩ := pow_le_bd (k := ((v + n) - v2).toNat) (n := n2) hp.1 (by omega) (by omega)
    have Hm := hid hm2
    have Hb := hid (show p ^ ((v + n) - v2).toNat ≤ 4000000000000000000 by omega)
    have f1 := frmF_bd (v := v) (u := u) (k := v2) hm
    have f2 := frmF_bd (v := v2) (u := u2) (k := v2) hm
    have f5 : 0 ≤ frmF p v u v2 ((v + n) - v2) + frmF p v2 u2 v2 ((v + n) - v2) := by omega
    have f6 := Int.emod_nonneg (frmF p v u v2 ((v + n) - v2) + frmF p v2 u2 v2 ((v + n) - v2)) (show p ^ ((v + n) - v2).toNat ≠ 0 by omega)
    have f7 := Int.emod_lt_of_pos (frmF p v u v2 ((v + n) - v2) + frmF p v2 u2 v2 ((v + n) - v2)) (show 0 < p ^ ((v + n) - v2).toNat by omega)
    clear hb hb2
    go_enter Try.func107, Try.ntmps107
    go_wp2_with fail
    refine wp_region_calm (by kernel_rfl) (by kernel_rfl) ?_
    repeat (go_big_quiet_step (first | (go_at_call 99; exact calm (i_end _ _ _ _ _ (by omega) (by omega)))))
    refine wpQuiet_nil ?_; intro uq zq; try simp at zq
    go_wp2_with fail
    refine wp_region_calm_tail 19 (by kernel_rfl) (by kernel_rfl) ?_
    simp only [List.take_succ_cons, List.take_zero, List.drop_succ_cons, List.drop_zero]
    repeat (go_big_quiet_step (first | (go_at_call 155; exact calm (i_from2 _ _ _ _ _ _ _ hp (by omega) (by omega) (by omega) hc Hm.out)) | (go_at_call 102; exact calmp (i_power _ _ _ (by omega) (by omega) Hb.out)) | (go_at_call 149; exact calm (i_known _ _ _ _ _ hp (by omega) (by omega) hc))))
    refine wpQuiet_nil ?_; intro uq zq; try simp at zq
    go_wp2
    exact bodyPost_ret (v := (.agg #[.int .i64 (knownF p v2 ((frmF p v u v2 ((v + n) - v2) + frmF p v2 u2 v2 ((v + n) - v2)) % p ^ ((v + n) - v2).toNat) ((v + n) - v2)).p, .int .i64 (knownF p v2 ((frmF p v u v2 ((v + n) - v2) + frmF p v2 u2 v2 ((v + n) - v2)) % p ^ ((v + n) - v2).toNat) ((v + n) - v2)).v, .int .i64 (knownF p v2 ((frmF p v u v2 ((v + n) - v2) + frmF p v2 u2 v2 ((v + n) - v2)) % p ^ ((v + n) - v2).toNat) ((v + n) - v2)).u, .int .i64 (knownF p v2 ((frmF p v u v2 ((v + n) - v2) + frmF p v2 u2 v2 ((v + n) - v2)) % p ^ ((v + n) - v2).toNat) ((v + n) - v2)).n])) (by first | (simp [results, go_sem]; done) | simp [results, go_sem, ↓IntWalk.iteOmega]) rfl ⟨rfl, (by refine Ext.bel ?_; repeat (with_reducible first | exact Ext.refl _ | apply Ext.alloc | apply Ext.aft | apply Ext.drew | apply Ext.drewN | apply Ext.setCell | exact Nat.le_add_right _ _ | exact Nat.le_refl _ | (simp; done) | omega))⟩
set_option maxHeartbeats 2000000 in
theorem i_add_22 (p v u n v2 u2 n2 : Int) (w : World) (h1 : padicB p v u n = true) (h2 : padicB p v2 u2 n2 = true) (hlo : v2 < v) (hen : (v2 + n2) < (v + n)) :
    Calls Try.prog 107 #[(.agg #[.int .i64 p, .int .i64 v, .int .i64 u, .int .i64 n]), (.agg #[.int .i64 p, .int .i64 v2, .int .i64 u2, .int .i64 n2])] w fun e w' => e = .returned (.agg #[.int .i64 (addF p v u n v2 u2 n2).p, .int .i64 (addF p v u n v2 u2 n2).v, .int .i64 (addF p v u n v2 u2 n2).u, .int .i64 (addF p v u n v2 u2 n2).n]) ∧ Below w.heap.size w w' := by
  obtain ⟨hp, hv, hu, hn, hb⟩ := padic_facts h1
  obtain ⟨_, hv2, hu2, hn2, hb2⟩ := padic_facts h2
  have e := addF_at (p := p) (u := u) (u2 := u2) (show min v v2 = v2 by omega) (show min (v + n) (v2 + n2) = (v2 + n2) by omega)
  clear h1 h2
  by_cases h0 : (v2 + n2) ≤ v2
  · try (exfalso; omega)
    all_goals
      rw [if_pos h0] at e
      rw [e]; clear e hb hb2
      go_enter Try.func107, Try.ntmps107
      go_wp2_with fail
      refine wp_region_calm (by kernel_rfl) (by kernel_rfl) ?_
      repeat (go_big_quiet_step (first | (go_at_call 99; exact calm (i_end _ _ _ _ _ (by omega) (by omega)))))
      refine wpQuiet_nil ?_; intro uq zq; try simp at zq
      go_wp2
      exact bodyPost_ret (v := .agg #[.int .i64 p, .int .i64 (v2 + n2), .int .i64 0, .int .i64 0]) (by first | (simp [results, go_sem]; done) | simp [results, go_sem, ↓IntWalk.iteOmega]) rfl ⟨rfl, (by refine Ext.bel ?_; repeat (with_reducible first | exact Ext.refl _ | apply Ext.alloc | apply Ext.aft | apply Ext.drew | apply Ext.drewN | apply Ext.setCell | exact Nat.le_add_right _ _ | exact Nat.le_refl _ | (simp; done) | omega))⟩
  · rw [if_neg h0] at e
    rw [e]; clear e
    have hc : 0 ≤ (v2 + n2) - v2 ∧ (v2 + n2) - v2 ≤ 1000 := by omega
    obtain ⟨hm, hm2⟩ := pow_le_bd (k := ((v2 + n2) - v2).toNat) (n := n2) hp.1 (by omega) (by omega)
    have Hm := hid hm2
    have Hb := hid (show p ^ ((v2 + n2) - v2).toNat ≤ 4000000000000000000 by omega)
    have f1 := frmF_bd (v := v) (u := u) (k := v2) hm
    have f2 := frmF_bd (v := v2) (u := u2) (k := v2) hm
    have f5 : 0 ≤ frmF p v u v2 ((v2 + n2) - v2) + frmF p v2 u2 v2 ((v2 + n2) - v2) := by omega
    have f6 := Int.emod_nonneg (frmF p v u v2 ((v2 + n2) - v2) + frmF p v2 u2 v2 ((v2 + n2) - v2)) (show p ^ ((v2 + n2) - v2).toNat ≠ 0 by omega)
    have f7 := Int.emod_lt_of_pos (frmF p v u v2 ((v2 + n2) - v2) + frmF p v2 u2 v2 ((v2 + n2) - v2)) (show 0 < p ^ ((v2 + n2) - v2).toNat by omega)
    clear hb hb2
    go_enter Try.func107, Try.ntmps107
    go_wp2_with fail
    refine wp_region_calm (by kernel_rfl) (by kernel_rfl) ?_
    repeat (go_big_quiet_step (first | (go_at_call 99; exact calm (i_end _ _ _ _ _ (by omega) (by omega)))))
    refine wpQuiet_nil ?_; intro uq zq; try simp at zq
    go_wp2_with fail
    refine wp_region_calm_tail 19 (by kernel_rfl) (by kernel_rfl) ?_
    simp only [List.take_succ_cons, List.take_zero, List.drop_succ_cons, List.drop_zero]
    repeat (go_big_quiet_step (first | (go_at_call 155; exact calm (i_from2 _ _ _ _ _ _ _ hp (by omega) (by omega) (by omega) hc Hm.out)) | (go_at_call 102; exact calmp (i_power _ _ _ (by omega) (by omega) Hb.out)) | (go_at_call 149; exact calm (i_known _ _ _ _ _ hp (by omega) (by omega) hc))))
    refine wpQuiet_nil ?_; intro uq zq; try simp at zq
    go_wp2
    exact bodyPost_ret (v := (.agg #[.int .i64 (knownF p v2 ((frmF p v u v2 ((v2 + n2) - v2) + frmF p v2 u2 v2 ((v2 + n2) - v2)) % p ^ ((v2 + n2) - v2).toNat) ((v2 + n2) - v2)).p, .int .i64 (knownF p v2 ((frmF p v u v2 ((v2 + n2) - v2) + frmF p v2 u2 v2 ((v2 + n2) - v2)) % p ^ ((v2 + n2) - v2).toNat) ((v2 + n2) - v2)).v, .int .i64 (knownF p v2 ((frmF p v u v2 ((v2 + n2) - v2) + frmF p v2 u2 v2 ((v2 + n2) - v2)) % p ^ ((v2 + n2) - v2).toNat) ((v2 + n2) - v2)).u, .int .i64 (knownF p v2 ((frmF p v u v2 ((v2 + n2) - v2) + frmF p v2 u2 v2 ((v2 + n2) - v2)) % p ^ ((v2 + n2) - v2).toNat) ((v2 + n2) - v2)).n])) (by first | (simp [results, go_sem]; done) | simp [results, go_sem, ↓IntWalk.iteOmega]) rfl ⟨rfl, (by refine Ext.bel ?_; repeat (with_reducible first | exact Ext.refl _ | apply Ext.alloc | apply Ext.aft | apply Ext.drew | apply Ext.drewN | apply Ext.setCell | exact Nat.le_add_right _ _ | exact Nat.le_refl _ | (simp; done) | omega))⟩
theorem i_add (p v u n v2 u2 n2 : Int) (w : World) (h1 : padicB p v u n = true) (h2 : padicB p v2 u2 n2 = true) :
    Calls Try.prog 107 #[(.agg #[.int .i64 p, .int .i64 v, .int .i64 u, .int .i64 n]), (.agg #[.int .i64 p, .int .i64 v2, .int .i64 u2, .int .i64 n2])] w fun e w' => e = .returned (.agg #[.int .i64 (addF p v u n v2 u2 n2).p, .int .i64 (addF p v u n v2 u2 n2).v, .int .i64 (addF p v u n v2 u2 n2).u, .int .i64 (addF p v u n v2 u2 n2).n]) ∧ Below w.heap.size w w' := by
  rcases Int.lt_or_le v2 v with ha | ha <;> rcases Int.lt_or_le (v2 + n2) (v + n) with hb | hb
  · exact i_add_22 _ _ _ _ _ _ _ _ h1 h2 ha hb
  · exact i_add_21 _ _ _ _ _ _ _ _ h1 h2 ha hb
  · exact i_add_12 _ _ _ _ _ _ _ _ h1 h2 ha hb
  · exact i_add_11 _ _ _ _ _ _ _ _ h1 h2 ha hb
end Go.Proofs.Ytehdkbopkkgabaa
