/- Sums: the statement's text. -/
import Derived.Test.YtfbpkbnepojlnaaD8
namespace Go.Proofs.Ytfbpkbnepojlnaa
open Go Go.RowKit

theorem add_mod_step {p u a : Int} (hp : 2 ≤ p) {s c : Nat} (h : s ≤ c) : (u + a * p ^ s) % p ^ c = (u + a % p ^ (c - s) * p ^ s) % p ^ c := by
  rw [Int.add_emod, ← mul_pow_mod hp h, ← Int.add_emod]
theorem add_mod_none {p u a : Int} {s c : Nat} (h : c ≤ s) : (u + a * p ^ s) % p ^ c = u % p ^ c := by
  rw [Int.add_emod, mul_pow_zero h, Int.add_zero, Int.emod_emod]
theorem modu_le {p k : Int} (h : p ^ k.toNat ≤ 1000000000) : modu p k = p ^ k.toNat := by unfold modu; rw [if_pos h]

set_option maxHeartbeats 2000000 in
theorem s_add_11 (p v u n v2 u2 n2 : Int) (w : World) (h1 : padicB p v u n = true) (h2 : padicB p v2 u2 n2 = true) (hlo : v ≤ v2) (hen : (v + n) ≤ (v2 + n2)) :
    Calls Try.prog 68 #[(.agg #[.int .i64 p, .int .i64 v, .int .i64 u, .int .i64 n]), (.agg #[.int .i64 p, .int .i64 v2, .int .i64 u2, .int .i64 n2])] w fun e w' => e = .returned (.agg #[.int .i64 (addF p v u n v2 u2 n2).p, .int .i64 (addF p v u n v2 u2 n2).v, .int .i64 (addF p v u n v2 u2 n2).u, .int .i64 (addF p v u n v2 u2 n2).n]) ∧ Below w.heap.size w w' := by
  obtain ⟨hp, hv, hu, hn, hb⟩ := padic_facts h1
  obtain ⟨_, hv2, hu2, hn2, hb2⟩ := padic_facts h2
  have e : (addF p v u n v2 u2 n2) = makeF p v (u + u2 * p ^ (v2 - v).toNat) (v + n) := by
    rw [show (addF p v u n v2 u2 n2) = addF p v u n v2 u2 n2 from rfl, addF_le (by omega)]; congr 1; omega
  clear h1 h2
  have Hb : Hid (v < (v + n) → p ^ ((v + n) - v).toNat ≤ 1000000000) := hid fun _ => (pow_le_bd (k := ((v + n) - v).toNat) (n := n) hp.1 (by omega) (by omega)).2
  by_cases h0 : v2 < (v + n)
  · obtain ⟨a1, a2⟩ := pow_le_bd (k := ((v + n) - v2).toNat) (n := n2) hp.1 (by omega) (by omega)
    obtain ⟨b1, b2⟩ := pow_le_bd (k := (v2 - v).toNat) (n := n) hp.1 (by omega) (by omega)
    have e2 : (addF p v u n v2 u2 n2) = makeF p v (u + u2 % modu p ((v + n) - v2) * modu p (v2 - v)) (v + n) := by
      rw [e]; apply makeF_mod
      rw [modu_le a2, modu_le b2, add_mod_step hp.1 (show (v2 - v).toNat ≤ ((v + n) - v).toNat by omega), show ((v + n) - v).toNat - (v2 - v).toNat = ((v + n) - v2).toNat by omega]
    rw [e2]; clear e e2
    rw [← modu_le a2] at a1 a2
    rw [← modu_le b2] at b1 b2
    have f1 := Int.emod_nonneg u2 (show modu p ((v + n) - v2) ≠ 0 by omega)
    have f2 := Int.emod_lt_of_pos u2 (show 0 < modu p ((v + n) - v2) by omega)
    have f3 : 0 ≤ u2 % modu p ((v + n) - v2) * modu p (v2 - v) := Int.mul_nonneg f1 (by omega)
    have f4 : u2 % modu p ((v + n) - v2) * modu p (v2 - v) ≤ 1000000000 * 1000000000 := Int.mul_le_mul (by omega) (by omega) (by omega) (by omega)
    clear hb hb2
    go_enter Try.func68, Try.ntmps68
    go_wp2_with fail
    refine wp_region_calm (by kernel_rfl) (by kernel_rfl) ?_
    repeat (go_big_quiet_step (first | (go_at_call 50; exact calmp (s_modulus _ _ _ (by omega) (by omega) (by omega)))))
    refine wpQuiet_nil ?_; intro uq zq; try simp at zq
    go_wp2_with (go_at_call 85; refine via (s_make _ _ _ _ _ hp (by omega) (by omega) (by omega) Hb.out) ?_; intro uu zz; try simp at zz)
    exact bodyPost_ret (v := (.agg #[.int .i64 (makeF p v (u + u2 % modu p ((v + n) - v2) * modu p (v2 - v)) (v + n)).p, .int .i64 (makeF p v (u + u2 % modu p ((v + n) - v2) * modu p (v2 - v)) (v + n)).v, .int .i64 (makeF p v (u + u2 % modu p ((v + n) - v2) * modu p (v2 - v)) (v + n)).u, .int .i64 (makeF p v (u + u2 % modu p ((v + n) - v2) * modu p (v2 - v)) (v + n)).n])) (by first | (simp [results, go_sem]; done) | simp [results, go_sem, ↓IntWalk.iteOmega]) rfl ⟨rfl, (by refine Ext.bel ?_; repeat (with_reducible first | exact Ext.refl _ | apply Ext.alloc | apply Ext.aft | apply Ext.drew | apply Ext.drewN | apply Ext.setCell | exact Nat.le_add_right _ _ | exact Nat.le_refl _ | (simp; done) | omega))⟩
  · have e2 : (addF p v u n v2 u2 n2) = makeF p v u (v + n) := by
      rw [e]; apply makeF_mod
      rw [add_mod_none (by omega)]
    rw [e2]; clear e e2 hb hb2
    go_enter Try.func68, Try.ntmps68
    go_wp2_with (go_at_call 85; refine via (s_make _ _ _ _ _ hp (by omega) (by omega) (by omega) Hb.out) ?_; intro uu zz; try simp at zz)
    exact bodyPost_ret (v := (.agg #[.int .i64 (makeF p v u (v + n)).p, .int .i64 (makeF p v u (v + n)).v, .int .i64 (makeF p v u (v + n)).u, .int .i64 (makeF p v u (v + n)).n])) (by first | (simp [results, go_sem]; done) | simp [results, go_sem, ↓IntWalk.iteOmega]) rfl ⟨rfl, (by refine Ext.bel ?_; repeat (with_reducible first | exact Ext.refl _ | apply Ext.alloc | apply Ext.aft | apply Ext.drew | apply Ext.drewN | apply Ext.setCell | exact Nat.le_add_right _ _ | exact Nat.le_refl _ | (simp; done) | omega))⟩
set_option maxHeartbeats 2000000 in
theorem s_add_12 (p v u n v2 u2 n2 : Int) (w : World) (h1 : padicB p v u n = true) (h2 : padicB p v2 u2 n2 = true) (hlo : v ≤ v2) (hen : (v2 + n2) < (v + n)) :
    Calls Try.prog 68 #[(.agg #[.int .i64 p, .int .i64 v, .int .i64 u, .int .i64 n]), (.agg #[.int .i64 p, .int .i64 v2, .int .i64 u2, .int .i64 n2])] w fun e w' => e = .returned (.agg #[.int .i64 (addF p v u n v2 u2 n2).p, .int .i64 (addF p v u n v2 u2 n2).v, .int .i64 (addF p v u n v2 u2 n2).u, .int .i64 (addF p v u n v2 u2 n2).n]) ∧ Below w.heap.size w w' := by
  obtain ⟨hp, hv, hu, hn, hb⟩ := padic_facts h1
  obtain ⟨_, hv2, hu2, hn2, hb2⟩ := padic_facts h2
  have e : (addF p v u n v2 u2 n2) = makeF p v (u + u2 * p ^ (v2 - v).toNat) (v2 + n2) := by
    rw [show (addF p v u n v2 u2 n2) = addF p v u n v2 u2 n2 from rfl, addF_le (by omega)]; congr 1; omega
  clear h1 h2
  have Hb : Hid (v < (v2 + n2) → p ^ ((v2 + n2) - v).toNat ≤ 1000000000) := hid fun _ => (pow_le_bd (k := ((v2 + n2) - v).toNat) (n := n) hp.1 (by omega) (by omega)).2
  by_cases h0 : v2 < (v2 + n2)
  · obtain ⟨a1, a2⟩ := pow_le_bd (k := ((v2 + n2) - v2).toNat) (n := n2) hp.1 (by omega) (by omega)
    obtain ⟨b1, b2⟩ := pow_le_bd (k := (v2 - v).toNat) (n := n) hp.1 (by omega) (by omega)
    have e2 : (addF p v u n v2 u2 n2) = makeF p v (u + u2 % modu p ((v2 + n2) - v2) * modu p (v2 - v)) (v2 + n2) := by
      rw [e]; apply makeF_mod
      rw [modu_le a2, modu_le b2, add_mod_step hp.1 (show (v2 - v).toNat ≤ ((v2 + n2) - v).toNat by omega), show ((v2 + n2) - v).toNat - (v2 - v).toNat = ((v2 + n2) - v2).toNat by omega]
    rw [e2]; clear e e2
    rw [← modu_le a2] at a1 a2
    rw [← modu_le b2] at b1 b2
    have f1 := Int.emod_nonneg u2 (show modu p ((v2 + n2) - v2) ≠ 0 by omega)
    have f2 := Int.emod_lt_of_pos u2 (show 0 < modu p ((v2 + n2) - v2) by omega)
    have f3 : 0 ≤ u2 % modu p ((v2 + n2) - v2) * modu p (v2 - v) := Int.mul_nonneg f1 (by omega)
    have f4 : u2 % modu p ((v2 + n2) - v2) * modu p (v2 - v) ≤ 1000000000 * 1000000000 := Int.mul_le_mul (by omega) (by omega) (by omega) (by omega)
    clear hb hb2
    go_enter Try.func68, Try.ntmps68
    go_wp2_with fail
    refine wp_region_calm (by kernel_rfl) (by kernel_rfl) ?_
    repeat (go_big_quiet_step (first | (go_at_call 50; exact calmp (s_modulus _ _ _ (by omega) (by omega) (by omega)))))
    refine wpQuiet_nil ?_; intro uq zq; try simp at zq
    go_wp2_with (go_at_call 85; refine via (s_make _ _ _ _ _ hp (by omega) (by omega) (by omega) Hb.out) ?_; intro uu zz; try simp at zz)
    exact bodyPost_ret (v := (.agg #[.int .i64 (makeF p v (u + u2 % modu p ((v2 + n2) - v2) * modu p (v2 - v)) (v2 + n2)).p, .int .i64 (makeF p v (u + u2 % modu p ((v2 + n2) - v2) * modu p (v2 - v)) (v2 + n2)).v, .int .i64 (makeF p v (u + u2 % modu p ((v2 + n2) - v2) * modu p (v2 - v)) (v2 + n2)).u, .int .i64 (makeF p v (u + u2 % modu p ((v2 + n2) - v2) * modu p (v2 - v)) (v2 + n2)).n])) (by first | (simp [results, go_sem]; done) | simp [results, go_sem, ↓IntWalk.iteOmega]) rfl ⟨rfl, (by refine Ext.bel ?_; repeat (with_reducible first | exact Ext.refl _ | apply Ext.alloc | apply Ext.aft | apply Ext.drew | apply Ext.drewN | apply Ext.setCell | exact Nat.le_add_right _ _ | exact Nat.le_refl _ | (simp; done) | omega))⟩
  · have e2 : (addF p v u n v2 u2 n2) = makeF p v u (v2 + n2) := by
      rw [e]; apply makeF_mod
      rw [add_mod_none (by omega)]
    rw [e2]; clear e e2 hb hb2
    go_enter Try.func68, Try.ntmps68
    go_wp2_with (go_at_call 85; refine via (s_make _ _ _ _ _ hp (by omega) (by omega) (by omega) Hb.out) ?_; intro uu zz; try simp at zz)
    exact bodyPost_ret (v := (.agg #[.int .i64 (makeF p v u (v2 + n2)).p, .int .i64 (makeF p v u (v2 + n2)).v, .int .i64 (makeF p v u (v2 + n2)).u, .int .i64 (makeF p v u (v2 + n2)).n])) (by first | (simp [results, go_sem]; done) | simp [results, go_sem, ↓IntWalk.iteOmega]) rfl ⟨rfl, (by refine Ext.bel ?_; repeat (with_reducible first | exact Ext.refl _ | apply Ext.alloc | apply Ext.aft | apply Ext.drew | apply Ext.drewN | apply Ext.setCell | exact Nat.le_add_right _ _ | exact Nat.le_refl _ | (simp; done) | omega))⟩
set_option maxHeartbeats 2000000 in
theorem s_add_21 (p v u n v2 u2 n2 : Int) (w : World) (h1 : padicB p v u n = true) (h2 : padicB p v2 u2 n2 = true) (hlo : v2 < v) (hen : (v + n) < (v2 + n2)) :
    Calls Try.prog 68 #[(.agg #[.int .i64 p, .int .i64 v, .int .i64 u, .int .i64 n]), (.agg #[.int .i64 p, .int .i64 v2, .int .i64 u2, .int .i64 n2])] w fun e w' => e = .returned (.agg #[.int .i64 (addF p v u n v2 u2 n2).p, .int .i64 (addF p v u n v2 u2 n2).v, .int .i64 (addF p v u n v2 u2 n2).u, .int .i64 (addF p v u n v2 u2 n2).n]) ∧ Below w.heap.size w w' := by
  obtain ⟨hp, hv, hu, hn, hb⟩ := padic_facts h1
  obtain ⟨_, hv2, hu2, hn2, hb2⟩ := padic_facts h2
  have e : (addF p v u n v2 u2 n2) = makeF p v2 (u2 + u * p ^ (v - v2).toNat) (v + n) := by
    rw [show (addF p v u n v2 u2 n2) = addF p v2 u2 n2 v u n from (addF_comm _ _ _ _ _ _ _), addF_le (by omega)]; congr 1; omega
  clear h1 h2
  have Hb : Hid (v2 < (v + n) → p ^ ((v + n) - v2).toNat ≤ 1000000000) := hid fun _ => (pow_le_bd (k := ((v + n) - v2).toNat) (n := n2) hp.1 (by omega) (by omega)).2
  by_cases h0 : v < (v + n)
  · obtain ⟨a1, a2⟩ := pow_le_bd (k := ((v + n) - v).toNat) (n := n) hp.1 (by omega) (by omega)
    obtain ⟨b1, b2⟩ := pow_le_bd (k := (v - v2).toNat) (n := n2) hp.1 (by omega) (by omega)
    have e2 : (addF p v u n v2 u2 n2) = makeF p v2 (u2 + u % modu p ((v + n) - v) * modu p (v - v2)) (v + n) := by
      rw [e]; apply makeF_mod
      rw [modu_le a2, modu_le b2, add_mod_step hp.1 (show (v - v2).toNat ≤ ((v + n) - v2).toNat by omega), show ((v + n) - v2).toNat - (v - v2).toNat = ((v + n) - v).toNat by omega]
    rw [e2]; clear e e2
    rw [← modu_le a2] at a1 a2
    rw [← modu_le b2] at b1 b2
    have f1 := Int.emod_nonneg u (show modu p ((v + n) - v) ≠ 0 by omega)
    have f2 := Int.emod_lt_of_pos u (show 0 < modu p ((v + n) - v) by omega)
    have f3 : 0 ≤ u % modu p ((v + n) - v) * modu p (v - v2) := Int.mul_nonneg f1 (by omega)
    have f4 : u % modu p ((v + n) - v) * modu p (v - v2) ≤ 1000000000 * 1000000000 := Int.mul_le_mul (by omega) (by omega) (by omega) (by omega)
    clear hb hb2
    go_enter Try.func68, Try.ntmps68
    go_wp2_with fail
    refine wp_region_calm (by kernel_rfl) (by kernel_rfl) ?_
    repeat (go_big_quiet_step (first | (go_at_call 50; exact calmp (s_modulus _ _ _ (by omega) (by omega) (by omega)))))
    refine wpQuiet_nil ?_; intro uq zq; try simp at zq
    go_wp2_with (go_at_call 85; refine via (s_make _ _ _ _ _ hp (by omega) (by omega) (by omega) Hb.out) ?_; intro uu zz; try simp at zz)
    exact bodyPost_ret (v := (.agg #[.int .i64 (makeF p v2 (u2 + u % modu p ((v + n) - v) * modu p (v - v2)) (v + n)).p, .int .i64 (makeF p v2 (u2 + u % modu p ((v + n) - v) * modu p (v - v2)) (v + n)).v, .int .i64 (makeF p v2 (u2 + u % modu p ((v + n) - v) * modu p (v - v2)) (v + n)).u, .int .i64 (makeF p v2 (u2 + u % modu p ((v + n) - v) * modu p (v - v2)) (v + n)).n])) (by first | (simp [results, go_sem]; done) | simp [results, go_sem, ↓IntWalk.iteOmega]) rfl ⟨rfl, (by refine Ext.bel ?_; repeat (with_reducible first | exact Ext.refl _ | apply Ext.alloc | apply Ext.aft | apply Ext.drew | apply Ext.drewN | apply Ext.setCell | exact Nat.le_add_right _ _ | exact Nat.le_refl _ | (simp; done) | omega))⟩
  · have e2 : (addF p v u n v2 u2 n2) = makeF p v2 u2 (v + n) := by
      rw [e]; apply makeF_mod
      rw [add_mod_none (by omega)]
    rw [e2]; clear e e2 hb hb2
    go_enter Try.func68, Try.ntmps68
    go_wp2_with (go_at_call 85; refine via (s_make _ _ _ _ _ hp (by omega) (by omega) (by omega) Hb.out) ?_; intro uu zz; try simp at zz)
    exact bodyPost_ret (v := (.agg #[.int .i64 (makeF p v2 u2 (v + n)).p, .int .i64 (makeF p v2 u2 (v + n)).v, .int .i64 (makeF p v2 u2 (v + n)).u, .int .i64 (makeF p v2 u2 (v + n)).n])) (by first | (simp [results, go_sem]; done) | simp [results, go_sem, ↓IntWalk.iteOmega]) rfl ⟨rfl, (by refine Ext.bel ?_; repeat (with_reducible first | exact Ext.refl _ | apply Ext.alloc | apply Ext.aft | apply Ext.drew | apply Ext.drewN | apply Ext.setCell | exact Nat.le_add_right _ _ | exact Nat.le_refl _ | (simp; done) | omega))⟩
set_option maxHeartbeats 2000000 in
theorem s_add_22 (p v u n v2 u2 n2 : Int) (w : World) (h1 : padicB p v u n = true) (h2 : padicB p v2 u2 n2 = true) (hlo : v2 < v) (hen : (v2 + n2) ≤ (v + n)) :
    Calls Try.prog 68 #[(.agg #[.int .i64 p, .int .i64 v, .int .i64 u, .int .i64 n]), (.agg #[.int .i64 p, .int .i64 v2, .int .i64 u2, .int .i64 n2])] w fun e w' => e = .returned (.agg #[.int .i64 (addF p v u n v2 u2 n2).p, .int .i64 (addF p v u n v2 u2 n2).v, .int .i64 (addF p v u n v2 u2 n2).u, .int .i64 (addF p v u n v2 u2 n2).n]) ∧ Below w.heap.size w w' := by
  obtain ⟨hp, hv, hu, hn, hb⟩ := padic_facts h1
  obtain ⟨_, hv2, hu2, hn2, hb2⟩ := padic_facts h2
  have e : (addF p v u n v2 u2 n2) = makeF p v2 (u2 + u * p ^ (v - v2).toNat) (v2 + n2) := by
    rw [show (addF p v u n v2 u2 n2) = addF p v2 u2 n2 v u n from (addF_comm _ _ _ _ _ _ _), addF_le (by omega)]; congr 1; omega
  clear h1 h2
  have Hb : Hid (v2 < (v2 + n2) → p ^ ((v2 + n2) - v2).toNat ≤ 1000000000) := hid fun _ => (pow_le_bd (k := ((v2 + n2) - v2).toNat) (n := n2) hp.1 (by omega) (by omega)).2
  by_cases h0 : v < (v2 + n2)
  · obtain ⟨a1, a2⟩ := pow_le_bd (k := ((v2 + n2) - v).toNat) (n := n) hp.1 (by omega) (by omega)
    obtain ⟨b1, b2⟩ := pow_le_bd (k := (v - v2).toNat) (n := n2) hp.1 (by omega) (by omega)
    have e2 : (addF p v u n v2 u2 n2) = makeF p v2 (u2 + u % modu p ((v2 + n2) - v) * modu p (v - v2)) (v2 + n2) := by
      rw [e]; apply makeF_mod
      rw [modu_le a2, modu_le b2, add_mod_step hp.1 (show (v - v2).toNat ≤ ((v2 + n2) - v2).toNat by omega), show ((v2 + n2) - v2).toNat - (v - v2).toNat = ((v2 + n2) - v).toNat by omega]
    rw [e2]; clear e e2
    rw [← modu_le a2] at a1 a2
    rw [← modu_le b2] at b1 b2
    have f1 := Int.emod_nonneg u (show modu p ((v2 + n2) - v) ≠ 0 by omega)
    have f2 := Int.emod_lt_of_pos u (show 0 < modu p ((v2 + n2) - v) by omega)
    have f3 : 0 ≤ u % modu p ((v2 + n2) - v) * modu p (v - v2) := Int.mul_nonneg f1 (by omega)
    have f4 : u % modu p ((v2 + n2) - v) * modu p (v - v2) ≤ 1000000000 * 1000000000 := Int.mul_le_mul (by omega) (by omega) (by omega) (by omega)
    clear hb hb2
    go_enter Try.func68, Try.ntmps68
    go_wp2_with fail
    refine wp_region_calm (by kernel_rfl) (by kernel_rfl) ?_
    repeat (go_big_quiet_step (first | (go_at_call 50; exact calmp (s_modulus _ _ _ (by omega) (by omega) (by omega)))))
    refine wpQuiet_nil ?_; intro uq zq; try simp at zq
    go_wp2_with (go_at_call 85; refine via (s_make _ _ _ _ _ hp (by omega) (by omega) (by omega) Hb.out) ?_; intro uu zz; try simp at zz)
    exact bodyPost_ret (v := (.agg #[.int .i64 (makeF p v2 (u2 + u % modu p ((v2 + n2) - v) * modu p (v - v2)) (v2 + n2)).p, .int .i64 (makeF p v2 (u2 + u % modu p ((v2 + n2) - v) * modu p (v - v2)) (v2 + n2)).v, .int .i64 (makeF p v2 (u2 + u % modu p ((v2 + n2) - v) * modu p (v - v2)) (v2 + n2)).u, .int .i64 (makeF p v2 (u2 + u % modu p ((v2 + n2) - v) * modu p (v - v2)) (v2 + n2)).n])) (by first | (simp [results, go_sem]; done) | simp [results, go_sem, ↓IntWalk.iteOmega]) rfl ⟨rfl, (by refine Ext.bel ?_; repeat (with_reducible first | exact Ext.refl _ | apply Ext.alloc | apply Ext.aft | apply Ext.drew | apply Ext.drewN | apply Ext.setCell | exact Nat.le_add_right _ _ | exact Nat.le_refl _ | (simp; done) | omega))⟩
  · have e2 : (addF p v u n v2 u2 n2) = makeF p v2 u2 (v2 + n2) := by
      rw [e]; apply makeF_mod
      rw [add_mod_none (by omega)]
    rw [e2]; clear e e2 hb hb2
    go_enter Try.func68, Try.ntmps68
    go_wp2_with (go_at_call 85; refine via (s_make _ _ _ _ _ hp (by omega) (by omega) (by omega) Hb.out) ?_; intro uu zz; try simp at zz)
    exact bodyPost_ret (v := (.agg #[.int .i64 (makeF p v2 u2 (v2 + n2)).p, .int .i64 (makeF p v2 u2 (v2 + n2)).v, .int .i64 (makeF p v2 u2 (v2 + n2)).u, .int .i64 (makeF p v2 u2 (v2 + n2)).n])) (by first | (simp [results, go_sem]; done) | simp [results, go_sem, ↓IntWalk.iteOmega]) rfl ⟨rfl, (by refine Ext.bel ?_; repeat (with_reducible first | exact Ext.refl _ | apply Ext.alloc | apply Ext.aft | apply Ext.drew | apply Ext.drewN | apply Ext.setCell | exact Nat.le_add_right _ _ | exact Nat.le_refl _ | (simp; done) | omega))⟩
theorem s_add (p v u n v2 u2 n2 : Int) (w : World) (h1 : padicB p v u n = true) (h2 : padicB p v2 u2 n2 = true) :
    Calls Try.prog 68 #[(.agg #[.int .i64 p, .int .i64 v, .int .i64 u, .int .i64 n]), (.agg #[.int .i64 p, .int .i64 v2, .int .i64 u2, .int .i64 n2])] w fun e w' => e = .returned (.agg #[.int .i64 (addF p v u n v2 u2 n2).p, .int .i64 (addF p v u n v2 u2 n2).v, .int .i64 (addF p v u n v2 u2 n2).u, .int .i64 (addF p v u n v2 u2 n2).n]) ∧ Below w.heap.size w w' := by
  rcases Int.lt_or_le v2 v with ha | ha
  · rcases Int.lt_or_le (v + n) (v2 + n2) with hb | hb
    · exact s_add_21 _ _ _ _ _ _ _ _ h1 h2 ha hb
    · exact s_add_22 _ _ _ _ _ _ _ _ h1 h2 ha hb
  · rcases Int.lt_or_le (v2 + n2) (v + n) with hb | hb
    · exact s_add_12 _ _ _ _ _ _ _ _ h1 h2 ha hb
    · exact s_add_11 _ _ _ _ _ _ _ _ h1 h2 ha hb
end Go.Proofs.Ytfbpkbnepojlnaa
