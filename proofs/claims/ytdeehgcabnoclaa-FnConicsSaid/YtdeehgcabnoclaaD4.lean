/- MultiplyPadics: both texts, the law. -/
import Derived.Test.YtdeehgcabnoclaaC1
import Derived.Test.YtdeehgcabnoclaaD2
import Derived.Test.YtdeehgcabnoclaaB5
namespace Go.Proofs.Ytdeehgcabnoclaa
open Go Go.RowKit

def pairF (p v u n q v2 u2 n2 : Int) : Int := if padicB p v u n = true ∧ padicB q v2 u2 n2 = true then (if p = q then 0 else 5) else 1
set_option maxHeartbeats 1000000 in
theorem i_pair (p v u n q v2 u2 n2 : Int) (w : World) :
    Calls Try.prog 54 #[(.agg #[.int .i64 p, .int .i64 v, .int .i64 u, .int .i64 n]), (.agg #[.int .i64 q, .int .i64 v2, .int .i64 u2, .int .i64 n2])] w fun e w' => e = .returned (.int .i64 (pairF p v u n q v2 u2 n2)) ∧ Below w.heap.size w w' := by
  cases h1 : padicB p v u n
  · have e : pairF p v u n q v2 u2 n2 = 1 := by simp [pairF, h1]
    rw [e]; clear e
    go_enter Try.func54, Try.ntmps54
    go_wp2_with fail
    refine via (i_IsPadic _ _ _ _ _) ?_
    rw [h1]; intro uu zz; try simp at zz
    go_wp2
    go_ret
    exact ⟨rfl, (by refine Ext.bel ?_; repeat (with_reducible first | exact Ext.refl _ | apply Ext.alloc | apply Ext.aft | apply Ext.drew | apply Ext.drewN | apply Ext.setCell | exact Nat.le_add_right _ _ | exact Nat.le_refl _ | (simp; done) | omega))⟩
  cases h2 : padicB q v2 u2 n2
  · have e : pairF p v u n q v2 u2 n2 = 1 := by simp [pairF, h2]
    rw [e]; clear e
    go_enter Try.func54, Try.ntmps54
    go_wp2_with fail
    refine via (i_IsPadic _ _ _ _ _) ?_
    rw [h1]; intro uu zz; try simp at zz
    go_wp2_with fail
    refine via (i_IsPadic _ _ _ _ _) ?_
    rw [h2]; intro uu zz; try simp at zz
    go_wp2
    go_ret
    exact ⟨rfl, (by refine Ext.bel ?_; repeat (with_reducible first | exact Ext.refl _ | apply Ext.alloc | apply Ext.aft | apply Ext.drew | apply Ext.drewN | apply Ext.setCell | exact Nat.le_add_right _ _ | exact Nat.le_refl _ | (simp; done) | omega))⟩
  by_cases h3 : p = q
  · have e : pairF p v u n q v2 u2 n2 = 0 := by unfold pairF; rw [if_pos ⟨h1, h2⟩, if_pos h3]
    rw [e]; clear e
    subst h3
    go_enter Try.func54, Try.ntmps54
    go_wp2_with fail
    refine via (i_IsPadic _ _ _ _ _) ?_
    rw [h1]; intro uu zz; try simp at zz
    go_wp2_with fail
    refine via (i_IsPadic _ _ _ _ _) ?_
    rw [h2]; intro uu zz; try simp at zz
    go_wp2
    go_ret
    exact ⟨rfl, (by refine Ext.bel ?_; repeat (with_reducible first | exact Ext.refl _ | apply Ext.alloc | apply Ext.aft | apply Ext.drew | apply Ext.drewN | apply Ext.setCell | exact Nat.le_add_right _ _ | exact Nat.le_refl _ | (simp; done) | omega))⟩
  · have e : pairF p v u n q v2 u2 n2 = 5 := by unfold pairF; rw [if_pos ⟨h1, h2⟩, if_neg h3]
    rw [e]; clear e
    have h3' : (p != q) = true := by simp [h3]
    have h3'' : (p == q) = false := by simp [h3]
    clear h3
    go_enter Try.func54, Try.ntmps54
    go_wp2_with fail
    refine via (i_IsPadic _ _ _ _ _) ?_
    rw [h1]; intro uu zz; try simp at zz
    go_wp2_with fail
    refine via (i_IsPadic _ _ _ _ _) ?_
    rw [h2]; intro uu zz; try simp at zz
    go_wp2
    go_ret
    exact ⟨rfl, (by refine Ext.bel ?_; repeat (with_reducible first | exact Ext.refl _ | apply Ext.alloc | apply Ext.aft | apply Ext.drew | apply Ext.drewN | apply Ext.setCell | exact Nat.le_add_right _ _ | exact Nat.le_refl _ | (simp; done) | omega))⟩
theorem pairF_cases (p v u n q v2 u2 n2 : Int) : pairF p v u n q v2 u2 n2 = 1 ∨ pairF p v u n q v2 u2 n2 = 5 ∨ (pairF p v u n q v2 u2 n2 = 0 ∧ padicB p v u n = true ∧ padicB q v2 u2 n2 = true ∧ p = q) := by
  unfold pairF; split
  · rename_i h
    split
    · exact .inr (.inr ⟨rfl, h.1, h.2, ‹_›⟩)
    · simp
  · simp

/-- A product, which need not be valid. -/
def mulF (p v u n v2 u2 n2 : Int) : Pd := ⟨p, v + v2, if min n n2 = 0 then 0 else u % p ^ (min n n2).toNat * (u2 % p ^ (min n n2).toNat) % p ^ (min n n2).toNat, min n n2⟩

theorem mul_mod_bd {a b m : Int} (hm : 1 ≤ m) (hm2 : m ≤ 1000000000) : 0 ≤ a % m ∧ a % m < m ∧ 0 ≤ b % m ∧ b % m < m ∧ 0 ≤ a % m * (b % m) ∧ a % m * (b % m) ≤ 1000000000000000000 := by
  have h1 := Int.emod_nonneg a (show m ≠ 0 by omega)
  have h2 := Int.emod_lt_of_pos a (show 0 < m by omega)
  have h3 := Int.emod_nonneg b (show m ≠ 0 by omega)
  have h4 := Int.emod_lt_of_pos b (show 0 < m by omega)
  have h5 := Int.mul_nonneg h1 h3
  have h6 : a % m * (b % m) ≤ 1000000000 * 1000000000 := Int.mul_le_mul (by omega) (by omega) h3 (by omega)
  exact ⟨h1, h2, h3, h4, h5, by omega⟩

set_option maxHeartbeats 2000000 in
theorem i_multiply (p v u n v2 u2 n2 : Int) (w : World) (h1 : padicB p v u n = true) (h2 : padicB p v2 u2 n2 = true) :
    Calls Try.prog 56 #[(.agg #[.int .i64 p, .int .i64 v, .int .i64 u, .int .i64 n]), (.agg #[.int .i64 p, .int .i64 v2, .int .i64 u2, .int .i64 n2])] w fun e w' => e = .returned (.agg #[.int .i64 (mulF p v u n v2 u2 n2).p, .int .i64 (mulF p v u n v2 u2 n2).v, .int .i64 (mulF p v u n v2 u2 n2).u, .int .i64 (mulF p v u n v2 u2 n2).n]) ∧ Below w.heap.size w w' := by
  obtain ⟨hp, hv, hu, hn, hb⟩ := padic_facts h1
  obtain ⟨_, hv2, hu2, hn2, hb2⟩ := padic_facts h2
  have key : ∀ k : Int, k = min n n2 → 0 ≤ k → k ≤ n → (mulF p v u n v2 u2 n2) = ⟨p, v + v2, if k = 0 then 0 else u % p ^ k.toNat * (u2 % p ^ k.toNat) % p ^ k.toNat, k⟩ ∧ 1 ≤ p ^ k.toNat ∧ p ^ k.toNat ≤ 1000000000 := by
    intro k hk h0 hkn
    refine ⟨by unfold mulF; rw [hk], pow_pos' (by omega) _, ?_⟩
    have := pow_mono (show 1 ≤ p by omega) (show k.toNat ≤ n.toNat by omega)
    omega
  rcases (show n ≤ n2 ∨ n2 < n by omega) with hle | hle
  · obtain ⟨e, hpk, hpk2⟩ := key n (by omega) hn.1 (by omega)
    have hm := mul_mod_bd (a := u) (b := u2) hpk hpk2
    have hq : 0 ≤ u % p ^ n.toNat * (u2 % p ^ n.toNat) % p ^ n.toNat := Int.emod_nonneg _ (by omega)
    have Hb := hid (show p ^ n.toNat ≤ 4000000000000000000 by omega)
    clear hb hb2 key
    by_cases h0 : n = 0
    · rw [if_pos h0] at e
      rw [e]; clear e
      have h0' : (n == 0) = true := by simp [h0]
      have h0'' : ¬ 0 < n := by omega
      clear h0
      go_enter Try.func56, Try.ntmps56
      go_wp2_with (first | (go_at_call 64; refine pur (i_power _ _ _ (by omega) (by omega) Hb.out) ?_) | (go_at_call 31; refine via (i_isZero _ _ _ _ _) ?_; intro uu zz; try simp at zz))
      exact bodyPost_ret (v := .agg #[.int .i64 p, .int .i64 (v + v2), .int .i64 0, .int .i64 n]) (by first | (simp [results, go_sem]; done) | simp [results, go_sem, ↓IntWalk.iteOmega]) rfl ⟨rfl, (by refine Ext.bel ?_; repeat (with_reducible first | exact Ext.refl _ | apply Ext.alloc | apply Ext.aft | apply Ext.drew | apply Ext.drewN | apply Ext.setCell | exact Nat.le_add_right _ _ | exact Nat.le_refl _ | (simp; done) | omega))⟩
    · rw [if_neg h0] at e
      rw [e]; clear e
      have h0' : (n == 0) = false := by simp [h0]
      have h0'' : 0 < n := by omega
      clear h0
      go_enter Try.func56, Try.ntmps56
      go_wp2_with (first | (go_at_call 64; refine pur (i_power _ _ _ (by omega) (by omega) Hb.out) ?_) | (go_at_call 31; refine via (i_isZero _ _ _ _ _) ?_; intro uu zz; try simp at zz))
      refine wp_region_calm_tail 12 (by kernel_rfl) (by kernel_rfl) ?_
      simp only [List.take_succ_cons, List.take_zero, List.drop_succ_cons, List.drop_zero]
      repeat (go_big_quiet_step (fail))
      refine wpQuiet_nil ?_; intro uq zq; try simp at zq
      go_wp2
      exact bodyPost_ret (v := .agg #[.int .i64 p, .int .i64 (v + v2), .int .i64 (u % p ^ n.toNat * (u2 % p ^ n.toNat) % p ^ n.toNat), .int .i64 n]) (by first | (simp [results, go_sem]; done) | simp [results, go_sem, ↓IntWalk.iteOmega]) rfl ⟨rfl, (by refine Ext.bel ?_; repeat (with_reducible first | exact Ext.refl _ | apply Ext.alloc | apply Ext.aft | apply Ext.drew | apply Ext.drewN | apply Ext.setCell | exact Nat.le_add_right _ _ | exact Nat.le_refl _ | (simp; done) | omega))⟩
  · obtain ⟨e, hpk, hpk2⟩ := key n2 (by omega) hn2.1 (by omega)
    have hm := mul_mod_bd (a := u) (b := u2) hpk hpk2
    have hq : 0 ≤ u % p ^ n2.toNat * (u2 % p ^ n2.toNat) % p ^ n2.toNat := Int.emod_nonneg _ (by omega)
    have Hb := hid (show p ^ n2.toNat ≤ 4000000000000000000 by omega)
    clear hb hb2 key
    by_cases h0 : n2 = 0
    · rw [if_pos h0] at e
      rw [e]; clear e
      have h0' : (n2 == 0) = true := by simp [h0]
      have h0'' : ¬ 0 < n2 := by omega
      clear h0
      go_enter Try.func56, Try.ntmps56
      go_wp2_with (first | (go_at_call 64; refine pur (i_power _ _ _ (by omega) (by omega) Hb.out) ?_) | (go_at_call 31; refine via (i_isZero _ _ _ _ _) ?_; intro uu zz; try simp at zz))
      exact bodyPost_ret (v := .agg #[.int .i64 p, .int .i64 (v + v2), .int .i64 0, .int .i64 n2]) (by first | (simp [results, go_sem]; done) | simp [results, go_sem, ↓IntWalk.iteOmega]) rfl ⟨rfl, (by refine Ext.bel ?_; repeat (with_reducible first | exact Ext.refl _ | apply Ext.alloc | apply Ext.aft | apply Ext.drew | apply Ext.drewN | apply Ext.setCell | exact Nat.le_add_right _ _ | exact Nat.le_refl _ | (simp; done) | omega))⟩
    · rw [if_neg h0] at e
      rw [e]; clear e
      have h0' : (n2 == 0) = false := by simp [h0]
      have h0'' : 0 < n2 := by omega
      clear h0
      go_enter Try.func56, Try.ntmps56
      go_wp2_with (first | (go_at_call 64; refine pur (i_power _ _ _ (by omega) (by omega) Hb.out) ?_) | (go_at_call 31; refine via (i_isZero _ _ _ _ _) ?_; intro uu zz; try simp at zz))
      refine wp_region_calm_tail 12 (by kernel_rfl) (by kernel_rfl) ?_
      simp only [List.take_succ_cons, List.take_zero, List.drop_succ_cons, List.drop_zero]
      repeat (go_big_quiet_step (fail))
      refine wpQuiet_nil ?_; intro uq zq; try simp at zq
      go_wp2
      exact bodyPost_ret (v := .agg #[.int .i64 p, .int .i64 (v + v2), .int .i64 (u % p ^ n2.toNat * (u2 % p ^ n2.toNat) % p ^ n2.toNat), .int .i64 n2]) (by first | (simp [results, go_sem]; done) | simp [results, go_sem, ↓IntWalk.iteOmega]) rfl ⟨rfl, (by refine Ext.bel ?_; repeat (with_reducible first | exact Ext.refl _ | apply Ext.alloc | apply Ext.aft | apply Ext.drew | apply Ext.drewN | apply Ext.setCell | exact Nat.le_add_right _ _ | exact Nat.le_refl _ | (simp; done) | omega))⟩

set_option maxHeartbeats 2000000 in
theorem s_multiply (p v u n v2 u2 n2 : Int) (w : World) (h1 : padicB p v u n = true) (h2 : padicB p v2 u2 n2 = true) :
    Calls Try.prog 30 #[(.agg #[.int .i64 p, .int .i64 v, .int .i64 u, .int .i64 n]), (.agg #[.int .i64 p, .int .i64 v2, .int .i64 u2, .int .i64 n2])] w fun e w' => e = .returned (.agg #[.int .i64 (mulF p v u n v2 u2 n2).p, .int .i64 (mulF p v u n v2 u2 n2).v, .int .i64 (mulF p v u n v2 u2 n2).u, .int .i64 (mulF p v u n v2 u2 n2).n]) ∧ Below w.heap.size w w' := by
  obtain ⟨hp, hv, hu, hn, hb⟩ := padic_facts h1
  obtain ⟨_, hv2, hu2, hn2, hb2⟩ := padic_facts h2
  have key : ∀ k : Int, k = min n n2 → 0 ≤ k → k ≤ n → (mulF p v u n v2 u2 n2) = ⟨p, v + v2, if k = 0 then 0 else u % p ^ k.toNat * (u2 % p ^ k.toNat) % p ^ k.toNat, k⟩ ∧ 1 ≤ p ^ k.toNat ∧ p ^ k.toNat ≤ 1000000000 := by
    intro k hk h0 hkn
    refine ⟨by unfold mulF; rw [hk], pow_pos' (by omega) _, ?_⟩
    have := pow_mono (show 1 ≤ p by omega) (show k.toNat ≤ n.toNat by omega)
    omega
  rcases (show n ≤ n2 ∨ n2 < n by omega) with hle | hle
  · obtain ⟨e, hpk, hpk2⟩ := key n (by omega) hn.1 (by omega)
    have hm := mul_mod_bd (a := u) (b := u2) hpk hpk2
    have hq : 0 ≤ u % p ^ n.toNat * (u2 % p ^ n.toNat) % p ^ n.toNat := Int.emod_nonneg _ (by omega)
    have Hb := hid (show p ^ n.toNat ≤ 4000000000000000000 by omega)
    clear hb hb2 key
    by_cases h0 : n = 0
    · rw [if_pos h0] at e
      rw [e]; clear e
      have h0' : (n == 0) = true := by simp [h0]
      have h0'' : ¬ 0 < n := by omega
      clear h0
      go_enter Try.func30, Try.ntmps30
      go_wp2_with (first | (go_at_call 62; refine pur (s_modulus _ _ _ (by omega) (by omega) (by omega)) ?_))
      exact bodyPost_ret (v := .agg #[.int .i64 p, .int .i64 (v + v2), .int .i64 0, .int .i64 n]) (by first | (simp [results, go_sem]; done) | simp [results, go_sem, ↓IntWalk.iteOmega]) rfl ⟨rfl, (by refine Ext.bel ?_; repeat (with_reducible first | exact Ext.refl _ | apply Ext.alloc | apply Ext.aft | apply Ext.drew | apply Ext.drewN | apply Ext.setCell | exact Nat.le_add_right _ _ | exact Nat.le_refl _ | (simp; done) | omega))⟩
    · rw [if_neg h0] at e
      rw [e]; clear e
      have h0' : (n == 0) = false := by simp [h0]
      have h0'' : 0 < n := by omega
      clear h0
      have em : modu p n = p ^ n.toNat := by unfold modu; rw [if_pos hpk2]
      rw [← em] at hpk hpk2 hm hq ⊢
      clear em Hb
      go_enter Try.func30, Try.ntmps30
      go_wp2_with (first | (go_at_call 62; refine pur (s_modulus _ _ _ (by omega) (by omega) (by omega)) ?_))
      refine wp_region_calm_tail 12 (by kernel_rfl) (by kernel_rfl) ?_
      simp only [List.take_succ_cons, List.take_zero, List.drop_succ_cons, List.drop_zero]
      repeat (go_big_quiet_step (fail))
      refine wpQuiet_nil ?_; intro uq zq; try simp at zq
      go_wp2
      exact bodyPost_ret (v := .agg #[.int .i64 p, .int .i64 (v + v2), .int .i64 (u % modu p n * (u2 % modu p n) % modu p n), .int .i64 n]) (by first | (simp [results, go_sem]; done) | simp [results, go_sem, ↓IntWalk.iteOmega]) rfl ⟨rfl, (by refine Ext.bel ?_; repeat (with_reducible first | exact Ext.refl _ | apply Ext.alloc | apply Ext.aft | apply Ext.drew | apply Ext.drewN | apply Ext.setCell | exact Nat.le_add_right _ _ | exact Nat.le_refl _ | (simp; done) | omega))⟩
  · obtain ⟨e, hpk, hpk2⟩ := key n2 (by omega) hn2.1 (by omega)
    have hm := mul_mod_bd (a := u) (b := u2) hpk hpk2
    have hq : 0 ≤ u % p ^ n2.toNat * (u2 % p ^ n2.toNat) % p ^ n2.toNat := Int.emod_nonneg _ (by omega)
    have Hb := hid (show p ^ n2.toNat ≤ 4000000000000000000 by omega)
    clear hb hb2 key
    by_cases h0 : n2 = 0
    · rw [if_pos h0] at e
      rw [e]; clear e
      have h0' : (n2 == 0) = true := by simp [h0]
      have h0'' : ¬ 0 < n2 := by omega
      clear h0
      go_enter Try.func30, Try.ntmps30
      go_wp2_with (first | (go_at_call 62; refine pur (s_modulus _ _ _ (by omega) (by omega) (by omega)) ?_))
      exact bodyPost_ret (v := .agg #[.int .i64 p, .int .i64 (v + v2), .int .i64 0, .int .i64 n2]) (by first | (simp [results, go_sem]; done) | simp [results, go_sem, ↓IntWalk.iteOmega]) rfl ⟨rfl, (by refine Ext.bel ?_; repeat (with_reducible first | exact Ext.refl _ | apply Ext.alloc | apply Ext.aft | apply Ext.drew | apply Ext.drewN | apply Ext.setCell | exact Nat.le_add_right _ _ | exact Nat.le_refl _ | (simp; done) | omega))⟩
    · rw [if_neg h0] at e
      rw [e]; clear e
      have h0' : (n2 == 0) = false := by simp [h0]
      have h0'' : 0 < n2 := by omega
      clear h0
      have em : modu p n2 = p ^ n2.toNat := by unfold modu; rw [if_pos hpk2]
      rw [← em] at hpk hpk2 hm hq ⊢
      clear em Hb
      go_enter Try.func30, Try.ntmps30
      go_wp2_with (first | (go_at_call 62; refine pur (s_modulus _ _ _ (by omega) (by omega) (by omega)) ?_))
      refine wp_region_calm_tail 12 (by kernel_rfl) (by kernel_rfl) ?_
      simp only [List.take_succ_cons, List.take_zero, List.drop_succ_cons, List.drop_zero]
      repeat (go_big_quiet_step (fail))
      refine wpQuiet_nil ?_; intro uq zq; try simp at zq
      go_wp2
      exact bodyPost_ret (v := .agg #[.int .i64 p, .int .i64 (v + v2), .int .i64 (u % modu p n2 * (u2 % modu p n2) % modu p n2), .int .i64 n2]) (by first | (simp [results, go_sem]; done) | simp [results, go_sem, ↓IntWalk.iteOmega]) rfl ⟨rfl, (by refine Ext.bel ?_; repeat (with_reducible first | exact Ext.refl _ | apply Ext.alloc | apply Ext.aft | apply Ext.drew | apply Ext.drewN | apply Ext.setCell | exact Nat.le_add_right _ _ | exact Nat.le_refl _ | (simp; done) | omega))⟩

def mulpF (p v u n q v2 u2 n2 : Int) : Pd × Int := if pairF p v u n q v2 u2 n2 = 0 then limF (mulF p v u n v2 u2 n2) else (⟨0, 0, 0, 0⟩, pairF p v u n q v2 u2 n2)
set_option maxHeartbeats 1000000 in
theorem i_MultiplyPadics (p v u n q v2 u2 n2 : Int) (w : World) :
    Calls Try.prog 18 #[(.agg #[.int .i64 p, .int .i64 v, .int .i64 u, .int .i64 n]), (.agg #[.int .i64 q, .int .i64 v2, .int .i64 u2, .int .i64 n2])] w fun e w' => e = .returned (.tuple #[.agg #[.int .i64 (mulpF p v u n q v2 u2 n2).1.p, .int .i64 (mulpF p v u n q v2 u2 n2).1.v, .int .i64 (mulpF p v u n q v2 u2 n2).1.u, .int .i64 (mulpF p v u n q v2 u2 n2).1.n], .int .i64 (mulpF p v u n q v2 u2 n2).2]) ∧ Below w.heap.size w w' := by
  rcases pairF_cases p v u n q v2 u2 n2 with h | h | ⟨h, h1, h2, h3⟩
  · have e : (mulpF p v u n q v2 u2 n2) = (⟨0, 0, 0, 0⟩, 1) := by unfold mulpF; rw [if_neg (by omega), h]
    rw [e]; clear e
    go_enter Try.func18, Try.ntmps18
    go_wp2_with fail
    refine via (i_pair _ _ _ _ _ _ _ _ _) ?_
    rw [h]; clear h; intro uu zz; try simp at zz
    go_wp2_with fail
    exact bodyPost_ret (v := .tuple #[(.agg #[.int .i64 0, .int .i64 0, .int .i64 0, .int .i64 0]), .int .i64 1]) (by first | (simp [results, go_sem]; done) | simp [results, go_sem, ↓IntWalk.iteOmega]) rfl ⟨rfl, (by refine Ext.bel ?_; repeat (with_reducible first | exact Ext.refl _ | apply Ext.alloc | apply Ext.aft | apply Ext.drew | apply Ext.drewN | apply Ext.setCell | exact Nat.le_add_right _ _ | exact Nat.le_refl _ | (simp; done) | omega))⟩
  · have e : (mulpF p v u n q v2 u2 n2) = (⟨0, 0, 0, 0⟩, 5) := by unfold mulpF; rw [if_neg (by omega), h]
    rw [e]; clear e
    go_enter Try.func18, Try.ntmps18
    go_wp2_with fail
    refine via (i_pair _ _ _ _ _ _ _ _ _) ?_
    rw [h]; clear h; intro uu zz; try simp at zz
    go_wp2_with fail
    exact bodyPost_ret (v := .tuple #[(.agg #[.int .i64 0, .int .i64 0, .int .i64 0, .int .i64 0]), .int .i64 5]) (by first | (simp [results, go_sem]; done) | simp [results, go_sem, ↓IntWalk.iteOmega]) rfl ⟨rfl, (by refine Ext.bel ?_; repeat (with_reducible first | exact Ext.refl _ | apply Ext.alloc | apply Ext.aft | apply Ext.drew | apply Ext.drewN | apply Ext.setCell | exact Nat.le_add_right _ _ | exact Nat.le_refl _ | (simp; done) | omega))⟩
  · have e : (mulpF p v u n q v2 u2 n2) = (limF (mulF p v u n v2 u2 n2)) := by unfold mulpF; rw [if_pos h]
    rw [e]; clear e
    subst h3
    have H1 := hid h1
    have H2 := hid h2
    clear h1 h2
    go_enter Try.func18, Try.ntmps18
    go_wp2_with fail
    refine via (i_pair _ _ _ _ _ _ _ _ _) ?_
    rw [h]; clear h; intro uu zz; try simp at zz
    go_wp2_with (first | (go_at_call 56; refine via (i_multiply _ _ _ _ _ _ _ _ H1.out H2.out) ?_; intro uu zz; try simp at zz) | (go_at_call 55; refine via (i_orLimit _ _ _ _ _) ?_; intro uu zz; try simp at zz))
    exact bodyPost_ret (v := (.tuple #[.agg #[.int .i64 (limF (mulF p v u n v2 u2 n2)).1.p, .int .i64 (limF (mulF p v u n v2 u2 n2)).1.v, .int .i64 (limF (mulF p v u n v2 u2 n2)).1.u, .int .i64 (limF (mulF p v u n v2 u2 n2)).1.n], .int .i64 (limF (mulF p v u n v2 u2 n2)).2])) (by first | (simp [results, go_sem]; done) | simp [results, go_sem, ↓IntWalk.iteOmega]) rfl ⟨rfl, (by refine Ext.bel ?_; repeat (with_reducible first | exact Ext.refl _ | apply Ext.alloc | apply Ext.aft | apply Ext.drew | apply Ext.drewN | apply Ext.setCell | exact Nat.le_add_right _ _ | exact Nat.le_refl _ | (simp; done) | omega))⟩
end Go.Proofs.Ytdeehgcabnoclaa
