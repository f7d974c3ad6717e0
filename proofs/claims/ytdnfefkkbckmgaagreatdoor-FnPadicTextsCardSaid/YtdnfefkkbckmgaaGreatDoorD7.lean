/- Sums: a number of which the digits below an end are known, the statement's text. -/
import Derived.Test.YtdnfefkkbckmgaaGreatDoorD6
namespace Go.Proofs.YtdnfefkkbckmgaaGreatDoor
open Go Go.RowKit

set_option maxHeartbeats 2000000 in
theorem s_make (p v n e : Int) (w : World) (hp : 2 ≤ p ∧ p ≤ 97) (hv : -1000 ≤ v ∧ v ≤ 1000) (hn : 0 ≤ n ∧ n ≤ 4000000000000000000) (he : -1000 ≤ e ∧ e ≤ 1000) (hb : v < e → p ^ (e - v).toNat ≤ 1000000000) :
    Calls Tryz.prog 37 #[.int .i64 p, .int .i64 v, .int .i64 n, .int .i64 e] w fun e1 w' => e1 = .returned (.agg #[.int .i64 (makeF p v n e).p, .int .i64 (makeF p v n e).v, .int .i64 (makeF p v n e).u, .int .i64 (makeF p v n e).n]) ∧ Below w.heap.size w w' := by
  by_cases h0 : e ≤ v
  · have ee : (makeF p v n e) = ⟨p, e, 0, 0⟩ := by unfold makeF; rw [if_pos h0]
    rw [ee]; clear ee hb
    go_enter Tryz.func37, Tryz.ntmps37
    go_wp2
    exact bodyPost_ret (v := .agg #[.int .i64 p, .int .i64 e, .int .i64 0, .int .i64 0]) (by first | (simp [results, go_sem]; done) | simp [results, go_sem, ↓IntWalk.iteOmega]) rfl ⟨rfl, (by refine Ext.bel ?_; repeat (with_reducible first | exact Ext.refl _ | apply Ext.alloc | apply Ext.aft | apply Ext.drew | apply Ext.drewN | apply Ext.setCell | exact Nat.le_add_right _ _ | exact Nat.le_refl _ | (simp; done) | omega))⟩
  have hb' := hb (by omega)
  clear hb
  have h1 := pow_pos' (show 1 ≤ p by omega) (e - v).toNat
  have hM : modu p (e - v) = p ^ (e - v).toNat := by unfold modu; rw [if_pos hb']
  obtain ⟨r, hr⟩ : ∃ r, r = n % p ^ (e - v).toNat := ⟨_, rfl⟩
  have hr1 := Int.emod_nonneg n (show p ^ (e - v).toNat ≠ 0 by omega)
  have hr2 := Int.emod_lt_of_pos n (show 0 < p ^ (e - v).toNat by omega)
  rw [← hr] at hr1 hr2
  have hm1 : 1 ≤ modu p (e - v) ∧ modu p (e - v) ≤ 1000000000 := by omega
  have hR : 0 ≤ r ∧ r ≤ 1000000000 := by omega
  have HR := hid (show n % modu p (e - v) = r by rw [hM, hr])
  by_cases hz : r = 0
  · have ee : (makeF p v n e) = ⟨p, e, 0, 0⟩ := by
      unfold makeF; rw [if_neg h0, ← hr]; unfold knownF; rw [if_pos hz, show v + (e - v) = e by omega]
    rw [ee]; clear ee hr hr1 hr2 hM h1 hb'
    go_enter Tryz.func37, Tryz.ntmps37
    go_wp2_with (go_at_call 35; refine pur (s_modulus _ _ _ (by omega) (by omega) (by omega)) ?_)
    refine pur (s_mod _ _ _ (by omega) (by omega)) ?_
    rw [HR.out]
    subst hz
    go_wp2
    exact bodyPost_ret (v := .agg #[.int .i64 p, .int .i64 e, .int .i64 0, .int .i64 0]) (by first | (simp [results, go_sem]; done) | simp [results, go_sem, ↓IntWalk.iteOmega]) rfl ⟨rfl, (by refine Ext.bel ?_; repeat (with_reducible first | exact Ext.refl _ | apply Ext.alloc | apply Ext.aft | apply Ext.drew | apply Ext.drewN | apply Ext.setCell | exact Nat.le_add_right _ _ | exact Nat.le_refl _ | (simp; done) | omega))⟩
  have ee : (makeF p v n e) = ⟨p, v + vl r p, r / p ^ vl r p, e - v - vl r p⟩ := by
    unfold makeF; rw [if_neg h0, ← hr]; unfold knownF; rw [if_neg hz]
  rw [ee]; clear ee hr hr1 hr2 hM h1 hb'
  obtain ⟨h1, h2, h3, h4, h5⟩ := vl_pow_bd (p := p) hp.1 hz
  have h6 := pow_gt p hp.1 (vl r p)
  have hk : (vl r p : Int) ≤ 1000000000 := by omega
  have H0 := hid hz
  have hz' : (r == 0) = false := by simp [hz]
  clear hz h1 h2 h3 h4 h5 h6
  go_enter Tryz.func37, Tryz.ntmps37
  go_wp2_with (go_at_call 35; refine pur (s_modulus _ _ _ (by omega) (by omega) (by omega)) ?_)
  refine pur (s_mod _ _ _ (by omega) (by omega)) ?_
  rw [HR.out]
  go_wp2_with (go_at_call 64; refine pur (s_val _ _ _ (by omega) (by omega) H0.out (by omega)) ?_)
  clear hm1 HR H0
  go_loop [2, 11] (fun s i => ∃ (a : Int) (k : Nat), s = .int .i64 a ∧ i = .int .i64 k ∧ a = r / p ^ k ∧ (k ≤ vl r p ∧ (0 ≤ a ∧ a ≤ 1000000000))) (fun _ i => vl r p - (intOf i).toNat)
  case atStart => exact ⟨r, 0, rfl, rfl, by simp, by omega, hR⟩
  case round =>
    obtain ⟨a, k, rfl, rfl, he2, hk2, ha⟩ := hrel
    by_cases hlt : k < vl r p
    · have hlt' : (k : Int) < (vl r p : Int) := by omega
      have ht : a.tdiv p = a / p := Int.tdiv_eq_ediv_of_nonneg ha.1
      have hq : 0 ≤ a / p ∧ a / p ≤ a := ⟨Int.ediv_nonneg ha.1 (by omega), Int.ediv_le_self _ ha.1⟩
      have hq2 : 0 ≤ a.tdiv p ∧ a.tdiv p ≤ 1000000000 := by rw [ht]; omega
      have HN := hid (show a.tdiv p = r / p ^ (k + 1) by rw [ht, he2, Int.pow_succ, Int.ediv_ediv_of_nonneg (by have := pow_pos' (show 1 ≤ p by omega) k; omega)])
      clear ht hq he2
      go_wp2
      go_round
      case rel => exact ⟨a.tdiv p, k + 1, rfl, by go_num, HN.out, by omega, hq2⟩
      case measure => simp only [intOf]; omega
    · have hke : k = vl r p := by omega
      subst hke
      have HE := hid he2
      have hlt' : ¬ (vl r p : Int) < (vl r p : Int) := by omega
      clear he2 hlt hk2
      go_wp2
      exact bodyPost_ret (v := .agg #[.int .i64 p, .int .i64 (v + vl r p), .int .i64 a, .int .i64 (e - v - vl r p)]) (by first | (simp [results, go_sem]; done) | simp [results, go_sem, ↓IntWalk.iteOmega]) rfl ⟨by rw [HE.out], (by refine Ext.bel ?_; repeat (with_reducible first | exact Ext.refl _ | apply Ext.alloc | apply Ext.aft | apply Ext.drew | apply Ext.drewN | apply Ext.setCell | exact Nat.le_add_right _ _ | exact Nat.le_refl _ | (simp; done) | omega))⟩
end Go.Proofs.YtdnfefkkbckmgaaGreatDoor
