/- FindRational: the program's text. -/
import Derived.Test.YtehdkbopkkgabaaT57
import Derived.Test.YtehdkbopkkgabaaT60
namespace Go.Proofs.Ytehdkbopkkgabaa
open Go Go.RowKit

theorem mulUp_pos {k p x : Int} (hk : 0 < k) : mulUp k.toNat p x = if inB (x * p) (-1000000000000) 1000000000000 then mulUp (k - 1).toNat p (x * p) else none := by
  rw [show k.toNat = (k - 1).toNat + 1 by omega]
  rfl
theorem mulUp_stop {k p x : Int} (hk : k ≤ 0) : mulUp k.toNat p x = some x := by
  rw [show k.toNat = 0 by omega]
  rfl
theorem mul_val {x p : Int} (hx : -1000000000000 ≤ x ∧ x ≤ 1000000000000) (hp : 2 ≤ p ∧ p ≤ 97) : -97000000000000 ≤ x * p ∧ x * p ≤ 97000000000000 := by
  rcases Int.le_total 0 x with h | h
  · have := Int.mul_le_mul hx.2 hp.2 (by omega) (by omega)
    have := Int.mul_nonneg h (show 0 ≤ p by omega)
    omega
  · have a1 := Int.mul_le_mul (show -x ≤ 1000000000000 by omega) hp.2 (by omega) (by omega)
    have a2 := Int.mul_nonneg (show 0 ≤ -x by omega) (show 0 ≤ p by omega)
    rw [Int.neg_mul] at a1 a2
    omega
theorem cand_unit {p x m B : Int} (hs : smallP p = true) (hpm : p ∣ m) (hB : 0 ≤ B) (hBm : 2 * (B * B) < m) (hx : 0 ≤ x ∧ x < m) (hu : ¬ x % p = 0) (h : candOk x m B = true) :
    (1 ≤ (candF x m B).2 ∧ (candF x m B).2 ≤ B) ∧ (-B ≤ (candF x m B).1 ∧ (candF x m B).1 ≤ B) ∧ ¬ (candF x m B).1 % p = 0 ∧ ¬ (candF x m B).2 % p = 0 ∧ goodD p x m B (candF x m B).2 = true ∧ balF x (candF x m B).2 m = (candF x m B).1 := by
  have hp := smallP_bd hs
  obtain ⟨h1, h2, h3, h4⟩ := cand_good hp.1 hpm hB hBm hx h
  have h3' := h3
  unfold goodD at h3
  rw [h4] at h3
  simp only [Bool.and_eq_true, decide_eq_true_eq, Bool.not_eq_true', decide_eq_false_iff_not] at h3
  obtain ⟨⟨⟨g1, g2⟩, g3⟩, g4⟩ := h3
  refine ⟨⟨h1, h2⟩, ⟨g1, g2⟩, ?_, g4, h3', h4⟩
  intro hz
  have d1 : p ∣ (candF x m B).1 := Int.dvd_of_emod_eq_zero hz
  have d2 := bal_dvd x (candF x m B).2 m
  rw [h4] at d2
  have d3 : p ∣ x * (candF x m B).2 := by
    have := Int.dvd_sub d1 (Int.dvd_trans hpm d2)
    rwa [show (candF x m B).1 - ((candF x m B).1 - x * (candF x m B).2) = x * (candF x m B).2 by omega] at this
  have hc := gcd_pow hs hu 1
  rw [Int.pow_succ, Int.pow_zero, Int.one_mul] at hc
  have hcop : Nat.Coprime p.natAbs x.natAbs := by
    unfold Int.gcd at hc
    rw [Nat.coprime_comm]
    exact hc
  have d4 : p.natAbs ∣ x.natAbs * (candF x m B).2.natAbs := by
    rw [← Int.natAbs_mul]; exact Int.natAbs_dvd_natAbs.2 d3
  have d5 := hcop.dvd_of_dvd_mul_left d4
  exact g4 (Int.emod_eq_zero_of_dvd (Int.natAbs_dvd_natAbs.1 d5))

/-- What FindRational goes by. -/
theorem find_facts {p v u n : Int} (h : padicB p v u n = true) (h0 : n ≠ 0) : smallP p = true ∧ ringB p n = true ∧ (0 ≤ u ∧ u < p ^ n.toNat) ∧ ¬ u % p = 0 ∧ p ∣ p ^ n.toNat ∧ (2 ≤ p ^ n.toNat ∧ p ^ n.toNat ≤ 1000000000) ∧ isB (p ^ n.toNat) (bndF (p ^ n.toNat)) := by
  obtain ⟨hr, hu, hun⟩ := padic_unit' h h0
  have a := ringB_iff.1 hr
  have hp := smallP_bd a.1
  have hM := pow_mono (show 1 ≤ p by omega) (show 1 ≤ n.toNat by omega)
  rw [Int.pow_succ, Int.pow_zero, Int.one_mul] at hM
  have hd : p ∣ p ^ n.toNat := ⟨p ^ (n.toNat - 1), by rw [Int.mul_comm, ← Int.pow_succ]; congr 1; omega⟩
  exact ⟨a.1, hr, by omega, hun, hd, by omega, bndF_is (by omega) (by omega)⟩

set_option maxRecDepth 20000 in
set_option maxHeartbeats 4000000 in
theorem i_FindRational (p v u n : Int) (w : World) :
    Calls Try.prog 43 #[(.agg #[.int .i64 p, .int .i64 v, .int .i64 u, .int .i64 n])] w fun e w' => e = .returned (.tuple #[.agg #[.int .i64 (frtF p v u n).1, .int .i64 (frtF p v u n).2.1], .int .i64 (frtF p v u n).2.2]) ∧ Below w.heap.size w w' := by
  cases h : padicB p v u n
  · have e : (frtF p v u n) = (0, 0, 1) := by simp [frtF, h]
    rw [e]; clear e
    go_enter Try.func43, Try.ntmps43
    go_wp2_with (go_at_call 62; refine via (i_IsPadic _ _ _ _ _) ?_; intro uu zz; try simp at zz)
    exact bodyPost_ret (v := .tuple #[.agg #[.int .i64 0, .int .i64 0], .int .i64 1]) (by first | (simp [results, go_sem]; done) | simp [results, go_sem, ↓IntWalk.iteOmega]) rfl ⟨rfl, (by refine Ext.bel ?_; repeat (with_reducible first | exact Ext.refl _ | apply Ext.alloc | apply Ext.aft | apply Ext.drew | apply Ext.drewN | apply Ext.setCell | exact Nat.le_add_right _ _ | exact Nat.le_refl _ | (simp; done) | omega))⟩
  obtain ⟨hp, hv, hu, hn, hb⟩ := padic_facts h
  by_cases h0 : n = 0
  · have e : (frtF p v u n) = (0, 0, 4) := by unfold frtF; rw [if_pos h, if_pos h0]
    rw [e]; clear e hb
    subst h0
    go_enter Try.func43, Try.ntmps43
    go_wp2_with (first | (go_at_call 62; refine via (i_IsPadic _ _ _ _ _) ?_; intro uu zz; try simp at zz) | (go_at_call 108; refine via (i_isZero _ _ _ _ _) ?_; intro uu zz; try simp at zz))
    exact bodyPost_ret (v := .tuple #[.agg #[.int .i64 0, .int .i64 0], .int .i64 4]) (by first | (simp [results, go_sem]; done) | simp [results, go_sem, ↓IntWalk.iteOmega]) rfl ⟨rfl, (by refine Ext.bel ?_; repeat (with_reducible first | exact Ext.refl _ | apply Ext.alloc | apply Ext.aft | apply Ext.drew | apply Ext.drewN | apply Ext.setCell | exact Nat.le_add_right _ _ | exact Nat.le_refl _ | (simp; done) | omega))⟩
  obtain ⟨hs, hr, hum, hun, hpm, hm, hB⟩ := find_facts h h0
  have hz : (n == 0) = false := by simpa using h0
  have Hr := hid hr
  obtain ⟨M, hM⟩ : ∃ M, M = p ^ n.toNat := ⟨_, rfl⟩
  have HMod : Hid (∀ W : World, Calls Try.prog 111 #[(.agg #[.int .i64 p, .int .i64 n])] W fun e w' => e = .returned (.int .i64 M) ∧ Below W.heap.size W w') := hid fun W => by rw [hM]; exact i_modulus p n W hr
  rw [← hM] at hum hpm hm hB
  have HR := hid (fun W => i_reconstruct u M W hum hm.1 hm.2)
  have hfr : (frtF p v u n) = if candOk u M (bndF M) = true then tailF p v (candF u M (bndF M)).1 (candF u M (bndF M)).2 else (0, 0, 4) := by unfold frtF; rw [if_pos h, if_neg h0, ← hM]
  obtain ⟨C, hC⟩ : ∃ C, C = candF u M (bndF M) := ⟨_, rfl⟩
  have hcu := @cand_unit p u M (bndF M) hs hpm (by omega) hB.1 hum hun
  have hB3 := hB.2.2
  rw [← hC] at HR hfr hcu
  obtain ⟨N, D⟩ := C
  simp only at HR hfr hcu
  clear hC hM hB hun hpm hr hs h0 hb
  cases hok : candOk u M (bndF M)
  · rw [hok] at HR hfr
    have e : (frtF p v u n) = (0, 0, 4) := by rw [hfr]; simp
    rw [e]; clear e hfr hcu hok
    go_enter Try.func43, Try.ntmps43
    go_wp2_with (first | (go_at_call 62; refine via (i_IsPadic _ _ _ _ _) ?_; intro uu zz; try simp at zz) | (go_at_call 108; refine via (i_isZero _ _ _ _ _) ?_; intro uu zz; try simp at zz))
    refine wp_region_calm (by kernel_rfl) (by kernel_rfl) ?_
    repeat (go_big_quiet_step (first | (go_at_call 110; exact calm (i_ring _ _ _ _ _)) | (go_at_call 111; exact calm (HMod.out _)) | (go_at_call 109; exact calm (HR.out _))))
    refine wpQuiet_nil ?_; intro uq zq; try simp at zq
    go_wp2_with fail
    exact bodyPost_ret (v := .tuple #[.agg #[.int .i64 0, .int .i64 0], .int .i64 4]) (by first | (simp [results, go_sem]; done) | simp [results, go_sem, ↓IntWalk.iteOmega]) rfl ⟨rfl, (by refine Ext.bel ?_; repeat (with_reducible first | exact Ext.refl _ | apply Ext.alloc | apply Ext.aft | apply Ext.drew | apply Ext.drewN | apply Ext.setCell | exact Nat.le_add_right _ _ | exact Nat.le_refl _ | (simp; done) | omega))⟩
  obtain ⟨hD, hN, hnp, hdp, _, _⟩ := hcu hok
  rw [hok] at HR hfr
  have e : (frtF p v u n) = tailF p v N D := by rw [hfr]; simp
  rw [e]; clear e hfr hcu hok
  have N1 : (N.tmod p == 0) = false := by rw [beq_eq_false_iff_ne]; exact fun h => hnp (tmod_zero_iff.1 h)
  have D1 : (D.tmod p == 0) = false := by rw [beq_eq_false_iff_ne]; exact fun h => hdp (tmod_zero_iff.1 h)
  have D2 : (D % p == 0) = false := by simpa using hdp
  clear hnp hdp
  go_enter Try.func43, Try.ntmps43
  go_wp2_with (first | (go_at_call 62; refine via (i_IsPadic _ _ _ _ _) ?_; intro uu zz; try simp at zz) | (go_at_call 108; refine via (i_isZero _ _ _ _ _) ?_; intro uu zz; try simp at zz))
  refine wp_region_calm (by kernel_rfl) (by kernel_rfl) ?_
  repeat (go_big_quiet_step (first | (go_at_call 110; exact calm (i_ring _ _ _ _ _)) | (go_at_call 111; exact calm (HMod.out _)) | (go_at_call 109; exact calm (HR.out _))))
  refine wpQuiet_nil ?_; intro uq zq; try simp at zq
  go_wp2_with fail
  go_loop [4, 7] (fun a c => ∃ x k : Int, a = .int .i64 x ∧ c = .int .i64 k ∧ (-60 ≤ k ∧ k ≤ 60) ∧ (-1000000000000 ≤ x ∧ x ≤ 1000000000000) ∧ mulUp k.toNat p x = mulUp v.toNat p N) (fun _ c => (intOf c).toNat)
  case atStart => exact ⟨N, v, rfl, rfl, hv, by omega, rfl⟩
  case round =>
    obtain ⟨x, k, rfl, rfl, hk, hx, hm1⟩ := hrel
    have hxp := mul_val hx hp
    by_cases hk0 : 0 < k
    · rw [mulUp_pos hk0] at hm1
      cases hin : inB (x * p) (-1000000000000) 1000000000000
      · rw [hin] at hm1
        have HN := hid hm1
        clear hm1
        go_wp2_with (go_at_call 76; refine pur (i_isValue _ _) ?_)
        exact bodyPost_ret (v := .tuple #[.agg #[.int .i64 0, .int .i64 0], .int .i64 3]) (by first | (simp [results, go_sem]; done) | simp [results, go_sem, ↓IntWalk.iteOmega]) rfl ⟨by unfold tailF; rw [← HN.out]; rfl, (by refine Ext.bel ?_; repeat (with_reducible first | exact Ext.refl _ | apply Ext.alloc | apply Ext.aft | apply Ext.drew | apply Ext.drewN | apply Ext.setCell | exact Nat.le_add_right _ _ | exact Nat.le_refl _ | (simp; done) | omega))⟩
      · rw [hin] at hm1
        have HN := hid hm1
        have hin2 := inB_iff.1 hin
        clear hm1
        go_wp2_with (go_at_call 76; refine pur (i_isValue _ _) ?_)
        go_round
        case rel => exact ⟨x * p, k - 1, by go_num, by go_num, by omega, by omega, HN.out⟩
        case measure => simp [intOf]; omega
    · rw [mulUp_stop (by omega)] at hm1
      have HN := hid hm1
      clear hm1
      go_wp2_with fail
      go_loop [5, 8] (fun a c => ∃ y k2 : Int, a = .int .i64 y ∧ c = .int .i64 k2 ∧ (-60 ≤ k2 ∧ k2 ≤ 60) ∧ (-1000000000000 ≤ y ∧ y ≤ 1000000000000) ∧ mulUp (-k2).toNat p y = mulUp (-v).toNat p D) (fun _ c => (-(intOf c)).toNat)
      case atStart => exact ⟨D, v, rfl, rfl, hv, by omega, rfl⟩
      case round =>
        obtain ⟨y, k2, rfl, rfl, hk2, hy, hm2⟩ := hrel
        have hyp := mul_val hy hp
        by_cases hk20 : k2 < 0
        · rw [mulUp_pos (show 0 < -k2 by omega)] at hm2
          cases hin : inB (y * p) (-1000000000000) 1000000000000
          · rw [hin] at hm2
            have HD := hid hm2
            clear hm2
            go_wp2_with (go_at_call 76; refine pur (i_isValue _ _) ?_)
            exact bodyPost_ret (v := .tuple #[.agg #[.int .i64 0, .int .i64 0], .int .i64 3]) (by first | (simp [results, go_sem]; done) | simp [results, go_sem, ↓IntWalk.iteOmega]) rfl ⟨by unfold tailF; rw [← HN.out, ← HD.out]; rfl, (by refine Ext.bel ?_; repeat (with_reducible first | exact Ext.refl _ | apply Ext.alloc | apply Ext.aft | apply Ext.drew | apply Ext.drewN | apply Ext.setCell | exact Nat.le_add_right _ _ | exact Nat.le_refl _ | (simp; done) | omega))⟩
          · rw [hin] at hm2
            have HD := hid hm2
            have hin2 := inB_iff.1 hin
            clear hm2
            go_wp2_with (go_at_call 76; refine pur (i_isValue _ _) ?_)
            go_round
            case rel => exact ⟨y * p, k2 + 1, by go_num, by go_num, by omega, by omega, by have := HD.out; rw [show -(k2 + 1) = -k2 - 1 by omega]; exact this⟩
            case measure => simp [intOf]; omega
        · rw [mulUp_stop (by omega)] at hm2
          have HD := hid hm2
          clear hm2
          go_wp2_with fail
          exact bodyPost_ret (v := .tuple #[.agg #[.int .i64 x, .int .i64 y], .int .i64 0]) (by first | (simp [results, go_sem]; done) | simp [results, go_sem, ↓IntWalk.iteOmega]) rfl ⟨by unfold tailF; rw [← HN.out, ← HD.out], (by refine Ext.bel ?_; repeat (with_reducible first | exact Ext.refl _ | apply Ext.alloc | apply Ext.aft | apply Ext.drew | apply Ext.drewN | apply Ext.setCell | exact Nat.le_add_right _ _ | exact Nat.le_refl _ | (simp; done) | omega))⟩
end Go.Proofs.Ytehdkbopkkgabaa
