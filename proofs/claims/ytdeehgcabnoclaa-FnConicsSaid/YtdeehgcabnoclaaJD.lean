/- SquareClass: both texts. -/
import Derived.Test.YtdeehgcabnoclaaJC
namespace Go.Proofs.Ytdeehgcabnoclaa
open Go Go.RowKit

theorem i_isNonzero (n : Int) (w : World) :
    Calls Try.prog 37 #[.int .i64 n] w fun e w' => e = .returned (.bool (inB n (-1000000000000) 1000000000000 && n != 0)) ∧ w = w' := by
  cases h : inB n (-1000000000000) 1000000000000
  · go_enter Try.func37, Try.ntmps37
    go_wp2_with fail
    refine pur (i_isValue _ _) ?_
    rw [h]
    go_wp2_with fail
    go_ret
    exact ⟨rfl, rfl⟩
  · go_enter Try.func37, Try.ntmps37
    go_wp2_with fail
    refine pur (i_isValue _ _) ?_
    rw [h]
    go_wp2_with fail
    go_ret
    exact ⟨rfl, rfl⟩
/-- The class of a square, and the code. -/
def clF (p a : Int) : Int × Int := if smallP p = true then (if inB a (-1000000000000) 1000000000000 = true ∧ a ≠ 0 then (clsF p a, 0) else (0, 2)) else (0, 1)

set_option maxHeartbeats 2000000 in
theorem i_SquareClass (p a : Int) (w : World) :
    Calls Try.prog 12 #[.int .i64 p, .int .i64 a] w fun e w' => e = .returned (.tuple #[.int .i64 (clF p a).1, .int .i64 (clF p a).2]) ∧ w = w' := by
  by_cases h1 : smallP p = true
  case neg =>
    have e : clF p a = (0, 1) := by unfold clF; rw [if_neg h1]
    rw [e]
    have h1' : smallP p = false := by simpa using h1
    go_enter Try.func12, Try.ntmps12
    go_wp2_with fail
    refine pur (i_small _ _) ?_
    rw [h1']
    go_wp2_with fail
    go_ret2
    exact ⟨rfl, rfl⟩
  by_cases h2 : inB a (-1000000000000) 1000000000000 = true ∧ a ≠ 0
  case neg =>
    have e : clF p a = (0, 2) := by unfold clF; rw [if_pos h1, if_neg h2]
    rw [e]
    have h2' : (inB a (-1000000000000) 1000000000000 && a != 0) = false := by
      rw [← Bool.not_eq_true]; simpa using h2
    go_enter Try.func12, Try.ntmps12
    go_wp2_with fail
    refine pur (i_small _ _) ?_
    rw [h1]
    go_wp2_with fail
    refine pur (i_isNonzero _ _) ?_
    rw [h2']
    go_wp2_with fail
    go_ret2
    exact ⟨rfl, rfl⟩
  have e : clF p a = (clsF p a, 0) := by unfold clF; rw [if_pos h1, if_pos h2]
  rw [e]
  have h2' : (inB a (-1000000000000) 1000000000000 && a != 0) = true := by simpa using h2
  have hb := inB_iff.1 h2.1
  have ha0 := h2.2
  have hp := smallP_bd h1
  obtain ⟨c0, hc0, c1, c7, hsq, hno⟩ := @clsF_spec p a h1 ha0
  rw [hc0]
  have HNO := hid hno
  have HSQ := hid hsq
  have HP1 := hid h1
  have HA0 := hid ha0
  clear e h2 hno hsq ha0 hc0
  go_enter Try.func12, Try.ntmps12
  go_wp2_with fail
  refine pur (i_small _ _) ?_
  rw [h1]
  go_wp2_with fail
  refine pur (i_isNonzero _ _) ?_
  rw [h2']
  clear h1 h2'
  go_wp2_with fail
  go_loop [6] (fun c => ∃ k : Nat, 1 ≤ k ∧ k ≤ c0 ∧ c = .int .i64 k) (fun c => c0 - (intOf c).toNat)
  case atStart => exact ⟨1, by omega, c1, rfl⟩
  case round =>
    obtain ⟨k, k1, k2, rfl⟩ := hrel
    have hab : -4000000000000000 ≤ a * (k : Int) ∧ a * (k : Int) ≤ 4000000000000000 := by
      have e1 : a * (k : Int) ≤ 1000000000000 * (k : Int) := Int.mul_le_mul_of_nonneg_right (by omega) (by omega)
      have e2 : -1000000000000 * (k : Int) ≤ a * (k : Int) := Int.mul_le_mul_of_nonneg_right (by omega) (by omega)
      omega
    have HI : Hid (∀ W : World, Calls Try.prog 32 #[.int .i64 p, .int .i64 (a * (k : Int))] W fun e w' => e = .returned (.bool (sqrB p (a * (k : Int)))) ∧ W = w') := hid fun W => i_isSquareOf p _ W hp (Int.mul_ne_zero HA0.out (by omega)) hab
    by_cases hk : k = c0
    · subst hk
      rw [HSQ.out] at HI
      go_wp2_with (go_at_call 32; refine pur (HI.out _) ?_)
      go_ret2
      exact ⟨rfl, rfl⟩
    · rw [HNO.out k k1 (by omega)] at HI
      go_wp2_with (go_at_call 32; refine pur (HI.out _) ?_)
      go_round
      case rel => exact ⟨k + 1, by omega, by omega, by go_num⟩
      case measure => simp only [intOf]; omega

set_option maxHeartbeats 2000000 in
theorem s_parts (n0 p : Int) (w : World) (hp : 2 ≤ p ∧ p ≤ 97) (hn : n0 ≠ 0) (hb : -4000000000000000 ≤ n0 ∧ n0 ≤ 4000000000000000) :
    Calls Try.prog 40 #[.int .i64 n0, .int .i64 p] w fun e w' => e = .returned (.tuple #[.int .i64 (vl n0 p), .int .i64 (n0 / p ^ vl n0 p)]) ∧ w = w' := by
  have HN := hid hn
  clear hn
  go_enter Try.func40, Try.ntmps40
  go_wp2_with fail
  go_loop [0, 6] (fun s v => ∃ (c : Int) (k : Nat), s = .int .i64 c ∧ v = .int .i64 k ∧ n0 = c * p ^ k ∧ c ≠ 0 ∧ k + c.natAbs ≤ n0.natAbs) (fun s _ => (intOf s).natAbs)
  case atStart => exact ⟨n0, 0, rfl, rfl, by simp, HN.out, by omega⟩
  case round =>
    obtain ⟨c, k, rfl, rfl, he, hc0, hk⟩ := hrel
    have q0 : (p == 0) = false := by rw [beq_eq_false_iff_ne]; omega
    have q1 : p ≠ 0 := by omega
    by_cases hr : c % p = 0
    · have hr' : (c.tmod p == 0) = true := by rw [beq_iff_eq, tmod_zero_iff]; exact hr
      have hd2 : c / p * p = c := Int.ediv_mul_cancel (Int.dvd_of_emod_eq_zero hr)
      have hqd : c.tdiv p = c / p := Int.tdiv_eq_ediv_of_dvd (Int.dvd_of_emod_eq_zero hr)
      have h3 : c / p ≠ 0 := fun h => hc0 (by rw [← hd2, h, Int.zero_mul])
      have h11 : (c / p).natAbs + 1 ≤ c.natAbs := by
        have : c.natAbs = (c / p).natAbs * p.natAbs := by rw [← Int.natAbs_mul, hd2]
        have h5 : (c / p).natAbs * 2 ≤ (c / p).natAbs * p.natAbs := Nat.mul_le_mul_left _ (by omega)
        omega
      have HE := hid (show n0 = c / p * p ^ (k + 1) by rw [Int.pow_succ, Int.mul_comm (p ^ k), ← Int.mul_assoc, hd2]; exact he)
      have H3 := hid h3
      clear hr he hd2 hc0 h3
      go_wp2_with fail
      go_round
      case rel => exact ⟨c / p, k + 1, by go_num, by go_num, HE.out, H3.out, by omega⟩
      case measure => simp only [intOf]; omega
    · have hr' : (c.tmod p == 0) = false := by rw [beq_eq_false_iff_ne]; exact fun h => hr (tmod_zero_iff.1 h)
      have hv : vl n0 p = k := vl_eq (by omega) he hr
      have hcc : n0 / p ^ k = c := by
        have hP := pow_pos' (show 1 ≤ p by omega) k
        rw [he]
        exact Int.mul_ediv_cancel _ (by omega)
      have HV := hid hv
      have HCC := hid hcc
      clear hr he hv hcc
      go_wp2_with fail
      go_ret2
      exact ⟨by rw [HV.out, HCC.out]; rfl, rfl⟩
theorem usq_left {p u v : Int} (hp : 2 ≤ p) : usq p (u % (8 * p) * v) = usq p (u * v) := by
  unfold usq
  by_cases h2 : p = 2
  · rw [if_pos h2, if_pos h2]
    subst h2
    rw [Int.mul_emod, Int.emod_emod_of_dvd u (by decide : (8 : Int) ∣ 8 * 2), ← Int.mul_emod]
  · rw [if_neg h2, if_neg h2, ← sqF_mod, Int.mul_emod, Int.emod_emod_of_dvd u (Int.dvd_mul_left 8 p), ← Int.mul_emod, sqF_mod]
theorem s_16u (u p : Int) (w : World) (hp : 2 ≤ p ∧ p ≤ 97) :
    Calls Try.prog 33 #[.int .i64 u, .int .i64 p] w fun e w' => e = .returned (.bool (usq p u)) ∧ w = w' := s_16Square u p w hp

set_option maxHeartbeats 2000000 in
theorem s_SquareClass (p a : Int) (w : World) :
    Calls Try.prog 13 #[.int .i64 p, .int .i64 a] w fun e w' => e = .returned (.tuple #[.int .i64 (clF p a).1, .int .i64 (clF p a).2]) ∧ w = w' := by
  by_cases h1 : smallP p = true
  case neg =>
    have e : clF p a = (0, 1) := by unfold clF; rw [if_neg h1]
    rw [e]
    have h1' : smallP p = false := by simpa using h1
    go_enter Try.func13, Try.ntmps13
    go_wp2_with fail
    refine pur (s_small _ _) ?_
    rw [h1']
    go_wp2_with fail
    go_ret2
    exact ⟨rfl, rfl⟩
  by_cases h3 : inB a (-1000000000000) 1000000000000 = true
  case neg =>
    have e : clF p a = (0, 2) := by unfold clF; rw [if_pos h1, if_neg (fun h => h3 h.1)]
    rw [e]
    have h3' : inB a (-1000000000000) 1000000000000 = false := by simpa using h3
    go_enter Try.func13, Try.ntmps13
    go_wp2_with fail
    refine pur (s_small _ _) ?_
    rw [h1]
    go_wp2_with fail
    refine pur (s_is _ _) ?_
    rw [h3']
    go_wp2_with fail
    go_ret2
    exact ⟨rfl, rfl⟩
  by_cases ha0 : a = 0
  · have e : clF p a = (0, 2) := by unfold clF; rw [if_pos h1, if_neg (fun h => h.2 ha0)]
    rw [e]
    have h4' : (a == 0) = true := by simpa using ha0
    clear ha0 e
    go_enter Try.func13, Try.ntmps13
    go_wp2_with fail
    refine pur (s_small _ _) ?_
    rw [h1]
    go_wp2_with fail
    refine pur (s_is _ _) ?_
    rw [h3]
    go_wp2_with fail
    go_ret2
    exact ⟨rfl, rfl⟩
  have h2 : inB a (-1000000000000) 1000000000000 = true ∧ a ≠ 0 := ⟨h3, ha0⟩
  have e : clF p a = (clsF p a, 0) := by unfold clF; rw [if_pos h1, if_pos h2]
  rw [e]
  have h4' : (a == 0) = false := by simpa using ha0
  have hb := inB_iff.1 h2.1
  have hp := smallP_bd h1
  obtain ⟨c0, hc0, c1, c7, hsq, hno⟩ := @clsF_spec p a h1 ha0
  rw [hc0]
  have HNO := hid hno
  have HSQ := hid hsq
  have HA : Hid (∀ W : World, Calls Try.prog 40 #[.int .i64 a, .int .i64 p] W fun e w' => e = .returned (.tuple #[.int .i64 (vl a p), .int .i64 (a / p ^ vl a p)]) ∧ W = w') := hid fun W => s_parts a p W hp ha0 (by omega)
  obtain ⟨u, e1, hu, q1⟩ := @vl_spec a p hp.1 ha0
  have hvb := vl_pow_bd hp.1 ha0
  have hkk := pow_gt p hp.1 (vl a p)
  obtain ⟨K, hK⟩ : ∃ K, K = vl a p := ⟨_, rfl⟩
  rw [← hK] at HA e1 q1 hvb hkk
  rw [q1] at HA hvb
  have hKb : (K : Int) ≤ 1000000000000 := by omega
  have E1 := hid e1
  have HU := hid hu
  have HS := hid h1
  clear e h2 hno hsq ha0 hc0 e1 hu q1 hvb hkk hK
  go_enter Try.func13, Try.ntmps13
  go_wp2_with fail
  refine pur (s_small _ _) ?_
  rw [h1]
  go_wp2_with fail
  refine pur (s_is _ _) ?_
  rw [h3]
  clear h1 h3
  go_wp2_with (go_at_call 40; refine pur (HA.out _) ?_)
  go_loop [8] (fun c => ∃ k : Nat, 1 ≤ k ∧ k ≤ c0 ∧ c = .int .i64 k) (fun c => c0 - (intOf c).toNat)
  case atStart => exact ⟨1, by omega, c1, rfl⟩
  case round =>
    obtain ⟨k, k1, k2, rfl⟩ := hrel
    have HC : Hid (∀ W : World, Calls Try.prog 40 #[.int .i64 (k : Int), .int .i64 p] W fun e w' => e = .returned (.tuple #[.int .i64 (vl (k : Int) p), .int .i64 ((k : Int) / p ^ vl (k : Int) p)]) ∧ W = w') := hid fun W => s_parts k p W hp (by omega) (by omega)
    obtain ⟨v, e2, hv, q2⟩ := @vl_spec (k : Int) p hp.1 (by omega)
    have hvb := vl_pow_bd hp.1 (show (k : Int) ≠ 0 by omega)
    have hkk := pow_gt p hp.1 (vl (k : Int) p)
    obtain ⟨M, hM⟩ : ∃ M, M = vl (k : Int) p := ⟨_, rfl⟩
    rw [← hM] at HC e2 q2 hvb hkk
    rw [q2] at HC hvb
    have hMb : (M : Int) ≤ 700 := by omega
    have hvbd : -700 ≤ v ∧ v ≤ 700 := by omega
    have hsv : sqrB p (a * (k : Int)) = (decide ((K + M) % 2 = 0) && usq p (u * v)) := sqrB_of hp.1 (by rw [E1.out, Int.pow_add]; conv => lhs; rw [e2]
                                                                                                        grind) (unit_mul HS.out HU.out hv)
    have m1 := Int.emod_nonneg u (show 8 * p ≠ 0 by omega)
    have m2 := Int.emod_lt_of_pos u (show 0 < 8 * p by omega)
    have mb1 : u % (8 * p) * v ≤ 776 * 700 := by
      rcases Int.le_total 0 v with h | h
      · exact Int.mul_le_mul (by omega) (by omega) h (by omega)
      · have := Int.mul_nonpos_of_nonneg_of_nonpos m1 h; omega
    have mb2 : -(776 * 700) ≤ u % (8 * p) * v := by
      rcases Int.le_total 0 v with h | h
      · have := Int.mul_nonneg m1 h; omega
      · have : u % (8 * p) * (-v) ≤ 776 * 700 := Int.mul_le_mul (by omega) (by omega) (by omega) (by omega)
        rw [Int.mul_neg] at this; omega
    have HQ : Hid (∀ W : World, Calls Try.prog 33 #[.int .i64 (u % (8 * p) * v), .int .i64 p] W fun e w' => e = .returned (.bool (usq p (u * v))) ∧ W = w') := hid fun W => by
      have := s_16u (u % (8 * p) * v) p W hp
      rw [usq_left hp.1] at this
      exact this
    have htm : ((K : Int) + (M : Int)).tmod 2 = ((K : Int) + (M : Int)) % 2 := Int.tmod_eq_emod_of_nonneg (by omega)
    clear e2 hv q2 hvb hkk hM
    obtain ⟨Q, hQ⟩ : ∃ Q, Q = usq p (u * v) := ⟨_, rfl⟩
    rw [← hQ] at HQ hsv
    by_cases hev : (K + M) % 2 = 0
    · have hev' : (((K : Int) + (M : Int)) % 2 == 0) = true := by rw [beq_iff_eq]; omega
      rw [decide_eq_true hev, Bool.true_and] at hsv
      clear hev
      by_cases hk : k = c0
      · subst hk
        rw [HSQ.out] at hsv
        rw [← hsv] at HQ
        clear hsv hQ
        go_wp2_with (first | (go_at_call 40; refine pur (HC.out _) ?_) | (go_at_call 41; refine pur (s_mod _ _ _ (by omega) (by omega)) ?_) | (go_at_call 33; refine pur (HQ.out _) ?_))
        go_ret2
        exact ⟨rfl, rfl⟩
      · rw [HNO.out k k1 (by omega)] at hsv
        rw [← hsv] at HQ
        clear hsv hQ
        go_wp2_with (first | (go_at_call 40; refine pur (HC.out _) ?_) | (go_at_call 41; refine pur (s_mod _ _ _ (by omega) (by omega)) ?_) | (go_at_call 33; refine pur (HQ.out _) ?_))
        go_round
        case rel => exact ⟨k + 1, by omega, by omega, by go_num⟩
        case measure => simp only [intOf]; omega
    · have hev' : (((K : Int) + (M : Int)) % 2 == 0) = false := by rw [beq_eq_false_iff_ne]; omega
      rw [decide_eq_false hev, Bool.false_and] at hsv
      have hk : k ≠ c0 := fun h => by rw [h, HSQ.out] at hsv; simp at hsv
      clear hev hsv hQ
      go_wp2_with (first | (go_at_call 40; refine pur (HC.out _) ?_))
      go_round
      case rel => exact ⟨k + 1, by omega, by omega, by go_num⟩
      case measure => simp only [intOf]; omega
end Go.Proofs.Ytdeehgcabnoclaa
