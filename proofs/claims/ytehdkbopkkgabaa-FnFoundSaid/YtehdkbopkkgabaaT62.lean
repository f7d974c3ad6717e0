/- FindRational: the statement's text; the law. (Printed by mkT62.py.) -/
import Derived.Test.YtehdkbopkkgabaaT61
namespace Go.Proofs.Ytehdkbopkkgabaa
open Go Go.RowKit

theorem good_eq (p x m B d : Int) : goodD p x m B d = (inB (balF x d m) (-B) B && decide (Int.gcd (balF x d m) d = 1) && !decide (d % p = 0)) := rfl
theorem prod_bd {u : Int} {k : Nat} (hu : 0 ≤ u ∧ u ≤ 1000000000) (hk : k ≤ 22361) : 0 ≤ u * k ∧ u * k ≤ 22361000000000 := by
  have := Int.mul_le_mul hu.2 (show (k : Int) ≤ 22361 by omega) (by omega) (by omega)
  have := Int.mul_nonneg hu.1 (show 0 ≤ (k : Int) by omega)
  omega
/-- What the search finds. -/
theorem find_good {p v u n M : Int} {B k : Nat} (h : padicB p v u n = true) (h0 : n ≠ 0) (hM : M = p ^ n.toNat) (hBe : B = bndF M) (hk : 1 ≤ k ∧ k ≤ B) (hg : goodD p u M B k = true) :
    frtF p v u n = tailF p v (balF u k M) k := by
  obtain ⟨hs, hr, hum, hun, hpm, hm, hB⟩ := find_facts h h0
  rw [← hM] at hum hpm hm hB
  rw [← hBe] at hB
  have hp := smallP_bd hs
  have hnd : M ∣ u → False := fun hd => hun (Int.emod_eq_zero_of_dvd (Int.dvd_trans hpm hd))
  obtain ⟨h1, h2⟩ := good_cand hB.1 hum hnd (by omega) hg
  unfold frtF
  rw [if_pos h, if_neg h0, ← hM, ← hBe, if_pos h2, h1]
theorem find_none {p v u n M : Int} {B : Nat} (h : padicB p v u n = true) (h0 : n ≠ 0) (hM : M = p ^ n.toNat) (hBe : B = bndF M) (hall : ∀ j : Nat, 1 ≤ j → j < B + 1 → goodD p u M B j = false) :
    frtF p v u n = (0, 0, 4) := by
  obtain ⟨hs, hr, hum, hun, hpm, hm, hB⟩ := find_facts h h0
  rw [← hM] at hum hpm hm hB
  rw [← hBe] at hB
  have hc : candOk u M B = false := by
    cases hc : candOk u M B
    · rfl
    · exfalso
      obtain ⟨g1, _, _, _, g3, _⟩ := cand_unit hs hpm (by omega) hB.1 hum hun hc
      obtain ⟨J, hJ⟩ : ∃ J : Nat, (candF u M B).2 = (J : Int) := ⟨(candF u M B).2.toNat, by omega⟩
      rw [hJ] at g1 g3
      rw [hall J (by omega) (by omega)] at g3
      exact absurd g3 (by decide)
  unfold frtF
  rw [if_pos h, if_neg h0, ← hM, ← hBe, hc]
  rfl
set_option maxRecDepth 20000 in
set_option maxHeartbeats 16000000 in
theorem s_FindRational (p v u n : Int) (w : World) :
    Calls Try.prog 44 #[(.agg #[.int .i64 p, .int .i64 v, .int .i64 u, .int .i64 n])] w fun e w' => e = .returned (.tuple #[.agg #[.int .i64 (frtF p v u n).1, .int .i64 (frtF p v u n).2.1], .int .i64 (frtF p v u n).2.2]) ∧ Below w.heap.size w w' := by
  cases h : padicB p v u n
  · have e : (frtF p v u n) = (0, 0, 1) := by simp [frtF, h]
    rw [e]; clear e
    go_enter Try.func44, Try.ntmps44
    go_wp2_with (go_at_call 85; refine via (s_IsPadic _ _ _ _ _) ?_; intro uu zz; try simp at zz)
    exact bodyPost_ret (v := .tuple #[.agg #[.int .i64 0, .int .i64 0], .int .i64 1]) (by first | (simp [results, go_sem]; done) | simp [results, go_sem, ↓IntWalk.iteOmega]) rfl ⟨rfl, (by refine Ext.bel ?_; repeat (with_reducible first | exact Ext.refl _ | apply Ext.alloc | apply Ext.aft | apply Ext.drew | apply Ext.drewN | apply Ext.setCell | exact Nat.le_add_right _ _ | exact Nat.le_refl _ | (simp; done) | omega))⟩
  obtain ⟨hp, hv, hu, hn, hb⟩ := padic_facts h
  by_cases h0 : n = 0
  · have e : (frtF p v u n) = (0, 0, 4) := by unfold frtF; rw [if_pos h, if_pos h0]
    rw [e]; clear e hb
    subst h0
    go_enter Try.func44, Try.ntmps44
    go_wp2_with (first | (go_at_call 85; refine via (s_IsPadic _ _ _ _ _) ?_; intro uu zz; try simp at zz))
    exact bodyPost_ret (v := .tuple #[.agg #[.int .i64 0, .int .i64 0], .int .i64 4]) (by first | (simp [results, go_sem]; done) | simp [results, go_sem, ↓IntWalk.iteOmega]) rfl ⟨rfl, (by refine Ext.bel ?_; repeat (with_reducible first | exact Ext.refl _ | apply Ext.alloc | apply Ext.aft | apply Ext.drew | apply Ext.drewN | apply Ext.setCell | exact Nat.le_add_right _ _ | exact Nat.le_refl _ | (simp; done) | omega))⟩
  obtain ⟨hs, hr, hum, hun, hpm, hm, hB⟩ := find_facts h h0
  have hz : (n == 0) = false := by simpa using h0
  obtain ⟨M, hM⟩ : ∃ M, M = p ^ n.toNat := ⟨_, rfl⟩
  have HMod : Hid (∀ W : World, Calls Try.prog 95 #[.int .i64 p, .int .i64 n] W fun e w' => e = .returned (.int .i64 M) ∧ W = w') := hid fun W => by
    have := s_modulus p n W (by omega) (by omega) (by omega)
    rw [modu_ring hr, ← hM] at this
    exact this
  rw [← hM] at hum hpm hm hB
  obtain ⟨B, hBe⟩ : ∃ B, B = bndF M := ⟨_, rfl⟩
  have HBnd : Hid (∀ W : World, Calls Try.prog 112 #[.int .i64 M] W fun e w' => e = .returned (.int .i64 B) ∧ W = w') := hid fun W => by rw [hBe]; exact s_Bound M W hm.1 hm.2
  rw [← hBe] at hB
  have hB3 := hB.2.2
  have HG := hid (fun (k : Nat) (a : 1 ≤ k ∧ k ≤ B) (g : goodD p u M B k = true) => find_good h h0 hM hBe a g)
  have HN := hid (fun (a : ∀ j : Nat, 1 ≤ j → j < B + 1 → goodD p u M B j = false) => find_none h h0 hM hBe a)
  have M0 : (M == 0) = false := by rw [beq_eq_false_iff_ne]; omega
  obtain ⟨FF, hFF⟩ : ∃ FF, FF = frtF p v u n := ⟨_, rfl⟩
  rw [← hFF] at HG HN ⊢
  clear hM hBe hB hun hpm hr hs h0 hb hFF hum
  go_enter Try.func44, Try.ntmps44
  go_wp2_with (first | (go_at_call 85; refine via (s_IsPadic _ _ _ _ _) ?_; intro uu zz; try simp at zz) | (go_at_call 95; refine pur (HMod.out _) ?_) | (go_at_call 112; refine pur (HBnd.out _) ?_))
  go_loopw [6] (fun d wr => ∃ (k : Nat) (uu : World), d = .int .i64 k ∧ 1 ≤ k ∧ k ≤ B + 1 ∧ wr = aft ((w.alloc (Obj.cells #[.int .i64 p, .int .i64 v, .int .i64 u, .int .i64 n] 38)).alloc (Obj.cells #[.int .i64 0, .int .i64 0] 57)) uu ∧ ∀ j : Nat, 1 ≤ j → j < k → goodD p u M B j = false) (fun d _ => B + 2 - (intOf d).toNat)
  case atStart => exact ⟨1, _, rfl, by omega, by omega, rfl, fun j a b => by omega⟩
  case round =>
    obtain ⟨k, uu, rfl, hk1, hkB, rfl, hall⟩ := hrel
    have HA := hid hall
    clear hall
    have zs := size_aft ((w.alloc (Obj.cells #[.int .i64 p, .int .i64 v, .int .i64 u, .int .i64 n] 38)).alloc (Obj.cells #[.int .i64 0, .int .i64 0] 57)) uu
    simp at zs
    by_cases hkb : k ≤ B
    case neg =>
      obtain rfl : k = B + 1 := by omega
      have hF := HN.out HA.out
      subst hF
      clear hkb hkB
      go_wp2_with fail
      exact bodyPost_ret (v := .tuple #[.agg #[.int .i64 0, .int .i64 0], .int .i64 4]) (by first | (simp [results, go_sem]; done) | simp [results, go_sem, ↓IntWalk.iteOmega]) rfl ⟨rfl, (by refine Ext.bel ?_; repeat (with_reducible first | exact Ext.refl _ | apply Ext.alloc | apply Ext.aft | apply Ext.drew | apply Ext.drewN | apply Ext.setCell | exact Nat.le_add_right _ _ | exact Nat.le_refl _ | (simp; done) | omega))⟩
    have hpr := prod_bd hu (show k ≤ 22361 by omega)
    have hm0 := Int.emod_nonneg (u * (k : Int)) (show M ≠ 0 by omega)
    have hm1 := Int.emod_lt_of_pos (u * (k : Int)) (show 0 < M by omega)
    have hkM : (u * (k : Int)).tmod M = u * (k : Int) % M := Int.tmod_eq_emod_of_nonneg hpr.1
    by_cases hbal : M < 2 * (u * (k : Int) % M)
    · have hN' : balF u k M = u * (k : Int) % M - M := by unfold balF; rw [if_pos (by omega)]
      have hd : decide (M < 2 * (u * (k : Int) % M)) = true := by simpa using hbal
      go_wp2_with fail
      obtain ⟨N', hNe⟩ : ∃ N', N' = u * (k : Int) % M - M := ⟨_, rfl⟩
      rw [← hNe] at hN' ⊢
      clear hNe hd hbal
      have HN' := hid hN'
      clear hN'
      have aftE : Hid (∀ u2 : World, aft (aft ((w.alloc (Obj.cells #[.int .i64 p, .int .i64 v, .int .i64 u, .int .i64 n] 38)).alloc (Obj.cells #[.int .i64 0, .int .i64 0] 57)) uu) u2 = aft ((w.alloc (Obj.cells #[.int .i64 p, .int .i64 v, .int .i64 u, .int .i64 n] 38)).alloc (Obj.cells #[.int .i64 0, .int .i64 0] 57)) (aft (aft ((w.alloc (Obj.cells #[.int .i64 p, .int .i64 v, .int .i64 u, .int .i64 n] 38)).alloc (Obj.cells #[.int .i64 0, .int .i64 0] 57)) uu) u2)) := hid fun u2 => (aft_of ((below_aft _ uu).trans ((below_aft _ _).mono (size_aft _ uu)))).symm
      cases c1 : inB N' (-(B : Int)) B
      · have hg : goodD p u M B k = false := by rw [good_eq, HN'.out, c1]; rfl
        have Hg := hid hg
        clear hg
        go_wp2_with (go_at_call 94; refine pur (s_in _ _ _ _) ?_)
        go_roundw
        case rel => exact ⟨k + 1, uu, by go_num, by omega, by omega, rfl, fun j a b => by rcases Nat.lt_or_ge j k with h | h; (exact HA.out j a h); (obtain rfl : j = k := by omega); exact Hg.out⟩
        case measure => simp [intOf]; omega
      have hNb := inB_iff.1 c1
      have g1 : -4000000000000000000 ≤ N' ∧ N' ≤ 4000000000000000000 := by omega
      have g2 : -4000000000000000000 ≤ (k : Int) ∧ (k : Int) ≤ 4000000000000000000 := by omega
      by_cases c2 : Int.gcd N' k = 1
      case neg =>
        have hg : goodD p u M B k = false := by rw [good_eq, HN'.out, c1]; simp [c2]
        have Hg := hid hg
        have hne : (((Int.gcd N' k : Nat) : Int) != 1) = true := by rw [bne_iff_ne]; omega
        obtain ⟨G, hG⟩ : ∃ G : Int, G = (Int.gcd N' k : Int) := ⟨_, rfl⟩
        have HG2 := hid hG.symm
        rw [← hG] at hne
        have hne' : (G == 1) = false := by simpa using hne
        clear hg hG c2
        go_wp2_with (first | (go_at_call 94; refine pur (s_in _ _ _ _) ?_) | (go_at_call 103; refine via (s_gcd _ _ _ g1 g2) ?_; rw [HG2.out]; intro u9 z9; try simp at z9))
        rw [aftE.out]
        go_roundw
        case rel => exact ⟨k + 1, _, by go_num, by omega, by omega, rfl, fun j a b => by rcases Nat.lt_or_ge j k with h | h; (exact HA.out j a h); (obtain rfl : j = k := by omega); exact Hg.out⟩
        case measure => simp [intOf]; omega
      have HG2 : Hid (((Int.gcd N' k : Nat) : Int) = 1) := hid (by omega)
      by_cases c3 : (k : Int) % p = 0
      · have hg : goodD p u M B k = false := by rw [good_eq, HN'.out, c1]; simp [c2, c3]
        have Hg := hid hg
        have k3 : ((k : Int) % p == 0) = true := by simpa using c3
        have k4 : ((k : Int).tmod p == 0) = true := by rw [beq_iff_eq, tmod_zero_iff]; exact c3
        clear hg c3 c2
        go_wp2_with (first | (go_at_call 94; refine pur (s_in _ _ _ _) ?_) | (go_at_call 103; refine via (s_gcd _ _ _ g1 g2) ?_; rw [HG2.out]; intro u9 z9; try simp at z9))
        rw [aftE.out]
        go_roundw
        case rel => exact ⟨k + 1, _, by go_num, by omega, by omega, rfl, fun j a b => by rcases Nat.lt_or_ge j k with h | h; (exact HA.out j a h); (obtain rfl : j = k := by omega); exact Hg.out⟩
        case measure => simp [intOf]; omega
      have hg : goodD p u M B k = true := by rw [good_eq, HN'.out, c1]; simp [c2, c3]
      have hF := HG.out k ⟨hk1, hkb⟩ hg
      rw [HN'.out] at hF
      subst hF
      have k3 : ((k : Int) % p == 0) = false := by simpa using c3
      have k4 : ((k : Int).tmod p == 0) = false := by rw [beq_eq_false_iff_ne]; exact fun e => c3 (tmod_zero_iff.1 e)
      clear hg c3 c2
      go_wp2_with (first | (go_at_call 94; refine pur (s_in _ _ _ _) ?_) | (go_at_call 103; refine via (s_gcd _ _ _ g1 g2) ?_; rw [HG2.out]; intro u9 z9; try simp at z9))
      go_loop [7, 8] (fun a c => ∃ x k : Int, a = .int .i64 x ∧ c = .int .i64 k ∧ (-60 ≤ k ∧ k ≤ 60) ∧ (-1000000000000 ≤ x ∧ x ≤ 1000000000000) ∧ mulUp k.toNat p x = mulUp v.toNat p N') (fun _ c => (intOf c).toNat)
      case atStart => exact ⟨N', v, rfl, rfl, hv, by omega, rfl⟩
      case round =>
        obtain ⟨x, k9, rfl, rfl, hk, hx, hm1⟩ := hrel
        have hxp := mul_val hx hp
        by_cases hk0 : 0 < k9
        · rw [mulUp_pos hk0] at hm1
          cases hin : inB (x * p) (-1000000000000) 1000000000000
          · rw [hin] at hm1
            have HN9 := hid hm1
            clear hm1
            go_wp2_with (go_at_call 78; refine pur (s_is _ _) ?_)
            exact bodyPost_ret (v := .tuple #[.agg #[.int .i64 0, .int .i64 0], .int .i64 3]) (by first | (simp [results, go_sem]; done) | simp [results, go_sem, ↓IntWalk.iteOmega]) rfl ⟨by unfold tailF; rw [← HN9.out]; rfl, (by refine Ext.bel ?_; repeat (with_reducible first | exact Ext.refl _ | apply Ext.alloc | apply Ext.aft | apply Ext.drew | apply Ext.drewN | apply Ext.setCell | exact Nat.le_add_right _ _ | exact Nat.le_refl _ | (simp; done) | omega))⟩
          · rw [hin] at hm1
            have HN9 := hid hm1
            have hin2 := inB_iff.1 hin
            clear hm1
            go_wp2_with (go_at_call 78; refine pur (s_is _ _) ?_)
            go_round
            case rel => exact ⟨x * p, k9 - 1, by go_num, by go_num, by omega, by omega, HN9.out⟩
            case measure => simp [intOf]; omega
        · rw [mulUp_stop (by omega)] at hm1
          have HN9 := hid hm1
          clear hm1
          go_wp2_with fail
          go_loop [6, 9] (fun a c => ∃ y k2 : Int, a = .int .i64 y ∧ c = .int .i64 k2 ∧ (-60 ≤ k2 ∧ k2 ≤ 60) ∧ (-1000000000000 ≤ y ∧ y ≤ 1000000000000) ∧ mulUp (-k2).toNat p y = mulUp (-v).toNat p k) (fun _ c => (-(intOf c)).toNat)
          case atStart => exact ⟨k, v, rfl, rfl, hv, by omega, rfl⟩
          case round =>
            obtain ⟨y, k2, rfl, rfl, hk2, hy, hm2⟩ := hrel
            have hyp := mul_val hy hp
            by_cases hk20 : k2 < 0
            · rw [mulUp_pos (show 0 < -k2 by omega)] at hm2
              cases hin : inB (y * p) (-1000000000000) 1000000000000
              · rw [hin] at hm2
                have HD := hid hm2
                clear hm2
                go_wp2_with (go_at_call 78; refine pur (s_is _ _) ?_)
                exact bodyPost_ret (v := .tuple #[.agg #[.int .i64 0, .int .i64 0], .int .i64 3]) (by first | (simp [results, go_sem]; done) | simp [results, go_sem, ↓IntWalk.iteOmega]) rfl ⟨by unfold tailF; rw [← HN9.out, ← HD.out]; rfl, (by refine Ext.bel ?_; repeat (with_reducible first | exact Ext.refl _ | apply Ext.alloc | apply Ext.aft | apply Ext.drew | apply Ext.drewN | apply Ext.setCell | exact Nat.le_add_right _ _ | exact Nat.le_refl _ | (simp; done) | omega))⟩
              · rw [hin] at hm2
                have HD := hid hm2
                have hin2 := inB_iff.1 hin
                clear hm2
                go_wp2_with (go_at_call 78; refine pur (s_is _ _) ?_)
                go_round
                case rel => exact ⟨y * p, k2 + 1, by go_num, by go_num, by omega, by omega, by have := HD.out; rw [show -(k2 + 1) = -k2 - 1 by omega]; exact this⟩
                case measure => simp [intOf]; omega
            · rw [mulUp_stop (by omega)] at hm2
              have HD := hid hm2
              clear hm2
              go_wp2_with fail
              exact bodyPost_ret (v := .tuple #[.agg #[.int .i64 x, .int .i64 y], .int .i64 0]) (by first | (simp [results, go_sem]; done) | simp [results, go_sem, ↓IntWalk.iteOmega]) rfl ⟨by unfold tailF; rw [← HN9.out, ← HD.out], (by refine Ext.bel ?_; repeat (with_reducible first | exact Ext.refl _ | apply Ext.alloc | apply Ext.aft | apply Ext.drew | apply Ext.drewN | apply Ext.setCell | exact Nat.le_add_right _ _ | exact Nat.le_refl _ | (simp; done) | omega))⟩
    · have hN' : balF u k M = u * (k : Int) % M := by unfold balF; rw [if_neg (by omega)]
      have hd : decide (M < 2 * (u * (k : Int) % M)) = false := by simpa using hbal
      go_wp2_with fail
      obtain ⟨N', hNe⟩ : ∃ N', N' = u * (k : Int) % M := ⟨_, rfl⟩
      rw [← hNe] at hN' ⊢
      clear hNe hd hbal
      have HN' := hid hN'
      clear hN'
      have aftE : Hid (∀ u2 : World, aft (aft ((w.alloc (Obj.cells #[.int .i64 p, .int .i64 v, .int .i64 u, .int .i64 n] 38)).alloc (Obj.cells #[.int .i64 0, .int .i64 0] 57)) uu) u2 = aft ((w.alloc (Obj.cells #[.int .i64 p, .int .i64 v, .int .i64 u, .int .i64 n] 38)).alloc (Obj.cells #[.int .i64 0, .int .i64 0] 57)) (aft (aft ((w.alloc (Obj.cells #[.int .i64 p, .int .i64 v, .int .i64 u, .int .i64 n] 38)).alloc (Obj.cells #[.int .i64 0, .int .i64 0] 57)) uu) u2)) := hid fun u2 => (aft_of ((below_aft _ uu).trans ((below_aft _ _).mono (size_aft _ uu)))).symm
      cases c1 : inB N' (-(B : Int)) B
      · have hg : goodD p u M B k = false := by rw [good_eq, HN'.out, c1]; rfl
        have Hg := hid hg
        clear hg
        go_wp2_with (go_at_call 94; refine pur (s_in _ _ _ _) ?_)
        go_roundw
        case rel => exact ⟨k + 1, uu, by go_num, by omega, by omega, rfl, fun j a b => by rcases Nat.lt_or_ge j k with h | h; (exact HA.out j a h); (obtain rfl : j = k := by omega); exact Hg.out⟩
        case measure => simp [intOf]; omega
      have hNb := inB_iff.1 c1
      have g1 : -4000000000000000000 ≤ N' ∧ N' ≤ 4000000000000000000 := by omega
      have g2 : -4000000000000000000 ≤ (k : Int) ∧ (k : Int) ≤ 4000000000000000000 := by omega
      by_cases c2 : Int.gcd N' k = 1
      case neg =>
        have hg : goodD p u M B k = false := by rw [good_eq, HN'.out, c1]; simp [c2]
        have Hg := hid hg
        have hne : (((Int.gcd N' k : Nat) : Int) != 1) = true := by rw [bne_iff_ne]; omega
        obtain ⟨G, hG⟩ : ∃ G : Int, G = (Int.gcd N' k : Int) := ⟨_, rfl⟩
        have HG2 := hid hG.symm
        rw [← hG] at hne
        have hne' : (G == 1) = false := by simpa using hne
        clear hg hG c2
        go_wp2_with (first | (go_at_call 94; refine pur (s_in _ _ _ _) ?_) | (go_at_call 103; refine via (s_gcd _ _ _ g1 g2) ?_; rw [HG2.out]; intro u9 z9; try simp at z9))
        rw [aftE.out]
        go_roundw
        case rel => exact ⟨k + 1, _, by go_num, by omega, by omega, rfl, fun j a b => by rcases Nat.lt_or_ge j k with h | h; (exact HA.out j a h); (obtain rfl : j = k := by omega); exact Hg.out⟩
        case measure => simp [intOf]; omega
      have HG2 : Hid (((Int.gcd N' k : Nat) : Int) = 1) := hid (by omega)
      by_cases c3 : (k : Int) % p = 0
      · have hg : goodD p u M B k = false := by rw [good_eq, HN'.out, c1]; simp [c2, c3]
        have Hg := hid hg
        have k3 : ((k : Int) % p == 0) = true := by simpa using c3
        have k4 : ((k : Int).tmod p == 0) = true := by rw [beq_iff_eq, tmod_zero_iff]; exact c3
        clear hg c3 c2
        go_wp2_with (first | (go_at_call 94; refine pur (s_in _ _ _ _) ?_) | (go_at_call 103; refine via (s_gcd _ _ _ g1 g2) ?_; rw [HG2.out]; intro u9 z9; try simp at z9))
        rw [aftE.out]
        go_roundw
        case rel => exact ⟨k + 1, _, by go_num, by omega, by omega, rfl, fun j a b => by rcases Nat.lt_or_ge j k with h | h; (exact HA.out j a h); (obtain rfl : j = k := by omega); exact Hg.out⟩
        case measure => simp [intOf]; omega
      have hg : goodD p u M B k = true := by rw [good_eq, HN'.out, c1]; simp [c2, c3]
      have hF := HG.out k ⟨hk1, hkb⟩ hg
      rw [HN'.out] at hF
      subst hF
      have k3 : ((k : Int) % p == 0) = false := by simpa using c3
      have k4 : ((k : Int).tmod p == 0) = false := by rw [beq_eq_false_iff_ne]; exact fun e => c3 (tmod_zero_iff.1 e)
      clear hg c3 c2
      go_wp2_with (first | (go_at_call 94; refine pur (s_in _ _ _ _) ?_) | (go_at_call 103; refine via (s_gcd _ _ _ g1 g2) ?_; rw [HG2.out]; intro u9 z9; try simp at z9))
      go_loop [7, 8] (fun a c => ∃ x k : Int, a = .int .i64 x ∧ c = .int .i64 k ∧ (-60 ≤ k ∧ k ≤ 60) ∧ (-1000000000000 ≤ x ∧ x ≤ 1000000000000) ∧ mulUp k.toNat p x = mulUp v.toNat p N') (fun _ c => (intOf c).toNat)
      case atStart => exact ⟨N', v, rfl, rfl, hv, by omega, rfl⟩
      case round =>
        obtain ⟨x, k9, rfl, rfl, hk, hx, hm1⟩ := hrel
        have hxp := mul_val hx hp
        by_cases hk0 : 0 < k9
        · rw [mulUp_pos hk0] at hm1
          cases hin : inB (x * p) (-1000000000000) 1000000000000
          · rw [hin] at hm1
            have HN9 := hid hm1
            clear hm1
            go_wp2_with (go_at_call 78; refine pur (s_is _ _) ?_)
            exact bodyPost_ret (v := .tuple #[.agg #[.int .i64 0, .int .i64 0], .int .i64 3]) (by first | (simp [results, go_sem]; done) | simp [results, go_sem, ↓IntWalk.iteOmega]) rfl ⟨by unfold tailF; rw [← HN9.out]; rfl, (by refine Ext.bel ?_; repeat (with_reducible first | exact Ext.refl _ | apply Ext.alloc | apply Ext.aft | apply Ext.drew | apply Ext.drewN | apply Ext.setCell | exact Nat.le_add_right _ _ | exact Nat.le_refl _ | (simp; done) | omega))⟩
          · rw [hin] at hm1
            have HN9 := hid hm1
            have hin2 := inB_iff.1 hin
            clear hm1
            go_wp2_with (go_at_call 78; refine pur (s_is _ _) ?_)
            go_round
            case rel => exact ⟨x * p, k9 - 1, by go_num, by go_num, by omega, by omega, HN9.out⟩
            case measure => simp [intOf]; omega
        · rw [mulUp_stop (by omega)] at hm1
          have HN9 := hid hm1
          clear hm1
          go_wp2_with fail
          go_loop [6, 9] (fun a c => ∃ y k2 : Int, a = .int .i64 y ∧ c = .int .i64 k2 ∧ (-60 ≤ k2 ∧ k2 ≤ 60) ∧ (-1000000000000 ≤ y ∧ y ≤ 1000000000000) ∧ mulUp (-k2).toNat p y = mulUp (-v).toNat p k) (fun _ c => (-(intOf c)).toNat)
          case atStart => exact ⟨k, v, rfl, rfl, hv, by omega, rfl⟩
          case round =>
            obtain ⟨y, k2, rfl, rfl, hk2, hy, hm2⟩ := hrel
            have hyp := mul_val hy hp
            by_cases hk20 : k2 < 0
            · rw [mulUp_pos (show 0 < -k2 by omega)] at hm2
              cases hin : inB (y * p) (-1000000000000) 1000000000000
              · rw [hin] at hm2
                have HD := hid hm2
                clear hm2
                go_wp2_with (go_at_call 78; refine pur (s_is _ _) ?_)
                exact bodyPost_ret (v := .tuple #[.agg #[.int .i64 0, .int .i64 0], .int .i64 3]) (by first | (simp [results, go_sem]; done) | simp [results, go_sem, ↓IntWalk.iteOmega]) rfl ⟨by unfold tailF; rw [← HN9.out, ← HD.out]; rfl, (by refine Ext.bel ?_; repeat (with_reducible first | exact Ext.refl _ | apply Ext.alloc | apply Ext.aft | apply Ext.drew | apply Ext.drewN | apply Ext.setCell | exact Nat.le_add_right _ _ | exact Nat.le_refl _ | (simp; done) | omega))⟩
              · rw [hin] at hm2
                have HD := hid hm2
                have hin2 := inB_iff.1 hin
                clear hm2
                go_wp2_with (go_at_call 78; refine pur (s_is _ _) ?_)
                go_round
                case rel => exact ⟨y * p, k2 + 1, by go_num, by go_num, by omega, by omega, by have := HD.out; rw [show -(k2 + 1) = -k2 - 1 by omega]; exact this⟩
                case measure => simp [intOf]; omega
            · rw [mulUp_stop (by omega)] at hm2
              have HD := hid hm2
              clear hm2
              go_wp2_with fail
              exact bodyPost_ret (v := .tuple #[.agg #[.int .i64 x, .int .i64 y], .int .i64 0]) (by first | (simp [results, go_sem]; done) | simp [results, go_sem, ↓IntWalk.iteOmega]) rfl ⟨by unfold tailF; rw [← HN9.out, ← HD.out], (by refine Ext.bel ?_; repeat (with_reducible first | exact Ext.refl _ | apply Ext.alloc | apply Ext.aft | apply Ext.drew | apply Ext.drewN | apply Ext.setCell | exact Nat.le_add_right _ _ | exact Nat.le_refl _ | (simp; done) | omega))⟩

end Go.Proofs.Ytehdkbopkkgabaa

