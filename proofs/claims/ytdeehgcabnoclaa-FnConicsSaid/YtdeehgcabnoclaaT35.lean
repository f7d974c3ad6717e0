/- The statement's list of prime powers. (Printed by mkT35.py.) -/
import Derived.Test.YtdeehgcabnoclaaT34
namespace Go.Proofs.Ytdeehgcabnoclaa
open Go Go.RowKit

theorem ownP_empty (w : World) : ownP w.heap.size (w.alloc (.cells #[] 56)) (.slice (some ⟨w.heap.size, 0, none⟩) 0 0) [] :=
  World.ownsRow_made w #[] 0 (Nat.le_refl _) (by simp [maxLen]) (by simp)

set_option maxRecDepth 20000 in
set_option maxHeartbeats 8000000 in
theorem s_factors (n0 : Int) (w : World) (hn0 : 1 ≤ n0 ∧ n0 ≤ 1000000000) :
    Calls Try.prog 47 #[.int .i64 n0] w fun e w' => ∃ r, e = .returned r ∧ ownP w.heap.size w' r (facS (3 * n0.toNat + 300) n0 2) ∧ Below w.heap.size w w' := by
  obtain ⟨i0, hi, hz0, hz1, hz2⟩ := info_parts infoP
  obtain ⟨L, hL⟩ : ∃ L, L = facS (3 * n0.toNat + 300) n0 2 := ⟨_, rfl⟩
  rw [← hL]
  have HL := hid hL
  clear hL
  go_enter Try.func47, Try.ntmps47
  go_wp2_with fail
  go_loopw [0, 3, 4] (fun nv r pv wr => ∃ (n p : Int) (f : Nat) (ps : List (Int × Int)) (uu : World), wr = aft w uu ∧ nv = .int .i64 n ∧ pv = .int .i64 p ∧ (2 ≤ p ∧ p ≤ 1000000001) ∧ (1 ≤ n ∧ n ≤ 1000000000) ∧ ps ++ facS f n p = L ∧ 2 * n + (n - p).toNat + 1 ≤ f ∧ ps.length + f ≤ 3 * n0.toNat + 300 ∧ ownP w.heap.size wr r ps) (fun nv _ pv _ => (2 * intOf nv + (intOf nv - intOf pv).toNat).toNat)
  case atStart => exact ⟨n0, 2, 3 * n0.toNat + 300, [], w.alloc (.cells #[] 56), (aft_of (Below.alloc (Below.refl _ _) (Nat.le_refl _) _)).symm, rfl, rfl, by omega, hn0, by rw [HL.out]; rfl, by omega, by simp, ownP_empty w⟩
  case round =>
    obtain ⟨n, p, f, ps, uu, rfl, rfl, rfl, hp, hn, hL, hf, hlen, hown⟩ := hrel
    have zs := size_aft w uu
    obtain ⟨g, rfl⟩ : ∃ g, f = g + 1 := ⟨f - 1, by omega⟩
    have hpp : p * p ≤ 1000000001 * 1000000001 := Int.mul_le_mul (by omega) (by omega) (by omega) (by omega)
    have hpp0 : 0 ≤ p * p := Int.mul_nonneg (by omega) (by omega)
    unfold facS at hL
    by_cases hc : n < p * p
    case pos =>
      rw [if_pos hc] at hL
      have hcd : decide (p * p ≤ n) = false := by simp; omega
      have HW := hid hown
      by_cases h1 : 1 < n
      · have hd : decide (1 < n) = true := by simpa using h1
        rw [if_pos h1] at hL
        subst hL
        clear hf hown
        go_wp2_with (at_builtin; refine wpList_append_own _ rfl _ _ 53 rfl w.heap.size 56 i0 (.agg #[.int .i64 0, .int .i64 0]) 2 16 Try.underlying53 hi hz0 hz1 hz2 rfl (by decide) _ _ _ rfl (HW.out.alloc _) ⟨_, 0, none⟩ 1 1 [.int .i64 n, .int .i64 1] rfl rfl ?c1 ?c2 ?c3 ?c4 ?c5 ?_)
        first | (case c1 => exact cell_two_new _ _ _ _) | skip
        case c2 => first | exact ⟨rfl, rfl⟩ | (intro u hu; simp at hu; rcases hu with rfl | rfl <;> rfl)
        case c3 => unfold maxLen; omega
        case c4 => omega
        case c5 => first | omega | (simp; omega)
        intro v' w1 hown' hgrow _
        obtain ⟨u', rfl⟩ := grown_aft (W := w) (by repeat (with_reducible first | exact Ext.refl _ | apply Ext.alloc | apply Ext.aft | apply Ext.drew | apply Ext.drewN | apply Ext.setCell | exact Nat.le_add_right _ _ | exact Nat.le_refl _ | (simp; done) | omega)) hgrow (ownP_ge HW.out)
        have HO := hid (ownP.snoc (x := (n, 1)) hown')
        clear hown' hgrow
        go_wp2_with fail
        go_ret
        exact ⟨_, rfl, HO.out, (by refine Ext.bel ?_; repeat (with_reducible first | exact Ext.refl _ | apply Ext.alloc | apply Ext.aft | apply Ext.drew | apply Ext.drewN | apply Ext.setCell | exact Nat.le_add_right _ _ | exact Nat.le_refl _ | (simp; done) | omega))⟩
      · have hd : decide (1 < n) = false := by simpa using h1
        rw [if_neg h1, List.append_nil] at hL
        subst hL
        clear hf hown
        go_wp2_with fail
        go_ret
        exact ⟨_, rfl, HW.out, (by refine Ext.bel ?_; repeat (with_reducible first | exact Ext.refl _ | apply Ext.alloc | apply Ext.aft | apply Ext.drew | apply Ext.drewN | apply Ext.setCell | exact Nat.le_add_right _ _ | exact Nat.le_refl _ | (simp; done) | omega))⟩
    case neg =>
      have hcd : decide (p * p ≤ n) = true := by simp; omega
      rw [if_neg hc] at hL
      obtain ⟨k1, k2, k3, k4⟩ := @quo_le n p (by omega) hn.1
      have HW := hid hown
      have HLL := hid hL
      have HF := hid hf
      have K1 := hid k1
      have K2 := hid k2
      have K3 := hid k3
      have K4 := hid k4
      have HC := hid hc
      clear hL hown hf k1 k2 k3 k4 hc
      go_wp2_with fail
      go_loop [0, 5] (fun s v => ∃ (c : Int) (k : Nat), s = .int .i64 c ∧ v = .int .i64 k ∧ n = c * p ^ k ∧ (1 ≤ c ∧ c ≤ 1000000000) ∧ k + c.natAbs ≤ n.natAbs) (fun s _ => (intOf s).natAbs)
      case atStart => exact ⟨n, 0, rfl, rfl, by simp, by omega, by omega⟩
      case round =>
        obtain ⟨c, k, rfl, rfl, he, hcb, hk⟩ := hrel
        have hqt : c.tmod p = c % p := Int.tmod_eq_emod_of_nonneg (by omega)
        have hqd : c.tdiv p = c / p := Int.tdiv_eq_ediv_of_nonneg (by omega)
        have q0 : (p == 0) = false := by rw [beq_eq_false_iff_ne]; omega
        have q1 : p ≠ 0 := by omega
        by_cases hr : c % p = 0
        · have hr' : (c % p == 0) = true := by simpa using hr
          have hd2 : c / p * p = c := Int.ediv_mul_cancel (Int.dvd_of_emod_eq_zero hr)
          have h3 : 1 ≤ c / p := by
            rcases Int.lt_or_le 0 (c / p) with h | h
            · omega
            · have := Int.mul_nonpos_of_nonpos_of_nonneg h (show 0 ≤ p by omega); omega
          have h4 : c / p * 2 ≤ c / p * p := Int.mul_le_mul_of_nonneg_left (by omega) (by omega)
          have HE := hid (show n = c / p * p ^ (k + 1) by rw [Int.pow_succ, Int.mul_comm (p ^ k), ← Int.mul_assoc, hd2]; exact he)
          have h11 : (c / p).natAbs + 1 ≤ c.natAbs := by omega
          have h12 : c / p ≤ c := by omega
          clear hr he hd2 h4
          go_wp2_with fail
          go_round
          case rel => exact ⟨c / p, k + 1, rfl, by go_num, HE.out, by omega, by omega⟩
          case measure => simp only [intOf]; omega
        · have hr' : (c % p == 0) = false := by simpa using hr
          have hv : vl n p = k := vl_eq (by omega) he hr
          obtain ⟨c', e1, e2, e3⟩ := @vl_spec n p (by omega) (by omega)
          have hcc : n / p ^ vl n p = c := by
            rw [e3]
            rw [hv] at e1
            have hP := pow_pos' (show 1 ≤ p by omega) k
            have : c' * p ^ k = c * p ^ k := by rw [← e1]; exact he
            exact Int.eq_of_mul_eq_mul_right (by omega) this
          have h5 := K1.out
          have h6 := K2.out
          have h7 := K3.out
          have h8 := K4.out
          have hLL := HLL.out
          rw [hcc] at h5 h6 h7 h8 hLL
          rw [hv] at h6 h7 hLL
          have hff := HF.out
          have HLL2 := hid hLL
          have H6 := hid h6
          have H7 := hid h7
          have hcc2 := HC.out
          clear hr he e1 e2 e3 hcc hLL h6 h7 hv
          by_cases hk0 : k = 0
          · have h9 := H6.out hk0
            subst hk0
            have hLL := HLL2.out
            rw [if_pos rfl, List.nil_append] at hLL
            have HL3 := hid hLL
            subst h9
            have h13 : 2 * p ≤ p * p := Int.mul_le_mul_of_nonneg_right hp.1 (by omega)
            have hm : p < c := by omega
            clear hLL hcc2 h13
            go_wp2_with fail
            exact ⟨⟨_, _, g, ps, uu, rfl, rfl, rfl, by omega, by omega, HL3.out, by omega, by omega, HW.out⟩, by simp only [intOf]; omega⟩
          · have hkd : decide ((0 : Int) < (k : Int)) = true := by simp; omega
            have h10 := H7.out hk0
            have hLL := HLL2.out
            rw [if_neg hk0] at hLL
            have HL3 := hid hLL
            have h13 : 2 * p ≤ p * p := Int.mul_le_mul_of_nonneg_right hp.1 (by omega)
            have hp3 : 2 * p ≤ n := by omega
            clear hLL hcc2
            go_wp2_with (at_builtin; refine wpList_append_own _ rfl _ _ 53 rfl w.heap.size 56 i0 (.agg #[.int .i64 0, .int .i64 0]) 2 16 Try.underlying53 hi hz0 hz1 hz2 rfl (by decide) _ _ _ rfl (HW.out.alloc _) ⟨_, 0, none⟩ 1 1 [.int .i64 p, .int .i64 k] rfl rfl ?d1 ?d2 ?d3 ?d4 ?d5 ?_)
            first | (case d1 => exact cell_two_new _ _ _ _) | skip
            case d2 => first | exact ⟨rfl, rfl⟩ | (intro u hu; simp at hu; rcases hu with rfl | rfl <;> rfl)
            case d3 => unfold maxLen; omega
            case d4 => omega
            case d5 => first | omega | (simp; omega)
            intro v' w1 hown' hgrow _
            obtain ⟨u', rfl⟩ := grown_aft (W := w) (by repeat (with_reducible first | exact Ext.refl _ | apply Ext.alloc | apply Ext.aft | apply Ext.drew | apply Ext.drewN | apply Ext.setCell | exact Nat.le_add_right _ _ | exact Nat.le_refl _ | (simp; done) | omega)) hgrow (ownP_ge HW.out)
            have HO := hid (ownP.snoc (x := (p, (k : Int))) hown')
            clear hown' hgrow
            go_wp2_with fail
            exact ⟨⟨_, _, g, ps ++ [(p, (k : Int))], u', rfl, rfl, rfl, by omega, by omega, by rw [List.append_assoc]; exact HL3.out, by omega, by simp; omega, HO.out⟩, by simp only [intOf]; omega⟩
end Go.Proofs.Ytdeehgcabnoclaa

