/- FindConic: the statement's text. -/
import Derived.Test.YtdeehgcabnoclaaJE
namespace Go.Proofs.Ytdeehgcabnoclaa
open Go Go.RowKit

def rtZ (n : Int) : Nat → Int → Int
  | 0, _ => -1
  | k + 1, z => if z * z = n then z else rtZ n k (z + 1)
theorem rtZ_bd (n : Int) : ∀ (k : Nat) (z : Int), 0 ≤ z → -1 ≤ rtZ n k z ∧ rtZ n k z ≤ z + k
  | 0, z, h => by simp [rtZ]; omega
  | k + 1, z, h => by
    have := rtZ_bd n k (z + 1) (by omega)
    unfold rtZ
    split <;> omega
theorem scanZ_rt {a b x y : Int} (hx : 0 ≤ x) (hy : 0 ≤ y) : ∀ (k : Nat) (z : Int), 0 ≤ z → scanZ a b x y k z = if (0 < x ∨ 0 < y) ∧ 0 ≤ rtZ (a * x * x + b * y * y) k z then some (x, y, rtZ (a * x * x + b * y * y) k z) else none
  | 0, z, h => by simp [rtZ, scanZ]
  | k + 1, z, h => by
    have ih := scanZ_rt (a := a) (b := b) hx hy k (z + 1) (by omega)
    unfold scanZ rtZ
    by_cases he : a * x * x + b * y * y = z * z
    · simp only [if_pos he.symm]
      by_cases hxy : 0 < x ∨ 0 < y
      · rw [if_pos ⟨he, by omega⟩, if_pos ⟨hxy, h⟩]
      · have x0 : x = 0 := by omega
        have y0 : y = 0 := by omega
        have z0 : z = 0 := by
          rw [x0, y0] at he
          simp at he
          rcases Int.mul_eq_zero.1 he.symm with h1 | h1 <;> omega
        have hn : ¬ (a * x * x + b * y * y = z * z ∧ (x ≠ 0 ∨ y ≠ 0 ∨ z ≠ 0)) := fun hh => by
          rcases hh.2 with h1 | h1 | h1
          · exact h1 x0
          · exact h1 y0
          · exact h1 z0
        rw [if_neg hn, ih, if_neg (fun h => hxy h.1), if_neg (fun h => hxy h.1)]
    · have he' : ¬ z * z = a * x * x + b * y * y := fun h => he h.symm
      have hn : ¬ (a * x * x + b * y * y = z * z ∧ (x ≠ 0 ∨ y ≠ 0 ∨ z ≠ 0)) := fun hh => he hh.1
      simp only [if_neg he']
      rw [if_neg hn]
      exact ih

set_option maxHeartbeats 1000000 in
theorem s_root (n m : Int) (w : World) (hm : 0 ≤ m ∧ m ≤ 100) :
    Calls Try.prog 27 #[.int .i64 n, .int .i64 m] w fun e w' => e = .returned (.int .i64 (rtZ n (m + 1).toNat 0)) ∧ w = w' := by
  obtain ⟨M, hM⟩ : ∃ M : Nat, M = (m + 1).toNat := ⟨_, rfl⟩
  have hMi : (M : Int) = m + 1 := by omega
  rw [← hM]
  obtain ⟨L, hL⟩ : ∃ L, L = rtZ n M 0 := ⟨_, rfl⟩
  rw [← hL]
  have HL := hid hL.symm
  clear hL hM
  go_enter Try.func27, Try.ntmps27
  go_wp2_with fail
  go_loop [5] (fun zv => ∃ z : Nat, z ≤ M ∧ zv = .int .i64 z ∧ rtZ n (M - z) z = L) (fun zv => M - (intOf zv).toNat)
  case atStart => exact ⟨0, by omega, rfl, by rw [Nat.sub_zero]; exact HL.out⟩
  case round =>
    obtain ⟨z, hz, rfl, hR⟩ := hrel
    by_cases hlt : z < M
    case neg =>
      have e1 : M - z = 0 := by omega
      rw [e1] at hR
      have hR2 : -1 = L := hR
      subst hR2
      have hd : decide ((z : Int) ≤ m) = false := by simp; omega
      clear hR e1 hlt
      go_wp2_with fail
      go_ret
      exact ⟨rfl, rfl⟩
    have hd : decide ((z : Int) ≤ m) = true := by simp; omega
    have e1 : M - z = (M - (z + 1)) + 1 := by omega
    rw [e1] at hR
    unfold rtZ at hR
    have zb := sq2_bd (show 0 ≤ (z : Int) ∧ (z : Int) ≤ 100 by omega)
    by_cases ht : (z : Int) * (z : Int) = n
    · rw [if_pos ht] at hR
      have ht' : ((z : Int) * (z : Int) == n) = true := by simpa using ht
      subst hR
      clear ht e1
      go_wp2_with fail
      go_ret
      exact ⟨rfl, rfl⟩
    · rw [if_neg ht] at hR
      have ht' : ((z : Int) * (z : Int) == n) = false := by simpa using ht
      have HR : Hid (rtZ n (M - (z + 1)) ((z + 1 : Nat) : Int) = L) := hid hR
      clear hR ht e1
      go_wp2_with fail
      go_round
      case rel => exact ⟨z + 1, by omega, by go_num, HR.out⟩
      case measure => simp only [intOf]; omega

def twoF (a b : Int) : Int := if inB a (-1000000000000) 1000000000000 = true ∧ inB b (-1000000000000) 1000000000000 = true ∧ a ≠ 0 ∧ b ≠ 0 then 0 else 2
set_option maxHeartbeats 1000000 in
theorem s_16Two (a b : Int) (w : World) :
    Calls Try.prog 25 #[.int .i64 a, .int .i64 b] w fun e w' => e = .returned (.int .i64 (twoF a b)) ∧ w = w' := by
  by_cases h1 : inB a (-1000000000000) 1000000000000 = true
  case neg =>
    have e : twoF a b = 2 := by unfold twoF; rw [if_neg (fun h => h1 h.1)]
    rw [e]; clear e
    have h1' : inB a (-1000000000000) 1000000000000 = false := by simpa using h1
    go_enter Try.func25, Try.ntmps25
    go_wp2_with fail
    refine pur (s_is _ _) ?_
    rw [h1']
    go_wp2_with fail
    go_ret
    exact ⟨rfl, rfl⟩
  by_cases h2 : inB b (-1000000000000) 1000000000000 = true
  case neg =>
    have e : twoF a b = 2 := by unfold twoF; rw [if_neg (fun h => h2 h.2.1)]
    rw [e]; clear e
    have h2' : inB b (-1000000000000) 1000000000000 = false := by simpa using h2
    go_enter Try.func25, Try.ntmps25
    go_wp2_with fail
    refine pur (s_is _ _) ?_
    rw [h1]
    go_wp2_with fail
    refine pur (s_is _ _) ?_
    rw [h2']
    go_wp2_with fail
    go_ret
    exact ⟨rfl, rfl⟩
  by_cases h3 : a = 0
  · have e : twoF a b = 2 := by unfold twoF; rw [if_neg (fun h => h.2.2.1 h3)]
    rw [e]; clear e
    have h3' : (a == 0) = true := by simpa using h3
    clear h3
    go_enter Try.func25, Try.ntmps25
    go_wp2_with fail
    refine pur (s_is _ _) ?_
    rw [h1]
    go_wp2_with fail
    refine pur (s_is _ _) ?_
    rw [h2]
    go_wp2_with fail
    go_ret
    exact ⟨rfl, rfl⟩
  have h3' : (a == 0) = false := by simpa using h3
  by_cases h4 : b = 0
  · have e : twoF a b = 2 := by unfold twoF; rw [if_neg (fun h => h.2.2.2 h4)]
    rw [e]; clear e
    have h4' : (b == 0) = true := by simpa using h4
    clear h3 h4
    go_enter Try.func25, Try.ntmps25
    go_wp2_with fail
    refine pur (s_is _ _) ?_
    rw [h1]
    go_wp2_with fail
    refine pur (s_is _ _) ?_
    rw [h2]
    go_wp2_with fail
    go_ret
    exact ⟨rfl, rfl⟩
  have h4' : (b == 0) = false := by simpa using h4
  have e : twoF a b = 0 := by unfold twoF; rw [if_pos ⟨h1, h2, h3, h4⟩]
  rw [e]; clear e h3 h4
  go_enter Try.func25, Try.ntmps25
  go_wp2_with fail
  refine pur (s_is _ _) ?_
  rw [h1]
  go_wp2_with fail
  refine pur (s_is _ _) ?_
  rw [h2]
  go_wp2_with fail
  go_ret
  exact ⟨rfl, rfl⟩

set_option maxRecDepth 20000 in
set_option maxHeartbeats 4000000 in
theorem s_FindConic (a b m : Int) (w : World) :
    Calls Try.prog 7 #[.int .i64 a, .int .i64 b, .int .i64 m] w fun e w' => e = .returned (.tuple #[.int .i64 (fcF a b m).1, .int .i64 (fcF a b m).2.1, .int .i64 (fcF a b m).2.2.1, .int .i64 (fcF a b m).2.2.2]) ∧ w = w' := by
  by_cases h1 : twoF a b = 0
  case neg =>
    have h1b : twoF a b = 2 := by
      unfold twoF at h1 ⊢
      split at h1
      · exact absurd rfl h1
      · exact if_neg (by assumption)
    have e : fcF a b m = (0, 0, 0, 2) := by
      unfold fcF
      refine if_neg fun ⟨⟨k1, k2⟩, ⟨k3, k4⟩, _⟩ => h1 ?_
      have q1 := inB_iff.1 k1
      have q2 := inB_iff.1 k3
      unfold twoF
      exact if_pos ⟨inB_iff.2 (by omega), inB_iff.2 (by omega), k2, k4⟩
    rw [e]; clear e
    go_enter Try.func7, Try.ntmps7
    go_wp2_with fail
    refine pur (s_16Two _ _ _) ?_
    rw [h1b]
    go_wp2_with fail
    (try simp only [Exit.inBlock, Exit.then]); refine bodyPost_ret (results_tmp4 rfl _ _ _) rfl ?_
    exact ⟨rfl, rfl⟩
  by_cases h2 : inB m 0 100 = true
  case neg =>
    have e : fcF a b m = (0, 0, 0, 2) := by unfold fcF; exact if_neg fun h => h2 h.2.2
    rw [e]; clear e
    have h2' : inB m 0 100 = false := by simpa using h2
    go_enter Try.func7, Try.ntmps7
    go_wp2_with fail
    refine pur (s_16Two _ _ _) ?_
    rw [h1]
    go_wp2_with fail
    refine pur (s_in _ _ _ _) ?_
    rw [h2']
    go_wp2_with fail
    (try simp only [Exit.inBlock, Exit.then]); refine bodyPost_ret (results_tmp4 rfl _ _ _) rfl ?_
    exact ⟨rfl, rfl⟩
  by_cases h3 : inB a (-1000000) 1000000 = true
  case neg =>
    have e : fcF a b m = (0, 0, 0, 2) := by unfold fcF; exact if_neg fun h => h3 h.1.1
    rw [e]; clear e
    have h3' : inB a (-1000000) 1000000 = false := by simpa using h3
    go_enter Try.func7, Try.ntmps7
    go_wp2_with fail
    refine pur (s_16Two _ _ _) ?_
    rw [h1]
    go_wp2_with fail
    refine pur (s_in _ _ _ _) ?_
    rw [h2]
    go_wp2_with fail
    refine pur (s_in _ _ _ _) ?_
    rw [h3']
    go_wp2_with fail
    (try simp only [Exit.inBlock, Exit.then]); refine bodyPost_ret (results_tmp4 rfl _ _ _) rfl ?_
    exact ⟨rfl, rfl⟩
  by_cases h4 : inB b (-1000000) 1000000 = true
  case neg =>
    have e : fcF a b m = (0, 0, 0, 2) := by unfold fcF; exact if_neg fun h => h4 h.2.1.1
    rw [e]; clear e
    have h4' : inB b (-1000000) 1000000 = false := by simpa using h4
    go_enter Try.func7, Try.ntmps7
    go_wp2_with fail
    refine pur (s_16Two _ _ _) ?_
    rw [h1]
    go_wp2_with fail
    refine pur (s_in _ _ _ _) ?_
    rw [h2]
    go_wp2_with fail
    refine pur (s_in _ _ _ _) ?_
    rw [h3]
    go_wp2_with fail
    refine pur (s_in _ _ _ _) ?_
    rw [h4']
    go_wp2_with fail
    (try simp only [Exit.inBlock, Exit.then]); refine bodyPost_ret (results_tmp4 rfl _ _ _) rfl ?_
    exact ⟨rfl, rfl⟩
  have e : fcF a b m = fcO (scanX a b (m + 1).toNat (m + 1).toNat 0) := by
    unfold fcF
    refine if_pos ?_
    have h5 : a ≠ 0 ∧ b ≠ 0 := by
      unfold twoF at h1
      split at h1
      · rename_i hh; exact hh.2.2
      · simp at h1
    exact ⟨⟨h3, h5.1⟩, ⟨h4, h5.2⟩, h2⟩
  rw [e]
  clear e
  have ab := inB_iff.1 h3
  have bb := inB_iff.1 h4
  have mb := inB_iff.1 h2
  obtain ⟨M, hM⟩ : ∃ M : Nat, M = (m + 1).toNat := ⟨_, rfl⟩
  have hMi : (M : Int) = m + 1 := by omega
  have HRT : Hid (∀ (n : Int) (W : World), Calls Try.prog 27 #[.int .i64 n, .int .i64 m] W fun e w' => e = .returned (.int .i64 (rtZ n M 0)) ∧ W = w') := hid fun n W => by
    have := s_root n m W mb
    rw [← hM] at this
    exact this
  rw [← hM]
  obtain ⟨L, hL⟩ : ∃ L, L = scanX a b M M 0 := ⟨_, rfl⟩
  rw [← hL]
  have HL := hid hL.symm
  clear hL hM
  go_enter Try.func7, Try.ntmps7
  go_wp2_with fail
  refine pur (s_16Two _ _ _) ?_
  rw [h1]
  go_wp2_with fail
  refine pur (s_in _ _ _ _) ?_
  rw [h2]
  go_wp2_with fail
  refine pur (s_in _ _ _ _) ?_
  rw [h3]
  go_wp2_with fail
  refine pur (s_in _ _ _ _) ?_
  rw [h4]
  clear h1 h2 h3 h4
  go_wp2_with fail
  go_loop [10] (fun xv => ∃ x : Nat, x ≤ M ∧ xv = .int .i64 x ∧ scanX a b M (M - x) x = L) (fun xv => M - (intOf xv).toNat)
  case atStart => exact ⟨0, by omega, rfl, by rw [Nat.sub_zero]; exact HL.out⟩
  case round =>
    obtain ⟨x, hx, rfl, hR⟩ := hrel
    by_cases hlt : x < M
    case neg =>
      have e1 : M - x = 0 := by omega
      rw [e1] at hR
      have hR2 : none = L := hR
      subst hR2
      have hd : decide ((x : Int) ≤ m) = false := by simp; omega
      clear hR e1 hlt
      go_wp2_with fail
      (try simp only [Exit.inBlock, Exit.then]); refine bodyPost_ret (results_tmp4 rfl _ _ _) rfl ?_
      exact ⟨rfl, rfl⟩
    have hd : decide ((x : Int) ≤ m) = true := by simp; omega
    have e1 : M - x = (M - (x + 1)) + 1 := by omega
    rw [e1] at hR
    have hR2 : (scanY a b x M M 0).or (scanX a b M (M - (x + 1)) ((x + 1 : Nat) : Int)) = L := hR
    have HR := hid hR2
    have xb := mul2_bd ab (show 0 ≤ (x : Int) ∧ (x : Int) ≤ 100 by omega)
    clear hR hR2 e1
    go_wp2_with fail
    go_loop [11] (fun yv => ∃ y : Nat, y ≤ M ∧ yv = .int .i64 y ∧ (scanY a b x M (M - y) y).or (scanX a b M (M - (x + 1)) ((x + 1 : Nat) : Int)) = L) (fun yv => M - (intOf yv).toNat)
    case atStart => exact ⟨0, by omega, rfl, by rw [Nat.sub_zero]; exact HR.out⟩
    case round =>
      obtain ⟨y, hy, rfl, hR⟩ := hrel
      by_cases hlty : y < M
      case neg =>
        have e1 : M - y = 0 := by omega
        rw [e1] at hR
        have HR3 : Hid (scanX a b M (M - (x + 1)) ((x + 1 : Nat) : Int) = L) := hid hR
        have hdy : decide ((y : Int) ≤ m) = false := by simp; omega
        clear hR e1 hlty
        go_wp2_with fail
        exact ⟨⟨x + 1, by omega, by go_num, HR3.out⟩, by simp only [intOf]; omega⟩
      have hdy : decide ((y : Int) ≤ m) = true := by simp; omega
      have e1 : M - y = (M - (y + 1)) + 1 := by omega
      rw [e1] at hR
      have hR2 : ((scanZ a b x y M 0).or (scanY a b x M (M - (y + 1)) ((y + 1 : Nat) : Int))).or (scanX a b M (M - (x + 1)) ((x + 1 : Nat) : Int)) = L := hR
      have yb := mul2_bd bb (show 0 ≤ (y : Int) ∧ (y : Int) ≤ 100 by omega)
      rw [scanZ_rt (by omega) (by omega) M 0 (by omega)] at hR2
      have HC : Hid (∀ W : World, Calls Try.prog 27 #[.int .i64 (a * (x : Int) * (x : Int) + b * (y : Int) * (y : Int)), .int .i64 m] W fun e w' => e = .returned (.int .i64 (rtZ (a * (x : Int) * (x : Int) + b * (y : Int) * (y : Int)) M 0)) ∧ W = w') := hid fun W => HRT.out _ W
      have hrb := rtZ_bd (a * (x : Int) * (x : Int) + b * (y : Int) * (y : Int)) M 0 (by omega)
      obtain ⟨z, hz⟩ : ∃ z, z = rtZ (a * (x : Int) * (x : Int) + b * (y : Int) * (y : Int)) M 0 := ⟨_, rfl⟩
      rw [← hz] at HC hrb hR2
      clear hR e1 hz
      by_cases hz0 : 0 ≤ z
      · have hzd : decide (0 ≤ z) = true := by simpa using hz0
        by_cases hx0 : 0 < (x : Int)
        · have hxd : decide (0 < (x : Int)) = true := by simpa using hx0
          have hxn : decide (0 < x) = true := by simp; omega
          rw [if_pos ⟨.inl hx0, hz0⟩] at hR2
          have hR3 : some ((x : Int), (y : Int), z) = L := hR2
          subst hR3
          clear hR2 hz0 hx0
          go_wp2_with (go_at_call 27; refine pur (HC.out _) ?_)
          (try simp only [Exit.inBlock, Exit.then]); refine bodyPost_ret (results_tmp4 rfl _ _ _) rfl ?_
          exact ⟨rfl, rfl⟩
        · have hxd : decide (0 < (x : Int)) = false := by simpa using hx0
          have hxn : decide (0 < x) = false := by simp; omega
          by_cases hy0 : 0 < (y : Int)
          · have hyd : decide (0 < (y : Int)) = true := by simpa using hy0
            have hyn : decide (0 < y) = true := by simp; omega
            rw [if_pos ⟨.inr hy0, hz0⟩] at hR2
            have hR3 : some ((x : Int), (y : Int), z) = L := hR2
            subst hR3
            clear hR2 hz0 hx0 hy0
            go_wp2_with (go_at_call 27; refine pur (HC.out _) ?_)
            (try simp only [Exit.inBlock, Exit.then]); refine bodyPost_ret (results_tmp4 rfl _ _ _) rfl ?_
            exact ⟨rfl, rfl⟩
          · have hyd : decide (0 < (y : Int)) = false := by simpa using hy0
            have hyn : decide (0 < y) = false := by simp; omega
            rw [if_neg (fun h => h.1.elim hx0 hy0), Option.none_or] at hR2
            have HR2 := hid hR2
            clear hR2 hz0 hx0 hy0
            go_wp2_with (go_at_call 27; refine pur (HC.out _) ?_)
            go_round
            case rel => exact ⟨y + 1, by omega, by go_num, HR2.out⟩
            case measure => simp only [intOf]; omega
      · have hzd : decide (0 ≤ z) = false := by simpa using hz0
        rw [if_neg (fun h => hz0 h.2), Option.none_or] at hR2
        have HR2 := hid hR2
        clear hR2 hz0
        go_wp2_with (go_at_call 27; refine pur (HC.out _) ?_)
        go_round
        case rel => exact ⟨y + 1, by omega, by go_num, HR2.out⟩
        case measure => simp only [intOf]; omega
end Go.Proofs.Ytdeehgcabnoclaa
