/- JacobiSymbol: the statement's text. -/
import Derived.Test.YtdeehgcabnoclaaJB
namespace Go.Proofs.Ytdeehgcabnoclaa
open Go Go.RowKit

set_option maxRecDepth 20000 in
set_option maxHeartbeats 8000000 in
theorem s_jacobi (a n : Int) (w : World) :
    Calls Try.prog 16 #[.int .i64 a, .int .i64 n] w fun e w' => e = .returned (.tuple #[.int .i64 (jacF a n).1, .int .i64 (jacF a n).2]) ∧ Below w.heap.size w w' := by
  by_cases h1 : inB a (-1000000000000) 1000000000000 = true
  case neg =>
    have e : jacF a n = (0, 2) := by unfold jacF; rw [if_neg (fun h => h1 h.1)]
    rw [e]
    have h1' : inB a (-1000000000000) 1000000000000 = false := by simpa using h1
    go_enter Try.func16, Try.ntmps16
    go_wp2_with fail
    refine pur (s_is _ _) ?_
    rw [h1']
    go_wp2_with fail
    go_ret2
    exact ⟨rfl, (by refine Ext.bel ?_; repeat (with_reducible first | exact Ext.refl _ | apply Ext.alloc | apply Ext.aft | apply Ext.drew | apply Ext.drewN | apply Ext.setCell | exact Nat.le_add_right _ _ | exact Nat.le_refl _ | (simp; done) | omega))⟩
  by_cases h2 : inB n 1 1000000 = true
  case neg =>
    have e : jacF a n = (0, 2) := by unfold jacF; rw [if_neg (fun h => h2 h.2.1)]
    rw [e]
    have h2' : inB n 1 1000000 = false := by simpa using h2
    go_enter Try.func16, Try.ntmps16
    go_wp2_with fail
    refine pur (s_is _ _) ?_
    rw [h1]
    go_wp2_with fail
    refine pur (s_in _ _ _ _) ?_
    rw [h2']
    go_wp2_with fail
    go_ret2
    exact ⟨rfl, (by refine Ext.bel ?_; repeat (with_reducible first | exact Ext.refl _ | apply Ext.alloc | apply Ext.aft | apply Ext.drew | apply Ext.drewN | apply Ext.setCell | exact Nat.le_add_right _ _ | exact Nat.le_refl _ | (simp; done) | omega))⟩
  have b1 := inB_iff.1 h1
  have b2 := inB_iff.1 h2
  have ht : n.tmod 2 = n % 2 := Int.tmod_eq_emod_of_nonneg (by omega)
  by_cases h3 : n % 2 = 0
  · have e : jacF a n = (0, 2) := by unfold jacF; rw [if_neg (fun h => h.2.2 h3)]
    rw [e]
    have h3' : (n % 2 == 0) = true := by simpa using h3
    clear h3 e
    go_enter Try.func16, Try.ntmps16
    go_wp2_with fail
    refine pur (s_is _ _) ?_
    rw [h1]
    go_wp2_with fail
    refine pur (s_in _ _ _ _) ?_
    rw [h2]
    go_wp2_with fail
    go_ret2
    exact ⟨rfl, (by refine Ext.bel ?_; repeat (with_reducible first | exact Ext.refl _ | apply Ext.alloc | apply Ext.aft | apply Ext.drew | apply Ext.drewN | apply Ext.setCell | exact Nat.le_add_right _ _ | exact Nat.le_refl _ | (simp; done) | omega))⟩
  obtain ⟨eS, hmem⟩ := jac_facts b2.1 h3
  have e : jacF a n = (jacP a (facS (3 * n.toNat + 300) n 2) 1, 0) := by unfold jacF; rw [if_pos ⟨h1, h2, h3⟩, eS]
  rw [e]
  have h3' : (n % 2 == 0) = false := by simpa using h3
  have hmem2 := facI_mem (3 * n.toNat + 300) n 2 (by omega) (by omega) b2.1 (by omega)
  rw [eS] at hmem hmem2
  have HF : Hid (∀ W : World, Calls Try.prog 47 #[.int .i64 n] W fun e w' => ∃ r, e = .returned r ∧ ownP W.heap.size w' r (facS (3 * n.toNat + 300) n 2) ∧ Below W.heap.size W w') := hid fun W => s_factors n W (by omega)
  obtain ⟨xs, hxs⟩ : ∃ xs, xs = facS (3 * n.toNat + 300) n 2 := ⟨_, rfl⟩
  rw [← hxs] at HF hmem hmem2 ⊢
  obtain ⟨R, hR⟩ : ∃ R, R = jacP a xs 1 := ⟨_, rfl⟩
  rw [← hR]
  have HR := hid hR.symm
  have HX := hid hmem
  have HX2 := hid hmem2
  clear hxs hR hmem hmem2 e eS h3
  go_enter Try.func16, Try.ntmps16
  go_wp2_with fail
  refine pur (s_is _ _) ?_
  rw [h1]
  go_wp2_with fail
  refine pur (s_in _ _ _ _) ?_
  rw [h2]
  go_wp2_with fail
  refine viaPw (HF.out _) ?_
  intro v u3 z3 hown
  (try simp at z3)
  obtain ⟨sa, cap, rfl, hlen, hcells⟩ := hown.rd
  unfold maxLen at hlen
  have HC := hid hcells
  clear hcells hown
  go_wp2_with fail
  obtain ⟨W0, hW0⟩ : ∃ X, X = aft w u3 := ⟨_, rfl⟩
  have hG : Hid (Ext w.heap.size w W0) := hid (by rw [hW0]; exact (Ext.refl w).aft _)
  rw [← hW0] at HC ⊢
  clear hW0 z3
  go_loop [6, 8] (fun e i => ∃ (ix : Nat) (ev : Int), ix ≤ xs.length ∧ i = .int .i64 ix ∧ e = .int .i64 ev ∧ (-1 ≤ ev ∧ ev ≤ 1) ∧ jacP a (xs.drop ix) ev = R) (fun _ i => xs.length - (intOf i).toNat)
  case atStart => exact ⟨0, 1, by omega, rfl, rfl, by omega, by rw [List.drop_zero]; exact HR.out⟩
  case round =>
    obtain ⟨ix, ev, hix, rfl, rfl, hev, hR⟩ := hrel
    by_cases hlt : ix < xs.length
    case neg =>
      have e1 : ix = xs.length := by omega
      rw [e1, List.drop_length] at hR
      have hd : decide ((ix : Int) < (xs.length : Int)) = false := by simp; omega
      have HR2 := hid hR
      clear hR hlt
      go_wp2_with fail
      go_ret2
      exact ⟨by rw [← HR2.out]; rfl, Ext.bel hG.out⟩
    have hd : decide ((ix : Int) < (xs.length : Int)) = true := by simp; omega
    obtain ⟨b, hsa, hbl, hcell⟩ := HC.out (by intro e; rw [e] at hlt; simp at hlt)
    subst hsa
    obtain ⟨c1, c2⟩ := hcell ix hlt
    rw [Nat.mul_comm 2 ix] at c1 c2
    rw [List.drop_eq_getElem_cons hlt] at hR
    have hx := HX.out xs[ix] (List.getElem_mem hlt)
    have hx2 := HX2.out xs[ix] (List.getElem_mem hlt)
    obtain ⟨⟨q, k⟩, hqk⟩ : ∃ z, z = xs[ix] := ⟨_, rfl⟩
    rw [← hqk] at c1 c2 hR hx hx2
    simp only at c1 c2 hx hx2
    have hR2 := jac_next hR
    have hlb := legF_bd a q
    have ht2 : (q - 1).tdiv 2 = (q - 1) / 2 := Int.tdiv_eq_ediv_of_nonneg (by omega)
    have HP : Hid (∀ W : World, Calls Try.prog 48 #[.int .i64 a, .int .i64 ((q - 1) / 2), .int .i64 q] W fun x w' => x = .returned (.int .i64 (powF a ((q - 1) / 2) q)) ∧ W = w') := hid fun W => s_powW a ((q - 1) / 2) q W b1 (by omega) (by omega)
    obtain ⟨hE1, hE2, hE3⟩ := leg_euler (a := a) hx.1 hx.2.1 hx.2.2.1 (by omega)
    obtain ⟨x, hx0⟩ : ∃ x, x = powF a ((q - 1) / 2) q := ⟨_, rfl⟩
    rw [← hx0] at HP hE1 hE2 hE3
    obtain ⟨l, hl⟩ : ∃ l, l = legF a q := ⟨_, rfl⟩
    rw [← hl] at hE1 hR2 hlb
    obtain ⟨S, hS⟩ : ∃ S, S = ev * l ^ k.toNat := ⟨_, rfl⟩
    have hSb := jac_mul_bd hev (jac_pow_bd hlb k.toNat)
    rw [← hS] at hR2 hSb
    have HR2 := hid hR2
    have HS := hid hS.symm
    have hi0 : (0 : Int) ≤ (ix : Int) := by omega
    have hq := hx.2.1
    clear hR hR2 hqk hcell hS hl hx0 hx
    by_cases hxq : x = q - 1
    · have hxd : (x == q - 1) = true := by simpa using hxq
      rw [if_pos hxq] at hE1
      clear hxq
      subst hE1
      go_wp2_with (go_at_call 48; refine pur (HP.out _) ?_)
      go_loop [6, 11] (fun e j => ∃ (jv : Nat) (ew : Int), e = .int .i64 ew ∧ j = .int .i64 jv ∧ (jv : Int) ≤ k ∧ (-1 ≤ ew ∧ ew ≤ 1) ∧ ew * (-1) ^ (k.toNat - jv) = S) (fun _ j => (k - intOf j).toNat)
      case atStart => exact ⟨0, ev, rfl, rfl, by omega, hev, by rw [Nat.sub_zero]; exact HS.out⟩
      case round =>
        obtain ⟨jv, ew, rfl, rfl, hjv, hew, hst⟩ := hrel
        by_cases hj : (jv : Int) < k
        case neg =>
          have hjd : decide ((jv : Int) < k) = false := by simpa using hj
          have e1 : k.toNat - jv = 0 := by omega
          rw [e1, Int.pow_zero, Int.mul_one] at hst
          subst hst
          clear hj
          go_wp2_with fail
          exact ⟨⟨ix + 1, ew, by omega, by go_num, rfl, by omega, HR2.out⟩, by simp only [intOf]; omega⟩
        have hjd : decide ((jv : Int) < k) = true := by simpa using hj
        have e1 : k.toNat - jv = (k.toNat - (jv + 1)) + 1 := by omega
        rw [e1, Int.pow_succ, Int.mul_comm ((-1) ^ _) (-1), ← Int.mul_assoc] at hst
        have hb := jac_mul_bd hew hlb
        have HST := hid hst
        clear hst e1
        go_wp2_with fail
        go_round
        case rel => exact ⟨jv + 1, ew * (-1), by go_num, by go_num, by omega, by omega, HST.out⟩
        case measure => simp only [intOf]; omega
    · have hxd : (x == q - 1) = false := by simpa using hxq
      rw [if_neg hxq] at hE1
      clear hxq
      subst hE1
      go_wp2_with (go_at_call 48; refine pur (HP.out _) ?_)
      go_loop [6, 11] (fun e j => ∃ (jv : Nat) (ew : Int), e = .int .i64 ew ∧ j = .int .i64 jv ∧ (jv : Int) ≤ k ∧ (-1 ≤ ew ∧ ew ≤ 1) ∧ ew * x ^ (k.toNat - jv) = S) (fun _ j => (k - intOf j).toNat)
      case atStart => exact ⟨0, ev, rfl, rfl, by omega, hev, by rw [Nat.sub_zero]; exact HS.out⟩
      case round =>
        obtain ⟨jv, ew, rfl, rfl, hjv, hew, hst⟩ := hrel
        by_cases hj : (jv : Int) < k
        case neg =>
          have hjd : decide ((jv : Int) < k) = false := by simpa using hj
          have e1 : k.toNat - jv = 0 := by omega
          rw [e1, Int.pow_zero, Int.mul_one] at hst
          subst hst
          clear hj
          go_wp2_with fail
          exact ⟨⟨ix + 1, ew, by omega, by go_num, rfl, by omega, HR2.out⟩, by simp only [intOf]; omega⟩
        have hjd : decide ((jv : Int) < k) = true := by simpa using hj
        have e1 : k.toNat - jv = (k.toNat - (jv + 1)) + 1 := by omega
        rw [e1, Int.pow_succ, Int.mul_comm (x ^ _) x, ← Int.mul_assoc] at hst
        have hb := jac_mul_bd hew hlb
        have HST := hid hst
        clear hst e1
        go_wp2_with fail
        go_round
        case rel => exact ⟨jv + 1, ew * x, by go_num, by go_num, by omega, by omega, HST.out⟩
        case measure => simp only [intOf]; omega
end Go.Proofs.Ytdeehgcabnoclaa
