/- JacobiSymbol: the program's text. -/
import Derived.Test.YtdeehgcabnoclaaJA
namespace Go.Proofs.Ytdeehgcabnoclaa
open Go Go.RowKit

theorem i_isFactored (n : Int) (w : World) :
    Calls Try.prog 44 #[.int .i64 n] w fun e w' => e = .returned (.bool (inB n 1 1000000)) ∧ w = w' := by
  go_enter Try.func44, Try.ntmps44
  go_wp2_with (go_at_call 24; refine pur (i_within _ _ _ _) ?_)
  go_ret
  exact ⟨rfl, rfl⟩
theorem jac_pow_bd {e : Int} (h : -1 ≤ e ∧ e ≤ 1) : ∀ k : Nat, -1 ≤ e ^ k ∧ e ^ k ≤ 1
  | 0 => by simp
  | k + 1 => by
    have ih := jac_pow_bd h k
    rw [Int.pow_succ]
    obtain ⟨x, hx⟩ : ∃ x, x = e ^ k := ⟨_, rfl⟩
    rw [← hx] at ih ⊢
    have h1 : e = -1 ∨ e = 0 ∨ e = 1 := by omega
    rcases h1 with rfl | rfl | rfl <;> omega
theorem jac_mul_bd {x e : Int} (hx : -1 ≤ x ∧ x ≤ 1) (h : -1 ≤ e ∧ e ≤ 1) : -1 ≤ x * e ∧ x * e ≤ 1 := by
  have h1 : e = -1 ∨ e = 0 ∨ e = 1 := by omega
  rcases h1 with rfl | rfl | rfl <;> omega
theorem jac_next {a s : Int} {r : List (Int × Int)} {q k S : Int} (h : jacP a ((q, k) :: r) s = S) : jacP a r (s * legF a q ^ k.toNat) = S := h

set_option maxRecDepth 20000 in
set_option maxHeartbeats 8000000 in
theorem i_jacobi (a n : Int) (w : World) :
    Calls Try.prog 15 #[.int .i64 a, .int .i64 n] w fun e w' => e = .returned (.tuple #[.int .i64 (jacF a n).1, .int .i64 (jacF a n).2]) ∧ Below w.heap.size w w' := by
  by_cases h1 : inB a (-1000000000000) 1000000000000 = true
  case neg =>
    have e : jacF a n = (0, 2) := by unfold jacF; rw [if_neg (fun h => h1 h.1)]
    rw [e]
    have h1' : inB a (-1000000000000) 1000000000000 = false := by simpa using h1
    go_enter Try.func15, Try.ntmps15
    go_wp2_with fail
    refine pur (i_isValue _ _) ?_
    rw [h1']
    go_wp2_with fail
    go_ret2
    exact ⟨rfl, (by refine Ext.bel ?_; repeat (with_reducible first | exact Ext.refl _ | apply Ext.alloc | apply Ext.aft | apply Ext.drew | apply Ext.drewN | apply Ext.setCell | exact Nat.le_add_right _ _ | exact Nat.le_refl _ | (simp; done) | omega))⟩
  by_cases h2 : inB n 1 1000000 = true
  case neg =>
    have e : jacF a n = (0, 2) := by unfold jacF; rw [if_neg (fun h => h2 h.2.1)]
    rw [e]
    have h2' : inB n 1 1000000 = false := by simpa using h2
    go_enter Try.func15, Try.ntmps15
    go_wp2_with fail
    refine pur (i_isValue _ _) ?_
    rw [h1]
    go_wp2_with fail
    refine pur (i_isFactored _ _) ?_
    rw [h2']
    go_wp2_with fail
    go_ret2
    exact ⟨rfl, (by refine Ext.bel ?_; repeat (with_reducible first | exact Ext.refl _ | apply Ext.alloc | apply Ext.aft | apply Ext.drew | apply Ext.drewN | apply Ext.setCell | exact Nat.le_add_right _ _ | exact Nat.le_refl _ | (simp; done) | omega))⟩
  have b1 := inB_iff.1 h1
  have b2 := inB_iff.1 h2
  have ht : n.tmod 2 = n % 2 := Int.tmod_eq_emod_of_nonneg (by omega)
  by_cases h3 : n % 2 = 0
  · have e : jacF a n = (0, 2) := by unfold jacF; rw [if_neg (fun h => h.2.2 h3)]
    rw [e]
    have h3' : (n % 2 == 0) = true := by simpa using h3
    clear h3 e
    go_enter Try.func15, Try.ntmps15
    go_wp2_with fail
    refine pur (i_isValue _ _) ?_
    rw [h1]
    go_wp2_with fail
    refine pur (i_isFactored _ _) ?_
    rw [h2]
    go_wp2_with fail
    go_ret2
    exact ⟨rfl, (by refine Ext.bel ?_; repeat (with_reducible first | exact Ext.refl _ | apply Ext.alloc | apply Ext.aft | apply Ext.drew | apply Ext.drewN | apply Ext.setCell | exact Nat.le_add_right _ _ | exact Nat.le_refl _ | (simp; done) | omega))⟩
  have e : jacF a n = (jacP a (facI (3 * n.toNat + 300) n 2) 1, 0) := by unfold jacF; rw [if_pos ⟨h1, h2, h3⟩]
  rw [e]
  have h3' : (n % 2 == 0) = false := by simpa using h3
  have hmem := (jac_facts b2.1 h3).2
  have hmem2 := facI_mem (3 * n.toNat + 300) n 2 (by omega) (by omega) b2.1 (by omega)
  have HF : Hid (∀ W : World, Calls Try.prog 45 #[.int .i64 n] W fun e w' => ∃ r, e = .returned r ∧ ownP W.heap.size w' r (facI (3 * n.toNat + 300) n 2) ∧ Below W.heap.size W w') := hid fun W => i_factors n W (by omega)
  obtain ⟨xs, hxs⟩ : ∃ xs, xs = facI (3 * n.toNat + 300) n 2 := ⟨_, rfl⟩
  rw [← hxs] at HF hmem hmem2 ⊢
  obtain ⟨R, hR⟩ : ∃ R, R = jacP a xs 1 := ⟨_, rfl⟩
  rw [← hR]
  have HR := hid hR.symm
  have HX := hid hmem
  have HX2 := hid hmem2
  clear hxs hR hmem hmem2 e h3
  go_enter Try.func15, Try.ntmps15
  go_wp2_with fail
  refine pur (i_isValue _ _) ?_
  rw [h1]
  go_wp2_with fail
  refine pur (i_isFactored _ _) ?_
  rw [h2]
  go_wp2_with fail
  refine viaPw (HF.out _) ?_
  intro v u3 z3 hown
  (try simp at z3)
  obtain ⟨sa, cap, rfl, hlen, hcells⟩ := hown.rd
  unfold maxLen at hlen
  have HC := hid hcells
  clear hcells hown
  go_wp2_with fail
  obtain ⟨W0, hW0⟩ : ∃ X, X = aft w u3 := ⟨_, rfl⟩
  have hG : Hid (Ext w.heap.size w W0) := hid (by rw [hW0]; exact (Ext.refl w).aft _)
  rw [← hW0] at HC ⊢
  clear hW0 z3
  go_loopw [6, 25] (fun e i wr => ∃ (ix : Nat) (ev : Int) (uu : World), wr = aft W0 uu ∧ ix ≤ xs.length ∧ i = .int .i64 ix ∧ e = .int .i64 ev ∧ (-1 ≤ ev ∧ ev ≤ 1) ∧ jacP a (xs.drop ix) ev = R) (fun _ i _ => xs.length - (intOf i).toNat)
  case atStart => exact ⟨0, 1, W0, (aft_of (Below.refl _ _)).symm, by omega, rfl, rfl, by omega, by rw [List.drop_zero]; exact HR.out⟩
  case round =>
    obtain ⟨ix, ev, uu, rfl, hix, rfl, rfl, hev, hR⟩ := hrel
    have zs := size_aft W0 uu
    by_cases hlt : ix < xs.length
    case neg =>
      have e1 : ix = xs.length := by omega
      rw [e1, List.drop_length] at hR
      have hd : decide ((ix : Int) < (xs.length : Int)) = false := by simp; omega
      have HR2 := hid hR
      clear hR hlt
      go_wp2_with fail
      go_ret2
      exact ⟨by rw [← HR2.out]; rfl, Ext.bel (hG.out.aft _)⟩
    have hd : decide ((ix : Int) < (xs.length : Int)) = true := by simp; omega
    obtain ⟨b, hsa, hbl, hcell⟩ := HC.out (by intro e; rw [e] at hlt; simp at hlt)
    subst hsa
    obtain ⟨c1, c2⟩ := hcell ix hlt
    rw [Nat.mul_comm 2 ix] at c1 c2
    rw [List.drop_eq_getElem_cons hlt] at hR
    have hx := HX.out xs[ix] (List.getElem_mem hlt)
    have hx2 := HX2.out xs[ix] (List.getElem_mem hlt)
    obtain ⟨⟨q, k⟩, hqk⟩ : ∃ z, z = xs[ix] := ⟨_, rfl⟩
    rw [← hqk] at c1 c2 hR hx hx2
    simp only at c1 c2 hx hx2
    have hR2 := jac_next hR
    have hlb := legF_bd a q
    have HL : Hid (∀ W : World, Calls Try.prog 46 #[.int .i64 a, .int .i64 q] W fun e w' => e = .returned (.int .i64 (legF a q)) ∧ W = w') := hid fun W => i_legendre a q W b1 (by omega)
    obtain ⟨l, hl⟩ : ∃ l, l = legF a q := ⟨_, rfl⟩
    rw [← hl] at HL hR2 hlb
    obtain ⟨S, hS⟩ : ∃ S, S = ev * l ^ k.toNat := ⟨_, rfl⟩
    have hSb := jac_mul_bd hev (jac_pow_bd hlb k.toNat)
    rw [← hS] at hR2 hSb
    have HR2 := hid hR2
    have HS := hid hS.symm
    have hi0 : (0 : Int) ≤ (ix : Int) := by omega
    clear hR hR2 hqk hcell hS hl
    go_wp2_with fail
    obtain ⟨kx, hkx⟩ : ∃ y, y = (aft W0 uu).heap.size := ⟨_, rfl⟩
    obtain ⟨W1, hW1⟩ : ∃ X, X = (aft W0 uu).alloc (Obj.cells #[Value.int IntKind.i64 q, Value.int IntKind.i64 k] 56) := ⟨_, rfl⟩
    have d1 : ∀ o, W1.cell? ⟨kx, o, none⟩ = #[Value.int IntKind.i64 q, Value.int IntKind.i64 k][o]? := fun o => by rw [hW1, alloc_cell, if_pos hkx]
    have l1 : kx < W1.heap.size := by rw [hW1]; simp; omega
    have hE1 : Hid (Ext W0.heap.size W0 W1) := hid (by rw [hW1]; exact ((Ext.refl W0).aft _).alloc _)
    rw [← hW1, ← hkx]
    clear hW1 hkx c1 c2
    go_wp2_with fail
    go_loop [6, 31] (fun e j => ∃ (jv : Nat) (ew : Int), e = .int .i64 ew ∧ j = .int .i64 jv ∧ (jv : Int) ≤ k ∧ (-1 ≤ ew ∧ ew ≤ 1) ∧ ew * l ^ (k.toNat - jv) = S) (fun _ j => (k - intOf j).toNat)
    case atStart => exact ⟨0, ev, rfl, rfl, by omega, hev, by rw [Nat.sub_zero]; exact HS.out⟩
    case round =>
      obtain ⟨jv, ew, rfl, rfl, hjv, hew, hst⟩ := hrel
      by_cases hj : (jv : Int) < k
      case neg =>
        have hjd : decide ((jv : Int) < k) = false := by simpa using hj
        have e1 : k.toNat - jv = 0 := by omega
        rw [e1, Int.pow_zero, Int.mul_one] at hst
        subst hst
        clear hj
        go_wp2_with fail
        exact ⟨⟨ix + 1, ew, W1, (aft_of hE1.out.1).symm, by omega, by go_num, rfl, by omega, HR2.out⟩, by simp only [intOf]; omega⟩
      have hjd : decide ((jv : Int) < k) = true := by simpa using hj
      have e1 : k.toNat - jv = (k.toNat - (jv + 1)) + 1 := by omega
      rw [e1, Int.pow_succ, Int.mul_comm (l ^ _) l, ← Int.mul_assoc] at hst
      have hb := jac_mul_bd hew hlb
      have HST := hid hst
      clear hst e1
      go_wp2_with (go_at_call 46; refine pur (HL.out _) ?_)
      go_round
      case rel => exact ⟨jv + 1, ew * l, by go_num, by go_num, by omega, by omega, HST.out⟩
      case measure => simp only [intOf]; omega
end Go.Proofs.Ytdeehgcabnoclaa
