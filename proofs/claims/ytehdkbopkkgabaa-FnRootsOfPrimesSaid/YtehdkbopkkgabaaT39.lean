/- The order of a unit: the statement's text walked. -/
import Derived.Test.YtehdkbopkkgabaaT38
namespace Go.Proofs.Ytehdkbopkkgabaa
open Go Go.RowKit

theorem facS_len : ∀ (f : Nat) (n p : Int), (facS f n p).length ≤ f := by
  intro f
  induction f with
  | zero => intro n p; simp [facS]
  | succ f ih =>
    intro n p
    unfold facS
    split
    · split <;> simp
    · have := ih (n / p ^ vl n p) (p + 1)
      rw [List.length_append]
      split
      · simp; omega
      · simp; omega

set_option maxRecDepth 20000 in
set_option maxHeartbeats 8000000 in
theorem s_order (p n a : Int) (w : World) (h : ringB p n = true) (ha : 0 ≤ a ∧ a ≤ 1000000000) :
    Calls Try.prog 72 #[(.agg #[.int .i64 p, .int .i64 n]), .int .i64 a] w fun x w' => x = .returned (.int .i64 (ordS a (p ^ n.toNat) (facS (3 * (p - 1).toNat + 300) (p - 1) 2 ++ [(p, 0)]) (p ^ n.toNat - p ^ (n.toNat - 1)))) ∧ Below w.heap.size w w' := by
  obtain ⟨i0, hi, hz0, hz1, hz2⟩ := info_parts infoP
  obtain ⟨r1, r2, r3, r4, r5, r6, r7⟩ := ring_facts2 h
  have HM : Hid (∀ W : World, Calls Try.prog 95 #[.int .i64 p, .int .i64 n] W fun e w' => e = .returned (.int .i64 (p ^ n.toNat)) ∧ W = w') := hid fun W => by
    have := s_modulus p n W (by omega) (by omega) (by omega)
    rw [modu_ring h] at this
    exact this
  have HU : Hid (∀ W : World, Calls Try.prog 141 #[(.agg #[.int .i64 p, .int .i64 n])] W fun e w' => e = .returned (.int .i64 (p ^ n.toNat - p ^ (n.toNat - 1))) ∧ Below W.heap.size W w') := hid fun W => s_units p n W h
  have q3 := Int.mul_le_mul_of_nonneg_left (show (2 : Int) ≤ p by omega) (show 0 ≤ p ^ (n.toNat - 1) by omega)
  obtain ⟨u, hu⟩ : ∃ u, u = p ^ n.toNat - p ^ (n.toNat - 1) := ⟨_, rfl⟩
  have hu1 : 1 ≤ u ∧ u ≤ 1000000000 := by omega
  rw [← hu] at HU ⊢
  obtain ⟨M, hM⟩ : ∃ M, M = p ^ n.toNat := ⟨_, rfl⟩
  rw [← hM] at HM r3 r4 ⊢
  have HF : Hid (∀ W : World, Calls Try.prog 133 #[.int .i64 (p - 1)] W fun e w' => ∃ r, e = .returned r ∧ ownP W.heap.size w' r (facS (3 * (p - 1).toNat + 300) (p - 1) 2) ∧ Below W.heap.size W w') := hid fun W => s_factors (p - 1) W (by omega)
  have hmem := facS_mem (3 * (p - 1).toNat + 300) (p - 1) 2 (by omega) (by omega) (by omega) (by omega)
  have hyl := facS_len (3 * (p - 1).toNat + 300) (p - 1) 2
  obtain ⟨ys, hys⟩ : ∃ ys, ys = facS (3 * (p - 1).toNat + 300) (p - 1) 2 := ⟨_, rfl⟩
  rw [← hys] at HF hmem hyl ⊢
  have hyl2 : ys.length ≤ 1000 := by omega
  clear hyl
  have hmem2 : ∀ x ∈ ys ++ [(p, 0)], (2 ≤ x.1 ∧ x.1 ≤ 1000000001) := fun x hx => by
    rcases List.mem_append.1 hx with hx | hx
    · exact hmem x hx
    · simp at hx; subst hx; simp only; omega
  obtain ⟨xs, hxs⟩ : ∃ xs, xs = ys ++ [(p, (0 : Int))] := ⟨_, rfl⟩
  obtain ⟨R, hR⟩ : ∃ R, R = ordS a M xs u := ⟨_, rfl⟩
  rw [← hxs] at hmem2 ⊢
  rw [← hR]
  have HR := hid hR.symm
  have HX := hid hmem2
  have HXS := hid hxs
  clear hu hM hxs hys hR r5 r6 r7 q3 h hmem hmem2
  go_enter Try.func72, Try.ntmps72
  go_wp2_with (go_at_call 95; refine pur (HM.out _) ?_)
  refine via (HU.out _) ?_
  intro v1 y1
  (try simp at y1)
  go_wp2_with fail
  refine viaPw (HF.out _) ?_
  intro v v2 y2 hown
  (try simp at y2)
  obtain ⟨sa0, cap0, hv0, hlen0, _⟩ := hown.rd
  unfold maxLen at hlen0
  have HW := hid (hown.mono (show w.heap.size + 1 ≤ _ by simpa using y1))
  clear hown
  subst hv0
  go_wp2_with (at_builtin; refine wpList_append_own _ rfl _ _ 109 rfl (w.heap.size + 1) 112 i0 (.agg #[.int .i64 0, .int .i64 0]) 2 16 Try.underlying109 hi hz0 hz1 hz2 rfl (by decide) _ _ _ rfl (HW.out.alloc _) ⟨_, 0, none⟩ 1 1 [.int .i64 p, .int .i64 0] rfl rfl ?c1 ?c2 ?c3 ?c4 ?c5 ?_)
  first | (case c1 => exact cell_two_new _ _ _ _) | skip
  case c2 => first | exact ⟨rfl, rfl⟩ | (intro u hu; simp at hu; rcases hu with rfl | rfl <;> rfl)
  case c3 => unfold maxLen; omega
  case c4 => omega
  case c5 => first | omega | (simp; omega)
  intro v' w1 hown' hgrow _
  obtain ⟨u', rfl⟩ := grown_aft (W := w.alloc (Obj.cells #[Value.int IntKind.i64 p, Value.int IntKind.i64 n] 36)) (by repeat (with_reducible first | exact Ext.refl _ | apply Ext.alloc | apply Ext.aft | apply Ext.drew | apply Ext.drewN | apply Ext.setCell | exact Nat.le_add_right _ _ | exact Nat.le_refl _ | (simp; done) | omega)) hgrow (fun k hk => by have := ownP_ge HW.out k hk; simpa using this)
  have HO : Hid (ownP (w.heap.size + 1) (aft (w.alloc (Obj.cells #[Value.int IntKind.i64 p, Value.int IntKind.i64 n] 36)) u') v' xs) := hid (by rw [HXS.out]; exact ownP.snoc (x := (p, (0 : Int))) hown')
  clear hown' hgrow HW
  obtain ⟨sa, cap, rfl, hlen, hcells⟩ := HO.out.rd
  unfold maxLen at hlen
  have hG : Hid (Ext w.heap.size w (aft (w.alloc (Obj.cells #[Value.int IntKind.i64 p, Value.int IntKind.i64 n] 36)) u')) := hid (((Ext.refl w).alloc _).aft _)
  obtain ⟨W0, hW0⟩ : ∃ X, X = aft (w.alloc (Obj.cells #[Value.int IntKind.i64 p, Value.int IntKind.i64 n] 36)) u' := ⟨_, rfl⟩
  rw [← hW0] at hcells hG ⊢
  have HC := hid hcells
  clear hcells hW0 HO y1 y2
  go_wp2_with fail
  go_loop [6, 8] (fun e i => ∃ (ix : Nat) (ev : Int), ix ≤ xs.length ∧ i = .int .i64 ix ∧ e = .int .i64 ev ∧ (1 ≤ ev ∧ ev ≤ 1000000000) ∧ ordS a M (xs.drop ix) ev = R) (fun _ i => xs.length - (intOf i).toNat)
  case atStart => exact ⟨0, u, by omega, rfl, rfl, by omega, by rw [List.drop_zero]; exact HR.out⟩
  case round =>
    obtain ⟨ix, ev, hix, rfl, rfl, hev, hR⟩ := hrel
    by_cases hlt : ix < xs.length
    case neg =>
      have e1 : ix = xs.length := by omega
      rw [e1, List.drop_length] at hR
      have hd : decide ((ix : Int) < (xs.length : Int)) = false := by simp; omega
      have HR2 := hid hR
      clear hR hlt
      go_wp2_with fail
      go_ret
      exact ⟨by rw [← HR2.out]; rfl, Ext.bel hG.out⟩
    have hd : decide ((ix : Int) < (xs.length : Int)) = true := by simp; omega
    obtain ⟨b, hsa, hbl, hcell⟩ := HC.out (by intro e; rw [e] at hlt; simp at hlt)
    subst hsa
    obtain ⟨c1, c2⟩ := hcell ix hlt
    rw [Nat.mul_comm 2 ix] at c1 c2
    rw [List.drop_eq_getElem_cons hlt] at hR
    have hx := HX.out xs[ix] (List.getElem_mem hlt)
    obtain ⟨⟨q, k⟩, hqk⟩ : ∃ z, z = xs[ix] := ⟨_, rfl⟩
    rw [← hqk] at c1 c2 hR hx
    simp only at c1 c2 hx
    obtain ⟨S, hS⟩ : ∃ S, S = stripK a M q (vl ev q) ev := ⟨_, rfl⟩
    have hSb := @strip_bd a M q hx.1 (vl ev q) ev (by omega)
    have hSg := @strip_ge a M q hx.1 (vl ev q) ev hev.1 rfl
    rw [← hS] at hSb hSg
    have HR2 : Hid (ordS a M (xs.drop (ix + 1)) S = R) := hid (by rw [hS]; exact hR)
    have HS := hid hS.symm
    have hi0 : (0 : Int) ≤ (ix : Int) := by omega
    clear hR hqk hcell hS
    go_wp2_with fail
    clear c1 c2
    go_loop [6] (fun e => ∃ (ew : Int), e = .int .i64 ew ∧ (1 ≤ ew ∧ ew ≤ 1000000000) ∧ stripK a M q (vl ew q) ew = S) (fun e => (intOf e).toNat)
    case atStart => exact ⟨ev, rfl, hev, HS.out⟩
    case round =>
      obtain ⟨ew, rfl, hew, hst⟩ := hrel
      have q0 : (q == 0) = false := by rw [beq_eq_false_iff_ne]; omega
      have q1 : q ≠ 0 := by omega
      have ht : ew.tdiv q = ew / q := Int.tdiv_eq_ediv_of_nonneg (by omega)
      have hm : ew.tmod q = ew % q := Int.tmod_eq_emod_of_nonneg (by omega)
      by_cases hz : ew % q = 0
      case neg =>
        have hz' : (ew % q == 0) = false := by simpa using hz
        have e1 : vl ew q = 0 := vl_eq (by omega) (c := ew) (k := 0) (by simp) hz
        rw [e1] at hst
        have hst2 : ew = S := hst
        clear hst hz e1
        subst hst2
        go_wp2_with fail
        exact ⟨⟨ix + 1, ew, by omega, by go_num, rfl, by omega, HR2.out⟩, by simp only [intOf]; omega⟩
      have hz' : (ew % q == 0) = true := by simpa using hz
      obtain ⟨e1, e2⟩ := vl_succ hx.1 hew.1 hz
      rw [e1] at hst
      have hq2 : ew / q ≤ ew := Int.ediv_le_self _ (by omega)
      have hq3 : ew / q < ew := by
        have h1 : ew / q * q = ew := Int.ediv_mul_cancel (Int.dvd_of_emod_eq_zero hz)
        have h2 : ew / q * 2 ≤ ew / q * q := Int.mul_le_mul_of_nonneg_left (by omega) (by omega)
        omega
      have HP : Hid (∀ W : World, Calls Try.prog 134 #[.int .i64 a, .int .i64 (ew / q), .int .i64 M] W fun x w' => x = .returned (.int .i64 (powF a (ew / q) M)) ∧ W = w') := hid fun W => s_pow a (ew / q) M W ha (by omega) ⟨r3, r4⟩
      by_cases hp1 : powF a (ew / q) M = 1
      · have hst2 : stripK a M q (vl (ew / q) q) (ew / q) = S := by
          unfold stripK at hst
          rw [if_pos hp1] at hst
          exact hst
        have HST := hid hst2
        rw [hp1] at HP
        clear hst hst2 hp1 hz e1
        go_wp2_with (go_at_call 134; refine pur (HP.out _) ?_)
        go_round
        case rel => exact ⟨ew / q, rfl, by omega, HST.out⟩
        case measure => simp only [intOf]; omega
      · have hst2 : ew = S := by
          rw [strip_stay hp1] at hst
          exact hst
        have hp2 : (powF a (ew / q) M == 1) = false := by simpa using hp1
        obtain ⟨g, hg⟩ : ∃ g, g = powF a (ew / q) M := ⟨_, rfl⟩
        rw [← hg] at HP hp2
        clear hst hp1 hg hz e1
        subst hst2
        go_wp2_with (go_at_call 134; refine pur (HP.out _) ?_)
        exact ⟨⟨ix + 1, ew, by omega, by go_num, rfl, by omega, HR2.out⟩, by simp only [intOf]; omega⟩
end Go.Proofs.Ytehdkbopkkgabaa
