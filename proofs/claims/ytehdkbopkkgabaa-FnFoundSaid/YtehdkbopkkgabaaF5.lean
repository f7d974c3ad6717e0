/- The p-adic number of a rational one: the statement's text. -/
import Derived.Test.YtehdkbopkkgabaaF4
namespace Go.Proofs.Ytehdkbopkkgabaa
open Go Go.RowKit

theorem vl_cut {r p c : Int} {k : Nat} (hp : 2 ≤ p) (he : r = c * p ^ k) (hm : ¬ c % p = 0) : vl r p = k ∧ r / p ^ vl r p = c := by
  have h1 := vl_eq hp he hm
  have h2 := pow_pos' (show 1 ≤ p by omega) k
  exact ⟨h1, by rw [h1, he]; exact Int.mul_ediv_cancel _ (by omega)⟩
/-- What a round of dividing needs. -/
theorem cut_step {c p : Int} (hp : 2 ≤ p) (h0 : c ≠ 0) (hm : c % p = 0) (hb : -4000000000000000000 ≤ c ∧ c ≤ 4000000000000000000) :
    c / p * p = c ∧ c.tdiv p = c / p ∧ c / p ≠ 0 ∧ (c / p).natAbs < c.natAbs ∧ (-4000000000000000000 ≤ c.tdiv p ∧ c.tdiv p ≤ 4000000000000000000) := by
  have hd : c / p * p = c := Int.ediv_mul_cancel (Int.dvd_of_emod_eq_zero hm)
  have ht : c.tdiv p = c / p := Int.tdiv_eq_ediv_of_dvd (Int.dvd_of_emod_eq_zero hm)
  have h1 : c / p ≠ 0 := fun h' => h0 (by rw [← hd, h']; simp)
  have h2 : c.natAbs = (c / p).natAbs * p.natAbs := by rw [← Int.natAbs_mul, hd]
  have h3 := Nat.mul_le_mul (Nat.le_refl (c / p).natAbs) (show 2 ≤ p.natAbs by omega)
  exact ⟨hd, ht, h1, by omega, by omega⟩

set_option maxRecDepth 20000 in
set_option maxHeartbeats 8000000 in
theorem s_padicOf (p n nu de : Int) (w : World) (h : ratB nu de = true) (hr : ringB p n = true) (h0 : nu ≠ 0) :
    Calls Try.prog 117 #[(.agg #[.int .i64 nu, .int .i64 de]), (.agg #[.int .i64 p, .int .i64 n])] w fun e w' => e = .returned (.agg #[.int .i64 (pofF p n nu de).p, .int .i64 (pofF p n nu de).v, .int .i64 (pofF p n nu de).u, .int .i64 (pofF p n nu de).n]) ∧ Below w.heap.size w w' := by
  obtain ⟨hnu, hde⟩ := rat_facts h
  have a := ringB_iff.1 hr
  have hp := smallP_bd a.1
  have hn : 1 ≤ n ∧ n ≤ 40 := ⟨a.2.1, a.2.2.1⟩
  have d1 := pow_pos' (show 1 ≤ p by omega) n.toNat
  have d2 := a.2.2.2
  have H0 := hid h0
  have HD : Hid (de ≠ 0) := hid (by omega)
  obtain ⟨m, hm⟩ : ∃ m, m = p ^ n.toNat := ⟨_, rfl⟩
  have HM : Hid (modu p n = m) := hid (by rw [modu_ring hr, hm])
  rw [← hm] at d1 d2
  have hm2 : 1 ≤ m ∧ m ≤ 1000000000 := by omega
  have hm9 : 1 ≤ m ∧ m ≤ 1000000000000 := by omega
  obtain ⟨F, hF⟩ : ∃ F, F = (pofF p n nu de) := ⟨_, rfl⟩
  rw [← hF]
  have HF : Hid (F = ⟨p, vl nu p - vl de p, (nu / p ^ vl nu p) % m * inv ((de / p ^ vl de p) % m) m % m, n⟩) := hid (by rw [hF, hm]; rfl)
  clear a hm hr h0 h hF d1 d2
  go_enter Try.func117, Try.ntmps117
  go_wp2_with fail
  refine wp_region_calm (by kernel_rfl) (by kernel_rfl) ?_
  repeat (go_big_quiet_step (fail))
  refine wpQuiet_nil ?_; intro uq zq; try simp at zq
  go_wp2_with fail
  go_loop [5, 7] (fun s v => ∃ (c : Int) (k : Nat), s = .int .i64 c ∧ v = .int .i64 k ∧ nu = c * p ^ k ∧ k + c.natAbs ≤ nu.natAbs) (fun s _ => (intOf s).natAbs)
  case atStart => exact ⟨nu, 0, rfl, rfl, by simp, by omega⟩
  case round =>
    obtain ⟨c, k, rfl, rfl, he, hk⟩ := hrel
    have h0 : c ≠ 0 := fun h => H0.out (by rw [he, h]; simp)
    have hm1 := @tmod_bd c p (by omega)
    by_cases hm : c % p = 0
    · obtain ⟨s1, s2, s3, s4, s5⟩ := cut_step (p := p) hp.1 h0 hm (by omega)
      have hz : (c.tmod p == 0) = true := by rw [beq_iff_eq, tmod_zero_iff]; exact hm
      have He := hid he
      have Hd := hid s1
      have Ht := hid s2
      clear hm he s1 s2 s3 h0
      go_wp2_with fail
      go_round
      case rel => exact ⟨c / p, k + 1, by rw [Ht.out], by go_num, by rw [He.out, Int.pow_succ, ← Int.mul_assoc, Int.mul_right_comm, Hd.out], by omega⟩
      case measure => simp only [intOf]; rw [Ht.out]; omega
    · have hz : (c.tmod p == 0) = false := by rw [beq_eq_false_iff_ne]; exact fun h => hm (tmod_zero_iff.1 h)
      have HV := hid (vl_cut hp.1 he hm)
      clear he hm h0 hm1
      go_wp2_with fail
      go_loop [6, 7] (fun s v => ∃ (d : Int) (j : Nat), s = .int .i64 d ∧ v = .int .i64 ((k : Int) - j) ∧ de = d * p ^ j ∧ j + d.natAbs ≤ de.natAbs) (fun s _ => (intOf s).natAbs)
      case atStart => exact ⟨de, 0, rfl, by go_num, by simp, by omega⟩
      case round =>
        obtain ⟨d, j, rfl, rfl, he, hj⟩ := hrel
        have h0 : d ≠ 0 := fun h => HD.out (by rw [he, h]; simp)
        have hm1 := @tmod_bd d p (by omega)
        by_cases hm : d % p = 0
        · obtain ⟨s1, s2, s3, s4, s5⟩ := cut_step (p := p) hp.1 h0 hm (by omega)
          have hz2 : (d.tmod p == 0) = true := by rw [beq_iff_eq, tmod_zero_iff]; exact hm
          have He := hid he
          have Hd := hid s1
          have Ht := hid s2
          clear hm he s1 s2 s3 h0
          go_wp2_with fail
          go_round
          case rel => exact ⟨d / p, j + 1, by rw [Ht.out], by go_num, by rw [He.out, Int.pow_succ, ← Int.mul_assoc, Int.mul_right_comm, Hd.out], by omega⟩
          case measure => simp only [intOf]; rw [Ht.out]; omega
        · have hz2 : (d.tmod p == 0) = false := by rw [beq_eq_false_iff_ne]; exact fun h => hm (tmod_zero_iff.1 h)
          have HV2 := hid (vl_cut hp.1 he hm)
          have HF2 : Hid (F = ⟨p, (k : Int) - j, c % m * inv (d % m) m % m, n⟩) := hid (by rw [HF.out, HV.out.1, HV2.out.1, ← HV.out.1, HV.out.2, ← HV2.out.1, HV2.out.2, HV.out.1, HV2.out.1])
          have A1 := Int.emod_nonneg c (show m ≠ 0 by omega)
          have A2 := Int.emod_lt_of_pos c (show 0 < m by omega)
          have B1 := Int.emod_nonneg d (show m ≠ 0 by omega)
          have B2 := Int.emod_lt_of_pos d (show 0 < m by omega)
          have hb9 : 0 ≤ d % m ∧ d % m ≤ 1000000000000 := by omega
          have C1 := inv_bd' (a := d % m) (m := m) (by omega)
          have hmul := mul_fits (a := c % m) (b := inv (d % m) m) (m := m) (by omega) (by omega) C1
          clear he hm h0 hm1
          go_wp2_with (go_at_call 95; refine pur (s_modulus _ _ _ (by omega) (by omega) (by omega)) ?_; rw [HM.out])
          refine wp_region_calm_tail 17 (by kernel_rfl) (by kernel_rfl) ?_
          simp only [List.take_succ_cons, List.take_zero, List.drop_succ_cons, List.drop_zero]
          repeat (go_big_quiet_step (first | (go_at_call 129; exact calmp (s_mod _ _ _ (by omega) (by omega))) | (go_at_call 158; exact calmp (s_inverse _ _ _ hb9 hm9))))
          refine wpQuiet_nil ?_; intro uq zq; try simp at zq
          go_wp2_with fail
          exact bodyPost_ret (v := .agg #[.int .i64 p, .int .i64 ((k : Int) - j), .int .i64 (c % m * inv (d % m) m % m), .int .i64 n]) (by first | (simp [results, go_sem]; done) | simp [results, go_sem, ↓IntWalk.iteOmega]) rfl ⟨by rw [HF2.out], (by refine Ext.bel ?_; repeat (with_reducible first | exact Ext.refl _ | apply Ext.alloc | apply Ext.aft | apply Ext.drew | apply Ext.drewN | apply Ext.setCell | exact Nat.le_add_right _ _ | exact Nat.le_refl _ | (simp; done) | omega))⟩
end Go.Proofs.Ytehdkbopkkgabaa
