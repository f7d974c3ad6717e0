/- Rational numbers: tests, p-adic numbers of rational ones: both texts. -/
import Derived.Test.YtehdkbopkkgabaaD5
import Derived.Test.YtehdkbopkkgabaaC2
namespace Go.Proofs.Ytehdkbopkkgabaa
open Go Go.RowKit

/-- A valid rational number. -/
def ratB (nu de : Int) : Bool := inB nu (-1000000000000) 1000000000000 && inB de 1 1000000000000 && ((Int.gcd nu de : Int) == 1)
theorem rat_facts {nu de : Int} (h : ratB nu de = true) : (-1000000000000 ≤ nu ∧ nu ≤ 1000000000000) ∧ (1 ≤ de ∧ de ≤ 1000000000000) := by
  simp only [ratB, Bool.and_eq_true] at h
  exact ⟨inB_iff.1 h.1.1, inB_iff.1 h.1.2⟩

set_option maxHeartbeats 1000000 in
theorem i_IsRational (nu de : Int) (w : World) :
    Calls Try.prog 39 #[(.agg #[.int .i64 nu, .int .i64 de])] w fun e w' => e = .returned (.bool (ratB nu de)) ∧ Below w.heap.size w w' := by
  cases h1 : inB nu (-1000000000000) 1000000000000
  · have e : ratB nu de = false := by simp [ratB, h1]
    rw [e]; clear e
    go_enter Try.func39, Try.ntmps39
    go_wp2_with (first | (go_at_call 76; refine pur (i_isValue _ _) ?_))
    go_ret
    exact ⟨rfl, (by refine Ext.bel ?_; repeat (with_reducible first | exact Ext.refl _ | apply Ext.alloc | apply Ext.aft | apply Ext.drew | apply Ext.drewN | apply Ext.setCell | exact Nat.le_add_right _ _ | exact Nat.le_refl _ | (simp; done) | omega))⟩
  cases h2 : inB de 1 1000000000000
  · have e : ratB nu de = false := by simp [ratB, h2]
    rw [e]; clear e
    go_enter Try.func39, Try.ntmps39
    go_wp2_with (first | (go_at_call 76; refine pur (i_isValue _ _) ?_) | (go_at_call 80; refine pur (i_within _ _ _ _) ?_))
    go_ret
    exact ⟨rfl, (by refine Ext.bel ?_; repeat (with_reducible first | exact Ext.refl _ | apply Ext.alloc | apply Ext.aft | apply Ext.drew | apply Ext.drewN | apply Ext.setCell | exact Nat.le_add_right _ _ | exact Nat.le_refl _ | (simp; done) | omega))⟩
  · have e : ratB nu de = ((Int.gcd nu de : Int) == 1) := by simp [ratB, h1, h2]
    rw [e]; clear e
    have f1 := inB_iff.1 h1
    have f2 := inB_iff.1 h2
    have g1 : -4000000000000000000 ≤ nu ∧ nu ≤ 4000000000000000000 := by omega
    have g2 : -4000000000000000000 ≤ de ∧ de ≤ 4000000000000000000 := by omega
    obtain ⟨G, hG⟩ : ∃ G : Int, G = (Int.gcd nu de : Int) := ⟨_, rfl⟩
    have HG := hid hG.symm
    rw [← hG]
    clear hG f1 f2
    go_enter Try.func39, Try.ntmps39
    go_wp2_with (first | (go_at_call 76; refine pur (i_isValue _ _) ?_) | (go_at_call 80; refine pur (i_within _ _ _ _) ?_) | (go_at_call 104; refine via (i_gcd _ _ _ g1 g2) ?_; rw [HG.out]; intro uu zz; try simp at zz))
    go_ret
    exact ⟨rfl, (by refine Ext.bel ?_; repeat (with_reducible first | exact Ext.refl _ | apply Ext.alloc | apply Ext.aft | apply Ext.drew | apply Ext.drewN | apply Ext.setCell | exact Nat.le_add_right _ _ | exact Nat.le_refl _ | (simp; done) | omega))⟩
set_option maxHeartbeats 1000000 in
theorem s_IsRational (nu de : Int) (w : World) :
    Calls Try.prog 115 #[(.agg #[.int .i64 nu, .int .i64 de])] w fun e w' => e = .returned (.bool (ratB nu de)) ∧ Below w.heap.size w w' := by
  cases h1 : inB nu (-1000000000000) 1000000000000
  · have e : ratB nu de = false := by simp [ratB, h1]
    rw [e]; clear e
    go_enter Try.func115, Try.ntmps115
    go_wp2_with (first | (go_at_call 78; refine pur (s_is _ _) ?_))
    go_ret
    exact ⟨rfl, (by refine Ext.bel ?_; repeat (with_reducible first | exact Ext.refl _ | apply Ext.alloc | apply Ext.aft | apply Ext.drew | apply Ext.drewN | apply Ext.setCell | exact Nat.le_add_right _ _ | exact Nat.le_refl _ | (simp; done) | omega))⟩
  cases h2 : inB de 1 1000000000000
  · have e : ratB nu de = false := by simp [ratB, h2]
    rw [e]; clear e
    go_enter Try.func115, Try.ntmps115
    go_wp2_with (first | (go_at_call 78; refine pur (s_is _ _) ?_) | (go_at_call 94; refine pur (s_in _ _ _ _) ?_))
    go_ret
    exact ⟨rfl, (by refine Ext.bel ?_; repeat (with_reducible first | exact Ext.refl _ | apply Ext.alloc | apply Ext.aft | apply Ext.drew | apply Ext.drewN | apply Ext.setCell | exact Nat.le_add_right _ _ | exact Nat.le_refl _ | (simp; done) | omega))⟩
  · have e : ratB nu de = ((Int.gcd nu de : Int) == 1) := by simp [ratB, h1, h2]
    rw [e]; clear e
    have f1 := inB_iff.1 h1
    have f2 := inB_iff.1 h2
    have g1 : -4000000000000000000 ≤ nu ∧ nu ≤ 4000000000000000000 := by omega
    have g2 : -4000000000000000000 ≤ de ∧ de ≤ 4000000000000000000 := by omega
    obtain ⟨G, hG⟩ : ∃ G : Int, G = (Int.gcd nu de : Int) := ⟨_, rfl⟩
    have HG := hid hG.symm
    rw [← hG]
    clear hG f1 f2
    go_enter Try.func115, Try.ntmps115
    go_wp2_with (first | (go_at_call 78; refine pur (s_is _ _) ?_) | (go_at_call 94; refine pur (s_in _ _ _ _) ?_) | (go_at_call 103; refine via (s_gcd _ _ _ g1 g2) ?_; rw [HG.out]; intro uu zz; try simp at zz))
    go_ret
    exact ⟨rfl, (by refine Ext.bel ?_; repeat (with_reducible first | exact Ext.refl _ | apply Ext.alloc | apply Ext.aft | apply Ext.drew | apply Ext.drewN | apply Ext.setCell | exact Nat.le_add_right _ _ | exact Nat.le_refl _ | (simp; done) | omega))⟩

/-- The p-adic number of a rational number other than 0. -/
def pofF (p n nu de : Int) : Pd := ⟨p, vl nu p - vl de p, (nu / p ^ vl nu p) % p ^ n.toNat * inv ((de / p ^ vl de p) % p ^ n.toNat) (p ^ n.toNat) % p ^ n.toNat, n⟩
theorem inv_bd' {a m : Int} (hm : 1 ≤ m) : 0 ≤ inv a m ∧ inv a m ≤ m - 1 := by
  unfold inv
  exact ⟨Int.emod_nonneg _ (by omega), by have := Int.emod_lt_of_pos (bx (m.toNat + 1) a 1 m 0) (show 0 < m by omega); omega⟩
theorem vl_pow_le {p r B : Int} (hp : 2 ≤ p) (hr : r ≠ 0) (hb : -B ≤ r ∧ r ≤ B) : p ^ vl r p ≤ B ∧ (vl r p : Int) ≤ B ∧ r.tdiv (p ^ vl r p) = r / p ^ vl r p ∧ -B ≤ r / p ^ vl r p ∧ r / p ^ vl r p ≤ B ∧ 1 ≤ p ^ vl r p := by
  obtain ⟨c, h1, h2, h3⟩ := vl_spec hp hr
  have h4 := pow_pos' (show 1 ≤ p by omega) (vl r p)
  have h5 := pow_gt p hp (vl r p)
  have hc : c ≠ 0 := by intro e; rw [e] at h2; simp at h2
  have e1 : r.natAbs = c.natAbs * (p ^ vl r p).natAbs := by rw [← Int.natAbs_mul, ← h1]
  have e2 := Nat.mul_le_mul (show 1 ≤ c.natAbs by omega) (Nat.le_refl (p ^ vl r p).natAbs)
  have e3 := Nat.mul_le_mul (Nat.le_refl c.natAbs) (show 1 ≤ (p ^ vl r p).natAbs by omega)
  have ht : r.tdiv (p ^ vl r p) = r / p ^ vl r p := Int.tdiv_eq_ediv_of_dvd ⟨c, by rw [Int.mul_comm]; exact h1⟩
  exact ⟨by omega, by omega, ht, by omega, by omega, h4⟩
theorem mul_fits {a b m : Int} (hm : m ≤ 1000000000) (ha : 0 ≤ a ∧ a ≤ m - 1) (hb : 0 ≤ b ∧ b ≤ m - 1) : 0 ≤ a * b ∧ a * b ≤ 1000000000000000000 := by
  have h1 := Int.mul_nonneg ha.1 hb.1
  have h2 : a * b ≤ 1000000000 * 1000000000 := Int.mul_le_mul (by omega) (by omega) hb.1 (by omega)
  omega

theorem i_inverseM (p n a m : Int) (w : World) (h : ringB p n = true) (ha : 0 ≤ a ∧ a ≤ 1000000000000) (hm : p ^ n.toNat = m) :
    Calls Try.prog 154 #[(.agg #[.int .i64 p, .int .i64 n]), .int .i64 a] w fun e w' => e = .returned (.int .i64 (inv a m)) ∧ Below w.heap.size w w' := by
  subst hm; exact i_inverse p n a w h ha

set_option maxRecDepth 20000 in
set_option maxHeartbeats 4000000 in
theorem i_padicOf (p n nu de : Int) (w : World) (h : ratB nu de = true) (hr : ringB p n = true) (h0 : nu ≠ 0) :
    Calls Try.prog 105 #[(.agg #[.int .i64 nu, .int .i64 de]), (.agg #[.int .i64 p, .int .i64 n])] w fun e w' => e = .returned (.agg #[.int .i64 (pofF p n nu de).p, .int .i64 (pofF p n nu de).v, .int .i64 (pofF p n nu de).u, .int .i64 (pofF p n nu de).n]) ∧ Below w.heap.size w w' := by
  obtain ⟨hnu, hde⟩ := rat_facts h
  have a := ringB_iff.1 hr
  have hp := smallP_bd a.1
  have hn : 1 ≤ n ∧ n ≤ 40 := ⟨a.2.1, a.2.2.1⟩
  have d1 := pow_pos' (show 1 ≤ p by omega) n.toNat
  have d2 := a.2.2.2
  have HR := hid hr
  have H0 := hid h0
  have HD : Hid (de ≠ 0) := hid (by omega)
  obtain ⟨x1, x2, x3, x4, x5, x6⟩ := vl_pow_le hp.1 h0 hnu
  obtain ⟨y1, y2, y3, y4, y5, y6⟩ := vl_pow_le (r := de) (B := 1000000000000) hp.1 (by omega) (by omega)
  have hu4 : -4000000000000000000 ≤ nu ∧ nu ≤ 4000000000000000000 := by omega
  have hd4 : -4000000000000000000 ≤ de ∧ de ≤ 4000000000000000000 := by omega
  have Hb1 := hid (show p ^ ((vl nu p : Int)).toNat ≤ 4000000000000000000 by rw [Int.toNat_natCast]; omega)
  have Hb2 := hid (show p ^ ((vl de p : Int)).toNat ≤ 4000000000000000000 by rw [Int.toNat_natCast]; omega)
  obtain ⟨m, hm⟩ : ∃ m, m = p ^ n.toNat := ⟨_, rfl⟩
  have HM := hid hm.symm
  unfold pofF
  rw [← x3, ← y3, ← hm]
  rw [← hm] at d1 d2
  rw [← x3] at x4 x5
  rw [← y3] at y4 y5
  have hm2 : 1 ≤ m ∧ m ≤ 1000000000 := by omega
  have A1 := Int.emod_nonneg (nu.tdiv (p ^ vl nu p)) (show m ≠ 0 by omega)
  have A2 := Int.emod_lt_of_pos (nu.tdiv (p ^ vl nu p)) (show 0 < m by omega)
  have B1 := Int.emod_nonneg (de.tdiv (p ^ vl de p)) (show m ≠ 0 by omega)
  have B2 := Int.emod_lt_of_pos (de.tdiv (p ^ vl de p)) (show 0 < m by omega)
  have hb9 : 0 ≤ de.tdiv (p ^ vl de p) % m ∧ de.tdiv (p ^ vl de p) % m ≤ 1000000000000 := by omega
  have C1 := inv_bd' (a := de.tdiv (p ^ vl de p) % m) (m := m) (by omega)
  have hmul := mul_fits (a := nu.tdiv (p ^ vl nu p) % m) (b := inv (de.tdiv (p ^ vl de p) % m) m) (m := m) (by omega) (by omega) C1
  clear a d1 d2 hm hr h0 h x1 x3 y1 y3
  go_enter Try.func105, Try.ntmps105
  go_wp2_with fail
  refine wp_region_calm (by kernel_rfl) (by kernel_rfl) ?_
  repeat (go_big_quiet_step (first | (go_at_call 118; exact calmp (i_val _ _ _ (by omega) (by omega) (by first | exact H0.out | exact HD.out) (by first | exact hu4 | exact hd4)))))
  refine wpQuiet_nil ?_; intro uq zq; try simp at zq
  go_wp2_with (go_at_call 111; refine via (i_modulus _ _ _ HR.out) ?_; rw [HM.out]; intro uu zz; try simp at zz)
  refine wp_region_calm (by kernel_rfl) (by kernel_rfl) ?_
  repeat (go_big_quiet_step (first | (go_at_call 102; exact calmp (i_power _ _ _ (by omega) (by omega) (by first | exact Hb1.out | exact Hb2.out))) | (go_at_call 153; exact calmp (i_mod _ _ _ (by omega) (by omega)))))
  refine wpQuiet_nil ?_; intro uq zq; try simp at zq
  go_wp2_with fail
  refine wp_region_calm_tail 15 (by kernel_rfl) (by kernel_rfl) ?_
  simp only [List.take_succ_cons, List.take_zero, List.drop_succ_cons, List.drop_zero]
  repeat (go_big_quiet_step (first | (go_at_call 154; exact calm (i_inverseM _ _ _ _ _ HR.out hb9 HM.out))))
  refine wpQuiet_nil ?_; intro uq zq; try simp at zq
  go_wp2_with fail
  exact bodyPost_ret (v := .agg #[.int .i64 p, .int .i64 ((vl nu p : Int) - vl de p), .int .i64 (nu.tdiv (p ^ vl nu p) % m * inv (de.tdiv (p ^ vl de p) % m) m % m), .int .i64 n]) (by first | (simp [results, go_sem]; done) | simp [results, go_sem, ↓IntWalk.iteOmega]) rfl ⟨rfl, (by refine Ext.bel ?_; repeat (with_reducible first | exact Ext.refl _ | apply Ext.alloc | apply Ext.aft | apply Ext.drew | apply Ext.drewN | apply Ext.setCell | exact Nat.le_add_right _ _ | exact Nat.le_refl _ | (simp; done) | omega))⟩
end Go.Proofs.Ytehdkbopkkgabaa
