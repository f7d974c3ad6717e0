/- Units, moduli, inverses: what the law on inverses calls. -/
import Derived.Test.YtcillfhkgckiaaaT44
import Derived.Test.YtcillfhkgckiaaaT30
namespace Go.Proofs.Ytcillfhkgckiaaa
open Go Go.RowKit

def cop (r s : Int) : Prop := ∀ d : Int, d ∣ r → d ∣ s → d ∣ 1
theorem cop.step {r s : Int} (h : cop r s) : cop s (r % s) := fun d h1 h2 => h d (by
  have e := Int.emod_add_mul_ediv r s
  rw [← e]
  exact Int.dvd_add h2 (Int.dvd_mul_of_dvd_left h1)) h1
theorem bx_spec (a M : Int) : ∀ (f : Nat) (r x s u : Int), 0 ≤ r → 0 ≤ s → s.toNat < f → cop r s → M ∣ r - x * a → M ∣ s - u * a → M ∣ 1 - bx f r x s u * a := by
  intro f
  induction f with
  | zero => intro r x s u _ _ h; omega
  | succ f ih =>
    intro r x s u hr hs hf hc h1 h2
    by_cases h0 : s = 0
    · subst h0
      rw [bx_zero]
      have h3 : r ∣ 1 := hc r (Int.dvd_refl r) (Int.dvd_zero r)
      have h4 : r = 1 := by
        have := Int.le_of_dvd (by omega) h3
        rcases (show r = 0 ∨ r = 1 by omega) with h | h
        · subst h; have := Int.zero_dvd.1 h3; omega
        · exact h
      rw [h4] at h1
      exact h1
    · have q1 := Int.emod_nonneg r h0
      have q2 := Int.emod_lt_of_pos r (show 0 < s by omega)
      rw [bx_step _ _ _ _ _ h0]
      refine ih _ _ _ _ hs q1 (by omega) hc.step h2 ?_
      have e : r % s - (x - r / s * u) * a = (r - x * a) - (r / s) * (s - u * a) := by
        have e1 := Int.emod_add_mul_ediv r s
        have e2 : s * (r / s) = (r / s) * s := Int.mul_comm _ _
        rw [Int.sub_mul, Int.mul_sub, Int.mul_assoc (r / s) u a]
        omega
      rw [e]
      exact Int.dvd_sub h1 (Int.dvd_mul_of_dvd_right h2)
theorem inv_spec {a M : Int} (ha : 0 ≤ a) (hM : 0 < M) (hc : cop a M) : a * inv a M % M = 1 % M := by
  have h := bx_spec a M (M.toNat + 1) a 1 M 0 ha (by omega) (by omega) hc (by rw [Int.one_mul, Int.sub_self]; exact Int.dvd_zero _) (by rw [Int.zero_mul, Int.sub_zero]; exact Int.dvd_refl _)
  unfold inv
  rw [Int.mul_emod, Int.emod_emod, ← Int.mul_emod, Int.mul_comm]
  exact (Int.emod_eq_emod_iff_emod_sub_eq_zero.2 (Int.emod_eq_zero_of_dvd h)).symm

def cntF (p n : Int) : Int × Int := if ringB p n = true then (p ^ n.toNat - p ^ (n.toNat - 1), 0) else (0, 1)
set_option maxHeartbeats 1000000 in
theorem i_CountUnits (p n : Int) (w : World) :
    Calls Try.prog 23 #[(.agg #[.int .i64 p, .int .i64 n])] w fun e w' => e = .returned (.tuple #[.int .i64 (cntF p n).1, .int .i64 (cntF p n).2]) ∧ Below w.heap.size w w' := by
  cases h : ringB p n
  · have q : cntF p n = (0, 1) := by simp [cntF, h]
    rw [q]; clear q
    go_enter Try.func23, Try.ntmps23
    go_wp2_with (go_at_call 26; refine via (i_IsRing _ _ _) ?_; intro uu zz; try simp at zz)
    go_ret2
    exact ⟨rfl, (by refine Ext.bel ?_; repeat (with_reducible first | exact Ext.refl _ | apply Ext.alloc | apply Ext.aft | apply Ext.drew | apply Ext.drewN | apply Ext.setCell | exact Nat.le_add_right _ _ | exact Nat.le_refl _ | (simp; done) | omega))⟩
  have q : cntF p n = (p ^ n.toNat - p ^ (n.toNat - 1), 0) := by simp [cntF, h]
  rw [q]; clear q
  have HU : Hid (∀ W : World, Calls Try.prog 52 #[(.agg #[.int .i64 p, .int .i64 n])] W fun e w' => e = .returned (.int .i64 (p ^ n.toNat - p ^ (n.toNat - 1))) ∧ Below W.heap.size W w') := hid fun W => i_units p n W h
  obtain ⟨u, hu⟩ : ∃ u, u = p ^ n.toNat - p ^ (n.toNat - 1) := ⟨_, rfl⟩
  rw [← hu] at HU ⊢
  clear hu
  go_enter Try.func23, Try.ntmps23
  go_wp2_with (first | (go_at_call 26; refine via (i_IsRing _ _ _) ?_; intro uu zz; try simp at zz) | (go_at_call 52; refine via (HU.out _) ?_; intro uu zz; try simp at zz))
  go_ret2
  exact ⟨rfl, (by refine Ext.bel ?_; repeat (with_reducible first | exact Ext.refl _ | apply Ext.alloc | apply Ext.aft | apply Ext.drew | apply Ext.drewN | apply Ext.setCell | exact Nat.le_add_right _ _ | exact Nat.le_refl _ | (simp; done) | omega))⟩
set_option maxHeartbeats 1000000 in
theorem s_CountUnits (p n : Int) (w : World) :
    Calls Try.prog 24 #[(.agg #[.int .i64 p, .int .i64 n])] w fun e w' => e = .returned (.tuple #[.int .i64 (cntF p n).1, .int .i64 (cntF p n).2]) ∧ Below w.heap.size w w' := by
  cases h : ringB p n
  · have q : cntF p n = (0, 1) := by simp [cntF, h]
    rw [q]; clear q
    go_enter Try.func24, Try.ntmps24
    go_wp2_with (go_at_call 27; refine via (s_IsRing _ _ _) ?_; intro uu zz; try simp at zz)
    go_ret2
    exact ⟨rfl, (by refine Ext.bel ?_; repeat (with_reducible first | exact Ext.refl _ | apply Ext.alloc | apply Ext.aft | apply Ext.drew | apply Ext.drewN | apply Ext.setCell | exact Nat.le_add_right _ _ | exact Nat.le_refl _ | (simp; done) | omega))⟩
  have q : cntF p n = (p ^ n.toNat - p ^ (n.toNat - 1), 0) := by simp [cntF, h]
  rw [q]; clear q
  have HU : Hid (∀ W : World, Calls Try.prog 53 #[(.agg #[.int .i64 p, .int .i64 n])] W fun e w' => e = .returned (.int .i64 (p ^ n.toNat - p ^ (n.toNat - 1))) ∧ Below W.heap.size W w') := hid fun W => s_units p n W h
  obtain ⟨u, hu⟩ : ∃ u, u = p ^ n.toNat - p ^ (n.toNat - 1) := ⟨_, rfl⟩
  rw [← hu] at HU ⊢
  clear hu
  go_enter Try.func24, Try.ntmps24
  go_wp2_with (first | (go_at_call 27; refine via (s_IsRing _ _ _) ?_; intro uu zz; try simp at zz) | (go_at_call 53; refine via (HU.out _) ?_; intro uu zz; try simp at zz))
  go_ret2
  exact ⟨rfl, (by refine Ext.bel ?_; repeat (with_reducible first | exact Ext.refl _ | apply Ext.alloc | apply Ext.aft | apply Ext.drew | apply Ext.drewN | apply Ext.setCell | exact Nat.le_add_right _ _ | exact Nat.le_refl _ | (simp; done) | omega))⟩
set_option maxHeartbeats 1000000 in
theorem i_ModulusOf (p n : Int) (w : World) :
    Calls Try.prog 25 #[(.agg #[.int .i64 p, .int .i64 n])] w fun e w' => e = .returned (.tuple #[.int .i64 (mdlF p n).1, .int .i64 (mdlF p n).2]) ∧ Below w.heap.size w w' := by
  cases h : ringB p n
  · have q : mdlF p n = (0, 1) := by simp [mdlF, h]
    rw [q]; clear q
    go_enter Try.func25, Try.ntmps25
    go_wp2_with (go_at_call 26; refine via (i_IsRing _ _ _) ?_; intro uu zz; try simp at zz)
    go_ret2
    exact ⟨rfl, (by refine Ext.bel ?_; repeat (with_reducible first | exact Ext.refl _ | apply Ext.alloc | apply Ext.aft | apply Ext.drew | apply Ext.drewN | apply Ext.setCell | exact Nat.le_add_right _ _ | exact Nat.le_refl _ | (simp; done) | omega))⟩
  have HM : Hid (∀ W : World, Calls Try.prog 38 #[(.agg #[.int .i64 p, .int .i64 n])] W fun e w' => e = .returned (.int .i64 (p ^ n.toNat)) ∧ Below W.heap.size W w') := hid fun W => i_modulus p n W h
  have q : mdlF p n = (p ^ n.toNat, 0) := by simp [mdlF, h]
  rw [q]; clear q
  obtain ⟨M, hM⟩ : ∃ M, M = p ^ n.toNat := ⟨_, rfl⟩
  rw [← hM] at HM ⊢
  clear hM
  go_enter Try.func25, Try.ntmps25
  go_wp2_with (first | (go_at_call 26; refine via (i_IsRing _ _ _) ?_; intro uu zz; try simp at zz) | (go_at_call 38; refine via (HM.out _) ?_; intro uu zz; try simp at zz))
  go_ret2
  exact ⟨rfl, (by refine Ext.bel ?_; repeat (with_reducible first | exact Ext.refl _ | apply Ext.alloc | apply Ext.aft | apply Ext.drew | apply Ext.drewN | apply Ext.setCell | exact Nat.le_add_right _ _ | exact Nat.le_refl _ | (simp; done) | omega))⟩

/-- What the law asks of a unit. -/
theorem inverse_facts {p n a : Int} (h : unitF p n a = 0) : ∃ x o u M, invF p n a = (x, 0) ∧ ordpF p n a = (o, 0) ∧ cntF p n = (u, 0) ∧ mdlF p n = (M, 0) ∧ (2 ≤ M ∧ M ≤ 1000000000) ∧ a * x % M = 1 ∧ (0 ≤ a ∧ a ≤ 1000000000) ∧ (0 ≤ x ∧ x ≤ 1000000000) ∧ (1 ≤ o ∧ o ≤ 1000000000) ∧ (1 ≤ u ∧ u ≤ 1000000000) ∧ u % o = 0 ∧ powpF p n a o = (1, 0) := by
  obtain ⟨h1, h2, h3⟩ := unitF_0 h
  obtain ⟨r1, r2, r3, r4, r5, r6, r7⟩ := ring_facts2 h1
  have hs := (ringB_iff.1 h1).1
  have ha := inB_iff.1 h2
  have q3 := Int.mul_le_mul_of_nonneg_left (show (2 : Int) ≤ p by omega) (show 0 ≤ p ^ (n.toNat - 1) by omega)
  have hu1 : 1 ≤ p ^ n.toNat - p ^ (n.toNat - 1) ∧ p ^ n.toNat - p ^ (n.toNat - 1) ≤ 1000000000 := by omega
  have hc : cop a (p ^ n.toNat) := by
    intro d d1 d2
    have e1 := Int.natAbs_dvd_natAbs.2 d1
    have e2 := Int.natAbs_dvd_natAbs.2 d2
    rw [Int.natAbs_pow] at e2
    have e3 := Nat.dvd_gcd e2 e1
    rw [cop_unit hs h3 n.toNat] at e3
    exact Int.natAbs_dvd_natAbs.1 (show d.natAbs ∣ (1 : Int).natAbs from e3)
  have hinv := inv_spec ha.1 (show 0 < p ^ n.toNat by omega) hc
  rw [show (1 : Int) % p ^ n.toNat = 1 from Int.emod_eq_of_lt (by omega) (by omega)] at hinv
  have i1 : 0 ≤ inv a (p ^ n.toNat) := Int.emod_nonneg _ (by omega)
  have i2 : inv a (p ^ n.toNat) < p ^ n.toNat := Int.emod_lt_of_pos _ (by omega)
  have hm := facS_mem (3 * (p - 1).toNat + 300) (p - 1) 2 (by omega) (by omega) (by omega) (by omega)
  have hm2 : ∀ x ∈ facS (3 * (p - 1).toNat + 300) (p - 1) 2 ++ [(p, 0)], 2 ≤ x.1 := fun x hx => by
    rcases List.mem_append.1 hx with hx | hx
    · exact (hm x hx).1
    · simp at hx; subst hx; simp only; omega
  have hp := @unit_pow p n a h1 h3
  obtain ⟨g1, g2⟩ := @ordS_good a (p ^ n.toNat) _ hm2 _ hu1.1 hp
  have g3 := @ordS_bd a (p ^ n.toNat) _ hm2 _ hu1.1
  refine ⟨inv a (p ^ n.toNat), ordV p n a, p ^ n.toNat - p ^ (n.toNat - 1), p ^ n.toNat, by simp [invF, h], by simp [ordpF, h], by simp [cntF, h1], by simp [mdlF, h1], ⟨r3, r4⟩, hinv, by omega, by omega, ?_, hu1, ?_, ?_⟩
  · unfold ordV; omega
  · exact Int.emod_eq_zero_of_dvd g1
  · unfold powpF
    rw [if_pos h1, if_pos ⟨h2, inB_t (by unfold ordV; omega) (by unfold ordV; omega)⟩]
    unfold ordV
    rw [g2]
end Go.Proofs.Ytcillfhkgckiaaa
