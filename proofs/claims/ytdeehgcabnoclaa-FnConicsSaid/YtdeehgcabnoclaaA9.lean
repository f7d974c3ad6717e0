/- Contracts: p-adic numbers: valid ones, shifts. -/
import Derived.Test.YtdeehgcabnoclaaA8
namespace Go.Proofs.Ytdeehgcabnoclaa
open Go Go.RowKit


theorem padicB_alt {p v u n : Int} (h1 : smallP p = true) (h2 : inB v (-60) 60 = true) (h3 : ¬ n = 0) :
    padicB p v u n = (ringB p n && inB u 1 (p ^ n.toNat - 1) && (u % p != 0)) := by
  have e : padicB p v u n = (ringB p n && inB u 0 (p ^ n.toNat - 1) && (u % p != 0)) := by simp [padicB, h1, h2, h3]
  rw [e]
  by_cases hu : u = 0
  · subst hu; simp
  · cases h : inB u 1 (p ^ n.toNat - 1)
    · cases h' : inB u 0 (p ^ n.toNat - 1)
      · rfl
      · have := inB_iff.1 h'
        have := inB_t (n := u) (a := 1) (b := p ^ n.toNat - 1) (by omega) (by omega)
        rw [h] at this; cases this
    · have := inB_iff.1 h
      rw [inB_t (n := u) (a := 0) (by omega) (by omega)]

set_option maxHeartbeats 1000000 in
theorem s_IsPadic (p v u n : Int) (w : World) :
    Calls Try.prog 29 #[(.agg #[.int .i64 p, .int .i64 v, .int .i64 u, .int .i64 n])] w fun e w' => e = .returned (.bool (padicB p v u n)) ∧ Below w.heap.size w w' := by
  cases h1 : smallP p
  · rw [padicB_f1 h1]
    go_enter Try.func29, Try.ntmps29
    go_wp2_with (first | (go_at_call 38; refine pur (s_small _ _) ?_) | (go_at_call 26; refine pur (s_in _ _ _ _) ?_))
    go_ret
    exact ⟨rfl, (by refine Ext.bel ?_; repeat (with_reducible first | exact Ext.refl _ | apply Ext.alloc | apply Ext.aft | apply Ext.drew | apply Ext.drewN | apply Ext.setCell | exact Nat.le_add_right _ _ | exact Nat.le_refl _ | (simp; done) | omega))⟩
  cases h2 : inB v (-60) 60
  · rw [padicB_f2 h2]
    go_enter Try.func29, Try.ntmps29
    go_wp2_with (first | (go_at_call 38; refine pur (s_small _ _) ?_) | (go_at_call 26; refine pur (s_in _ _ _ _) ?_))
    go_ret
    exact ⟨rfl, (by refine Ext.bel ?_; repeat (with_reducible first | exact Ext.refl _ | apply Ext.alloc | apply Ext.aft | apply Ext.drew | apply Ext.drewN | apply Ext.setCell | exact Nat.le_add_right _ _ | exact Nat.le_refl _ | (simp; done) | omega))⟩
  by_cases h3 : n = 0
  · have e : padicB p v u n = (u == 0) := by simp [padicB, h1, h2, h3]
    rw [e]
    clear e
    have h3' : (n == 0) = true := by simpa using h3
    clear h3
    go_enter Try.func29, Try.ntmps29
    go_wp2_with (first | (go_at_call 38; refine pur (s_small _ _) ?_) | (go_at_call 26; refine pur (s_in _ _ _ _) ?_))
    go_ret
    exact ⟨rfl, (by refine Ext.bel ?_; repeat (with_reducible first | exact Ext.refl _ | apply Ext.alloc | apply Ext.aft | apply Ext.drew | apply Ext.drewN | apply Ext.setCell | exact Nat.le_add_right _ _ | exact Nat.le_refl _ | (simp; done) | omega))⟩
  · rw [padicB_alt h1 h2 h3]
    have h3' : (n == 0) = false := by simpa using h3
    clear h3
    have hp := smallP_bd h1
    cases h4 : ringB p n
    · go_enter Try.func29, Try.ntmps29
      go_wp2_with (first | (go_at_call 38; refine pur (s_small _ _) ?_) | (go_at_call 26; refine pur (s_in _ _ _ _) ?_))
      refine wp_region_calm (by kernel_rfl) (by kernel_rfl) ?_
      repeat (go_big_quiet_step (first | (go_at_call 61; exact calm (s_ring _ _ _ _ _)) | (go_at_call 60; exact calmb (s_IsRing _ _ _) h4)))
      refine wpQuiet_nil ?_; intro uq zq; try simp at zq
      go_wp2
      go_ret
      exact ⟨rfl, (by refine Ext.bel ?_; repeat (with_reducible first | exact Ext.refl _ | apply Ext.alloc | apply Ext.aft | apply Ext.drew | apply Ext.drewN | apply Ext.setCell | exact Nat.le_add_right _ _ | exact Nat.le_refl _ | (simp; done) | omega))⟩
    have hM := modu_ring h4
    have h5 := ringB_iff.1 h4
    have h6 := pow_pos' (show 1 ≤ p by omega) n.toNat
    rw [← hM]
    have hM1 : 0 ≤ modu p n ∧ modu p n ≤ 1000000000 := by rw [hM]; omega
    have hn := h5.2.1
    have hn2 := h5.2.2.1
    clear hM h5 h6
    have hsub : IntKind.i64.wrap (modu p n - 1) = modu p n - 1 := IntWalk.i64_in _ (by omega)
    cases h7 : inB u 1 (modu p n - 1)
    · go_enter Try.func29, Try.ntmps29
      go_wp2_with (first | (go_at_call 38; refine pur (s_small _ _) ?_) | (go_at_call 26; refine pur (s_in _ _ _ _) ?_))
      refine wp_region_calm (by kernel_rfl) (by kernel_rfl) ?_
      repeat (go_big_quiet_step (first | (go_at_call 61; exact calm (s_ring _ _ _ _ _)) | (go_at_call 60; exact calmb (s_IsRing _ _ _) h4) | (go_at_call 62; exact calmp (s_modulus _ _ _ (by omega) (by omega) (by omega))) | (go_at_call 26; exact calmpb (s_in _ _ _ _) h7)))
      refine wpQuiet_nil ?_; intro uq zq; try simp at zq
      go_wp2
      go_ret
      exact ⟨rfl, (by refine Ext.bel ?_; repeat (with_reducible first | exact Ext.refl _ | apply Ext.alloc | apply Ext.aft | apply Ext.drew | apply Ext.drewN | apply Ext.setCell | exact Nat.le_add_right _ _ | exact Nat.le_refl _ | (simp; done) | omega))⟩
    · have hu := (inB_iff.1 h7).1
      have hq : 0 ≤ u % p ∧ u % p < p := ⟨Int.emod_nonneg _ (by omega), Int.emod_lt_of_pos _ (by omega)⟩
      go_enter Try.func29, Try.ntmps29
      go_wp2_with (first | (go_at_call 38; refine pur (s_small _ _) ?_) | (go_at_call 26; refine pur (s_in _ _ _ _) ?_))
      refine wp_region_calm (by kernel_rfl) (by kernel_rfl) ?_
      repeat (go_big_quiet_step (first | (go_at_call 61; exact calm (s_ring _ _ _ _ _)) | (go_at_call 60; exact calmb (s_IsRing _ _ _) h4) | (go_at_call 62; exact calmp (s_modulus _ _ _ (by omega) (by omega) (by omega))) | (go_at_call 26; exact calmpb (s_in _ _ _ _) h7)))
      refine wpQuiet_nil ?_; intro uq zq; try simp at zq
      go_wp2
      go_ret
      exact ⟨rfl, (by refine Ext.bel ?_; repeat (with_reducible first | exact Ext.refl _ | apply Ext.alloc | apply Ext.aft | apply Ext.drew | apply Ext.drewN | apply Ext.setCell | exact Nat.le_add_right _ _ | exact Nat.le_refl _ | (simp; done) | omega))⟩

structure Pd where
  (p v u n : Int)
def Pd.zero : Pd := ⟨0, 0, 0, 0⟩
/-- A number, or ErrLimit. -/
def limF (x : Pd) : Pd × Int := if padicB x.p x.v x.u x.n = true then (x, 0) else (.zero, 3)

set_option maxHeartbeats 400000 in
theorem i_orLimit (p v u n : Int) (w : World) :
    Calls Try.prog 55 #[(.agg #[.int .i64 p, .int .i64 v, .int .i64 u, .int .i64 n])] w fun e w' => e = .returned (.tuple #[.agg #[.int .i64 (limF ⟨p, v, u, n⟩).1.p, .int .i64 (limF ⟨p, v, u, n⟩).1.v, .int .i64 (limF ⟨p, v, u, n⟩).1.u, .int .i64 (limF ⟨p, v, u, n⟩).1.n], .int .i64 (limF ⟨p, v, u, n⟩).2]) ∧ Below w.heap.size w w' := by
  cases h : padicB p v u n
  · have e : limF ⟨p, v, u, n⟩ = (⟨0, 0, 0, 0⟩, 3) := by simp [limF, h, Pd.zero]
    rw [e]
    clear e
    go_enter Try.func55, Try.ntmps55
    go_wp2_with (go_at_call 17; refine via (i_IsPadic _ _ _ _ _) ?_; intro u1 z1; try simp at z1)
    exact bodyPost_ret (v := .tuple #[(.agg #[.int .i64 0, .int .i64 0, .int .i64 0, .int .i64 0]), .int .i64 3]) (by first | (simp [results, go_sem]; done) | simp [results, go_sem, ↓IntWalk.iteOmega]) rfl ⟨rfl, (by refine Ext.bel ?_; repeat (with_reducible first | exact Ext.refl _ | apply Ext.alloc | apply Ext.aft | apply Ext.drew | apply Ext.drewN | apply Ext.setCell | exact Nat.le_add_right _ _ | exact Nat.le_refl _ | (simp; done) | omega))⟩
  · have e : limF ⟨p, v, u, n⟩ = (⟨p, v, u, n⟩, 0) := by simp [limF, h]
    rw [e]
    clear e
    go_enter Try.func55, Try.ntmps55
    go_wp2_with (go_at_call 17; refine via (i_IsPadic _ _ _ _ _) ?_; intro u1 z1; try simp at z1)
    exact bodyPost_ret (v := .tuple #[(.agg #[.int .i64 p, .int .i64 v, .int .i64 u, .int .i64 n]), .int .i64 0]) (by first | (simp [results, go_sem]; done) | simp [results, go_sem, ↓IntWalk.iteOmega]) rfl ⟨rfl, (by refine Ext.bel ?_; repeat (with_reducible first | exact Ext.refl _ | apply Ext.alloc | apply Ext.aft | apply Ext.drew | apply Ext.drewN | apply Ext.setCell | exact Nat.le_add_right _ _ | exact Nat.le_refl _ | (simp; done) | omega))⟩
theorem inB_ff {n a b : Int} (h : inB n a b = false) : n < a ∨ b < n := by
  rcases Int.lt_or_le n a with h1 | h1
  · exact .inl h1
  · rcases Int.lt_or_le b n with h2 | h2
    · exact .inr h2
    · rw [inB_t h1 h2] at h; cases h
theorem padicB_place {p v u n : Int} (h : padicB p v u n = true) : smallP p = true ∧ -60 ≤ v ∧ v ≤ 60 := by
  simp only [padicB, Bool.and_eq_true] at h
  exact ⟨h.1.1, inB_iff.1 h.1.2⟩

theorem padic_facts {p v u n : Int} (h : padicB p v u n = true) : (2 ≤ p ∧ p ≤ 97) ∧ (-60 ≤ v ∧ v ≤ 60) ∧ (0 ≤ u ∧ u ≤ 1000000000) ∧ (0 ≤ n ∧ n ≤ 40) ∧ p ^ n.toNat ≤ 1000000000 := by
  have h0 := padicB_place h
  have hp := smallP_bd h0.1
  by_cases h3 : n = 0
  · subst h3
    have : u = 0 := by simp [padicB] at h; exact h.2
    subst this
    exact ⟨hp, h0.2, by omega, by omega, by simp⟩
  · simp only [padicB, h3, if_false, Bool.and_eq_true] at h
    have hr := ringB_iff.1 h.2.1.1
    have hu := inB_iff.1 h.2.1.2
    exact ⟨hp, h0.2, by omega, by omega, hr.2.2.2⟩

theorem padic_unit {p v u n : Int} (h : padicB p v u n = true) (hn : ¬ n = 0) : ringB p n = true ∧ (0 ≤ u ∧ u ≤ p ^ n.toNat - 1) ∧ ¬ u % p = 0 := by
  simp only [padicB, hn, if_false, Bool.and_eq_true] at h
  exact ⟨h.2.1.1, inB_iff.1 h.2.1.2, by simpa using h.2.2⟩

end Go.Proofs.Ytdeehgcabnoclaa
