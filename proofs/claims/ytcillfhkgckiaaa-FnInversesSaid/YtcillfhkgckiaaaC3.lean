/- InverseOf: both texts; the law. -/
import Derived.Test.YtcillfhkgckiaaaC2
import Derived.Test.YtcillfhkgckiaaaC1
namespace Go.Proofs.Ytcillfhkgckiaaa
open Go Go.RowKit

def invF (p n a : Int) : Int × Int := if unitF p n a = 0 then (inv a (p ^ n.toNat), 0) else (0, unitF p n a)

theorem unitF_cases (p n a : Int) : unitF p n a = 1 ∨ unitF p n a = 2 ∨ unitF p n a = 5 ∨ unitF p n a = 0 := by
  unfold unitF; split <;> (try split) <;> (try split) <;> simp
theorem unitF_0 {p n a : Int} (h : unitF p n a = 0) : ringB p n = true ∧ inB a 0 (p ^ n.toNat - 1) = true ∧ a % p ≠ 0 := by
  unfold unitF at h
  split at h
  · split at h
    · split at h
      · omega
      · exact ⟨‹_›, ‹_›, ‹_›⟩
    · omega
  · omega

set_option maxHeartbeats 400000 in
theorem i_InverseOf (p n a : Int) (w : World) :
    Calls Try.prog 21 #[(.agg #[.int .i64 p, .int .i64 n]), .int .i64 a] w fun e w' => e = .returned (.tuple #[.int .i64 (invF p n a).1, .int .i64 (invF p n a).2]) ∧ Below w.heap.size w w' := by
  by_cases h : unitF p n a = 0
  · have e : invF p n a = (inv a (p ^ n.toNat), 0) := by simp [invF, h]
    rw [e]; clear e
    obtain ⟨h1, h2, h3⟩ := unitF_0 h
    have hb := inB_iff.1 h2
    have hr := (ringB_iff.1 h1).2
    have H := hid h1
    have h' : (unitF p n a != 0) = false := by simp [h]
    have hb' : 0 ≤ a ∧ a ≤ 1000000000000 := by omega
    clear h h1 h2 h3 hb hr
    go_enter Try.func21, Try.ntmps21
    go_wp2_with (first | (go_at_call 30; refine via (i_unit _ _ _ _) ?_; intro uu zz; try simp at zz) | (go_at_call 50; refine via (i_inverse _ _ _ _ H.out hb') ?_; intro uu zz; try simp at zz))
    go_ret2
    exact ⟨rfl, (by refine Ext.bel ?_; repeat (with_reducible first | exact Ext.refl _ | apply Ext.alloc | apply Ext.aft | apply Ext.drew | apply Ext.drewN | apply Ext.setCell | exact Nat.le_add_right _ _ | exact Nat.le_refl _ | (simp; done) | omega))⟩
  · have e : invF p n a = (0, unitF p n a) := by simp [invF, h]
    rw [e]; clear e
    have h' : (unitF p n a != 0) = true := by simp [h]
    clear h
    go_enter Try.func21, Try.ntmps21
    go_wp2_with (first | (go_at_call 30; refine via (i_unit _ _ _ _) ?_; intro uu zz; try simp at zz))
    go_ret2
    exact ⟨rfl, (by refine Ext.bel ?_; repeat (with_reducible first | exact Ext.refl _ | apply Ext.alloc | apply Ext.aft | apply Ext.drew | apply Ext.drewN | apply Ext.setCell | exact Nat.le_add_right _ _ | exact Nat.le_refl _ | (simp; done) | omega))⟩

theorem codeF_cases (p n a : Int) : codeF p n a = 1 ∨ codeF p n a = 2 ∨ (codeF p n a = 0 ∧ ringB p n = true ∧ inB a 0 (p ^ n.toNat - 1) = true) := by
  unfold codeF; split
  · split
    · exact .inr (.inr ⟨rfl, ‹_›, ‹_›⟩)
    · simp
  · simp
theorem unitF_code (p n a : Int) : unitF p n a = if codeF p n a = 0 then (if a % p = 0 then 5 else 0) else codeF p n a := by
  unfold unitF codeF; split <;> (try split) <;> simp_all

set_option maxHeartbeats 1000000 in
theorem s_InverseOf (p n a : Int) (w : World) :
    Calls Try.prog 22 #[(.agg #[.int .i64 p, .int .i64 n]), .int .i64 a] w fun e w' => e = .returned (.tuple #[.int .i64 (invF p n a).1, .int .i64 (invF p n a).2]) ∧ Below w.heap.size w w' := by
  rcases codeF_cases p n a with h | h | ⟨h, h1, h2⟩
  · have e : invF p n a = (0, 1) := by simp [invF, unitF_code, h]
    rw [e]; clear e
    go_enter Try.func22, Try.ntmps22
    go_wp2_with fail
    refine via (s_code _ _ _ _) ?_
    rw [h]; clear h; intro uu zz; try simp at zz
    go_wp2
    go_ret2
    exact ⟨rfl, (by refine Ext.bel ?_; repeat (with_reducible first | exact Ext.refl _ | apply Ext.alloc | apply Ext.aft | apply Ext.drew | apply Ext.drewN | apply Ext.setCell | exact Nat.le_add_right _ _ | exact Nat.le_refl _ | (simp; done) | omega))⟩
  · have e : invF p n a = (0, 2) := by simp [invF, unitF_code, h]
    rw [e]; clear e
    go_enter Try.func22, Try.ntmps22
    go_wp2_with fail
    refine via (s_code _ _ _ _) ?_
    rw [h]; clear h; intro uu zz; try simp at zz
    go_wp2
    go_ret2
    exact ⟨rfl, (by refine Ext.bel ?_; repeat (with_reducible first | exact Ext.refl _ | apply Ext.alloc | apply Ext.aft | apply Ext.drew | apply Ext.drewN | apply Ext.setCell | exact Nat.le_add_right _ _ | exact Nat.le_refl _ | (simp; done) | omega))⟩
  have hb := inB_iff.1 h2
  have hr := (ringB_iff.1 h1)
  have hp := smallP_bd hr.1
  have hn := hr.2.1
  have hn2 := hr.2.2.1
  have hm := hr.2.2.2
  have hM := modu_ring h1
  have h6 := pow_pos' (show 1 ≤ p by omega) n.toNat
  have hM1 : 1 ≤ modu p n ∧ modu p n ≤ 1000000000000 := by rw [hM]; omega
  have hb' : 0 ≤ a ∧ a ≤ 1000000000000 := by omega
  have hq := Int.emod_nonneg a (show p ≠ 0 by omega)
  by_cases h3 : a % p = 0
  · have e : invF p n a = (0, 5) := by simp [invF, unitF_code, h, h3]
    rw [e]; clear e
    have h3' : (a % p == 0) = true := by simp [h3]
    clear h1 h2 h3 hM h6 hr hm
    go_enter Try.func22, Try.ntmps22
    go_wp2_with fail
    refine via (s_code _ _ _ _) ?_
    rw [h]; clear h; intro uu zz; try simp at zz
    go_wp2
    go_ret2
    exact ⟨rfl, (by refine Ext.bel ?_; repeat (with_reducible first | exact Ext.refl _ | apply Ext.alloc | apply Ext.aft | apply Ext.drew | apply Ext.drewN | apply Ext.setCell | exact Nat.le_add_right _ _ | exact Nat.le_refl _ | (simp; done) | omega))⟩
  · have e : invF p n a = (inv a (modu p n), 0) := by simp [invF, unitF_code, h, h3, hM]
    rw [e]; clear e
    have h3' : (a % p == 0) = false := by simp [h3]
    clear h1 h2 h3 hM h6 hr hm
    go_enter Try.func22, Try.ntmps22
    go_wp2_with fail
    refine via (s_code _ _ _ _) ?_
    rw [h]; clear h; intro uu zz; try simp at zz
    go_wp2_with (first | (go_at_call 41; refine pur (s_modulus _ _ _ (by omega) (by omega) (by omega)) ?_) | (go_at_call 51; refine pur (s_inverse _ _ _ hb' hM1) ?_))
    go_ret2
    exact ⟨rfl, (by refine Ext.bel ?_; repeat (with_reducible first | exact Ext.refl _ | apply Ext.alloc | apply Ext.aft | apply Ext.drew | apply Ext.drewN | apply Ext.setCell | exact Nat.le_add_right _ _ | exact Nat.le_refl _ | (simp; done) | omega))⟩

set_option maxHeartbeats 400000 in
theorem l_toRing (p n : Int) (w : World) :
    Calls Try.prog 7 #[(.agg #[.int .i64 p, .int .i64 n])] w fun e w' => e = .returned (.agg #[.int .i64 p, .int .i64 n]) ∧ Below w.heap.size w w' := by
  go_enter Try.func7, Try.ntmps7
  go_wp2
  exact bodyPost_ret (v := (.agg #[.int .i64 p, .int .i64 n])) (by first | (simp [results, go_sem]; done) | simp [results, go_sem, ↓IntWalk.iteOmega]) rfl ⟨rfl, (by refine Ext.bel ?_; repeat (with_reducible first | exact Ext.refl _ | apply Ext.alloc | apply Ext.aft | apply Ext.drew | apply Ext.drewN | apply Ext.setCell | exact Nat.le_add_right _ _ | exact Nat.le_refl _ | (simp; done) | omega))⟩

end Go.Proofs.Ytcillfhkgckiaaa
