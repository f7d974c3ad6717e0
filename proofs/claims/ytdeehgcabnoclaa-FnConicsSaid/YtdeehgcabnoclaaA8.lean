/- Contracts: p-adic numbers that are valid. -/
import Derived.Test.YtdeehgcabnoclaaA7
namespace Go.Proofs.Ytdeehgcabnoclaa
open Go Go.RowKit


/-- A valid p-adic number. -/
def padicB (p v u n : Int) : Bool := smallP p && inB v (-60) 60 && (if n = 0 then u == 0 else ringB p n && inB u 0 (p ^ n.toNat - 1) && (u % p != 0))

theorem padicB_f1 {p v u n : Int} (h : smallP p = false) : padicB p v u n = false := by simp [padicB, h]
theorem padicB_f2 {p v u n : Int} (h : inB v (-60) 60 = false) : padicB p v u n = false := by simp [padicB, h]

set_option maxHeartbeats 1000000 in
theorem i_IsPadic (p v u n : Int) (w : World) :
    Calls Try.prog 17 #[(.agg #[.int .i64 p, .int .i64 v, .int .i64 u, .int .i64 n])] w fun e w' => e = .returned (.bool (padicB p v u n)) ∧ Below w.heap.size w w' := by
  cases h1 : smallP p
  · rw [padicB_f1 h1]
    go_enter Try.func17, Try.ntmps17
    go_wp2_with (first | (go_at_call 36; refine pur (i_small _ _) ?_) | (go_at_call 49; refine pur (i_isPlace _ _) ?_) | (go_at_call 31; refine via (i_isZero _ _ _ _ _) ?_; intro u1 z1; try simp at z1))
    go_ret
    exact ⟨rfl, (by refine Ext.bel ?_; repeat (with_reducible first | exact Ext.refl _ | apply Ext.alloc | apply Ext.aft | apply Ext.drew | apply Ext.drewN | apply Ext.setCell | exact Nat.le_add_right _ _ | exact Nat.le_refl _ | (simp; done) | omega))⟩
  cases h2 : inB v (-60) 60
  · rw [padicB_f2 h2]
    go_enter Try.func17, Try.ntmps17
    go_wp2_with (first | (go_at_call 36; refine pur (i_small _ _) ?_) | (go_at_call 49; refine pur (i_isPlace _ _) ?_) | (go_at_call 31; refine via (i_isZero _ _ _ _ _) ?_; intro u1 z1; try simp at z1))
    go_ret
    exact ⟨rfl, (by refine Ext.bel ?_; repeat (with_reducible first | exact Ext.refl _ | apply Ext.alloc | apply Ext.aft | apply Ext.drew | apply Ext.drewN | apply Ext.setCell | exact Nat.le_add_right _ _ | exact Nat.le_refl _ | (simp; done) | omega))⟩
  by_cases h3 : n = 0
  · have e : padicB p v u n = (u == 0) := by simp [padicB, h1, h2, h3]
    rw [e]
    clear e
    have h3' : (n == 0) = true := by simpa using h3
    clear h3
    go_enter Try.func17, Try.ntmps17
    go_wp2_with (first | (go_at_call 36; refine pur (i_small _ _) ?_) | (go_at_call 49; refine pur (i_isPlace _ _) ?_) | (go_at_call 31; refine via (i_isZero _ _ _ _ _) ?_; intro u1 z1; try simp at z1))
    go_ret
    exact ⟨rfl, (by refine Ext.bel ?_; repeat (with_reducible first | exact Ext.refl _ | apply Ext.alloc | apply Ext.aft | apply Ext.drew | apply Ext.drewN | apply Ext.setCell | exact Nat.le_add_right _ _ | exact Nat.le_refl _ | (simp; done) | omega))⟩
  · have e : padicB p v u n = (ringB p n && inB u 0 (p ^ n.toNat - 1) && (u % p != 0)) := by simp [padicB, h1, h2, h3]
    rw [e]
    clear e
    have h3' : (n == 0) = false := by simpa using h3
    clear h3
    have hp := smallP_bd h1
    cases h4 : ringB p n
    · go_enter Try.func17, Try.ntmps17
      go_wp2_with (first | (go_at_call 36; refine pur (i_small _ _) ?_) | (go_at_call 49; refine pur (i_isPlace _ _) ?_) | (go_at_call 31; refine via (i_isZero _ _ _ _ _) ?_; intro u1 z1; try simp at z1))
      refine wp_region_calm (by kernel_rfl) (by kernel_rfl) ?_
      repeat (go_big_quiet_step (first | (go_at_call 51; exact calm (i_ring _ _ _ _ _)) | (go_at_call 50; exact calmb (i_IsRing _ _ _) h4)))
      refine wpQuiet_nil ?_; intro uq zq; try simp at zq
      go_wp2
      go_ret
      exact ⟨rfl, (by refine Ext.bel ?_; repeat (with_reducible first | exact Ext.refl _ | apply Ext.alloc | apply Ext.aft | apply Ext.drew | apply Ext.drewN | apply Ext.setCell | exact Nat.le_add_right _ _ | exact Nat.le_refl _ | (simp; done) | omega))⟩
    cases h5 : inB u 0 (p ^ n.toNat - 1)
    · have h4' := hid h4
      have H5 := hid h5
      clear h5
      go_enter Try.func17, Try.ntmps17
      go_wp2_with (first | (go_at_call 36; refine pur (i_small _ _) ?_) | (go_at_call 49; refine pur (i_isPlace _ _) ?_) | (go_at_call 31; refine via (i_isZero _ _ _ _ _) ?_; intro u1 z1; try simp at z1))
      refine wp_region_calm (by kernel_rfl) (by kernel_rfl) ?_
      repeat (go_big_quiet_step (first | (go_at_call 51; exact calm (i_ring _ _ _ _ _)) | (go_at_call 50; exact calmb (i_IsRing _ _ _) h4) | (go_at_call 52; exact calmb (i_has _ _ _ _ h4'.out) H5.out)))
      refine wpQuiet_nil ?_; intro uq zq; try simp at zq
      go_wp2
      go_ret
      exact ⟨rfl, (by refine Ext.bel ?_; repeat (with_reducible first | exact Ext.refl _ | apply Ext.alloc | apply Ext.aft | apply Ext.drew | apply Ext.drewN | apply Ext.setCell | exact Nat.le_add_right _ _ | exact Nat.le_refl _ | (simp; done) | omega))⟩
    · have h4' := hid h4
      have H5 := hid h5
      have hu := (inB_iff.1 h5).1
      clear h5
      go_enter Try.func17, Try.ntmps17
      go_wp2_with (first | (go_at_call 36; refine pur (i_small _ _) ?_) | (go_at_call 49; refine pur (i_isPlace _ _) ?_) | (go_at_call 31; refine via (i_isZero _ _ _ _ _) ?_; intro u1 z1; try simp at z1))
      refine wp_region_calm (by kernel_rfl) (by kernel_rfl) ?_
      repeat (go_big_quiet_step (first | (go_at_call 51; exact calm (i_ring _ _ _ _ _)) | (go_at_call 50; exact calmb (i_IsRing _ _ _) h4) | (go_at_call 52; exact calmb (i_has _ _ _ _ h4'.out) H5.out) | (go_at_call 53; exact calm (i_isUnit _ _ _ _ (by omega) hu))))
      refine wpQuiet_nil ?_; intro uq zq; try simp at zq
      go_wp2
      go_ret
      exact ⟨rfl, (by refine Ext.bel ?_; repeat (with_reducible first | exact Ext.refl _ | apply Ext.alloc | apply Ext.aft | apply Ext.drew | apply Ext.drewN | apply Ext.setCell | exact Nat.le_add_right _ _ | exact Nat.le_refl _ | (simp; done) | omega))⟩
end Go.Proofs.Ytdeehgcabnoclaa
