/- Contracts: Bezout, inverses. -/
import Derived.Test.YtdhnpmjoajaeiaaA9
import Derived.Test.YtdhnpmjoajaeiaaM2
namespace Go.Proofs.Ytdhnpmjoajaeiaa
open Go Go.RowKit

theorem div_mod_sub {r s : Int} : r - r / s * s = r % s := by have := Int.emod_add_mul_ediv r s; rw [Int.mul_comm]; omega

/-- The first error of a ring and a residue that has to be a unit. -/
def unitF (p n a : Int) : Int := if ringB p n = true then (if inB a 0 (p ^ n.toNat - 1) = true then (if a % p = 0 then 5 else 0) else 2) else 1
def codeF (p n a : Int) : Int := if ringB p n = true then (if inB a 0 (p ^ n.toNat - 1) = true then 0 else 2) else 1
set_option maxHeartbeats 400000 in
theorem s_code (p n a : Int) (w : World) :
    Calls Try.prog 27 #[(.agg #[.int .i64 p, .int .i64 n]), .int .i64 a] w fun e w' => e = .returned (.int .i64 (codeF p n a)) ∧ Below w.heap.size w w' := by
  cases h : ringB p n
  · have e : codeF p n a = 1 := by simp [codeF, h]
    rw [e]; clear e
    go_enter Try.func27, Try.ntmps27
    go_wp2_with (go_at_call 36; refine via (s_IsRing _ _ _) ?_; intro uu zz; try simp at zz)
    go_ret
    exact ⟨rfl, (by refine Ext.bel ?_; repeat (with_reducible first | exact Ext.refl _ | apply Ext.alloc | apply Ext.aft | apply Ext.drew | apply Ext.drewN | apply Ext.setCell | exact Nat.le_add_right _ _ | exact Nat.le_refl _ | (simp; done) | omega))⟩
  have hp := smallP_bd (ringB_iff.1 h).1
  have hr := ringB_iff.1 h
  have hn := hr.2.1
  have hn2 := hr.2.2.1
  have hM := modu_ring h
  have h6 := pow_pos' (show 1 ≤ p by omega) n.toNat
  have hM1 : 0 ≤ modu p n ∧ modu p n ≤ 1000000000 := by rw [hM]; omega
  cases h2 : inB a 0 (p ^ n.toNat - 1)
  · have e : codeF p n a = 2 := by simp [codeF, h, h2]
    rw [e]; clear e
    rw [← hM] at h2
    clear hM h6 hr
    go_enter Try.func27, Try.ntmps27
    go_wp2_with (first | (go_at_call 36; refine via (s_IsRing _ _ _) ?_; intro uu zz; try simp at zz) | (go_at_call 38; refine pur (s_modulus _ _ _ (by omega) (by omega) (by omega)) ?_) | (go_at_call 52; refine pur (s_in _ _ _ _) ?_))
    go_ret
    exact ⟨rfl, (by refine Ext.bel ?_; repeat (with_reducible first | exact Ext.refl _ | apply Ext.alloc | apply Ext.aft | apply Ext.drew | apply Ext.drewN | apply Ext.setCell | exact Nat.le_add_right _ _ | exact Nat.le_refl _ | (simp; done) | omega))⟩
  · have e : codeF p n a = 0 := by simp [codeF, h, h2]
    rw [e]; clear e
    rw [← hM] at h2
    clear hM h6 hr
    go_enter Try.func27, Try.ntmps27
    go_wp2_with (first | (go_at_call 36; refine via (s_IsRing _ _ _) ?_; intro uu zz; try simp at zz) | (go_at_call 38; refine pur (s_modulus _ _ _ (by omega) (by omega) (by omega)) ?_) | (go_at_call 52; refine pur (s_in _ _ _ _) ?_))
    go_ret
    exact ⟨rfl, (by refine Ext.bel ?_; repeat (with_reducible first | exact Ext.refl _ | apply Ext.alloc | apply Ext.aft | apply Ext.drew | apply Ext.drewN | apply Ext.setCell | exact Nat.le_add_right _ _ | exact Nat.le_refl _ | (simp; done) | omega))⟩
end Go.Proofs.Ytdhnpmjoajaeiaa
