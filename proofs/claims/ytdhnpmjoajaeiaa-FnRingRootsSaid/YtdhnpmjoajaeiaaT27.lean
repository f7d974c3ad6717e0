/- Powers, Teichmueller residues, remainders: both texts. -/
import Derived.Test.YtdhnpmjoajaeiaaT26
import Derived.Test.YtdhnpmjoajaeiaaMA
namespace Go.Proofs.Ytdhnpmjoajaeiaa
open Go Go.RowKit

def powpF (p n a e : Int) : Int × Int := if ringB p n = true then (if inB a 0 (p ^ n.toNat - 1) = true ∧ inB e 0 1000000000000 = true then (powF a e (p ^ n.toNat), 0) else (0, 2)) else (0, 1)
def teipF (p n a : Int) : Int × Int := if ringB p n = true then (if inB a 0 (p ^ n.toNat - 1) = true then (powF a (p ^ (n.toNat - 1)) (p ^ n.toNat), 0) else (0, 2)) else (0, 1)
def redpF (p n x : Int) : Int × Int := if ringB p n = true then (if inB x (-1000000000000) 1000000000000 = true then (x % p ^ n.toNat, 0) else (0, 2)) else (0, 1)
def mdlF (p n : Int) : Int × Int := if ringB p n = true then (p ^ n.toNat, 0) else (0, 1)

theorem ring_facts2 {p n : Int} (h : ringB p n = true) : (2 ≤ p ∧ p ≤ 97) ∧ (1 ≤ n ∧ n ≤ 40) ∧ 2 ≤ p ^ n.toNat ∧ p ^ n.toNat ≤ 1000000000 ∧ p ^ n.toNat = p ^ (n.toNat - 1) * p ∧ 1 ≤ p ^ (n.toNat - 1) ∧ (p ^ n.toNat).tdiv p = p ^ (n.toNat - 1) := by
  obtain ⟨hs, h1, h2, h3⟩ := ringB_iff.1 h
  have hp := smallP_bd hs
  have q1 := pow_pos' (show 1 ≤ p by omega) (n.toNat - 1)
  have q2 : p ^ n.toNat = p ^ (n.toNat - 1) * p := by rw [← Int.pow_succ]; congr 1; omega
  have q3 := Int.mul_le_mul_of_nonneg_left (show (2 : Int) ≤ p by omega) (show 0 ≤ p ^ (n.toNat - 1) by omega)
  refine ⟨hp, ⟨h1, h2⟩, by omega, h3, q2, q1, ?_⟩
  rw [q2]
  exact Int.mul_tdiv_cancel _ (by omega)

set_option maxHeartbeats 1000000 in
theorem s_ModulusOf (p n : Int) (w : World) :
    Calls Try.prog 26 #[(.agg #[.int .i64 p, .int .i64 n])] w fun e w' => e = .returned (.tuple #[.int .i64 (mdlF p n).1, .int .i64 (mdlF p n).2]) ∧ Below w.heap.size w w' := by
  cases h : ringB p n
  · have q : mdlF p n = (0, 1) := by simp [mdlF, h]
    rw [q]; clear q
    go_enter Try.func26, Try.ntmps26
    go_wp2_with (go_at_call 36; refine via (s_IsRing _ _ _) ?_; intro uu zz; try simp at zz)
    go_ret2
    exact ⟨rfl, (by refine Ext.bel ?_; repeat (with_reducible first | exact Ext.refl _ | apply Ext.alloc | apply Ext.aft | apply Ext.drew | apply Ext.drewN | apply Ext.setCell | exact Nat.le_add_right _ _ | exact Nat.le_refl _ | (simp; done) | omega))⟩
  obtain ⟨r1, r2, r3, r4, _, _, _⟩ := ring_facts2 h
  have HM : Hid (∀ W : World, Calls Try.prog 38 #[.int .i64 p, .int .i64 n] W fun e w' => e = .returned (.int .i64 (p ^ n.toNat)) ∧ W = w') := hid fun W => by
    have := s_modulus p n W (by omega) (by omega) (by omega)
    rw [modu_ring h] at this
    exact this
  have q : mdlF p n = (p ^ n.toNat, 0) := by simp [mdlF, h]
  rw [q]; clear q
  obtain ⟨M, hM⟩ : ∃ M, M = p ^ n.toNat := ⟨_, rfl⟩
  rw [← hM] at HM r3 r4 ⊢
  clear hM
  go_enter Try.func26, Try.ntmps26
  go_wp2_with (first | (go_at_call 36; refine via (s_IsRing _ _ _) ?_; intro uu zz; try simp at zz) | (go_at_call 38; refine pur (HM.out _) ?_))
  go_ret2
  exact ⟨rfl, (by refine Ext.bel ?_; repeat (with_reducible first | exact Ext.refl _ | apply Ext.alloc | apply Ext.aft | apply Ext.drew | apply Ext.drewN | apply Ext.setCell | exact Nat.le_add_right _ _ | exact Nat.le_refl _ | (simp; done) | omega))⟩
end Go.Proofs.Ytdhnpmjoajaeiaa
