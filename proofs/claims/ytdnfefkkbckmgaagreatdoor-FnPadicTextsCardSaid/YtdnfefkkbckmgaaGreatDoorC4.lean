/- Contracts: the digit of a place. -/
import Derived.Test.YtdnfefkkbckmgaaGreatDoorA9
namespace Go.Proofs.YtdnfefkkbckmgaaGreatDoor
open Go Go.RowKit

/-- The digit with the number i. -/
def digF (p u : Int) (i : Nat) : Int := u / p ^ i % p
theorem digF_bd {p u : Int} {i : Nat} (hp : 2 ≤ p) : 0 ≤ digF p u i ∧ digF p u i < p := ⟨Int.emod_nonneg _ (by omega), Int.emod_lt_of_pos _ (by omega)⟩

set_option maxHeartbeats 1000000 in
theorem i_digit (p v u n k : Int) (w : World) (hp : 2 ≤ p ∧ p ≤ 97) (hv : -60 ≤ v ∧ v ≤ 60) (hu : 0 ≤ u ∧ u ≤ 4000000000000000000) (hk : v ≤ k ∧ k ≤ 1000) (hb : p ^ (k - v).toNat ≤ 4000000000000000000) :
    Calls Tryz.prog 77 #[(.agg #[.int .i64 p, .int .i64 v, .int .i64 u, .int .i64 n]), .int .i64 k] w fun e w' => e = .returned (.int .i64 (digF p u (k - v).toNat)) ∧ Below w.heap.size w w' := by
  unfold digF
  have h1 := pow_pos' (show 1 ≤ p by omega) (k - v).toNat
  have h2 : 0 ≤ u / p ^ (k - v).toNat ∧ u / p ^ (k - v).toNat ≤ 4000000000000000000 := by
    refine ⟨Int.ediv_nonneg hu.1 (by omega), ?_⟩
    have : u / p ^ (k - v).toNat * 1 ≤ u / p ^ (k - v).toNat * p ^ (k - v).toNat := Int.mul_le_mul_of_nonneg_left h1 (Int.ediv_nonneg hu.1 (by omega))
    have := Int.ediv_mul_le u (show p ^ (k - v).toNat ≠ 0 by omega)
    omega
  have Hb := hid hb
  clear hb
  go_enter Tryz.func77, Tryz.ntmps77
  go_wp2_with fail
  refine wp_region_calm (by kernel_rfl) (by kernel_rfl) ?_
  repeat (go_big_quiet_step (first | (go_at_call 90; exact calmp (i_power _ _ _ (by omega) (by omega) Hb.out))))
  refine wpQuiet_nil ?_; intro uq zq; try simp at zq
  go_wp2
  go_ret
  exact ⟨rfl, (by refine Ext.bel ?_; repeat (with_reducible first | exact Ext.refl _ | apply Ext.alloc | apply Ext.aft | apply Ext.drew | apply Ext.drewN | apply Ext.setCell | exact Nat.le_add_right _ _ | exact Nat.le_refl _ | (simp; done) | omega))⟩

set_option maxHeartbeats 1000000 in
theorem s_digit (p v u n k : Int) (w : World) (hp : 2 ≤ p ∧ p ≤ 97) (hv : -60 ≤ v ∧ v ≤ 60) (hu : 0 ≤ u ∧ u ≤ 4000000000000000000) (hk : v ≤ k ∧ k ≤ 1000) (hb : p ^ (k - v).toNat ≤ 1000000000) :
    Calls Tryz.prog 65 #[(.agg #[.int .i64 p, .int .i64 v, .int .i64 u, .int .i64 n]), .int .i64 k] w fun e w' => e = .returned (.int .i64 (digF p u (k - v).toNat)) ∧ Below w.heap.size w w' := by
  unfold digF
  have h1 := pow_pos' (show 1 ≤ p by omega) (k - v).toNat
  have h2 : 0 ≤ u / p ^ (k - v).toNat ∧ u / p ^ (k - v).toNat ≤ 4000000000000000000 := by
    refine ⟨Int.ediv_nonneg hu.1 (by omega), ?_⟩
    have : u / p ^ (k - v).toNat * 1 ≤ u / p ^ (k - v).toNat * p ^ (k - v).toNat := Int.mul_le_mul_of_nonneg_left h1 (Int.ediv_nonneg hu.1 (by omega))
    have := Int.ediv_mul_le u (show p ^ (k - v).toNat ≠ 0 by omega)
    omega
  have e : modu p (k - v) = p ^ (k - v).toNat := by unfold modu; rw [if_pos hb]
  rw [← e] at h1 h2 ⊢
  clear hb e
  go_enter Tryz.func65, Tryz.ntmps65
  go_wp2_with fail
  refine wp_region_calm (by kernel_rfl) (by kernel_rfl) ?_
  repeat (go_big_quiet_step (first | (go_at_call 35; exact calmp (s_modulus _ _ _ (by omega) (by omega) (by omega)))))
  refine wpQuiet_nil ?_; intro uq zq; try simp at zq
  go_wp2
  go_ret
  exact ⟨rfl, (by refine Ext.bel ?_; repeat (with_reducible first | exact Ext.refl _ | apply Ext.alloc | apply Ext.aft | apply Ext.drew | apply Ext.drewN | apply Ext.setCell | exact Nat.le_add_right _ _ | exact Nat.le_refl _ | (simp; done) | omega))⟩
end Go.Proofs.YtdnfefkkbckmgaaGreatDoor
