/- The digit at a place: both texts; ends. -/
import Derived.Test.YtfbpkbnepojlnaaT14
import Derived.Test.YtfbpkbnepojlnaaD8
namespace Go.Proofs.Ytfbpkbnepojlnaa
open Go Go.RowKit

set_option maxHeartbeats 400000 in
theorem i_digit0 (p v u n k : Int) (w : World) (hk : k < v) :
    Calls Try.prog 53 #[(.agg #[.int .i64 p, .int .i64 v, .int .i64 u, .int .i64 n]), .int .i64 k] w fun e w' => e = .returned (.int .i64 0) ∧ Below w.heap.size w w' := by
  go_enter Try.func53, Try.ntmps53
  go_wp2_with fail
  go_ret
  exact ⟨rfl, (by refine Ext.bel ?_; repeat (with_reducible first | exact Ext.refl _ | apply Ext.alloc | apply Ext.aft | apply Ext.drew | apply Ext.drewN | apply Ext.setCell | exact Nat.le_add_right _ _ | exact Nat.le_refl _ | (simp; done) | omega))⟩
set_option maxHeartbeats 400000 in
theorem s_digit0 (p v u n k : Int) (w : World) (hk : k < v) :
    Calls Try.prog 55 #[(.agg #[.int .i64 p, .int .i64 v, .int .i64 u, .int .i64 n]), .int .i64 k] w fun e w' => e = .returned (.int .i64 0) ∧ Below w.heap.size w w' := by
  go_enter Try.func55, Try.ntmps55
  go_wp2_with fail
  go_ret
  exact ⟨rfl, (by refine Ext.bel ?_; repeat (with_reducible first | exact Ext.refl _ | apply Ext.alloc | apply Ext.aft | apply Ext.drew | apply Ext.drewN | apply Ext.setCell | exact Nat.le_add_right _ _ | exact Nat.le_refl _ | (simp; done) | omega))⟩

/-- The digit of a place, or a code. -/
def digaF (p v u n k : Int) : Int × Int := if padicB p v u n = true then (if v + n ≤ k then (0, 4) else (if k < v then 0 else digF p u (k - v).toNat, 0)) else (0, 1)
set_option maxRecDepth 20000 in
set_option maxHeartbeats 2000000 in
theorem i_DigitAt (p v u n k : Int) (w : World) (hk : -1000 ≤ k ∧ k ≤ 1000) :
    Calls Try.prog 11 #[(.agg #[.int .i64 p, .int .i64 v, .int .i64 u, .int .i64 n]), .int .i64 k] w fun e w' => e = .returned (.tuple #[.int .i64 (digaF p v u n k).1, .int .i64 (digaF p v u n k).2]) ∧ Below w.heap.size w w' := by
  cases h : padicB p v u n
  · have e : (digaF p v u n k) = (0, 1) := by simp [digaF, h]
    rw [e]; clear e
    go_enter Try.func11, Try.ntmps11
    go_wp2_with (go_at_call 16; refine via (i_IsPadic _ _ _ _ _) ?_; intro uu zz; try simp at zz)
    go_ret2
    exact ⟨rfl, (by refine Ext.bel ?_; repeat (with_reducible first | exact Ext.refl _ | apply Ext.alloc | apply Ext.aft | apply Ext.drew | apply Ext.drewN | apply Ext.setCell | exact Nat.le_add_right _ _ | exact Nat.le_refl _ | (simp; done) | omega))⟩
  obtain ⟨hp, hv, hu, hn, hb⟩ := padic_facts h
  by_cases he : v + n ≤ k
  · have e : (digaF p v u n k) = (0, 4) := by unfold digaF; rw [if_pos h, if_pos he]
    rw [e]; clear e hb
    go_enter Try.func11, Try.ntmps11
    go_wp2_with (first | (go_at_call 16; refine via (i_IsPadic _ _ _ _ _) ?_; intro uu zz; try simp at zz) | (go_at_call 52; refine via (i_end _ _ _ _ _ (by omega) (by omega)) ?_; intro uu zz; try simp at zz))
    go_ret2
    exact ⟨rfl, (by refine Ext.bel ?_; repeat (with_reducible first | exact Ext.refl _ | apply Ext.alloc | apply Ext.aft | apply Ext.drew | apply Ext.drewN | apply Ext.setCell | exact Nat.le_add_right _ _ | exact Nat.le_refl _ | (simp; done) | omega))⟩
  by_cases hl : k < v
  · have e : (digaF p v u n k) = (0, 0) := by unfold digaF; rw [if_pos h, if_neg he, if_pos hl]
    rw [e]; clear e hb
    go_enter Try.func11, Try.ntmps11
    go_wp2_with (first | (go_at_call 16; refine via (i_IsPadic _ _ _ _ _) ?_; intro uu zz; try simp at zz) | (go_at_call 52; refine via (i_end _ _ _ _ _ (by omega) (by omega)) ?_; intro uu zz; try simp at zz) | (go_at_call 53; refine via (i_digit0 _ _ _ _ _ _ hl) ?_; intro uu zz; try simp at zz))
    go_ret2
    exact ⟨rfl, (by refine Ext.bel ?_; repeat (with_reducible first | exact Ext.refl _ | apply Ext.alloc | apply Ext.aft | apply Ext.drew | apply Ext.drewN | apply Ext.setCell | exact Nat.le_add_right _ _ | exact Nat.le_refl _ | (simp; done) | omega))⟩
  · have e : (digaF p v u n k) = (digF p u (k - v).toNat, 0) := by unfold digaF; rw [if_pos h, if_neg he, if_neg hl]
    rw [e]; clear e
    have hb2 := (pow_le_bd (k := (k - v).toNat) hp.1 (by omega) hb).2
    have HD : Hid (∀ W : World, Calls Try.prog 53 #[(.agg #[.int .i64 p, .int .i64 v, .int .i64 u, .int .i64 n]), .int .i64 k] W fun e w' => e = .returned (.int .i64 (digF p u (k - v).toNat)) ∧ Below W.heap.size W w') := hid fun W => i_digit p v u n k W hp hv (by omega) (by omega) (by omega)
    obtain ⟨d, hd⟩ : ∃ d, d = digF p u (k - v).toNat := ⟨_, rfl⟩
    rw [← hd] at HD ⊢
    clear hd hb hb2
    go_enter Try.func11, Try.ntmps11
    go_wp2_with (first | (go_at_call 16; refine via (i_IsPadic _ _ _ _ _) ?_; intro uu zz; try simp at zz) | (go_at_call 52; refine via (i_end _ _ _ _ _ (by omega) (by omega)) ?_; intro uu zz; try simp at zz) | (go_at_call 53; refine via (HD.out _) ?_; intro uu zz; try simp at zz))
    go_ret2
    exact ⟨rfl, (by refine Ext.bel ?_; repeat (with_reducible first | exact Ext.refl _ | apply Ext.alloc | apply Ext.aft | apply Ext.drew | apply Ext.drewN | apply Ext.setCell | exact Nat.le_add_right _ _ | exact Nat.le_refl _ | (simp; done) | omega))⟩
set_option maxRecDepth 20000 in
set_option maxHeartbeats 2000000 in
theorem s_DigitAt (p v u n k : Int) (w : World) (hk : -1000 ≤ k ∧ k ≤ 1000) :
    Calls Try.prog 12 #[(.agg #[.int .i64 p, .int .i64 v, .int .i64 u, .int .i64 n]), .int .i64 k] w fun e w' => e = .returned (.tuple #[.int .i64 (digaF p v u n k).1, .int .i64 (digaF p v u n k).2]) ∧ Below w.heap.size w w' := by
  cases h : padicB p v u n
  · have e : (digaF p v u n k) = (0, 1) := by simp [digaF, h]
    rw [e]; clear e
    go_enter Try.func12, Try.ntmps12
    go_wp2_with (go_at_call 54; refine via (s_IsPadic _ _ _ _ _) ?_; intro uu zz; try simp at zz)
    go_ret2
    exact ⟨rfl, (by refine Ext.bel ?_; repeat (with_reducible first | exact Ext.refl _ | apply Ext.alloc | apply Ext.aft | apply Ext.drew | apply Ext.drewN | apply Ext.setCell | exact Nat.le_add_right _ _ | exact Nat.le_refl _ | (simp; done) | omega))⟩
  obtain ⟨hp, hv, hu, hn, hb⟩ := padic_facts h
  by_cases he : v + n ≤ k
  · have e : (digaF p v u n k) = (0, 4) := by unfold digaF; rw [if_pos h, if_pos he]
    rw [e]; clear e hb
    go_enter Try.func12, Try.ntmps12
    go_wp2_with (first | (go_at_call 54; refine via (s_IsPadic _ _ _ _ _) ?_; intro uu zz; try simp at zz) | (go_at_call 52; refine via (i_end _ _ _ _ _ (by omega) (by omega)) ?_; intro uu zz; try simp at zz))
    go_ret2
    exact ⟨rfl, (by refine Ext.bel ?_; repeat (with_reducible first | exact Ext.refl _ | apply Ext.alloc | apply Ext.aft | apply Ext.drew | apply Ext.drewN | apply Ext.setCell | exact Nat.le_add_right _ _ | exact Nat.le_refl _ | (simp; done) | omega))⟩
  by_cases hl : k < v
  · have e : (digaF p v u n k) = (0, 0) := by unfold digaF; rw [if_pos h, if_neg he, if_pos hl]
    rw [e]; clear e hb
    go_enter Try.func12, Try.ntmps12
    go_wp2_with (first | (go_at_call 54; refine via (s_IsPadic _ _ _ _ _) ?_; intro uu zz; try simp at zz) | (go_at_call 52; refine via (i_end _ _ _ _ _ (by omega) (by omega)) ?_; intro uu zz; try simp at zz) | (go_at_call 55; refine via (s_digit0 _ _ _ _ _ _ hl) ?_; intro uu zz; try simp at zz))
    go_ret2
    exact ⟨rfl, (by refine Ext.bel ?_; repeat (with_reducible first | exact Ext.refl _ | apply Ext.alloc | apply Ext.aft | apply Ext.drew | apply Ext.drewN | apply Ext.setCell | exact Nat.le_add_right _ _ | exact Nat.le_refl _ | (simp; done) | omega))⟩
  · have e : (digaF p v u n k) = (digF p u (k - v).toNat, 0) := by unfold digaF; rw [if_pos h, if_neg he, if_neg hl]
    rw [e]; clear e
    have hb2 := (pow_le_bd (k := (k - v).toNat) hp.1 (by omega) hb).2
    have HD : Hid (∀ W : World, Calls Try.prog 55 #[(.agg #[.int .i64 p, .int .i64 v, .int .i64 u, .int .i64 n]), .int .i64 k] W fun e w' => e = .returned (.int .i64 (digF p u (k - v).toNat)) ∧ Below W.heap.size W w') := hid fun W => s_digit p v u n k W hp hv (by omega) (by omega) (by omega)
    obtain ⟨d, hd⟩ : ∃ d, d = digF p u (k - v).toNat := ⟨_, rfl⟩
    rw [← hd] at HD ⊢
    clear hd hb hb2
    go_enter Try.func12, Try.ntmps12
    go_wp2_with (first | (go_at_call 54; refine via (s_IsPadic _ _ _ _ _) ?_; intro uu zz; try simp at zz) | (go_at_call 52; refine via (i_end _ _ _ _ _ (by omega) (by omega)) ?_; intro uu zz; try simp at zz) | (go_at_call 55; refine via (HD.out _) ?_; intro uu zz; try simp at zz))
    go_ret2
    exact ⟨rfl, (by refine Ext.bel ?_; repeat (with_reducible first | exact Ext.refl _ | apply Ext.alloc | apply Ext.aft | apply Ext.drew | apply Ext.drewN | apply Ext.setCell | exact Nat.le_add_right _ _ | exact Nat.le_refl _ | (simp; done) | omega))⟩

theorem diga_facts {p v u n k : Int} (h : (digaF p v u n k).2 = 0) : padicB p v u n = true ∧ 0 ≤ (digaF p v u n k).1 ∧ (digaF p v u n k).1 < p := by
  unfold digaF at h ⊢
  cases hb : padicB p v u n
  · rw [hb] at h; simp at h
  · obtain ⟨hp, _⟩ := padic_facts hb
    rw [hb] at h
    simp only [if_true] at h ⊢
    refine ⟨trivial, ?_⟩
    split
    · rename_i h1; rw [if_pos h1] at h; simp at h
    · simp only
      split
      · omega
      · exact digF_bd hp.1
/-- The digit at 0 of the number for an integer. -/
theorem diga_makp {p n k : Int} (h : (makpF p n k).2 = 0) : digaF (makpF p n k).1.p (makpF p n k).1.v (makpF p n k).1.u (makpF p n k).1.n 0 = (n % p, 0) := by
  obtain ⟨h1, h2, h3, hp, hk, _⟩ := makp_facts h
  obtain ⟨c, d1, d2, d3⟩ := vl_spec hp.1 h3
  unfold digaF
  rw [if_pos h1]
  rw [h2]
  simp only
  rw [if_neg (by omega)]
  by_cases hv : vl n p = 0
  · rw [if_neg (by omega)]
    unfold digF
    rw [hv, show ((0 : Int) - ((0 : Nat) : Int)).toNat = 0 by simp, Int.pow_zero, Int.ediv_one, Int.ediv_one, Int.emod_emod_of_dvd _ (show p ∣ p ^ k.toNat from ⟨p ^ (k.toNat - 1), by rw [Int.mul_comm, ← Int.pow_succ]; congr 1; omega⟩)]
  · rw [if_pos (by omega)]
    have : n % p = 0 := by
      rw [d1, show vl n p = (vl n p - 1) + 1 by omega, Int.pow_succ, ← Int.mul_assoc]
      exact Int.mul_emod_left _ _
    rw [this]
end Go.Proofs.Ytfbpkbnepojlnaa
