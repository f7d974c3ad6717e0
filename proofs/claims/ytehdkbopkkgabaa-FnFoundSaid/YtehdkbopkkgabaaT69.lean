/- DoAgree: both texts (out of F6, where T56 stands ahead). -/
import Derived.Test.YtehdkbopkkgabaaF5
import Derived.Test.YtehdkbopkkgabaaB6
import Derived.Test.YtehdkbopkkgabaaD6
import Derived.Test.YtehdkbopkkgabaaT56
namespace Go.Proofs.Ytehdkbopkkgabaa
open Go Go.RowKit

/-- Whether a rational number agrees with a p-adic number. -/
def agreeB (nu de p v u n : Int) : Bool :=
  if nu = 0 then n == 0 else if n = 0 then decide (v ≤ (vl nu p : Int) - vl de p) else ((pofF p n nu de).p == p && (pofF p n nu de).v == v && (pofF p n nu de).u == u && (pofF p n nu de).n == n)
def doaF (nu de p v u n : Int) : Bool × Int := if ratB nu de = true ∧ padicB p v u n = true then (agreeB nu de p v u n, 0) else (false, 1)

/-- What both texts lean on, behind their tests. -/
theorem agree_facts {nu de p v u n : Int} (h1 : ratB nu de = true) (h2 : padicB p v u n = true) : (-1000000000000 ≤ nu ∧ nu ≤ 1000000000000) ∧ (1 ≤ de ∧ de ≤ 1000000000000) ∧ (2 ≤ p ∧ p ≤ 97) ∧ (-60 ≤ v ∧ v ≤ 60) ∧ (n ≠ 0 → ringB p n = true) := by
  obtain ⟨a, b⟩ := rat_facts h1
  obtain ⟨c, d, _, _, _⟩ := padic_facts h2
  exact ⟨a, b, c, d, fun hn => (padic_unit h2 hn).1⟩

set_option maxRecDepth 20000 in
set_option maxHeartbeats 8000000 in
theorem i_DoAgree (nu de p v u n : Int) (w : World) :
    Calls Try.prog 48 #[(.agg #[.int .i64 nu, .int .i64 de]), (.agg #[.int .i64 p, .int .i64 v, .int .i64 u, .int .i64 n])] w fun e w' => e = .returned (.tuple #[.bool (doaF nu de p v u n).1, .int .i64 (doaF nu de p v u n).2]) ∧ Below w.heap.size w w' := by
  cases h1 : ratB nu de
  · have e : (doaF nu de p v u n) = (false, 1) := by unfold doaF; rw [if_neg (by simp [h1])]
    rw [e]; clear e
    go_enter Try.func48, Try.ntmps48
    go_wp2_with (go_at_call 39; refine via (i_IsRational _ _ _) ?_; intro uu zz; try simp at zz)
    go_ret2
    exact ⟨rfl, (by refine Ext.bel ?_; repeat (with_reducible first | exact Ext.refl _ | apply Ext.alloc | apply Ext.aft | apply Ext.drew | apply Ext.drewN | apply Ext.setCell | exact Nat.le_add_right _ _ | exact Nat.le_refl _ | (simp; done) | omega))⟩
  cases h2 : padicB p v u n
  · have e : (doaF nu de p v u n) = (false, 1) := by unfold doaF; rw [if_neg (by simp [h2])]
    rw [e]; clear e
    go_enter Try.func48, Try.ntmps48
    go_wp2_with (first | (go_at_call 39; refine via (i_IsRational _ _ _) ?_; intro uu zz; try simp at zz) | (go_at_call 62; refine via (i_IsPadic _ _ _ _ _) ?_; intro uu zz; try simp at zz))
    go_ret2
    exact ⟨rfl, (by refine Ext.bel ?_; repeat (with_reducible first | exact Ext.refl _ | apply Ext.alloc | apply Ext.aft | apply Ext.drew | apply Ext.drewN | apply Ext.setCell | exact Nat.le_add_right _ _ | exact Nat.le_refl _ | (simp; done) | omega))⟩
  have e : (doaF nu de p v u n) = (agreeB nu de p v u n, 0) := by unfold doaF; rw [if_pos ⟨h1, h2⟩]
  rw [e]; clear e
  obtain ⟨hnu, hde, hp, hv, hr⟩ := agree_facts h1 h2
  by_cases hn0 : nu = 0
  · have e : agreeB nu de p v u n = (n == 0) := by unfold agreeB; rw [if_pos hn0]
    rw [e]; clear e
    have hz : (nu == 0) = true := by simp [hn0]
    clear hn0 hr
    go_enter Try.func48, Try.ntmps48
    go_wp2_with (first | (go_at_call 39; refine via (i_IsRational _ _ _) ?_; intro uu zz; try simp at zz) | (go_at_call 62; refine via (i_IsPadic _ _ _ _ _) ?_; intro uu zz; try simp at zz) | (go_at_call 108; refine via (i_isZero _ _ _ _ _) ?_; intro uu zz; try simp at zz))
    go_ret2
    exact ⟨rfl, (by refine Ext.bel ?_; repeat (with_reducible first | exact Ext.refl _ | apply Ext.alloc | apply Ext.aft | apply Ext.drew | apply Ext.drewN | apply Ext.setCell | exact Nat.le_add_right _ _ | exact Nat.le_refl _ | (simp; done) | omega))⟩
  have hz : (nu == 0) = false := by simpa using hn0
  have H0 := hid hn0
  have HD : Hid (de ≠ 0) := hid (by omega)
  obtain ⟨_, x2, _, _, _, _⟩ := vl_pow_le hp.1 hn0 hnu
  obtain ⟨_, y2, _, _, _, _⟩ := vl_pow_le (r := de) (B := 1000000000000) hp.1 (by omega) (by omega)
  have hu4 : -4000000000000000000 ≤ nu ∧ nu ≤ 4000000000000000000 := by omega
  have hd4 : -4000000000000000000 ≤ de ∧ de ≤ 4000000000000000000 := by omega
  by_cases hm0 : n = 0
  · have e : agreeB nu de p v u n = decide (v ≤ (vl nu p : Int) - vl de p) := by unfold agreeB; rw [if_neg hn0, if_pos hm0]
    rw [e]; clear e
    have hzn : (n == 0) = true := by simp [hm0]
    clear hn0 hm0 hr
    go_enter Try.func48, Try.ntmps48
    go_wp2_with (first | (go_at_call 39; refine via (i_IsRational _ _ _) ?_; intro uu zz; try simp at zz) | (go_at_call 62; refine via (i_IsPadic _ _ _ _ _) ?_; intro uu zz; try simp at zz) | (go_at_call 108; refine via (i_isZero _ _ _ _ _) ?_; intro uu zz; try simp at zz))
    refine wp_region_calm (by kernel_rfl) (by kernel_rfl) ?_
    repeat (go_big_quiet_step (first | (go_at_call 118; exact calmp (i_val _ _ _ (by omega) (by omega) (by first | exact H0.out | exact HD.out) (by first | exact hu4 | exact hd4)))))
    refine wpQuiet_nil ?_; intro uq zq; try simp at zq
    go_wp2_with fail
    go_ret2
    exact ⟨by first | rfl | simp, (by refine Ext.bel ?_; repeat (with_reducible first | exact Ext.refl _ | apply Ext.alloc | apply Ext.aft | apply Ext.drew | apply Ext.drewN | apply Ext.setCell | exact Nat.le_add_right _ _ | exact Nat.le_refl _ | (simp; done) | omega))⟩
  · have e : agreeB nu de p v u n = ((pofF p n nu de).p == p && (pofF p n nu de).v == v && (pofF p n nu de).u == u && (pofF p n nu de).n == n) := by unfold agreeB; rw [if_neg hn0, if_neg hm0]
    rw [e]; clear e
    have hzn : (n == 0) = false := by simpa using hm0
    have HR := hid (hr hm0)
    have HQ := hid h1
    clear hn0 hm0 hr
    go_enter Try.func48, Try.ntmps48
    go_wp2_with (first | (go_at_call 39; refine via (i_IsRational _ _ _) ?_; intro uu zz; try simp at zz) | (go_at_call 62; refine via (i_IsPadic _ _ _ _ _) ?_; intro uu zz; try simp at zz) | (go_at_call 108; refine via (i_isZero _ _ _ _ _) ?_; intro uu zz; try simp at zz))
    refine wp_region_calm (by kernel_rfl) (by kernel_rfl) ?_
    repeat (go_big_quiet_step (first | (go_at_call 110; exact calm (i_ring _ _ _ _ _)) | (go_at_call 105; exact calm (i_padicOf _ _ _ _ _ HQ.out HR.out H0.out))))
    refine wpQuiet_nil ?_; intro uq zq; try simp at zq
    go_wp2_with fail
    go_ret2
    exact ⟨rfl, (by refine Ext.bel ?_; repeat (with_reducible first | exact Ext.refl _ | apply Ext.alloc | apply Ext.aft | apply Ext.drew | apply Ext.drewN | apply Ext.setCell | exact Nat.le_add_right _ _ | exact Nat.le_refl _ | (simp; done) | omega))⟩

set_option maxRecDepth 20000 in
set_option maxHeartbeats 8000000 in
theorem s_Agree (nu de p v u n : Int) (w : World) (h1 : ratB nu de = true) (h2 : padicB p v u n = true) :
    Calls Try.prog 119 #[(.agg #[.int .i64 nu, .int .i64 de]), (.agg #[.int .i64 p, .int .i64 v, .int .i64 u, .int .i64 n])] w fun e w' => e = .returned (.bool (agreeB nu de p v u n)) ∧ Below w.heap.size w w' := by
  obtain ⟨hnu, hde, hp, hv, hr⟩ := agree_facts h1 h2
  by_cases hn0 : nu = 0
  · have e : agreeB nu de p v u n = (n == 0) := by unfold agreeB; rw [if_pos hn0]
    rw [e]; clear e
    have hz : (nu == 0) = true := by simp [hn0]
    clear hn0 hr
    go_enter Try.func119, Try.ntmps119
    go_wp2_with fail
    go_ret
    exact ⟨rfl, (by refine Ext.bel ?_; repeat (with_reducible first | exact Ext.refl _ | apply Ext.alloc | apply Ext.aft | apply Ext.drew | apply Ext.drewN | apply Ext.setCell | exact Nat.le_add_right _ _ | exact Nat.le_refl _ | (simp; done) | omega))⟩
  have hz : (nu == 0) = false := by simpa using hn0
  have H0 := hid hn0
  have HD : Hid (de ≠ 0) := hid (by omega)
  obtain ⟨_, x2, _, _, _, _⟩ := vl_pow_le hp.1 hn0 hnu
  obtain ⟨_, y2, _, _, _, _⟩ := vl_pow_le (r := de) (B := 1000000000000) hp.1 (by omega) (by omega)
  have hu4 : -4000000000000000000 ≤ nu ∧ nu ≤ 4000000000000000000 := by omega
  have hd4 : -4000000000000000000 ≤ de ∧ de ≤ 4000000000000000000 := by omega
  by_cases hm0 : n = 0
  · have e : agreeB nu de p v u n = decide (v ≤ (vl nu p : Int) - vl de p) := by unfold agreeB; rw [if_neg hn0, if_pos hm0]
    rw [e]; clear e
    have hzn : (n == 0) = true := by simp [hm0]
    clear hn0 hm0 hr
    go_enter Try.func119, Try.ntmps119
    go_wp2_with fail
    refine wp_region_calm (by kernel_rfl) (by kernel_rfl) ?_
    repeat (go_big_quiet_step (first | (go_at_call 150; exact calmp (s_val _ _ _ (by omega) (by omega) (by first | exact H0.out | exact HD.out) (by first | exact hu4 | exact hd4)))))
    refine wpQuiet_nil ?_; intro uq zq; try simp at zq
    go_wp2_with fail
    go_ret
    exact ⟨by first | rfl | simp, (by refine Ext.bel ?_; repeat (with_reducible first | exact Ext.refl _ | apply Ext.alloc | apply Ext.aft | apply Ext.drew | apply Ext.drewN | apply Ext.setCell | exact Nat.le_add_right _ _ | exact Nat.le_refl _ | (simp; done) | omega))⟩
  · have e : agreeB nu de p v u n = ((pofF p n nu de).p == p && (pofF p n nu de).v == v && (pofF p n nu de).u == u && (pofF p n nu de).n == n) := by unfold agreeB; rw [if_neg hn0, if_neg hm0]
    rw [e]; clear e
    have hzn : (n == 0) = false := by simpa using hm0
    have HR := hid (hr hm0)
    have HQ := hid h1
    clear hn0 hm0 hr
    go_enter Try.func119, Try.ntmps119
    go_wp2_with fail
    refine wp_region_calm (by kernel_rfl) (by kernel_rfl) ?_
    repeat (go_big_quiet_step (first | (go_at_call 146; exact calm (s_ring _ _ _ _ _)) | (go_at_call 117; exact calm (s_padicOf _ _ _ _ _ HQ.out HR.out H0.out))))
    refine wpQuiet_nil ?_; intro uq zq; try simp at zq
    go_wp2_with fail
    go_ret
    exact ⟨rfl, (by refine Ext.bel ?_; repeat (with_reducible first | exact Ext.refl _ | apply Ext.alloc | apply Ext.aft | apply Ext.drew | apply Ext.drewN | apply Ext.setCell | exact Nat.le_add_right _ _ | exact Nat.le_refl _ | (simp; done) | omega))⟩

set_option maxHeartbeats 4000000 in
theorem s_DoAgree (nu de p v u n : Int) (w : World) :
    Calls Try.prog 49 #[(.agg #[.int .i64 nu, .int .i64 de]), (.agg #[.int .i64 p, .int .i64 v, .int .i64 u, .int .i64 n])] w fun e w' => e = .returned (.tuple #[.bool (doaF nu de p v u n).1, .int .i64 (doaF nu de p v u n).2]) ∧ Below w.heap.size w w' := by
  cases h1 : ratB nu de
  · have e : (doaF nu de p v u n) = (false, 1) := by unfold doaF; rw [if_neg (by simp [h1])]
    rw [e]; clear e
    go_enter Try.func49, Try.ntmps49
    go_wp2_with (go_at_call 115; refine via (s_IsRational _ _ _) ?_; intro uu zz; try simp at zz)
    go_ret2
    exact ⟨rfl, (by refine Ext.bel ?_; repeat (with_reducible first | exact Ext.refl _ | apply Ext.alloc | apply Ext.aft | apply Ext.drew | apply Ext.drewN | apply Ext.setCell | exact Nat.le_add_right _ _ | exact Nat.le_refl _ | (simp; done) | omega))⟩
  cases h2 : padicB p v u n
  · have e : (doaF nu de p v u n) = (false, 1) := by unfold doaF; rw [if_neg (by simp [h2])]
    rw [e]; clear e
    go_enter Try.func49, Try.ntmps49
    go_wp2_with (first | (go_at_call 115; refine via (s_IsRational _ _ _) ?_; intro uu zz; try simp at zz) | (go_at_call 85; refine via (s_IsPadic _ _ _ _ _) ?_; intro uu zz; try simp at zz))
    go_ret2
    exact ⟨rfl, (by refine Ext.bel ?_; repeat (with_reducible first | exact Ext.refl _ | apply Ext.alloc | apply Ext.aft | apply Ext.drew | apply Ext.drewN | apply Ext.setCell | exact Nat.le_add_right _ _ | exact Nat.le_refl _ | (simp; done) | omega))⟩
  have e : (doaF nu de p v u n) = (agreeB nu de p v u n, 0) := by unfold doaF; rw [if_pos ⟨h1, h2⟩]
  rw [e]; clear e
  have Ha := hid h1
  have Hb := hid h2
  go_enter Try.func49, Try.ntmps49
  go_wp2_with (first | (go_at_call 115; refine via (s_IsRational _ _ _) ?_; intro uu zz; try simp at zz) | (go_at_call 85; refine via (s_IsPadic _ _ _ _ _) ?_; intro uu zz; try simp at zz) | (go_at_call 119; refine via (s_Agree _ _ _ _ _ _ _ Ha.out Hb.out) ?_; intro uu zz; try simp at zz))
  go_ret2
  exact ⟨rfl, (by refine Ext.bel ?_; repeat (with_reducible first | exact Ext.refl _ | apply Ext.alloc | apply Ext.aft | apply Ext.drew | apply Ext.drewN | apply Ext.setCell | exact Nat.le_add_right _ _ | exact Nat.le_refl _ | (simp; done) | omega))⟩

end Go.Proofs.Ytehdkbopkkgabaa
