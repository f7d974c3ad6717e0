/- DoAgree: both texts, the law. -/
import Derived.Test.YtdcfcmbieloicaaF5
import Derived.Test.YtdcfcmbieloicaaB6
import Derived.Test.YtdcfcmbieloicaaD6
namespace Go.Proofs.Ytdcfcmbieloicaa
open Go Go.RowKit

theorem eq_padic (a b c d a' b' c' d' : Int) (w : World) : (binOp .eql 24 (.agg #[.int .i64 a, .int .i64 b, .int .i64 c, .int .i64 d]) (.agg #[.int .i64 a', .int .i64 b', .int .i64 c', .int .i64 d'])).run Try.prog w = .ok (.bool (a == a' && b == b' && c == c' && d == d')) w := by
  have u3 := Try.underlying2
  have hS : Try.prog.underlying 24 = some (.struct (Try.prog.fieldsOf 24)) := by kernel_rfl
  have hp : Try.prog.stoodInHeld 24 = false := by kernel_rfl
  rw [run_eql_struct, show (10000 : Nat) = 9999 + 1 from rfl, run_equalIn_agg w 9999 24 _ _ hS hp]
  simp only [Program.fieldsOf, Try.underlying24]
  go_simp
  by_cases h1 : a = a' <;> by_cases h2 : b = b' <;> by_cases h3 : c = c' <;> by_cases h4 : d = d' <;> simp [h1, h2, h3, h4]

/-- Whether a rational number agrees with a p-adic number. -/
def agreeB (nu de p v u n : Int) : Bool :=
  if nu = 0 then n == 0 else if n = 0 then decide (v ≤ (vl nu p : Int) - vl de p) else ((pofF p n nu de).p == p && (pofF p n nu de).v == v && (pofF p n nu de).u == u && (pofF p n nu de).n == n)
def doaF (nu de p v u n : Int) : Bool × Int := if ratB nu de = true ∧ padicB p v u n = true then (agreeB nu de p v u n, 0) else (false, 1)
attribute [go_sem high] eq_padic
theorem guard_padic (op : BinOp) (x y : Operand) (a b : Array Value) (w : World) : (eqGuard op 24 x y (.agg a) (.agg b)).run Try.prog w = .ok () w := run_eqGuard_agg w op 24 x y a b (by kernel_rfl)
attribute [go_sem high] guard_padic

/-- What both texts lean on, behind their tests. -/
theorem agree_facts {nu de p v u n : Int} (h1 : ratB nu de = true) (h2 : padicB p v u n = true) : (-1000000000000 ≤ nu ∧ nu ≤ 1000000000000) ∧ (1 ≤ de ∧ de ≤ 1000000000000) ∧ (2 ≤ p ∧ p ≤ 97) ∧ (-60 ≤ v ∧ v ≤ 60) ∧ (n ≠ 0 → ringB p n = true) := by
  obtain ⟨a, b⟩ := rat_facts h1
  obtain ⟨c, d, _, _, _⟩ := padic_facts h2
  exact ⟨a, b, c, d, fun hn => (padic_unit h2 hn).1⟩

set_option maxRecDepth 20000 in
set_option maxHeartbeats 8000000 in
theorem i_DoAgree (nu de p v u n : Int) (w : World) :
    Calls Try.prog 53 #[(.agg #[.int .i64 nu, .int .i64 de]), (.agg #[.int .i64 p, .int .i64 v, .int .i64 u, .int .i64 n])] w fun e w' => e = .returned (.tuple #[.bool (doaF nu de p v u n).1, .int .i64 (doaF nu de p v u n).2]) ∧ Below w.heap.size w w' := by
  cases h1 : ratB nu de
  · have e : (doaF nu de p v u n) = (false, 1) := by unfold doaF; rw [if_neg (by simp [h1])]
    rw [e]; clear e
    go_enter Try.func53, Try.ntmps53
    go_wp2_with (go_at_call 102; refine via (i_IsRational _ _ _) ?_; intro uu zz; try simp at zz)
    go_ret2
    exact ⟨rfl, (by refine Ext.bel ?_; repeat (with_reducible first | exact Ext.refl _ | apply Ext.alloc | apply Ext.aft | apply Ext.drew | apply Ext.drewN | apply Ext.setCell | exact Nat.le_add_right _ _ | exact Nat.le_refl _ | (simp; done) | omega))⟩
  cases h2 : padicB p v u n
  · have e : (doaF nu de p v u n) = (false, 1) := by unfold doaF; rw [if_neg (by simp [h2])]
    rw [e]; clear e
    go_enter Try.func53, Try.ntmps53
    go_wp2_with (first | (go_at_call 102; refine via (i_IsRational _ _ _) ?_; intro uu zz; try simp at zz) | (go_at_call 57; refine via (i_IsPadic _ _ _ _ _) ?_; intro uu zz; try simp at zz))
    go_ret2
    exact ⟨rfl, (by refine Ext.bel ?_; repeat (with_reducible first | exact Ext.refl _ | apply Ext.alloc | apply Ext.aft | apply Ext.drew | apply Ext.drewN | apply Ext.setCell | exact Nat.le_add_right _ _ | exact Nat.le_refl _ | (simp; done) | omega))⟩
  have e : (doaF nu de p v u n) = (agreeB nu de p v u n, 0) := by unfold doaF; rw [if_pos ⟨h1, h2⟩]
  rw [e]; clear e
  obtain ⟨hnu, hde, hp, hv, hr⟩ := agree_facts h1 h2
  by_cases hn0 : nu = 0
  · have e : agreeB nu de p v u n = (n == 0) := by unfold agreeB; rw [if_pos hn0]
    rw [e]; clear e
    have hz : (nu == 0) = true := by simp [hn0]
    clear hn0 hr
    go_enter Try.func53, Try.ntmps53
    go_wp2_with (first | (go_at_call 102; refine via (i_IsRational _ _ _) ?_; intro uu zz; try simp at zz) | (go_at_call 57; refine via (i_IsPadic _ _ _ _ _) ?_; intro uu zz; try simp at zz) | (go_at_call 69; refine via (i_isZero _ _ _ _ _) ?_; intro uu zz; try simp at zz))
    go_ret2
    exact ⟨rfl, (by refine Ext.bel ?_; repeat (with_reducible first | exact Ext.refl _ | apply Ext.alloc | apply Ext.aft | apply Ext.drew | apply Ext.drewN | apply Ext.setCell | exact Nat.le_add_right _ _ | exact Nat.le_refl _ | (simp; done) | omega))⟩
  have hz : (nu == 0) = false := by simpa using hn0
  have H0 := hid hn0
  have HD : Hid (de ≠ 0) := hid (by omega)
  obtain ⟨_, x2, _, _, _, _⟩ := vl_pow_le hp.1 hn0 hnu
  obtain ⟨_, y2, _, _, _, _⟩ := vl_pow_le (r := de) (B := 1000000000000) hp.1 (by omega) (by omega)
  have hu4 : -4000000000000000000 ≤ nu ∧ nu ≤ 4000000000000000000 := by omega
  have hd4 : -4000000000000000000 ≤ de ∧ de ≤ 4000000000000000000 := by omega
  by_cases hm0 : n = 0
  · have e : agreeB nu de p v u n = decide (v ≤ (vl nu p : Int) - vl de p) := by unfold agreeB; rw [if_neg hn0, if_pos hm0]
    rw [e]; clear e
    have hzn : (n == 0) = true := by simp [hm0]
    clear hn0 hm0 hr
    go_enter Try.func53, Try.ntmps53
    go_wp2_with (first | (go_at_call 102; refine via (i_IsRational _ _ _) ?_; intro uu zz; try simp at zz) | (go_at_call 57; refine via (i_IsPadic _ _ _ _ _) ?_; intro uu zz; try simp at zz) | (go_at_call 69; refine via (i_isZero _ _ _ _ _) ?_; intro uu zz; try simp at zz))
    refine wp_region_calm (by kernel_rfl) (by kernel_rfl) ?_
    repeat (go_big_quiet_step (first | (go_at_call 103; exact calmp (i_val _ _ _ (by omega) (by omega) (by first | exact H0.out | exact HD.out) (by first | exact hu4 | exact hd4)))))
    refine wpQuiet_nil ?_; intro uq zq; try simp at zq
    go_wp2_with fail
    go_ret2
    exact ⟨by first | rfl | simp, (by refine Ext.bel ?_; repeat (with_reducible first | exact Ext.refl _ | apply Ext.alloc | apply Ext.aft | apply Ext.drew | apply Ext.drewN | apply Ext.setCell | exact Nat.le_add_right _ _ | exact Nat.le_refl _ | (simp; done) | omega))⟩
  · have e : agreeB nu de p v u n = ((pofF p n nu de).p == p && (pofF p n nu de).v == v && (pofF p n nu de).u == u && (pofF p n nu de).n == n) := by unfold agreeB; rw [if_neg hn0, if_neg hm0]
    rw [e]; clear e
    have hzn : (n == 0) = false := by simpa using hm0
    have HR := hid (hr hm0)
    have HQ := hid h1
    clear hn0 hm0 hr
    go_enter Try.func53, Try.ntmps53
    go_wp2_with (first | (go_at_call 102; refine via (i_IsRational _ _ _) ?_; intro uu zz; try simp at zz) | (go_at_call 57; refine via (i_IsPadic _ _ _ _ _) ?_; intro uu zz; try simp at zz) | (go_at_call 69; refine via (i_isZero _ _ _ _ _) ?_; intro uu zz; try simp at zz))
    refine wp_region_calm (by kernel_rfl) (by kernel_rfl) ?_
    repeat (go_big_quiet_step (first | (go_at_call 71; exact calm (i_ring _ _ _ _ _)) | (go_at_call 104; exact calm (i_padicOf _ _ _ _ _ HQ.out HR.out H0.out))))
    refine wpQuiet_nil ?_; intro uq zq; try simp at zq
    go_wp2_with fail
    go_ret2
    exact ⟨rfl, (by refine Ext.bel ?_; repeat (with_reducible first | exact Ext.refl _ | apply Ext.alloc | apply Ext.aft | apply Ext.drew | apply Ext.drewN | apply Ext.setCell | exact Nat.le_add_right _ _ | exact Nat.le_refl _ | (simp; done) | omega))⟩

set_option maxRecDepth 20000 in
set_option maxHeartbeats 8000000 in
theorem s_Agree (nu de p v u n : Int) (w : World) (h1 : ratB nu de = true) (h2 : padicB p v u n = true) :
    Calls Try.prog 101 #[(.agg #[.int .i64 nu, .int .i64 de]), (.agg #[.int .i64 p, .int .i64 v, .int .i64 u, .int .i64 n])] w fun e w' => e = .returned (.bool (agreeB nu de p v u n)) ∧ Below w.heap.size w w' := by
  obtain ⟨hnu, hde, hp, hv, hr⟩ := agree_facts h1 h2
  by_cases hn0 : nu = 0
  · have e : agreeB nu de p v u n = (n == 0) := by unfold agreeB; rw [if_pos hn0]
    rw [e]; clear e
    have hz : (nu == 0) = true := by simp [hn0]
    clear hn0 hr
    go_enter Try.func101, Try.ntmps101
    go_wp2_with fail
    go_ret
    exact ⟨rfl, (by refine Ext.bel ?_; repeat (with_reducible first | exact Ext.refl _ | apply Ext.alloc | apply Ext.aft | apply Ext.drew | apply Ext.drewN | apply Ext.setCell | exact Nat.le_add_right _ _ | exact Nat.le_refl _ | (simp; done) | omega))⟩
  have hz : (nu == 0) = false := by simpa using hn0
  have H0 := hid hn0
  have HD : Hid (de ≠ 0) := hid (by omega)
  obtain ⟨_, x2, _, _, _, _⟩ := vl_pow_le hp.1 hn0 hnu
  obtain ⟨_, y2, _, _, _, _⟩ := vl_pow_le (r := de) (B := 1000000000000) hp.1 (by omega) (by omega)
  have hu4 : -4000000000000000000 ≤ nu ∧ nu ≤ 4000000000000000000 := by omega
  have hd4 : -4000000000000000000 ≤ de ∧ de ≤ 4000000000000000000 := by omega
  by_cases hm0 : n = 0
  · have e : agreeB nu de p v u n = decide (v ≤ (vl nu p : Int) - vl de p) := by unfold agreeB; rw [if_neg hn0, if_pos hm0]
    rw [e]; clear e
    have hzn : (n == 0) = true := by simp [hm0]
    clear hn0 hm0 hr
    go_enter Try.func101, Try.ntmps101
    go_wp2_with fail
    refine wp_region_calm (by kernel_rfl) (by kernel_rfl) ?_
    repeat (go_big_quiet_step (first | (go_at_call 126; exact calmp (s_val _ _ _ (by omega) (by omega) (by first | exact H0.out | exact HD.out) (by first | exact hu4 | exact hd4)))))
    refine wpQuiet_nil ?_; intro uq zq; try simp at zq
    go_wp2_with fail
    go_ret
    exact ⟨by first | rfl | simp, (by refine Ext.bel ?_; repeat (with_reducible first | exact Ext.refl _ | apply Ext.alloc | apply Ext.aft | apply Ext.drew | apply Ext.drewN | apply Ext.setCell | exact Nat.le_add_right _ _ | exact Nat.le_refl _ | (simp; done) | omega))⟩
  · have e : agreeB nu de p v u n = ((pofF p n nu de).p == p && (pofF p n nu de).v == v && (pofF p n nu de).u == u && (pofF p n nu de).n == n) := by unfold agreeB; rw [if_neg hn0, if_neg hm0]
    rw [e]; clear e
    have hzn : (n == 0) = false := by simpa using hm0
    have HR := hid (hr hm0)
    have HQ := hid h1
    clear hn0 hm0 hr
    go_enter Try.func101, Try.ntmps101
    go_wp2_with fail
    refine wp_region_calm (by kernel_rfl) (by kernel_rfl) ?_
    repeat (go_big_quiet_step (first | (go_at_call 106; exact calm (s_ring _ _ _ _ _)) | (go_at_call 132; exact calm (s_padicOf _ _ _ _ _ HQ.out HR.out H0.out))))
    refine wpQuiet_nil ?_; intro uq zq; try simp at zq
    go_wp2_with fail
    go_ret
    exact ⟨rfl, (by refine Ext.bel ?_; repeat (with_reducible first | exact Ext.refl _ | apply Ext.alloc | apply Ext.aft | apply Ext.drew | apply Ext.drewN | apply Ext.setCell | exact Nat.le_add_right _ _ | exact Nat.le_refl _ | (simp; done) | omega))⟩

set_option maxHeartbeats 4000000 in
theorem s_DoAgree (nu de p v u n : Int) (w : World) :
    Calls Try.prog 51 #[(.agg #[.int .i64 nu, .int .i64 de]), (.agg #[.int .i64 p, .int .i64 v, .int .i64 u, .int .i64 n])] w fun e w' => e = .returned (.tuple #[.bool (doaF nu de p v u n).1, .int .i64 (doaF nu de p v u n).2]) ∧ Below w.heap.size w w' := by
  cases h1 : ratB nu de
  · have e : (doaF nu de p v u n) = (false, 1) := by unfold doaF; rw [if_neg (by simp [h1])]
    rw [e]; clear e
    go_enter Try.func51, Try.ntmps51
    go_wp2_with (go_at_call 100; refine via (s_IsRational _ _ _) ?_; intro uu zz; try simp at zz)
    go_ret2
    exact ⟨rfl, (by refine Ext.bel ?_; repeat (with_reducible first | exact Ext.refl _ | apply Ext.alloc | apply Ext.aft | apply Ext.drew | apply Ext.drewN | apply Ext.setCell | exact Nat.le_add_right _ _ | exact Nat.le_refl _ | (simp; done) | omega))⟩
  cases h2 : padicB p v u n
  · have e : (doaF nu de p v u n) = (false, 1) := by unfold doaF; rw [if_neg (by simp [h2])]
    rw [e]; clear e
    go_enter Try.func51, Try.ntmps51
    go_wp2_with (first | (go_at_call 100; refine via (s_IsRational _ _ _) ?_; intro uu zz; try simp at zz) | (go_at_call 54; refine via (s_IsPadic _ _ _ _ _) ?_; intro uu zz; try simp at zz))
    go_ret2
    exact ⟨rfl, (by refine Ext.bel ?_; repeat (with_reducible first | exact Ext.refl _ | apply Ext.alloc | apply Ext.aft | apply Ext.drew | apply Ext.drewN | apply Ext.setCell | exact Nat.le_add_right _ _ | exact Nat.le_refl _ | (simp; done) | omega))⟩
  have e : (doaF nu de p v u n) = (agreeB nu de p v u n, 0) := by unfold doaF; rw [if_pos ⟨h1, h2⟩]
  rw [e]; clear e
  have Ha := hid h1
  have Hb := hid h2
  go_enter Try.func51, Try.ntmps51
  go_wp2_with (first | (go_at_call 100; refine via (s_IsRational _ _ _) ?_; intro uu zz; try simp at zz) | (go_at_call 54; refine via (s_IsPadic _ _ _ _ _) ?_; intro uu zz; try simp at zz) | (go_at_call 101; refine via (s_Agree _ _ _ _ _ _ _ Ha.out Hb.out) ?_; intro uu zz; try simp at zz))
  go_ret2
  exact ⟨rfl, (by refine Ext.bel ?_; repeat (with_reducible first | exact Ext.refl _ | apply Ext.alloc | apply Ext.aft | apply Ext.drew | apply Ext.drewN | apply Ext.setCell | exact Nat.le_add_right _ _ | exact Nat.le_refl _ | (simp; done) | omega))⟩

set_option maxHeartbeats 400000 in
theorem l_toRational (nu de : Int) (w : World) :
    Calls Try.prog 52 #[(.agg #[.int .i64 nu, .int .i64 de])] w fun e w' => e = .returned (.agg #[.int .i64 nu, .int .i64 de]) ∧ Below w.heap.size w w' := by
  go_enter Try.func52, Try.ntmps52
  go_wp2
  exact bodyPost_ret (v := (.agg #[.int .i64 nu, .int .i64 de])) (by first | (simp [results, go_sem]; done) | simp [results, go_sem, ↓IntWalk.iteOmega]) rfl ⟨rfl, (by refine Ext.bel ?_; repeat (with_reducible first | exact Ext.refl _ | apply Ext.alloc | apply Ext.aft | apply Ext.drew | apply Ext.drewN | apply Ext.setCell | exact Nat.le_add_right _ _ | exact Nat.le_refl _ | (simp; done) | omega))⟩

set_option maxHeartbeats 8000000 in
theorem law_DoAgree (nu de p v u n : Int) (w : World) :
    Calls Try.prog 16 #[(.agg #[.int .i64 nu, .int .i64 de]), (.agg #[.int .i64 p, .int .i64 v, .int .i64 u, .int .i64 n])] w fun e w' => e = .returned (.bool true) ∧ Below w.heap.size w w' := by
  obtain ⟨B, hB⟩ : ∃ B, B = (doaF nu de p v u n).1 := ⟨_, rfl⟩
  obtain ⟨C, hC⟩ : ∃ C, C = (doaF nu de p v u n).2 := ⟨_, rfl⟩
  have HS : Hid (∀ w, Calls Try.prog 51 #[(.agg #[.int .i64 nu, .int .i64 de]), (.agg #[.int .i64 p, .int .i64 v, .int .i64 u, .int .i64 n])] w fun e w' => e = .returned (.tuple #[.bool B, .int .i64 C]) ∧ Below w.heap.size w w') := hid (by rw [hB, hC]; exact fun w => s_DoAgree _ _ _ _ _ _ w)
  have HI : Hid (∀ w, Calls Try.prog 53 #[(.agg #[.int .i64 nu, .int .i64 de]), (.agg #[.int .i64 p, .int .i64 v, .int .i64 u, .int .i64 n])] w fun e w' => e = .returned (.tuple #[.bool B, .int .i64 C]) ∧ Below w.heap.size w w') := hid (by rw [hB, hC]; exact fun w => i_DoAgree _ _ _ _ _ _ w)
  clear hB hC
  go_enter Try.func16, Try.ntmps16
  go_wp2_with fail
  refine wp_region_calm (by kernel_rfl) (by kernel_rfl) ?_
  repeat (go_big_quiet_step (first | (go_at_call 52; exact calm (l_toRational _ _ _)) | (go_at_call 18; exact calm (l_toPadic _ _ _ _ _)) | (go_at_call 51; exact calm (HS.out _))))
  refine wpQuiet_nil ?_; intro uq zq; try simp at zq
  go_wp2_with fail
  refine wp_region_calm (by kernel_rfl) (by kernel_rfl) ?_
  repeat (go_big_quiet_step (first | (go_at_call 52; exact calm (l_toRational _ _ _)) | (go_at_call 18; exact calm (l_toPadic _ _ _ _ _)) | (go_at_call 53; exact calm (HI.out _))))
  refine wpQuiet_nil ?_; intro uq zq; try simp at zq
  cases B
  all_goals
    go_wp2_with fail
    go_ret
    exact ⟨rfl, (by refine Ext.bel ?_; repeat (with_reducible first | exact Ext.refl _ | apply Ext.alloc | apply Ext.aft | apply Ext.drew | apply Ext.drewN | apply Ext.setCell | exact Nat.le_add_right _ _ | exact Nat.le_refl _ | (simp; done) | omega))⟩
end Go.Proofs.Ytdcfcmbieloicaa
