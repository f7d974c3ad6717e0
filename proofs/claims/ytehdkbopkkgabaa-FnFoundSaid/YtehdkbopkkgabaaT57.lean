/- Fractions of p-adic numbers, both texts; the number of a rational number; a draw. -/
import Derived.Test.YtehdkbopkkgabaaT56
import Derived.Test.YtehdkbopkkgabaaF4
import Derived.Test.YtehdkbopkkgabaaE6
namespace Go.Proofs.Ytehdkbopkkgabaa
open Go Go.RowKit

def frF (p v u n : Int) : Int × Int × Int := if padicB p v u n = true then (if v + n < 0 then (0, 0, 4) else if 0 ≤ v then (0, 1, 0) else (u % p ^ (-v).toNat, p ^ (-v).toNat, 0)) else (0, 0, 1)
set_option maxHeartbeats 1000000 in
theorem i_FractionOf (p v u n : Int) (w : World) :
    Calls Try.prog 37 #[(.agg #[.int .i64 p, .int .i64 v, .int .i64 u, .int .i64 n])] w fun e w' => e = .returned (.tuple #[.int .i64 (frF p v u n).1, .int .i64 (frF p v u n).2.1, .int .i64 (frF p v u n).2.2]) ∧ Below w.heap.size w w' := by
  cases h : padicB p v u n
  · have e : (frF p v u n) = (0, 0, 1) := by simp [frF, h]
    rw [e]; clear e
    go_enter Try.func37, Try.ntmps37
    go_wp2_with (go_at_call 62; refine via (i_IsPadic _ _ _ _ _) ?_; intro uu zz; try simp at zz)
    exact bodyPost_ret (v := .tuple #[.int .i64 0, .int .i64 0, .int .i64 1]) (by first | (simp [results, go_sem]; done) | simp [results, go_sem, ↓IntWalk.iteOmega]) rfl ⟨rfl, (by refine Ext.bel ?_; repeat (with_reducible first | exact Ext.refl _ | apply Ext.alloc | apply Ext.aft | apply Ext.drew | apply Ext.drewN | apply Ext.setCell | exact Nat.le_add_right _ _ | exact Nat.le_refl _ | (simp; done) | omega))⟩
  obtain ⟨hp, hv, hu, hn, hb⟩ := padic_facts h
  by_cases he : v + n < 0
  · have e : (frF p v u n) = (0, 0, 4) := by unfold frF; rw [if_pos h, if_pos he]
    rw [e]; clear e hb
    go_enter Try.func37, Try.ntmps37
    go_wp2_with (first | (go_at_call 62; refine via (i_IsPadic _ _ _ _ _) ?_; intro uu zz; try simp at zz) | (go_at_call 99; refine via (i_end _ _ _ _ _ (by omega) (by omega)) ?_; intro uu zz; try simp at zz))
    exact bodyPost_ret (v := .tuple #[.int .i64 0, .int .i64 0, .int .i64 4]) (by first | (simp [results, go_sem]; done) | simp [results, go_sem, ↓IntWalk.iteOmega]) rfl ⟨rfl, (by refine Ext.bel ?_; repeat (with_reducible first | exact Ext.refl _ | apply Ext.alloc | apply Ext.aft | apply Ext.drew | apply Ext.drewN | apply Ext.setCell | exact Nat.le_add_right _ _ | exact Nat.le_refl _ | (simp; done) | omega))⟩
  by_cases h0 : 0 ≤ v
  · have e : (frF p v u n) = (0, 1, 0) := by unfold frF; rw [if_pos h, if_neg he, if_pos h0]
    rw [e]; clear e hb
    go_enter Try.func37, Try.ntmps37
    go_wp2_with (first | (go_at_call 62; refine via (i_IsPadic _ _ _ _ _) ?_; intro uu zz; try simp at zz) | (go_at_call 99; refine via (i_end _ _ _ _ _ (by omega) (by omega)) ?_; intro uu zz; try simp at zz))
    exact bodyPost_ret (v := .tuple #[.int .i64 0, .int .i64 1, .int .i64 0]) (by first | (simp [results, go_sem]; done) | simp [results, go_sem, ↓IntWalk.iteOmega]) rfl ⟨rfl, (by refine Ext.bel ?_; repeat (with_reducible first | exact Ext.refl _ | apply Ext.alloc | apply Ext.aft | apply Ext.drew | apply Ext.drewN | apply Ext.setCell | exact Nat.le_add_right _ _ | exact Nat.le_refl _ | (simp; done) | omega))⟩
  have hb1 := pow_mono (show 1 ≤ p by omega) (show (-v).toNat ≤ n.toNat by omega)
  have hb3 := pow_pos' (show 1 ≤ p by omega) (-v).toNat
  obtain ⟨P, hP⟩ : ∃ P, P = p ^ (-v).toNat := ⟨_, rfl⟩
  have e : (frF p v u n) = (u % P, P, 0) := by unfold frF; rw [if_pos h, if_neg he, if_neg h0, ← hP]
  rw [e]; clear e
  have hbp : p ^ (-v).toNat ≤ 4000000000000000000 := by omega
  rw [← hP] at hb1 hb3
  have hPb : 1 ≤ P ∧ P ≤ 1000000000 := by omega
  have hP0 : (P == 0) = false := by rw [beq_eq_false_iff_ne]; omega
  have hPw : Hid (∀ W : World, Calls Try.prog 102 #[.int .i64 p, .int .i64 (-v)] W fun e w' => e = .returned (.int .i64 P) ∧ W = w') := hid fun W => by rw [hP]; exact i_power p (-v) W (by omega) (by omega) hbp
  clear hb hb1 hb3 hP hbp
  go_enter Try.func37, Try.ntmps37
  go_wp2_with (first | (go_at_call 62; refine via (i_IsPadic _ _ _ _ _) ?_; intro uu zz; try simp at zz) | (go_at_call 99; refine via (i_end _ _ _ _ _ (by omega) (by omega)) ?_; intro uu zz; try simp at zz) | (go_at_call 102; refine pur (hPw.out _) ?_))
  exact bodyPost_ret (v := .tuple #[.int .i64 (u % P), .int .i64 P, .int .i64 0]) (by first | (simp [results, go_sem]; done) | simp [results, go_sem, ↓IntWalk.iteOmega]) rfl ⟨rfl, (by refine Ext.bel ?_; repeat (with_reducible first | exact Ext.refl _ | apply Ext.alloc | apply Ext.aft | apply Ext.drew | apply Ext.drewN | apply Ext.setCell | exact Nat.le_add_right _ _ | exact Nat.le_refl _ | (simp; done) | omega))⟩

theorem prime_divs : ∀ p : Fin 98, primeB (p.val : Int) = true → ∀ d : Fin 98, p.val % d.val = 0 → d.val = 1 ∨ d.val = p.val := by decide +kernel
theorem gcd_pow {p u : Int} (hs : smallP p = true) (hu : ¬ u % p = 0) (n : Nat) : Int.gcd u (p ^ n) = 1 := by
  have hp := smallP_bd hs
  have hprime := smallP_prime hs
  have hc : Nat.Coprime u.natAbs p.natAbs := by
    have h1 : Nat.gcd u.natAbs p.natAbs ∣ p.natAbs := Nat.gcd_dvd_right _ _
    have h2 : Nat.gcd u.natAbs p.natAbs ≤ p.natAbs := Nat.le_of_dvd (by omega) h1
    have h3 := prime_divs ⟨p.natAbs, by omega⟩ (by simp only; rw [show ((p.natAbs : Nat) : Int) = p by omega]; exact hprime) ⟨Nat.gcd u.natAbs p.natAbs, by omega⟩ (Nat.mod_eq_zero_of_dvd h1)
    rcases h3 with h3 | h3
    · exact h3
    · exfalso
      simp only at h3
      have h4 : p.natAbs ∣ u.natAbs := by
        have := Nat.gcd_dvd_left u.natAbs p.natAbs
        rw [h3] at this
        exact this
      exact hu (Int.emod_eq_zero_of_dvd (Int.natAbs_dvd_natAbs.1 h4))
  unfold Int.gcd
  rw [Int.natAbs_pow]
  exact Nat.Coprime.pow_right n hc
theorem mod_unit {p u : Int} (hu : ¬ u % p = 0) {k : Nat} (hk : 1 ≤ k) : ¬ (u % p ^ k) % p = 0 := by
  have hd : p ∣ p ^ k := ⟨p ^ (k - 1), by rw [Int.mul_comm, ← Int.pow_succ]; congr 1; omega⟩
  rw [Int.emod_emod_of_dvd _ hd]
  exact hu
theorem padic_unit' {p v u n : Int} (h : padicB p v u n = true) (h0 : n ≠ 0) : ringB p n = true ∧ (1 ≤ u ∧ u ≤ p ^ n.toNat - 1) ∧ ¬ u % p = 0 := by
  have hs := padicB_place h
  rw [padicB_alt hs.1 (inB_iff.2 hs.2) h0] at h
  simp only [Bool.and_eq_true, bne_iff_ne] at h
  exact ⟨h.1.1, inB_iff.1 h.1.2, h.2⟩

set_option maxHeartbeats 1000000 in
theorem s_FractionOf (p v u n : Int) (w : World) :
    Calls Try.prog 38 #[(.agg #[.int .i64 p, .int .i64 v, .int .i64 u, .int .i64 n])] w fun e w' => e = .returned (.tuple #[.int .i64 (frF p v u n).1, .int .i64 (frF p v u n).2.1, .int .i64 (frF p v u n).2.2]) ∧ Below w.heap.size w w' := by
  cases h : padicB p v u n
  · have e : (frF p v u n) = (0, 0, 1) := by simp [frF, h]
    rw [e]; clear e
    go_enter Try.func38, Try.ntmps38
    go_wp2_with (go_at_call 85; refine via (s_IsPadic _ _ _ _ _) ?_; intro uu zz; try simp at zz)
    exact bodyPost_ret (v := .tuple #[.int .i64 0, .int .i64 0, .int .i64 1]) (by first | (simp [results, go_sem]; done) | simp [results, go_sem, ↓IntWalk.iteOmega]) rfl ⟨rfl, (by refine Ext.bel ?_; repeat (with_reducible first | exact Ext.refl _ | apply Ext.alloc | apply Ext.aft | apply Ext.drew | apply Ext.drewN | apply Ext.setCell | exact Nat.le_add_right _ _ | exact Nat.le_refl _ | (simp; done) | omega))⟩
  obtain ⟨hp, hv, hu, hn, hb⟩ := padic_facts h
  by_cases he : v + n < 0
  · have e : (frF p v u n) = (0, 0, 4) := by unfold frF; rw [if_pos h, if_pos he]
    rw [e]; clear e hb
    go_enter Try.func38, Try.ntmps38
    go_wp2_with (first | (go_at_call 85; refine via (s_IsPadic _ _ _ _ _) ?_; intro uu zz; try simp at zz))
    exact bodyPost_ret (v := .tuple #[.int .i64 0, .int .i64 0, .int .i64 4]) (by first | (simp [results, go_sem]; done) | simp [results, go_sem, ↓IntWalk.iteOmega]) rfl ⟨rfl, (by refine Ext.bel ?_; repeat (with_reducible first | exact Ext.refl _ | apply Ext.alloc | apply Ext.aft | apply Ext.drew | apply Ext.drewN | apply Ext.setCell | exact Nat.le_add_right _ _ | exact Nat.le_refl _ | (simp; done) | omega))⟩
  have key : ∃ x m : Int, (frF p v u n) = (x, m, 0) ∧ (0 ≤ x ∧ x ≤ 1000000000) ∧ (1 ≤ m ∧ m ≤ 1000000000) ∧ (Int.gcd x m : Int) = 1 ∧ ∀ W : World, Calls Try.prog 101 #[(.agg #[.int .i64 p, .int .i64 v, .int .i64 u, .int .i64 n])] W fun e w' => e = .returned (.tuple #[.int .i64 x, .int .i64 m]) ∧ Below W.heap.size W w' := by
    by_cases h0 : 0 ≤ v
    · refine ⟨0, 1, by unfold frF; rw [if_pos h, if_neg he, if_pos h0], by omega, by omega, by decide, fun W => ?_⟩
      have h0' : decide (0 ≤ v) = true := by simpa using h0
      clear h hb
      go_enter Try.func101, Try.ntmps101
      go_wp2_with fail
      go_ret2
      exact ⟨rfl, (by refine Ext.bel ?_; repeat (with_reducible first | exact Ext.refl _ | apply Ext.alloc | apply Ext.aft | apply Ext.drew | apply Ext.drewN | apply Ext.setCell | exact Nat.le_add_right _ _ | exact Nat.le_refl _ | (simp; done) | omega))⟩
    · have hb1 := pow_mono (show 1 ≤ p by omega) (show (-v).toNat ≤ n.toNat by omega)
      have hb3 := pow_pos' (show 1 ≤ p by omega) (-v).toNat
      obtain ⟨hr, hu2, hun⟩ := padic_unit' h (by omega)
      have hM : modu p (-v) = p ^ (-v).toNat := by unfold modu; rw [if_pos (by omega)]
      have hs := (padicB_place h).1
      refine ⟨u % p ^ (-v).toNat, p ^ (-v).toNat, by unfold frF; rw [if_pos h, if_neg he, if_neg h0], ?_, by omega, ?_, fun W => ?_⟩
      · have := Int.emod_nonneg u (show p ^ (-v).toNat ≠ 0 by omega)
        have := Int.emod_lt_of_pos u (show 0 < p ^ (-v).toNat by omega)
        omega
      · rw [gcd_pow hs (mod_unit hun (by omega)) _]; rfl
      · rw [← hM]
        exact s_low p v u n W hp (by omega) hu (by rw [beq_eq_false_iff_ne]; omega) (by omega)
  obtain ⟨x, m, e, hx, hm, hg, hlow⟩ := key
  rw [e]
  have Hlow := hid hlow
  have HG : Hid (∀ W : World, Calls Try.prog 103 #[.int .i64 x, .int .i64 m] W fun e w' => e = .returned (.int .i64 1) ∧ Below W.heap.size W w') := hid fun W => by have := s_gcd x m W (by omega) (by omega); rw [hg] at this; exact this
  have x1 : x.tdiv 1 = x := Int.tdiv_one x
  have m1 : m.tdiv 1 = m := Int.tdiv_one m
  clear hb e hlow hg
  go_enter Try.func38, Try.ntmps38
  go_wp2_with (first | (go_at_call 85; refine via (s_IsPadic _ _ _ _ _) ?_; intro uu zz; try simp at zz) | (go_at_call 101; refine via (Hlow.out _) ?_; intro uu zz; try simp at zz) | (go_at_call 103; refine via (HG.out _) ?_; intro uu zz; try simp at zz))
  refine wp_region_calm (by kernel_rfl) (by kernel_rfl) ?_
  repeat (go_big_quiet_step (fail))
  refine wpQuiet_nil ?_; intro uq zq; try simp at zq
  go_wp2_with fail
  exact bodyPost_ret (v := .tuple #[.int .i64 x, .int .i64 m, .int .i64 0]) (by first | (simp [results, go_sem]; done) | simp [results, go_sem, ↓IntWalk.iteOmega]) rfl ⟨rfl, (by refine Ext.bel ?_; repeat (with_reducible first | exact Ext.refl _ | apply Ext.alloc | apply Ext.aft | apply Ext.drew | apply Ext.drewN | apply Ext.setCell | exact Nat.le_add_right _ _ | exact Nat.le_refl _ | (simp; done) | omega))⟩

/-- The p-adic number of a rational number. -/
def popF (nu de p n : Int) : Pd × Int := if ratB nu de = true ∧ ringB p n = true then (if nu = 0 then (⟨0, 0, 0, 0⟩, 5) else (pofF p n nu de, 0)) else (⟨0, 0, 0, 0⟩, 1)
set_option maxHeartbeats 1000000 in
theorem i_PadicOf (nu de p n : Int) (w : World) :
    Calls Try.prog 40 #[(.agg #[.int .i64 nu, .int .i64 de]), (.agg #[.int .i64 p, .int .i64 n])] w fun e w' => e = .returned (.tuple #[.agg #[.int .i64 (popF nu de p n).1.p, .int .i64 (popF nu de p n).1.v, .int .i64 (popF nu de p n).1.u, .int .i64 (popF nu de p n).1.n], .int .i64 (popF nu de p n).2]) ∧ Below w.heap.size w w' := by
  cases h1 : ratB nu de
  · have e : (popF nu de p n) = (⟨0, 0, 0, 0⟩, 1) := by simp [popF, h1]
    rw [e]; clear e
    go_enter Try.func40, Try.ntmps40
    go_wp2_with (first | (go_at_call 39; refine via (i_IsRational _ _ _) ?_; intro uu zz; try simp at zz) | (go_at_call 90; refine via (i_IsRing _ _ _) ?_; intro uu zz; try simp at zz))
    exact bodyPost_ret (v := .tuple #[(.agg #[.int .i64 0, .int .i64 0, .int .i64 0, .int .i64 0]), .int .i64 1]) (by first | (simp [results, go_sem]; done) | simp [results, go_sem, ↓IntWalk.iteOmega]) rfl ⟨rfl, (by refine Ext.bel ?_; repeat (with_reducible first | exact Ext.refl _ | apply Ext.alloc | apply Ext.aft | apply Ext.drew | apply Ext.drewN | apply Ext.setCell | exact Nat.le_add_right _ _ | exact Nat.le_refl _ | (simp; done) | omega))⟩
  cases h2 : ringB p n
  · have e : (popF nu de p n) = (⟨0, 0, 0, 0⟩, 1) := by simp [popF, h2]
    rw [e]; clear e
    go_enter Try.func40, Try.ntmps40
    go_wp2_with (first | (go_at_call 39; refine via (i_IsRational _ _ _) ?_; intro uu zz; try simp at zz) | (go_at_call 90; refine via (i_IsRing _ _ _) ?_; intro uu zz; try simp at zz))
    exact bodyPost_ret (v := .tuple #[(.agg #[.int .i64 0, .int .i64 0, .int .i64 0, .int .i64 0]), .int .i64 1]) (by first | (simp [results, go_sem]; done) | simp [results, go_sem, ↓IntWalk.iteOmega]) rfl ⟨rfl, (by refine Ext.bel ?_; repeat (with_reducible first | exact Ext.refl _ | apply Ext.alloc | apply Ext.aft | apply Ext.drew | apply Ext.drewN | apply Ext.setCell | exact Nat.le_add_right _ _ | exact Nat.le_refl _ | (simp; done) | omega))⟩
  by_cases h0 : nu = 0
  · have e : (popF nu de p n) = (⟨0, 0, 0, 0⟩, 5) := by unfold popF; rw [if_pos ⟨h1, h2⟩, if_pos h0]
    rw [e]; clear e
    subst h0
    go_enter Try.func40, Try.ntmps40
    go_wp2_with (first | (go_at_call 39; refine via (i_IsRational _ _ _) ?_; intro uu zz; try simp at zz) | (go_at_call 90; refine via (i_IsRing _ _ _) ?_; intro uu zz; try simp at zz))
    exact bodyPost_ret (v := .tuple #[(.agg #[.int .i64 0, .int .i64 0, .int .i64 0, .int .i64 0]), .int .i64 5]) (by first | (simp [results, go_sem]; done) | simp [results, go_sem, ↓IntWalk.iteOmega]) rfl ⟨rfl, (by refine Ext.bel ?_; repeat (with_reducible first | exact Ext.refl _ | apply Ext.alloc | apply Ext.aft | apply Ext.drew | apply Ext.drewN | apply Ext.setCell | exact Nat.le_add_right _ _ | exact Nat.le_refl _ | (simp; done) | omega))⟩
  have e : (popF nu de p n) = ((pofF p n nu de), 0) := by unfold popF; rw [if_pos ⟨h1, h2⟩, if_neg h0]
  rw [e]; clear e
  have h0' : (nu == 0) = false := by simpa using h0
  have H := hid (fun W => i_padicOf p n nu de W h1 h2 h0)
  clear h0
  go_enter Try.func40, Try.ntmps40
  go_wp2_with (first | (go_at_call 39; refine via (i_IsRational _ _ _) ?_; intro uu zz; try simp at zz) | (go_at_call 90; refine via (i_IsRing _ _ _) ?_; intro uu zz; try simp at zz) | (go_at_call 105; refine via (H.out _) ?_; intro uu zz; try simp at zz))
  exact bodyPost_ret (v := .tuple #[.agg #[.int .i64 (pofF p n nu de).p, .int .i64 (pofF p n nu de).v, .int .i64 (pofF p n nu de).u, .int .i64 (pofF p n nu de).n], .int .i64 0]) (by first | (simp [results, go_sem]; done) | simp [results, go_sem, ↓IntWalk.iteOmega]) rfl ⟨rfl, (by refine Ext.bel ?_; repeat (with_reducible first | exact Ext.refl _ | apply Ext.alloc | apply Ext.aft | apply Ext.drew | apply Ext.drewN | apply Ext.setCell | exact Nat.le_add_right _ _ | exact Nat.le_refl _ | (simp; done) | omega))⟩

set_option maxHeartbeats 1000000 in
theorem s_DrawWholePart (B : Nat) (a : Option Addr) (len cap : Nat) (w : World) (h : rdB B w a len) (hl : len ≤ 4096) (hB : B ≤ w.heap.size) :
    Calls Try.prog 34 #[.slice a len cap] w fun e w' => ∃ z : Pd, e = .returned ((fun x : Pd => .agg #[.int .i64 x.p, .int .i64 x.v, .int .i64 x.u, .int .i64 x.n]) z) ∧ Below w.heap.size w w' := by
  go_enter Try.func34, Try.ntmps34
  go_wp2_with fail
  refine viaF (s_from B a len cap _ (h.of fun j o v hj hv => by rw [alloc_cell, if_neg (by omega)]; exact hv) hl (by simp; omega)) ?_
  intro b u0 hs0 hb0 hl0 hl1
  simp at hb0 hl0
  go_wp2_with fail
  refine viaDr (s_draw3 B b _ hs0) ?_
  intro x u1 htr hs1 hl2
  clear htr
  obtain ⟨x1, x2, x3, x4⟩ := x
  dsimp only
  go_wp2_with fail
  exact bodyPost_ret (v := .agg #[.int .i64 x1, .int .i64 x2, .int .i64 x3, .int .i64 x4]) (by first | (simp [results, go_sem]; done) | simp [results, go_sem, ↓IntWalk.iteOmega]) rfl ⟨⟨x1, x2, x3, x4⟩, rfl, (by refine Ext.bel ?_; exact ((((((((Ext.refl w).alloc _).aft _).aftD _ (by omega)).setCell _ _ _ _ (by omega)).setCell _ _ _ _ (by omega)).setCell _ _ _ _ (by omega)).setCell _ _ _ _ (by omega)))⟩
end Go.Proofs.Ytehdkbopkkgabaa
