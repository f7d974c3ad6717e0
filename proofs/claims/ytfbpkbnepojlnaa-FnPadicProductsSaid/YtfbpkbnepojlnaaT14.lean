/- The number for an integer: both texts. -/
import Derived.Test.YtfbpkbnepojlnaaT6
import Derived.Test.YtfbpkbnepojlnaaC4
import Derived.Test.YtfbpkbnepojlnaaM3
namespace Go.Proofs.Ytfbpkbnepojlnaa
open Go Go.RowKit

/-- The number for an integer, or a code. -/
def makpF (p n k : Int) : Pd × Int := if ringB p k = true then (if inB n (-1000000000000) 1000000000000 = true ∧ n ≠ 0 then (⟨p, vl n p, n / p ^ vl n p % p ^ k.toNat, k⟩, 0) else (⟨0, 0, 0, 0⟩, 2)) else (⟨0, 0, 0, 0⟩, 1)
theorem vl_small {p n : Int} (hp : 2 ≤ p) (hn : n ≠ 0) (h : -1000000000000 ≤ n ∧ n ≤ 1000000000000) : vl n p ≤ 60 := by
  obtain ⟨h1, _⟩ := vl_pow_bd hp hn
  rcases Nat.lt_or_ge 60 (vl n p) with h2 | h2
  · have h3 := pow_mono (show 1 ≤ p by omega) (show 60 ≤ vl n p by omega)
    have h4 : (2 : Int) ^ 60 ≤ p ^ 60 := by
      have e : ∀ k : Nat, (2 : Int) ^ k ≤ p ^ k := by
        intro k
        induction k with
        | zero => simp
        | succ k ih =>
          rw [Int.pow_succ, Int.pow_succ]
          have := pow_pos' (show (1 : Int) ≤ 2 by omega) k
          exact Int.mul_le_mul ih (by omega) (by omega) (by omega)
      exact e 60
    have h5 : (2 : Int) ^ 60 = 1152921504606846976 := by decide
    omega
  · exact h2

set_option maxRecDepth 20000 in
set_option maxHeartbeats 4000000 in
theorem i_MakePadic_bad (p n k : Int) (w : World) (h : ¬ (ringB p k = true ∧ inB n (-1000000000000) 1000000000000 = true ∧ n ≠ 0)) :
    Calls Try.prog 8 #[.int .i64 p, .int .i64 n, .int .i64 k] w fun e w' => e = .returned (.tuple #[.agg #[.int .i64 (makpF p n k).1.p, .int .i64 (makpF p n k).1.v, .int .i64 (makpF p n k).1.u, .int .i64 (makpF p n k).1.n], .int .i64 (makpF p n k).2]) ∧ Below w.heap.size w w' := by
  cases hr : ringB p k
  · have e : (makpF p n k) = (⟨0, 0, 0, 0⟩, 1) := by unfold makpF; rw [if_neg (by simp [hr])]
    rw [e]; clear e
    go_enter Try.func8, Try.ntmps8
    go_wp2_with (go_at_call 40; refine via (i_IsRing _ _ _) ?_; intro uu zz; try simp at zz)
    exact bodyPost_ret (v := .tuple #[(.agg #[.int .i64 0, .int .i64 0, .int .i64 0, .int .i64 0]), .int .i64 1]) (by first | (simp [results, go_sem]; done) | simp [results, go_sem, ↓IntWalk.iteOmega]) rfl ⟨rfl, (by refine Ext.bel ?_; repeat (with_reducible first | exact Ext.refl _ | apply Ext.alloc | apply Ext.aft | apply Ext.drew | apply Ext.drewN | apply Ext.setCell | exact Nat.le_add_right _ _ | exact Nat.le_refl _ | (simp; done) | omega))⟩
  have e : (makpF p n k) = (⟨0, 0, 0, 0⟩, 2) := by unfold makpF; rw [if_pos hr, if_neg (fun q => h ⟨hr, q⟩)]
  rw [e]; clear e
  cases hi : inB n (-1000000000000) 1000000000000
  · clear h
    go_enter Try.func8, Try.ntmps8
    go_wp2_with (first | (go_at_call 40; refine via (i_IsRing _ _ _) ?_; intro uu zz; try simp at zz) | (go_at_call 41; refine pur (i_isValue _ _) ?_))
    exact bodyPost_ret (v := .tuple #[(.agg #[.int .i64 0, .int .i64 0, .int .i64 0, .int .i64 0]), .int .i64 2]) (by first | (simp [results, go_sem]; done) | simp [results, go_sem, ↓IntWalk.iteOmega]) rfl ⟨rfl, (by refine Ext.bel ?_; repeat (with_reducible first | exact Ext.refl _ | apply Ext.alloc | apply Ext.aft | apply Ext.drew | apply Ext.drewN | apply Ext.setCell | exact Nat.le_add_right _ _ | exact Nat.le_refl _ | (simp; done) | omega))⟩
  · have h0 : n = 0 := by
      rcases Int.lt_or_le n 0 with q | q
      · exact absurd ⟨hr, hi, by omega⟩ h
      · rcases Int.lt_or_le 0 n with q2 | q2
        · exact absurd ⟨hr, hi, by omega⟩ h
        · omega
    subst h0
    clear h
    go_enter Try.func8, Try.ntmps8
    go_wp2_with (first | (go_at_call 40; refine via (i_IsRing _ _ _) ?_; intro uu zz; try simp at zz) | (go_at_call 41; refine pur (i_isValue _ _) ?_))
    exact bodyPost_ret (v := .tuple #[(.agg #[.int .i64 0, .int .i64 0, .int .i64 0, .int .i64 0]), .int .i64 2]) (by first | (simp [results, go_sem]; done) | simp [results, go_sem, ↓IntWalk.iteOmega]) rfl ⟨rfl, (by refine Ext.bel ?_; repeat (with_reducible first | exact Ext.refl _ | apply Ext.alloc | apply Ext.aft | apply Ext.drew | apply Ext.drewN | apply Ext.setCell | exact Nat.le_add_right _ _ | exact Nat.le_refl _ | (simp; done) | omega))⟩
set_option maxRecDepth 20000 in
set_option maxHeartbeats 4000000 in
theorem s_MakePadic_bad (p n k : Int) (w : World) (h : ¬ (ringB p k = true ∧ inB n (-1000000000000) 1000000000000 = true ∧ n ≠ 0)) :
    Calls Try.prog 9 #[.int .i64 p, .int .i64 n, .int .i64 k] w fun e w' => e = .returned (.tuple #[.agg #[.int .i64 (makpF p n k).1.p, .int .i64 (makpF p n k).1.v, .int .i64 (makpF p n k).1.u, .int .i64 (makpF p n k).1.n], .int .i64 (makpF p n k).2]) ∧ Below w.heap.size w w' := by
  cases hr : ringB p k
  · have e : (makpF p n k) = (⟨0, 0, 0, 0⟩, 1) := by unfold makpF; rw [if_neg (by simp [hr])]
    rw [e]; clear e
    go_enter Try.func9, Try.ntmps9
    go_wp2_with (go_at_call 46; refine via (s_IsRing _ _ _) ?_; intro uu zz; try simp at zz)
    exact bodyPost_ret (v := .tuple #[(.agg #[.int .i64 0, .int .i64 0, .int .i64 0, .int .i64 0]), .int .i64 1]) (by first | (simp [results, go_sem]; done) | simp [results, go_sem, ↓IntWalk.iteOmega]) rfl ⟨rfl, (by refine Ext.bel ?_; repeat (with_reducible first | exact Ext.refl _ | apply Ext.alloc | apply Ext.aft | apply Ext.drew | apply Ext.drewN | apply Ext.setCell | exact Nat.le_add_right _ _ | exact Nat.le_refl _ | (simp; done) | omega))⟩
  have e : (makpF p n k) = (⟨0, 0, 0, 0⟩, 2) := by unfold makpF; rw [if_pos hr, if_neg (fun q => h ⟨hr, q⟩)]
  rw [e]; clear e
  cases hi : inB n (-1000000000000) 1000000000000
  · clear h
    go_enter Try.func9, Try.ntmps9
    go_wp2_with (first | (go_at_call 46; refine via (s_IsRing _ _ _) ?_; intro uu zz; try simp at zz) | (go_at_call 47; refine pur (s_is _ _) ?_))
    exact bodyPost_ret (v := .tuple #[(.agg #[.int .i64 0, .int .i64 0, .int .i64 0, .int .i64 0]), .int .i64 2]) (by first | (simp [results, go_sem]; done) | simp [results, go_sem, ↓IntWalk.iteOmega]) rfl ⟨rfl, (by refine Ext.bel ?_; repeat (with_reducible first | exact Ext.refl _ | apply Ext.alloc | apply Ext.aft | apply Ext.drew | apply Ext.drewN | apply Ext.setCell | exact Nat.le_add_right _ _ | exact Nat.le_refl _ | (simp; done) | omega))⟩
  · have h0 : n = 0 := by
      rcases Int.lt_or_le n 0 with q | q
      · exact absurd ⟨hr, hi, by omega⟩ h
      · rcases Int.lt_or_le 0 n with q2 | q2
        · exact absurd ⟨hr, hi, by omega⟩ h
        · omega
    subst h0
    clear h
    go_enter Try.func9, Try.ntmps9
    go_wp2_with (first | (go_at_call 46; refine via (s_IsRing _ _ _) ?_; intro uu zz; try simp at zz) | (go_at_call 47; refine pur (s_is _ _) ?_))
    exact bodyPost_ret (v := .tuple #[(.agg #[.int .i64 0, .int .i64 0, .int .i64 0, .int .i64 0]), .int .i64 2]) (by first | (simp [results, go_sem]; done) | simp [results, go_sem, ↓IntWalk.iteOmega]) rfl ⟨rfl, (by refine Ext.bel ?_; repeat (with_reducible first | exact Ext.refl _ | apply Ext.alloc | apply Ext.aft | apply Ext.drew | apply Ext.drewN | apply Ext.setCell | exact Nat.le_add_right _ _ | exact Nat.le_refl _ | (simp; done) | omega))⟩

set_option maxRecDepth 20000 in
set_option maxHeartbeats 4000000 in
theorem i_MakePadic (p n k : Int) (w : World) :
    Calls Try.prog 8 #[.int .i64 p, .int .i64 n, .int .i64 k] w fun e w' => e = .returned (.tuple #[.agg #[.int .i64 (makpF p n k).1.p, .int .i64 (makpF p n k).1.v, .int .i64 (makpF p n k).1.u, .int .i64 (makpF p n k).1.n], .int .i64 (makpF p n k).2]) ∧ Below w.heap.size w w' := by
  by_cases h : ringB p k = true ∧ inB n (-1000000000000) 1000000000000 = true ∧ n ≠ 0
  case neg => exact i_MakePadic_bad p n k w h
  obtain ⟨hr, hi, h0⟩ := h
  have hi2 := inB_iff.1 hi
  obtain ⟨hs, hk1, hk2, hk3⟩ := ringB_iff.1 hr
  have hp := smallP_bd hs
  obtain ⟨c1, c2, c3, c4, c5⟩ := vl_pow_bd hp.1 h0
  have c6 := vl_small hp.1 h0 hi2
  have c7 := pow_pos' (show 1 ≤ p by omega) (vl n p)
  have c8 := pow_pos' (show 1 ≤ p by omega) k.toNat
  have e : (makpF p n k) = (⟨p, vl n p, n / p ^ vl n p % p ^ k.toNat, k⟩, 0) := by unfold makpF; rw [if_pos hr, if_pos ⟨hi, h0⟩]
  rw [e]; clear e
  have HV : Hid (∀ W : World, Calls Try.prog 42 #[.int .i64 n, .int .i64 p] W fun e w' => e = .returned (.int .i64 (vl n p)) ∧ W = w') := hid fun W => i_val n p W hp.1 (by omega) h0 (by omega)
  have HP : Hid (∀ W : World, Calls Try.prog 44 #[.int .i64 p, .int .i64 (vl n p)] W fun e w' => e = .returned (.int .i64 (p ^ vl n p)) ∧ W = w') := hid fun W => by
    have := i_power p (vl n p) W (by omega) (by omega) (by rw [Int.toNat_natCast]; omega)
    rw [Int.toNat_natCast] at this
    exact this
  obtain ⟨v, hv⟩ : ∃ v : Nat, v = vl n p := ⟨_, rfl⟩
  rw [← hv] at c1 c2 c3 c4 c5 c6 c7 HV HP ⊢
  obtain ⟨P, hP⟩ : ∃ P, P = p ^ v := ⟨_, rfl⟩
  rw [← hP] at c1 c2 c3 c4 c5 c7 HP ⊢
  obtain ⟨M, hM⟩ : ∃ M, M = p ^ k.toNat := ⟨_, rfl⟩
  have HM : Hid (∀ W : World, Calls Try.prog 45 #[.agg #[.int .i64 p, .int .i64 k]] W fun e w' => e = .returned (.int .i64 M) ∧ Below W.heap.size W w') := hid fun W => by rw [hM]; exact i_modulus p k W hr
  rw [← hM] at c8 hk3 ⊢
  obtain ⟨c, hc⟩ : ∃ c, c = n / P := ⟨_, rfl⟩
  rw [← hc] at c2 c3 c4 c5 ⊢
  have hP0 : P ≠ 0 := by omega
  have hPz : (P == 0) = false := by simpa using hP0
  have hcb : -1000000000000 ≤ c ∧ c ≤ 1000000000000 := by omega
  have n0 : (n == 0) = false := by simpa using h0
  have hMb : 1 ≤ M ∧ M ≤ 1000000000 := by omega
  clear hs hk3 c1 c2 c4 c5 hv hP hM hc hi2 h0 
  go_enter Try.func8, Try.ntmps8
  go_wp2_with (first | (go_at_call 40; refine via (i_IsRing _ _ _) ?_; intro uu zz; try simp at zz) | (go_at_call 41; refine pur (i_isValue _ _) ?_) | (go_at_call 42; refine pur (HV.out _) ?_))
  refine wp_region_calm_tail 12 (by kernel_rfl) (by kernel_rfl) ?_
  simp only [List.take_succ_cons, List.take_zero, List.drop_succ_cons, List.drop_zero]
  repeat (go_big_quiet_step (first | (go_at_call 44; exact calmp (HP.out _)) | (go_at_call 45; exact calm (HM.out _)) | (go_at_call 43; exact calmp (i_mod _ _ _ (by omega) (by omega)))))
  refine wpQuiet_nil ?_; intro uq zq; try simp at zq
  go_wp2_with fail
  exact bodyPost_ret (v := .tuple #[.agg #[.int .i64 p, .int .i64 v, .int .i64 (c % M), .int .i64 k], .int .i64 0]) (by first | (simp [results, go_sem]; done) | simp [results, go_sem, ↓IntWalk.iteOmega]) rfl ⟨rfl, (by refine Ext.bel ?_; repeat (with_reducible first | exact Ext.refl _ | apply Ext.alloc | apply Ext.aft | apply Ext.drew | apply Ext.drewN | apply Ext.setCell | exact Nat.le_add_right _ _ | exact Nat.le_refl _ | (simp; done) | omega))⟩

theorem strip_step {p c : Int} {v j : Nat} (hp : 2 ≤ p) (hj : j < v) : (c * p ^ (v - j)).tdiv p = c * p ^ (v - (j + 1)) := by
  rw [show v - j = (v - (j + 1)) + 1 by omega, Int.pow_succ, ← Int.mul_assoc]
  exact Int.mul_tdiv_cancel _ (by omega)
theorem strip_bd {p c : Int} {v : Nat} (j : Nat) (hp : 2 ≤ p) : (c * p ^ (v - j)).natAbs ≤ (c * p ^ v).natAbs := by
  have h1 := pow_mono (show 1 ≤ p by omega) (show v - j ≤ v by omega)
  have h2 := pow_pos' (show 1 ≤ p by omega) (v - j)
  rw [Int.natAbs_mul, Int.natAbs_mul]
  exact Nat.mul_le_mul (Nat.le_refl _) (by omega)

set_option maxRecDepth 20000 in
set_option maxHeartbeats 4000000 in
theorem s_MakePadic (p n k : Int) (w : World) :
    Calls Try.prog 9 #[.int .i64 p, .int .i64 n, .int .i64 k] w fun e w' => e = .returned (.tuple #[.agg #[.int .i64 (makpF p n k).1.p, .int .i64 (makpF p n k).1.v, .int .i64 (makpF p n k).1.u, .int .i64 (makpF p n k).1.n], .int .i64 (makpF p n k).2]) ∧ Below w.heap.size w w' := by
  by_cases h : ringB p k = true ∧ inB n (-1000000000000) 1000000000000 = true ∧ n ≠ 0
  case neg => exact s_MakePadic_bad p n k w h
  obtain ⟨hr, hi, h0⟩ := h
  have hi2 := inB_iff.1 hi
  obtain ⟨hs, hk1, hk2, hk3⟩ := ringB_iff.1 hr
  have hp := smallP_bd hs
  obtain ⟨c, d1, d2, d3⟩ := vl_spec hp.1 h0
  have c6 := vl_small hp.1 h0 hi2
  have c8 := pow_pos' (show 1 ≤ p by omega) k.toNat
  have e : (makpF p n k) = (⟨p, vl n p, n / p ^ vl n p % p ^ k.toNat, k⟩, 0) := by unfold makpF; rw [if_pos hr, if_pos ⟨hi, h0⟩]
  rw [e, d3]; clear e
  have HV : Hid (∀ W : World, Calls Try.prog 48 #[.int .i64 n, .int .i64 p] W fun e w' => e = .returned (.int .i64 (vl n p)) ∧ W = w') := hid fun W => s_val n p W hp.1 (by omega) h0 (by omega)
  obtain ⟨v, hv⟩ : ∃ v : Nat, v = vl n p := ⟨_, rfl⟩
  rw [← hv] at d1 c6 HV ⊢
  obtain ⟨M, hM⟩ : ∃ M, M = p ^ k.toNat := ⟨_, rfl⟩
  have HM : Hid (∀ W : World, Calls Try.prog 50 #[.int .i64 p, .int .i64 k] W fun e w' => e = .returned (.int .i64 M) ∧ W = w') := hid fun W => by
    have := s_modulus p k W (by omega) (by omega) (by omega)
    rw [modu_ring hr, ← hM] at this
    exact this
  rw [← hM] at c8 hk3 ⊢
  have n0 : (n == 0) = false := by simpa using h0
  have HB : Hid (∀ j : Nat, -1000000000000 ≤ c * p ^ (v - j) ∧ c * p ^ (v - j) ≤ 1000000000000) := hid fun j => by
    have := @strip_bd p c v j hp.1
    rw [← d1] at this
    omega
  have HD := hid d1
  clear hs d1 d2 d3 hv hM hi2 h0 
  go_enter Try.func9, Try.ntmps9
  go_wp2_with (first | (go_at_call 46; refine via (s_IsRing _ _ _) ?_; intro uu zz; try simp at zz) | (go_at_call 47; refine pur (s_is _ _) ?_) | (go_at_call 48; refine pur (HV.out _) ?_))
  go_loop [1, 9] (fun a i => ∃ j : Nat, j ≤ v ∧ a = .int .i64 (c * p ^ (v - j)) ∧ i = .int .i64 j) (fun _ i => v - (intOf i).toNat)
  case atStart => exact ⟨0, by omega, by rw [Nat.sub_zero]; rw [← HD.out], rfl⟩
  case round =>
    obtain ⟨j, hj, rfl, rfl⟩ := hrel
    by_cases hlt : j < v
    · have hd : decide ((j : Int) < (v : Int)) = true := by simp; omega
      have hst := @strip_step p c v j hp.1 hlt
      have hb1 := HB.out j
      have hb2 := HB.out (j + 1)
      obtain ⟨q, hq⟩ : ∃ q, q = c * p ^ (v - j) := ⟨_, rfl⟩
      obtain ⟨q2, hq2⟩ : ∃ q, q = c * p ^ (v - (j + 1)) := ⟨_, rfl⟩
      rw [← hq] at hst hb1 ⊢
      rw [← hq2] at hst hb2
      have HQ := hid hq2
      have hp0 : (p == 0) = false := by rw [beq_eq_false_iff_ne]; omega
      clear hq hq2
      go_wp2_with fail
      go_round
      case rel => exact ⟨j + 1, by omega, by rw [HQ.out], by go_num⟩
      case measure => simp [intOf]; omega
    · obtain rfl : j = v := by omega
      have hd : decide ((j : Int) < (j : Int)) = false := by simp
      have hc := HB.out j
      rw [Nat.sub_self, Int.pow_zero, Int.mul_one] at hc ⊢
      go_wp2_with (first | (go_at_call 50; refine pur (HM.out _) ?_) | (go_at_call 49; refine pur (s_mod _ _ _ (by omega) (by omega)) ?_))
      exact bodyPost_ret (v := .tuple #[.agg #[.int .i64 p, .int .i64 j, .int .i64 (c % M), .int .i64 k], .int .i64 0]) (by first | (simp [results, go_sem]; done) | simp [results, go_sem, ↓IntWalk.iteOmega]) rfl ⟨rfl, (by refine Ext.bel ?_; repeat (with_reducible first | exact Ext.refl _ | apply Ext.alloc | apply Ext.aft | apply Ext.drew | apply Ext.drewN | apply Ext.setCell | exact Nat.le_add_right _ _ | exact Nat.le_refl _ | (simp; done) | omega))⟩

theorem makp_facts {p n k : Int} (h : (makpF p n k).2 = 0) : padicB (makpF p n k).1.p (makpF p n k).1.v (makpF p n k).1.u (makpF p n k).1.n = true ∧ makpF p n k = (⟨p, vl n p, n / p ^ vl n p % p ^ k.toNat, k⟩, 0) ∧ n ≠ 0 ∧ (2 ≤ p ∧ p ≤ 97) ∧ (1 ≤ k ∧ k ≤ 40) ∧ (-1000000000000 ≤ n ∧ n ≤ 1000000000000) := by
  unfold makpF at h ⊢
  split
  · rename_i hr
    rw [if_pos hr] at h
    split
    · rename_i hn
      obtain ⟨hs, hk1, hk2, hk3⟩ := ringB_iff.1 hr
      have hp := smallP_bd hs
      have hi := inB_iff.1 hn.1
      obtain ⟨c1, c2, c3, c4, c5⟩ := vl_pow_bd hp.1 hn.2
      have c6 := vl_small hp.1 hn.2 hi
      refine ⟨?_, rfl, hn.2, hp, ⟨hk1, hk2⟩, hi⟩
      have c8 := pow_pos' (show 1 ≤ p by omega) k.toNat
      have e1 := Int.emod_nonneg (n / p ^ vl n p) (show p ^ k.toNat ≠ 0 by omega)
      have e2 := Int.emod_lt_of_pos (n / p ^ vl n p) (show 0 < p ^ k.toNat by omega)
      have hz : ¬ (n / p ^ vl n p % p ^ k.toNat) % p = 0 := by
        rw [Int.emod_emod_of_dvd (n / p ^ vl n p) (show p ∣ p ^ k.toNat from ⟨p ^ (k.toNat - 1), by rw [Int.mul_comm, ← Int.pow_succ]; congr 1; omega⟩)]
        exact c5
      have e3 : n / p ^ vl n p % p ^ k.toNat ≠ 0 := fun q => hz (by rw [q]; simp)
      simp only
      rw [padicB_alt hs (inB_t (by omega) (by omega)) (by omega), hr, inB_t (n := n / p ^ vl n p % p ^ k.toNat) (a := 1) (b := p ^ k.toNat - 1) (by omega) (by omega)]
      simp only [Bool.true_and, bne_iff_ne, ne_eq]
      exact hz
    · rename_i hn; rw [if_neg hn] at h; simp at h
  · rename_i hr; rw [if_neg hr] at h; simp at h
end Go.Proofs.Ytfbpkbnepojlnaa
