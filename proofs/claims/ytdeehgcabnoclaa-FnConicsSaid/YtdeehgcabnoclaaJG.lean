/- Hilbert's symbol: the program's text. -/
import Derived.Test.YtdeehgcabnoclaaJF
namespace Go.Proofs.Ytdeehgcabnoclaa
open Go Go.RowKit

theorem vl_sm {p n : Int} (hp : 2 ≤ p) (hn : n ≠ 0) (h : -1000000000000 ≤ n ∧ n ≤ 1000000000000) : vl n p ≤ 60 := by
  obtain ⟨h1, _⟩ := vl_pow_bd hp hn
  rcases Nat.lt_or_ge 60 (vl n p) with h2 | h2
  · have h3 := pow_mono (show 1 ≤ p by omega) (show 60 ≤ vl n p by omega)
    have h4 : (2 : Int) ^ 60 ≤ p ^ 60 := by
      have e : ∀ k : Nat, (2 : Int) ^ k ≤ p ^ k := by
        intro k
        induction k with
        | zero => simp
        | succ k ih =>
          rw [Int.pow_succ, Int.pow_succ]
          have := pow_pos' (show (1 : Int) ≤ 2 by omega) k
          exact Int.mul_le_mul ih (by omega) (by omega) (by omega)
      exact e 60
    have h5 : (2 : Int) ^ 60 = 1152921504606846976 := by decide
    omega
  · omega
set_option maxHeartbeats 1000000 in
theorem i_signOf (n : Int) (w : World) :
    Calls Try.prog 76 #[.int .i64 n] w fun e w' => e = .returned (.int .i64 (sgn n)) ∧ w = w' := by
  by_cases h : n % 2 = 0
  · have e : sgn n = 1 := by unfold sgn; rw [if_pos h]
    rw [e]; clear e
    have h1 : (n.tmod 2 == 0) = true := by rw [beq_iff_eq, tmod_zero_iff]; exact h
    have h2 : (n.tmod 2 != 0) = false := by simpa using h1
    clear h
    go_enter Try.func76, Try.ntmps76
    go_wp2_with fail
    go_ret
    exact ⟨rfl, rfl⟩
  · have e : sgn n = -1 := by unfold sgn; rw [if_neg h]
    rw [e]; clear e
    have h1 : (n.tmod 2 == 0) = false := by rw [beq_eq_false_iff_ne]; exact fun h' => h (tmod_zero_iff.1 h')
    have h2 : (n.tmod 2 != 0) = true := by simpa using h1
    clear h
    go_enter Try.func76, Try.ntmps76
    go_wp2_with fail
    go_ret
    exact ⟨rfl, rfl⟩
theorem sgn_bd (n : Int) : sgn n = 1 ∨ sgn n = -1 := by unfold sgn; split <;> simp

set_option maxHeartbeats 4000000 in
theorem i_hilbert (p a b : Int) (w : World) (hp : p = 0 ∨ smallP p = true) (ha : a ≠ 0) (hb : b ≠ 0) (ha2 : -1000000000000 ≤ a ∧ a ≤ 1000000000000) (hb2 : -1000000000000 ≤ b ∧ b ≤ 1000000000000) :
    Calls Try.prog 73 #[.int .i64 p, .int .i64 a, .int .i64 b] w fun e w' => e = .returned (.int .i64 (hilF p a b)) ∧ Below w.heap.size w w' := by
  by_cases h0 : p = 0
  · subst h0
    by_cases h1 : a < 0
    · have d1 : decide (a < 0) = true := by simpa using h1
      by_cases h2 : b < 0
      · have d2 : decide (b < 0) = true := by simpa using h2
        have e : hilF 0 a b = -1 := by unfold hilF; rw [if_pos rfl, if_pos ⟨h1, h2⟩]
        rw [e]; clear e h1 h2 ha hb
        go_enter Try.func73, Try.ntmps73
        go_wp2_with fail
        go_ret
        exact ⟨rfl, (by refine Ext.bel ?_; repeat (with_reducible first | exact Ext.refl _ | apply Ext.alloc | apply Ext.aft | apply Ext.drew | apply Ext.drewN | apply Ext.setCell | exact Nat.le_add_right _ _ | exact Nat.le_refl _ | (simp; done) | omega))⟩
      · have d2 : decide (b < 0) = false := by simpa using h2
        have e : hilF 0 a b = 1 := by unfold hilF; rw [if_pos rfl, if_neg (fun h => h2 h.2)]
        rw [e]; clear e h1 h2 ha hb
        go_enter Try.func73, Try.ntmps73
        go_wp2_with fail
        go_ret
        exact ⟨rfl, (by refine Ext.bel ?_; repeat (with_reducible first | exact Ext.refl _ | apply Ext.alloc | apply Ext.aft | apply Ext.drew | apply Ext.drewN | apply Ext.setCell | exact Nat.le_add_right _ _ | exact Nat.le_refl _ | (simp; done) | omega))⟩
    · have d1 : decide (a < 0) = false := by simpa using h1
      have e : hilF 0 a b = 1 := by unfold hilF; rw [if_pos rfl, if_neg (fun h => h1 h.1)]
      rw [e]; clear e h1 ha hb
      go_enter Try.func73, Try.ntmps73
      go_wp2_with fail
      go_ret
      exact ⟨rfl, (by refine Ext.bel ?_; repeat (with_reducible first | exact Ext.refl _ | apply Ext.alloc | apply Ext.aft | apply Ext.drew | apply Ext.drewN | apply Ext.setCell | exact Nat.le_add_right _ _ | exact Nat.le_refl _ | (simp; done) | omega))⟩
  have hs := hp.resolve_left h0
  have pb := smallP_bd hs
  have p0 : (p == 0) = false := by simpa using h0
  have eF : hilF p a b = if p = 2 then hil2 (vl a p) (vl b p) (a / p ^ vl a p % 8) (b / p ^ vl b p % 8) else hilO p (vl a p) (vl b p) (a / p ^ vl a p) (b / p ^ vl b p) := by unfold hilF; rw [if_neg h0]
  rw [eF]
  clear eF hp h0
  have va := vl_pow_bd pb.1 ha
  have vb := vl_pow_bd pb.1 hb
  have ka := vl_sm pb.1 ha ha2
  have kb := vl_sm pb.1 hb hb2
  have HVA : Hid (∀ W : World, Calls Try.prog 63 #[.int .i64 a, .int .i64 p] W fun e w' => e = .returned (.int .i64 (vl a p)) ∧ W = w') := hid fun W => i_val a p W pb.1 (by omega) ha (by omega)
  have HVB : Hid (∀ W : World, Calls Try.prog 63 #[.int .i64 b, .int .i64 p] W fun e w' => e = .returned (.int .i64 (vl b p)) ∧ W = w') := hid fun W => i_val b p W pb.1 (by omega) hb (by omega)
  have HPA : Hid (∀ W : World, Calls Try.prog 64 #[.int .i64 p, .int .i64 (vl a p)] W fun e w' => e = .returned (.int .i64 (p ^ vl a p)) ∧ W = w') := hid fun W => i_power p (vl a p) W (by omega) (by omega) (by rw [Int.toNat_natCast]; omega)
  have HPB : Hid (∀ W : World, Calls Try.prog 64 #[.int .i64 p, .int .i64 (vl b p)] W fun e w' => e = .returned (.int .i64 (p ^ vl b p)) ∧ W = w') := hid fun W => i_power p (vl b p) W (by omega) (by omega) (by rw [Int.toNat_natCast]; omega)
  have pa := pow_pos' (show 1 ≤ p by omega) (vl a p)
  have pb' := pow_pos' (show 1 ≤ p by omega) (vl b p)
  obtain ⟨K, hK⟩ : ∃ K, K = vl a p := ⟨_, rfl⟩
  obtain ⟨M, hM⟩ : ∃ M, M = vl b p := ⟨_, rfl⟩
  obtain ⟨PA, hPA⟩ : ∃ x, x = p ^ vl a p := ⟨_, rfl⟩
  obtain ⟨PB, hPB⟩ : ∃ x, x = p ^ vl b p := ⟨_, rfl⟩
  rw [← hPA] at HPA va pa
  rw [← hPB] at HPB vb pb'
  rw [← hPA, ← hPB, ← hK, ← hM]
  rw [← hK] at HVA HPA ka
  rw [← hM] at HVB HPB kb
  clear hK hM hPA hPB
  have ta : a.tdiv PA = a / PA := va.2.2.1
  have tb : b.tdiv PB = b / PB := vb.2.2.1
  have ua : ¬ a / PA % p = 0 := va.2.2.2.2
  have ub : ¬ b / PB % p = 0 := vb.2.2.2.2
  obtain ⟨U, hU⟩ : ∃ U, U = a / PA := ⟨_, rfl⟩
  obtain ⟨V, hV⟩ : ∃ V, V = b / PB := ⟨_, rfl⟩
  rw [← hU] at ta va ua
  rw [← hV] at tb vb ub
  rw [← hU, ← hV]
  have Ub : -1000000000000 ≤ U ∧ U ≤ 1000000000000 := by omega
  have Vb : -1000000000000 ≤ V ∧ V ≤ 1000000000000 := by omega
  have qa : (PA == 0) = false := by rw [beq_eq_false_iff_ne]; omega
  have qb : (PB == 0) = false := by rw [beq_eq_false_iff_ne]; omega
  have qa' : PA ≠ 0 := by omega
  have qb' : PB ≠ 0 := by omega
  clear va vb hU hV ha hb
  have HUA := hid ua
  have HUB := hid ub
  clear ua ub
  have HSG : Hid (∀ (n : Int) (W : World), Calls Try.prog 76 #[.int .i64 n] W fun e w' => e = .returned (.int .i64 (sgn n)) ∧ W = w') := hid fun n W => i_signOf n W
  by_cases h2 : p = 2
  · rw [if_pos h2]
    subst h2
    have u8 : 1 ≤ U % 8 ∧ U % 8 ≤ 7 := by have := HUA.out; omega
    have v8 : 1 ≤ V % 8 ∧ V % 8 ≤ 7 := by have := HUB.out; omega
    have HMU : Hid (∀ W : World, Calls Try.prog 65 #[.int .i64 U, .int .i64 8] W fun e w' => e = .returned (.int .i64 (U % 8)) ∧ W = w') := hid fun W => i_mod U 8 W (by omega) (by omega)
    have HMV : Hid (∀ W : World, Calls Try.prog 65 #[.int .i64 V, .int .i64 8] W fun e w' => e = .returned (.int .i64 (V % 8)) ∧ W = w') := hid fun W => i_mod V 8 W (by omega) (by omega)
    obtain ⟨X, hX⟩ : ∃ X, X = U % 8 := ⟨_, rfl⟩
    obtain ⟨Y, hY⟩ : ∃ Y, Y = V % 8 := ⟨_, rfl⟩
    rw [← hX] at u8 HMU
    rw [← hY] at v8 HMV
    rw [← hX, ← hY]
    clear hX hY
    have x1 : (X - 1).tdiv 2 = (X - 1) / 2 := Int.tdiv_eq_ediv_of_nonneg (by omega)
    have y1 : (Y - 1).tdiv 2 = (Y - 1) / 2 := Int.tdiv_eq_ediv_of_nonneg (by omega)
    have xx : 1 ≤ X * X ∧ X * X ≤ 49 := by
      have e1 : 1 * 1 ≤ X * X := Int.mul_le_mul u8.1 u8.1 (by omega) (by omega)
      have e2 : X * X ≤ 7 * 7 := Int.mul_le_mul u8.2 u8.2 (by omega) (by omega)
      omega
    have yy : 1 ≤ Y * Y ∧ Y * Y ≤ 49 := by
      have e1 : 1 * 1 ≤ Y * Y := Int.mul_le_mul v8.1 v8.1 (by omega) (by omega)
      have e2 : Y * Y ≤ 7 * 7 := Int.mul_le_mul v8.2 v8.2 (by omega) (by omega)
      omega
    have x2 : (X * X - 1).tdiv 8 = (X * X - 1) / 8 := Int.tdiv_eq_ediv_of_nonneg (by omega)
    have y2 : (Y * Y - 1).tdiv 8 = (Y * Y - 1) / 8 := Int.tdiv_eq_ediv_of_nonneg (by omega)
    have HT : Hid (hil2 K M X Y = sgn ((X - 1) / 2 * ((Y - 1) / 2) + (K : Int) * ((Y * Y - 1) / 8) + (M : Int) * ((X * X - 1) / 8))) := hid rfl
    have b1 : 0 ≤ (X - 1) / 2 * ((Y - 1) / 2) ∧ (X - 1) / 2 * ((Y - 1) / 2) ≤ 9 := by
      have e1 : (X - 1) / 2 * ((Y - 1) / 2) ≤ 3 * 3 := Int.mul_le_mul (by omega) (by omega) (by omega) (by omega)
      have e2 : 0 ≤ (X - 1) / 2 * ((Y - 1) / 2) := Int.mul_nonneg (by omega) (by omega)
      omega
    have b2 : 0 ≤ (K : Int) * ((Y * Y - 1) / 8) ∧ (K : Int) * ((Y * Y - 1) / 8) ≤ 360 := by
      have e1 : (K : Int) * ((Y * Y - 1) / 8) ≤ 60 * 6 := Int.mul_le_mul (by omega) (by omega) (by omega) (by omega)
      have e2 : 0 ≤ (K : Int) * ((Y * Y - 1) / 8) := Int.mul_nonneg (by omega) (by omega)
      omega
    have b3 : 0 ≤ (M : Int) * ((X * X - 1) / 8) ∧ (M : Int) * ((X * X - 1) / 8) ≤ 360 := by
      have e1 : (M : Int) * ((X * X - 1) / 8) ≤ 60 * 6 := Int.mul_le_mul (by omega) (by omega) (by omega) (by omega)
      have e2 : 0 ≤ (M : Int) * ((X * X - 1) / 8) := Int.mul_nonneg (by omega) (by omega)
      omega
    go_enter Try.func73, Try.ntmps73
    go_wp2_with fail
    refine pur (HVA.out _) ?_
    go_wp2_with fail
    refine pur (HVB.out _) ?_
    go_wp2_with fail
    refine wp_region_calm (by kernel_rfl) (by kernel_rfl) ?_
    repeat (go_big_quiet_step (first | (go_at_call 64; with_reducible exact calmp (HPA.out _)) | (go_at_call 64; with_reducible exact calmp (HPB.out _))))
    refine wpQuiet_nil ?_; intro uq zq; try simp at zq
    go_wp2_with fail
    refine pur (HMU.out _) ?_
    go_wp2_with fail
    refine pur (HMV.out _) ?_
    go_wp2_with fail
    refine pur (HSG.out _ _) ?_
    go_wp2_with fail
    go_ret
    exact ⟨by rw [HT.out]; rfl, (by refine Ext.bel ?_; repeat (with_reducible first | exact Ext.refl _ | apply Ext.alloc | apply Ext.aft | apply Ext.drew | apply Ext.drewN | apply Ext.setCell | exact Nat.le_add_right _ _ | exact Nat.le_refl _ | (simp; done) | omega))⟩
  · rw [if_neg h2]
    have p2 : (p == 2) = false := by simpa using h2
    have t1 : (p - 1).tdiv 2 = (p - 1) / 2 := Int.tdiv_eq_ediv_of_nonneg (by omega)
    have c1 : 0 ≤ (K : Int) * (M : Int) ∧ (K : Int) * (M : Int) ≤ 3600 := by
      have e1 : (K : Int) * (M : Int) ≤ 60 * 60 := Int.mul_le_mul (by omega) (by omega) (by omega) (by omega)
      have e2 : 0 ≤ (K : Int) * (M : Int) := Int.mul_nonneg (by omega) (by omega)
      omega
    have c2 : 0 ≤ (K : Int) * (M : Int) * ((p - 1) / 2) ∧ (K : Int) * (M : Int) * ((p - 1) / 2) ≤ 3600 * 48 := by
      have e1 : (K : Int) * (M : Int) * ((p - 1) / 2) ≤ 3600 * 48 := Int.mul_le_mul (by omega) (by omega) (by omega) (by omega)
      have e2 : 0 ≤ (K : Int) * (M : Int) * ((p - 1) / 2) := Int.mul_nonneg (by omega) (by omega)
      omega
    have sb := sgn_bd ((K : Int) * (M : Int) * ((p - 1) / 2))
    have HSU : Hid (∀ W : World, Calls Try.prog 66 #[.int .i64 p, .int .i64 U] W fun e w' => e = .returned (.int .i64 (sqF p U)) ∧ W = w') := hid fun W => i_sq p U W pb (by omega)
    have HSV : Hid (∀ W : World, Calls Try.prog 66 #[.int .i64 p, .int .i64 V] W fun e w' => e = .returned (.int .i64 (sqF p V)) ∧ W = w') := hid fun W => i_sq p V W pb (by omega)
    have HO : Hid (hilO p K M U V = sgn ((K : Int) * (M : Int) * ((p - 1) / 2)) * (if M % 2 = 1 then sqF p U else 1) * (if K % 2 = 1 then sqF p V else 1)) := hid rfl
    have HS1 : Hid (∀ W : World, Calls Try.prog 76 #[.int .i64 ((K : Int) * (M : Int) * ((p - 1) / 2))] W fun e w' => e = .returned (.int .i64 (sgn ((K : Int) * (M : Int) * ((p - 1) / 2)))) ∧ W = w') := hid fun W => i_signOf _ W
    have sU := sqF_bd p U
    have sV := sqF_bd p V
    obtain ⟨S, hS⟩ : ∃ S, S = sgn ((K : Int) * (M : Int) * ((p - 1) / 2)) := ⟨_, rfl⟩
    obtain ⟨SU, hSU⟩ : ∃ S, S = sqF p U := ⟨_, rfl⟩
    obtain ⟨SV, hSV⟩ : ∃ S, S = sqF p V := ⟨_, rfl⟩
    rw [← hS] at HS1 HO sb
    rw [← hSU] at HSU HO sU
    rw [← hSV] at HSV HO sV
    have m1 : -1 ≤ S * SU ∧ S * SU ≤ 1 := jac_mul_bd (by omega) (by omega)
    have m2 : -1 ≤ S * SV ∧ S * SV ≤ 1 := jac_mul_bd (by omega) (by omega)
    have m3 : -1 ≤ S * SU * SV ∧ S * SU * SV ≤ 1 := jac_mul_bd m1 (by omega)
    have sb2 : -1 ≤ S ∧ S ≤ 1 := by omega
    have sU2 : -1 ≤ SU ∧ SU ≤ 1 := by omega
    have sV2 : -1 ≤ SV ∧ SV ≤ 1 := by omega
    have tm : (M : Int).tmod 2 = (M : Int) % 2 := Int.tmod_eq_emod_of_nonneg (by omega)
    have tk : (K : Int).tmod 2 = (K : Int) % 2 := Int.tmod_eq_emod_of_nonneg (by omega)
    clear hS hSU hSV h2 sb sU sV
    by_cases hm : M % 2 = 1
    · have hm' : ((M : Int) % 2 == 1) = true := by rw [beq_iff_eq]; omega
      by_cases hk : K % 2 = 1
      · have hk' : ((K : Int) % 2 == 1) = true := by rw [beq_iff_eq]; omega
        have HR : Hid (hilO p K M U V = S * SU * SV) := hid (by rw [HO.out, if_pos hm, if_pos hk])
        clear hm hk
        go_enter Try.func73, Try.ntmps73
        go_wp2_with fail
        refine pur (HVA.out _) ?_
        go_wp2_with fail
        refine pur (HVB.out _) ?_
        go_wp2_with fail
        refine wp_region_calm (by kernel_rfl) (by kernel_rfl) ?_
        repeat (go_big_quiet_step (first | (go_at_call 64; with_reducible exact calmp (HPA.out _)) | (go_at_call 64; with_reducible exact calmp (HPB.out _))))
        refine wpQuiet_nil ?_; intro uq zq; try simp at zq
        go_wp2_with fail
        refine pur (HS1.out _) ?_
        go_wp2_with fail
        refine pur (HSU.out _) ?_
        go_wp2_with fail
        refine pur (HSV.out _) ?_
        go_wp2_with fail
        go_ret
        exact ⟨by rw [HR.out]; rfl, (by refine Ext.bel ?_; repeat (with_reducible first | exact Ext.refl _ | apply Ext.alloc | apply Ext.aft | apply Ext.drew | apply Ext.drewN | apply Ext.setCell | exact Nat.le_add_right _ _ | exact Nat.le_refl _ | (simp; done) | omega))⟩
      · have hk' : ((K : Int) % 2 == 1) = false := by rw [beq_eq_false_iff_ne]; omega
        have HR : Hid (hilO p K M U V = S * SU) := hid (by rw [HO.out, if_pos hm, if_neg hk, Int.mul_one])
        clear hm hk
        go_enter Try.func73, Try.ntmps73
        go_wp2_with fail
        refine pur (HVA.out _) ?_
        go_wp2_with fail
        refine pur (HVB.out _) ?_
        go_wp2_with fail
        refine wp_region_calm (by kernel_rfl) (by kernel_rfl) ?_
        repeat (go_big_quiet_step (first | (go_at_call 64; with_reducible exact calmp (HPA.out _)) | (go_at_call 64; with_reducible exact calmp (HPB.out _))))
        refine wpQuiet_nil ?_; intro uq zq; try simp at zq
        go_wp2_with fail
        refine pur (HS1.out _) ?_
        go_wp2_with fail
        refine pur (HSU.out _) ?_
        go_wp2_with fail
        go_ret
        exact ⟨by rw [HR.out]; rfl, (by refine Ext.bel ?_; repeat (with_reducible first | exact Ext.refl _ | apply Ext.alloc | apply Ext.aft | apply Ext.drew | apply Ext.drewN | apply Ext.setCell | exact Nat.le_add_right _ _ | exact Nat.le_refl _ | (simp; done) | omega))⟩
    · have hm' : ((M : Int) % 2 == 1) = false := by rw [beq_eq_false_iff_ne]; omega
      by_cases hk : K % 2 = 1
      · have hk' : ((K : Int) % 2 == 1) = true := by rw [beq_iff_eq]; omega
        have HR : Hid (hilO p K M U V = S * SV) := hid (by rw [HO.out, if_neg hm, if_pos hk, Int.mul_one])
        clear hm hk
        go_enter Try.func73, Try.ntmps73
        go_wp2_with fail
        refine pur (HVA.out _) ?_
        go_wp2_with fail
        refine pur (HVB.out _) ?_
        go_wp2_with fail
        refine wp_region_calm (by kernel_rfl) (by kernel_rfl) ?_
        repeat (go_big_quiet_step (first | (go_at_call 64; with_reducible exact calmp (HPA.out _)) | (go_at_call 64; with_reducible exact calmp (HPB.out _))))
        refine wpQuiet_nil ?_; intro uq zq; try simp at zq
        go_wp2_with fail
        refine pur (HS1.out _) ?_
        go_wp2_with fail
        refine pur (HSV.out _) ?_
        go_wp2_with fail
        go_ret
        exact ⟨by rw [HR.out]; rfl, (by refine Ext.bel ?_; repeat (with_reducible first | exact Ext.refl _ | apply Ext.alloc | apply Ext.aft | apply Ext.drew | apply Ext.drewN | apply Ext.setCell | exact Nat.le_add_right _ _ | exact Nat.le_refl _ | (simp; done) | omega))⟩
      · have hk' : ((K : Int) % 2 == 1) = false := by rw [beq_eq_false_iff_ne]; omega
        have HR : Hid (hilO p K M U V = S) := hid (by rw [HO.out, if_neg hm, if_neg hk, Int.mul_one, Int.mul_one])
        clear hm hk
        go_enter Try.func73, Try.ntmps73
        go_wp2_with fail
        refine pur (HVA.out _) ?_
        go_wp2_with fail
        refine pur (HVB.out _) ?_
        go_wp2_with fail
        refine wp_region_calm (by kernel_rfl) (by kernel_rfl) ?_
        repeat (go_big_quiet_step (first | (go_at_call 64; with_reducible exact calmp (HPA.out _)) | (go_at_call 64; with_reducible exact calmp (HPB.out _))))
        refine wpQuiet_nil ?_; intro uq zq; try simp at zq
        go_wp2_with fail
        refine pur (HS1.out _) ?_
        go_wp2_with fail
        go_ret
        exact ⟨by rw [HR.out]; rfl, (by refine Ext.bel ?_; repeat (with_reducible first | exact Ext.refl _ | apply Ext.alloc | apply Ext.aft | apply Ext.drew | apply Ext.drewN | apply Ext.setCell | exact Nat.le_add_right _ _ | exact Nat.le_refl _ | (simp; done) | omega))⟩
end Go.Proofs.Ytdeehgcabnoclaa
