/- The bad primes: the program's text. (Printed by mkJH.py.) -/
import Derived.Test.YtdeehgcabnoclaaJG
import Derived.Test.YtdeehgcabnoclaaB3
namespace Go.Proofs.Ytdeehgcabnoclaa
open Go Go.RowKit

theorem primeB_small {k : Int} (h : primeB k = true) (_ : 2 ≤ k) (h3 : k ≤ 97) : smallP k = true := by rw [smallP_lo h3]; exact h

set_option maxRecDepth 20000 in
set_option maxHeartbeats 8000000 in
theorem i_badPrimes (a0 b0 : Int) (w : World) (ha : a0 ≠ 0 ∧ -1000000000000 ≤ a0 ∧ a0 ≤ 1000000000000) (hb : b0 ≠ 0 ∧ -1000000000000 ≤ b0 ∧ b0 ≤ 1000000000000) :
    Calls Try.prog 72 #[.int .i64 a0, .int .i64 b0] w fun e w' => ∃ (v : Value) (c : Int) (ps : List Int), e = .returned (.tuple #[v, .int .i64 c]) ∧ ownR w.heap.size w' v ps ∧ (∀ p ∈ ps, smallP p = true) ∧ ps.length ≤ 97 ∧ Below w.heap.size w w' := by
  obtain ⟨i0, hi, hz0, hz1, hz2⟩ := info_parts infoI
  have n1 : (inB a0 (-1000000000000) 1000000000000 && a0 != 0) = true := by simp [ha.1, inB_iff]; omega
  have n2 : (inB b0 (-1000000000000) 1000000000000 && b0 != 0) = true := by simp [hb.1, inB_iff]; omega
  have HA0 := hid ha.1
  have HB0 := hid hb.1
  have ha2 := ha.2
  have hb2 := hb.2
  clear ha hb
  go_enter Try.func72, Try.ntmps72
  go_wp2_with fail
  refine pur (i_isNonzero _ _) ?_
  rw [n1]
  go_wp2_with fail
  refine pur (i_isNonzero _ _) ?_
  rw [n2]
  clear n1 n2
  go_wp2_with fail
  go_loopw [0, 1, 6, 7] (fun av bv v pv wr => ∃ (a b : Int) (k : Nat) (ps : List Int) (uu : World), wr = aft w uu ∧ av = .int .i64 a ∧ bv = .int .i64 b ∧ pv = .int .i64 k ∧ 2 ≤ k ∧ k ≤ 98 ∧ Hid (a ≠ 0) ∧ (-1000000000000 ≤ a ∧ a ≤ 1000000000000) ∧ Hid (b ≠ 0) ∧ (-1000000000000 ≤ b ∧ b ≤ 1000000000000) ∧ Hid (∀ p ∈ ps, smallP p = true) ∧ ps.length + 2 ≤ k ∧ Hid (ownR w.heap.size wr v ps)) (fun _ _ _ pv _ => 98 - (intOf pv).toNat)
  case atStart => exact ⟨a0, b0, 2, [], w, (aft_of (Below.refl _ _)).symm, rfl, rfl, rfl, by omega, by omega, HA0, ha2, HB0, hb2, hid (by simp), by simp, hid (ownR.nil _ _)⟩
  case round =>
    obtain ⟨a, b, k, ps, uu, rfl, rfl, rfl, rfl, hk2, hk98, HA, hab, HB, hbb, HPS, hlen, HO⟩ := hrel
    have zs := size_aft w uu
    by_cases hk : (k : Int) ≤ 97
    case neg =>
      have hd : decide ((k : Int) ≤ 97) = false := by simpa using hk
      have hd2 : decide (k ≤ 97) = false := by simp; omega
      have hAb : -4000000000000000000 ≤ a ∧ a ≤ 4000000000000000000 := by omega
      have hBb : -4000000000000000000 ≤ b ∧ b ≤ 4000000000000000000 := by omega
      have HLn : ps.length ≤ 97 := by omega
      have HAa : Hid (∀ W : World, Calls Try.prog 75 #[.int .i64 a] W fun e w' => e = .returned (.int .i64 a.natAbs) ∧ W = w') := hid fun W => i_abs a W hAb
      have HBa : Hid (∀ W : World, Calls Try.prog 75 #[.int .i64 b] W fun e w' => e = .returned (.int .i64 b.natAbs) ∧ W = w') := hid fun W => i_abs b W hBb
      obtain ⟨A, hA⟩ : ∃ A, A = a.natAbs := ⟨_, rfl⟩
      obtain ⟨B, hB⟩ : ∃ B, B = b.natAbs := ⟨_, rfl⟩
      rw [← hA] at HAa
      rw [← hB] at HBa
      clear hA hB hk
      by_cases h1 : A = 1
      · subst h1
        by_cases h2 : B = 1
        · subst h2
          go_wp2_with fail
          refine pur (HAa.out _) ?_
          go_wp2_with fail
          refine pur (HBa.out _) ?_
          go_wp2_with fail
          go_ret2
          exact ⟨_, _, ps, rfl, HO.out, HPS.out, HLn, (by refine Ext.bel ?_; repeat (with_reducible first | exact Ext.refl _ | apply Ext.alloc | apply Ext.aft | apply Ext.drew | apply Ext.drewN | apply Ext.setCell | exact Nat.le_add_right _ _ | exact Nat.le_refl _ | (simp; done) | omega))⟩
        · have d1 : ((B : Int) == 1) = false := by rw [beq_eq_false_iff_ne]; omega
          have d2 : ((B : Int) != 1) = true := by rw [bne_iff_ne]; omega
          have d3 : (B == 1) = false := by rw [beq_eq_false_iff_ne]; exact h2
          have d4 : (B != 1) = true := by rw [bne_iff_ne]; exact h2
          clear h2
          go_wp2_with fail
          refine pur (HAa.out _) ?_
          go_wp2_with fail
          refine pur (HBa.out _) ?_
          go_wp2_with fail
          go_ret2
          exact ⟨_, _, [], rfl, ownR.nil _ _, by simp, by simp, (by refine Ext.bel ?_; repeat (with_reducible first | exact Ext.refl _ | apply Ext.alloc | apply Ext.aft | apply Ext.drew | apply Ext.drewN | apply Ext.setCell | exact Nat.le_add_right _ _ | exact Nat.le_refl _ | (simp; done) | omega))⟩
      · have d1 : ((A : Int) == 1) = false := by rw [beq_eq_false_iff_ne]; omega
        have d2 : ((A : Int) != 1) = true := by rw [bne_iff_ne]; omega
        have d3 : (A == 1) = false := by rw [beq_eq_false_iff_ne]; exact h1
        have d4 : (A != 1) = true := by rw [bne_iff_ne]; exact h1
        clear h1
        go_wp2_with fail
        refine pur (HAa.out _) ?_
        go_wp2_with fail
        go_ret2
        exact ⟨_, _, [], rfl, ownR.nil _ _, by simp, by simp, (by refine Ext.bel ?_; repeat (with_reducible first | exact Ext.refl _ | apply Ext.alloc | apply Ext.aft | apply Ext.drew | apply Ext.drewN | apply Ext.setCell | exact Nat.le_add_right _ _ | exact Nat.le_refl _ | (simp; done) | omega))⟩
    have hd : decide ((k : Int) ≤ 97) = true := by simpa using hk
    have hd2 : decide (k ≤ 97) = true := by simp; omega
    have q1 : (k : Int) ≠ 0 := by omega
    have q0 : ((k : Int) == 0) = false := by rw [beq_eq_false_iff_ne]; exact q1
    by_cases hpr : primeB (k : Int) = true
    case neg =>
      have hpf : primeB (k : Int) = false := by simpa using hpr
      have HIP : Hid (∀ W : World, Calls Try.prog 68 #[.int .i64 (k : Int)] W fun e w' => e = .returned (.bool false) ∧ W = w') := hid fun W => by
        have := i_IsPrime (k : Int) W
        rw [hpf] at this
        exact this
      clear hpr hpf
      go_wp2_with (go_at_call 68; refine pur (HIP.out _) ?_)
      go_roundw
      case rel => exact ⟨a, b, k + 1, ps, uu, rfl, rfl, rfl, by go_num, by omega, by omega, HA, hab, HB, hbb, HPS, by omega, HO⟩
      case measure => simp only [intOf]; omega
    have HS := hid (primeB_small hpr (by omega) hk)
    have HIP : Hid (∀ W : World, Calls Try.prog 68 #[.int .i64 (k : Int)] W fun e w' => e = .returned (.bool true) ∧ W = w') := hid fun W => by
      have := i_IsPrime (k : Int) W
      rw [hpr] at this
      exact this
    clear hpr
    have ma : (a.tmod (k : Int) == 0) = (a % (k : Int) == 0) := by
      by_cases h : a % (k : Int) = 0
      · have h2 := tmod_zero_iff.2 h
        rw [h, h2]
      · have h2 : ¬ a.tmod (k : Int) = 0 := fun h' => h (tmod_zero_iff.1 h')
        rw [beq_eq_false_iff_ne.2 h, beq_eq_false_iff_ne.2 h2]
    have mb : (b.tmod (k : Int) == 0) = (b % (k : Int) == 0) := by
      by_cases h : b % (k : Int) = 0
      · have h2 := tmod_zero_iff.2 h
        rw [h, h2]
      · have h2 : ¬ b.tmod (k : Int) = 0 := fun h' => h (tmod_zero_iff.1 h')
        rw [beq_eq_false_iff_ne.2 h, beq_eq_false_iff_ne.2 h2]
    -- valuations and powers
    have va := vl_pow_bd (show 2 ≤ (k : Int) by omega) HA.out
    have vb := vl_pow_bd (show 2 ≤ (k : Int) by omega) HB.out
    have ka := vl_sm (show 2 ≤ (k : Int) by omega) HA.out hab
    have kb := vl_sm (show 2 ≤ (k : Int) by omega) HB.out hbb
    have HVA : Hid (∀ W : World, Calls Try.prog 63 #[.int .i64 a, .int .i64 (k : Int)] W fun e w' => e = .returned (.int .i64 (vl a k)) ∧ W = w') := hid fun W => i_val a k W (by omega) (by omega) HA.out (by omega)
    have HVB : Hid (∀ W : World, Calls Try.prog 63 #[.int .i64 b, .int .i64 (k : Int)] W fun e w' => e = .returned (.int .i64 (vl b k)) ∧ W = w') := hid fun W => i_val b k W (by omega) (by omega) HB.out (by omega)
    have HPA : Hid (∀ W : World, Calls Try.prog 64 #[.int .i64 (k : Int), .int .i64 (vl a k)] W fun e w' => e = .returned (.int .i64 ((k : Int) ^ vl a k)) ∧ W = w') := hid fun W => i_power k (vl a k) W (by omega) (by omega) (by rw [Int.toNat_natCast]; omega)
    have HPB : Hid (∀ W : World, Calls Try.prog 64 #[.int .i64 (k : Int), .int .i64 (vl b k)] W fun e w' => e = .returned (.int .i64 ((k : Int) ^ vl b k)) ∧ W = w') := hid fun W => i_power k (vl b k) W (by omega) (by omega) (by rw [Int.toNat_natCast]; omega)
    have pa := pow_pos' (show 1 ≤ (k : Int) by omega) (vl a k)
    have pb' := pow_pos' (show 1 ≤ (k : Int) by omega) (vl b k)
    obtain ⟨KA, hKA⟩ : ∃ K, K = vl a k := ⟨_, rfl⟩
    obtain ⟨KB, hKB⟩ : ∃ M, M = vl b k := ⟨_, rfl⟩
    obtain ⟨PA, hPA⟩ : ∃ x, x = (k : Int) ^ vl a k := ⟨_, rfl⟩
    obtain ⟨PB, hPB⟩ : ∃ x, x = (k : Int) ^ vl b k := ⟨_, rfl⟩
    rw [← hPA] at HPA va pa
    rw [← hPB] at HPB vb pb'
    rw [← hKA] at HVA HPA ka
    rw [← hKB] at HVB HPB kb
    clear hKA hKB hPA hPB
    have ta : a.tdiv PA = a / PA := va.2.2.1
    have tb : b.tdiv PB = b / PB := vb.2.2.1
    have HUA : Hid (a / PA ≠ 0) := hid va.2.2.2.1
    have HUB : Hid (b / PB ≠ 0) := hid vb.2.2.2.1
    obtain ⟨U, hU⟩ : ∃ U, U = a / PA := ⟨_, rfl⟩
    obtain ⟨V, hV⟩ : ∃ V, V = b / PB := ⟨_, rfl⟩
    rw [← hU] at ta va HUA
    rw [← hV] at tb vb HUB
    have Ub : -1000000000000 ≤ U ∧ U ≤ 1000000000000 := by omega
    have Vb : -1000000000000 ≤ V ∧ V ≤ 1000000000000 := by omega
    have qa : (PA == 0) = false := by rw [beq_eq_false_iff_ne]; omega
    have qb : (PB == 0) = false := by rw [beq_eq_false_iff_ne]; omega
    have qa' : PA ≠ 0 := by omega
    have qb' : PB ≠ 0 := by omega
    clear va vb hU hV
    have hPS2 : Hid (∀ p ∈ ps ++ [(k : Int)], smallP p = true) := hid fun p hp => by
      rcases List.mem_append.1 hp with h | h
      · exact HPS.out p h
      · simp at h; subst h; exact HS.out
    have hown := HO.out
    by_cases hk22 : k = 2
    · have e2 : ((k : Int) == 2) = true := by rw [beq_iff_eq]; omega
      have e2n : (k == 2) = true := by rw [beq_iff_eq]; exact hk22
      clear hk22 ma mb
      go_wp2_with (first | (go_at_call 68; refine pur (HIP.out _) ?_) | (at_builtin; refine wpList_append_own _ rfl _ _ 44 rfl (w.heap.size) 2 i0 (.int .i64 0) 1 8 Try.underlying44 hi hz0 hz1 hz2 rfl (by decide) _ _ _ rfl ((hown).alloc _) ⟨_, 0, none⟩ 1 1 [.int .i64 (k : Int)] rfl rfl ?cx1 ?cx2 ?cx3 ?cx4 ?cx5 ?_))
      first | (case cx1 => (intro j u hj; match j with | 0 => (simp at hj; subst hj; simp [Addr.add, alloc_cell]) | n + 1 => simp at hj)) | skip
      case cx2 => first | rfl | (intro u hu; simp at hu; subst hu; rfl)
      case cx3 => unfold maxLen; omega
      case cx4 => omega
      case cx5 => first | omega | (simp; omega)
      intro v' w1 hown' hgrow _
      obtain ⟨u', rfl⟩ := grown_aft (W := w) (by repeat (with_reducible first | exact Ext.refl _ | apply Ext.alloc | apply Ext.aft | apply Ext.drew | apply Ext.drewN | apply Ext.setCell | exact Nat.le_add_right _ _ | exact Nat.le_refl _ | (simp; done) | omega)) hgrow (own_row_ge hown)
      have HO' := hid (ownR.snoc hown')
      clear hown' hgrow hown
      go_wp2_with fail
      refine wp_region_calm (by kernel_rfl) (by kernel_rfl) ?_
      repeat (go_big_quiet_step (first | (go_at_call 63; with_reducible exact calmp (HVA.out _)) | (go_at_call 63; with_reducible exact calmp (HVB.out _)) | (go_at_call 64; with_reducible exact calmp (HPA.out _)) | (go_at_call 64; with_reducible exact calmp (HPB.out _))))
      refine wpQuiet_nil ?_; intro uq zq; try simp at zq
      go_wp2_with fail
      go_roundw
      case rel => exact ⟨U, V, k + 1, ps ++ [(k : Int)], _, (aft_of ((below_aft w u').trans ((below_aft _ _).mono (size_aft w u')))).symm, by go_num, by go_num, by go_num, by omega, by omega, HUA, Ub, HUB, Vb, hPS2, by rw [List.length_append]; simp; omega, hid (HO'.out.aft _)⟩
      case measure => simp only [intOf]; omega
    have e2 : ((k : Int) == 2) = false := by rw [beq_eq_false_iff_ne]; omega
    have e2n : (k == 2) = false := by rw [beq_eq_false_iff_ne]; exact hk22
    clear hk22
    by_cases hma : a % (k : Int) = 0
    · rw [beq_iff_eq.2 hma] at ma
      clear hma mb
      go_wp2_with (first | (go_at_call 68; refine pur (HIP.out _) ?_) | (at_builtin; refine wpList_append_own _ rfl _ _ 44 rfl (w.heap.size) 2 i0 (.int .i64 0) 1 8 Try.underlying44 hi hz0 hz1 hz2 rfl (by decide) _ _ _ rfl ((hown).alloc _) ⟨_, 0, none⟩ 1 1 [.int .i64 (k : Int)] rfl rfl ?cy1 ?cy2 ?cy3 ?cy4 ?cy5 ?_))
      first | (case cy1 => (intro j u hj; match j with | 0 => (simp at hj; subst hj; simp [Addr.add, alloc_cell]) | n + 1 => simp at hj)) | skip
      case cy2 => first | rfl | (intro u hu; simp at hu; subst hu; rfl)
      case cy3 => unfold maxLen; omega
      case cy4 => omega
      case cy5 => first | omega | (simp; omega)
      intro v' w1 hown' hgrow _
      obtain ⟨u', rfl⟩ := grown_aft (W := w) (by repeat (with_reducible first | exact Ext.refl _ | apply Ext.alloc | apply Ext.aft | apply Ext.drew | apply Ext.drewN | apply Ext.setCell | exact Nat.le_add_right _ _ | exact Nat.le_refl _ | (simp; done) | omega)) hgrow (own_row_ge hown)
      have HO' := hid (ownR.snoc hown')
      clear hown' hgrow hown
      go_wp2_with fail
      refine wp_region_calm (by kernel_rfl) (by kernel_rfl) ?_
      repeat (go_big_quiet_step (first | (go_at_call 63; with_reducible exact calmp (HVA.out _)) | (go_at_call 63; with_reducible exact calmp (HVB.out _)) | (go_at_call 64; with_reducible exact calmp (HPA.out _)) | (go_at_call 64; with_reducible exact calmp (HPB.out _))))
      refine wpQuiet_nil ?_; intro uq zq; try simp at zq
      go_wp2_with fail
      go_roundw
      case rel => exact ⟨U, V, k + 1, ps ++ [(k : Int)], _, (aft_of ((below_aft w u').trans ((below_aft _ _).mono (size_aft w u')))).symm, by go_num, by go_num, by go_num, by omega, by omega, HUA, Ub, HUB, Vb, hPS2, by rw [List.length_append]; simp; omega, hid (HO'.out.aft _)⟩
      case measure => simp only [intOf]; omega
    rw [beq_eq_false_iff_ne.2 hma] at ma
    clear hma
    by_cases hmb : b % (k : Int) = 0
    · rw [beq_iff_eq.2 hmb] at mb
      clear hmb
      go_wp2_with (first | (go_at_call 68; refine pur (HIP.out _) ?_) | (at_builtin; refine wpList_append_own _ rfl _ _ 44 rfl (w.heap.size) 2 i0 (.int .i64 0) 1 8 Try.underlying44 hi hz0 hz1 hz2 rfl (by decide) _ _ _ rfl ((hown).alloc _) ⟨_, 0, none⟩ 1 1 [.int .i64 (k : Int)] rfl rfl ?cz1 ?cz2 ?cz3 ?cz4 ?cz5 ?_))
      first | (case cz1 => (intro j u hj; match j with | 0 => (simp at hj; subst hj; simp [Addr.add, alloc_cell]) | n + 1 => simp at hj)) | skip
      case cz2 => first | rfl | (intro u hu; simp at hu; subst hu; rfl)
      case cz3 => unfold maxLen; omega
      case cz4 => omega
      case cz5 => first | omega | (simp; omega)
      intro v' w1 hown' hgrow _
      obtain ⟨u', rfl⟩ := grown_aft (W := w) (by repeat (with_reducible first | exact Ext.refl _ | apply Ext.alloc | apply Ext.aft | apply Ext.drew | apply Ext.drewN | apply Ext.setCell | exact Nat.le_add_right _ _ | exact Nat.le_refl _ | (simp; done) | omega)) hgrow (own_row_ge hown)
      have HO' := hid (ownR.snoc hown')
      clear hown' hgrow hown
      go_wp2_with fail
      refine wp_region_calm (by kernel_rfl) (by kernel_rfl) ?_
      repeat (go_big_quiet_step (first | (go_at_call 63; with_reducible exact calmp (HVA.out _)) | (go_at_call 63; with_reducible exact calmp (HVB.out _)) | (go_at_call 64; with_reducible exact calmp (HPA.out _)) | (go_at_call 64; with_reducible exact calmp (HPB.out _))))
      refine wpQuiet_nil ?_; intro uq zq; try simp at zq
      go_wp2_with fail
      go_roundw
      case rel => exact ⟨U, V, k + 1, ps ++ [(k : Int)], _, (aft_of ((below_aft w u').trans ((below_aft _ _).mono (size_aft w u')))).symm, by go_num, by go_num, by go_num, by omega, by omega, HUA, Ub, HUB, Vb, hPS2, by rw [List.length_append]; simp; omega, hid (HO'.out.aft _)⟩
      case measure => simp only [intOf]; omega
    rw [beq_eq_false_iff_ne.2 hmb] at mb
    clear hmb
    go_wp2_with (go_at_call 68; refine pur (HIP.out _) ?_)
    go_roundw
    case rel => exact ⟨a, b, k + 1, ps, uu, rfl, rfl, rfl, by go_num, by omega, by omega, HA, hab, HB, hbb, HPS, by omega, HO⟩
    case measure => simp only [intOf]; omega
end Go.Proofs.Ytdeehgcabnoclaa
