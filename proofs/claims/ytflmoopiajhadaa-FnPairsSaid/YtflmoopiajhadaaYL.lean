/- Pairs: the law. (Printed by mkYL.py.) -/
import Derived.Test.YtflmoopiajhadaaYJ
import Derived.Test.YtflmoopiajhadaaYK
import Derived.Test.YtflmoopiajhadaaMA
import Derived.Test.YtflmoopiajhadaaT30
import Derived.Test.YtflmoopiajhadaaT12
namespace Go.Proofs.Ytflmoopiajhadaa
open Go Go.RowKit

set_option maxHeartbeats 1000000 in
theorem l_like (r1 r2 : Value) (xs : List Int) (w : World) (h : rdI w r1 xs) (h' : rdI w r2 xs) :
    Calls Try.prog 10 #[r1, r2] w fun e w' => e = .returned (.bool true) ∧ Below w.heap.size w w' := by
  obtain ⟨a, cap, rfl, hm, hc⟩ := h
  obtain ⟨a', cap', rfl, hm', hc'⟩ := h'
  have Hc := hid hc
  have Hc' := hid hc'
  unfold maxLen at hm
  clear hc hc' hm'
  go_enter Try.func10, Try.ntmps10
  go_wp2_with fail
  go_loopw [5] (fun i wr => ∃ (k : Nat) (uu : World), wr = aft w uu ∧ k ≤ xs.length ∧ i = .int .i64 k) (fun i _ => xs.length - (intOf i).toNat)
  case atStart => exact ⟨0, w, (aft_of (Below.refl _ _)).symm, by omega, rfl⟩
  case round =>
    obtain ⟨k, uu, rfl, hk, rfl⟩ := hrel
    by_cases hlt : k < xs.length
    · obtain ⟨b, o, rfl, hcell⟩ := Hc.out (by intro e; subst e; simp at hlt)
      obtain ⟨b', o', rfl, hcell'⟩ := Hc'.out (by intro e; subst e; simp at hlt)
      have h1 := hcell k hlt
      have h2 := hcell' k hlt
      have h3 := World.block_lt_of_cell? w _ h1
      have h4 := World.block_lt_of_cell? w _ h2
      obtain ⟨x, hx⟩ : ∃ x, x = xs[k] := ⟨_, rfl⟩
      rw [← hx] at h1 h2
      have hz : ((k : Int) : Int) < (xs.length : Int) := by omega
      have hz0 : (0 : Int) ≤ (k : Int) := by omega
      have zs := size_aft w uu
      clear hx hcell hcell'
      go_wp2_with fail
      refine wp_region_calm (by kernel_rfl) (by kernel_rfl) ?_
      repeat (go_big_quiet_step (fail))
      refine wpQuiet_nil ?_; intro uq zq; try simp at zq
      go_wp2_with fail
      go_roundw
      case rel => exact ⟨k + 1, _, (aft_of ((below_aft w uu).trans ((below_aft _ _).mono (size_aft w uu)))).symm, by omega, by go_num⟩
      case measure => simp [intOf]; omega
    · obtain rfl : k = xs.length := by omega
      go_wp2
      go_ret
      exact ⟨rfl, (by refine Ext.bel ?_; repeat (with_reducible first | exact Ext.refl _ | apply Ext.alloc | apply Ext.aft | apply Ext.drew | apply Ext.drewN | apply Ext.setCell | exact Nat.le_add_right _ _ | exact Nat.le_refl _ | (simp; done) | omega))⟩
set_option maxRecDepth 20000 in
set_option maxHeartbeats 32000000 in
theorem law_Pairs (a : Option Addr) (len cap : Nat) (w : World) (h : rdB w.heap.size w a len) :
    Calls Try.prog 3 #[.slice a len cap] w fun e w' => e = .returned (.bool true) ∧ Below w.heap.size w w' := by
  by_cases hl : len ≤ 4096
  case neg =>
    have hd : decide ((4096 : Int) < (len : Int)) = true := by simp; omega
    go_enter Try.func3, Try.ntmps3
    go_wp2_with (go_at_call 4; refine pur (l_big _ _ _ _) ?_)
    go_ret
    exact ⟨rfl, (by refine Ext.bel ?_; repeat (with_reducible first | exact Ext.refl _ | apply Ext.alloc | apply Ext.aft | apply Ext.drew | apply Ext.drewN | apply Ext.setCell | exact Nat.le_add_right _ _ | exact Nat.le_refl _ | (simp; done) | omega))⟩
  have hd : decide ((4096 : Int) < (len : Int)) = false := by simp; omega
  have H := hid h
  clear h
  go_enter Try.func3, Try.ntmps3
  go_wp2_with (go_at_call 4; refine pur (l_big _ _ _ _) ?_)
  have hE_0 : Hid (Ext w.heap.size w w) := hid (Ext.refl w)
  refine (s_DrawLiftPair w.heap.size a len cap _ (H.out.ext hE_0.out) hl hE_0.out.2).mono ?_
  rintro e W1 ⟨p1, n1, s1, s2, s3, F, G, K, rfl, ⟨ho1, ho2, ho3⟩, _, hb⟩
  have hE_1 : Hid (Ext w.heap.size w W1) := hid (hE_0.out.below hb)
  clear hE_0
  clear hb
  obtain ⟨aF, cF, hsh, hzmF, _⟩ := ho1.rd
  subst hsh
  clear hzmF
  have rF_1 : Hid (rdI W1 (.slice aF F.length cF) F) := hid (ho1.rd)
  obtain ⟨aG, cG, hsh, hzmG, _⟩ := ho2.rd
  subst hsh
  clear hzmG
  have rG_1 : Hid (rdI W1 (.slice aG G.length cG) G) := hid (ho2.rd)
  obtain ⟨aK, cK, hsh, hzmK, _⟩ := ho3.rd
  subst hsh
  clear hzmK
  have rK_1 : Hid (rdI W1 (.slice aK K.length cK) K) := hid (ho3.rd)
  clear ho1 ho2 ho3
  obtain ⟨A, D, C1, hLq⟩ : ∃ a b c, liftPairF p1 n1 F G K = (a, b, c) := ⟨_, _, _, rfl⟩
  obtain ⟨ok, C2, hAq⟩ : ∃ a b, arePairF p1 n1 F G K = (a, b) := ⟨_, _, rfl⟩
  have LI : Hid (∀ W, rdI W (.slice aF F.length cF) F → rdI W (.slice aG G.length cG) G → rdI W (.slice aK K.length cK) K → Calls Try.prog 6 #[.agg #[.int .i64 p1, .int .i64 n1], (.slice aF F.length cF), (.slice aG G.length cG), (.slice aK K.length cK)] W fun e w' => ∃ v1 v2, e = .returned (.tuple #[v1, v2, .int .i64 C1]) ∧ ownR W.heap.size w' v1 A ∧ ownR W.heap.size w' v2 D ∧ Below W.heap.size W w') := hid fun W q1 q2 q3 => by have := i_LiftPair p1 n1 _ _ _ F G K W q1 q2 q3; rw [hLq] at this; exact this.mono fun e w' ⟨v1, v2, k1, k2, k3, _, _, k4⟩ => ⟨v1, v2, k1, k2, k3, k4⟩
  have LS : Hid (∀ W, rdI W (.slice aF F.length cF) F → rdI W (.slice aG G.length cG) G → rdI W (.slice aK K.length cK) K → Calls Try.prog 7 #[.agg #[.int .i64 p1, .int .i64 n1], (.slice aF F.length cF), (.slice aG G.length cG), (.slice aK K.length cK)] W fun e w' => ∃ v1 v2, e = .returned (.tuple #[v1, v2, .int .i64 C1]) ∧ ownR W.heap.size w' v1 A ∧ ownR W.heap.size w' v2 D ∧ Below W.heap.size W w') := hid fun W q1 q2 q3 => by have := s_LiftPair p1 n1 _ _ _ F G K W q1 q2 q3; rw [hLq] at this; exact this.mono fun e w' ⟨v1, v2, k1, k2, k3, _, _, k4⟩ => ⟨v1, v2, k1, k2, k3, k4⟩
  have AI : Hid (∀ W, rdI W (.slice aF F.length cF) F → rdI W (.slice aG G.length cG) G → rdI W (.slice aK K.length cK) K → Calls Try.prog 8 #[.agg #[.int .i64 p1, .int .i64 n1], (.slice aF F.length cF), (.slice aG G.length cG), (.slice aK K.length cK)] W fun e w' => e = .returned (.tuple #[.bool ok, .int .i64 C2]) ∧ Below W.heap.size W w') := hid fun W q1 q2 q3 => by have := i_ArePair p1 n1 _ _ _ F G K W q1 q2 q3; rw [hAq] at this; exact this
  have AS : Hid (∀ W, rdI W (.slice aF F.length cF) F → rdI W (.slice aG G.length cG) G → rdI W (.slice aK K.length cK) K → Calls Try.prog 9 #[.agg #[.int .i64 p1, .int .i64 n1], (.slice aF F.length cF), (.slice aG G.length cG), (.slice aK K.length cK)] W fun e w' => e = .returned (.tuple #[.bool ok, .int .i64 C2]) ∧ Below W.heap.size W w') := hid fun W q1 q2 q3 => by have := s_ArePair p1 n1 _ _ _ F G K W q1 q2 q3; rw [hAq] at this; exact this
  have HC : Hid (ok = decide (C1 = 0) ∧ (C1 = 0 → C2 = 0)) := hid (by have := lift_codes p1 n1 F G K; rw [hLq, hAq] at this; exact this)
  have HLAW : Hid (C1 = 0 → multiplyInRingF p1 n1 A D = (F, 0) ∧ imgF p1 n1 A = (G, 0) ∧ imgF p1 n1 D = (K, 0)) := hid fun e => by
    have := pair_law (p := p1) (n := n1) (f := F) (g := G) (h := K) (by rw [hLq]; exact e)
    rw [hLq] at this
    exact this
  clear hLq hAq
  go_wp2_with fail
  obtain ⟨W2, hW2⟩ : ∃ X, X = W1.alloc (Obj.cells #[Value.int .i64 p1, .int .i64 n1] 25) := ⟨_, rfl⟩
  obtain ⟨kR, hkR⟩ : ∃ k, k = W1.heap.size := ⟨_, rfl⟩
  have hba : Below W1.heap.size W1 W2 := by rw [hW2]; exact (Below.refl _ _).alloc (Nat.le_refl _) _
  have cn : ∀ o, W2.cell? ⟨kR, o, none⟩ = #[Value.int .i64 p1, .int .i64 n1][o]? := fun o => by rw [hW2, hkR, alloc_cell, if_pos rfl]
  have ln : kR < W2.heap.size := by rw [hW2, hkR]; simp
  rw [← hW2, ← hkR]
  clear hW2 hkR
  have hE_2 : Hid (Ext w.heap.size w W2) := hid (hE_1.out.below hba)
  have rF_2 : Hid (rdI W2 (.slice aF F.length cF) F) := hid (rF_1.out.below hba)
  have rG_2 : Hid (rdI W2 (.slice aG G.length cG) G) := hid (rG_1.out.below hba)
  have rK_2 : Hid (rdI W2 (.slice aK K.length cK) K) := hid (rK_1.out.below hba)
  clear hE_1 rF_1 rG_1 rK_1
  have R_2 := cn
  have lR_2 := ln
  clear cn ln hba
  refine (LI.out _ (rF_2.out) (rG_2.out) (rK_2.out)).mono ?_
  rintro e W3 ⟨v1, v2, rfl, ho1, ho2, hb⟩
  have hE_3 : Hid (Ext w.heap.size w W3) := hid (hE_2.out.below hb)
  have rF_3 : Hid (rdI W3 (.slice aF F.length cF) F) := hid (rF_2.out.below hb)
  have rG_3 : Hid (rdI W3 (.slice aG G.length cG) G) := hid (rG_2.out.below hb)
  have rK_3 : Hid (rdI W3 (.slice aK K.length cK) K) := hid (rK_2.out.below hb)
  have R_3 : ∀ o, W3.cell? ⟨kR, o, none⟩ = #[Value.int .i64 p1, .int .i64 n1][o]? := fun o => (hb.cell (p := ⟨kR, o, none⟩) lR_2).trans (R_2 o)
  have lR_3 : kR < W3.heap.size := Nat.lt_of_lt_of_le lR_2 hb.size
  clear hE_2 rF_2 rG_2 rK_2 R_2 lR_2
  clear hb
  obtain ⟨aA, cA, hsh, hzmA, _⟩ := ho1.rd
  subst hsh
  clear hzmA
  have rA_3 : Hid (rdI W3 (.slice aA A.length cA) A) := hid (ho1.rd)
  obtain ⟨aD, cD, hsh, hzmD, _⟩ := ho2.rd
  subst hsh
  clear hzmD
  have rD_3 : Hid (rdI W3 (.slice aD D.length cD) D) := hid (ho2.rd)
  clear ho1 ho2
  go_wp2_with fail
  refine (LS.out _ (rF_3.out) (rG_3.out) (rK_3.out)).mono ?_
  rintro e W4 ⟨v1, v2, rfl, ho1, ho2, hb⟩
  have hE_4 : Hid (Ext w.heap.size w W4) := hid (hE_3.out.below hb)
  have rF_4 : Hid (rdI W4 (.slice aF F.length cF) F) := hid (rF_3.out.below hb)
  have rG_4 : Hid (rdI W4 (.slice aG G.length cG) G) := hid (rG_3.out.below hb)
  have rK_4 : Hid (rdI W4 (.slice aK K.length cK) K) := hid (rK_3.out.below hb)
  have R_4 : ∀ o, W4.cell? ⟨kR, o, none⟩ = #[Value.int .i64 p1, .int .i64 n1][o]? := fun o => (hb.cell (p := ⟨kR, o, none⟩) lR_3).trans (R_3 o)
  have lR_4 : kR < W4.heap.size := Nat.lt_of_lt_of_le lR_3 hb.size
  have rA_4 : Hid (rdI W4 (.slice aA A.length cA) A) := hid (rA_3.out.below hb)
  have rD_4 : Hid (rdI W4 (.slice aD D.length cD) D) := hid (rD_3.out.below hb)
  clear hE_3 rF_3 rG_3 rK_3 R_3 lR_3 rA_3 rD_3
  clear hb
  obtain ⟨aA2, cA2, hsh, hzmA2, _⟩ := ho1.rd
  subst hsh
  clear hzmA2
  have rA2_4 : Hid (rdI W4 (.slice aA2 A.length cA2) A) := hid (ho1.rd)
  obtain ⟨aD2, cD2, hsh, hzmD2, _⟩ := ho2.rd
  subst hsh
  clear hzmD2
  have rD2_4 : Hid (rdI W4 (.slice aD2 D.length cD2) D) := hid (ho2.rd)
  clear ho1 ho2
  go_wp2_with fail
  clear LI LS
  refine (AI.out _ (rF_4.out) (rG_4.out) (rK_4.out)).mono ?_
  rintro e W5 ⟨rfl, hb⟩
  have hE_5 : Hid (Ext w.heap.size w W5) := hid (hE_4.out.below hb)
  have rF_5 : Hid (rdI W5 (.slice aF F.length cF) F) := hid (rF_4.out.below hb)
  have rG_5 : Hid (rdI W5 (.slice aG G.length cG) G) := hid (rG_4.out.below hb)
  have rK_5 : Hid (rdI W5 (.slice aK K.length cK) K) := hid (rK_4.out.below hb)
  have R_5 : ∀ o, W5.cell? ⟨kR, o, none⟩ = #[Value.int .i64 p1, .int .i64 n1][o]? := fun o => (hb.cell (p := ⟨kR, o, none⟩) lR_4).trans (R_4 o)
  have lR_5 : kR < W5.heap.size := Nat.lt_of_lt_of_le lR_4 hb.size
  have rA_5 : Hid (rdI W5 (.slice aA A.length cA) A) := hid (rA_4.out.below hb)
  have rD_5 : Hid (rdI W5 (.slice aD D.length cD) D) := hid (rD_4.out.below hb)
  have rA2_5 : Hid (rdI W5 (.slice aA2 A.length cA2) A) := hid (rA2_4.out.below hb)
  have rD2_5 : Hid (rdI W5 (.slice aD2 D.length cD2) D) := hid (rD2_4.out.below hb)
  clear hE_4 rF_4 rG_4 rK_4 R_4 lR_4 rA_4 rD_4 rA2_4 rD2_4
  clear hb
  go_wp2_with fail
  refine (AS.out _ (rF_5.out) (rG_5.out) (rK_5.out)).mono ?_
  rintro e W6 ⟨rfl, hb⟩
  have hE_6 : Hid (Ext w.heap.size w W6) := hid (hE_5.out.below hb)
  have rF_6 : Hid (rdI W6 (.slice aF F.length cF) F) := hid (rF_5.out.below hb)
  have rG_6 : Hid (rdI W6 (.slice aG G.length cG) G) := hid (rG_5.out.below hb)
  have rK_6 : Hid (rdI W6 (.slice aK K.length cK) K) := hid (rK_5.out.below hb)
  have R_6 : ∀ o, W6.cell? ⟨kR, o, none⟩ = #[Value.int .i64 p1, .int .i64 n1][o]? := fun o => (hb.cell (p := ⟨kR, o, none⟩) lR_5).trans (R_5 o)
  have lR_6 : kR < W6.heap.size := Nat.lt_of_lt_of_le lR_5 hb.size
  have rA_6 : Hid (rdI W6 (.slice aA A.length cA) A) := hid (rA_5.out.below hb)
  have rD_6 : Hid (rdI W6 (.slice aD D.length cD) D) := hid (rD_5.out.below hb)
  have rA2_6 : Hid (rdI W6 (.slice aA2 A.length cA2) A) := hid (rA2_5.out.below hb)
  have rD2_6 : Hid (rdI W6 (.slice aD2 D.length cD2) D) := hid (rD2_5.out.below hb)
  clear hE_5 rF_5 rG_5 rK_5 R_5 lR_5 rA_5 rD_5 rA2_5 rD2_5
  clear hb
  clear AI AS
  obtain ⟨hok, h12⟩ := HC.out
  clear HC
  by_cases hC1 : C1 = 0
  case neg =>
    have hk : ok = false := by rw [hok]; simp [hC1]
    subst hk
    have b1 : (C1 == 0) = false := by simpa using hC1
    have b2 : (C1 != 0) = true := by simpa using hC1
    clear hok h12 HLAW hC1
    by_cases hC2 : C2 = 0
    · subst hC2
      go_wp2_with fail
      refine (l_like _ _ A _ (rA_6.out) (rA2_6.out)).mono ?_
      rintro e W7 ⟨rfl, hb⟩
      have hE_7 : Hid (Ext w.heap.size w W7) := hid (hE_6.out.below hb)
      have rF_7 : Hid (rdI W7 (.slice aF F.length cF) F) := hid (rF_6.out.below hb)
      have rG_7 : Hid (rdI W7 (.slice aG G.length cG) G) := hid (rG_6.out.below hb)
      have rK_7 : Hid (rdI W7 (.slice aK K.length cK) K) := hid (rK_6.out.below hb)
      have R_7 : ∀ o, W7.cell? ⟨kR, o, none⟩ = #[Value.int .i64 p1, .int .i64 n1][o]? := fun o => (hb.cell (p := ⟨kR, o, none⟩) lR_6).trans (R_6 o)
      have lR_7 : kR < W7.heap.size := Nat.lt_of_lt_of_le lR_6 hb.size
      have rA_7 : Hid (rdI W7 (.slice aA A.length cA) A) := hid (rA_6.out.below hb)
      have rD_7 : Hid (rdI W7 (.slice aD D.length cD) D) := hid (rD_6.out.below hb)
      have rA2_7 : Hid (rdI W7 (.slice aA2 A.length cA2) A) := hid (rA2_6.out.below hb)
      have rD2_7 : Hid (rdI W7 (.slice aD2 D.length cD2) D) := hid (rD2_6.out.below hb)
      clear hE_6 rF_6 rG_6 rK_6 R_6 lR_6 rA_6 rD_6 rA2_6 rD2_6
      clear hb
      go_wp2_with fail
      refine (l_like _ _ D _ (rD_7.out) (rD2_7.out)).mono ?_
      rintro e W8 ⟨rfl, hb⟩
      have hE_8 : Hid (Ext w.heap.size w W8) := hid (hE_7.out.below hb)
      have rF_8 : Hid (rdI W8 (.slice aF F.length cF) F) := hid (rF_7.out.below hb)
      have rG_8 : Hid (rdI W8 (.slice aG G.length cG) G) := hid (rG_7.out.below hb)
      have rK_8 : Hid (rdI W8 (.slice aK K.length cK) K) := hid (rK_7.out.below hb)
      have R_8 : ∀ o, W8.cell? ⟨kR, o, none⟩ = #[Value.int .i64 p1, .int .i64 n1][o]? := fun o => (hb.cell (p := ⟨kR, o, none⟩) lR_7).trans (R_7 o)
      have lR_8 : kR < W8.heap.size := Nat.lt_of_lt_of_le lR_7 hb.size
      have rA_8 : Hid (rdI W8 (.slice aA A.length cA) A) := hid (rA_7.out.below hb)
      have rD_8 : Hid (rdI W8 (.slice aD D.length cD) D) := hid (rD_7.out.below hb)
      have rA2_8 : Hid (rdI W8 (.slice aA2 A.length cA2) A) := hid (rA2_7.out.below hb)
      have rD2_8 : Hid (rdI W8 (.slice aD2 D.length cD2) D) := hid (rD2_7.out.below hb)
      clear hE_7 rF_7 rG_7 rK_7 R_7 lR_7 rA_7 rD_7 rA2_7 rD2_7
      clear hb
      go_wp2_with fail
      go_ret
      exact ⟨by first | rfl | simp, Ext.bel hE_8.out⟩
    · have b3 : (C2 == 0) = false := by simpa using hC2
      clear hC2
      go_wp2_with fail
      refine (l_like _ _ A _ (rA_6.out) (rA2_6.out)).mono ?_
      rintro e W7 ⟨rfl, hb⟩
      have hE_7 : Hid (Ext w.heap.size w W7) := hid (hE_6.out.below hb)
      have rF_7 : Hid (rdI W7 (.slice aF F.length cF) F) := hid (rF_6.out.below hb)
      have rG_7 : Hid (rdI W7 (.slice aG G.length cG) G) := hid (rG_6.out.below hb)
      have rK_7 : Hid (rdI W7 (.slice aK K.length cK) K) := hid (rK_6.out.below hb)
      have R_7 : ∀ o, W7.cell? ⟨kR, o, none⟩ = #[Value.int .i64 p1, .int .i64 n1][o]? := fun o => (hb.cell (p := ⟨kR, o, none⟩) lR_6).trans (R_6 o)
      have lR_7 : kR < W7.heap.size := Nat.lt_of_lt_of_le lR_6 hb.size
      have rA_7 : Hid (rdI W7 (.slice aA A.length cA) A) := hid (rA_6.out.below hb)
      have rD_7 : Hid (rdI W7 (.slice aD D.length cD) D) := hid (rD_6.out.below hb)
      have rA2_7 : Hid (rdI W7 (.slice aA2 A.length cA2) A) := hid (rA2_6.out.below hb)
      have rD2_7 : Hid (rdI W7 (.slice aD2 D.length cD2) D) := hid (rD2_6.out.below hb)
      clear hE_6 rF_6 rG_6 rK_6 R_6 lR_6 rA_6 rD_6 rA2_6 rD2_6
      clear hb
      go_wp2_with fail
      refine (l_like _ _ D _ (rD_7.out) (rD2_7.out)).mono ?_
      rintro e W8 ⟨rfl, hb⟩
      have hE_8 : Hid (Ext w.heap.size w W8) := hid (hE_7.out.below hb)
      have rF_8 : Hid (rdI W8 (.slice aF F.length cF) F) := hid (rF_7.out.below hb)
      have rG_8 : Hid (rdI W8 (.slice aG G.length cG) G) := hid (rG_7.out.below hb)
      have rK_8 : Hid (rdI W8 (.slice aK K.length cK) K) := hid (rK_7.out.below hb)
      have R_8 : ∀ o, W8.cell? ⟨kR, o, none⟩ = #[Value.int .i64 p1, .int .i64 n1][o]? := fun o => (hb.cell (p := ⟨kR, o, none⟩) lR_7).trans (R_7 o)
      have lR_8 : kR < W8.heap.size := Nat.lt_of_lt_of_le lR_7 hb.size
      have rA_8 : Hid (rdI W8 (.slice aA A.length cA) A) := hid (rA_7.out.below hb)
      have rD_8 : Hid (rdI W8 (.slice aD D.length cD) D) := hid (rD_7.out.below hb)
      have rA2_8 : Hid (rdI W8 (.slice aA2 A.length cA2) A) := hid (rA2_7.out.below hb)
      have rD2_8 : Hid (rdI W8 (.slice aD2 D.length cD2) D) := hid (rD2_7.out.below hb)
      clear hE_7 rF_7 rG_7 rK_7 R_7 lR_7 rA_7 rD_7 rA2_7 rD2_7
      clear hb
      go_wp2_with fail
      go_ret
      exact ⟨by first | rfl | simp, Ext.bel hE_8.out⟩
  obtain rfl := h12 hC1
  subst hC1
  have hk : ok = true := by rw [hok]; rfl
  subst hk
  obtain ⟨v1, v2, v3⟩ := HLAW.out rfl
  have HM : Hid (∀ W r1 r2, rdI W r1 A → rdI W r2 D → Calls Try.prog 11 #[.agg #[.int .i64 p1, .int .i64 n1], r1, r2] W fun e w' => ∃ v, e = .returned (.tuple #[v, .int .i64 0]) ∧ ownR W.heap.size w' v F ∧ Below W.heap.size W w') := hid fun W r1 r2 q1 q2 => by have := i_MultiplyInRing p1 n1 r1 r2 A D W q1 q2; rw [v1] at this; exact this
  have HA : Hid (∀ W r1, rdI W r1 A → Calls Try.prog 12 #[.agg #[.int .i64 p1, .int .i64 n1], r1] W fun e w' => ∃ v, e = .returned (.tuple #[v, .int .i64 0]) ∧ ownR W.heap.size w' v G ∧ Below W.heap.size W w') := hid fun W r1 q1 => by have := i_ImageOf p1 n1 r1 A W q1; rw [v2] at this; exact this
  have HD : Hid (∀ W r1, rdI W r1 D → Calls Try.prog 12 #[.agg #[.int .i64 p1, .int .i64 n1], r1] W fun e w' => ∃ v, e = .returned (.tuple #[v, .int .i64 0]) ∧ ownR W.heap.size w' v K ∧ Below W.heap.size W w') := hid fun W r1 q1 => by have := i_ImageOf p1 n1 r1 D W q1; rw [v3] at this; exact this
  clear v1 v2 v3 HLAW hok h12
  go_wp2_with fail
  refine (l_like _ _ A _ (rA_6.out) (rA2_6.out)).mono ?_
  rintro e W7 ⟨rfl, hb⟩
  have hE_7 : Hid (Ext w.heap.size w W7) := hid (hE_6.out.below hb)
  have rF_7 : Hid (rdI W7 (.slice aF F.length cF) F) := hid (rF_6.out.below hb)
  have rG_7 : Hid (rdI W7 (.slice aG G.length cG) G) := hid (rG_6.out.below hb)
  have rK_7 : Hid (rdI W7 (.slice aK K.length cK) K) := hid (rK_6.out.below hb)
  have R_7 : ∀ o, W7.cell? ⟨kR, o, none⟩ = #[Value.int .i64 p1, .int .i64 n1][o]? := fun o => (hb.cell (p := ⟨kR, o, none⟩) lR_6).trans (R_6 o)
  have lR_7 : kR < W7.heap.size := Nat.lt_of_lt_of_le lR_6 hb.size
  have rA_7 : Hid (rdI W7 (.slice aA A.length cA) A) := hid (rA_6.out.below hb)
  have rD_7 : Hid (rdI W7 (.slice aD D.length cD) D) := hid (rD_6.out.below hb)
  have rA2_7 : Hid (rdI W7 (.slice aA2 A.length cA2) A) := hid (rA2_6.out.below hb)
  have rD2_7 : Hid (rdI W7 (.slice aD2 D.length cD2) D) := hid (rD2_6.out.below hb)
  clear hE_6 rF_6 rG_6 rK_6 R_6 lR_6 rA_6 rD_6 rA2_6 rD2_6
  clear hb
  go_wp2_with fail
  refine (l_like _ _ D _ (rD_7.out) (rD2_7.out)).mono ?_
  rintro e W8 ⟨rfl, hb⟩
  have hE_8 : Hid (Ext w.heap.size w W8) := hid (hE_7.out.below hb)
  have rF_8 : Hid (rdI W8 (.slice aF F.length cF) F) := hid (rF_7.out.below hb)
  have rG_8 : Hid (rdI W8 (.slice aG G.length cG) G) := hid (rG_7.out.below hb)
  have rK_8 : Hid (rdI W8 (.slice aK K.length cK) K) := hid (rK_7.out.below hb)
  have R_8 : ∀ o, W8.cell? ⟨kR, o, none⟩ = #[Value.int .i64 p1, .int .i64 n1][o]? := fun o => (hb.cell (p := ⟨kR, o, none⟩) lR_7).trans (R_7 o)
  have lR_8 : kR < W8.heap.size := Nat.lt_of_lt_of_le lR_7 hb.size
  have rA_8 : Hid (rdI W8 (.slice aA A.length cA) A) := hid (rA_7.out.below hb)
  have rD_8 : Hid (rdI W8 (.slice aD D.length cD) D) := hid (rD_7.out.below hb)
  have rA2_8 : Hid (rdI W8 (.slice aA2 A.length cA2) A) := hid (rA2_7.out.below hb)
  have rD2_8 : Hid (rdI W8 (.slice aD2 D.length cD2) D) := hid (rD2_7.out.below hb)
  clear hE_7 rF_7 rG_7 rK_7 R_7 lR_7 rA_7 rD_7 rA2_7 rD2_7
  clear hb
  go_wp2_with fail
  refine (HM.out _ _ _ (rA_8.out) (rD_8.out)).mono ?_
  rintro e W9 ⟨v1, rfl, ho1, hb⟩
  have hE_9 : Hid (Ext w.heap.size w W9) := hid (hE_8.out.below hb)
  have rF_9 : Hid (rdI W9 (.slice aF F.length cF) F) := hid (rF_8.out.below hb)
  have rG_9 : Hid (rdI W9 (.slice aG G.length cG) G) := hid (rG_8.out.below hb)
  have rK_9 : Hid (rdI W9 (.slice aK K.length cK) K) := hid (rK_8.out.below hb)
  have R_9 : ∀ o, W9.cell? ⟨kR, o, none⟩ = #[Value.int .i64 p1, .int .i64 n1][o]? := fun o => (hb.cell (p := ⟨kR, o, none⟩) lR_8).trans (R_8 o)
  have lR_9 : kR < W9.heap.size := Nat.lt_of_lt_of_le lR_8 hb.size
  have rA_9 : Hid (rdI W9 (.slice aA A.length cA) A) := hid (rA_8.out.below hb)
  have rD_9 : Hid (rdI W9 (.slice aD D.length cD) D) := hid (rD_8.out.below hb)
  have rA2_9 : Hid (rdI W9 (.slice aA2 A.length cA2) A) := hid (rA2_8.out.below hb)
  have rD2_9 : Hid (rdI W9 (.slice aD2 D.length cD2) D) := hid (rD2_8.out.below hb)
  clear hE_8 rF_8 rG_8 rK_8 R_8 lR_8 rA_8 rD_8 rA2_8 rD2_8
  clear hb
  obtain ⟨aF3, cF3, hsh, hzmF3, _⟩ := ho1.rd
  subst hsh
  clear hzmF3
  have rF3_9 : Hid (rdI W9 (.slice aF3 F.length cF3) F) := hid (ho1.rd)
  clear ho1
  go_wp2_with fail
  refine (HA.out _ _ (rA_9.out)).mono ?_
  rintro e W10 ⟨v1, rfl, ho1, hb⟩
  have hE_10 : Hid (Ext w.heap.size w W10) := hid (hE_9.out.below hb)
  have rF_10 : Hid (rdI W10 (.slice aF F.length cF) F) := hid (rF_9.out.below hb)
  have rG_10 : Hid (rdI W10 (.slice aG G.length cG) G) := hid (rG_9.out.below hb)
  have rK_10 : Hid (rdI W10 (.slice aK K.length cK) K) := hid (rK_9.out.below hb)
  have R_10 : ∀ o, W10.cell? ⟨kR, o, none⟩ = #[Value.int .i64 p1, .int .i64 n1][o]? := fun o => (hb.cell (p := ⟨kR, o, none⟩) lR_9).trans (R_9 o)
  have lR_10 : kR < W10.heap.size := Nat.lt_of_lt_of_le lR_9 hb.size
  have rA_10 : Hid (rdI W10 (.slice aA A.length cA) A) := hid (rA_9.out.below hb)
  have rD_10 : Hid (rdI W10 (.slice aD D.length cD) D) := hid (rD_9.out.below hb)
  have rA2_10 : Hid (rdI W10 (.slice aA2 A.length cA2) A) := hid (rA2_9.out.below hb)
  have rD2_10 : Hid (rdI W10 (.slice aD2 D.length cD2) D) := hid (rD2_9.out.below hb)
  have rF3_10 : Hid (rdI W10 (.slice aF3 F.length cF3) F) := hid (rF3_9.out.below hb)
  clear hE_9 rF_9 rG_9 rK_9 R_9 lR_9 rA_9 rD_9 rA2_9 rD2_9 rF3_9
  clear hb
  obtain ⟨aG3, cG3, hsh, hzmG3, _⟩ := ho1.rd
  subst hsh
  clear hzmG3
  have rG3_10 : Hid (rdI W10 (.slice aG3 G.length cG3) G) := hid (ho1.rd)
  clear ho1
  go_wp2_with fail
  refine (HD.out _ _ (rD_10.out)).mono ?_
  rintro e W11 ⟨v1, rfl, ho1, hb⟩
  have hE_11 : Hid (Ext w.heap.size w W11) := hid (hE_10.out.below hb)
  have rF_11 : Hid (rdI W11 (.slice aF F.length cF) F) := hid (rF_10.out.below hb)
  have rG_11 : Hid (rdI W11 (.slice aG G.length cG) G) := hid (rG_10.out.below hb)
  have rK_11 : Hid (rdI W11 (.slice aK K.length cK) K) := hid (rK_10.out.below hb)
  have R_11 : ∀ o, W11.cell? ⟨kR, o, none⟩ = #[Value.int .i64 p1, .int .i64 n1][o]? := fun o => (hb.cell (p := ⟨kR, o, none⟩) lR_10).trans (R_10 o)
  have lR_11 : kR < W11.heap.size := Nat.lt_of_lt_of_le lR_10 hb.size
  have rA_11 : Hid (rdI W11 (.slice aA A.length cA) A) := hid (rA_10.out.below hb)
  have rD_11 : Hid (rdI W11 (.slice aD D.length cD) D) := hid (rD_10.out.below hb)
  have rA2_11 : Hid (rdI W11 (.slice aA2 A.length cA2) A) := hid (rA2_10.out.below hb)
  have rD2_11 : Hid (rdI W11 (.slice aD2 D.length cD2) D) := hid (rD2_10.out.below hb)
  have rF3_11 : Hid (rdI W11 (.slice aF3 F.length cF3) F) := hid (rF3_10.out.below hb)
  have rG3_11 : Hid (rdI W11 (.slice aG3 G.length cG3) G) := hid (rG3_10.out.below hb)
  clear hE_10 rF_10 rG_10 rK_10 R_10 lR_10 rA_10 rD_10 rA2_10 rD2_10 rF3_10 rG3_10
  clear hb
  obtain ⟨aK3, cK3, hsh, hzmK3, _⟩ := ho1.rd
  subst hsh
  clear hzmK3
  have rK3_11 : Hid (rdI W11 (.slice aK3 K.length cK3) K) := hid (ho1.rd)
  clear ho1
  go_wp2_with fail
  clear HM HA HD
  refine (l_like _ _ F _ (rF3_11.out) (rF_11.out)).mono ?_
  rintro e W12 ⟨rfl, hb⟩
  have hE_12 : Hid (Ext w.heap.size w W12) := hid (hE_11.out.below hb)
  have rF_12 : Hid (rdI W12 (.slice aF F.length cF) F) := hid (rF_11.out.below hb)
  have rG_12 : Hid (rdI W12 (.slice aG G.length cG) G) := hid (rG_11.out.below hb)
  have rK_12 : Hid (rdI W12 (.slice aK K.length cK) K) := hid (rK_11.out.below hb)
  have R_12 : ∀ o, W12.cell? ⟨kR, o, none⟩ = #[Value.int .i64 p1, .int .i64 n1][o]? := fun o => (hb.cell (p := ⟨kR, o, none⟩) lR_11).trans (R_11 o)
  have lR_12 : kR < W12.heap.size := Nat.lt_of_lt_of_le lR_11 hb.size
  have rA_12 : Hid (rdI W12 (.slice aA A.length cA) A) := hid (rA_11.out.below hb)
  have rD_12 : Hid (rdI W12 (.slice aD D.length cD) D) := hid (rD_11.out.below hb)
  have rA2_12 : Hid (rdI W12 (.slice aA2 A.length cA2) A) := hid (rA2_11.out.below hb)
  have rD2_12 : Hid (rdI W12 (.slice aD2 D.length cD2) D) := hid (rD2_11.out.below hb)
  have rF3_12 : Hid (rdI W12 (.slice aF3 F.length cF3) F) := hid (rF3_11.out.below hb)
  have rG3_12 : Hid (rdI W12 (.slice aG3 G.length cG3) G) := hid (rG3_11.out.below hb)
  have rK3_12 : Hid (rdI W12 (.slice aK3 K.length cK3) K) := hid (rK3_11.out.below hb)
  clear hE_11 rF_11 rG_11 rK_11 R_11 lR_11 rA_11 rD_11 rA2_11 rD2_11 rF3_11 rG3_11 rK3_11
  clear hb
  go_wp2_with fail
  refine (l_like _ _ G _ (rG3_12.out) (rG_12.out)).mono ?_
  rintro e W13 ⟨rfl, hb⟩
  have hE_13 : Hid (Ext w.heap.size w W13) := hid (hE_12.out.below hb)
  have rF_13 : Hid (rdI W13 (.slice aF F.length cF) F) := hid (rF_12.out.below hb)
  have rG_13 : Hid (rdI W13 (.slice aG G.length cG) G) := hid (rG_12.out.below hb)
  have rK_13 : Hid (rdI W13 (.slice aK K.length cK) K) := hid (rK_12.out.below hb)
  have R_13 : ∀ o, W13.cell? ⟨kR, o, none⟩ = #[Value.int .i64 p1, .int .i64 n1][o]? := fun o => (hb.cell (p := ⟨kR, o, none⟩) lR_12).trans (R_12 o)
  have lR_13 : kR < W13.heap.size := Nat.lt_of_lt_of_le lR_12 hb.size
  have rA_13 : Hid (rdI W13 (.slice aA A.length cA) A) := hid (rA_12.out.below hb)
  have rD_13 : Hid (rdI W13 (.slice aD D.length cD) D) := hid (rD_12.out.below hb)
  have rA2_13 : Hid (rdI W13 (.slice aA2 A.length cA2) A) := hid (rA2_12.out.below hb)
  have rD2_13 : Hid (rdI W13 (.slice aD2 D.length cD2) D) := hid (rD2_12.out.below hb)
  have rF3_13 : Hid (rdI W13 (.slice aF3 F.length cF3) F) := hid (rF3_12.out.below hb)
  have rG3_13 : Hid (rdI W13 (.slice aG3 G.length cG3) G) := hid (rG3_12.out.below hb)
  have rK3_13 : Hid (rdI W13 (.slice aK3 K.length cK3) K) := hid (rK3_12.out.below hb)
  clear hE_12 rF_12 rG_12 rK_12 R_12 lR_12 rA_12 rD_12 rA2_12 rD2_12 rF3_12 rG3_12 rK3_12
  clear hb
  go_wp2_with fail
  refine (l_like _ _ K _ (rK3_13.out) (rK_13.out)).mono ?_
  rintro e W14 ⟨rfl, hb⟩
  have hE_14 : Hid (Ext w.heap.size w W14) := hid (hE_13.out.below hb)
  have rF_14 : Hid (rdI W14 (.slice aF F.length cF) F) := hid (rF_13.out.below hb)
  have rG_14 : Hid (rdI W14 (.slice aG G.length cG) G) := hid (rG_13.out.below hb)
  have rK_14 : Hid (rdI W14 (.slice aK K.length cK) K) := hid (rK_13.out.below hb)
  have R_14 : ∀ o, W14.cell? ⟨kR, o, none⟩ = #[Value.int .i64 p1, .int .i64 n1][o]? := fun o => (hb.cell (p := ⟨kR, o, none⟩) lR_13).trans (R_13 o)
  have lR_14 : kR < W14.heap.size := Nat.lt_of_lt_of_le lR_13 hb.size
  have rA_14 : Hid (rdI W14 (.slice aA A.length cA) A) := hid (rA_13.out.below hb)
  have rD_14 : Hid (rdI W14 (.slice aD D.length cD) D) := hid (rD_13.out.below hb)
  have rA2_14 : Hid (rdI W14 (.slice aA2 A.length cA2) A) := hid (rA2_13.out.below hb)
  have rD2_14 : Hid (rdI W14 (.slice aD2 D.length cD2) D) := hid (rD2_13.out.below hb)
  have rF3_14 : Hid (rdI W14 (.slice aF3 F.length cF3) F) := hid (rF3_13.out.below hb)
  have rG3_14 : Hid (rdI W14 (.slice aG3 G.length cG3) G) := hid (rG3_13.out.below hb)
  have rK3_14 : Hid (rdI W14 (.slice aK3 K.length cK3) K) := hid (rK3_13.out.below hb)
  clear hE_13 rF_13 rG_13 rK_13 R_13 lR_13 rA_13 rD_13 rA2_13 rD2_13 rF3_13 rG3_13 rK3_13
  clear hb
  go_wp2_with fail
  go_ret
  exact ⟨by first | rfl | simp, Ext.bel hE_14.out⟩
end Go.Proofs.Ytflmoopiajhadaa
