/- Products and quotients in rings: the law. (Printed by mkZL.py.) -/
import Derived.Test.YtganmeiaflkkoaaZ8
import Derived.Test.YtganmeiaflkkoaaZ9
import Derived.Test.YtganmeiaflkkoaaH13
import Derived.Test.YtganmeiaflkkoaaT30
namespace Go.Proofs.Ytganmeiaflkkoaa
open Go Go.RowKit

def lenOf (v : Value) : Nat := match v with | .slice _ n _ => n | _ => 0
set_option maxHeartbeats 1000000 in
theorem l_like (r1 r2 : Value) (xs : List Int) (w : World) (h : rdI w r1 xs) (h' : rdI w r2 xs) :
    Calls Try.prog 18 #[r1, r2] w fun e w' => e = .returned (.bool true) ∧ Below w.heap.size w w' := by
  obtain ⟨a, cap, rfl, hm, hc⟩ := h
  obtain ⟨a', cap', rfl, hm', hc'⟩ := h'
  have Hc := hid hc
  have Hc' := hid hc'
  unfold maxLen at hm
  clear hc hc' hm'
  go_enter Try.func18, Try.ntmps18
  go_wp2_with fail
  go_loopw [5] (fun i wr => ∃ (k : Nat) (uu : World), wr = aft w uu ∧ k ≤ xs.length ∧ i = .int .i64 k) (fun i _ => xs.length - (intOf i).toNat)
  case atStart => exact ⟨0, w, (aft_of (Below.refl _ _)).symm, by omega, rfl⟩
  case round =>
    obtain ⟨k, uu, rfl, hk, rfl⟩ := hrel
    by_cases hlt : k < xs.length
    · obtain ⟨b, o, rfl, hcell⟩ := Hc.out (by intro e; subst e; simp at hlt)
      obtain ⟨b', o', rfl, hcell'⟩ := Hc'.out (by intro e; subst e; simp at hlt)
      have h1 := hcell k hlt
      have h2 := hcell' k hlt
      have h3 := World.block_lt_of_cell? w _ h1
      have h4 := World.block_lt_of_cell? w _ h2
      obtain ⟨x, hx⟩ : ∃ x, x = xs[k] := ⟨_, rfl⟩
      rw [← hx] at h1 h2
      have hz : ((k : Int) : Int) < (xs.length : Int) := by omega
      have hz0 : (0 : Int) ≤ (k : Int) := by omega
      have zs := size_aft w uu
      clear hx hcell hcell'
      go_wp2_with fail
      refine wp_region_calm (by kernel_rfl) (by kernel_rfl) ?_
      repeat (go_big_quiet_step (fail))
      refine wpQuiet_nil ?_; intro uq zq; try simp at zq
      go_wp2_with fail
      go_roundw
      case rel => exact ⟨k + 1, _, (aft_of ((below_aft w uu).trans ((below_aft _ _).mono (size_aft w uu)))).symm, by omega, by go_num⟩
      case measure => simp [intOf]; omega
    · obtain rfl : k = xs.length := by omega
      go_wp2
      go_ret
      exact ⟨rfl, (by refine Ext.bel ?_; repeat (with_reducible first | exact Ext.refl _ | apply Ext.alloc | apply Ext.aft | apply Ext.drew | apply Ext.drewN | apply Ext.setCell | exact Nat.le_add_right _ _ | exact Nat.le_refl _ | (simp; done) | omega))⟩
set_option maxRecDepth 20000 in
set_option maxHeartbeats 32000000 in
theorem law_RingProducts (a : Option Addr) (len cap : Nat) (w : World) (h : rdB w.heap.size w a len) :
    Calls Try.prog 3 #[.slice a len cap] w fun e w' => e = .returned (.bool true) ∧ Below w.heap.size w w' := by
  by_cases hl : len ≤ 4096
  case neg =>
    have hd : decide ((4096 : Int) < (len : Int)) = true := by simp; omega
    go_enter Try.func3, Try.ntmps3
    go_wp2_with (go_at_call 5; refine pur (l_big _ _ _ _) ?_)
    go_ret
    exact ⟨rfl, (by refine Ext.bel ?_; repeat (with_reducible first | exact Ext.refl _ | apply Ext.alloc | apply Ext.aft | apply Ext.drew | apply Ext.drewN | apply Ext.setCell | exact Nat.le_add_right _ _ | exact Nat.le_refl _ | (simp; done) | omega))⟩
  have hd : decide ((4096 : Int) < (len : Int)) = false := by simp; omega
  have H := hid h
  clear h
  go_enter Try.func3, Try.ntmps3
  go_wp2_with (go_at_call 5; refine pur (l_big _ _ _ _) ?_)
  have hE_0 : Hid (Ext w.heap.size w w) := hid (Ext.refl w)
  refine (s_DrawDivideInRing w.heap.size a len cap _ (H.out.ext hE_0.out) hl hE_0.out.2).mono ?_
  rintro e W1 ⟨p1, n1, s1, s2, F, G, rfl, ho1, ho2, hfl, hgl, hb⟩
  have hE_1 : Hid (Ext w.heap.size w W1) := hid (hE_0.out.below hb)
  clear hE_0
  clear hb
  obtain ⟨aF, cF, hsh, _, _⟩ := ho1.rd
  subst hsh
  obtain ⟨aG, cG, hsh, _, _⟩ := ho2.rd
  subst hsh
  have rF_1 : Hid (rdI W1 (.slice aF F.length cF) F) := hid (ho1.rd)
  have rG_1 : Hid (rdI W1 (.slice aG G.length cG) G) := hid (ho2.rd)
  clear ho1 ho2
  obtain ⟨Q, X, CD, hDq⟩ : ∃ a b c, divideInRingF p1 n1 F G = (a, b, c) := ⟨_, _, _, rfl⟩
  have DI : Hid (∀ W, rdI W (.slice aF F.length cF) F → rdI W (.slice aG G.length cG) G → Calls Try.prog 7 #[.agg #[.int .i64 p1, .int .i64 n1], (.slice aF F.length cF), (.slice aG G.length cG)] W fun e w' => ∃ v1 v2, e = .returned (.tuple #[v1, v2, .int .i64 CD]) ∧ ownR W.heap.size w' v1 Q ∧ ownR W.heap.size w' v2 X ∧ Below W.heap.size W w') := hid fun W q0 q1 => by have := i_DivideInRing p1 n1 _ _ F G W q0 q1; rw [hDq] at this; exact this.mono fun e w' ⟨v1, v2, h1, h2, h3, _, _, h4⟩ => ⟨v1, v2, h1, h2, h3, h4⟩
  have DS : Hid (∀ W, rdI W (.slice aF F.length cF) F → rdI W (.slice aG G.length cG) G → Calls Try.prog 8 #[.agg #[.int .i64 p1, .int .i64 n1], (.slice aF F.length cF), (.slice aG G.length cG)] W fun e w' => ∃ v1 v2, e = .returned (.tuple #[v1, v2, .int .i64 CD]) ∧ ownR W.heap.size w' v1 Q ∧ ownR W.heap.size w' v2 X ∧ Below W.heap.size W w') := hid fun W q0 q1 => by have := s_DivideInRing p1 n1 _ _ F G W q0 q1; rw [hDq] at this; exact this.mono fun e w' ⟨v1, v2, h1, h2, h3, _, _, h4⟩ => ⟨v1, v2, h1, h2, h3, h4⟩
  have HFL := hid hfl
  have HGL := hid hgl
  have HLAW : Hid (CD = 0 → ∃ M, multiplyInRingF p1 n1 G Q = (M, 0) ∧ M.length ≤ 9 ∧ (∀ c ∈ M, 0 ≤ c ∧ c ≤ p1 ^ n1.toNat - 1) ∧ X.length ≤ 9 ∧ (∀ c ∈ X, 0 ≤ c ∧ c ≤ p1 ^ n1.toNat - 1) ∧ trimF (sumF (p1 ^ n1.toNat) M X (max M.length X.length)) = F ∧ X.length < G.length ∧ ringB p1 n1 = true) := hid fun e => by
    subst e
    exact ring_law hDq
  clear hDq hfl hgl
  go_wp2_with fail
  obtain ⟨W2, hW2⟩ : ∃ X, X = W1.alloc (Obj.cells #[Value.int .i64 p1, .int .i64 n1] 25) := ⟨_, rfl⟩
  obtain ⟨kR, hkR⟩ : ∃ k, k = W1.heap.size := ⟨_, rfl⟩
  have hba : Below W1.heap.size W1 W2 := by rw [hW2]; exact (Below.refl _ _).alloc (Nat.le_refl _) _
  have cn : ∀ o, W2.cell? ⟨kR, o, none⟩ = #[Value.int .i64 p1, .int .i64 n1][o]? := fun o => by rw [hW2, hkR, alloc_cell, if_pos rfl]
  have ln : kR < W2.heap.size := by rw [hW2, hkR]; simp
  rw [← hW2, ← hkR]
  clear hW2 hkR
  have hE_2 : Hid (Ext w.heap.size w W2) := hid (hE_1.out.below hba)
  have rF_2 : Hid (rdI W2 (.slice aF F.length cF) F) := hid (rF_1.out.below hba)
  have rG_2 : Hid (rdI W2 (.slice aG G.length cG) G) := hid (rG_1.out.below hba)
  clear hE_1 rF_1 rG_1
  have R_2 := cn
  have lR_2 := ln
  clear cn ln hba
  refine (DI.out _ (rF_2.out) (rG_2.out)).mono ?_
  rintro e W3 ⟨v1, v2, rfl, ho1, ho2, hb⟩
  have hE_3 : Hid (Ext w.heap.size w W3) := hid (hE_2.out.below hb)
  have rF_3 : Hid (rdI W3 (.slice aF F.length cF) F) := hid (rF_2.out.below hb)
  have rG_3 : Hid (rdI W3 (.slice aG G.length cG) G) := hid (rG_2.out.below hb)
  have R_3 : ∀ o, W3.cell? ⟨kR, o, none⟩ = #[Value.int .i64 p1, .int .i64 n1][o]? := fun o => (hb.cell (p := ⟨kR, o, none⟩) lR_2).trans (R_2 o)
  have lR_3 : kR < W3.heap.size := Nat.lt_of_lt_of_le lR_2 hb.size
  clear hE_2 rF_2 rG_2 R_2 lR_2
  clear hb
  obtain ⟨aQ, cQ, hsh, _, _⟩ := ho1.rd
  subst hsh
  obtain ⟨aX, cX, hsh, _, _⟩ := ho2.rd
  subst hsh
  have rQ_3 : Hid (rdI W3 (.slice aQ Q.length cQ) Q) := hid (ho1.rd)
  have rX_3 : Hid (rdI W3 (.slice aX X.length cX) X) := hid (ho2.rd)
  clear ho1 ho2
  go_wp2_with fail
  refine (DS.out _ (rF_3.out) (rG_3.out)).mono ?_
  rintro e W4 ⟨v1, v2, rfl, ho1, ho2, hb⟩
  have hE_4 : Hid (Ext w.heap.size w W4) := hid (hE_3.out.below hb)
  have rF_4 : Hid (rdI W4 (.slice aF F.length cF) F) := hid (rF_3.out.below hb)
  have rG_4 : Hid (rdI W4 (.slice aG G.length cG) G) := hid (rG_3.out.below hb)
  have R_4 : ∀ o, W4.cell? ⟨kR, o, none⟩ = #[Value.int .i64 p1, .int .i64 n1][o]? := fun o => (hb.cell (p := ⟨kR, o, none⟩) lR_3).trans (R_3 o)
  have lR_4 : kR < W4.heap.size := Nat.lt_of_lt_of_le lR_3 hb.size
  have rQ_4 : Hid (rdI W4 (.slice aQ Q.length cQ) Q) := hid (rQ_3.out.below hb)
  have rX_4 : Hid (rdI W4 (.slice aX X.length cX) X) := hid (rX_3.out.below hb)
  clear hE_3 rF_3 rG_3 R_3 lR_3 rQ_3 rX_3
  clear hb
  obtain ⟨aU, cU, hsh, _, _⟩ := ho1.rd
  subst hsh
  obtain ⟨aV, cV, hsh, _, _⟩ := ho2.rd
  subst hsh
  have rU_4 : Hid (rdI W4 (.slice aU Q.length cU) Q) := hid (ho1.rd)
  have rV_4 : Hid (rdI W4 (.slice aV X.length cV) X) := hid (ho2.rd)
  clear ho1 ho2
  go_wp2_with fail
  clear DI DS
  refine (s_DrawMultiplyInRing w.heap.size a len cap _ (H.out.ext hE_4.out) hl hE_4.out.2).mono ?_
  rintro e W5 ⟨p2, n2, s1, s2, A, B, rfl, ho1, ho2, hal, hbl, hb⟩
  have hE_5 : Hid (Ext w.heap.size w W5) := hid (hE_4.out.below hb)
  have rF_5 : Hid (rdI W5 (.slice aF F.length cF) F) := hid (rF_4.out.below hb)
  have rG_5 : Hid (rdI W5 (.slice aG G.length cG) G) := hid (rG_4.out.below hb)
  have R_5 : ∀ o, W5.cell? ⟨kR, o, none⟩ = #[Value.int .i64 p1, .int .i64 n1][o]? := fun o => (hb.cell (p := ⟨kR, o, none⟩) lR_4).trans (R_4 o)
  have lR_5 : kR < W5.heap.size := Nat.lt_of_lt_of_le lR_4 hb.size
  have rQ_5 : Hid (rdI W5 (.slice aQ Q.length cQ) Q) := hid (rQ_4.out.below hb)
  have rX_5 : Hid (rdI W5 (.slice aX X.length cX) X) := hid (rX_4.out.below hb)
  have rU_5 : Hid (rdI W5 (.slice aU Q.length cU) Q) := hid (rU_4.out.below hb)
  have rV_5 : Hid (rdI W5 (.slice aV X.length cV) X) := hid (rV_4.out.below hb)
  clear hE_4 rF_4 rG_4 R_4 lR_4 rQ_4 rX_4 rU_4 rV_4
  clear hb
  obtain ⟨aA, cA, hsh, _, _⟩ := ho1.rd
  subst hsh
  obtain ⟨aB, cB, hsh, _, _⟩ := ho2.rd
  subst hsh
  have rA_5 : Hid (rdI W5 (.slice aA A.length cA) A) := hid (ho1.rd)
  have rB_5 : Hid (rdI W5 (.slice aB B.length cB) B) := hid (ho2.rd)
  clear ho1 ho2 hal hbl
  obtain ⟨P, CP, hMq⟩ : ∃ a b, multiplyInRingF p2 n2 A B = (a, b) := ⟨_, _, rfl⟩
  have MI : Hid (∀ W, rdI W (.slice aA A.length cA) A → rdI W (.slice aB B.length cB) B → Calls Try.prog 10 #[.agg #[.int .i64 p2, .int .i64 n2], (.slice aA A.length cA), (.slice aB B.length cB)] W fun e w' => ∃ v, e = .returned (.tuple #[v, .int .i64 CP]) ∧ ownR W.heap.size w' v P ∧ Below W.heap.size W w') := hid fun W q0 q1 => by have := i_MultiplyInRing p2 n2 _ _ A B W q0 q1; rw [hMq] at this; exact this
  have MS : Hid (∀ W, rdI W (.slice aA A.length cA) A → rdI W (.slice aB B.length cB) B → Calls Try.prog 11 #[.agg #[.int .i64 p2, .int .i64 n2], (.slice aA A.length cA), (.slice aB B.length cB)] W fun e w' => ∃ v, e = .returned (.tuple #[v, .int .i64 CP]) ∧ ownR W.heap.size w' v P ∧ Below W.heap.size W w') := hid fun W q0 q1 => by have := s_MultiplyInRing p2 n2 _ _ A B W q0 q1; rw [hMq] at this; exact this
  clear hMq
  go_wp2_with fail
  obtain ⟨W6, hW6⟩ : ∃ X, X = W5.alloc (Obj.cells #[Value.int .i64 p2, .int .i64 n2] 25) := ⟨_, rfl⟩
  obtain ⟨kS, hkS⟩ : ∃ k, k = W5.heap.size := ⟨_, rfl⟩
  have hba : Below W5.heap.size W5 W6 := by rw [hW6]; exact (Below.refl _ _).alloc (Nat.le_refl _) _
  have cn : ∀ o, W6.cell? ⟨kS, o, none⟩ = #[Value.int .i64 p2, .int .i64 n2][o]? := fun o => by rw [hW6, hkS, alloc_cell, if_pos rfl]
  have ln : kS < W6.heap.size := by rw [hW6, hkS]; simp
  rw [← hW6, ← hkS]
  clear hW6 hkS
  have hE_6 : Hid (Ext w.heap.size w W6) := hid (hE_5.out.below hba)
  have rF_6 : Hid (rdI W6 (.slice aF F.length cF) F) := hid (rF_5.out.below hba)
  have rG_6 : Hid (rdI W6 (.slice aG G.length cG) G) := hid (rG_5.out.below hba)
  have R_6 : ∀ o, W6.cell? ⟨kR, o, none⟩ = #[Value.int .i64 p1, .int .i64 n1][o]? := fun o => (hba.cell (p := ⟨kR, o, none⟩) lR_5).trans (R_5 o)
  have lR_6 : kR < W6.heap.size := Nat.lt_of_lt_of_le lR_5 hba.size
  have rQ_6 : Hid (rdI W6 (.slice aQ Q.length cQ) Q) := hid (rQ_5.out.below hba)
  have rX_6 : Hid (rdI W6 (.slice aX X.length cX) X) := hid (rX_5.out.below hba)
  have rU_6 : Hid (rdI W6 (.slice aU Q.length cU) Q) := hid (rU_5.out.below hba)
  have rV_6 : Hid (rdI W6 (.slice aV X.length cV) X) := hid (rV_5.out.below hba)
  have rA_6 : Hid (rdI W6 (.slice aA A.length cA) A) := hid (rA_5.out.below hba)
  have rB_6 : Hid (rdI W6 (.slice aB B.length cB) B) := hid (rB_5.out.below hba)
  clear hE_5 rF_5 rG_5 R_5 lR_5 rQ_5 rX_5 rU_5 rV_5 rA_5 rB_5
  have S_6 := cn
  have lS_6 := ln
  clear cn ln hba
  refine (MI.out _ (rA_6.out) (rB_6.out)).mono ?_
  rintro e W7 ⟨v1, rfl, ho1, hb⟩
  have hE_7 : Hid (Ext w.heap.size w W7) := hid (hE_6.out.below hb)
  have rF_7 : Hid (rdI W7 (.slice aF F.length cF) F) := hid (rF_6.out.below hb)
  have rG_7 : Hid (rdI W7 (.slice aG G.length cG) G) := hid (rG_6.out.below hb)
  have R_7 : ∀ o, W7.cell? ⟨kR, o, none⟩ = #[Value.int .i64 p1, .int .i64 n1][o]? := fun o => (hb.cell (p := ⟨kR, o, none⟩) lR_6).trans (R_6 o)
  have lR_7 : kR < W7.heap.size := Nat.lt_of_lt_of_le lR_6 hb.size
  have rQ_7 : Hid (rdI W7 (.slice aQ Q.length cQ) Q) := hid (rQ_6.out.below hb)
  have rX_7 : Hid (rdI W7 (.slice aX X.length cX) X) := hid (rX_6.out.below hb)
  have rU_7 : Hid (rdI W7 (.slice aU Q.length cU) Q) := hid (rU_6.out.below hb)
  have rV_7 : Hid (rdI W7 (.slice aV X.length cV) X) := hid (rV_6.out.below hb)
  have rA_7 : Hid (rdI W7 (.slice aA A.length cA) A) := hid (rA_6.out.below hb)
  have rB_7 : Hid (rdI W7 (.slice aB B.length cB) B) := hid (rB_6.out.below hb)
  have S_7 : ∀ o, W7.cell? ⟨kS, o, none⟩ = #[Value.int .i64 p2, .int .i64 n2][o]? := fun o => (hb.cell (p := ⟨kS, o, none⟩) lS_6).trans (S_6 o)
  have lS_7 : kS < W7.heap.size := Nat.lt_of_lt_of_le lS_6 hb.size
  clear hE_6 rF_6 rG_6 R_6 lR_6 rQ_6 rX_6 rU_6 rV_6 rA_6 rB_6 S_6 lS_6
  clear hb
  obtain ⟨aP, cP, hsh, _, _⟩ := ho1.rd
  subst hsh
  have rP_7 : Hid (rdI W7 (.slice aP P.length cP) P) := hid (ho1.rd)
  clear ho1
  go_wp2_with fail
  refine (MS.out _ (rA_7.out) (rB_7.out)).mono ?_
  rintro e W8 ⟨v1, rfl, ho1, hb⟩
  have hE_8 : Hid (Ext w.heap.size w W8) := hid (hE_7.out.below hb)
  have rF_8 : Hid (rdI W8 (.slice aF F.length cF) F) := hid (rF_7.out.below hb)
  have rG_8 : Hid (rdI W8 (.slice aG G.length cG) G) := hid (rG_7.out.below hb)
  have R_8 : ∀ o, W8.cell? ⟨kR, o, none⟩ = #[Value.int .i64 p1, .int .i64 n1][o]? := fun o => (hb.cell (p := ⟨kR, o, none⟩) lR_7).trans (R_7 o)
  have lR_8 : kR < W8.heap.size := Nat.lt_of_lt_of_le lR_7 hb.size
  have rQ_8 : Hid (rdI W8 (.slice aQ Q.length cQ) Q) := hid (rQ_7.out.below hb)
  have rX_8 : Hid (rdI W8 (.slice aX X.length cX) X) := hid (rX_7.out.below hb)
  have rU_8 : Hid (rdI W8 (.slice aU Q.length cU) Q) := hid (rU_7.out.below hb)
  have rV_8 : Hid (rdI W8 (.slice aV X.length cV) X) := hid (rV_7.out.below hb)
  have rA_8 : Hid (rdI W8 (.slice aA A.length cA) A) := hid (rA_7.out.below hb)
  have rB_8 : Hid (rdI W8 (.slice aB B.length cB) B) := hid (rB_7.out.below hb)
  have S_8 : ∀ o, W8.cell? ⟨kS, o, none⟩ = #[Value.int .i64 p2, .int .i64 n2][o]? := fun o => (hb.cell (p := ⟨kS, o, none⟩) lS_7).trans (S_7 o)
  have lS_8 : kS < W8.heap.size := Nat.lt_of_lt_of_le lS_7 hb.size
  have rP_8 : Hid (rdI W8 (.slice aP P.length cP) P) := hid (rP_7.out.below hb)
  clear hE_7 rF_7 rG_7 R_7 lR_7 rQ_7 rX_7 rU_7 rV_7 rA_7 rB_7 S_7 lS_7 rP_7
  clear hb
  obtain ⟨aO, cO, hsh, _, _⟩ := ho1.rd
  subst hsh
  have rO_8 : Hid (rdI W8 (.slice aO P.length cO) P) := hid (ho1.rd)
  clear ho1
  go_wp2_with fail
  clear MI MS
  refine (s_DrawImageOf w.heap.size a len cap _ (H.out.ext hE_8.out) hl hE_8.out.2).mono ?_
  rintro e W9 ⟨p3, n3, s1, H3, rfl, ho1, hhl, hb⟩
  have hE_9 : Hid (Ext w.heap.size w W9) := hid (hE_8.out.below hb)
  have rF_9 : Hid (rdI W9 (.slice aF F.length cF) F) := hid (rF_8.out.below hb)
  have rG_9 : Hid (rdI W9 (.slice aG G.length cG) G) := hid (rG_8.out.below hb)
  have R_9 : ∀ o, W9.cell? ⟨kR, o, none⟩ = #[Value.int .i64 p1, .int .i64 n1][o]? := fun o => (hb.cell (p := ⟨kR, o, none⟩) lR_8).trans (R_8 o)
  have lR_9 : kR < W9.heap.size := Nat.lt_of_lt_of_le lR_8 hb.size
  have rQ_9 : Hid (rdI W9 (.slice aQ Q.length cQ) Q) := hid (rQ_8.out.below hb)
  have rX_9 : Hid (rdI W9 (.slice aX X.length cX) X) := hid (rX_8.out.below hb)
  have rU_9 : Hid (rdI W9 (.slice aU Q.length cU) Q) := hid (rU_8.out.below hb)
  have rV_9 : Hid (rdI W9 (.slice aV X.length cV) X) := hid (rV_8.out.below hb)
  have rA_9 : Hid (rdI W9 (.slice aA A.length cA) A) := hid (rA_8.out.below hb)
  have rB_9 : Hid (rdI W9 (.slice aB B.length cB) B) := hid (rB_8.out.below hb)
  have S_9 : ∀ o, W9.cell? ⟨kS, o, none⟩ = #[Value.int .i64 p2, .int .i64 n2][o]? := fun o => (hb.cell (p := ⟨kS, o, none⟩) lS_8).trans (S_8 o)
  have lS_9 : kS < W9.heap.size := Nat.lt_of_lt_of_le lS_8 hb.size
  have rP_9 : Hid (rdI W9 (.slice aP P.length cP) P) := hid (rP_8.out.below hb)
  have rO_9 : Hid (rdI W9 (.slice aO P.length cO) P) := hid (rO_8.out.below hb)
  clear hE_8 rF_8 rG_8 R_8 lR_8 rQ_8 rX_8 rU_8 rV_8 rA_8 rB_8 S_8 lS_8 rP_8 rO_8
  clear hb
  obtain ⟨aH3, cH3, hsh, _, _⟩ := ho1.rd
  subst hsh
  have rH3_9 : Hid (rdI W9 (.slice aH3 H3.length cH3) H3) := hid (ho1.rd)
  clear ho1 hhl
  obtain ⟨I, CI, hIq⟩ : ∃ a b, imgF p3 n3 H3 = (a, b) := ⟨_, _, rfl⟩
  have II : Hid (∀ W, rdI W (.slice aH3 H3.length cH3) H3 → Calls Try.prog 13 #[.agg #[.int .i64 p3, .int .i64 n3], (.slice aH3 H3.length cH3)] W fun e w' => ∃ v, e = .returned (.tuple #[v, .int .i64 CI]) ∧ ownR W.heap.size w' v I ∧ Below W.heap.size W w') := hid fun W q0 => by have := i_ImageOf p3 n3 _ H3 W q0; rw [hIq] at this; exact this
  have IS : Hid (∀ W, rdI W (.slice aH3 H3.length cH3) H3 → Calls Try.prog 14 #[.agg #[.int .i64 p3, .int .i64 n3], (.slice aH3 H3.length cH3)] W fun e w' => ∃ v, e = .returned (.tuple #[v, .int .i64 CI]) ∧ ownR W.heap.size w' v I ∧ Below W.heap.size W w') := hid fun W q0 => by have := s_ImageOf p3 n3 _ H3 W q0; rw [hIq] at this; exact this
  clear hIq
  go_wp2_with fail
  obtain ⟨W10, hW10⟩ : ∃ X, X = W9.alloc (Obj.cells #[Value.int .i64 p3, .int .i64 n3] 25) := ⟨_, rfl⟩
  obtain ⟨kU3, hkU3⟩ : ∃ k, k = W9.heap.size := ⟨_, rfl⟩
  have hba : Below W9.heap.size W9 W10 := by rw [hW10]; exact (Below.refl _ _).alloc (Nat.le_refl _) _
  have cn : ∀ o, W10.cell? ⟨kU3, o, none⟩ = #[Value.int .i64 p3, .int .i64 n3][o]? := fun o => by rw [hW10, hkU3, alloc_cell, if_pos rfl]
  have ln : kU3 < W10.heap.size := by rw [hW10, hkU3]; simp
  rw [← hW10, ← hkU3]
  clear hW10 hkU3
  have hE_10 : Hid (Ext w.heap.size w W10) := hid (hE_9.out.below hba)
  have rF_10 : Hid (rdI W10 (.slice aF F.length cF) F) := hid (rF_9.out.below hba)
  have rG_10 : Hid (rdI W10 (.slice aG G.length cG) G) := hid (rG_9.out.below hba)
  have R_10 : ∀ o, W10.cell? ⟨kR, o, none⟩ = #[Value.int .i64 p1, .int .i64 n1][o]? := fun o => (hba.cell (p := ⟨kR, o, none⟩) lR_9).trans (R_9 o)
  have lR_10 : kR < W10.heap.size := Nat.lt_of_lt_of_le lR_9 hba.size
  have rQ_10 : Hid (rdI W10 (.slice aQ Q.length cQ) Q) := hid (rQ_9.out.below hba)
  have rX_10 : Hid (rdI W10 (.slice aX X.length cX) X) := hid (rX_9.out.below hba)
  have rU_10 : Hid (rdI W10 (.slice aU Q.length cU) Q) := hid (rU_9.out.below hba)
  have rV_10 : Hid (rdI W10 (.slice aV X.length cV) X) := hid (rV_9.out.below hba)
  have rA_10 : Hid (rdI W10 (.slice aA A.length cA) A) := hid (rA_9.out.below hba)
  have rB_10 : Hid (rdI W10 (.slice aB B.length cB) B) := hid (rB_9.out.below hba)
  have S_10 : ∀ o, W10.cell? ⟨kS, o, none⟩ = #[Value.int .i64 p2, .int .i64 n2][o]? := fun o => (hba.cell (p := ⟨kS, o, none⟩) lS_9).trans (S_9 o)
  have lS_10 : kS < W10.heap.size := Nat.lt_of_lt_of_le lS_9 hba.size
  have rP_10 : Hid (rdI W10 (.slice aP P.length cP) P) := hid (rP_9.out.below hba)
  have rO_10 : Hid (rdI W10 (.slice aO P.length cO) P) := hid (rO_9.out.below hba)
  have rH3_10 : Hid (rdI W10 (.slice aH3 H3.length cH3) H3) := hid (rH3_9.out.below hba)
  clear hE_9 rF_9 rG_9 R_9 lR_9 rQ_9 rX_9 rU_9 rV_9 rA_9 rB_9 S_9 lS_9 rP_9 rO_9 rH3_9
  have U3_10 := cn
  have lU3_10 := ln
  clear cn ln hba
  refine (II.out _ (rH3_10.out)).mono ?_
  rintro e W11 ⟨v1, rfl, ho1, hb⟩
  have hE_11 : Hid (Ext w.heap.size w W11) := hid (hE_10.out.below hb)
  have rF_11 : Hid (rdI W11 (.slice aF F.length cF) F) := hid (rF_10.out.below hb)
  have rG_11 : Hid (rdI W11 (.slice aG G.length cG) G) := hid (rG_10.out.below hb)
  have R_11 : ∀ o, W11.cell? ⟨kR, o, none⟩ = #[Value.int .i64 p1, .int .i64 n1][o]? := fun o => (hb.cell (p := ⟨kR, o, none⟩) lR_10).trans (R_10 o)
  have lR_11 : kR < W11.heap.size := Nat.lt_of_lt_of_le lR_10 hb.size
  have rQ_11 : Hid (rdI W11 (.slice aQ Q.length cQ) Q) := hid (rQ_10.out.below hb)
  have rX_11 : Hid (rdI W11 (.slice aX X.length cX) X) := hid (rX_10.out.below hb)
  have rU_11 : Hid (rdI W11 (.slice aU Q.length cU) Q) := hid (rU_10.out.below hb)
  have rV_11 : Hid (rdI W11 (.slice aV X.length cV) X) := hid (rV_10.out.below hb)
  have rA_11 : Hid (rdI W11 (.slice aA A.length cA) A) := hid (rA_10.out.below hb)
  have rB_11 : Hid (rdI W11 (.slice aB B.length cB) B) := hid (rB_10.out.below hb)
  have S_11 : ∀ o, W11.cell? ⟨kS, o, none⟩ = #[Value.int .i64 p2, .int .i64 n2][o]? := fun o => (hb.cell (p := ⟨kS, o, none⟩) lS_10).trans (S_10 o)
  have lS_11 : kS < W11.heap.size := Nat.lt_of_lt_of_le lS_10 hb.size
  have rP_11 : Hid (rdI W11 (.slice aP P.length cP) P) := hid (rP_10.out.below hb)
  have rO_11 : Hid (rdI W11 (.slice aO P.length cO) P) := hid (rO_10.out.below hb)
  have rH3_11 : Hid (rdI W11 (.slice aH3 H3.length cH3) H3) := hid (rH3_10.out.below hb)
  have U3_11 : ∀ o, W11.cell? ⟨kU3, o, none⟩ = #[Value.int .i64 p3, .int .i64 n3][o]? := fun o => (hb.cell (p := ⟨kU3, o, none⟩) lU3_10).trans (U3_10 o)
  have lU3_11 : kU3 < W11.heap.size := Nat.lt_of_lt_of_le lU3_10 hb.size
  clear hE_10 rF_10 rG_10 R_10 lR_10 rQ_10 rX_10 rU_10 rV_10 rA_10 rB_10 S_10 lS_10 rP_10 rO_10 rH3_10 U3_10 lU3_10
  clear hb
  obtain ⟨aI, cI, hsh, _, _⟩ := ho1.rd
  subst hsh
  have rI_11 : Hid (rdI W11 (.slice aI I.length cI) I) := hid (ho1.rd)
  clear ho1
  go_wp2_with fail
  refine (IS.out _ (rH3_11.out)).mono ?_
  rintro e W12 ⟨v1, rfl, ho1, hb⟩
  have hE_12 : Hid (Ext w.heap.size w W12) := hid (hE_11.out.below hb)
  have rF_12 : Hid (rdI W12 (.slice aF F.length cF) F) := hid (rF_11.out.below hb)
  have rG_12 : Hid (rdI W12 (.slice aG G.length cG) G) := hid (rG_11.out.below hb)
  have R_12 : ∀ o, W12.cell? ⟨kR, o, none⟩ = #[Value.int .i64 p1, .int .i64 n1][o]? := fun o => (hb.cell (p := ⟨kR, o, none⟩) lR_11).trans (R_11 o)
  have lR_12 : kR < W12.heap.size := Nat.lt_of_lt_of_le lR_11 hb.size
  have rQ_12 : Hid (rdI W12 (.slice aQ Q.length cQ) Q) := hid (rQ_11.out.below hb)
  have rX_12 : Hid (rdI W12 (.slice aX X.length cX) X) := hid (rX_11.out.below hb)
  have rU_12 : Hid (rdI W12 (.slice aU Q.length cU) Q) := hid (rU_11.out.below hb)
  have rV_12 : Hid (rdI W12 (.slice aV X.length cV) X) := hid (rV_11.out.below hb)
  have rA_12 : Hid (rdI W12 (.slice aA A.length cA) A) := hid (rA_11.out.below hb)
  have rB_12 : Hid (rdI W12 (.slice aB B.length cB) B) := hid (rB_11.out.below hb)
  have S_12 : ∀ o, W12.cell? ⟨kS, o, none⟩ = #[Value.int .i64 p2, .int .i64 n2][o]? := fun o => (hb.cell (p := ⟨kS, o, none⟩) lS_11).trans (S_11 o)
  have lS_12 : kS < W12.heap.size := Nat.lt_of_lt_of_le lS_11 hb.size
  have rP_12 : Hid (rdI W12 (.slice aP P.length cP) P) := hid (rP_11.out.below hb)
  have rO_12 : Hid (rdI W12 (.slice aO P.length cO) P) := hid (rO_11.out.below hb)
  have rH3_12 : Hid (rdI W12 (.slice aH3 H3.length cH3) H3) := hid (rH3_11.out.below hb)
  have U3_12 : ∀ o, W12.cell? ⟨kU3, o, none⟩ = #[Value.int .i64 p3, .int .i64 n3][o]? := fun o => (hb.cell (p := ⟨kU3, o, none⟩) lU3_11).trans (U3_11 o)
  have lU3_12 : kU3 < W12.heap.size := Nat.lt_of_lt_of_le lU3_11 hb.size
  have rI_12 : Hid (rdI W12 (.slice aI I.length cI) I) := hid (rI_11.out.below hb)
  clear hE_11 rF_11 rG_11 R_11 lR_11 rQ_11 rX_11 rU_11 rV_11 rA_11 rB_11 S_11 lS_11 rP_11 rO_11 rH3_11 U3_11 lU3_11 rI_11
  clear hb
  obtain ⟨aJ, cJ, hsh, _, _⟩ := ho1.rd
  subst hsh
  have rJ_12 : Hid (rdI W12 (.slice aJ I.length cJ) I) := hid (ho1.rd)
  clear ho1
  go_wp2_with fail
  clear II IS
  refine (s_DrawReduceToRing w.heap.size a len cap _ (H.out.ext hE_12.out) hl hE_12.out.2).mono ?_
  rintro e W13 ⟨p4, n4, s1, K, rfl, ho1, hhl, hb⟩
  have hE_13 : Hid (Ext w.heap.size w W13) := hid (hE_12.out.below hb)
  have rF_13 : Hid (rdI W13 (.slice aF F.length cF) F) := hid (rF_12.out.below hb)
  have rG_13 : Hid (rdI W13 (.slice aG G.length cG) G) := hid (rG_12.out.below hb)
  have R_13 : ∀ o, W13.cell? ⟨kR, o, none⟩ = #[Value.int .i64 p1, .int .i64 n1][o]? := fun o => (hb.cell (p := ⟨kR, o, none⟩) lR_12).trans (R_12 o)
  have lR_13 : kR < W13.heap.size := Nat.lt_of_lt_of_le lR_12 hb.size
  have rQ_13 : Hid (rdI W13 (.slice aQ Q.length cQ) Q) := hid (rQ_12.out.below hb)
  have rX_13 : Hid (rdI W13 (.slice aX X.length cX) X) := hid (rX_12.out.below hb)
  have rU_13 : Hid (rdI W13 (.slice aU Q.length cU) Q) := hid (rU_12.out.below hb)
  have rV_13 : Hid (rdI W13 (.slice aV X.length cV) X) := hid (rV_12.out.below hb)
  have rA_13 : Hid (rdI W13 (.slice aA A.length cA) A) := hid (rA_12.out.below hb)
  have rB_13 : Hid (rdI W13 (.slice aB B.length cB) B) := hid (rB_12.out.below hb)
  have S_13 : ∀ o, W13.cell? ⟨kS, o, none⟩ = #[Value.int .i64 p2, .int .i64 n2][o]? := fun o => (hb.cell (p := ⟨kS, o, none⟩) lS_12).trans (S_12 o)
  have lS_13 : kS < W13.heap.size := Nat.lt_of_lt_of_le lS_12 hb.size
  have rP_13 : Hid (rdI W13 (.slice aP P.length cP) P) := hid (rP_12.out.below hb)
  have rO_13 : Hid (rdI W13 (.slice aO P.length cO) P) := hid (rO_12.out.below hb)
  have rH3_13 : Hid (rdI W13 (.slice aH3 H3.length cH3) H3) := hid (rH3_12.out.below hb)
  have U3_13 : ∀ o, W13.cell? ⟨kU3, o, none⟩ = #[Value.int .i64 p3, .int .i64 n3][o]? := fun o => (hb.cell (p := ⟨kU3, o, none⟩) lU3_12).trans (U3_12 o)
  have lU3_13 : kU3 < W13.heap.size := Nat.lt_of_lt_of_le lU3_12 hb.size
  have rI_13 : Hid (rdI W13 (.slice aI I.length cI) I) := hid (rI_12.out.below hb)
  have rJ_13 : Hid (rdI W13 (.slice aJ I.length cJ) I) := hid (rJ_12.out.below hb)
  clear hE_12 rF_12 rG_12 R_12 lR_12 rQ_12 rX_12 rU_12 rV_12 rA_12 rB_12 S_12 lS_12 rP_12 rO_12 rH3_12 U3_12 lU3_12 rI_12 rJ_12
  clear hb
  obtain ⟨aK, cK, hsh, _, _⟩ := ho1.rd
  subst hsh
  have rK_13 : Hid (rdI W13 (.slice aK K.length cK) K) := hid (ho1.rd)
  clear ho1 hhl
  obtain ⟨Y, CY, hIq⟩ : ∃ a b, redToF p4 n4 K = (a, b) := ⟨_, _, rfl⟩
  have II : Hid (∀ W, rdI W (.slice aK K.length cK) K → Calls Try.prog 16 #[.agg #[.int .i64 p4, .int .i64 n4], (.slice aK K.length cK)] W fun e w' => ∃ v, e = .returned (.tuple #[v, .int .i64 CY]) ∧ ownR W.heap.size w' v Y ∧ Below W.heap.size W w') := hid fun W q0 => by have := i_ReduceToRing p4 n4 _ K W q0; rw [hIq] at this; exact this
  have IS : Hid (∀ W, rdI W (.slice aK K.length cK) K → Calls Try.prog 17 #[.agg #[.int .i64 p4, .int .i64 n4], (.slice aK K.length cK)] W fun e w' => ∃ v, e = .returned (.tuple #[v, .int .i64 CY]) ∧ ownR W.heap.size w' v Y ∧ Below W.heap.size W w') := hid fun W q0 => by have := s_ReduceToRing p4 n4 _ K W q0; rw [hIq] at this; exact this
  have HYR : Hid (CY = 0 → inRingB p4 n4 Y = true) := hid fun e => by subst e; exact redTo_in hIq
  clear hIq
  go_wp2_with fail
  obtain ⟨W14, hW14⟩ : ∃ X, X = W13.alloc (Obj.cells #[Value.int .i64 p4, .int .i64 n4] 25) := ⟨_, rfl⟩
  obtain ⟨kV4, hkV4⟩ : ∃ k, k = W13.heap.size := ⟨_, rfl⟩
  have hba : Below W13.heap.size W13 W14 := by rw [hW14]; exact (Below.refl _ _).alloc (Nat.le_refl _) _
  have cn : ∀ o, W14.cell? ⟨kV4, o, none⟩ = #[Value.int .i64 p4, .int .i64 n4][o]? := fun o => by rw [hW14, hkV4, alloc_cell, if_pos rfl]
  have ln : kV4 < W14.heap.size := by rw [hW14, hkV4]; simp
  rw [← hW14, ← hkV4]
  clear hW14 hkV4
  have hE_14 : Hid (Ext w.heap.size w W14) := hid (hE_13.out.below hba)
  have rF_14 : Hid (rdI W14 (.slice aF F.length cF) F) := hid (rF_13.out.below hba)
  have rG_14 : Hid (rdI W14 (.slice aG G.length cG) G) := hid (rG_13.out.below hba)
  have R_14 : ∀ o, W14.cell? ⟨kR, o, none⟩ = #[Value.int .i64 p1, .int .i64 n1][o]? := fun o => (hba.cell (p := ⟨kR, o, none⟩) lR_13).trans (R_13 o)
  have lR_14 : kR < W14.heap.size := Nat.lt_of_lt_of_le lR_13 hba.size
  have rQ_14 : Hid (rdI W14 (.slice aQ Q.length cQ) Q) := hid (rQ_13.out.below hba)
  have rX_14 : Hid (rdI W14 (.slice aX X.length cX) X) := hid (rX_13.out.below hba)
  have rU_14 : Hid (rdI W14 (.slice aU Q.length cU) Q) := hid (rU_13.out.below hba)
  have rV_14 : Hid (rdI W14 (.slice aV X.length cV) X) := hid (rV_13.out.below hba)
  have rA_14 : Hid (rdI W14 (.slice aA A.length cA) A) := hid (rA_13.out.below hba)
  have rB_14 : Hid (rdI W14 (.slice aB B.length cB) B) := hid (rB_13.out.below hba)
  have S_14 : ∀ o, W14.cell? ⟨kS, o, none⟩ = #[Value.int .i64 p2, .int .i64 n2][o]? := fun o => (hba.cell (p := ⟨kS, o, none⟩) lS_13).trans (S_13 o)
  have lS_14 : kS < W14.heap.size := Nat.lt_of_lt_of_le lS_13 hba.size
  have rP_14 : Hid (rdI W14 (.slice aP P.length cP) P) := hid (rP_13.out.below hba)
  have rO_14 : Hid (rdI W14 (.slice aO P.length cO) P) := hid (rO_13.out.below hba)
  have rH3_14 : Hid (rdI W14 (.slice aH3 H3.length cH3) H3) := hid (rH3_13.out.below hba)
  have U3_14 : ∀ o, W14.cell? ⟨kU3, o, none⟩ = #[Value.int .i64 p3, .int .i64 n3][o]? := fun o => (hba.cell (p := ⟨kU3, o, none⟩) lU3_13).trans (U3_13 o)
  have lU3_14 : kU3 < W14.heap.size := Nat.lt_of_lt_of_le lU3_13 hba.size
  have rI_14 : Hid (rdI W14 (.slice aI I.length cI) I) := hid (rI_13.out.below hba)
  have rJ_14 : Hid (rdI W14 (.slice aJ I.length cJ) I) := hid (rJ_13.out.below hba)
  have rK_14 : Hid (rdI W14 (.slice aK K.length cK) K) := hid (rK_13.out.below hba)
  clear hE_13 rF_13 rG_13 R_13 lR_13 rQ_13 rX_13 rU_13 rV_13 rA_13 rB_13 S_13 lS_13 rP_13 rO_13 rH3_13 U3_13 lU3_13 rI_13 rJ_13 rK_13
  have V4_14 := cn
  have lV4_14 := ln
  clear cn ln hba
  refine (II.out _ (rK_14.out)).mono ?_
  rintro e W15 ⟨v1, rfl, ho1, hb⟩
  have hE_15 : Hid (Ext w.heap.size w W15) := hid (hE_14.out.below hb)
  have rF_15 : Hid (rdI W15 (.slice aF F.length cF) F) := hid (rF_14.out.below hb)
  have rG_15 : Hid (rdI W15 (.slice aG G.length cG) G) := hid (rG_14.out.below hb)
  have R_15 : ∀ o, W15.cell? ⟨kR, o, none⟩ = #[Value.int .i64 p1, .int .i64 n1][o]? := fun o => (hb.cell (p := ⟨kR, o, none⟩) lR_14).trans (R_14 o)
  have lR_15 : kR < W15.heap.size := Nat.lt_of_lt_of_le lR_14 hb.size
  have rQ_15 : Hid (rdI W15 (.slice aQ Q.length cQ) Q) := hid (rQ_14.out.below hb)
  have rX_15 : Hid (rdI W15 (.slice aX X.length cX) X) := hid (rX_14.out.below hb)
  have rU_15 : Hid (rdI W15 (.slice aU Q.length cU) Q) := hid (rU_14.out.below hb)
  have rV_15 : Hid (rdI W15 (.slice aV X.length cV) X) := hid (rV_14.out.below hb)
  have rA_15 : Hid (rdI W15 (.slice aA A.length cA) A) := hid (rA_14.out.below hb)
  have rB_15 : Hid (rdI W15 (.slice aB B.length cB) B) := hid (rB_14.out.below hb)
  have S_15 : ∀ o, W15.cell? ⟨kS, o, none⟩ = #[Value.int .i64 p2, .int .i64 n2][o]? := fun o => (hb.cell (p := ⟨kS, o, none⟩) lS_14).trans (S_14 o)
  have lS_15 : kS < W15.heap.size := Nat.lt_of_lt_of_le lS_14 hb.size
  have rP_15 : Hid (rdI W15 (.slice aP P.length cP) P) := hid (rP_14.out.below hb)
  have rO_15 : Hid (rdI W15 (.slice aO P.length cO) P) := hid (rO_14.out.below hb)
  have rH3_15 : Hid (rdI W15 (.slice aH3 H3.length cH3) H3) := hid (rH3_14.out.below hb)
  have U3_15 : ∀ o, W15.cell? ⟨kU3, o, none⟩ = #[Value.int .i64 p3, .int .i64 n3][o]? := fun o => (hb.cell (p := ⟨kU3, o, none⟩) lU3_14).trans (U3_14 o)
  have lU3_15 : kU3 < W15.heap.size := Nat.lt_of_lt_of_le lU3_14 hb.size
  have rI_15 : Hid (rdI W15 (.slice aI I.length cI) I) := hid (rI_14.out.below hb)
  have rJ_15 : Hid (rdI W15 (.slice aJ I.length cJ) I) := hid (rJ_14.out.below hb)
  have rK_15 : Hid (rdI W15 (.slice aK K.length cK) K) := hid (rK_14.out.below hb)
  have V4_15 : ∀ o, W15.cell? ⟨kV4, o, none⟩ = #[Value.int .i64 p4, .int .i64 n4][o]? := fun o => (hb.cell (p := ⟨kV4, o, none⟩) lV4_14).trans (V4_14 o)
  have lV4_15 : kV4 < W15.heap.size := Nat.lt_of_lt_of_le lV4_14 hb.size
  clear hE_14 rF_14 rG_14 R_14 lR_14 rQ_14 rX_14 rU_14 rV_14 rA_14 rB_14 S_14 lS_14 rP_14 rO_14 rH3_14 U3_14 lU3_14 rI_14 rJ_14 rK_14 V4_14 lV4_14
  clear hb
  obtain ⟨aY, cY, hsh, _, _⟩ := ho1.rd
  subst hsh
  have rY_15 : Hid (rdI W15 (.slice aY Y.length cY) Y) := hid (ho1.rd)
  clear ho1
  go_wp2_with fail
  refine (IS.out _ (rK_15.out)).mono ?_
  rintro e W16 ⟨v1, rfl, ho1, hb⟩
  have hE_16 : Hid (Ext w.heap.size w W16) := hid (hE_15.out.below hb)
  have rF_16 : Hid (rdI W16 (.slice aF F.length cF) F) := hid (rF_15.out.below hb)
  have rG_16 : Hid (rdI W16 (.slice aG G.length cG) G) := hid (rG_15.out.below hb)
  have R_16 : ∀ o, W16.cell? ⟨kR, o, none⟩ = #[Value.int .i64 p1, .int .i64 n1][o]? := fun o => (hb.cell (p := ⟨kR, o, none⟩) lR_15).trans (R_15 o)
  have lR_16 : kR < W16.heap.size := Nat.lt_of_lt_of_le lR_15 hb.size
  have rQ_16 : Hid (rdI W16 (.slice aQ Q.length cQ) Q) := hid (rQ_15.out.below hb)
  have rX_16 : Hid (rdI W16 (.slice aX X.length cX) X) := hid (rX_15.out.below hb)
  have rU_16 : Hid (rdI W16 (.slice aU Q.length cU) Q) := hid (rU_15.out.below hb)
  have rV_16 : Hid (rdI W16 (.slice aV X.length cV) X) := hid (rV_15.out.below hb)
  have rA_16 : Hid (rdI W16 (.slice aA A.length cA) A) := hid (rA_15.out.below hb)
  have rB_16 : Hid (rdI W16 (.slice aB B.length cB) B) := hid (rB_15.out.below hb)
  have S_16 : ∀ o, W16.cell? ⟨kS, o, none⟩ = #[Value.int .i64 p2, .int .i64 n2][o]? := fun o => (hb.cell (p := ⟨kS, o, none⟩) lS_15).trans (S_15 o)
  have lS_16 : kS < W16.heap.size := Nat.lt_of_lt_of_le lS_15 hb.size
  have rP_16 : Hid (rdI W16 (.slice aP P.length cP) P) := hid (rP_15.out.below hb)
  have rO_16 : Hid (rdI W16 (.slice aO P.length cO) P) := hid (rO_15.out.below hb)
  have rH3_16 : Hid (rdI W16 (.slice aH3 H3.length cH3) H3) := hid (rH3_15.out.below hb)
  have U3_16 : ∀ o, W16.cell? ⟨kU3, o, none⟩ = #[Value.int .i64 p3, .int .i64 n3][o]? := fun o => (hb.cell (p := ⟨kU3, o, none⟩) lU3_15).trans (U3_15 o)
  have lU3_16 : kU3 < W16.heap.size := Nat.lt_of_lt_of_le lU3_15 hb.size
  have rI_16 : Hid (rdI W16 (.slice aI I.length cI) I) := hid (rI_15.out.below hb)
  have rJ_16 : Hid (rdI W16 (.slice aJ I.length cJ) I) := hid (rJ_15.out.below hb)
  have rK_16 : Hid (rdI W16 (.slice aK K.length cK) K) := hid (rK_15.out.below hb)
  have V4_16 : ∀ o, W16.cell? ⟨kV4, o, none⟩ = #[Value.int .i64 p4, .int .i64 n4][o]? := fun o => (hb.cell (p := ⟨kV4, o, none⟩) lV4_15).trans (V4_15 o)
  have lV4_16 : kV4 < W16.heap.size := Nat.lt_of_lt_of_le lV4_15 hb.size
  have rY_16 : Hid (rdI W16 (.slice aY Y.length cY) Y) := hid (rY_15.out.below hb)
  clear hE_15 rF_15 rG_15 R_15 lR_15 rQ_15 rX_15 rU_15 rV_15 rA_15 rB_15 S_15 lS_15 rP_15 rO_15 rH3_15 U3_15 lU3_15 rI_15 rJ_15 rK_15 V4_15 lV4_15 rY_15
  clear hb
  obtain ⟨aZ, cZ, hsh, _, _⟩ := ho1.rd
  subst hsh
  have rZ_16 : Hid (rdI W16 (.slice aZ Y.length cZ) Y) := hid (ho1.rd)
  clear ho1
  go_wp2_with fail
  clear II IS
  obtain ⟨TB, hTB⟩ : ∃ t, inRingB p3 n3 H3 = t := ⟨_, rfl⟩
  have HII : Hid (∀ W, rdI W (.slice aH3 H3.length cH3) H3 → Calls Try.prog 19 #[.agg #[.int .i64 p3, .int .i64 n3], (.slice aH3 H3.length cH3)] W fun e w' => e = .returned (.bool TB) ∧ Below W.heap.size W w') := hid fun W q => by have := i_IsInRing p3 n3 _ H3 W q; rw [hTB] at this; exact this
  have HIS : Hid (∀ W, rdI W (.slice aH3 H3.length cH3) H3 → Calls Try.prog 20 #[.agg #[.int .i64 p3, .int .i64 n3], (.slice aH3 H3.length cH3)] W fun e w' => e = .returned (.bool TB) ∧ Below W.heap.size W w') := hid fun W q => by have := s_IsInRing p3 n3 _ H3 W q; rw [hTB] at this; exact this
  clear hTB
  have u0 := U3_16 0
  have u1 := U3_16 1
  simp at u0 u1
  refine wp_region_calm (by kernel_rfl) (by kernel_rfl) ?_
  repeat (go_big_quiet_step (first | (go_at_call 18; refine calm (l_like _ _ _ _ (by with_reducible first | exact (rQ_16.out).aft _ | exact (rU_16.out).aft _ | exact (rX_16.out).aft _ | exact (rV_16.out).aft _ | exact (rP_16.out).aft _ | exact (rO_16.out).aft _ | exact (rI_16.out).aft _ | exact (rJ_16.out).aft _ | exact (rY_16.out).aft _ | exact (rZ_16.out).aft _) (by with_reducible first | exact (rQ_16.out).aft _ | exact (rU_16.out).aft _ | exact (rX_16.out).aft _ | exact (rV_16.out).aft _ | exact (rP_16.out).aft _ | exact (rO_16.out).aft _ | exact (rI_16.out).aft _ | exact (rJ_16.out).aft _ | exact (rY_16.out).aft _ | exact (rZ_16.out).aft _))) | (go_at_call 19; exact calm (HII.out _ (rH3_16.out.aft _))) | (go_at_call 20; exact calm (HIS.out _ (rH3_16.out.aft _)))))
  refine wpQuiet_nil ?_; intro uq zq; try simp at zq
  obtain ⟨W17, hW17⟩ : ∃ X, X = aft W16 uq := ⟨_, rfl⟩
  have hba : Below W16.heap.size W16 W17 := by rw [hW17]; exact below_aft _ _
  rw [← hW17]
  clear hW17 u0 u1 HII HIS
  have hE_17 : Hid (Ext w.heap.size w W17) := hid (hE_16.out.below hba)
  have rF_17 : Hid (rdI W17 (.slice aF F.length cF) F) := hid (rF_16.out.below hba)
  have rG_17 : Hid (rdI W17 (.slice aG G.length cG) G) := hid (rG_16.out.below hba)
  have R_17 : ∀ o, W17.cell? ⟨kR, o, none⟩ = #[Value.int .i64 p1, .int .i64 n1][o]? := fun o => (hba.cell (p := ⟨kR, o, none⟩) lR_16).trans (R_16 o)
  have lR_17 : kR < W17.heap.size := Nat.lt_of_lt_of_le lR_16 hba.size
  have rQ_17 : Hid (rdI W17 (.slice aQ Q.length cQ) Q) := hid (rQ_16.out.below hba)
  have rX_17 : Hid (rdI W17 (.slice aX X.length cX) X) := hid (rX_16.out.below hba)
  have rU_17 : Hid (rdI W17 (.slice aU Q.length cU) Q) := hid (rU_16.out.below hba)
  have rV_17 : Hid (rdI W17 (.slice aV X.length cV) X) := hid (rV_16.out.below hba)
  have rA_17 : Hid (rdI W17 (.slice aA A.length cA) A) := hid (rA_16.out.below hba)
  have rB_17 : Hid (rdI W17 (.slice aB B.length cB) B) := hid (rB_16.out.below hba)
  have S_17 : ∀ o, W17.cell? ⟨kS, o, none⟩ = #[Value.int .i64 p2, .int .i64 n2][o]? := fun o => (hba.cell (p := ⟨kS, o, none⟩) lS_16).trans (S_16 o)
  have lS_17 : kS < W17.heap.size := Nat.lt_of_lt_of_le lS_16 hba.size
  have rP_17 : Hid (rdI W17 (.slice aP P.length cP) P) := hid (rP_16.out.below hba)
  have rO_17 : Hid (rdI W17 (.slice aO P.length cO) P) := hid (rO_16.out.below hba)
  have rH3_17 : Hid (rdI W17 (.slice aH3 H3.length cH3) H3) := hid (rH3_16.out.below hba)
  have U3_17 : ∀ o, W17.cell? ⟨kU3, o, none⟩ = #[Value.int .i64 p3, .int .i64 n3][o]? := fun o => (hba.cell (p := ⟨kU3, o, none⟩) lU3_16).trans (U3_16 o)
  have lU3_17 : kU3 < W17.heap.size := Nat.lt_of_lt_of_le lU3_16 hba.size
  have rI_17 : Hid (rdI W17 (.slice aI I.length cI) I) := hid (rI_16.out.below hba)
  have rJ_17 : Hid (rdI W17 (.slice aJ I.length cJ) I) := hid (rJ_16.out.below hba)
  have rK_17 : Hid (rdI W17 (.slice aK K.length cK) K) := hid (rK_16.out.below hba)
  have V4_17 : ∀ o, W17.cell? ⟨kV4, o, none⟩ = #[Value.int .i64 p4, .int .i64 n4][o]? := fun o => (hba.cell (p := ⟨kV4, o, none⟩) lV4_16).trans (V4_16 o)
  have lV4_17 : kV4 < W17.heap.size := Nat.lt_of_lt_of_le lV4_16 hba.size
  have rY_17 : Hid (rdI W17 (.slice aY Y.length cY) Y) := hid (rY_16.out.below hba)
  have rZ_17 : Hid (rdI W17 (.slice aZ Y.length cZ) Y) := hid (rZ_16.out.below hba)
  clear hE_16 rF_16 rG_16 R_16 lR_16 rQ_16 rX_16 rU_16 rV_16 rA_16 rB_16 S_16 lS_16 rP_16 rO_16 rH3_16 U3_16 lU3_16 rI_16 rJ_16 rK_16 V4_16 lV4_16 rY_16 rZ_16
  clear hba
  by_cases hCY : CY = 0
  case neg =>
    have hCYn : (CY == 0) = false := by simpa using hCY
    by_cases hCD : CD = 0
    case neg =>
      have hCDn : (CD != 0) = true := by simpa using hCD
      go_wp2_with fail
      go_ret
      exact ⟨rfl, hE_17.out.1⟩
    subst hCD
    obtain ⟨M, hM, hMl, hMb, hXl, hXb, hTF, hXG, hrg⟩ := HLAW.out rfl
    clear HLAW
    go_wp2_with fail
    have hcon := i_MultiplyInRing p1 n1 _ _ G Q _ (rG_17.out) (rQ_17.out)
    rw [hM] at hcon
    clear hM
    refine (hcon).mono ?_
    rintro e W18 ⟨v1, rfl, ho1, hb⟩
    have hE_18 : Hid (Ext w.heap.size w W18) := hid (hE_17.out.below hb)
    have rF_18 : Hid (rdI W18 (.slice aF F.length cF) F) := hid (rF_17.out.below hb)
    have rG_18 : Hid (rdI W18 (.slice aG G.length cG) G) := hid (rG_17.out.below hb)
    have R_18 : ∀ o, W18.cell? ⟨kR, o, none⟩ = #[Value.int .i64 p1, .int .i64 n1][o]? := fun o => (hb.cell (p := ⟨kR, o, none⟩) lR_17).trans (R_17 o)
    have lR_18 : kR < W18.heap.size := Nat.lt_of_lt_of_le lR_17 hb.size
    have rQ_18 : Hid (rdI W18 (.slice aQ Q.length cQ) Q) := hid (rQ_17.out.below hb)
    have rX_18 : Hid (rdI W18 (.slice aX X.length cX) X) := hid (rX_17.out.below hb)
    have rU_18 : Hid (rdI W18 (.slice aU Q.length cU) Q) := hid (rU_17.out.below hb)
    have rV_18 : Hid (rdI W18 (.slice aV X.length cV) X) := hid (rV_17.out.below hb)
    have rA_18 : Hid (rdI W18 (.slice aA A.length cA) A) := hid (rA_17.out.below hb)
    have rB_18 : Hid (rdI W18 (.slice aB B.length cB) B) := hid (rB_17.out.below hb)
    have S_18 : ∀ o, W18.cell? ⟨kS, o, none⟩ = #[Value.int .i64 p2, .int .i64 n2][o]? := fun o => (hb.cell (p := ⟨kS, o, none⟩) lS_17).trans (S_17 o)
    have lS_18 : kS < W18.heap.size := Nat.lt_of_lt_of_le lS_17 hb.size
    have rP_18 : Hid (rdI W18 (.slice aP P.length cP) P) := hid (rP_17.out.below hb)
    have rO_18 : Hid (rdI W18 (.slice aO P.length cO) P) := hid (rO_17.out.below hb)
    have rH3_18 : Hid (rdI W18 (.slice aH3 H3.length cH3) H3) := hid (rH3_17.out.below hb)
    have U3_18 : ∀ o, W18.cell? ⟨kU3, o, none⟩ = #[Value.int .i64 p3, .int .i64 n3][o]? := fun o => (hb.cell (p := ⟨kU3, o, none⟩) lU3_17).trans (U3_17 o)
    have lU3_18 : kU3 < W18.heap.size := Nat.lt_of_lt_of_le lU3_17 hb.size
    have rI_18 : Hid (rdI W18 (.slice aI I.length cI) I) := hid (rI_17.out.below hb)
    have rJ_18 : Hid (rdI W18 (.slice aJ I.length cJ) I) := hid (rJ_17.out.below hb)
    have rK_18 : Hid (rdI W18 (.slice aK K.length cK) K) := hid (rK_17.out.below hb)
    have V4_18 : ∀ o, W18.cell? ⟨kV4, o, none⟩ = #[Value.int .i64 p4, .int .i64 n4][o]? := fun o => (hb.cell (p := ⟨kV4, o, none⟩) lV4_17).trans (V4_17 o)
    have lV4_18 : kV4 < W18.heap.size := Nat.lt_of_lt_of_le lV4_17 hb.size
    have rY_18 : Hid (rdI W18 (.slice aY Y.length cY) Y) := hid (rY_17.out.below hb)
    have rZ_18 : Hid (rdI W18 (.slice aZ Y.length cZ) Y) := hid (rZ_17.out.below hb)
    clear hE_17 rF_17 rG_17 R_17 lR_17 rQ_17 rX_17 rU_17 rV_17 rA_17 rB_17 S_17 lS_17 rP_17 rO_17 rH3_17 U3_17 lU3_17 rI_17 rJ_17 rK_17 V4_17 lV4_17 rY_17 rZ_17
    clear hb
    clear hcon
    obtain ⟨aM, cM, hsh, _, _⟩ := ho1.rd
    subst hsh
    have rM_18 : Hid (rdI W18 (.slice aM M.length cM) M) := hid (ho1.rd)
    clear ho1
    go_wp2_with fail
    have hcon := s_ModulusOf p1 n1 W18
    rw [show mdlF p1 n1 = (p1 ^ n1.toNat, 0) from by simp [mdlF, hrg]] at hcon
    obtain ⟨q1, q2, q3, q4, _, _, _⟩ := ring_facts2 hrg
    obtain ⟨m, hm⟩ : ∃ m, m = p1 ^ n1.toNat := ⟨_, rfl⟩
    rw [← hm] at hcon q3 q4 hMb hXb hTF
    clear hm hrg q1 q2
    refine (hcon).mono ?_
    rintro e W19 ⟨rfl, hb⟩
    have hE_19 : Hid (Ext w.heap.size w W19) := hid (hE_18.out.below hb)
    have rF_19 : Hid (rdI W19 (.slice aF F.length cF) F) := hid (rF_18.out.below hb)
    have rG_19 : Hid (rdI W19 (.slice aG G.length cG) G) := hid (rG_18.out.below hb)
    have R_19 : ∀ o, W19.cell? ⟨kR, o, none⟩ = #[Value.int .i64 p1, .int .i64 n1][o]? := fun o => (hb.cell (p := ⟨kR, o, none⟩) lR_18).trans (R_18 o)
    have lR_19 : kR < W19.heap.size := Nat.lt_of_lt_of_le lR_18 hb.size
    have rQ_19 : Hid (rdI W19 (.slice aQ Q.length cQ) Q) := hid (rQ_18.out.below hb)
    have rX_19 : Hid (rdI W19 (.slice aX X.length cX) X) := hid (rX_18.out.below hb)
    have rU_19 : Hid (rdI W19 (.slice aU Q.length cU) Q) := hid (rU_18.out.below hb)
    have rV_19 : Hid (rdI W19 (.slice aV X.length cV) X) := hid (rV_18.out.below hb)
    have rA_19 : Hid (rdI W19 (.slice aA A.length cA) A) := hid (rA_18.out.below hb)
    have rB_19 : Hid (rdI W19 (.slice aB B.length cB) B) := hid (rB_18.out.below hb)
    have S_19 : ∀ o, W19.cell? ⟨kS, o, none⟩ = #[Value.int .i64 p2, .int .i64 n2][o]? := fun o => (hb.cell (p := ⟨kS, o, none⟩) lS_18).trans (S_18 o)
    have lS_19 : kS < W19.heap.size := Nat.lt_of_lt_of_le lS_18 hb.size
    have rP_19 : Hid (rdI W19 (.slice aP P.length cP) P) := hid (rP_18.out.below hb)
    have rO_19 : Hid (rdI W19 (.slice aO P.length cO) P) := hid (rO_18.out.below hb)
    have rH3_19 : Hid (rdI W19 (.slice aH3 H3.length cH3) H3) := hid (rH3_18.out.below hb)
    have U3_19 : ∀ o, W19.cell? ⟨kU3, o, none⟩ = #[Value.int .i64 p3, .int .i64 n3][o]? := fun o => (hb.cell (p := ⟨kU3, o, none⟩) lU3_18).trans (U3_18 o)
    have lU3_19 : kU3 < W19.heap.size := Nat.lt_of_lt_of_le lU3_18 hb.size
    have rI_19 : Hid (rdI W19 (.slice aI I.length cI) I) := hid (rI_18.out.below hb)
    have rJ_19 : Hid (rdI W19 (.slice aJ I.length cJ) I) := hid (rJ_18.out.below hb)
    have rK_19 : Hid (rdI W19 (.slice aK K.length cK) K) := hid (rK_18.out.below hb)
    have V4_19 : ∀ o, W19.cell? ⟨kV4, o, none⟩ = #[Value.int .i64 p4, .int .i64 n4][o]? := fun o => (hb.cell (p := ⟨kV4, o, none⟩) lV4_18).trans (V4_18 o)
    have lV4_19 : kV4 < W19.heap.size := Nat.lt_of_lt_of_le lV4_18 hb.size
    have rY_19 : Hid (rdI W19 (.slice aY Y.length cY) Y) := hid (rY_18.out.below hb)
    have rZ_19 : Hid (rdI W19 (.slice aZ Y.length cZ) Y) := hid (rZ_18.out.below hb)
    have rM_19 : Hid (rdI W19 (.slice aM M.length cM) M) := hid (rM_18.out.below hb)
    clear hE_18 rF_18 rG_18 R_18 lR_18 rQ_18 rX_18 rU_18 rV_18 rA_18 rB_18 S_18 lS_18 rP_18 rO_18 rH3_18 U3_18 lU3_18 rI_18 rJ_18 rK_18 V4_18 lV4_18 rY_18 rZ_18 rM_18
    clear hb
    clear hcon
    go_wp2_with fail
    obtain ⟨i0, hi, hz0, hz1, hz2⟩ := info_parts infoI
    obtain ⟨N, hN⟩ : ∃ N, N = max M.length X.length := ⟨_, rfl⟩
    rw [← hN] at hTF
    have hNM : M.length ≤ N ∧ X.length ≤ N ∧ (N = M.length ∨ N = X.length) ∧ N ≤ 9 := by omega
    have HTF := hid hTF
    have HMB := hid hMb
    have HXB := hid hXb
    have RM : Hid (rdI W19 (.slice aM M.length cM) M) := rM_19
    have RX : Hid (rdI W19 (.slice aX X.length cX) X) := rX_19
    have RF : Hid (rdI W19 (.slice aF F.length cF) F) := rF_19
    have E9 : Hid (Ext w.heap.size w W19) := hE_19
    have hXGz : (X.length : Int) < (G.length : Int) := by omega
    have hm0 : m ≠ 0 := by omega
    clear hMb hXb hTF hN hE_19 rF_19 rG_19 rQ_19 rX_19 rU_19 rV_19 rA_19 rB_19 rP_19 rO_19 rH3_19 rI_19 rJ_19 rK_19 rY_19 rZ_19 rM_19
    go_loopw [35, 36] (fun t i wr => ∃ (k : Nat) (uu : World), wr = aft W19 uu ∧ k ≤ N ∧ i = .int .i64 k ∧ Hid (ownR W19.heap.size wr t (sumF m M X k))) (fun _ i _ => N - (intOf i).toNat)
    case atStart => exact ⟨0, _, (aft_of ((Below.refl _ W19).alloc (Nat.le_refl _) _)).symm, by omega, rfl, hid (own_made W19)⟩
    case round =>
      obtain ⟨k, uu, rfl, hk, rfl, HO⟩ := hrel
      have zs := size_aft W19 uu
      by_cases hlt : k < N
      · by_cases hkM : k < M.length
        · by_cases hkX : k < X.length
          · rcases (show M.length < X.length ∨ X.length < M.length ∨ (M.length ≤ X.length ∧ X.length ≤ M.length) by omega) with hmx | hmx | ⟨hmx, hmx2⟩
            · skip
              have hkMz : (k : Int) < (M.length : Int) := by omega
              obtain ⟨b1, o1, rfl⟩ := rd_head RM.out (by intro e; rw [e] at hkM; simp at hkM)
              have h1 := rd_at (RM.out.aft uu) hkM
              have hx1 := getD_bd (b := m - 1) (by omega) HMB.out k
              obtain ⟨x1, e1⟩ : ∃ x, x = M.getD k 0 := ⟨_, rfl⟩
              rw [← e1] at h1 hx1
              have hkXz : (k : Int) < (X.length : Int) := by omega
              obtain ⟨b2, o2, rfl⟩ := rd_head RX.out (by intro e; rw [e] at hkX; simp at hkX)
              have h2 := rd_at (RX.out.aft uu) hkX
              have hx2 := getD_bd (b := m - 1) (by omega) HXB.out k
              obtain ⟨x2, e2⟩ : ∃ x, x = X.getD k 0 := ⟨_, rfl⟩
              rw [← e2] at h2 hx2
              have htm : (x1 + x2).tmod m = (x1 + x2) % m := Int.tmod_eq_emod_of_nonneg (by omega)
              have HV : Hid ((x1 + x2) % m = (M.getD k 0 + X.getD k 0) % m) := hid (by rw [← e1, ← e2])
              have HE1 := hid e1
              have HE2 := hid e2
              clear e1 e2
              have hown := HO.out
              have HSL : Hid ((sumF m M X k).length = k) := hid (sumF_len m M X k)
              go_wp2_with (at_builtin; refine wpList_append_own _ rfl _ _ 26 rfl (W19.heap.size) 2 i0 (.int .i64 0) 1 8 Try.underlying26 hi hz0 hz1 hz2 rfl (by decide) _ _ _ rfl (hown.alloc _) ⟨_, 0, none⟩ 1 1 [.int .i64 ((x1 + x2) % m)] rfl rfl ?c1k1 ?c2k1 ?c3k1 ?c4k1 ?c5k1 ?_)
              try case c1k1 => exact cell_one_new _ _ _
              case c2k1 => first | rfl | (intro u hu; simp at hu; subst hu; rfl)
              case c3k1 => first | (unfold maxLen; omega) | (rw [HSL.out]; unfold maxLen; omega)
              case c4k1 => first | omega | (rw [HSL.out]; omega)
              case c5k1 => first | omega | (simp; omega)
              intro v' w1 hown' hgrow _
              obtain ⟨u', rfl⟩ := grown_aft (W := W19) (by repeat (with_reducible first | exact Ext.refl _ | apply Ext.alloc | apply Ext.aft | apply Ext.drew | apply Ext.drewN | apply Ext.setCell | exact Nat.le_add_right _ _ | exact Nat.le_refl _ | (simp; done) | omega)) hgrow (own_row_ge hown)
              have HO1 : Hid (ownR W19.heap.size (aft W19 u') v' (sumF m M X (k + 1))) := hid (by rw [sumF_succ, ← HV.out]; first | exact ownR.snocK rfl hown' | exact ownR.snocK HSL.out hown')
              clear hown' hgrow hown
              go_wp2_with fail
              go_roundw
              case rel => exact ⟨k + 1, u', rfl, by omega, by go_num, HO1⟩
              case measure => simp only [intOf]; omega
            · skip
              have hkMz : (k : Int) < (M.length : Int) := by omega
              obtain ⟨b1, o1, rfl⟩ := rd_head RM.out (by intro e; rw [e] at hkM; simp at hkM)
              have h1 := rd_at (RM.out.aft uu) hkM
              have hx1 := getD_bd (b := m - 1) (by omega) HMB.out k
              obtain ⟨x1, e1⟩ : ∃ x, x = M.getD k 0 := ⟨_, rfl⟩
              rw [← e1] at h1 hx1
              have hkXz : (k : Int) < (X.length : Int) := by omega
              obtain ⟨b2, o2, rfl⟩ := rd_head RX.out (by intro e; rw [e] at hkX; simp at hkX)
              have h2 := rd_at (RX.out.aft uu) hkX
              have hx2 := getD_bd (b := m - 1) (by omega) HXB.out k
              obtain ⟨x2, e2⟩ : ∃ x, x = X.getD k 0 := ⟨_, rfl⟩
              rw [← e2] at h2 hx2
              have htm : (x1 + x2).tmod m = (x1 + x2) % m := Int.tmod_eq_emod_of_nonneg (by omega)
              have HV : Hid ((x1 + x2) % m = (M.getD k 0 + X.getD k 0) % m) := hid (by rw [← e1, ← e2])
              have HE1 := hid e1
              have HE2 := hid e2
              clear e1 e2
              have hown := HO.out
              have HSL : Hid ((sumF m M X k).length = k) := hid (sumF_len m M X k)
              go_wp2_with (at_builtin; refine wpList_append_own _ rfl _ _ 26 rfl (W19.heap.size) 2 i0 (.int .i64 0) 1 8 Try.underlying26 hi hz0 hz1 hz2 rfl (by decide) _ _ _ rfl (hown.alloc _) ⟨_, 0, none⟩ 1 1 [.int .i64 ((x1 + x2) % m)] rfl rfl ?c1k2 ?c2k2 ?c3k2 ?c4k2 ?c5k2 ?_)
              try case c1k2 => exact cell_one_new _ _ _
              case c2k2 => first | rfl | (intro u hu; simp at hu; subst hu; rfl)
              case c3k2 => first | (unfold maxLen; omega) | (rw [HSL.out]; unfold maxLen; omega)
              case c4k2 => first | omega | (rw [HSL.out]; omega)
              case c5k2 => first | omega | (simp; omega)
              intro v' w1 hown' hgrow _
              obtain ⟨u', rfl⟩ := grown_aft (W := W19) (by repeat (with_reducible first | exact Ext.refl _ | apply Ext.alloc | apply Ext.aft | apply Ext.drew | apply Ext.drewN | apply Ext.setCell | exact Nat.le_add_right _ _ | exact Nat.le_refl _ | (simp; done) | omega)) hgrow (own_row_ge hown)
              have HO1 : Hid (ownR W19.heap.size (aft W19 u') v' (sumF m M X (k + 1))) := hid (by rw [sumF_succ, ← HV.out]; first | exact ownR.snocK rfl hown' | exact ownR.snocK HSL.out hown')
              clear hown' hgrow hown
              go_wp2_with fail
              go_roundw
              case rel => exact ⟨k + 1, u', rfl, by omega, by go_num, HO1⟩
              case measure => simp only [intOf]; omega
            · skip
              have hkMz : (k : Int) < (M.length : Int) := by omega
              obtain ⟨b1, o1, rfl⟩ := rd_head RM.out (by intro e; rw [e] at hkM; simp at hkM)
              have h1 := rd_at (RM.out.aft uu) hkM
              have hx1 := getD_bd (b := m - 1) (by omega) HMB.out k
              obtain ⟨x1, e1⟩ : ∃ x, x = M.getD k 0 := ⟨_, rfl⟩
              rw [← e1] at h1 hx1
              have hkXz : (k : Int) < (X.length : Int) := by omega
              obtain ⟨b2, o2, rfl⟩ := rd_head RX.out (by intro e; rw [e] at hkX; simp at hkX)
              have h2 := rd_at (RX.out.aft uu) hkX
              have hx2 := getD_bd (b := m - 1) (by omega) HXB.out k
              obtain ⟨x2, e2⟩ : ∃ x, x = X.getD k 0 := ⟨_, rfl⟩
              rw [← e2] at h2 hx2
              have htm : (x1 + x2).tmod m = (x1 + x2) % m := Int.tmod_eq_emod_of_nonneg (by omega)
              have HV : Hid ((x1 + x2) % m = (M.getD k 0 + X.getD k 0) % m) := hid (by rw [← e1, ← e2])
              have HE1 := hid e1
              have HE2 := hid e2
              clear e1 e2
              have hown := HO.out
              have HSL : Hid ((sumF m M X k).length = k) := hid (sumF_len m M X k)
              go_wp2_with (at_builtin; refine wpList_append_own _ rfl _ _ 26 rfl (W19.heap.size) 2 i0 (.int .i64 0) 1 8 Try.underlying26 hi hz0 hz1 hz2 rfl (by decide) _ _ _ rfl (hown.alloc _) ⟨_, 0, none⟩ 1 1 [.int .i64 ((x1 + x2) % m)] rfl rfl ?c1k3 ?c2k3 ?c3k3 ?c4k3 ?c5k3 ?_)
              try case c1k3 => exact cell_one_new _ _ _
              case c2k3 => first | rfl | (intro u hu; simp at hu; subst hu; rfl)
              case c3k3 => first | (unfold maxLen; omega) | (rw [HSL.out]; unfold maxLen; omega)
              case c4k3 => first | omega | (rw [HSL.out]; omega)
              case c5k3 => first | omega | (simp; omega)
              intro v' w1 hown' hgrow _
              obtain ⟨u', rfl⟩ := grown_aft (W := W19) (by repeat (with_reducible first | exact Ext.refl _ | apply Ext.alloc | apply Ext.aft | apply Ext.drew | apply Ext.drewN | apply Ext.setCell | exact Nat.le_add_right _ _ | exact Nat.le_refl _ | (simp; done) | omega)) hgrow (own_row_ge hown)
              have HO1 : Hid (ownR W19.heap.size (aft W19 u') v' (sumF m M X (k + 1))) := hid (by rw [sumF_succ, ← HV.out]; first | exact ownR.snocK rfl hown' | exact ownR.snocK HSL.out hown')
              clear hown' hgrow hown
              go_wp2_with fail
              go_roundw
              case rel => exact ⟨k + 1, u', rfl, by omega, by go_num, HO1⟩
              case measure => simp only [intOf]; omega
          · have hmx : X.length ≤ M.length := by omega
            have hkMz : (k : Int) < (M.length : Int) := by omega
            obtain ⟨b1, o1, rfl⟩ := rd_head RM.out (by intro e; rw [e] at hkM; simp at hkM)
            have h1 := rd_at (RM.out.aft uu) hkM
            have hx1 := getD_bd (b := m - 1) (by omega) HMB.out k
            obtain ⟨x1, e1⟩ : ∃ x, x = M.getD k 0 := ⟨_, rfl⟩
            rw [← e1] at h1 hx1
            have hkXz : ¬ (k : Int) < (X.length : Int) := by omega
            have e2 : 0 = X.getD k 0 := (getD_out (by omega)).symm
            have htm : x1.tmod m = x1 % m := Int.tmod_eq_emod_of_nonneg (by omega)
            have HV : Hid (x1 % m = (M.getD k 0 + X.getD k 0) % m) := hid (by rw [← e1, ← e2]; simp)
            have HE1 := hid e1
            have HE2 := hid e2
            clear e1 e2
            have hown := HO.out
            have HSL : Hid ((sumF m M X k).length = k) := hid (sumF_len m M X k)
            go_wp2_with (at_builtin; refine wpList_append_own _ rfl _ _ 26 rfl (W19.heap.size) 2 i0 (.int .i64 0) 1 8 Try.underlying26 hi hz0 hz1 hz2 rfl (by decide) _ _ _ rfl (hown.alloc _) ⟨_, 0, none⟩ 1 1 [.int .i64 (x1 % m)] rfl rfl ?c1k5 ?c2k5 ?c3k5 ?c4k5 ?c5k5 ?_)
            try case c1k5 => exact cell_one_new _ _ _
            case c2k5 => first | rfl | (intro u hu; simp at hu; subst hu; rfl)
            case c3k5 => first | (unfold maxLen; omega) | (rw [HSL.out]; unfold maxLen; omega)
            case c4k5 => first | omega | (rw [HSL.out]; omega)
            case c5k5 => first | omega | (simp; omega)
            intro v' w1 hown' hgrow _
            obtain ⟨u', rfl⟩ := grown_aft (W := W19) (by repeat (with_reducible first | exact Ext.refl _ | apply Ext.alloc | apply Ext.aft | apply Ext.drew | apply Ext.drewN | apply Ext.setCell | exact Nat.le_add_right _ _ | exact Nat.le_refl _ | (simp; done) | omega)) hgrow (own_row_ge hown)
            have HO1 : Hid (ownR W19.heap.size (aft W19 u') v' (sumF m M X (k + 1))) := hid (by rw [sumF_succ, ← HV.out]; first | exact ownR.snocK rfl hown' | exact ownR.snocK HSL.out hown')
            clear hown' hgrow hown
            go_wp2_with fail
            go_roundw
            case rel => exact ⟨k + 1, u', rfl, by omega, by go_num, HO1⟩
            case measure => simp only [intOf]; omega
        · have hkX : k < X.length := by omega
          have hmx : M.length ≤ X.length := by omega
          have hkMz : ¬ (k : Int) < (M.length : Int) := by omega
          have e1 : 0 = M.getD k 0 := (getD_out (by omega)).symm
          have hkXz : (k : Int) < (X.length : Int) := by omega
          obtain ⟨b2, o2, rfl⟩ := rd_head RX.out (by intro e; rw [e] at hkX; simp at hkX)
          have h2 := rd_at (RX.out.aft uu) hkX
          have hx2 := getD_bd (b := m - 1) (by omega) HXB.out k
          obtain ⟨x2, e2⟩ : ∃ x, x = X.getD k 0 := ⟨_, rfl⟩
          rw [← e2] at h2 hx2
          have htm : x2.tmod m = x2 % m := Int.tmod_eq_emod_of_nonneg (by omega)
          have HV : Hid (x2 % m = (M.getD k 0 + X.getD k 0) % m) := hid (by rw [← e1, ← e2]; simp)
          have HE1 := hid e1
          have HE2 := hid e2
          clear e1 e2
          have hown := HO.out
          have HSL : Hid ((sumF m M X k).length = k) := hid (sumF_len m M X k)
          go_wp2_with (at_builtin; refine wpList_append_own _ rfl _ _ 26 rfl (W19.heap.size) 2 i0 (.int .i64 0) 1 8 Try.underlying26 hi hz0 hz1 hz2 rfl (by decide) _ _ _ rfl (hown.alloc _) ⟨_, 0, none⟩ 1 1 [.int .i64 (x2 % m)] rfl rfl ?c1k7 ?c2k7 ?c3k7 ?c4k7 ?c5k7 ?_)
          try case c1k7 => exact cell_one_new _ _ _
          case c2k7 => first | rfl | (intro u hu; simp at hu; subst hu; rfl)
          case c3k7 => first | (unfold maxLen; omega) | (rw [HSL.out]; unfold maxLen; omega)
          case c4k7 => first | omega | (rw [HSL.out]; omega)
          case c5k7 => first | omega | (simp; omega)
          intro v' w1 hown' hgrow _
          obtain ⟨u', rfl⟩ := grown_aft (W := W19) (by repeat (with_reducible first | exact Ext.refl _ | apply Ext.alloc | apply Ext.aft | apply Ext.drew | apply Ext.drewN | apply Ext.setCell | exact Nat.le_add_right _ _ | exact Nat.le_refl _ | (simp; done) | omega)) hgrow (own_row_ge hown)
          have HO1 : Hid (ownR W19.heap.size (aft W19 u') v' (sumF m M X (k + 1))) := hid (by rw [sumF_succ, ← HV.out]; first | exact ownR.snocK rfl hown' | exact ownR.snocK HSL.out hown')
          clear hown' hgrow hown
          go_wp2_with fail
          go_roundw
          case rel => exact ⟨k + 1, u', rfl, by omega, by go_num, HO1⟩
          case measure => simp only [intOf]; omega
      · obtain rfl : k = N := by omega
        obtain ⟨T, hT⟩ : ∃ T, T = sumF m M X k := ⟨_, rfl⟩
        rw [← hT] at HO
        rw [← hT] at HTF
        have hTl : T.length = k := by rw [hT]; exact sumF_len m M X k
        obtain ⟨aT, cT, hsh, _, _⟩ := HO.out.rd
        subst hsh
        have hcap := own_cap HO.out
        have RT := hid HO.out.rd
        have RF2 := hid (RF.out.aft uu)
        have EE : Hid (Ext w.heap.size w (aft W19 uu)) := hid (E9.out.aft uu)
        clear HO hT RM RX RF E9
        obtain ⟨Wz, hWz⟩ : ∃ Y, Y = aft W19 uu := ⟨_, rfl⟩
        rw [← hWz] at RT RF2 EE ⊢
        clear hWz
        have hTl9 : T.length ≤ 9 := by omega
        clear hTl
        have hgo : ¬ (k : Int) < (M.length : Int) ∧ ¬ (k : Int) < (X.length : Int) := by omega
        rcases (show M.length < X.length ∨ X.length < M.length ∨ (M.length ≤ X.length ∧ X.length ≤ M.length) by omega) with hmx | hmx | ⟨hmx, hmx2⟩
        all_goals (
          go_wp2_with fail
          go_loop [35] (fun t => ∃ n : Nat, n ≤ T.length ∧ t = .slice aT n cT ∧ Hid (trimN T n = trimN T T.length)) lenOf
          case atStart => exact ⟨T.length, by omega, rfl, hid rfl⟩
          case round =>
            obtain ⟨n, hn, rfl, HA⟩ := hrel
            have HR := hid (rd_cut RT.out hn)
            have hfin : Hid (trimN T n = n → T.take n = F) := hid fun e => by
              rw [← HTF.out]; unfold trimF; rw [← HA.out, e]
            have hncap : n ≤ cT := by omega
            rcases Nat.eq_zero_or_pos n with rfl | hpos
            · have HRF : Hid (rdI Wz (.slice aT 0 cT) F) := hid (by have := HR.out; rw [hfin.out rfl] at this; exact this)
              go_wp2_with fail
              refine via (l_like _ _ F _ HRF.out RF2.out) ?_
              intro u9 z9
              go_wp2_with fail
              go_ret
              exact ⟨by first | rfl | simp, Ext.bel (EE.out.aft _)⟩
            · obtain ⟨j, rfl⟩ : ∃ j, n = j + 1 := ⟨n - 1, by omega⟩
              have hj : j < T.length := by omega
              obtain ⟨b3, o3, rfl⟩ := rd_head RT.out (by intro e; rw [e] at hj; simp at hj)
              have h3 := rd_at RT.out hj
              have HT : Hid (trimN T (j + 1) = if T.getD j 0 = 0 then trimN T j else j + 1) := hid rfl
              obtain ⟨y, hy⟩ : ∃ y, y = T.getD j 0 := ⟨_, rfl⟩
              rw [← hy] at h3 HT
              clear hy
              by_cases hz : y = 0
              · subst hz
                go_wp2_with fail
                go_round
                case rel => exact ⟨j, by omega, by first | rfl | (congr 1; omega), hid (by rw [← HA.out, HT.out]; simp)⟩
                case measure => simp only [lenOf]; omega
              · have hz' : (y == 0) = false := by simpa using hz
                have HRF : Hid (rdI Wz (.slice (some ⟨b3, o3, none⟩) (j + 1) cT) F) := hid (by have := HR.out; rw [hfin.out (by rw [HT.out, if_neg hz])] at this; exact this)
                clear hz
                go_wp2_with fail
                refine via (l_like _ _ F _ HRF.out RF2.out) ?_
                intro u9 z9
                go_wp2_with fail
                go_ret
                exact ⟨by first | rfl | simp, Ext.bel (EE.out.aft _)⟩)
  subst hCY
  have hyr := HYR.out rfl
  have HYR2 := hid hyr
  clear hyr HYR
  go_wp2_with fail
  have hcon := i_IsInRing p4 n4 _ Y _ (rY_17.out)
  rw [HYR2.out] at hcon
  refine (hcon).mono ?_
  rintro e W18 ⟨rfl, hb⟩
  have hE_18 : Hid (Ext w.heap.size w W18) := hid (hE_17.out.below hb)
  have rF_18 : Hid (rdI W18 (.slice aF F.length cF) F) := hid (rF_17.out.below hb)
  have rG_18 : Hid (rdI W18 (.slice aG G.length cG) G) := hid (rG_17.out.below hb)
  have R_18 : ∀ o, W18.cell? ⟨kR, o, none⟩ = #[Value.int .i64 p1, .int .i64 n1][o]? := fun o => (hb.cell (p := ⟨kR, o, none⟩) lR_17).trans (R_17 o)
  have lR_18 : kR < W18.heap.size := Nat.lt_of_lt_of_le lR_17 hb.size
  have rQ_18 : Hid (rdI W18 (.slice aQ Q.length cQ) Q) := hid (rQ_17.out.below hb)
  have rX_18 : Hid (rdI W18 (.slice aX X.length cX) X) := hid (rX_17.out.below hb)
  have rU_18 : Hid (rdI W18 (.slice aU Q.length cU) Q) := hid (rU_17.out.below hb)
  have rV_18 : Hid (rdI W18 (.slice aV X.length cV) X) := hid (rV_17.out.below hb)
  have rA_18 : Hid (rdI W18 (.slice aA A.length cA) A) := hid (rA_17.out.below hb)
  have rB_18 : Hid (rdI W18 (.slice aB B.length cB) B) := hid (rB_17.out.below hb)
  have S_18 : ∀ o, W18.cell? ⟨kS, o, none⟩ = #[Value.int .i64 p2, .int .i64 n2][o]? := fun o => (hb.cell (p := ⟨kS, o, none⟩) lS_17).trans (S_17 o)
  have lS_18 : kS < W18.heap.size := Nat.lt_of_lt_of_le lS_17 hb.size
  have rP_18 : Hid (rdI W18 (.slice aP P.length cP) P) := hid (rP_17.out.below hb)
  have rO_18 : Hid (rdI W18 (.slice aO P.length cO) P) := hid (rO_17.out.below hb)
  have rH3_18 : Hid (rdI W18 (.slice aH3 H3.length cH3) H3) := hid (rH3_17.out.below hb)
  have U3_18 : ∀ o, W18.cell? ⟨kU3, o, none⟩ = #[Value.int .i64 p3, .int .i64 n3][o]? := fun o => (hb.cell (p := ⟨kU3, o, none⟩) lU3_17).trans (U3_17 o)
  have lU3_18 : kU3 < W18.heap.size := Nat.lt_of_lt_of_le lU3_17 hb.size
  have rI_18 : Hid (rdI W18 (.slice aI I.length cI) I) := hid (rI_17.out.below hb)
  have rJ_18 : Hid (rdI W18 (.slice aJ I.length cJ) I) := hid (rJ_17.out.below hb)
  have rK_18 : Hid (rdI W18 (.slice aK K.length cK) K) := hid (rK_17.out.below hb)
  have V4_18 : ∀ o, W18.cell? ⟨kV4, o, none⟩ = #[Value.int .i64 p4, .int .i64 n4][o]? := fun o => (hb.cell (p := ⟨kV4, o, none⟩) lV4_17).trans (V4_17 o)
  have lV4_18 : kV4 < W18.heap.size := Nat.lt_of_lt_of_le lV4_17 hb.size
  have rY_18 : Hid (rdI W18 (.slice aY Y.length cY) Y) := hid (rY_17.out.below hb)
  have rZ_18 : Hid (rdI W18 (.slice aZ Y.length cZ) Y) := hid (rZ_17.out.below hb)
  clear hE_17 rF_17 rG_17 R_17 lR_17 rQ_17 rX_17 rU_17 rV_17 rA_17 rB_17 S_17 lS_17 rP_17 rO_17 rH3_17 U3_17 lU3_17 rI_17 rJ_17 rK_17 V4_17 lV4_17 rY_17 rZ_17
  clear hb
  clear hcon
  by_cases hCD : CD = 0
  case neg =>
    have hCDn : (CD != 0) = true := by simpa using hCD
    go_wp2_with fail
    go_ret
    exact ⟨rfl, hE_18.out.1⟩
  subst hCD
  obtain ⟨M, hM, hMl, hMb, hXl, hXb, hTF, hXG, hrg⟩ := HLAW.out rfl
  clear HLAW
  go_wp2_with fail
  have hcon := i_MultiplyInRing p1 n1 _ _ G Q _ (rG_18.out) (rQ_18.out)
  rw [hM] at hcon
  clear hM
  refine (hcon).mono ?_
  rintro e W19 ⟨v1, rfl, ho1, hb⟩
  have hE_19 : Hid (Ext w.heap.size w W19) := hid (hE_18.out.below hb)
  have rF_19 : Hid (rdI W19 (.slice aF F.length cF) F) := hid (rF_18.out.below hb)
  have rG_19 : Hid (rdI W19 (.slice aG G.length cG) G) := hid (rG_18.out.below hb)
  have R_19 : ∀ o, W19.cell? ⟨kR, o, none⟩ = #[Value.int .i64 p1, .int .i64 n1][o]? := fun o => (hb.cell (p := ⟨kR, o, none⟩) lR_18).trans (R_18 o)
  have lR_19 : kR < W19.heap.size := Nat.lt_of_lt_of_le lR_18 hb.size
  have rQ_19 : Hid (rdI W19 (.slice aQ Q.length cQ) Q) := hid (rQ_18.out.below hb)
  have rX_19 : Hid (rdI W19 (.slice aX X.length cX) X) := hid (rX_18.out.below hb)
  have rU_19 : Hid (rdI W19 (.slice aU Q.length cU) Q) := hid (rU_18.out.below hb)
  have rV_19 : Hid (rdI W19 (.slice aV X.length cV) X) := hid (rV_18.out.below hb)
  have rA_19 : Hid (rdI W19 (.slice aA A.length cA) A) := hid (rA_18.out.below hb)
  have rB_19 : Hid (rdI W19 (.slice aB B.length cB) B) := hid (rB_18.out.below hb)
  have S_19 : ∀ o, W19.cell? ⟨kS, o, none⟩ = #[Value.int .i64 p2, .int .i64 n2][o]? := fun o => (hb.cell (p := ⟨kS, o, none⟩) lS_18).trans (S_18 o)
  have lS_19 : kS < W19.heap.size := Nat.lt_of_lt_of_le lS_18 hb.size
  have rP_19 : Hid (rdI W19 (.slice aP P.length cP) P) := hid (rP_18.out.below hb)
  have rO_19 : Hid (rdI W19 (.slice aO P.length cO) P) := hid (rO_18.out.below hb)
  have rH3_19 : Hid (rdI W19 (.slice aH3 H3.length cH3) H3) := hid (rH3_18.out.below hb)
  have U3_19 : ∀ o, W19.cell? ⟨kU3, o, none⟩ = #[Value.int .i64 p3, .int .i64 n3][o]? := fun o => (hb.cell (p := ⟨kU3, o, none⟩) lU3_18).trans (U3_18 o)
  have lU3_19 : kU3 < W19.heap.size := Nat.lt_of_lt_of_le lU3_18 hb.size
  have rI_19 : Hid (rdI W19 (.slice aI I.length cI) I) := hid (rI_18.out.below hb)
  have rJ_19 : Hid (rdI W19 (.slice aJ I.length cJ) I) := hid (rJ_18.out.below hb)
  have rK_19 : Hid (rdI W19 (.slice aK K.length cK) K) := hid (rK_18.out.below hb)
  have V4_19 : ∀ o, W19.cell? ⟨kV4, o, none⟩ = #[Value.int .i64 p4, .int .i64 n4][o]? := fun o => (hb.cell (p := ⟨kV4, o, none⟩) lV4_18).trans (V4_18 o)
  have lV4_19 : kV4 < W19.heap.size := Nat.lt_of_lt_of_le lV4_18 hb.size
  have rY_19 : Hid (rdI W19 (.slice aY Y.length cY) Y) := hid (rY_18.out.below hb)
  have rZ_19 : Hid (rdI W19 (.slice aZ Y.length cZ) Y) := hid (rZ_18.out.below hb)
  clear hE_18 rF_18 rG_18 R_18 lR_18 rQ_18 rX_18 rU_18 rV_18 rA_18 rB_18 S_18 lS_18 rP_18 rO_18 rH3_18 U3_18 lU3_18 rI_18 rJ_18 rK_18 V4_18 lV4_18 rY_18 rZ_18
  clear hb
  clear hcon
  obtain ⟨aM, cM, hsh, _, _⟩ := ho1.rd
  subst hsh
  have rM_19 : Hid (rdI W19 (.slice aM M.length cM) M) := hid (ho1.rd)
  clear ho1
  go_wp2_with fail
  have hcon := s_ModulusOf p1 n1 W19
  rw [show mdlF p1 n1 = (p1 ^ n1.toNat, 0) from by simp [mdlF, hrg]] at hcon
  obtain ⟨q1, q2, q3, q4, _, _, _⟩ := ring_facts2 hrg
  obtain ⟨m, hm⟩ : ∃ m, m = p1 ^ n1.toNat := ⟨_, rfl⟩
  rw [← hm] at hcon q3 q4 hMb hXb hTF
  clear hm hrg q1 q2
  refine (hcon).mono ?_
  rintro e W20 ⟨rfl, hb⟩
  have hE_20 : Hid (Ext w.heap.size w W20) := hid (hE_19.out.below hb)
  have rF_20 : Hid (rdI W20 (.slice aF F.length cF) F) := hid (rF_19.out.below hb)
  have rG_20 : Hid (rdI W20 (.slice aG G.length cG) G) := hid (rG_19.out.below hb)
  have R_20 : ∀ o, W20.cell? ⟨kR, o, none⟩ = #[Value.int .i64 p1, .int .i64 n1][o]? := fun o => (hb.cell (p := ⟨kR, o, none⟩) lR_19).trans (R_19 o)
  have lR_20 : kR < W20.heap.size := Nat.lt_of_lt_of_le lR_19 hb.size
  have rQ_20 : Hid (rdI W20 (.slice aQ Q.length cQ) Q) := hid (rQ_19.out.below hb)
  have rX_20 : Hid (rdI W20 (.slice aX X.length cX) X) := hid (rX_19.out.below hb)
  have rU_20 : Hid (rdI W20 (.slice aU Q.length cU) Q) := hid (rU_19.out.below hb)
  have rV_20 : Hid (rdI W20 (.slice aV X.length cV) X) := hid (rV_19.out.below hb)
  have rA_20 : Hid (rdI W20 (.slice aA A.length cA) A) := hid (rA_19.out.below hb)
  have rB_20 : Hid (rdI W20 (.slice aB B.length cB) B) := hid (rB_19.out.below hb)
  have S_20 : ∀ o, W20.cell? ⟨kS, o, none⟩ = #[Value.int .i64 p2, .int .i64 n2][o]? := fun o => (hb.cell (p := ⟨kS, o, none⟩) lS_19).trans (S_19 o)
  have lS_20 : kS < W20.heap.size := Nat.lt_of_lt_of_le lS_19 hb.size
  have rP_20 : Hid (rdI W20 (.slice aP P.length cP) P) := hid (rP_19.out.below hb)
  have rO_20 : Hid (rdI W20 (.slice aO P.length cO) P) := hid (rO_19.out.below hb)
  have rH3_20 : Hid (rdI W20 (.slice aH3 H3.length cH3) H3) := hid (rH3_19.out.below hb)
  have U3_20 : ∀ o, W20.cell? ⟨kU3, o, none⟩ = #[Value.int .i64 p3, .int .i64 n3][o]? := fun o => (hb.cell (p := ⟨kU3, o, none⟩) lU3_19).trans (U3_19 o)
  have lU3_20 : kU3 < W20.heap.size := Nat.lt_of_lt_of_le lU3_19 hb.size
  have rI_20 : Hid (rdI W20 (.slice aI I.length cI) I) := hid (rI_19.out.below hb)
  have rJ_20 : Hid (rdI W20 (.slice aJ I.length cJ) I) := hid (rJ_19.out.below hb)
  have rK_20 : Hid (rdI W20 (.slice aK K.length cK) K) := hid (rK_19.out.below hb)
  have V4_20 : ∀ o, W20.cell? ⟨kV4, o, none⟩ = #[Value.int .i64 p4, .int .i64 n4][o]? := fun o => (hb.cell (p := ⟨kV4, o, none⟩) lV4_19).trans (V4_19 o)
  have lV4_20 : kV4 < W20.heap.size := Nat.lt_of_lt_of_le lV4_19 hb.size
  have rY_20 : Hid (rdI W20 (.slice aY Y.length cY) Y) := hid (rY_19.out.below hb)
  have rZ_20 : Hid (rdI W20 (.slice aZ Y.length cZ) Y) := hid (rZ_19.out.below hb)
  have rM_20 : Hid (rdI W20 (.slice aM M.length cM) M) := hid (rM_19.out.below hb)
  clear hE_19 rF_19 rG_19 R_19 lR_19 rQ_19 rX_19 rU_19 rV_19 rA_19 rB_19 S_19 lS_19 rP_19 rO_19 rH3_19 U3_19 lU3_19 rI_19 rJ_19 rK_19 V4_19 lV4_19 rY_19 rZ_19 rM_19
  clear hb
  clear hcon
  go_wp2_with fail
  obtain ⟨i0, hi, hz0, hz1, hz2⟩ := info_parts infoI
  obtain ⟨N, hN⟩ : ∃ N, N = max M.length X.length := ⟨_, rfl⟩
  rw [← hN] at hTF
  have hNM : M.length ≤ N ∧ X.length ≤ N ∧ (N = M.length ∨ N = X.length) ∧ N ≤ 9 := by omega
  have HTF := hid hTF
  have HMB := hid hMb
  have HXB := hid hXb
  have RM : Hid (rdI W20 (.slice aM M.length cM) M) := rM_20
  have RX : Hid (rdI W20 (.slice aX X.length cX) X) := rX_20
  have RF : Hid (rdI W20 (.slice aF F.length cF) F) := rF_20
  have E9 : Hid (Ext w.heap.size w W20) := hE_20
  have hXGz : (X.length : Int) < (G.length : Int) := by omega
  have hm0 : m ≠ 0 := by omega
  clear hMb hXb hTF hN hE_20 rF_20 rG_20 rQ_20 rX_20 rU_20 rV_20 rA_20 rB_20 rP_20 rO_20 rH3_20 rI_20 rJ_20 rK_20 rY_20 rZ_20 rM_20
  go_loopw [35, 36] (fun t i wr => ∃ (k : Nat) (uu : World), wr = aft W20 uu ∧ k ≤ N ∧ i = .int .i64 k ∧ Hid (ownR W20.heap.size wr t (sumF m M X k))) (fun _ i _ => N - (intOf i).toNat)
  case atStart => exact ⟨0, _, (aft_of ((Below.refl _ W20).alloc (Nat.le_refl _) _)).symm, by omega, rfl, hid (own_made W20)⟩
  case round =>
    obtain ⟨k, uu, rfl, hk, rfl, HO⟩ := hrel
    have zs := size_aft W20 uu
    by_cases hlt : k < N
    · by_cases hkM : k < M.length
      · by_cases hkX : k < X.length
        · rcases (show M.length < X.length ∨ X.length < M.length ∨ (M.length ≤ X.length ∧ X.length ≤ M.length) by omega) with hmx | hmx | ⟨hmx, hmx2⟩
          · skip
            have hkMz : (k : Int) < (M.length : Int) := by omega
            obtain ⟨b1, o1, rfl⟩ := rd_head RM.out (by intro e; rw [e] at hkM; simp at hkM)
            have h1 := rd_at (RM.out.aft uu) hkM
            have hx1 := getD_bd (b := m - 1) (by omega) HMB.out k
            obtain ⟨x1, e1⟩ : ∃ x, x = M.getD k 0 := ⟨_, rfl⟩
            rw [← e1] at h1 hx1
            have hkXz : (k : Int) < (X.length : Int) := by omega
            obtain ⟨b2, o2, rfl⟩ := rd_head RX.out (by intro e; rw [e] at hkX; simp at hkX)
            have h2 := rd_at (RX.out.aft uu) hkX
            have hx2 := getD_bd (b := m - 1) (by omega) HXB.out k
            obtain ⟨x2, e2⟩ : ∃ x, x = X.getD k 0 := ⟨_, rfl⟩
            rw [← e2] at h2 hx2
            have htm : (x1 + x2).tmod m = (x1 + x2) % m := Int.tmod_eq_emod_of_nonneg (by omega)
            have HV : Hid ((x1 + x2) % m = (M.getD k 0 + X.getD k 0) % m) := hid (by rw [← e1, ← e2])
            have HE1 := hid e1
            have HE2 := hid e2
            clear e1 e2
            have hown := HO.out
            have HSL : Hid ((sumF m M X k).length = k) := hid (sumF_len m M X k)
            go_wp2_with (at_builtin; refine wpList_append_own _ rfl _ _ 26 rfl (W20.heap.size) 2 i0 (.int .i64 0) 1 8 Try.underlying26 hi hz0 hz1 hz2 rfl (by decide) _ _ _ rfl (hown.alloc _) ⟨_, 0, none⟩ 1 1 [.int .i64 ((x1 + x2) % m)] rfl rfl ?c1k9 ?c2k9 ?c3k9 ?c4k9 ?c5k9 ?_)
            try case c1k9 => exact cell_one_new _ _ _
            case c2k9 => first | rfl | (intro u hu; simp at hu; subst hu; rfl)
            case c3k9 => first | (unfold maxLen; omega) | (rw [HSL.out]; unfold maxLen; omega)
            case c4k9 => first | omega | (rw [HSL.out]; omega)
            case c5k9 => first | omega | (simp; omega)
            intro v' w1 hown' hgrow _
            obtain ⟨u', rfl⟩ := grown_aft (W := W20) (by repeat (with_reducible first | exact Ext.refl _ | apply Ext.alloc | apply Ext.aft | apply Ext.drew | apply Ext.drewN | apply Ext.setCell | exact Nat.le_add_right _ _ | exact Nat.le_refl _ | (simp; done) | omega)) hgrow (own_row_ge hown)
            have HO1 : Hid (ownR W20.heap.size (aft W20 u') v' (sumF m M X (k + 1))) := hid (by rw [sumF_succ, ← HV.out]; first | exact ownR.snocK rfl hown' | exact ownR.snocK HSL.out hown')
            clear hown' hgrow hown
            go_wp2_with fail
            go_roundw
            case rel => exact ⟨k + 1, u', rfl, by omega, by go_num, HO1⟩
            case measure => simp only [intOf]; omega
          · skip
            have hkMz : (k : Int) < (M.length : Int) := by omega
            obtain ⟨b1, o1, rfl⟩ := rd_head RM.out (by intro e; rw [e] at hkM; simp at hkM)
            have h1 := rd_at (RM.out.aft uu) hkM
            have hx1 := getD_bd (b := m - 1) (by omega) HMB.out k
            obtain ⟨x1, e1⟩ : ∃ x, x = M.getD k 0 := ⟨_, rfl⟩
            rw [← e1] at h1 hx1
            have hkXz : (k : Int) < (X.length : Int) := by omega
            obtain ⟨b2, o2, rfl⟩ := rd_head RX.out (by intro e; rw [e] at hkX; simp at hkX)
            have h2 := rd_at (RX.out.aft uu) hkX
            have hx2 := getD_bd (b := m - 1) (by omega) HXB.out k
            obtain ⟨x2, e2⟩ : ∃ x, x = X.getD k 0 := ⟨_, rfl⟩
            rw [← e2] at h2 hx2
            have htm : (x1 + x2).tmod m = (x1 + x2) % m := Int.tmod_eq_emod_of_nonneg (by omega)
            have HV : Hid ((x1 + x2) % m = (M.getD k 0 + X.getD k 0) % m) := hid (by rw [← e1, ← e2])
            have HE1 := hid e1
            have HE2 := hid e2
            clear e1 e2
            have hown := HO.out
            have HSL : Hid ((sumF m M X k).length = k) := hid (sumF_len m M X k)
            go_wp2_with (at_builtin; refine wpList_append_own _ rfl _ _ 26 rfl (W20.heap.size) 2 i0 (.int .i64 0) 1 8 Try.underlying26 hi hz0 hz1 hz2 rfl (by decide) _ _ _ rfl (hown.alloc _) ⟨_, 0, none⟩ 1 1 [.int .i64 ((x1 + x2) % m)] rfl rfl ?c1k10 ?c2k10 ?c3k10 ?c4k10 ?c5k10 ?_)
            try case c1k10 => exact cell_one_new _ _ _
            case c2k10 => first | rfl | (intro u hu; simp at hu; subst hu; rfl)
            case c3k10 => first | (unfold maxLen; omega) | (rw [HSL.out]; unfold maxLen; omega)
            case c4k10 => first | omega | (rw [HSL.out]; omega)
            case c5k10 => first | omega | (simp; omega)
            intro v' w1 hown' hgrow _
            obtain ⟨u', rfl⟩ := grown_aft (W := W20) (by repeat (with_reducible first | exact Ext.refl _ | apply Ext.alloc | apply Ext.aft | apply Ext.drew | apply Ext.drewN | apply Ext.setCell | exact Nat.le_add_right _ _ | exact Nat.le_refl _ | (simp; done) | omega)) hgrow (own_row_ge hown)
            have HO1 : Hid (ownR W20.heap.size (aft W20 u') v' (sumF m M X (k + 1))) := hid (by rw [sumF_succ, ← HV.out]; first | exact ownR.snocK rfl hown' | exact ownR.snocK HSL.out hown')
            clear hown' hgrow hown
            go_wp2_with fail
            go_roundw
            case rel => exact ⟨k + 1, u', rfl, by omega, by go_num, HO1⟩
            case measure => simp only [intOf]; omega
          · skip
            have hkMz : (k : Int) < (M.length : Int) := by omega
            obtain ⟨b1, o1, rfl⟩ := rd_head RM.out (by intro e; rw [e] at hkM; simp at hkM)
            have h1 := rd_at (RM.out.aft uu) hkM
            have hx1 := getD_bd (b := m - 1) (by omega) HMB.out k
            obtain ⟨x1, e1⟩ : ∃ x, x = M.getD k 0 := ⟨_, rfl⟩
            rw [← e1] at h1 hx1
            have hkXz : (k : Int) < (X.length : Int) := by omega
            obtain ⟨b2, o2, rfl⟩ := rd_head RX.out (by intro e; rw [e] at hkX; simp at hkX)
            have h2 := rd_at (RX.out.aft uu) hkX
            have hx2 := getD_bd (b := m - 1) (by omega) HXB.out k
            obtain ⟨x2, e2⟩ : ∃ x, x = X.getD k 0 := ⟨_, rfl⟩
            rw [← e2] at h2 hx2
            have htm : (x1 + x2).tmod m = (x1 + x2) % m := Int.tmod_eq_emod_of_nonneg (by omega)
            have HV : Hid ((x1 + x2) % m = (M.getD k 0 + X.getD k 0) % m) := hid (by rw [← e1, ← e2])
            have HE1 := hid e1
            have HE2 := hid e2
            clear e1 e2
            have hown := HO.out
            have HSL : Hid ((sumF m M X k).length = k) := hid (sumF_len m M X k)
            go_wp2_with (at_builtin; refine wpList_append_own _ rfl _ _ 26 rfl (W20.heap.size) 2 i0 (.int .i64 0) 1 8 Try.underlying26 hi hz0 hz1 hz2 rfl (by decide) _ _ _ rfl (hown.alloc _) ⟨_, 0, none⟩ 1 1 [.int .i64 ((x1 + x2) % m)] rfl rfl ?c1k11 ?c2k11 ?c3k11 ?c4k11 ?c5k11 ?_)
            try case c1k11 => exact cell_one_new _ _ _
            case c2k11 => first | rfl | (intro u hu; simp at hu; subst hu; rfl)
            case c3k11 => first | (unfold maxLen; omega) | (rw [HSL.out]; unfold maxLen; omega)
            case c4k11 => first | omega | (rw [HSL.out]; omega)
            case c5k11 => first | omega | (simp; omega)
            intro v' w1 hown' hgrow _
            obtain ⟨u', rfl⟩ := grown_aft (W := W20) (by repeat (with_reducible first | exact Ext.refl _ | apply Ext.alloc | apply Ext.aft | apply Ext.drew | apply Ext.drewN | apply Ext.setCell | exact Nat.le_add_right _ _ | exact Nat.le_refl _ | (simp; done) | omega)) hgrow (own_row_ge hown)
            have HO1 : Hid (ownR W20.heap.size (aft W20 u') v' (sumF m M X (k + 1))) := hid (by rw [sumF_succ, ← HV.out]; first | exact ownR.snocK rfl hown' | exact ownR.snocK HSL.out hown')
            clear hown' hgrow hown
            go_wp2_with fail
            go_roundw
            case rel => exact ⟨k + 1, u', rfl, by omega, by go_num, HO1⟩
            case measure => simp only [intOf]; omega
        · have hmx : X.length ≤ M.length := by omega
          have hkMz : (k : Int) < (M.length : Int) := by omega
          obtain ⟨b1, o1, rfl⟩ := rd_head RM.out (by intro e; rw [e] at hkM; simp at hkM)
          have h1 := rd_at (RM.out.aft uu) hkM
          have hx1 := getD_bd (b := m - 1) (by omega) HMB.out k
          obtain ⟨x1, e1⟩ : ∃ x, x = M.getD k 0 := ⟨_, rfl⟩
          rw [← e1] at h1 hx1
          have hkXz : ¬ (k : Int) < (X.length : Int) := by omega
          have e2 : 0 = X.getD k 0 := (getD_out (by omega)).symm
          have htm : x1.tmod m = x1 % m := Int.tmod_eq_emod_of_nonneg (by omega)
          have HV : Hid (x1 % m = (M.getD k 0 + X.getD k 0) % m) := hid (by rw [← e1, ← e2]; simp)
          have HE1 := hid e1
          have HE2 := hid e2
          clear e1 e2
          have hown := HO.out
          have HSL : Hid ((sumF m M X k).length = k) := hid (sumF_len m M X k)
          go_wp2_with (at_builtin; refine wpList_append_own _ rfl _ _ 26 rfl (W20.heap.size) 2 i0 (.int .i64 0) 1 8 Try.underlying26 hi hz0 hz1 hz2 rfl (by decide) _ _ _ rfl (hown.alloc _) ⟨_, 0, none⟩ 1 1 [.int .i64 (x1 % m)] rfl rfl ?c1k13 ?c2k13 ?c3k13 ?c4k13 ?c5k13 ?_)
          try case c1k13 => exact cell_one_new _ _ _
          case c2k13 => first | rfl | (intro u hu; simp at hu; subst hu; rfl)
          case c3k13 => first | (unfold maxLen; omega) | (rw [HSL.out]; unfold maxLen; omega)
          case c4k13 => first | omega | (rw [HSL.out]; omega)
          case c5k13 => first | omega | (simp; omega)
          intro v' w1 hown' hgrow _
          obtain ⟨u', rfl⟩ := grown_aft (W := W20) (by repeat (with_reducible first | exact Ext.refl _ | apply Ext.alloc | apply Ext.aft | apply Ext.drew | apply Ext.drewN | apply Ext.setCell | exact Nat.le_add_right _ _ | exact Nat.le_refl _ | (simp; done) | omega)) hgrow (own_row_ge hown)
          have HO1 : Hid (ownR W20.heap.size (aft W20 u') v' (sumF m M X (k + 1))) := hid (by rw [sumF_succ, ← HV.out]; first | exact ownR.snocK rfl hown' | exact ownR.snocK HSL.out hown')
          clear hown' hgrow hown
          go_wp2_with fail
          go_roundw
          case rel => exact ⟨k + 1, u', rfl, by omega, by go_num, HO1⟩
          case measure => simp only [intOf]; omega
      · have hkX : k < X.length := by omega
        have hmx : M.length ≤ X.length := by omega
        have hkMz : ¬ (k : Int) < (M.length : Int) := by omega
        have e1 : 0 = M.getD k 0 := (getD_out (by omega)).symm
        have hkXz : (k : Int) < (X.length : Int) := by omega
        obtain ⟨b2, o2, rfl⟩ := rd_head RX.out (by intro e; rw [e] at hkX; simp at hkX)
        have h2 := rd_at (RX.out.aft uu) hkX
        have hx2 := getD_bd (b := m - 1) (by omega) HXB.out k
        obtain ⟨x2, e2⟩ : ∃ x, x = X.getD k 0 := ⟨_, rfl⟩
        rw [← e2] at h2 hx2
        have htm : x2.tmod m = x2 % m := Int.tmod_eq_emod_of_nonneg (by omega)
        have HV : Hid (x2 % m = (M.getD k 0 + X.getD k 0) % m) := hid (by rw [← e1, ← e2]; simp)
        have HE1 := hid e1
        have HE2 := hid e2
        clear e1 e2
        have hown := HO.out
        have HSL : Hid ((sumF m M X k).length = k) := hid (sumF_len m M X k)
        go_wp2_with (at_builtin; refine wpList_append_own _ rfl _ _ 26 rfl (W20.heap.size) 2 i0 (.int .i64 0) 1 8 Try.underlying26 hi hz0 hz1 hz2 rfl (by decide) _ _ _ rfl (hown.alloc _) ⟨_, 0, none⟩ 1 1 [.int .i64 (x2 % m)] rfl rfl ?c1k15 ?c2k15 ?c3k15 ?c4k15 ?c5k15 ?_)
        try case c1k15 => exact cell_one_new _ _ _
        case c2k15 => first | rfl | (intro u hu; simp at hu; subst hu; rfl)
        case c3k15 => first | (unfold maxLen; omega) | (rw [HSL.out]; unfold maxLen; omega)
        case c4k15 => first | omega | (rw [HSL.out]; omega)
        case c5k15 => first | omega | (simp; omega)
        intro v' w1 hown' hgrow _
        obtain ⟨u', rfl⟩ := grown_aft (W := W20) (by repeat (with_reducible first | exact Ext.refl _ | apply Ext.alloc | apply Ext.aft | apply Ext.drew | apply Ext.drewN | apply Ext.setCell | exact Nat.le_add_right _ _ | exact Nat.le_refl _ | (simp; done) | omega)) hgrow (own_row_ge hown)
        have HO1 : Hid (ownR W20.heap.size (aft W20 u') v' (sumF m M X (k + 1))) := hid (by rw [sumF_succ, ← HV.out]; first | exact ownR.snocK rfl hown' | exact ownR.snocK HSL.out hown')
        clear hown' hgrow hown
        go_wp2_with fail
        go_roundw
        case rel => exact ⟨k + 1, u', rfl, by omega, by go_num, HO1⟩
        case measure => simp only [intOf]; omega
    · obtain rfl : k = N := by omega
      obtain ⟨T, hT⟩ : ∃ T, T = sumF m M X k := ⟨_, rfl⟩
      rw [← hT] at HO
      rw [← hT] at HTF
      have hTl : T.length = k := by rw [hT]; exact sumF_len m M X k
      obtain ⟨aT, cT, hsh, _, _⟩ := HO.out.rd
      subst hsh
      have hcap := own_cap HO.out
      have RT := hid HO.out.rd
      have RF2 := hid (RF.out.aft uu)
      have EE : Hid (Ext w.heap.size w (aft W20 uu)) := hid (E9.out.aft uu)
      clear HO hT RM RX RF E9
      obtain ⟨Wz, hWz⟩ : ∃ Y, Y = aft W20 uu := ⟨_, rfl⟩
      rw [← hWz] at RT RF2 EE ⊢
      clear hWz
      have hTl9 : T.length ≤ 9 := by omega
      clear hTl
      have hgo : ¬ (k : Int) < (M.length : Int) ∧ ¬ (k : Int) < (X.length : Int) := by omega
      rcases (show M.length < X.length ∨ X.length < M.length ∨ (M.length ≤ X.length ∧ X.length ≤ M.length) by omega) with hmx | hmx | ⟨hmx, hmx2⟩
      all_goals (
        go_wp2_with fail
        go_loop [35] (fun t => ∃ n : Nat, n ≤ T.length ∧ t = .slice aT n cT ∧ Hid (trimN T n = trimN T T.length)) lenOf
        case atStart => exact ⟨T.length, by omega, rfl, hid rfl⟩
        case round =>
          obtain ⟨n, hn, rfl, HA⟩ := hrel
          have HR := hid (rd_cut RT.out hn)
          have hfin : Hid (trimN T n = n → T.take n = F) := hid fun e => by
            rw [← HTF.out]; unfold trimF; rw [← HA.out, e]
          have hncap : n ≤ cT := by omega
          rcases Nat.eq_zero_or_pos n with rfl | hpos
          · have HRF : Hid (rdI Wz (.slice aT 0 cT) F) := hid (by have := HR.out; rw [hfin.out rfl] at this; exact this)
            go_wp2_with fail
            refine via (l_like _ _ F _ HRF.out RF2.out) ?_
            intro u9 z9
            go_wp2_with fail
            go_ret
            exact ⟨by first | rfl | simp, Ext.bel (EE.out.aft _)⟩
          · obtain ⟨j, rfl⟩ : ∃ j, n = j + 1 := ⟨n - 1, by omega⟩
            have hj : j < T.length := by omega
            obtain ⟨b3, o3, rfl⟩ := rd_head RT.out (by intro e; rw [e] at hj; simp at hj)
            have h3 := rd_at RT.out hj
            have HT : Hid (trimN T (j + 1) = if T.getD j 0 = 0 then trimN T j else j + 1) := hid rfl
            obtain ⟨y, hy⟩ : ∃ y, y = T.getD j 0 := ⟨_, rfl⟩
            rw [← hy] at h3 HT
            clear hy
            by_cases hz : y = 0
            · subst hz
              go_wp2_with fail
              go_round
              case rel => exact ⟨j, by omega, by first | rfl | (congr 1; omega), hid (by rw [← HA.out, HT.out]; simp)⟩
              case measure => simp only [lenOf]; omega
            · have hz' : (y == 0) = false := by simpa using hz
              have HRF : Hid (rdI Wz (.slice (some ⟨b3, o3, none⟩) (j + 1) cT) F) := hid (by have := HR.out; rw [hfin.out (by rw [HT.out, if_neg hz])] at this; exact this)
              clear hz
              go_wp2_with fail
              refine via (l_like _ _ F _ HRF.out RF2.out) ?_
              intro u9 z9
              go_wp2_with fail
              go_ret
              exact ⟨by first | rfl | simp, Ext.bel (EE.out.aft _)⟩)
end Go.Proofs.Ytganmeiaflkkoaa
