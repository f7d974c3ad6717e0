/- Lifts of roots: the law. (Printed by mkZK.py.) -/
import Derived.Test.YtganmeiaflkkoaaZH
import Derived.Test.YtganmeiaflkkoaaZD
import Derived.Test.YtganmeiaflkkoaaT30
namespace Go.Proofs.Ytganmeiaflkkoaa
open Go Go.RowKit

set_option maxHeartbeats 1000000 in
theorem l_like (r1 r2 : Value) (xs : List Int) (w : World) (h : rdI w r1 xs) (h' : rdI w r2 xs) :
    Calls Try.prog 18 #[r1, r2] w fun e w' => e = .returned (.bool true) ∧ Below w.heap.size w w' := by
  obtain ⟨a, cap, rfl, hm, hc⟩ := h
  obtain ⟨a', cap', rfl, hm', hc'⟩ := h'
  have Hc := hid hc
  have Hc' := hid hc'
  unfold maxLen at hm
  clear hc hc' hm'
  go_enter Try.func18, Try.ntmps18
  go_wp2_with fail
  go_loopw [5] (fun i wr => ∃ (k : Nat) (uu : World), wr = aft w uu ∧ k ≤ xs.length ∧ i = .int .i64 k) (fun i _ => xs.length - (intOf i).toNat)
  case atStart => exact ⟨0, w, (aft_of (Below.refl _ _)).symm, by omega, rfl⟩
  case round =>
    obtain ⟨k, uu, rfl, hk, rfl⟩ := hrel
    by_cases hlt : k < xs.length
    · obtain ⟨b, o, rfl, hcell⟩ := Hc.out (by intro e; subst e; simp at hlt)
      obtain ⟨b', o', rfl, hcell'⟩ := Hc'.out (by intro e; subst e; simp at hlt)
      have h1 := hcell k hlt
      have h2 := hcell' k hlt
      have h3 := World.block_lt_of_cell? w _ h1
      have h4 := World.block_lt_of_cell? w _ h2
      obtain ⟨x, hx⟩ : ∃ x, x = xs[k] := ⟨_, rfl⟩
      rw [← hx] at h1 h2
      have hz : ((k : Int) : Int) < (xs.length : Int) := by omega
      have hz0 : (0 : Int) ≤ (k : Int) := by omega
      have zs := size_aft w uu
      clear hx hcell hcell'
      go_wp2_with fail
      refine wp_region_calm (by kernel_rfl) (by kernel_rfl) ?_
      repeat (go_big_quiet_step (fail))
      refine wpQuiet_nil ?_; intro uq zq; try simp at zq
      go_wp2_with fail
      go_roundw
      case rel => exact ⟨k + 1, _, (aft_of ((below_aft w uu).trans ((below_aft _ _).mono (size_aft w uu)))).symm, by omega, by go_num⟩
      case measure => simp [intOf]; omega
    · obtain rfl : k = xs.length := by omega
      go_wp2
      go_ret
      exact ⟨rfl, (by refine Ext.bel ?_; repeat (with_reducible first | exact Ext.refl _ | apply Ext.alloc | apply Ext.aft | apply Ext.drew | apply Ext.drewN | apply Ext.setCell | exact Nat.le_add_right _ _ | exact Nat.le_refl _ | (simp; done) | omega))⟩
set_option maxRecDepth 20000 in
set_option maxHeartbeats 32000000 in
theorem law_Lifts (a : Option Addr) (len cap : Nat) (w : World) (h : rdB w.heap.size w a len) :
    Calls Try.prog 4 #[.slice a len cap] w fun e w' => e = .returned (.bool true) ∧ Below w.heap.size w w' := by
  by_cases hl : len ≤ 4096
  case neg =>
    have hd : decide ((4096 : Int) < (len : Int)) = true := by simp; omega
    go_enter Try.func4, Try.ntmps4
    go_wp2_with (go_at_call 5; refine pur (l_big _ _ _ _) ?_)
    go_ret
    exact ⟨rfl, (by refine Ext.bel ?_; repeat (with_reducible first | exact Ext.refl _ | apply Ext.alloc | apply Ext.aft | apply Ext.drew | apply Ext.drewN | apply Ext.setCell | exact Nat.le_add_right _ _ | exact Nat.le_refl _ | (simp; done) | omega))⟩
  have hd : decide ((4096 : Int) < (len : Int)) = false := by simp; omega
  have H := hid h
  clear h
  go_enter Try.func4, Try.ntmps4
  go_wp2_with (go_at_call 5; refine pur (l_big _ _ _ _) ?_)
  have hE_0 : Hid (Ext w.heap.size w w) := hid (Ext.refl w)
  refine (s_DrawLiftRoot w.heap.size a len cap _ (H.out.ext hE_0.out) hl hE_0.out.2).mono ?_
  rintro e W1 ⟨p1, n1, s1, F, q1, rfl, ho1, hfl, hb⟩
  have hE_1 : Hid (Ext w.heap.size w W1) := hid (hE_0.out.below hb)
  clear hE_0
  clear hb
  obtain ⟨aF, cF, hsh, _, _⟩ := ho1.rd
  subst hsh
  have rF_1 : Hid (rdI W1 (.slice aF F.length cF) F) := hid (ho1.rd)
  clear ho1 hfl
  obtain ⟨x1, C1, hLq⟩ : ∃ a b, liftRF p1 n1 F q1 = (a, b) := ⟨_, _, rfl⟩
  have LI : Hid (∀ W, rdI W (.slice aF F.length cF) F → Calls Try.prog 23 #[.agg #[.int .i64 p1, .int .i64 n1], (.slice aF F.length cF), .int .i64 q1] W fun e w' => e = .returned (.tuple #[.int .i64 x1, .int .i64 C1]) ∧ Below W.heap.size W w') := hid fun W q => by have := i_LiftRoot p1 n1 q1 _ F W q; rw [hLq] at this; exact this
  have LS : Hid (∀ W, rdI W (.slice aF F.length cF) F → Calls Try.prog 24 #[.agg #[.int .i64 p1, .int .i64 n1], (.slice aF F.length cF), .int .i64 q1] W fun e w' => e = .returned (.tuple #[.int .i64 x1, .int .i64 C1]) ∧ Below W.heap.size W w') := hid fun W q => by have := s_LiftRoot p1 n1 q1 _ F W q; rw [hLq] at this; exact this
  have HLAW : Hid (C1 = 0 → virF p1 n1 F x1 = (0, 0) ∧ newtF p1 n1 F x1 = (x1, 0) ∧ x1 % p1 = q1 ∧ ringB p1 n1 = true ∧ 0 ≤ x1) := hid fun e => by
    subst e
    exact lift_law hLq
  clear hLq
  go_wp2_with fail
  obtain ⟨W2, hW2⟩ : ∃ X, X = W1.alloc (Obj.cells #[Value.int .i64 p1, .int .i64 n1] 25) := ⟨_, rfl⟩
  obtain ⟨kR, hkR⟩ : ∃ k, k = W1.heap.size := ⟨_, rfl⟩
  have hba : Below W1.heap.size W1 W2 := by rw [hW2]; exact (Below.refl _ _).alloc (Nat.le_refl _) _
  have cn : ∀ o, W2.cell? ⟨kR, o, none⟩ = #[Value.int .i64 p1, .int .i64 n1][o]? := fun o => by rw [hW2, hkR, alloc_cell, if_pos rfl]
  have ln : kR < W2.heap.size := by rw [hW2, hkR]; simp
  rw [← hW2, ← hkR]
  clear hW2 hkR
  have hE_2 : Hid (Ext w.heap.size w W2) := hid (hE_1.out.below hba)
  have rF_2 : Hid (rdI W2 (.slice aF F.length cF) F) := hid (rF_1.out.below hba)
  clear hE_1 rF_1
  have R_2 := cn
  have lR_2 := ln
  clear cn ln hba
  refine (LI.out _ (rF_2.out)).mono ?_
  rintro e W3 ⟨rfl, hb⟩
  have hE_3 : Hid (Ext w.heap.size w W3) := hid (hE_2.out.below hb)
  have rF_3 : Hid (rdI W3 (.slice aF F.length cF) F) := hid (rF_2.out.below hb)
  have R_3 : ∀ o, W3.cell? ⟨kR, o, none⟩ = #[Value.int .i64 p1, .int .i64 n1][o]? := fun o => (hb.cell (p := ⟨kR, o, none⟩) lR_2).trans (R_2 o)
  have lR_3 : kR < W3.heap.size := Nat.lt_of_lt_of_le lR_2 hb.size
  clear hE_2 rF_2 R_2 lR_2
  clear hb
  go_wp2_with fail
  refine (LS.out _ (rF_3.out)).mono ?_
  rintro e W4 ⟨rfl, hb⟩
  have hE_4 : Hid (Ext w.heap.size w W4) := hid (hE_3.out.below hb)
  have rF_4 : Hid (rdI W4 (.slice aF F.length cF) F) := hid (rF_3.out.below hb)
  have R_4 : ∀ o, W4.cell? ⟨kR, o, none⟩ = #[Value.int .i64 p1, .int .i64 n1][o]? := fun o => (hb.cell (p := ⟨kR, o, none⟩) lR_3).trans (R_3 o)
  have lR_4 : kR < W4.heap.size := Nat.lt_of_lt_of_le lR_3 hb.size
  clear hE_3 rF_3 R_3 lR_3
  clear hb
  go_wp2_with fail
  clear LI LS
  refine (s_DrawSimpleRoots w.heap.size a len cap _ (H.out.ext hE_4.out) hl hE_4.out.2).mono ?_
  rintro e W5 ⟨p2, n2, s1, G, rfl, ho1, hgl, hb⟩
  have hE_5 : Hid (Ext w.heap.size w W5) := hid (hE_4.out.below hb)
  have rF_5 : Hid (rdI W5 (.slice aF F.length cF) F) := hid (rF_4.out.below hb)
  have R_5 : ∀ o, W5.cell? ⟨kR, o, none⟩ = #[Value.int .i64 p1, .int .i64 n1][o]? := fun o => (hb.cell (p := ⟨kR, o, none⟩) lR_4).trans (R_4 o)
  have lR_5 : kR < W5.heap.size := Nat.lt_of_lt_of_le lR_4 hb.size
  clear hE_4 rF_4 R_4 lR_4
  clear hb
  obtain ⟨aG, cG, hsh, _, _⟩ := ho1.rd
  subst hsh
  have rG_5 : Hid (rdI W5 (.slice aG G.length cG) G) := hid (ho1.rd)
  clear ho1 hgl
  obtain ⟨Z, C2, hSq⟩ : ∃ a b, simF p2 n2 G = (a, b) := ⟨_, _, rfl⟩
  have SI : Hid (∀ W, rdI W (.slice aG G.length cG) G → Calls Try.prog 26 #[.agg #[.int .i64 p2, .int .i64 n2], (.slice aG G.length cG)] W fun e w' => ∃ v, e = .returned (.tuple #[v, .int .i64 C2]) ∧ ownR W.heap.size w' v Z ∧ Below W.heap.size W w') := hid fun W q => by have := i_SimpleRoots p2 n2 _ G W q; rw [hSq] at this; exact this
  have SS : Hid (∀ W, rdI W (.slice aG G.length cG) G → Calls Try.prog 27 #[.agg #[.int .i64 p2, .int .i64 n2], (.slice aG G.length cG)] W fun e w' => ∃ v, e = .returned (.tuple #[v, .int .i64 C2]) ∧ ownR W.heap.size w' v Z ∧ Below W.heap.size W w') := hid fun W q => by have := s_SimpleRoots p2 n2 _ G W q; rw [hSq] at this; exact this
  have HSL : Hid (C2 = 0 → ∀ x ∈ Z, virF p2 n2 G x = (0, 0)) := hid fun e => by
    subst e
    exact sim_law hSq
  clear hSq
  go_wp2_with fail
  obtain ⟨W6, hW6⟩ : ∃ X, X = W5.alloc (Obj.cells #[Value.int .i64 p2, .int .i64 n2] 25) := ⟨_, rfl⟩
  obtain ⟨kS, hkS⟩ : ∃ k, k = W5.heap.size := ⟨_, rfl⟩
  have hba : Below W5.heap.size W5 W6 := by rw [hW6]; exact (Below.refl _ _).alloc (Nat.le_refl _) _
  have cn : ∀ o, W6.cell? ⟨kS, o, none⟩ = #[Value.int .i64 p2, .int .i64 n2][o]? := fun o => by rw [hW6, hkS, alloc_cell, if_pos rfl]
  have ln : kS < W6.heap.size := by rw [hW6, hkS]; simp
  rw [← hW6, ← hkS]
  clear hW6 hkS
  have hE_6 : Hid (Ext w.heap.size w W6) := hid (hE_5.out.below hba)
  have rF_6 : Hid (rdI W6 (.slice aF F.length cF) F) := hid (rF_5.out.below hba)
  have R_6 : ∀ o, W6.cell? ⟨kR, o, none⟩ = #[Value.int .i64 p1, .int .i64 n1][o]? := fun o => (hba.cell (p := ⟨kR, o, none⟩) lR_5).trans (R_5 o)
  have lR_6 : kR < W6.heap.size := Nat.lt_of_lt_of_le lR_5 hba.size
  have rG_6 : Hid (rdI W6 (.slice aG G.length cG) G) := hid (rG_5.out.below hba)
  clear hE_5 rF_5 R_5 lR_5 rG_5
  have S_6 := cn
  have lS_6 := ln
  clear cn ln hba
  refine (SI.out _ (rG_6.out)).mono ?_
  rintro e W7 ⟨v1, rfl, ho1, hb⟩
  have hE_7 : Hid (Ext w.heap.size w W7) := hid (hE_6.out.below hb)
  have rF_7 : Hid (rdI W7 (.slice aF F.length cF) F) := hid (rF_6.out.below hb)
  have R_7 : ∀ o, W7.cell? ⟨kR, o, none⟩ = #[Value.int .i64 p1, .int .i64 n1][o]? := fun o => (hb.cell (p := ⟨kR, o, none⟩) lR_6).trans (R_6 o)
  have lR_7 : kR < W7.heap.size := Nat.lt_of_lt_of_le lR_6 hb.size
  have rG_7 : Hid (rdI W7 (.slice aG G.length cG) G) := hid (rG_6.out.below hb)
  have S_7 : ∀ o, W7.cell? ⟨kS, o, none⟩ = #[Value.int .i64 p2, .int .i64 n2][o]? := fun o => (hb.cell (p := ⟨kS, o, none⟩) lS_6).trans (S_6 o)
  have lS_7 : kS < W7.heap.size := Nat.lt_of_lt_of_le lS_6 hb.size
  clear hE_6 rF_6 R_6 lR_6 rG_6 S_6 lS_6
  clear hb
  obtain ⟨aZ, cZ, hsh, hzmZ, _⟩ := ho1.rd
  subst hsh
  have rZ_7 : Hid (rdI W7 (.slice aZ Z.length cZ) Z) := hid (ho1.rd)
  clear ho1
  go_wp2_with fail
  refine (SS.out _ (rG_7.out)).mono ?_
  rintro e W8 ⟨v1, rfl, ho1, hb⟩
  have hE_8 : Hid (Ext w.heap.size w W8) := hid (hE_7.out.below hb)
  have rF_8 : Hid (rdI W8 (.slice aF F.length cF) F) := hid (rF_7.out.below hb)
  have R_8 : ∀ o, W8.cell? ⟨kR, o, none⟩ = #[Value.int .i64 p1, .int .i64 n1][o]? := fun o => (hb.cell (p := ⟨kR, o, none⟩) lR_7).trans (R_7 o)
  have lR_8 : kR < W8.heap.size := Nat.lt_of_lt_of_le lR_7 hb.size
  have rG_8 : Hid (rdI W8 (.slice aG G.length cG) G) := hid (rG_7.out.below hb)
  have S_8 : ∀ o, W8.cell? ⟨kS, o, none⟩ = #[Value.int .i64 p2, .int .i64 n2][o]? := fun o => (hb.cell (p := ⟨kS, o, none⟩) lS_7).trans (S_7 o)
  have lS_8 : kS < W8.heap.size := Nat.lt_of_lt_of_le lS_7 hb.size
  have rZ_8 : Hid (rdI W8 (.slice aZ Z.length cZ) Z) := hid (rZ_7.out.below hb)
  clear hE_7 rF_7 R_7 lR_7 rG_7 S_7 lS_7 rZ_7
  clear hb
  obtain ⟨aY, cY, hsh, hzmY, _⟩ := ho1.rd
  subst hsh
  have rY_8 : Hid (rdI W8 (.slice aY Z.length cY) Z) := hid (ho1.rd)
  clear ho1
  go_wp2_with fail
  clear SI SS
  refine (s_DrawNewtonStep w.heap.size a len cap _ (H.out.ext hE_8.out) hl hE_8.out.2).mono ?_
  rintro e W9 ⟨p3, n3, s1, K, y3, rfl, ho1, hkl, hb⟩
  have hE_9 : Hid (Ext w.heap.size w W9) := hid (hE_8.out.below hb)
  have rF_9 : Hid (rdI W9 (.slice aF F.length cF) F) := hid (rF_8.out.below hb)
  have R_9 : ∀ o, W9.cell? ⟨kR, o, none⟩ = #[Value.int .i64 p1, .int .i64 n1][o]? := fun o => (hb.cell (p := ⟨kR, o, none⟩) lR_8).trans (R_8 o)
  have lR_9 : kR < W9.heap.size := Nat.lt_of_lt_of_le lR_8 hb.size
  have rG_9 : Hid (rdI W9 (.slice aG G.length cG) G) := hid (rG_8.out.below hb)
  have S_9 : ∀ o, W9.cell? ⟨kS, o, none⟩ = #[Value.int .i64 p2, .int .i64 n2][o]? := fun o => (hb.cell (p := ⟨kS, o, none⟩) lS_8).trans (S_8 o)
  have lS_9 : kS < W9.heap.size := Nat.lt_of_lt_of_le lS_8 hb.size
  have rZ_9 : Hid (rdI W9 (.slice aZ Z.length cZ) Z) := hid (rZ_8.out.below hb)
  have rY_9 : Hid (rdI W9 (.slice aY Z.length cY) Z) := hid (rY_8.out.below hb)
  clear hE_8 rF_8 R_8 lR_8 rG_8 S_8 lS_8 rZ_8 rY_8
  clear hb
  obtain ⟨aK, cK, hsh, _, _⟩ := ho1.rd
  subst hsh
  have rK_9 : Hid (rdI W9 (.slice aK K.length cK) K) := hid (ho1.rd)
  clear ho1 hkl
  obtain ⟨x3, C3, hNq⟩ : ∃ a b, newtF p3 n3 K y3 = (a, b) := ⟨_, _, rfl⟩
  have NI : Hid (∀ W, rdI W (.slice aK K.length cK) K → Calls Try.prog 29 #[.agg #[.int .i64 p3, .int .i64 n3], (.slice aK K.length cK), .int .i64 y3] W fun e w' => e = .returned (.tuple #[.int .i64 x3, .int .i64 C3]) ∧ Below W.heap.size W w') := hid fun W q => by have := i_NewtonStep p3 n3 _ K y3 W q; rw [hNq] at this; exact this
  have NS : Hid (∀ W, rdI W (.slice aK K.length cK) K → Calls Try.prog 30 #[.agg #[.int .i64 p3, .int .i64 n3], (.slice aK K.length cK), .int .i64 y3] W fun e w' => e = .returned (.tuple #[.int .i64 x3, .int .i64 C3]) ∧ Below W.heap.size W w') := hid fun W q => by have := s_NewtonStep p3 n3 _ K y3 W q; rw [hNq] at this; exact this
  clear hNq
  go_wp2_with fail
  obtain ⟨W10, hW10⟩ : ∃ X, X = W9.alloc (Obj.cells #[Value.int .i64 p3, .int .i64 n3] 25) := ⟨_, rfl⟩
  obtain ⟨kU, hkU⟩ : ∃ k, k = W9.heap.size := ⟨_, rfl⟩
  have hba : Below W9.heap.size W9 W10 := by rw [hW10]; exact (Below.refl _ _).alloc (Nat.le_refl _) _
  have cn : ∀ o, W10.cell? ⟨kU, o, none⟩ = #[Value.int .i64 p3, .int .i64 n3][o]? := fun o => by rw [hW10, hkU, alloc_cell, if_pos rfl]
  have ln : kU < W10.heap.size := by rw [hW10, hkU]; simp
  rw [← hW10, ← hkU]
  clear hW10 hkU
  have hE_10 : Hid (Ext w.heap.size w W10) := hid (hE_9.out.below hba)
  have rF_10 : Hid (rdI W10 (.slice aF F.length cF) F) := hid (rF_9.out.below hba)
  have R_10 : ∀ o, W10.cell? ⟨kR, o, none⟩ = #[Value.int .i64 p1, .int .i64 n1][o]? := fun o => (hba.cell (p := ⟨kR, o, none⟩) lR_9).trans (R_9 o)
  have lR_10 : kR < W10.heap.size := Nat.lt_of_lt_of_le lR_9 hba.size
  have rG_10 : Hid (rdI W10 (.slice aG G.length cG) G) := hid (rG_9.out.below hba)
  have S_10 : ∀ o, W10.cell? ⟨kS, o, none⟩ = #[Value.int .i64 p2, .int .i64 n2][o]? := fun o => (hba.cell (p := ⟨kS, o, none⟩) lS_9).trans (S_9 o)
  have lS_10 : kS < W10.heap.size := Nat.lt_of_lt_of_le lS_9 hba.size
  have rZ_10 : Hid (rdI W10 (.slice aZ Z.length cZ) Z) := hid (rZ_9.out.below hba)
  have rY_10 : Hid (rdI W10 (.slice aY Z.length cY) Z) := hid (rY_9.out.below hba)
  have rK_10 : Hid (rdI W10 (.slice aK K.length cK) K) := hid (rK_9.out.below hba)
  clear hE_9 rF_9 R_9 lR_9 rG_9 S_9 lS_9 rZ_9 rY_9 rK_9
  have U_10 := cn
  have lU_10 := ln
  clear cn ln hba
  refine (NI.out _ (rK_10.out)).mono ?_
  rintro e W11 ⟨rfl, hb⟩
  have hE_11 : Hid (Ext w.heap.size w W11) := hid (hE_10.out.below hb)
  have rF_11 : Hid (rdI W11 (.slice aF F.length cF) F) := hid (rF_10.out.below hb)
  have R_11 : ∀ o, W11.cell? ⟨kR, o, none⟩ = #[Value.int .i64 p1, .int .i64 n1][o]? := fun o => (hb.cell (p := ⟨kR, o, none⟩) lR_10).trans (R_10 o)
  have lR_11 : kR < W11.heap.size := Nat.lt_of_lt_of_le lR_10 hb.size
  have rG_11 : Hid (rdI W11 (.slice aG G.length cG) G) := hid (rG_10.out.below hb)
  have S_11 : ∀ o, W11.cell? ⟨kS, o, none⟩ = #[Value.int .i64 p2, .int .i64 n2][o]? := fun o => (hb.cell (p := ⟨kS, o, none⟩) lS_10).trans (S_10 o)
  have lS_11 : kS < W11.heap.size := Nat.lt_of_lt_of_le lS_10 hb.size
  have rZ_11 : Hid (rdI W11 (.slice aZ Z.length cZ) Z) := hid (rZ_10.out.below hb)
  have rY_11 : Hid (rdI W11 (.slice aY Z.length cY) Z) := hid (rY_10.out.below hb)
  have rK_11 : Hid (rdI W11 (.slice aK K.length cK) K) := hid (rK_10.out.below hb)
  have U_11 : ∀ o, W11.cell? ⟨kU, o, none⟩ = #[Value.int .i64 p3, .int .i64 n3][o]? := fun o => (hb.cell (p := ⟨kU, o, none⟩) lU_10).trans (U_10 o)
  have lU_11 : kU < W11.heap.size := Nat.lt_of_lt_of_le lU_10 hb.size
  clear hE_10 rF_10 R_10 lR_10 rG_10 S_10 lS_10 rZ_10 rY_10 rK_10 U_10 lU_10
  clear hb
  go_wp2_with fail
  refine (NS.out _ (rK_11.out)).mono ?_
  rintro e W12 ⟨rfl, hb⟩
  have hE_12 : Hid (Ext w.heap.size w W12) := hid (hE_11.out.below hb)
  have rF_12 : Hid (rdI W12 (.slice aF F.length cF) F) := hid (rF_11.out.below hb)
  have R_12 : ∀ o, W12.cell? ⟨kR, o, none⟩ = #[Value.int .i64 p1, .int .i64 n1][o]? := fun o => (hb.cell (p := ⟨kR, o, none⟩) lR_11).trans (R_11 o)
  have lR_12 : kR < W12.heap.size := Nat.lt_of_lt_of_le lR_11 hb.size
  have rG_12 : Hid (rdI W12 (.slice aG G.length cG) G) := hid (rG_11.out.below hb)
  have S_12 : ∀ o, W12.cell? ⟨kS, o, none⟩ = #[Value.int .i64 p2, .int .i64 n2][o]? := fun o => (hb.cell (p := ⟨kS, o, none⟩) lS_11).trans (S_11 o)
  have lS_12 : kS < W12.heap.size := Nat.lt_of_lt_of_le lS_11 hb.size
  have rZ_12 : Hid (rdI W12 (.slice aZ Z.length cZ) Z) := hid (rZ_11.out.below hb)
  have rY_12 : Hid (rdI W12 (.slice aY Z.length cY) Z) := hid (rY_11.out.below hb)
  have rK_12 : Hid (rdI W12 (.slice aK K.length cK) K) := hid (rK_11.out.below hb)
  have U_12 : ∀ o, W12.cell? ⟨kU, o, none⟩ = #[Value.int .i64 p3, .int .i64 n3][o]? := fun o => (hb.cell (p := ⟨kU, o, none⟩) lU_11).trans (U_11 o)
  have lU_12 : kU < W12.heap.size := Nat.lt_of_lt_of_le lU_11 hb.size
  clear hE_11 rF_11 R_11 lR_11 rG_11 S_11 lS_11 rZ_11 rY_11 rK_11 U_11 lU_11
  clear hb
  go_wp2_with fail
  clear NI NS
  refine (l_like _ _ Z _ (rZ_12.out) (rY_12.out)).mono ?_
  rintro e W13 ⟨rfl, hb⟩
  have hE_13 : Hid (Ext w.heap.size w W13) := hid (hE_12.out.below hb)
  have rF_13 : Hid (rdI W13 (.slice aF F.length cF) F) := hid (rF_12.out.below hb)
  have R_13 : ∀ o, W13.cell? ⟨kR, o, none⟩ = #[Value.int .i64 p1, .int .i64 n1][o]? := fun o => (hb.cell (p := ⟨kR, o, none⟩) lR_12).trans (R_12 o)
  have lR_13 : kR < W13.heap.size := Nat.lt_of_lt_of_le lR_12 hb.size
  have rG_13 : Hid (rdI W13 (.slice aG G.length cG) G) := hid (rG_12.out.below hb)
  have S_13 : ∀ o, W13.cell? ⟨kS, o, none⟩ = #[Value.int .i64 p2, .int .i64 n2][o]? := fun o => (hb.cell (p := ⟨kS, o, none⟩) lS_12).trans (S_12 o)
  have lS_13 : kS < W13.heap.size := Nat.lt_of_lt_of_le lS_12 hb.size
  have rZ_13 : Hid (rdI W13 (.slice aZ Z.length cZ) Z) := hid (rZ_12.out.below hb)
  have rY_13 : Hid (rdI W13 (.slice aY Z.length cY) Z) := hid (rY_12.out.below hb)
  have rK_13 : Hid (rdI W13 (.slice aK K.length cK) K) := hid (rK_12.out.below hb)
  have U_13 : ∀ o, W13.cell? ⟨kU, o, none⟩ = #[Value.int .i64 p3, .int .i64 n3][o]? := fun o => (hb.cell (p := ⟨kU, o, none⟩) lU_12).trans (U_12 o)
  have lU_13 : kU < W13.heap.size := Nat.lt_of_lt_of_le lU_12 hb.size
  clear hE_12 rF_12 R_12 lR_12 rG_12 S_12 lS_12 rZ_12 rY_12 rK_12 U_12 lU_12
  clear hb
  go_wp2_with fail
  have RF : Hid (rdI W13 (.slice aF F.length cF) F) := rF_13
  have RG : Hid (rdI W13 (.slice aG G.length cG) G) := rG_13
  have RZ : Hid (rdI W13 (.slice aZ Z.length cZ) Z) := rZ_13
  have E9 : Hid (Ext w.heap.size w W13) := hE_13
  have hZ9 : Z.length ≤ maxLen := hzmZ
  unfold maxLen at hZ9
  clear hzmY hE_13 rF_13 rG_13 rZ_13 rY_13 rK_13
  have r0 := R_13 0
  have r1 := R_13 1
  have s0 := S_13 0
  have s1 := S_13 1
  simp at r0 r1 s0 s1
  go_loopw [23] (fun i wr => ∃ (k : Nat) (uu : World), wr = aft W13 uu ∧ k ≤ Z.length ∧ i = .int .i64 k) (fun i _ => Z.length - (intOf i).toNat)
  case atStart => exact ⟨0, _, (aft_of (Below.refl _ W13)).symm, by omega, rfl⟩
  case round =>
    obtain ⟨k, uu, rfl, hk, rfl⟩ := hrel
    have zs := size_aft W13 uu
    by_cases hgo : C2 = 0 ∧ k < Z.length
    · obtain ⟨hC2, hlt⟩ := hgo
      have hCb : (C2 == 0) = true := by simpa using hC2
      have hltz : (k : Int) < (Z.length : Int) := by omega
      have hk0 : (0 : Int) ≤ (k : Int) := by omega
      obtain ⟨b1, o1, rfl⟩ := rd_head RZ.out (by intro e; rw [e] at hlt; simp at hlt)
      have h1 := rd_at (RZ.out.aft uu) hlt
      have hv := HSL.out hC2 Z[k] (List.getElem_mem hlt)
      rw [← getD_lt hlt] at hv
      obtain ⟨x, hx⟩ : ∃ x, x = Z.getD k 0 := ⟨_, rfl⟩
      rw [← hx] at h1 hv
      have hb1 := World.block_lt_of_cell? _ _ h1
      have HV : Hid (∀ W, rdI W (.slice aG G.length cG) G → Calls Try.prog 31 #[.agg #[.int .i64 p2, .int .i64 n2], (.slice aG G.length cG), .int .i64 x] W fun e w' => e = .returned (.tuple #[.int .i64 0, .int .i64 0]) ∧ Below W.heap.size W w') := hid fun W q => by have := i_ValueInRing p2 n2 _ G x W q; rw [hv] at this; exact this
      clear hv hx hC2
      go_wp2_with fail
      refine wp_region_calm (by kernel_rfl) (by kernel_rfl) ?_
      repeat (go_big_quiet_step (first | (go_at_call 31; exact calm (HV.out _ ((RG.out.aft _).aft _)))))
      refine wpQuiet_nil ?_; intro uq zq; try simp at zq
      go_wp2_with fail
      go_roundw
      case rel => exact ⟨k + 1, _, (aft_of ((below_aft W13 uu).trans ((below_aft _ _).mono (size_aft W13 uu)))).symm, by omega, by go_num⟩
      case measure => simp only [intOf]; omega
    · have hend : (C2 == 0) = false ∨ ((C2 == 0) = true ∧ ¬ (k : Int) < (Z.length : Int)) := by
        by_cases e : C2 = 0
        · right
          refine ⟨by simpa using e, fun e2 => hgo ⟨e, by omega⟩⟩
        · left; simpa using e
      clear hgo
      rcases hend with hCb | ⟨hCb, hkz⟩
      all_goals (
        by_cases hC1 : C1 = 0
        case neg =>
          have hC1n : (C1 != 0) = true := by simpa using hC1
          go_wp2_with fail
          go_ret
          exact ⟨rfl, Ext.bel (E9.out.aft _)⟩
        subst hC1
        obtain ⟨v1, v2, v3, v4, v5⟩ := HLAW.out rfl
        obtain ⟨q1', _, _, _, _, _, _⟩ := ring_facts2 v4
        have htm : x1.tmod p1 = q1 := by rw [Int.tmod_eq_emod_of_nonneg v5]; exact v3
        have hp0 : p1 ≠ 0 := by omega
        have HV1 : Hid (∀ W, rdI W (.slice aF F.length cF) F → Calls Try.prog 31 #[.agg #[.int .i64 p1, .int .i64 n1], (.slice aF F.length cF), .int .i64 x1] W fun e w' => e = .returned (.tuple #[.int .i64 0, .int .i64 0]) ∧ Below W.heap.size W w') := hid fun W q => by have := i_ValueInRing p1 n1 _ F x1 W q; rw [v1] at this; exact this
        have HV2 : Hid (∀ W, rdI W (.slice aF F.length cF) F → Calls Try.prog 29 #[.agg #[.int .i64 p1, .int .i64 n1], (.slice aF F.length cF), .int .i64 x1] W fun e w' => e = .returned (.tuple #[.int .i64 x1, .int .i64 0]) ∧ Below W.heap.size W w') := hid fun W q => by have := i_NewtonStep p1 n1 _ F x1 W q; rw [v2] at this; exact this
        clear v1 v2 v3 v4 v5 HLAW
        go_wp2_with fail
        refine via (HV1.out _ (RF.out.aft _)) ?_
        intro u2 z2
        (try simp at z2)
        go_wp2_with fail
        refine via (HV2.out _ ((RF.out.aft _).aft _)) ?_
        intro u3 z3
        (try simp at z3)
        go_wp2_with fail
        go_ret
        exact ⟨by first | rfl | simp, Ext.bel (((E9.out.aft _).aft _).aft _)⟩)
end Go.Proofs.Ytganmeiaflkkoaa
