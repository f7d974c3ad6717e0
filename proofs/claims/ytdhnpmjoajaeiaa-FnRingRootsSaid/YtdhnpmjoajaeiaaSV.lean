/- Roots in rings: the law. (Printed by mkSV.py.) -/
import Derived.Test.YtdhnpmjoajaeiaaSU
namespace Go.Proofs.Ytdhnpmjoajaeiaa
open Go Go.RowKit

set_option maxHeartbeats 1000000 in
theorem l_like (r1 r2 : Value) (xs : List Int) (w : World) (h : rdI w r1 xs) (h' : rdI w r2 xs) :
    Calls Try.prog 25 #[r1, r2] w fun e w' => e = .returned (.bool true) ∧ Below w.heap.size w w' := by
  obtain ⟨a, cap, rfl, hm, hc⟩ := h
  obtain ⟨a', cap', rfl, hm', hc'⟩ := h'
  have Hc := hid hc
  have Hc' := hid hc'
  unfold maxLen at hm
  clear hc hc' hm'
  go_enter Try.func25, Try.ntmps25
  go_wp2_with fail
  go_loopw [5] (fun i wr => ∃ (k : Nat) (uu : World), wr = aft w uu ∧ k ≤ xs.length ∧ i = .int .i64 k) (fun i _ => xs.length - (intOf i).toNat)
  case atStart => exact ⟨0, w, (aft_of (Below.refl _ _)).symm, by omega, rfl⟩
  case round =>
    obtain ⟨k, uu, rfl, hk, rfl⟩ := hrel
    by_cases hlt : k < xs.length
    · obtain ⟨b, o, rfl, hcell⟩ := Hc.out (by intro e; subst e; simp at hlt)
      obtain ⟨b', o', rfl, hcell'⟩ := Hc'.out (by intro e; subst e; simp at hlt)
      have h1 := hcell k hlt
      have h2 := hcell' k hlt
      have h3 := World.block_lt_of_cell? w _ h1
      have h4 := World.block_lt_of_cell? w _ h2
      obtain ⟨x, hx⟩ : ∃ x, x = xs[k] := ⟨_, rfl⟩
      rw [← hx] at h1 h2
      have hz : ((k : Int) : Int) < (xs.length : Int) := by omega
      have hz0 : (0 : Int) ≤ (k : Int) := by omega
      have zs := size_aft w uu
      clear hx hcell hcell'
      go_wp2_with fail
      refine wp_region_calm (by kernel_rfl) (by kernel_rfl) ?_
      repeat (go_big_quiet_step (fail))
      refine wpQuiet_nil ?_; intro uq zq; try simp at zq
      go_wp2_with fail
      go_roundw
      case rel => exact ⟨k + 1, _, (aft_of ((below_aft w uu).trans ((below_aft _ _).mono (size_aft w uu)))).symm, by omega, by go_num⟩
      case measure => simp [intOf]; omega
    · obtain rfl : k = xs.length := by omega
      go_wp2
      go_ret
      exact ⟨rfl, (by refine Ext.bel ?_; repeat (with_reducible first | exact Ext.refl _ | apply Ext.alloc | apply Ext.aft | apply Ext.drew | apply Ext.drewN | apply Ext.setCell | exact Nat.le_add_right _ _ | exact Nat.le_refl _ | (simp; done) | omega))⟩
set_option maxRecDepth 20000 in
set_option maxHeartbeats 64000000 in
theorem law_RingRoots (a : Option Addr) (len cap : Nat) (w : World) (h : rdB w.heap.size w a len) :
    Calls Try.prog 4 #[.slice a len cap] w fun e w' => e = .returned (.bool true) ∧ Below w.heap.size w w' := by
  by_cases hl : len ≤ 4096
  case neg =>
    have hd : decide ((4096 : Int) < (len : Int)) = true := by simp; omega
    go_enter Try.func4, Try.ntmps4
    go_wp2_with (go_at_call 11; refine pur (l_big _ _ _ _) ?_)
    go_ret
    exact ⟨rfl, (by refine Ext.bel ?_; repeat (with_reducible first | exact Ext.refl _ | apply Ext.alloc | apply Ext.aft | apply Ext.drew | apply Ext.drewN | apply Ext.setCell | exact Nat.le_add_right _ _ | exact Nat.le_refl _ | (simp; done) | omega))⟩
  have hd : decide ((4096 : Int) < (len : Int)) = false := by simp; omega
  have H := hid h
  clear h
  go_enter Try.func4, Try.ntmps4
  go_wp2_with (go_at_call 11; refine pur (l_big _ _ _ _) ?_)
  have hE_0 : Hid (Ext w.heap.size w w) := hid (Ext.refl w)
  refine (s_DrawRootsInRing w.heap.size a len cap _ (H.out.ext hE_0.out) hl hE_0.out.2).mono ?_
  rintro e W1 ⟨p1, n1, s1, F, rfl, ho1, hfl, hb⟩
  have hE_1 : Hid (Ext w.heap.size w W1) := hid (hE_0.out.below hb)
  clear hE_0
  clear hb
  obtain ⟨aF, cF, hsh, _, _⟩ := ho1.rd
  subst hsh
  have rF_1 : Hid (rdI W1 (.slice aF F.length cF) F) := hid (ho1.rd)
  clear ho1 hfl
  obtain ⟨Z, C1, hRq⟩ : ∃ a b, rinF p1 n1 F = (a, b) := ⟨_, _, rfl⟩
  have RI : Hid (∀ W, rdI W (.slice aF F.length cF) F → Calls Try.prog 13 #[.agg #[.int .i64 p1, .int .i64 n1], (.slice aF F.length cF)] W fun e w' => ∃ v, e = .returned (.tuple #[v, .int .i64 C1]) ∧ ownR W.heap.size w' v Z ∧ Below W.heap.size W w') := hid fun W q => by have := i_RootsInRing p1 n1 _ F W q; rw [hRq] at this; exact this
  have RS : Hid (∀ W, rdI W (.slice aF F.length cF) F → Calls Try.prog 14 #[.agg #[.int .i64 p1, .int .i64 n1], (.slice aF F.length cF)] W fun e w' => ∃ v, e = .returned (.tuple #[v, .int .i64 C1]) ∧ ownR W.heap.size w' v Z ∧ Below W.heap.size W w') := hid fun W q => by have := s_RootsInRing p1 n1 _ F W q; rw [hRq] at this; exact this
  have HRL : Hid (C1 = 0 → (∀ x ∈ Z, virF p1 n1 F x = (0, 0)) ∧ (∀ k, k + 1 < Z.length → Z.getD k 0 < Z.getD (k + 1) 0)) := hid fun e => by
    subst e
    exact rin_law hRq
  have HZ60 := hid (rin_cases hRq)
  clear hRq
  go_wp2_with fail
  obtain ⟨W2, hW2⟩ : ∃ X, X = W1.alloc (Obj.cells #[Value.int .i64 p1, .int .i64 n1] 27) := ⟨_, rfl⟩
  obtain ⟨kR, hkR⟩ : ∃ k, k = W1.heap.size := ⟨_, rfl⟩
  have hba : Below W1.heap.size W1 W2 := by rw [hW2]; exact (Below.refl _ _).alloc (Nat.le_refl _) _
  have cn : ∀ o, W2.cell? ⟨kR, o, none⟩ = #[Value.int .i64 p1, .int .i64 n1][o]? := fun o => by rw [hW2, hkR, alloc_cell, if_pos rfl]
  have ln : kR < W2.heap.size := by rw [hW2, hkR]; simp
  rw [← hW2, ← hkR]
  clear hW2 hkR
  have hE_2 : Hid (Ext w.heap.size w W2) := hid (hE_1.out.below hba)
  have rF_2 : Hid (rdI W2 (.slice aF F.length cF) F) := hid (rF_1.out.below hba)
  clear hE_1 rF_1
  have R_2 := cn
  have lR_2 := ln
  clear cn ln hba
  refine (RI.out _ (rF_2.out)).mono ?_
  rintro e W3 ⟨v1, rfl, ho1, hb⟩
  have hE_3 : Hid (Ext w.heap.size w W3) := hid (hE_2.out.below hb)
  have rF_3 : Hid (rdI W3 (.slice aF F.length cF) F) := hid (rF_2.out.below hb)
  have R_3 : ∀ o, W3.cell? ⟨kR, o, none⟩ = #[Value.int .i64 p1, .int .i64 n1][o]? := fun o => (hb.cell (p := ⟨kR, o, none⟩) lR_2).trans (R_2 o)
  have lR_3 : kR < W3.heap.size := Nat.lt_of_lt_of_le lR_2 hb.size
  clear hE_2 rF_2 R_2 lR_2
  clear hb
  obtain ⟨aZ, cZ, hsh, hzmZ, _⟩ := ho1.rd
  subst hsh
  have rZ_3 : Hid (rdI W3 (.slice aZ Z.length cZ) Z) := hid (ho1.rd)
  clear ho1 hzmZ
  go_wp2_with fail
  refine (RS.out _ (rF_3.out)).mono ?_
  rintro e W4 ⟨v1, rfl, ho1, hb⟩
  have hE_4 : Hid (Ext w.heap.size w W4) := hid (hE_3.out.below hb)
  have rF_4 : Hid (rdI W4 (.slice aF F.length cF) F) := hid (rF_3.out.below hb)
  have R_4 : ∀ o, W4.cell? ⟨kR, o, none⟩ = #[Value.int .i64 p1, .int .i64 n1][o]? := fun o => (hb.cell (p := ⟨kR, o, none⟩) lR_3).trans (R_3 o)
  have lR_4 : kR < W4.heap.size := Nat.lt_of_lt_of_le lR_3 hb.size
  have rZ_4 : Hid (rdI W4 (.slice aZ Z.length cZ) Z) := hid (rZ_3.out.below hb)
  clear hE_3 rF_3 R_3 lR_3 rZ_3
  clear hb
  obtain ⟨aY, cY, hsh, hzmY, _⟩ := ho1.rd
  subst hsh
  have rY_4 : Hid (rdI W4 (.slice aY Z.length cY) Z) := hid (ho1.rd)
  clear ho1 hzmY
  go_wp2_with fail
  clear RI RS
  refine (s_DrawCountRootsInRing w.heap.size a len cap _ (H.out.ext hE_4.out) hl hE_4.out.2).mono ?_
  rintro e W5 ⟨p2, n2, s1, G, rfl, ho1, hgl, hb⟩
  have hE_5 : Hid (Ext w.heap.size w W5) := hid (hE_4.out.below hb)
  have rF_5 : Hid (rdI W5 (.slice aF F.length cF) F) := hid (rF_4.out.below hb)
  have R_5 : ∀ o, W5.cell? ⟨kR, o, none⟩ = #[Value.int .i64 p1, .int .i64 n1][o]? := fun o => (hb.cell (p := ⟨kR, o, none⟩) lR_4).trans (R_4 o)
  have lR_5 : kR < W5.heap.size := Nat.lt_of_lt_of_le lR_4 hb.size
  have rZ_5 : Hid (rdI W5 (.slice aZ Z.length cZ) Z) := hid (rZ_4.out.below hb)
  have rY_5 : Hid (rdI W5 (.slice aY Z.length cY) Z) := hid (rY_4.out.below hb)
  clear hE_4 rF_4 R_4 lR_4 rZ_4 rY_4
  clear hb
  obtain ⟨aG, cG, hsh, _, _⟩ := ho1.rd
  subst hsh
  have rG_5 : Hid (rdI W5 (.slice aG G.length cG) G) := hid (ho1.rd)
  clear ho1 hgl
  obtain ⟨x2, C2, hCq⟩ : ∃ a b, crrF p2 n2 G = (a, b) := ⟨_, _, rfl⟩
  obtain ⟨A, C6, hAq⟩ : ∃ a b, rinF p2 n2 G = (a, b) := ⟨_, _, rfl⟩
  have CI : Hid (∀ W, rdI W (.slice aG G.length cG) G → Calls Try.prog 16 #[.agg #[.int .i64 p2, .int .i64 n2], (.slice aG G.length cG)] W fun e w' => e = .returned (.tuple #[.int .i64 x2, .int .i64 C2]) ∧ Below W.heap.size W w') := hid fun W q => by have := i_CountRootsInRing p2 n2 _ G W q; rw [hCq] at this; exact this
  have CS : Hid (∀ W, rdI W (.slice aG G.length cG) G → Calls Try.prog 17 #[.agg #[.int .i64 p2, .int .i64 n2], (.slice aG G.length cG)] W fun e w' => e = .returned (.tuple #[.int .i64 x2, .int .i64 C2]) ∧ Below W.heap.size W w') := hid fun W q => by have := s_CountRootsInRing p2 n2 _ G W q; rw [hCq] at this; exact this
  have AI : Hid (∀ W, rdI W (.slice aG G.length cG) G → Calls Try.prog 13 #[.agg #[.int .i64 p2, .int .i64 n2], (.slice aG G.length cG)] W fun e w' => ∃ v, e = .returned (.tuple #[v, .int .i64 C6]) ∧ ownR W.heap.size w' v A ∧ Below W.heap.size W w') := hid fun W q => by have := i_RootsInRing p2 n2 _ G W q; rw [hAq] at this; exact this
  have HCL : Hid (C2 = 0 → (C6 = 0 ∧ (A.length : Int) = x2) ∨ (C6 = 3 ∧ 60 < x2)) := hid fun e => by
    subst e
    exact cnt_law hCq hAq
  have HA60 := hid (rin_cases hAq)
  clear hCq hAq
  go_wp2_with fail
  obtain ⟨W6, hW6⟩ : ∃ X, X = W5.alloc (Obj.cells #[Value.int .i64 p2, .int .i64 n2] 27) := ⟨_, rfl⟩
  obtain ⟨kS, hkS⟩ : ∃ k, k = W5.heap.size := ⟨_, rfl⟩
  have hba : Below W5.heap.size W5 W6 := by rw [hW6]; exact (Below.refl _ _).alloc (Nat.le_refl _) _
  have cn : ∀ o, W6.cell? ⟨kS, o, none⟩ = #[Value.int .i64 p2, .int .i64 n2][o]? := fun o => by rw [hW6, hkS, alloc_cell, if_pos rfl]
  have ln : kS < W6.heap.size := by rw [hW6, hkS]; simp
  rw [← hW6, ← hkS]
  clear hW6 hkS
  have hE_6 : Hid (Ext w.heap.size w W6) := hid (hE_5.out.below hba)
  have rF_6 : Hid (rdI W6 (.slice aF F.length cF) F) := hid (rF_5.out.below hba)
  have R_6 : ∀ o, W6.cell? ⟨kR, o, none⟩ = #[Value.int .i64 p1, .int .i64 n1][o]? := fun o => (hba.cell (p := ⟨kR, o, none⟩) lR_5).trans (R_5 o)
  have lR_6 : kR < W6.heap.size := Nat.lt_of_lt_of_le lR_5 hba.size
  have rZ_6 : Hid (rdI W6 (.slice aZ Z.length cZ) Z) := hid (rZ_5.out.below hba)
  have rY_6 : Hid (rdI W6 (.slice aY Z.length cY) Z) := hid (rY_5.out.below hba)
  have rG_6 : Hid (rdI W6 (.slice aG G.length cG) G) := hid (rG_5.out.below hba)
  clear hE_5 rF_5 R_5 lR_5 rZ_5 rY_5 rG_5
  have S_6 := cn
  have lS_6 := ln
  clear cn ln hba
  refine (CI.out _ (rG_6.out)).mono ?_
  rintro e W7 ⟨rfl, hb⟩
  have hE_7 : Hid (Ext w.heap.size w W7) := hid (hE_6.out.below hb)
  have rF_7 : Hid (rdI W7 (.slice aF F.length cF) F) := hid (rF_6.out.below hb)
  have R_7 : ∀ o, W7.cell? ⟨kR, o, none⟩ = #[Value.int .i64 p1, .int .i64 n1][o]? := fun o => (hb.cell (p := ⟨kR, o, none⟩) lR_6).trans (R_6 o)
  have lR_7 : kR < W7.heap.size := Nat.lt_of_lt_of_le lR_6 hb.size
  have rZ_7 : Hid (rdI W7 (.slice aZ Z.length cZ) Z) := hid (rZ_6.out.below hb)
  have rY_7 : Hid (rdI W7 (.slice aY Z.length cY) Z) := hid (rY_6.out.below hb)
  have rG_7 : Hid (rdI W7 (.slice aG G.length cG) G) := hid (rG_6.out.below hb)
  have S_7 : ∀ o, W7.cell? ⟨kS, o, none⟩ = #[Value.int .i64 p2, .int .i64 n2][o]? := fun o => (hb.cell (p := ⟨kS, o, none⟩) lS_6).trans (S_6 o)
  have lS_7 : kS < W7.heap.size := Nat.lt_of_lt_of_le lS_6 hb.size
  clear hE_6 rF_6 R_6 lR_6 rZ_6 rY_6 rG_6 S_6 lS_6
  clear hb
  go_wp2_with fail
  refine (CS.out _ (rG_7.out)).mono ?_
  rintro e W8 ⟨rfl, hb⟩
  have hE_8 : Hid (Ext w.heap.size w W8) := hid (hE_7.out.below hb)
  have rF_8 : Hid (rdI W8 (.slice aF F.length cF) F) := hid (rF_7.out.below hb)
  have R_8 : ∀ o, W8.cell? ⟨kR, o, none⟩ = #[Value.int .i64 p1, .int .i64 n1][o]? := fun o => (hb.cell (p := ⟨kR, o, none⟩) lR_7).trans (R_7 o)
  have lR_8 : kR < W8.heap.size := Nat.lt_of_lt_of_le lR_7 hb.size
  have rZ_8 : Hid (rdI W8 (.slice aZ Z.length cZ) Z) := hid (rZ_7.out.below hb)
  have rY_8 : Hid (rdI W8 (.slice aY Z.length cY) Z) := hid (rY_7.out.below hb)
  have rG_8 : Hid (rdI W8 (.slice aG G.length cG) G) := hid (rG_7.out.below hb)
  have S_8 : ∀ o, W8.cell? ⟨kS, o, none⟩ = #[Value.int .i64 p2, .int .i64 n2][o]? := fun o => (hb.cell (p := ⟨kS, o, none⟩) lS_7).trans (S_7 o)
  have lS_8 : kS < W8.heap.size := Nat.lt_of_lt_of_le lS_7 hb.size
  clear hE_7 rF_7 R_7 lR_7 rZ_7 rY_7 rG_7 S_7 lS_7
  clear hb
  go_wp2_with fail
  clear CI CS
  refine (s_DrawSquareRootsOf w.heap.size a len cap _ (H.out.ext hE_8.out) hl hE_8.out.2).mono ?_
  rintro e W9 ⟨p3, n3, q3, rfl, hb⟩
  have hE_9 : Hid (Ext w.heap.size w W9) := hid (hE_8.out.below hb)
  have rF_9 : Hid (rdI W9 (.slice aF F.length cF) F) := hid (rF_8.out.below hb)
  have R_9 : ∀ o, W9.cell? ⟨kR, o, none⟩ = #[Value.int .i64 p1, .int .i64 n1][o]? := fun o => (hb.cell (p := ⟨kR, o, none⟩) lR_8).trans (R_8 o)
  have lR_9 : kR < W9.heap.size := Nat.lt_of_lt_of_le lR_8 hb.size
  have rZ_9 : Hid (rdI W9 (.slice aZ Z.length cZ) Z) := hid (rZ_8.out.below hb)
  have rY_9 : Hid (rdI W9 (.slice aY Z.length cY) Z) := hid (rY_8.out.below hb)
  have rG_9 : Hid (rdI W9 (.slice aG G.length cG) G) := hid (rG_8.out.below hb)
  have S_9 : ∀ o, W9.cell? ⟨kS, o, none⟩ = #[Value.int .i64 p2, .int .i64 n2][o]? := fun o => (hb.cell (p := ⟨kS, o, none⟩) lS_8).trans (S_8 o)
  have lS_9 : kS < W9.heap.size := Nat.lt_of_lt_of_le lS_8 hb.size
  clear hE_8 rF_8 R_8 lR_8 rZ_8 rY_8 rG_8 S_8 lS_8
  clear hb
  obtain ⟨X, C3, hSq⟩ : ∃ a b, sqRF p3 n3 q3 = (a, b) := ⟨_, _, rfl⟩
  have SI : Hid (∀ W, Calls Try.prog 7 #[.agg #[.int .i64 p3, .int .i64 n3], .int .i64 q3] W fun e w' => ∃ v, e = .returned (.tuple #[v, .int .i64 C3]) ∧ ownR W.heap.size w' v X ∧ Below W.heap.size W w') := hid fun W => by have := i_SquareRootsOf p3 n3 q3 W; rw [hSq] at this; exact this
  have SS : Hid (∀ W, Calls Try.prog 5 #[.agg #[.int .i64 p3, .int .i64 n3], .int .i64 q3] W fun e w' => ∃ v, e = .returned (.tuple #[v, .int .i64 C3]) ∧ ownR W.heap.size w' v X ∧ Below W.heap.size W w') := hid fun W => by have := s_SquareRootsOf p3 n3 q3 W; rw [hSq] at this; exact this
  have HSL : Hid (C3 = 0 → ∃ m, mdlF p3 n3 = (m, 0) ∧ 1 ≤ m ∧ m ≤ 1000000000 ∧ ∀ x ∈ X, (0 ≤ x ∧ x ≤ 1000000000) ∧ x * x % m = q3) := hid fun e => by
    subst e
    exact (sq_law hSq).2
  have HX60 : Hid (X.length ≤ 1000000) := hid (by have := sqR_len p3 n3 q3; rw [hSq] at this; exact this)
  clear hSq
  go_wp2_with fail
  obtain ⟨W10, hW10⟩ : ∃ X, X = W9.alloc (Obj.cells #[Value.int .i64 p3, .int .i64 n3] 27) := ⟨_, rfl⟩
  obtain ⟨kU, hkU⟩ : ∃ k, k = W9.heap.size := ⟨_, rfl⟩
  have hba : Below W9.heap.size W9 W10 := by rw [hW10]; exact (Below.refl _ _).alloc (Nat.le_refl _) _
  have cn : ∀ o, W10.cell? ⟨kU, o, none⟩ = #[Value.int .i64 p3, .int .i64 n3][o]? := fun o => by rw [hW10, hkU, alloc_cell, if_pos rfl]
  have ln : kU < W10.heap.size := by rw [hW10, hkU]; simp
  rw [← hW10, ← hkU]
  clear hW10 hkU
  have hE_10 : Hid (Ext w.heap.size w W10) := hid (hE_9.out.below hba)
  have rF_10 : Hid (rdI W10 (.slice aF F.length cF) F) := hid (rF_9.out.below hba)
  have R_10 : ∀ o, W10.cell? ⟨kR, o, none⟩ = #[Value.int .i64 p1, .int .i64 n1][o]? := fun o => (hba.cell (p := ⟨kR, o, none⟩) lR_9).trans (R_9 o)
  have lR_10 : kR < W10.heap.size := Nat.lt_of_lt_of_le lR_9 hba.size
  have rZ_10 : Hid (rdI W10 (.slice aZ Z.length cZ) Z) := hid (rZ_9.out.below hba)
  have rY_10 : Hid (rdI W10 (.slice aY Z.length cY) Z) := hid (rY_9.out.below hba)
  have rG_10 : Hid (rdI W10 (.slice aG G.length cG) G) := hid (rG_9.out.below hba)
  have S_10 : ∀ o, W10.cell? ⟨kS, o, none⟩ = #[Value.int .i64 p2, .int .i64 n2][o]? := fun o => (hba.cell (p := ⟨kS, o, none⟩) lS_9).trans (S_9 o)
  have lS_10 : kS < W10.heap.size := Nat.lt_of_lt_of_le lS_9 hba.size
  clear hE_9 rF_9 R_9 lR_9 rZ_9 rY_9 rG_9 S_9 lS_9
  have U_10 := cn
  have lU_10 := ln
  clear cn ln hba
  refine (SI.out _).mono ?_
  rintro e W11 ⟨v1, rfl, ho1, hb⟩
  have hE_11 : Hid (Ext w.heap.size w W11) := hid (hE_10.out.below hb)
  have rF_11 : Hid (rdI W11 (.slice aF F.length cF) F) := hid (rF_10.out.below hb)
  have R_11 : ∀ o, W11.cell? ⟨kR, o, none⟩ = #[Value.int .i64 p1, .int .i64 n1][o]? := fun o => (hb.cell (p := ⟨kR, o, none⟩) lR_10).trans (R_10 o)
  have lR_11 : kR < W11.heap.size := Nat.lt_of_lt_of_le lR_10 hb.size
  have rZ_11 : Hid (rdI W11 (.slice aZ Z.length cZ) Z) := hid (rZ_10.out.below hb)
  have rY_11 : Hid (rdI W11 (.slice aY Z.length cY) Z) := hid (rY_10.out.below hb)
  have rG_11 : Hid (rdI W11 (.slice aG G.length cG) G) := hid (rG_10.out.below hb)
  have S_11 : ∀ o, W11.cell? ⟨kS, o, none⟩ = #[Value.int .i64 p2, .int .i64 n2][o]? := fun o => (hb.cell (p := ⟨kS, o, none⟩) lS_10).trans (S_10 o)
  have lS_11 : kS < W11.heap.size := Nat.lt_of_lt_of_le lS_10 hb.size
  have U_11 : ∀ o, W11.cell? ⟨kU, o, none⟩ = #[Value.int .i64 p3, .int .i64 n3][o]? := fun o => (hb.cell (p := ⟨kU, o, none⟩) lU_10).trans (U_10 o)
  have lU_11 : kU < W11.heap.size := Nat.lt_of_lt_of_le lU_10 hb.size
  clear hE_10 rF_10 R_10 lR_10 rZ_10 rY_10 rG_10 S_10 lS_10 U_10 lU_10
  clear hb
  obtain ⟨aX, cX, hsh, hzmX, _⟩ := ho1.rd
  subst hsh
  have rX_11 : Hid (rdI W11 (.slice aX X.length cX) X) := hid (ho1.rd)
  clear ho1 hzmX
  go_wp2_with fail
  refine (SS.out _).mono ?_
  rintro e W12 ⟨v1, rfl, ho1, hb⟩
  have hE_12 : Hid (Ext w.heap.size w W12) := hid (hE_11.out.below hb)
  have rF_12 : Hid (rdI W12 (.slice aF F.length cF) F) := hid (rF_11.out.below hb)
  have R_12 : ∀ o, W12.cell? ⟨kR, o, none⟩ = #[Value.int .i64 p1, .int .i64 n1][o]? := fun o => (hb.cell (p := ⟨kR, o, none⟩) lR_11).trans (R_11 o)
  have lR_12 : kR < W12.heap.size := Nat.lt_of_lt_of_le lR_11 hb.size
  have rZ_12 : Hid (rdI W12 (.slice aZ Z.length cZ) Z) := hid (rZ_11.out.below hb)
  have rY_12 : Hid (rdI W12 (.slice aY Z.length cY) Z) := hid (rY_11.out.below hb)
  have rG_12 : Hid (rdI W12 (.slice aG G.length cG) G) := hid (rG_11.out.below hb)
  have S_12 : ∀ o, W12.cell? ⟨kS, o, none⟩ = #[Value.int .i64 p2, .int .i64 n2][o]? := fun o => (hb.cell (p := ⟨kS, o, none⟩) lS_11).trans (S_11 o)
  have lS_12 : kS < W12.heap.size := Nat.lt_of_lt_of_le lS_11 hb.size
  have U_12 : ∀ o, W12.cell? ⟨kU, o, none⟩ = #[Value.int .i64 p3, .int .i64 n3][o]? := fun o => (hb.cell (p := ⟨kU, o, none⟩) lU_11).trans (U_11 o)
  have lU_12 : kU < W12.heap.size := Nat.lt_of_lt_of_le lU_11 hb.size
  have rX_12 : Hid (rdI W12 (.slice aX X.length cX) X) := hid (rX_11.out.below hb)
  clear hE_11 rF_11 R_11 lR_11 rZ_11 rY_11 rG_11 S_11 lS_11 U_11 lU_11 rX_11
  clear hb
  obtain ⟨aV, cV, hsh, hzmV, _⟩ := ho1.rd
  subst hsh
  have rV_12 : Hid (rdI W12 (.slice aV X.length cV) X) := hid (ho1.rd)
  clear ho1 hzmV
  go_wp2_with fail
  clear SI SS
  refine (s_DrawStableRoot w.heap.size a len cap _ (H.out.ext hE_12.out) hl hE_12.out.2).mono ?_
  rintro e W13 ⟨p4, n4, s1, KK, y4, rfl, ho1, hkl, hb⟩
  have hE_13 : Hid (Ext w.heap.size w W13) := hid (hE_12.out.below hb)
  have rF_13 : Hid (rdI W13 (.slice aF F.length cF) F) := hid (rF_12.out.below hb)
  have R_13 : ∀ o, W13.cell? ⟨kR, o, none⟩ = #[Value.int .i64 p1, .int .i64 n1][o]? := fun o => (hb.cell (p := ⟨kR, o, none⟩) lR_12).trans (R_12 o)
  have lR_13 : kR < W13.heap.size := Nat.lt_of_lt_of_le lR_12 hb.size
  have rZ_13 : Hid (rdI W13 (.slice aZ Z.length cZ) Z) := hid (rZ_12.out.below hb)
  have rY_13 : Hid (rdI W13 (.slice aY Z.length cY) Z) := hid (rY_12.out.below hb)
  have rG_13 : Hid (rdI W13 (.slice aG G.length cG) G) := hid (rG_12.out.below hb)
  have S_13 : ∀ o, W13.cell? ⟨kS, o, none⟩ = #[Value.int .i64 p2, .int .i64 n2][o]? := fun o => (hb.cell (p := ⟨kS, o, none⟩) lS_12).trans (S_12 o)
  have lS_13 : kS < W13.heap.size := Nat.lt_of_lt_of_le lS_12 hb.size
  have U_13 : ∀ o, W13.cell? ⟨kU, o, none⟩ = #[Value.int .i64 p3, .int .i64 n3][o]? := fun o => (hb.cell (p := ⟨kU, o, none⟩) lU_12).trans (U_12 o)
  have lU_13 : kU < W13.heap.size := Nat.lt_of_lt_of_le lU_12 hb.size
  have rX_13 : Hid (rdI W13 (.slice aX X.length cX) X) := hid (rX_12.out.below hb)
  have rV_13 : Hid (rdI W13 (.slice aV X.length cV) X) := hid (rV_12.out.below hb)
  clear hE_12 rF_12 R_12 lR_12 rZ_12 rY_12 rG_12 S_12 lS_12 U_12 lU_12 rX_12 rV_12
  clear hb
  obtain ⟨aKK, cKK, hsh, _, _⟩ := ho1.rd
  subst hsh
  have rKK_13 : Hid (rdI W13 (.slice aKK KK.length cKK) KK) := hid (ho1.rd)
  clear ho1 hkl
  obtain ⟨b4, C4, hNq⟩ : ∃ a b, stabF p4 n4 KK y4 = (a, b) := ⟨_, _, rfl⟩
  have NI : Hid (∀ W, rdI W (.slice aKK KK.length cKK) KK → Calls Try.prog 20 #[.agg #[.int .i64 p4, .int .i64 n4], (.slice aKK KK.length cKK), .int .i64 y4] W fun e w' => e = .returned (.tuple #[.bool b4, .int .i64 C4]) ∧ Below W.heap.size W w') := hid fun W q => by have := i_StableRoot p4 n4 _ KK y4 W q; rw [hNq] at this; exact this
  have NS : Hid (∀ W, rdI W (.slice aKK KK.length cKK) KK → Calls Try.prog 21 #[.agg #[.int .i64 p4, .int .i64 n4], (.slice aKK KK.length cKK), .int .i64 y4] W fun e w' => e = .returned (.tuple #[.bool b4, .int .i64 C4]) ∧ Below W.heap.size W w') := hid fun W q => by have := s_StableRoot p4 n4 _ KK y4 W q; rw [hNq] at this; exact this
  clear hNq
  go_wp2_with fail
  obtain ⟨W14, hW14⟩ : ∃ X, X = W13.alloc (Obj.cells #[Value.int .i64 p4, .int .i64 n4] 27) := ⟨_, rfl⟩
  obtain ⟨kM4, hkM4⟩ : ∃ k, k = W13.heap.size := ⟨_, rfl⟩
  have hba : Below W13.heap.size W13 W14 := by rw [hW14]; exact (Below.refl _ _).alloc (Nat.le_refl _) _
  have cn : ∀ o, W14.cell? ⟨kM4, o, none⟩ = #[Value.int .i64 p4, .int .i64 n4][o]? := fun o => by rw [hW14, hkM4, alloc_cell, if_pos rfl]
  have ln : kM4 < W14.heap.size := by rw [hW14, hkM4]; simp
  rw [← hW14, ← hkM4]
  clear hW14 hkM4
  have hE_14 : Hid (Ext w.heap.size w W14) := hid (hE_13.out.below hba)
  have rF_14 : Hid (rdI W14 (.slice aF F.length cF) F) := hid (rF_13.out.below hba)
  have R_14 : ∀ o, W14.cell? ⟨kR, o, none⟩ = #[Value.int .i64 p1, .int .i64 n1][o]? := fun o => (hba.cell (p := ⟨kR, o, none⟩) lR_13).trans (R_13 o)
  have lR_14 : kR < W14.heap.size := Nat.lt_of_lt_of_le lR_13 hba.size
  have rZ_14 : Hid (rdI W14 (.slice aZ Z.length cZ) Z) := hid (rZ_13.out.below hba)
  have rY_14 : Hid (rdI W14 (.slice aY Z.length cY) Z) := hid (rY_13.out.below hba)
  have rG_14 : Hid (rdI W14 (.slice aG G.length cG) G) := hid (rG_13.out.below hba)
  have S_14 : ∀ o, W14.cell? ⟨kS, o, none⟩ = #[Value.int .i64 p2, .int .i64 n2][o]? := fun o => (hba.cell (p := ⟨kS, o, none⟩) lS_13).trans (S_13 o)
  have lS_14 : kS < W14.heap.size := Nat.lt_of_lt_of_le lS_13 hba.size
  have U_14 : ∀ o, W14.cell? ⟨kU, o, none⟩ = #[Value.int .i64 p3, .int .i64 n3][o]? := fun o => (hba.cell (p := ⟨kU, o, none⟩) lU_13).trans (U_13 o)
  have lU_14 : kU < W14.heap.size := Nat.lt_of_lt_of_le lU_13 hba.size
  have rX_14 : Hid (rdI W14 (.slice aX X.length cX) X) := hid (rX_13.out.below hba)
  have rV_14 : Hid (rdI W14 (.slice aV X.length cV) X) := hid (rV_13.out.below hba)
  have rKK_14 : Hid (rdI W14 (.slice aKK KK.length cKK) KK) := hid (rKK_13.out.below hba)
  clear hE_13 rF_13 R_13 lR_13 rZ_13 rY_13 rG_13 S_13 lS_13 U_13 lU_13 rX_13 rV_13 rKK_13
  have M4_14 := cn
  have lM4_14 := ln
  clear cn ln hba
  refine (NI.out _ (rKK_14.out)).mono ?_
  rintro e W15 ⟨rfl, hb⟩
  have hE_15 : Hid (Ext w.heap.size w W15) := hid (hE_14.out.below hb)
  have rF_15 : Hid (rdI W15 (.slice aF F.length cF) F) := hid (rF_14.out.below hb)
  have R_15 : ∀ o, W15.cell? ⟨kR, o, none⟩ = #[Value.int .i64 p1, .int .i64 n1][o]? := fun o => (hb.cell (p := ⟨kR, o, none⟩) lR_14).trans (R_14 o)
  have lR_15 : kR < W15.heap.size := Nat.lt_of_lt_of_le lR_14 hb.size
  have rZ_15 : Hid (rdI W15 (.slice aZ Z.length cZ) Z) := hid (rZ_14.out.below hb)
  have rY_15 : Hid (rdI W15 (.slice aY Z.length cY) Z) := hid (rY_14.out.below hb)
  have rG_15 : Hid (rdI W15 (.slice aG G.length cG) G) := hid (rG_14.out.below hb)
  have S_15 : ∀ o, W15.cell? ⟨kS, o, none⟩ = #[Value.int .i64 p2, .int .i64 n2][o]? := fun o => (hb.cell (p := ⟨kS, o, none⟩) lS_14).trans (S_14 o)
  have lS_15 : kS < W15.heap.size := Nat.lt_of_lt_of_le lS_14 hb.size
  have U_15 : ∀ o, W15.cell? ⟨kU, o, none⟩ = #[Value.int .i64 p3, .int .i64 n3][o]? := fun o => (hb.cell (p := ⟨kU, o, none⟩) lU_14).trans (U_14 o)
  have lU_15 : kU < W15.heap.size := Nat.lt_of_lt_of_le lU_14 hb.size
  have rX_15 : Hid (rdI W15 (.slice aX X.length cX) X) := hid (rX_14.out.below hb)
  have rV_15 : Hid (rdI W15 (.slice aV X.length cV) X) := hid (rV_14.out.below hb)
  have rKK_15 : Hid (rdI W15 (.slice aKK KK.length cKK) KK) := hid (rKK_14.out.below hb)
  have M4_15 : ∀ o, W15.cell? ⟨kM4, o, none⟩ = #[Value.int .i64 p4, .int .i64 n4][o]? := fun o => (hb.cell (p := ⟨kM4, o, none⟩) lM4_14).trans (M4_14 o)
  have lM4_15 : kM4 < W15.heap.size := Nat.lt_of_lt_of_le lM4_14 hb.size
  clear hE_14 rF_14 R_14 lR_14 rZ_14 rY_14 rG_14 S_14 lS_14 U_14 lU_14 rX_14 rV_14 rKK_14 M4_14 lM4_14
  clear hb
  go_wp2_with fail
  refine (NS.out _ (rKK_15.out)).mono ?_
  rintro e W16 ⟨rfl, hb⟩
  have hE_16 : Hid (Ext w.heap.size w W16) := hid (hE_15.out.below hb)
  have rF_16 : Hid (rdI W16 (.slice aF F.length cF) F) := hid (rF_15.out.below hb)
  have R_16 : ∀ o, W16.cell? ⟨kR, o, none⟩ = #[Value.int .i64 p1, .int .i64 n1][o]? := fun o => (hb.cell (p := ⟨kR, o, none⟩) lR_15).trans (R_15 o)
  have lR_16 : kR < W16.heap.size := Nat.lt_of_lt_of_le lR_15 hb.size
  have rZ_16 : Hid (rdI W16 (.slice aZ Z.length cZ) Z) := hid (rZ_15.out.below hb)
  have rY_16 : Hid (rdI W16 (.slice aY Z.length cY) Z) := hid (rY_15.out.below hb)
  have rG_16 : Hid (rdI W16 (.slice aG G.length cG) G) := hid (rG_15.out.below hb)
  have S_16 : ∀ o, W16.cell? ⟨kS, o, none⟩ = #[Value.int .i64 p2, .int .i64 n2][o]? := fun o => (hb.cell (p := ⟨kS, o, none⟩) lS_15).trans (S_15 o)
  have lS_16 : kS < W16.heap.size := Nat.lt_of_lt_of_le lS_15 hb.size
  have U_16 : ∀ o, W16.cell? ⟨kU, o, none⟩ = #[Value.int .i64 p3, .int .i64 n3][o]? := fun o => (hb.cell (p := ⟨kU, o, none⟩) lU_15).trans (U_15 o)
  have lU_16 : kU < W16.heap.size := Nat.lt_of_lt_of_le lU_15 hb.size
  have rX_16 : Hid (rdI W16 (.slice aX X.length cX) X) := hid (rX_15.out.below hb)
  have rV_16 : Hid (rdI W16 (.slice aV X.length cV) X) := hid (rV_15.out.below hb)
  have rKK_16 : Hid (rdI W16 (.slice aKK KK.length cKK) KK) := hid (rKK_15.out.below hb)
  have M4_16 : ∀ o, W16.cell? ⟨kM4, o, none⟩ = #[Value.int .i64 p4, .int .i64 n4][o]? := fun o => (hb.cell (p := ⟨kM4, o, none⟩) lM4_15).trans (M4_15 o)
  have lM4_16 : kM4 < W16.heap.size := Nat.lt_of_lt_of_le lM4_15 hb.size
  clear hE_15 rF_15 R_15 lR_15 rZ_15 rY_15 rG_15 S_15 lS_15 U_15 lU_15 rX_15 rV_15 rKK_15 M4_15 lM4_15
  clear hb
  go_wp2_with fail
  clear NI NS
  refine (s_DrawValueInRing w.heap.size a len cap _ (H.out.ext hE_16.out) hl hE_16.out.2).mono ?_
  rintro e W17 ⟨p5, n5, s1, HH, y5, rfl, ho1, hkl, hb⟩
  have hE_17 : Hid (Ext w.heap.size w W17) := hid (hE_16.out.below hb)
  have rF_17 : Hid (rdI W17 (.slice aF F.length cF) F) := hid (rF_16.out.below hb)
  have R_17 : ∀ o, W17.cell? ⟨kR, o, none⟩ = #[Value.int .i64 p1, .int .i64 n1][o]? := fun o => (hb.cell (p := ⟨kR, o, none⟩) lR_16).trans (R_16 o)
  have lR_17 : kR < W17.heap.size := Nat.lt_of_lt_of_le lR_16 hb.size
  have rZ_17 : Hid (rdI W17 (.slice aZ Z.length cZ) Z) := hid (rZ_16.out.below hb)
  have rY_17 : Hid (rdI W17 (.slice aY Z.length cY) Z) := hid (rY_16.out.below hb)
  have rG_17 : Hid (rdI W17 (.slice aG G.length cG) G) := hid (rG_16.out.below hb)
  have S_17 : ∀ o, W17.cell? ⟨kS, o, none⟩ = #[Value.int .i64 p2, .int .i64 n2][o]? := fun o => (hb.cell (p := ⟨kS, o, none⟩) lS_16).trans (S_16 o)
  have lS_17 : kS < W17.heap.size := Nat.lt_of_lt_of_le lS_16 hb.size
  have U_17 : ∀ o, W17.cell? ⟨kU, o, none⟩ = #[Value.int .i64 p3, .int .i64 n3][o]? := fun o => (hb.cell (p := ⟨kU, o, none⟩) lU_16).trans (U_16 o)
  have lU_17 : kU < W17.heap.size := Nat.lt_of_lt_of_le lU_16 hb.size
  have rX_17 : Hid (rdI W17 (.slice aX X.length cX) X) := hid (rX_16.out.below hb)
  have rV_17 : Hid (rdI W17 (.slice aV X.length cV) X) := hid (rV_16.out.below hb)
  have rKK_17 : Hid (rdI W17 (.slice aKK KK.length cKK) KK) := hid (rKK_16.out.below hb)
  have M4_17 : ∀ o, W17.cell? ⟨kM4, o, none⟩ = #[Value.int .i64 p4, .int .i64 n4][o]? := fun o => (hb.cell (p := ⟨kM4, o, none⟩) lM4_16).trans (M4_16 o)
  have lM4_17 : kM4 < W17.heap.size := Nat.lt_of_lt_of_le lM4_16 hb.size
  clear hE_16 rF_16 R_16 lR_16 rZ_16 rY_16 rG_16 S_16 lS_16 U_16 lU_16 rX_16 rV_16 rKK_16 M4_16 lM4_16
  clear hb
  obtain ⟨aHH, cHH, hsh, _, _⟩ := ho1.rd
  subst hsh
  have rHH_17 : Hid (rdI W17 (.slice aHH HH.length cHH) HH) := hid (ho1.rd)
  clear ho1 hkl
  obtain ⟨b5, C5, hNq⟩ : ∃ a b, virF p5 n5 HH y5 = (a, b) := ⟨_, _, rfl⟩
  have NI : Hid (∀ W, rdI W (.slice aHH HH.length cHH) HH → Calls Try.prog 23 #[.agg #[.int .i64 p5, .int .i64 n5], (.slice aHH HH.length cHH), .int .i64 y5] W fun e w' => e = .returned (.tuple #[.int .i64 b5, .int .i64 C5]) ∧ Below W.heap.size W w') := hid fun W q => by have := i_ValueInRing p5 n5 _ HH y5 W q; rw [hNq] at this; exact this
  have NS : Hid (∀ W, rdI W (.slice aHH HH.length cHH) HH → Calls Try.prog 24 #[.agg #[.int .i64 p5, .int .i64 n5], (.slice aHH HH.length cHH), .int .i64 y5] W fun e w' => e = .returned (.tuple #[.int .i64 b5, .int .i64 C5]) ∧ Below W.heap.size W w') := hid fun W q => by have := s_ValueInRing p5 n5 _ HH y5 W q; rw [hNq] at this; exact this
  clear hNq
  go_wp2_with fail
  obtain ⟨W18, hW18⟩ : ∃ X, X = W17.alloc (Obj.cells #[Value.int .i64 p5, .int .i64 n5] 27) := ⟨_, rfl⟩
  obtain ⟨kM5, hkM5⟩ : ∃ k, k = W17.heap.size := ⟨_, rfl⟩
  have hba : Below W17.heap.size W17 W18 := by rw [hW18]; exact (Below.refl _ _).alloc (Nat.le_refl _) _
  have cn : ∀ o, W18.cell? ⟨kM5, o, none⟩ = #[Value.int .i64 p5, .int .i64 n5][o]? := fun o => by rw [hW18, hkM5, alloc_cell, if_pos rfl]
  have ln : kM5 < W18.heap.size := by rw [hW18, hkM5]; simp
  rw [← hW18, ← hkM5]
  clear hW18 hkM5
  have hE_18 : Hid (Ext w.heap.size w W18) := hid (hE_17.out.below hba)
  have rF_18 : Hid (rdI W18 (.slice aF F.length cF) F) := hid (rF_17.out.below hba)
  have R_18 : ∀ o, W18.cell? ⟨kR, o, none⟩ = #[Value.int .i64 p1, .int .i64 n1][o]? := fun o => (hba.cell (p := ⟨kR, o, none⟩) lR_17).trans (R_17 o)
  have lR_18 : kR < W18.heap.size := Nat.lt_of_lt_of_le lR_17 hba.size
  have rZ_18 : Hid (rdI W18 (.slice aZ Z.length cZ) Z) := hid (rZ_17.out.below hba)
  have rY_18 : Hid (rdI W18 (.slice aY Z.length cY) Z) := hid (rY_17.out.below hba)
  have rG_18 : Hid (rdI W18 (.slice aG G.length cG) G) := hid (rG_17.out.below hba)
  have S_18 : ∀ o, W18.cell? ⟨kS, o, none⟩ = #[Value.int .i64 p2, .int .i64 n2][o]? := fun o => (hba.cell (p := ⟨kS, o, none⟩) lS_17).trans (S_17 o)
  have lS_18 : kS < W18.heap.size := Nat.lt_of_lt_of_le lS_17 hba.size
  have U_18 : ∀ o, W18.cell? ⟨kU, o, none⟩ = #[Value.int .i64 p3, .int .i64 n3][o]? := fun o => (hba.cell (p := ⟨kU, o, none⟩) lU_17).trans (U_17 o)
  have lU_18 : kU < W18.heap.size := Nat.lt_of_lt_of_le lU_17 hba.size
  have rX_18 : Hid (rdI W18 (.slice aX X.length cX) X) := hid (rX_17.out.below hba)
  have rV_18 : Hid (rdI W18 (.slice aV X.length cV) X) := hid (rV_17.out.below hba)
  have rKK_18 : Hid (rdI W18 (.slice aKK KK.length cKK) KK) := hid (rKK_17.out.below hba)
  have M4_18 : ∀ o, W18.cell? ⟨kM4, o, none⟩ = #[Value.int .i64 p4, .int .i64 n4][o]? := fun o => (hba.cell (p := ⟨kM4, o, none⟩) lM4_17).trans (M4_17 o)
  have lM4_18 : kM4 < W18.heap.size := Nat.lt_of_lt_of_le lM4_17 hba.size
  have rHH_18 : Hid (rdI W18 (.slice aHH HH.length cHH) HH) := hid (rHH_17.out.below hba)
  clear hE_17 rF_17 R_17 lR_17 rZ_17 rY_17 rG_17 S_17 lS_17 U_17 lU_17 rX_17 rV_17 rKK_17 M4_17 lM4_17 rHH_17
  have M5_18 := cn
  have lM5_18 := ln
  clear cn ln hba
  refine (NI.out _ (rHH_18.out)).mono ?_
  rintro e W19 ⟨rfl, hb⟩
  have hE_19 : Hid (Ext w.heap.size w W19) := hid (hE_18.out.below hb)
  have rF_19 : Hid (rdI W19 (.slice aF F.length cF) F) := hid (rF_18.out.below hb)
  have R_19 : ∀ o, W19.cell? ⟨kR, o, none⟩ = #[Value.int .i64 p1, .int .i64 n1][o]? := fun o => (hb.cell (p := ⟨kR, o, none⟩) lR_18).trans (R_18 o)
  have lR_19 : kR < W19.heap.size := Nat.lt_of_lt_of_le lR_18 hb.size
  have rZ_19 : Hid (rdI W19 (.slice aZ Z.length cZ) Z) := hid (rZ_18.out.below hb)
  have rY_19 : Hid (rdI W19 (.slice aY Z.length cY) Z) := hid (rY_18.out.below hb)
  have rG_19 : Hid (rdI W19 (.slice aG G.length cG) G) := hid (rG_18.out.below hb)
  have S_19 : ∀ o, W19.cell? ⟨kS, o, none⟩ = #[Value.int .i64 p2, .int .i64 n2][o]? := fun o => (hb.cell (p := ⟨kS, o, none⟩) lS_18).trans (S_18 o)
  have lS_19 : kS < W19.heap.size := Nat.lt_of_lt_of_le lS_18 hb.size
  have U_19 : ∀ o, W19.cell? ⟨kU, o, none⟩ = #[Value.int .i64 p3, .int .i64 n3][o]? := fun o => (hb.cell (p := ⟨kU, o, none⟩) lU_18).trans (U_18 o)
  have lU_19 : kU < W19.heap.size := Nat.lt_of_lt_of_le lU_18 hb.size
  have rX_19 : Hid (rdI W19 (.slice aX X.length cX) X) := hid (rX_18.out.below hb)
  have rV_19 : Hid (rdI W19 (.slice aV X.length cV) X) := hid (rV_18.out.below hb)
  have rKK_19 : Hid (rdI W19 (.slice aKK KK.length cKK) KK) := hid (rKK_18.out.below hb)
  have M4_19 : ∀ o, W19.cell? ⟨kM4, o, none⟩ = #[Value.int .i64 p4, .int .i64 n4][o]? := fun o => (hb.cell (p := ⟨kM4, o, none⟩) lM4_18).trans (M4_18 o)
  have lM4_19 : kM4 < W19.heap.size := Nat.lt_of_lt_of_le lM4_18 hb.size
  have rHH_19 : Hid (rdI W19 (.slice aHH HH.length cHH) HH) := hid (rHH_18.out.below hb)
  have M5_19 : ∀ o, W19.cell? ⟨kM5, o, none⟩ = #[Value.int .i64 p5, .int .i64 n5][o]? := fun o => (hb.cell (p := ⟨kM5, o, none⟩) lM5_18).trans (M5_18 o)
  have lM5_19 : kM5 < W19.heap.size := Nat.lt_of_lt_of_le lM5_18 hb.size
  clear hE_18 rF_18 R_18 lR_18 rZ_18 rY_18 rG_18 S_18 lS_18 U_18 lU_18 rX_18 rV_18 rKK_18 M4_18 lM4_18 rHH_18 M5_18 lM5_18
  clear hb
  go_wp2_with fail
  refine (NS.out _ (rHH_19.out)).mono ?_
  rintro e W20 ⟨rfl, hb⟩
  have hE_20 : Hid (Ext w.heap.size w W20) := hid (hE_19.out.below hb)
  have rF_20 : Hid (rdI W20 (.slice aF F.length cF) F) := hid (rF_19.out.below hb)
  have R_20 : ∀ o, W20.cell? ⟨kR, o, none⟩ = #[Value.int .i64 p1, .int .i64 n1][o]? := fun o => (hb.cell (p := ⟨kR, o, none⟩) lR_19).trans (R_19 o)
  have lR_20 : kR < W20.heap.size := Nat.lt_of_lt_of_le lR_19 hb.size
  have rZ_20 : Hid (rdI W20 (.slice aZ Z.length cZ) Z) := hid (rZ_19.out.below hb)
  have rY_20 : Hid (rdI W20 (.slice aY Z.length cY) Z) := hid (rY_19.out.below hb)
  have rG_20 : Hid (rdI W20 (.slice aG G.length cG) G) := hid (rG_19.out.below hb)
  have S_20 : ∀ o, W20.cell? ⟨kS, o, none⟩ = #[Value.int .i64 p2, .int .i64 n2][o]? := fun o => (hb.cell (p := ⟨kS, o, none⟩) lS_19).trans (S_19 o)
  have lS_20 : kS < W20.heap.size := Nat.lt_of_lt_of_le lS_19 hb.size
  have U_20 : ∀ o, W20.cell? ⟨kU, o, none⟩ = #[Value.int .i64 p3, .int .i64 n3][o]? := fun o => (hb.cell (p := ⟨kU, o, none⟩) lU_19).trans (U_19 o)
  have lU_20 : kU < W20.heap.size := Nat.lt_of_lt_of_le lU_19 hb.size
  have rX_20 : Hid (rdI W20 (.slice aX X.length cX) X) := hid (rX_19.out.below hb)
  have rV_20 : Hid (rdI W20 (.slice aV X.length cV) X) := hid (rV_19.out.below hb)
  have rKK_20 : Hid (rdI W20 (.slice aKK KK.length cKK) KK) := hid (rKK_19.out.below hb)
  have M4_20 : ∀ o, W20.cell? ⟨kM4, o, none⟩ = #[Value.int .i64 p4, .int .i64 n4][o]? := fun o => (hb.cell (p := ⟨kM4, o, none⟩) lM4_19).trans (M4_19 o)
  have lM4_20 : kM4 < W20.heap.size := Nat.lt_of_lt_of_le lM4_19 hb.size
  have rHH_20 : Hid (rdI W20 (.slice aHH HH.length cHH) HH) := hid (rHH_19.out.below hb)
  have M5_20 : ∀ o, W20.cell? ⟨kM5, o, none⟩ = #[Value.int .i64 p5, .int .i64 n5][o]? := fun o => (hb.cell (p := ⟨kM5, o, none⟩) lM5_19).trans (M5_19 o)
  have lM5_20 : kM5 < W20.heap.size := Nat.lt_of_lt_of_le lM5_19 hb.size
  clear hE_19 rF_19 R_19 lR_19 rZ_19 rY_19 rG_19 S_19 lS_19 U_19 lU_19 rX_19 rV_19 rKK_19 M4_19 lM4_19 rHH_19 M5_19 lM5_19
  clear hb
  go_wp2_with fail
  clear NI NS
  refine (l_like _ _ Z _ (rZ_20.out) (rY_20.out)).mono ?_
  rintro e W21 ⟨rfl, hb⟩
  have hE_21 : Hid (Ext w.heap.size w W21) := hid (hE_20.out.below hb)
  have rF_21 : Hid (rdI W21 (.slice aF F.length cF) F) := hid (rF_20.out.below hb)
  have R_21 : ∀ o, W21.cell? ⟨kR, o, none⟩ = #[Value.int .i64 p1, .int .i64 n1][o]? := fun o => (hb.cell (p := ⟨kR, o, none⟩) lR_20).trans (R_20 o)
  have lR_21 : kR < W21.heap.size := Nat.lt_of_lt_of_le lR_20 hb.size
  have rZ_21 : Hid (rdI W21 (.slice aZ Z.length cZ) Z) := hid (rZ_20.out.below hb)
  have rY_21 : Hid (rdI W21 (.slice aY Z.length cY) Z) := hid (rY_20.out.below hb)
  have rG_21 : Hid (rdI W21 (.slice aG G.length cG) G) := hid (rG_20.out.below hb)
  have S_21 : ∀ o, W21.cell? ⟨kS, o, none⟩ = #[Value.int .i64 p2, .int .i64 n2][o]? := fun o => (hb.cell (p := ⟨kS, o, none⟩) lS_20).trans (S_20 o)
  have lS_21 : kS < W21.heap.size := Nat.lt_of_lt_of_le lS_20 hb.size
  have U_21 : ∀ o, W21.cell? ⟨kU, o, none⟩ = #[Value.int .i64 p3, .int .i64 n3][o]? := fun o => (hb.cell (p := ⟨kU, o, none⟩) lU_20).trans (U_20 o)
  have lU_21 : kU < W21.heap.size := Nat.lt_of_lt_of_le lU_20 hb.size
  have rX_21 : Hid (rdI W21 (.slice aX X.length cX) X) := hid (rX_20.out.below hb)
  have rV_21 : Hid (rdI W21 (.slice aV X.length cV) X) := hid (rV_20.out.below hb)
  have rKK_21 : Hid (rdI W21 (.slice aKK KK.length cKK) KK) := hid (rKK_20.out.below hb)
  have M4_21 : ∀ o, W21.cell? ⟨kM4, o, none⟩ = #[Value.int .i64 p4, .int .i64 n4][o]? := fun o => (hb.cell (p := ⟨kM4, o, none⟩) lM4_20).trans (M4_20 o)
  have lM4_21 : kM4 < W21.heap.size := Nat.lt_of_lt_of_le lM4_20 hb.size
  have rHH_21 : Hid (rdI W21 (.slice aHH HH.length cHH) HH) := hid (rHH_20.out.below hb)
  have M5_21 : ∀ o, W21.cell? ⟨kM5, o, none⟩ = #[Value.int .i64 p5, .int .i64 n5][o]? := fun o => (hb.cell (p := ⟨kM5, o, none⟩) lM5_20).trans (M5_20 o)
  have lM5_21 : kM5 < W21.heap.size := Nat.lt_of_lt_of_le lM5_20 hb.size
  clear hE_20 rF_20 R_20 lR_20 rZ_20 rY_20 rG_20 S_20 lS_20 U_20 lU_20 rX_20 rV_20 rKK_20 M4_20 lM4_20 rHH_20 M5_20 lM5_20
  clear hb
  go_wp2_with fail
  refine (l_like _ _ X _ (rX_21.out) (rV_21.out)).mono ?_
  rintro e W22 ⟨rfl, hb⟩
  have hE_22 : Hid (Ext w.heap.size w W22) := hid (hE_21.out.below hb)
  have rF_22 : Hid (rdI W22 (.slice aF F.length cF) F) := hid (rF_21.out.below hb)
  have R_22 : ∀ o, W22.cell? ⟨kR, o, none⟩ = #[Value.int .i64 p1, .int .i64 n1][o]? := fun o => (hb.cell (p := ⟨kR, o, none⟩) lR_21).trans (R_21 o)
  have lR_22 : kR < W22.heap.size := Nat.lt_of_lt_of_le lR_21 hb.size
  have rZ_22 : Hid (rdI W22 (.slice aZ Z.length cZ) Z) := hid (rZ_21.out.below hb)
  have rY_22 : Hid (rdI W22 (.slice aY Z.length cY) Z) := hid (rY_21.out.below hb)
  have rG_22 : Hid (rdI W22 (.slice aG G.length cG) G) := hid (rG_21.out.below hb)
  have S_22 : ∀ o, W22.cell? ⟨kS, o, none⟩ = #[Value.int .i64 p2, .int .i64 n2][o]? := fun o => (hb.cell (p := ⟨kS, o, none⟩) lS_21).trans (S_21 o)
  have lS_22 : kS < W22.heap.size := Nat.lt_of_lt_of_le lS_21 hb.size
  have U_22 : ∀ o, W22.cell? ⟨kU, o, none⟩ = #[Value.int .i64 p3, .int .i64 n3][o]? := fun o => (hb.cell (p := ⟨kU, o, none⟩) lU_21).trans (U_21 o)
  have lU_22 : kU < W22.heap.size := Nat.lt_of_lt_of_le lU_21 hb.size
  have rX_22 : Hid (rdI W22 (.slice aX X.length cX) X) := hid (rX_21.out.below hb)
  have rV_22 : Hid (rdI W22 (.slice aV X.length cV) X) := hid (rV_21.out.below hb)
  have rKK_22 : Hid (rdI W22 (.slice aKK KK.length cKK) KK) := hid (rKK_21.out.below hb)
  have M4_22 : ∀ o, W22.cell? ⟨kM4, o, none⟩ = #[Value.int .i64 p4, .int .i64 n4][o]? := fun o => (hb.cell (p := ⟨kM4, o, none⟩) lM4_21).trans (M4_21 o)
  have lM4_22 : kM4 < W22.heap.size := Nat.lt_of_lt_of_le lM4_21 hb.size
  have rHH_22 : Hid (rdI W22 (.slice aHH HH.length cHH) HH) := hid (rHH_21.out.below hb)
  have M5_22 : ∀ o, W22.cell? ⟨kM5, o, none⟩ = #[Value.int .i64 p5, .int .i64 n5][o]? := fun o => (hb.cell (p := ⟨kM5, o, none⟩) lM5_21).trans (M5_21 o)
  have lM5_22 : kM5 < W22.heap.size := Nat.lt_of_lt_of_le lM5_21 hb.size
  clear hE_21 rF_21 R_21 lR_21 rZ_21 rY_21 rG_21 S_21 lS_21 U_21 lU_21 rX_21 rV_21 rKK_21 M4_21 lM4_21 rHH_21 M5_21 lM5_21
  clear hb
  go_wp2_with fail
  have RF : Hid (rdI W22 (.slice aF F.length cF) F) := rF_22
  have RG : Hid (rdI W22 (.slice aG G.length cG) G) := rG_22
  have RZ : Hid (rdI W22 (.slice aZ Z.length cZ) Z) := rZ_22
  have RX : Hid (rdI W22 (.slice aX X.length cX) X) := rX_22
  have E9 : Hid (Ext w.heap.size w W22) := hE_22
  clear hE_22 rF_22 rZ_22 rY_22 rG_22 rX_22 rV_22 rKK_22 rHH_22
  have r0 := R_22 0
  have r1 := R_22 1
  have s0 := S_22 0
  have s1 := S_22 1
  have u0 := U_22 0
  have u1 := U_22 1
  simp at r0 r1 s0 s1 u0 u1
  have hX9 := HX60.out
  have hZ9 := HZ60.out
  have hA9 := HA60.out
  go_loopw [35] (fun i wr => ∃ (k : Nat) (uu : World), wr = aft W22 uu ∧ k ≤ X.length ∧ i = .int .i64 k) (fun i _ => X.length - (intOf i).toNat)
  case atStart => exact ⟨0, _, (aft_of (Below.refl _ W22)).symm, by omega, rfl⟩
  case round =>
    obtain ⟨k, uu, rfl, hk, rfl⟩ := hrel
    have zs := size_aft W22 uu
    by_cases hgo : C3 = 0 ∧ k < X.length
    · obtain ⟨hC3, hlt⟩ := hgo
      have hCb : (C3 == 0) = true := by simpa using hC3
      have hltz : (k : Int) < (X.length : Int) := by omega
      have hk0 : (0 : Int) ≤ (k : Int) := by omega
      obtain ⟨b1, o1, rfl⟩ := rd_head RX.out (by intro e; rw [e] at hlt; simp at hlt)
      obtain ⟨md, hmd, hm1, hm9, hall⟩ := HSL.out hC3
      obtain ⟨hxb, hxx⟩ := hall X[k] (List.getElem_mem hlt)
      have HMO : Hid (∀ W, Calls Try.prog 26 #[.agg #[.int .i64 p3, .int .i64 n3]] W fun e w' => e = .returned (.tuple #[.int .i64 md, .int .i64 0]) ∧ Below W.heap.size W w') := hid fun W => by have := s_ModulusOf p3 n3 W; rw [hmd] at this; exact this
      rw [← getD_lt hlt] at hxb hxx
      have h1 := fun W (q : rdI W (.slice (some ⟨b1, o1, none⟩) X.length cX) X) => rd_at q hlt
      obtain ⟨x, hx⟩ : ∃ x, x = X.getD k 0 := ⟨_, rfl⟩
      rw [← hx] at h1 hxb hxx
      clear hx hall hmd hC3
      have hsq : 0 ≤ x * x ∧ x * x ≤ 1000000000000000000 := ⟨Int.mul_nonneg hxb.1 hxb.1, by have := Int.mul_le_mul hxb.2 hxb.2 hxb.1 (by omega); omega⟩
      have hne : (x * x % md != q3) = false := by rw [hxx]; simp
      go_wp2_with fail
      refine via (HMO.out _) ?_
      intro u2 z2
      (try simp at z2)
      have h1b := h1 _ ((RX.out.aft uu).aft u2)
      have hb1 := World.block_lt_of_cell? _ _ h1b
      go_wp2_with fail
      refine wp_region_calm (by kernel_rfl) (by kernel_rfl) ?_
      repeat (go_big_quiet_step (fail))
      (refine wpQuiet_nil ?_; intro ur zr; try simp at zr)
      go_wp2_with fail
      go_roundw
      case rel => exact ⟨k + 1, _, (aft_of (((below_aft W22 uu).trans ((below_aft _ _).mono (size_aft W22 uu))).trans ((below_aft _ _).mono (by omega)))).symm, by omega, by go_num⟩
      case measure => simp only [intOf]; omega
    · have hend : (C3 == 0) = false ∨ ((C3 == 0) = true ∧ ¬ (k : Int) < (X.length : Int)) := by
        by_cases e : C3 = 0
        · right
          refine ⟨by simpa using e, fun e2 => hgo ⟨e, by omega⟩⟩
        · left; simpa using e
      clear hgo
      rcases hend with hCb | ⟨hCb, hkz⟩
      all_goals (
        by_cases hC2 : C2 = 0
        case neg =>
          have hC2n : (C2 == 0) = false := by simpa using hC2
          go_wp2_with fail
          obtain ⟨Y, hY⟩ : ∃ Y, Y = aft W22 uu := ⟨_, rfl⟩
          have EY : Hid (Ext w.heap.size w Y) := hid (by rw [hY]; exact E9.out.aft _)
          have RZY : Hid (rdI Y (.slice aZ Z.length cZ) Z) := hid (by rw [hY]; exact RZ.out.aft _)
          have RFY : Hid (rdI Y (.slice aF F.length cF) F) := hid (by rw [hY]; exact RF.out.aft _)
          have rY0 : Y.cell? ⟨kR, 0, none⟩ = some (.int .i64 p1) := by rw [hY, aft_cell, if_pos (by omega)]; exact r0
          have rY1 : Y.cell? ⟨kR, 1, none⟩ = some (.int .i64 n1) := by rw [hY, aft_cell, if_pos (by omega)]; exact r1
          have lY : kR < Y.heap.size := by rw [hY]; omega
          rw [← hY]
          clear hY zs E9 RX RF RZ RG
          go_loopw [40] (fun i wr => ∃ (k : Nat) (uu : World), wr = aft Y uu ∧ k ≤ Z.length ∧ i = .int .i64 k) (fun i _ => Z.length - (intOf i).toNat)
          case atStart => exact ⟨0, _, (aft_of (Below.refl _ Y)).symm, by omega, rfl⟩
          case round =>
            obtain ⟨k, uu, rfl, hk, rfl⟩ := hrel
            have zs := size_aft Y uu
            by_cases hgo : C1 = 0 ∧ k < Z.length
            · obtain ⟨hC1, hlt⟩ := hgo
              have hCb : (C1 == 0) = true := by simpa using hC1
              have hltz : (k : Int) < (Z.length : Int) := by omega
              have hk0 : (0 : Int) ≤ (k : Int) := by omega
              obtain ⟨b1, o1, rfl⟩ := rd_head (RZY.out) (by intro e; rw [e] at hlt; simp at hlt)
              have hv := (HRL.out hC1).1 Z[k] (List.getElem_mem hlt)
              rw [← getD_lt hlt] at hv
              have hup : ∀ q : Nat, q + 1 = k → Z.getD q 0 < Z.getD k 0 := fun q hq => by subst hq; exact (HRL.out hC1).2 q hlt
              have h1 := fun W (q : rdI W (.slice (some ⟨b1, o1, none⟩) Z.length cZ) Z) => rd_at q hlt
              obtain ⟨x, hx⟩ : ∃ x, x = Z.getD k 0 := ⟨_, rfl⟩
              rw [← hx] at h1 hv hup
              have h1a := h1 _ ((RZY.out).aft uu)
              have hb1 := World.block_lt_of_cell? _ _ h1a
              have HV : Hid (∀ W, rdI W (.slice aF F.length cF) F → Calls Try.prog 23 #[.agg #[.int .i64 p1, .int .i64 n1], (.slice aF F.length cF), .int .i64 x] W fun e w' => e = .returned (.tuple #[.int .i64 0, .int .i64 0]) ∧ Below W.heap.size W w') := hid fun W q => by have := i_ValueInRing p1 n1 _ F x W q; rw [hv] at this; exact this
              clear hv hx hC1
              rcases Nat.eq_zero_or_pos k with hk0z | hkp
              · subst hk0z
                clear hup
                have h1z : ∀ W, rdI W (.slice (some ⟨b1, o1, none⟩) Z.length cZ) Z → W.cell? ⟨b1, o1, none⟩ = some (.int .i64 x) := h1
                have h1b := h1z _ ((RZY.out).aft uu)
                have hz0 : (0 : Int) < (Z.length : Int) := by omega
                clear h1 h1a
                go_wp2_with fail
                refine wp_region_calm (by kernel_rfl) (by kernel_rfl) ?_
                repeat (go_big_quiet_step (first | (go_at_call 23; exact calm (HV.out _ (((RFY.out).aft _).aft _)))))
                refine wpQuiet_nil ?_; intro uq zq; try simp at zq
                go_wp2_with fail
                refine wp_region_calm (by kernel_rfl) (by kernel_rfl) ?_
                repeat (go_big_quiet_step (fail))
                (refine wpQuiet_nil ?_; intro ur zr; try simp at zr)
                go_wp2_with fail
                go_roundw
                case rel => exact ⟨1, _, (aft_of (((below_aft Y uu).trans ((below_aft _ _).mono (size_aft Y uu))).trans ((below_aft _ _).mono (by omega)))).symm, by omega, by go_num⟩
                case measure => simp only [intOf]; omega
              · obtain ⟨q, rfl⟩ : ∃ q, k = q + 1 := ⟨k - 1, by omega⟩
                have hq2 : q < Z.length := by omega
                have h2 := fun W (q : rdI W (.slice (some ⟨b1, o1, none⟩) Z.length cZ) Z) => rd_at q hq2
                have hlt2 := hup q rfl
                obtain ⟨y, hy⟩ : ∃ y, y = Z.getD q 0 := ⟨_, rfl⟩
                rw [← hy] at h2 hlt2
                have hle : ¬ x ≤ y := by omega
                have hq0 : (0 : Int) ≤ (q : Int) := by omega
                have hqz : (q : Int) < (Z.length : Int) := by omega
                clear hup hy hkp
                go_wp2_with fail
                refine wp_region_calm (by kernel_rfl) (by kernel_rfl) ?_
                repeat (go_big_quiet_step (first | (go_at_call 23; exact calm (HV.out _ (((RFY.out).aft _).aft _)))))
                refine wpQuiet_nil ?_; intro uq zq; try simp at zq
                have h1b := h1 _ (((RZY.out).aft uu).aft uq)
                have h2b := h2 _ (((RZY.out).aft uu).aft uq)
                go_wp2_with fail
                refine wp_region_calm (by kernel_rfl) (by kernel_rfl) ?_
                repeat (go_big_quiet_step (fail))
                (refine wpQuiet_nil ?_; intro ur zr; try simp at zr)
                go_wp2_with fail
                go_roundw
                case rel => exact ⟨q + 1 + 1, _, (aft_of (((below_aft Y uu).trans ((below_aft _ _).mono (size_aft Y uu))).trans ((below_aft _ _).mono (by omega)))).symm, by omega, by go_num⟩
                case measure => simp only [intOf]; omega
            · have hend : (C1 == 0) = false ∨ ((C1 == 0) = true ∧ ¬ (k : Int) < (Z.length : Int)) := by
                by_cases e : C1 = 0
                · right
                  refine ⟨by simpa using e, fun e2 => hgo ⟨e, by omega⟩⟩
                · left; simpa using e
              clear hgo
              rcases hend with hCb | ⟨hCb, hkz⟩
              all_goals (
                go_wp2_with fail
                go_ret
                exact ⟨rfl, Ext.bel ((EY.out).aft _)⟩)
        have hC2b : (C2 == 0) = true := by simpa using hC2
        go_wp2_with fail
        refine (AI.out _ (RG.out.aft _)).mono ?_
        rintro e Y ⟨v5, rfl, ho5, hb5⟩
        obtain ⟨a5, c5, hsh5, hm5, _⟩ := ho5.rd
        subst hsh5
        have EY : Hid (Ext w.heap.size w Y) := hid ((E9.out.aft _).below hb5)
        have RZY : Hid (rdI Y (.slice aZ Z.length cZ) Z) := hid ((RZ.out.aft _).below hb5)
        have RFY : Hid (rdI Y (.slice aF F.length cF) F) := hid ((RF.out.aft _).below hb5)
        have rY0 : Y.cell? ⟨kR, 0, none⟩ = some (.int .i64 p1) := by rw [hb5.cell (p := ⟨kR, 0, none⟩) (by show kR < _; omega), aft_cell, if_pos (by omega)]; exact r0
        have rY1 : Y.cell? ⟨kR, 1, none⟩ = some (.int .i64 n1) := by rw [hb5.cell (p := ⟨kR, 1, none⟩) (by show kR < _; omega), aft_cell, if_pos (by omega)]; exact r1
        have lY : kR < Y.heap.size := by have := hb5.size; omega
        clear ho5 hb5 zs E9 RX RF RZ RG hm5
        rcases HCL.out hC2 with ⟨hC6, hlen⟩ | ⟨hC6, h60⟩
        · subst hC6
          have hA0 : (A.length : Int) ≤ 60 := by omega
          have hle9 : ((A.length : Int) != x2) = false := by simpa using hlen
          clear HCL
          go_wp2_with fail
          go_loopw [40] (fun i wr => ∃ (k : Nat) (uu : World), wr = aft Y uu ∧ k ≤ Z.length ∧ i = .int .i64 k) (fun i _ => Z.length - (intOf i).toNat)
          case atStart => exact ⟨0, _, (aft_of (Below.refl _ Y)).symm, by omega, rfl⟩
          case round =>
            obtain ⟨k, uu, rfl, hk, rfl⟩ := hrel
            have zs := size_aft Y uu
            by_cases hgo : C1 = 0 ∧ k < Z.length
            · obtain ⟨hC1, hlt⟩ := hgo
              have hCb : (C1 == 0) = true := by simpa using hC1
              have hltz : (k : Int) < (Z.length : Int) := by omega
              have hk0 : (0 : Int) ≤ (k : Int) := by omega
              obtain ⟨b1, o1, rfl⟩ := rd_head (RZY.out) (by intro e; rw [e] at hlt; simp at hlt)
              have hv := (HRL.out hC1).1 Z[k] (List.getElem_mem hlt)
              rw [← getD_lt hlt] at hv
              have hup : ∀ q : Nat, q + 1 = k → Z.getD q 0 < Z.getD k 0 := fun q hq => by subst hq; exact (HRL.out hC1).2 q hlt
              have h1 := fun W (q : rdI W (.slice (some ⟨b1, o1, none⟩) Z.length cZ) Z) => rd_at q hlt
              obtain ⟨x, hx⟩ : ∃ x, x = Z.getD k 0 := ⟨_, rfl⟩
              rw [← hx] at h1 hv hup
              have h1a := h1 _ ((RZY.out).aft uu)
              have hb1 := World.block_lt_of_cell? _ _ h1a
              have HV : Hid (∀ W, rdI W (.slice aF F.length cF) F → Calls Try.prog 23 #[.agg #[.int .i64 p1, .int .i64 n1], (.slice aF F.length cF), .int .i64 x] W fun e w' => e = .returned (.tuple #[.int .i64 0, .int .i64 0]) ∧ Below W.heap.size W w') := hid fun W q => by have := i_ValueInRing p1 n1 _ F x W q; rw [hv] at this; exact this
              clear hv hx hC1
              rcases Nat.eq_zero_or_pos k with hk0z | hkp
              · subst hk0z
                clear hup
                have h1z : ∀ W, rdI W (.slice (some ⟨b1, o1, none⟩) Z.length cZ) Z → W.cell? ⟨b1, o1, none⟩ = some (.int .i64 x) := h1
                have h1b := h1z _ ((RZY.out).aft uu)
                have hz0 : (0 : Int) < (Z.length : Int) := by omega
                clear h1 h1a
                go_wp2_with fail
                refine wp_region_calm (by kernel_rfl) (by kernel_rfl) ?_
                repeat (go_big_quiet_step (first | (go_at_call 23; exact calm (HV.out _ (((RFY.out).aft _).aft _)))))
                refine wpQuiet_nil ?_; intro uq zq; try simp at zq
                go_wp2_with fail
                refine wp_region_calm (by kernel_rfl) (by kernel_rfl) ?_
                repeat (go_big_quiet_step (fail))
                (refine wpQuiet_nil ?_; intro ur zr; try simp at zr)
                go_wp2_with fail
                go_roundw
                case rel => exact ⟨1, _, (aft_of (((below_aft Y uu).trans ((below_aft _ _).mono (size_aft Y uu))).trans ((below_aft _ _).mono (by omega)))).symm, by omega, by go_num⟩
                case measure => simp only [intOf]; omega
              · obtain ⟨q, rfl⟩ : ∃ q, k = q + 1 := ⟨k - 1, by omega⟩
                have hq2 : q < Z.length := by omega
                have h2 := fun W (q : rdI W (.slice (some ⟨b1, o1, none⟩) Z.length cZ) Z) => rd_at q hq2
                have hlt2 := hup q rfl
                obtain ⟨y, hy⟩ : ∃ y, y = Z.getD q 0 := ⟨_, rfl⟩
                rw [← hy] at h2 hlt2
                have hle : ¬ x ≤ y := by omega
                have hq0 : (0 : Int) ≤ (q : Int) := by omega
                have hqz : (q : Int) < (Z.length : Int) := by omega
                clear hup hy hkp
                go_wp2_with fail
                refine wp_region_calm (by kernel_rfl) (by kernel_rfl) ?_
                repeat (go_big_quiet_step (first | (go_at_call 23; exact calm (HV.out _ (((RFY.out).aft _).aft _)))))
                refine wpQuiet_nil ?_; intro uq zq; try simp at zq
                have h1b := h1 _ (((RZY.out).aft uu).aft uq)
                have h2b := h2 _ (((RZY.out).aft uu).aft uq)
                go_wp2_with fail
                refine wp_region_calm (by kernel_rfl) (by kernel_rfl) ?_
                repeat (go_big_quiet_step (fail))
                (refine wpQuiet_nil ?_; intro ur zr; try simp at zr)
                go_wp2_with fail
                go_roundw
                case rel => exact ⟨q + 1 + 1, _, (aft_of (((below_aft Y uu).trans ((below_aft _ _).mono (size_aft Y uu))).trans ((below_aft _ _).mono (by omega)))).symm, by omega, by go_num⟩
                case measure => simp only [intOf]; omega
            · have hend : (C1 == 0) = false ∨ ((C1 == 0) = true ∧ ¬ (k : Int) < (Z.length : Int)) := by
                by_cases e : C1 = 0
                · right
                  refine ⟨by simpa using e, fun e2 => hgo ⟨e, by omega⟩⟩
                · left; simpa using e
              clear hgo
              rcases hend with hCb | ⟨hCb, hkz⟩
              all_goals (
                go_wp2_with fail
                go_ret
                exact ⟨rfl, Ext.bel ((EY.out).aft _)⟩)
        · subst hC6
          have hx60 : decide (x2 ≤ 60) = false := by simpa using h60
          clear HCL
          go_wp2_with fail
          go_loopw [40] (fun i wr => ∃ (k : Nat) (uu : World), wr = aft Y uu ∧ k ≤ Z.length ∧ i = .int .i64 k) (fun i _ => Z.length - (intOf i).toNat)
          case atStart => exact ⟨0, _, (aft_of (Below.refl _ Y)).symm, by omega, rfl⟩
          case round =>
            obtain ⟨k, uu, rfl, hk, rfl⟩ := hrel
            have zs := size_aft Y uu
            by_cases hgo : C1 = 0 ∧ k < Z.length
            · obtain ⟨hC1, hlt⟩ := hgo
              have hCb : (C1 == 0) = true := by simpa using hC1
              have hltz : (k : Int) < (Z.length : Int) := by omega
              have hk0 : (0 : Int) ≤ (k : Int) := by omega
              obtain ⟨b1, o1, rfl⟩ := rd_head (RZY.out) (by intro e; rw [e] at hlt; simp at hlt)
              have hv := (HRL.out hC1).1 Z[k] (List.getElem_mem hlt)
              rw [← getD_lt hlt] at hv
              have hup : ∀ q : Nat, q + 1 = k → Z.getD q 0 < Z.getD k 0 := fun q hq => by subst hq; exact (HRL.out hC1).2 q hlt
              have h1 := fun W (q : rdI W (.slice (some ⟨b1, o1, none⟩) Z.length cZ) Z) => rd_at q hlt
              obtain ⟨x, hx⟩ : ∃ x, x = Z.getD k 0 := ⟨_, rfl⟩
              rw [← hx] at h1 hv hup
              have h1a := h1 _ ((RZY.out).aft uu)
              have hb1 := World.block_lt_of_cell? _ _ h1a
              have HV : Hid (∀ W, rdI W (.slice aF F.length cF) F → Calls Try.prog 23 #[.agg #[.int .i64 p1, .int .i64 n1], (.slice aF F.length cF), .int .i64 x] W fun e w' => e = .returned (.tuple #[.int .i64 0, .int .i64 0]) ∧ Below W.heap.size W w') := hid fun W q => by have := i_ValueInRing p1 n1 _ F x W q; rw [hv] at this; exact this
              clear hv hx hC1
              rcases Nat.eq_zero_or_pos k with hk0z | hkp
              · subst hk0z
                clear hup
                have h1z : ∀ W, rdI W (.slice (some ⟨b1, o1, none⟩) Z.length cZ) Z → W.cell? ⟨b1, o1, none⟩ = some (.int .i64 x) := h1
                have h1b := h1z _ ((RZY.out).aft uu)
                have hz0 : (0 : Int) < (Z.length : Int) := by omega
                clear h1 h1a
                go_wp2_with fail
                refine wp_region_calm (by kernel_rfl) (by kernel_rfl) ?_
                repeat (go_big_quiet_step (first | (go_at_call 23; exact calm (HV.out _ (((RFY.out).aft _).aft _)))))
                refine wpQuiet_nil ?_; intro uq zq; try simp at zq
                go_wp2_with fail
                refine wp_region_calm (by kernel_rfl) (by kernel_rfl) ?_
                repeat (go_big_quiet_step (fail))
                (refine wpQuiet_nil ?_; intro ur zr; try simp at zr)
                go_wp2_with fail
                go_roundw
                case rel => exact ⟨1, _, (aft_of (((below_aft Y uu).trans ((below_aft _ _).mono (size_aft Y uu))).trans ((below_aft _ _).mono (by omega)))).symm, by omega, by go_num⟩
                case measure => simp only [intOf]; omega
              · obtain ⟨q, rfl⟩ : ∃ q, k = q + 1 := ⟨k - 1, by omega⟩
                have hq2 : q < Z.length := by omega
                have h2 := fun W (q : rdI W (.slice (some ⟨b1, o1, none⟩) Z.length cZ) Z) => rd_at q hq2
                have hlt2 := hup q rfl
                obtain ⟨y, hy⟩ : ∃ y, y = Z.getD q 0 := ⟨_, rfl⟩
                rw [← hy] at h2 hlt2
                have hle : ¬ x ≤ y := by omega
                have hq0 : (0 : Int) ≤ (q : Int) := by omega
                have hqz : (q : Int) < (Z.length : Int) := by omega
                clear hup hy hkp
                go_wp2_with fail
                refine wp_region_calm (by kernel_rfl) (by kernel_rfl) ?_
                repeat (go_big_quiet_step (first | (go_at_call 23; exact calm (HV.out _ (((RFY.out).aft _).aft _)))))
                refine wpQuiet_nil ?_; intro uq zq; try simp at zq
                have h1b := h1 _ (((RZY.out).aft uu).aft uq)
                have h2b := h2 _ (((RZY.out).aft uu).aft uq)
                go_wp2_with fail
                refine wp_region_calm (by kernel_rfl) (by kernel_rfl) ?_
                repeat (go_big_quiet_step (fail))
                (refine wpQuiet_nil ?_; intro ur zr; try simp at zr)
                go_wp2_with fail
                go_roundw
                case rel => exact ⟨q + 1 + 1, _, (aft_of (((below_aft Y uu).trans ((below_aft _ _).mono (size_aft Y uu))).trans ((below_aft _ _).mono (by omega)))).symm, by omega, by go_num⟩
                case measure => simp only [intOf]; omega
            · have hend : (C1 == 0) = false ∨ ((C1 == 0) = true ∧ ¬ (k : Int) < (Z.length : Int)) := by
                by_cases e : C1 = 0
                · right
                  refine ⟨by simpa using e, fun e2 => hgo ⟨e, by omega⟩⟩
                · left; simpa using e
              clear hgo
              rcases hend with hCb | ⟨hCb, hkz⟩
              all_goals (
                go_wp2_with fail
                go_ret
                exact ⟨rfl, Ext.bel ((EY.out).aft _)⟩))
end Go.Proofs.Ytdhnpmjoajaeiaa
