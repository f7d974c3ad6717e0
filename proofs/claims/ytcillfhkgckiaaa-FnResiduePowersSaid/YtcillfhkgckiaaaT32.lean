/- Powers of residues: the law. (Printed by mkT32.py.) -/
import Derived.Test.YtcillfhkgckiaaaT31
import Derived.Test.YtcillfhkgckiaaaT12
namespace Go.Proofs.Ytcillfhkgckiaaa
open Go Go.RowKit

set_option maxRecDepth 20000 in
set_option maxHeartbeats 32000000 in
theorem law_ResiduePowers (a : Option Addr) (len cap : Nat) (w : World) (h : rdB w.heap.size w a len) :
    Calls Try.prog 4 #[.slice a len cap] w fun e w' => e = .returned (.bool true) ∧ Below w.heap.size w w' := by
  by_cases hl : len ≤ 4096
  case neg =>
    have hd : decide ((4096 : Int) < (len : Int)) = true := by simp; omega
    go_enter Try.func4, Try.ntmps4
    go_wp2_with (go_at_call 9; refine pur (l_big _ _ _ _) ?_)
    go_ret
    exact ⟨rfl, (by refine Ext.bel ?_; repeat (with_reducible first | exact Ext.refl _ | apply Ext.alloc | apply Ext.aft | apply Ext.drew | apply Ext.drewN | apply Ext.setCell | exact Nat.le_add_right _ _ | exact Nat.le_refl _ | (simp; done) | omega))⟩
  have hd : decide ((4096 : Int) < (len : Int)) = false := by simp; omega
  have H := hid h
  clear h
  go_enter Try.func4, Try.ntmps4
  go_wp2_with (go_at_call 9; refine pur (l_big _ _ _ _) ?_)
  have hG_0 : Hid (Ext w.heap.size w w) := hid (Ext.refl w)
  refine viaV (α := (Int × Int) × Int × Int) (g := (fun z : (Int × Int) × Int × Int => .tuple #[.agg #[.int .i64 z.1.1, .int .i64 z.1.2], .int .i64 z.2.1, .int .i64 z.2.2])) (s_DrawPowerOf w.heap.size a len cap _ (H.out.ext hG_0.out) hl hG_0.out.2) ?_
  intro zz u1 zu1
  (try simp at zu1)
  obtain ⟨⟨p, n⟩, x, e⟩ := zz
  dsimp only
  go_wp2_with fail
  clear zu1
  obtain ⟨W1, hW1⟩ : ∃ X, X = aft w u1 := ⟨_, rfl⟩
  have hG_1 : Hid (Ext w.heap.size w W1) := hid (by rw [hW1]; exact hG_0.out.aft _)
  rw [← hW1]
  clear hW1 hG_0
  obtain ⟨kR, hkR⟩ : ∃ k, k = W1.heap.size := ⟨_, rfl⟩
  obtain ⟨W2, hW2⟩ : ∃ X, X = W1.alloc (Obj.cells #[Value.int IntKind.i64 p, Value.int IntKind.i64 n] 26) := ⟨_, rfl⟩
  have cR_2 : ∀ o, W2.cell? ⟨kR, o, none⟩ = #[Value.int IntKind.i64 p, Value.int IntKind.i64 n][o]? := fun o => by rw [hW2, alloc_cell, if_pos hkR]
  have hG_2 : Hid (Ext w.heap.size w W2) := hid (by rw [hW2]; exact hG_1.out.alloc _)
  have l_2 : W2.heap.size = kR + 1 := by rw [hW2]; simp; omega
  rw [← hW2, ← hkR]
  clear hW2 hG_1 hkR
  obtain ⟨A, hA⟩ : ∃ rr, rr = powpF p n x e := ⟨_, rfl⟩
  obtain ⟨a1, a5⟩ := A
  have CI : Hid (∀ W : World, Calls Try.prog 11 #[.agg #[.int .i64 p, .int .i64 n], .int .i64 x, .int .i64 e] W fun e w' => e = .returned (.tuple #[.int .i64 a1, .int .i64 a5]) ∧ Below W.heap.size W w') := hid fun W => by have := i_PowerOf p n x e W; rw [← hA] at this; exact this
  have CS : Hid (∀ W : World, Calls Try.prog 12 #[.agg #[.int .i64 p, .int .i64 n], .int .i64 x, .int .i64 e] W fun e w' => e = .returned (.tuple #[.int .i64 a1, .int .i64 a5]) ∧ Below W.heap.size W w') := hid fun W => by have := s_PowerOf p n x e W; rw [← hA] at this; exact this
  have HA := hid hA
  clear hA
  refine via (CI.out _) ?_
  intro u2 zu2
  (try simp at zu2)
  go_wp2_with fail
  clear zu2
  obtain ⟨W3, hW3⟩ : ∃ X, X = aft W2 u2 := ⟨_, rfl⟩
  have cR_3 : ∀ o, W3.cell? ⟨kR, o, none⟩ = #[Value.int IntKind.i64 p, Value.int IntKind.i64 n][o]? := fun o => by rw [hW3, aft_cell, if_pos (by omega)]; exact cR_2 o
  have hG_3 : Hid (Ext w.heap.size w W3) := hid (by rw [hW3]; exact hG_2.out.aft _)
  have l_3 : kR + 1 ≤ W3.heap.size := by rw [hW3]; have := size_aft W2 u2; omega
  rw [← hW3]
  clear hW3 cR_2 l_2 hG_2
  refine via (CS.out _) ?_
  intro u3 zu3
  (try simp at zu3)
  go_wp2_with fail
  clear zu3
  obtain ⟨W4, hW4⟩ : ∃ X, X = aft W3 u3 := ⟨_, rfl⟩
  have cR_4 : ∀ o, W4.cell? ⟨kR, o, none⟩ = #[Value.int IntKind.i64 p, Value.int IntKind.i64 n][o]? := fun o => by rw [hW4, aft_cell, if_pos (by omega)]; exact cR_3 o
  have hG_4 : Hid (Ext w.heap.size w W4) := hid (by rw [hW4]; exact hG_3.out.aft _)
  have l_4 : kR + 1 ≤ W4.heap.size := by rw [hW4]; have := size_aft W3 u3; omega
  rw [← hW4]
  clear hW4 cR_3 l_3 hG_3
  refine viaV (α := (Int × Int) × Int) (g := (fun z : (Int × Int) × Int => .tuple #[.agg #[.int .i64 z.1.1, .int .i64 z.1.2], .int .i64 z.2])) (s_DrawTeichmuellerOf w.heap.size a len cap _ (H.out.ext hG_4.out) hl hG_4.out.2) ?_
  intro zz u4 zu4
  (try simp at zu4)
  obtain ⟨⟨q, m⟩, y⟩ := zz
  dsimp only
  go_wp2_with fail
  clear zu4
  obtain ⟨W5, hW5⟩ : ∃ X, X = aft W4 u4 := ⟨_, rfl⟩
  have cR_5 : ∀ o, W5.cell? ⟨kR, o, none⟩ = #[Value.int IntKind.i64 p, Value.int IntKind.i64 n][o]? := fun o => by rw [hW5, aft_cell, if_pos (by omega)]; exact cR_4 o
  have hG_5 : Hid (Ext w.heap.size w W5) := hid (by rw [hW5]; exact hG_4.out.aft _)
  have l_5 : kR + 1 ≤ W5.heap.size := by rw [hW5]; have := size_aft W4 u4; omega
  rw [← hW5]
  clear hW5 cR_4 l_4 hG_4
  obtain ⟨kS, hkS⟩ : ∃ k, k = W5.heap.size := ⟨_, rfl⟩
  obtain ⟨W6, hW6⟩ : ∃ X, X = W5.alloc (Obj.cells #[Value.int IntKind.i64 q, Value.int IntKind.i64 m] 26) := ⟨_, rfl⟩
  have cR_6 : ∀ o, W6.cell? ⟨kR, o, none⟩ = #[Value.int IntKind.i64 p, Value.int IntKind.i64 n][o]? := fun o => by rw [hW6, alloc_cell, if_neg (by omega)]; exact cR_5 o
  have cS_6 : ∀ o, W6.cell? ⟨kS, o, none⟩ = #[Value.int IntKind.i64 q, Value.int IntKind.i64 m][o]? := fun o => by rw [hW6, alloc_cell, if_pos hkS]
  have hG_6 : Hid (Ext w.heap.size w W6) := hid (by rw [hW6]; exact hG_5.out.alloc _)
  have l_6 : W6.heap.size = kS + 1 := by rw [hW6]; simp; omega
  have qS : kR < kS := by omega
  rw [← hW6, ← hkS]
  clear hW6 cR_5 l_5 hG_5 hkS
  obtain ⟨T, hT⟩ : ∃ rr, rr = teipF q m y := ⟨_, rfl⟩
  obtain ⟨t1, t5⟩ := T
  have TI : Hid (∀ W : World, Calls Try.prog 14 #[.agg #[.int .i64 q, .int .i64 m], .int .i64 y] W fun e w' => e = .returned (.tuple #[.int .i64 t1, .int .i64 t5]) ∧ Below W.heap.size W w') := hid fun W => by have := i_TeichmuellerOf q m y W; rw [← hT] at this; exact this
  have TS : Hid (∀ W : World, Calls Try.prog 15 #[.agg #[.int .i64 q, .int .i64 m], .int .i64 y] W fun e w' => e = .returned (.tuple #[.int .i64 t1, .int .i64 t5]) ∧ Below W.heap.size W w') := hid fun W => by have := s_TeichmuellerOf q m y W; rw [← hT] at this; exact this
  have HT := hid hT
  clear hT
  refine via (TI.out _) ?_
  intro u5 zu5
  (try simp at zu5)
  go_wp2_with fail
  clear zu5
  obtain ⟨W7, hW7⟩ : ∃ X, X = aft W6 u5 := ⟨_, rfl⟩
  have cR_7 : ∀ o, W7.cell? ⟨kR, o, none⟩ = #[Value.int IntKind.i64 p, Value.int IntKind.i64 n][o]? := fun o => by rw [hW7, aft_cell, if_pos (by omega)]; exact cR_6 o
  have cS_7 : ∀ o, W7.cell? ⟨kS, o, none⟩ = #[Value.int IntKind.i64 q, Value.int IntKind.i64 m][o]? := fun o => by rw [hW7, aft_cell, if_pos (by omega)]; exact cS_6 o
  have hG_7 : Hid (Ext w.heap.size w W7) := hid (by rw [hW7]; exact hG_6.out.aft _)
  have l_7 : kS + 1 ≤ W7.heap.size := by rw [hW7]; have := size_aft W6 u5; omega
  rw [← hW7]
  clear hW7 cR_6 cS_6 l_6 hG_6
  refine via (TS.out _) ?_
  intro u6 zu6
  (try simp at zu6)
  go_wp2_with fail
  clear zu6
  obtain ⟨W8, hW8⟩ : ∃ X, X = aft W7 u6 := ⟨_, rfl⟩
  have cR_8 : ∀ o, W8.cell? ⟨kR, o, none⟩ = #[Value.int IntKind.i64 p, Value.int IntKind.i64 n][o]? := fun o => by rw [hW8, aft_cell, if_pos (by omega)]; exact cR_7 o
  have cS_8 : ∀ o, W8.cell? ⟨kS, o, none⟩ = #[Value.int IntKind.i64 q, Value.int IntKind.i64 m][o]? := fun o => by rw [hW8, aft_cell, if_pos (by omega)]; exact cS_7 o
  have hG_8 : Hid (Ext w.heap.size w W8) := hid (by rw [hW8]; exact hG_7.out.aft _)
  have l_8 : kS + 1 ≤ W8.heap.size := by rw [hW8]; have := size_aft W7 u6; omega
  rw [← hW8]
  clear hW8 cR_7 cS_7 l_7 hG_7
  refine viaV (α := (Int × Int) × Int) (g := (fun z : (Int × Int) × Int => .tuple #[.agg #[.int .i64 z.1.1, .int .i64 z.1.2], .int .i64 z.2])) (s_DrawReduceTo w.heap.size a len cap _ (H.out.ext hG_8.out) hl hG_8.out.2) ?_
  intro zz u7 zu7
  (try simp at zu7)
  obtain ⟨⟨p3, n3⟩, v⟩ := zz
  dsimp only
  go_wp2_with fail
  clear zu7
  obtain ⟨W9, hW9⟩ : ∃ X, X = aft W8 u7 := ⟨_, rfl⟩
  have cR_9 : ∀ o, W9.cell? ⟨kR, o, none⟩ = #[Value.int IntKind.i64 p, Value.int IntKind.i64 n][o]? := fun o => by rw [hW9, aft_cell, if_pos (by omega)]; exact cR_8 o
  have cS_9 : ∀ o, W9.cell? ⟨kS, o, none⟩ = #[Value.int IntKind.i64 q, Value.int IntKind.i64 m][o]? := fun o => by rw [hW9, aft_cell, if_pos (by omega)]; exact cS_8 o
  have hG_9 : Hid (Ext w.heap.size w W9) := hid (by rw [hW9]; exact hG_8.out.aft _)
  have l_9 : kS + 1 ≤ W9.heap.size := by rw [hW9]; have := size_aft W8 u7; omega
  rw [← hW9]
  clear hW9 cR_8 cS_8 l_8 hG_8
  obtain ⟨kU, hkU⟩ : ∃ k, k = W9.heap.size := ⟨_, rfl⟩
  obtain ⟨W10, hW10⟩ : ∃ X, X = W9.alloc (Obj.cells #[Value.int IntKind.i64 p3, Value.int IntKind.i64 n3] 26) := ⟨_, rfl⟩
  have cR_10 : ∀ o, W10.cell? ⟨kR, o, none⟩ = #[Value.int IntKind.i64 p, Value.int IntKind.i64 n][o]? := fun o => by rw [hW10, alloc_cell, if_neg (by omega)]; exact cR_9 o
  have cS_10 : ∀ o, W10.cell? ⟨kS, o, none⟩ = #[Value.int IntKind.i64 q, Value.int IntKind.i64 m][o]? := fun o => by rw [hW10, alloc_cell, if_neg (by omega)]; exact cS_9 o
  have cU_10 : ∀ o, W10.cell? ⟨kU, o, none⟩ = #[Value.int IntKind.i64 p3, Value.int IntKind.i64 n3][o]? := fun o => by rw [hW10, alloc_cell, if_pos hkU]
  have hG_10 : Hid (Ext w.heap.size w W10) := hid (by rw [hW10]; exact hG_9.out.alloc _)
  have l_10 : W10.heap.size = kU + 1 := by rw [hW10]; simp; omega
  have qU : kS < kU := by omega
  rw [← hW10, ← hkU]
  clear hW10 cR_9 cS_9 l_9 hG_9 hkU
  obtain ⟨D, hD⟩ : ∃ rr, rr = redpF p3 n3 v := ⟨_, rfl⟩
  obtain ⟨d1, d5⟩ := D
  have DI : Hid (∀ W : World, Calls Try.prog 17 #[.agg #[.int .i64 p3, .int .i64 n3], .int .i64 v] W fun e w' => e = .returned (.tuple #[.int .i64 d1, .int .i64 d5]) ∧ Below W.heap.size W w') := hid fun W => by have := i_ReduceTo p3 n3 v W; rw [← hD] at this; exact this
  have DS : Hid (∀ W : World, Calls Try.prog 18 #[.agg #[.int .i64 p3, .int .i64 n3], .int .i64 v] W fun e w' => e = .returned (.tuple #[.int .i64 d1, .int .i64 d5]) ∧ Below W.heap.size W w') := hid fun W => by have := s_ReduceTo p3 n3 v W; rw [← hD] at this; exact this
  clear hD
  refine via (DI.out _) ?_
  intro u8 zu8
  (try simp at zu8)
  go_wp2_with fail
  clear zu8
  obtain ⟨W11, hW11⟩ : ∃ X, X = aft W10 u8 := ⟨_, rfl⟩
  have cR_11 : ∀ o, W11.cell? ⟨kR, o, none⟩ = #[Value.int IntKind.i64 p, Value.int IntKind.i64 n][o]? := fun o => by rw [hW11, aft_cell, if_pos (by omega)]; exact cR_10 o
  have cS_11 : ∀ o, W11.cell? ⟨kS, o, none⟩ = #[Value.int IntKind.i64 q, Value.int IntKind.i64 m][o]? := fun o => by rw [hW11, aft_cell, if_pos (by omega)]; exact cS_10 o
  have cU_11 : ∀ o, W11.cell? ⟨kU, o, none⟩ = #[Value.int IntKind.i64 p3, Value.int IntKind.i64 n3][o]? := fun o => by rw [hW11, aft_cell, if_pos (by omega)]; exact cU_10 o
  have hG_11 : Hid (Ext w.heap.size w W11) := hid (by rw [hW11]; exact hG_10.out.aft _)
  have l_11 : kU + 1 ≤ W11.heap.size := by rw [hW11]; have := size_aft W10 u8; omega
  rw [← hW11]
  clear hW11 cR_10 cS_10 cU_10 l_10 hG_10
  refine via (DS.out _) ?_
  intro u9 zu9
  (try simp at zu9)
  by_cases h4 : t5 = 0
  case neg =>
    have h4' : (t5 == 0) = false := by simpa using h4
    have h4n : (t5 != 0) = true := by simpa using h4
    by_cases h5 : a5 = 0
    case neg =>
      have h5' : (a5 == 0) = false := by simpa using h5
      have h5n : (a5 != 0) = true := by simpa using h5
      go_wp2_with fail
      go_ret
      exact ⟨by first | rfl | simp, Ext.bel (by repeat (with_reducible first | exact hG_11.out | apply Ext.aft | apply Ext.alloc))⟩
    subst h5
    by_cases h6 : e = 1000000000000
    case pos =>
      have h6' : (e == 1000000000000) = true := by simpa using h6
      clear h6
      go_wp2_with fail
      go_ret
      exact ⟨by first | rfl | simp, Ext.bel (by repeat (with_reducible first | exact hG_11.out | apply Ext.aft | apply Ext.alloc))⟩
    obtain ⟨M, hM, hN, hM1, hx, hx2, he⟩ := powp_next HA.out.symm h6
    have h6' : (e == 1000000000000) = false := by simpa using h6
    have NI : Hid (∀ W : World, Calls Try.prog 11 #[.agg #[.int .i64 p, .int .i64 n], .int .i64 x, .int .i64 (e + 1)] W fun e w' => e = .returned (.tuple #[.int .i64 (a1 * x % M), .int .i64 0]) ∧ Below W.heap.size W w') := hid fun W => by have := i_PowerOf p n x (e + 1) W; rw [hN] at this; exact this
    have MI : Hid (∀ W : World, Calls Try.prog 19 #[.agg #[.int .i64 p, .int .i64 n]] W fun e w' => e = .returned (.tuple #[.int .i64 M, .int .i64 0]) ∧ Below W.heap.size W w') := hid fun W => by have := s_ModulusOf p n W; rw [hM] at this; exact this
    have hm0 : 0 ≤ a1 * x := Int.mul_nonneg hx.1 hx2.1
    have hmb : a1 * x ≤ 1000000000 * 1000000000 := Int.mul_le_mul (by omega) (by omega) (by omega) (by omega)
    have hmt : (a1 * x).tmod M = a1 * x % M := Int.tmod_eq_emod_of_nonneg hm0
    have M0 : (M == 0) = false := by rw [beq_eq_false_iff_ne]; omega
    have M1 : M ≠ 0 := by omega
    clear hM hN h6
    go_wp2_with fail
    clear zu9
    obtain ⟨W12, hW12⟩ : ∃ X, X = aft W11 u9 := ⟨_, rfl⟩
    have cR_12 : ∀ o, W12.cell? ⟨kR, o, none⟩ = #[Value.int IntKind.i64 p, Value.int IntKind.i64 n][o]? := fun o => by rw [hW12, aft_cell, if_pos (by omega)]; exact cR_11 o
    have cS_12 : ∀ o, W12.cell? ⟨kS, o, none⟩ = #[Value.int IntKind.i64 q, Value.int IntKind.i64 m][o]? := fun o => by rw [hW12, aft_cell, if_pos (by omega)]; exact cS_11 o
    have cU_12 : ∀ o, W12.cell? ⟨kU, o, none⟩ = #[Value.int IntKind.i64 p3, Value.int IntKind.i64 n3][o]? := fun o => by rw [hW12, aft_cell, if_pos (by omega)]; exact cU_11 o
    have hG_12 : Hid (Ext w.heap.size w W12) := hid (by rw [hW12]; exact hG_11.out.aft _)
    have l_12 : kU + 1 ≤ W12.heap.size := by rw [hW12]; have := size_aft W11 u9; omega
    rw [← hW12]
    clear hW12 cR_11 cS_11 cU_11 l_11 hG_11
    refine via (NI.out _) ?_
    intro u20 zu20
    (try simp at zu20)
    go_wp2_with fail
    clear zu20
    obtain ⟨W13, hW13⟩ : ∃ X, X = aft W12 u20 := ⟨_, rfl⟩
    have cR_13 : ∀ o, W13.cell? ⟨kR, o, none⟩ = #[Value.int IntKind.i64 p, Value.int IntKind.i64 n][o]? := fun o => by rw [hW13, aft_cell, if_pos (by omega)]; exact cR_12 o
    have cS_13 : ∀ o, W13.cell? ⟨kS, o, none⟩ = #[Value.int IntKind.i64 q, Value.int IntKind.i64 m][o]? := fun o => by rw [hW13, aft_cell, if_pos (by omega)]; exact cS_12 o
    have cU_13 : ∀ o, W13.cell? ⟨kU, o, none⟩ = #[Value.int IntKind.i64 p3, Value.int IntKind.i64 n3][o]? := fun o => by rw [hW13, aft_cell, if_pos (by omega)]; exact cU_12 o
    have hG_13 : Hid (Ext w.heap.size w W13) := hid (by rw [hW13]; exact hG_12.out.aft _)
    have l_13 : kU + 1 ≤ W13.heap.size := by rw [hW13]; have := size_aft W12 u20; omega
    rw [← hW13]
    clear hW13 cR_12 cS_12 cU_12 l_12 hG_12
    refine via (MI.out _) ?_
    intro u21 zu21
    (try simp at zu21)
    go_wp2_with fail
    go_ret
    exact ⟨by first | rfl | simp, Ext.bel (by repeat (with_reducible first | exact hG_13.out | apply Ext.aft | apply Ext.alloc))⟩
  subst h4
  obtain ⟨k1, k2, k3, k4, k5, k6⟩ := teip_facts HT.out.symm
  have PI : Hid (∀ W : World, Calls Try.prog 11 #[.agg #[.int .i64 q, .int .i64 m], .int .i64 t1, .int .i64 q] W fun e w' => e = .returned (.tuple #[.int .i64 t1, .int .i64 0]) ∧ Below W.heap.size W w') := hid fun W => by have := i_PowerOf q m t1 q W; rw [k1] at this; exact this
  have q0 : (q == 0) = false := by rw [beq_eq_false_iff_ne]; omega
  have q1 : q ≠ 0 := by omega
  clear k1
  go_wp2_with fail
  clear zu9
  obtain ⟨W12, hW12⟩ : ∃ X, X = aft W11 u9 := ⟨_, rfl⟩
  have cR_12 : ∀ o, W12.cell? ⟨kR, o, none⟩ = #[Value.int IntKind.i64 p, Value.int IntKind.i64 n][o]? := fun o => by rw [hW12, aft_cell, if_pos (by omega)]; exact cR_11 o
  have cS_12 : ∀ o, W12.cell? ⟨kS, o, none⟩ = #[Value.int IntKind.i64 q, Value.int IntKind.i64 m][o]? := fun o => by rw [hW12, aft_cell, if_pos (by omega)]; exact cS_11 o
  have cU_12 : ∀ o, W12.cell? ⟨kU, o, none⟩ = #[Value.int IntKind.i64 p3, Value.int IntKind.i64 n3][o]? := fun o => by rw [hW12, aft_cell, if_pos (by omega)]; exact cU_11 o
  have hG_12 : Hid (Ext w.heap.size w W12) := hid (by rw [hW12]; exact hG_11.out.aft _)
  have l_12 : kU + 1 ≤ W12.heap.size := by rw [hW12]; have := size_aft W11 u9; omega
  rw [← hW12]
  clear hW12 cR_11 cS_11 cU_11 l_11 hG_11
  refine via (PI.out _) ?_
  intro u10 zu10
  (try simp at zu10)
  by_cases h5 : a5 = 0
  case neg =>
    have h5' : (a5 == 0) = false := by simpa using h5
    have h5n : (a5 != 0) = true := by simpa using h5
    go_wp2_with fail
    go_ret
    exact ⟨by first | rfl | simp, Ext.bel (by repeat (with_reducible first | exact hG_12.out | apply Ext.aft | apply Ext.alloc))⟩
  subst h5
  by_cases h6 : e = 1000000000000
  case pos =>
    have h6' : (e == 1000000000000) = true := by simpa using h6
    clear h6
    go_wp2_with fail
    go_ret
    exact ⟨by first | rfl | simp, Ext.bel (by repeat (with_reducible first | exact hG_12.out | apply Ext.aft | apply Ext.alloc))⟩
  obtain ⟨M, hM, hN, hM1, hx, hx2, he⟩ := powp_next HA.out.symm h6
  have h6' : (e == 1000000000000) = false := by simpa using h6
  have NI : Hid (∀ W : World, Calls Try.prog 11 #[.agg #[.int .i64 p, .int .i64 n], .int .i64 x, .int .i64 (e + 1)] W fun e w' => e = .returned (.tuple #[.int .i64 (a1 * x % M), .int .i64 0]) ∧ Below W.heap.size W w') := hid fun W => by have := i_PowerOf p n x (e + 1) W; rw [hN] at this; exact this
  have MI : Hid (∀ W : World, Calls Try.prog 19 #[.agg #[.int .i64 p, .int .i64 n]] W fun e w' => e = .returned (.tuple #[.int .i64 M, .int .i64 0]) ∧ Below W.heap.size W w') := hid fun W => by have := s_ModulusOf p n W; rw [hM] at this; exact this
  have hm0 : 0 ≤ a1 * x := Int.mul_nonneg hx.1 hx2.1
  have hmb : a1 * x ≤ 1000000000 * 1000000000 := Int.mul_le_mul (by omega) (by omega) (by omega) (by omega)
  have hmt : (a1 * x).tmod M = a1 * x % M := Int.tmod_eq_emod_of_nonneg hm0
  have M0 : (M == 0) = false := by rw [beq_eq_false_iff_ne]; omega
  have M1 : M ≠ 0 := by omega
  clear hM hN h6
  go_wp2_with fail
  clear zu10
  obtain ⟨W13, hW13⟩ : ∃ X, X = aft W12 u10 := ⟨_, rfl⟩
  have cR_13 : ∀ o, W13.cell? ⟨kR, o, none⟩ = #[Value.int IntKind.i64 p, Value.int IntKind.i64 n][o]? := fun o => by rw [hW13, aft_cell, if_pos (by omega)]; exact cR_12 o
  have cS_13 : ∀ o, W13.cell? ⟨kS, o, none⟩ = #[Value.int IntKind.i64 q, Value.int IntKind.i64 m][o]? := fun o => by rw [hW13, aft_cell, if_pos (by omega)]; exact cS_12 o
  have cU_13 : ∀ o, W13.cell? ⟨kU, o, none⟩ = #[Value.int IntKind.i64 p3, Value.int IntKind.i64 n3][o]? := fun o => by rw [hW13, aft_cell, if_pos (by omega)]; exact cU_12 o
  have hG_13 : Hid (Ext w.heap.size w W13) := hid (by rw [hW13]; exact hG_12.out.aft _)
  have l_13 : kU + 1 ≤ W13.heap.size := by rw [hW13]; have := size_aft W12 u10; omega
  rw [← hW13]
  clear hW13 cR_12 cS_12 cU_12 l_12 hG_12
  refine via (NI.out _) ?_
  intro u20 zu20
  (try simp at zu20)
  go_wp2_with fail
  clear zu20
  obtain ⟨W14, hW14⟩ : ∃ X, X = aft W13 u20 := ⟨_, rfl⟩
  have cR_14 : ∀ o, W14.cell? ⟨kR, o, none⟩ = #[Value.int IntKind.i64 p, Value.int IntKind.i64 n][o]? := fun o => by rw [hW14, aft_cell, if_pos (by omega)]; exact cR_13 o
  have cS_14 : ∀ o, W14.cell? ⟨kS, o, none⟩ = #[Value.int IntKind.i64 q, Value.int IntKind.i64 m][o]? := fun o => by rw [hW14, aft_cell, if_pos (by omega)]; exact cS_13 o
  have cU_14 : ∀ o, W14.cell? ⟨kU, o, none⟩ = #[Value.int IntKind.i64 p3, Value.int IntKind.i64 n3][o]? := fun o => by rw [hW14, aft_cell, if_pos (by omega)]; exact cU_13 o
  have hG_14 : Hid (Ext w.heap.size w W14) := hid (by rw [hW14]; exact hG_13.out.aft _)
  have l_14 : kU + 1 ≤ W14.heap.size := by rw [hW14]; have := size_aft W13 u20; omega
  rw [← hW14]
  clear hW14 cR_13 cS_13 cU_13 l_13 hG_13
  refine via (MI.out _) ?_
  intro u21 zu21
  (try simp at zu21)
  go_wp2_with fail
  go_ret
  exact ⟨by first | rfl | simp, Ext.bel (by repeat (with_reducible first | exact hG_14.out | apply Ext.aft | apply Ext.alloc))⟩
end Go.Proofs.Ytcillfhkgckiaaa
