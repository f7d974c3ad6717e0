/- Sums of p-adic numbers: the law. (Printed by mkT11.py.) -/
import Derived.Test.YtfbpkbnepojlnaaT10
namespace Go.Proofs.Ytfbpkbnepojlnaa
open Go Go.RowKit

set_option maxRecDepth 20000 in
set_option maxHeartbeats 16000000 in
theorem law_PadicSums (a : Option Addr) (len cap : Nat) (w : World) (h : rdB w.heap.size w a len) :
    Calls Try.prog 4 #[.slice a len cap] w fun e w' => e = .returned (.bool true) ∧ Below w.heap.size w w' := by
  by_cases hl : len ≤ 4096
  case neg =>
    have hd : decide ((4096 : Int) < (len : Int)) = true := by simp; omega
    go_enter Try.func4, Try.ntmps4
    go_wp2_with (go_at_call 6; refine pur (l_big _ _ _ _) ?_)
    go_ret
    exact ⟨rfl, (by refine Ext.bel ?_; repeat (with_reducible first | exact Ext.refl _ | apply Ext.alloc | apply Ext.aft | apply Ext.drew | apply Ext.drewN | apply Ext.setCell | exact Nat.le_add_right _ _ | exact Nat.le_refl _ | (simp; done) | omega))⟩
  have hd : decide ((4096 : Int) < (len : Int)) = false := by simp; omega
  have H := hid h
  clear h
  go_enter Try.func4, Try.ntmps4
  go_wp2_with (go_at_call 6; refine pur (l_big _ _ _ _) ?_)
  have hG_0 : Hid (Ext w.heap.size w w) := hid (Ext.refl w)
  refine viaV (α := Pd × Pd) (g := (fun z : Pd × Pd => .tuple #[(fun x : Pd => .agg #[.int .i64 x.p, .int .i64 x.v, .int .i64 x.u, .int .i64 x.n]) z.1, (fun x : Pd => .agg #[.int .i64 x.p, .int .i64 x.v, .int .i64 x.u, .int .i64 x.n]) z.2])) (s_DrawAddPadics w.heap.size a len cap _ (H.out.ext hG_0.out) hl hG_0.out.2) ?_
  intro zz u1 zu1
  (try simp at zu1)
  obtain ⟨⟨x1, x2, x3, x4⟩, ⟨y1, y2, y3, y4⟩⟩ := zz
  dsimp only
  go_wp2_with fail
  clear zu1
  obtain ⟨W1, hW1⟩ : ∃ X, X = aft w u1 := ⟨_, rfl⟩
  have hG_1 : Hid (Ext w.heap.size w W1) := hid (by rw [hW1]; exact hG_0.out.aft _)
  rw [← hW1]
  clear hW1 hG_0
  obtain ⟨kX, hkX⟩ : ∃ k, k = W1.heap.size := ⟨_, rfl⟩
  obtain ⟨W2, hW2⟩ : ∃ X, X = W1.alloc (Obj.cells #[Value.int IntKind.i64 x1, Value.int IntKind.i64 x2, Value.int IntKind.i64 x3, Value.int IntKind.i64 x4] 27) := ⟨_, rfl⟩
  have cX_2 : ∀ o, W2.cell? ⟨kX, o, none⟩ = #[Value.int IntKind.i64 x1, Value.int IntKind.i64 x2, Value.int IntKind.i64 x3, Value.int IntKind.i64 x4][o]? := fun o => by rw [hW2, alloc_cell, if_pos hkX]
  have hG_2 : Hid (Ext w.heap.size w W2) := hid (by rw [hW2]; exact hG_1.out.alloc _)
  have l_2 : W2.heap.size = kX + 1 := by rw [hW2]; simp; omega
  rw [← hW2, ← hkX]
  clear hW2 hG_1 hkX
  obtain ⟨kY, jY⟩ : ∃ k, k = kX + 1 := ⟨_, rfl⟩
  have hkY : kY = W2.heap.size := by omega
  obtain ⟨W3, hW3⟩ : ∃ X, X = W2.alloc (Obj.cells #[Value.int IntKind.i64 y1, Value.int IntKind.i64 y2, Value.int IntKind.i64 y3, Value.int IntKind.i64 y4] 27) := ⟨_, rfl⟩
  have cX_3 : ∀ o, W3.cell? ⟨kX, o, none⟩ = #[Value.int IntKind.i64 x1, Value.int IntKind.i64 x2, Value.int IntKind.i64 x3, Value.int IntKind.i64 x4][o]? := fun o => by rw [hW3, alloc_cell, if_neg (by omega)]; exact cX_2 o
  have cY_3 : ∀ o, W3.cell? ⟨kY, o, none⟩ = #[Value.int IntKind.i64 y1, Value.int IntKind.i64 y2, Value.int IntKind.i64 y3, Value.int IntKind.i64 y4][o]? := fun o => by rw [hW3, alloc_cell, if_pos hkY]
  have hG_3 : Hid (Ext w.heap.size w W3) := hid (by rw [hW3]; exact hG_2.out.alloc _)
  have l_3 : W3.heap.size = kY + 1 := by rw [hW3]; simp; omega
  have qY : kX < kY := by omega
  rw [← hW3, ← jY]
  clear hW3 cX_2 l_2 hG_2 hkY jY
  obtain ⟨A, hA⟩ : ∃ y, y = addpF x1 x2 x3 x4 y1 y2 y3 y4 := ⟨_, rfl⟩
  obtain ⟨⟨a1, a2, a3, a4⟩, a5⟩ := A
  have CI : Hid (∀ W : World, Calls Try.prog 18 #[.agg #[.int .i64 x1, .int .i64 x2, .int .i64 x3, .int .i64 x4], .agg #[.int .i64 y1, .int .i64 y2, .int .i64 y3, .int .i64 y4]] W fun e w' => e = .returned (.tuple #[.agg #[.int .i64 a1, .int .i64 a2, .int .i64 a3, .int .i64 a4], .int .i64 a5]) ∧ Below W.heap.size W w') := hid fun W => by have := i_AddPadics x1 x2 x3 x4 y1 y2 y3 y4 W; rw [← hA] at this; exact this
  have CS : Hid (∀ W : World, Calls Try.prog 19 #[.agg #[.int .i64 x1, .int .i64 x2, .int .i64 x3, .int .i64 x4], .agg #[.int .i64 y1, .int .i64 y2, .int .i64 y3, .int .i64 y4]] W fun e w' => e = .returned (.tuple #[.agg #[.int .i64 a1, .int .i64 a2, .int .i64 a3, .int .i64 a4], .int .i64 a5]) ∧ Below W.heap.size W w') := hid fun W => by have := s_AddPadics x1 x2 x3 x4 y1 y2 y3 y4 W; rw [← hA] at this; exact this
  have HA : Hid (a5 = 0 → padicB x1 x2 x3 x4 = true ∧ padicB y1 y2 y3 y4 = true ∧ padicB a1 a2 a3 a4 = true ∧ a2 + a4 = min (x2 + x4) (y2 + y4) ∧ addpF y1 y2 y3 y4 x1 x2 x3 x4 = (⟨a1, a2, a3, a4⟩, a5)) := hid fun h0 => by
    have := @addp_facts x1 x2 x3 x4 y1 y2 y3 y4 (by rw [← hA]; exact h0)
    rw [← hA] at this
    exact this
  clear hA
  refine via (CI.out _) ?_
  intro u2 zu2
  (try simp at zu2)
  go_wp2_with fail
  clear zu2
  obtain ⟨W4, hW4⟩ : ∃ X, X = aft W3 u2 := ⟨_, rfl⟩
  have cX_4 : ∀ o, W4.cell? ⟨kX, o, none⟩ = #[Value.int IntKind.i64 x1, Value.int IntKind.i64 x2, Value.int IntKind.i64 x3, Value.int IntKind.i64 x4][o]? := fun o => by rw [hW4, aft_cell, if_pos (by omega)]; exact cX_3 o
  have cY_4 : ∀ o, W4.cell? ⟨kY, o, none⟩ = #[Value.int IntKind.i64 y1, Value.int IntKind.i64 y2, Value.int IntKind.i64 y3, Value.int IntKind.i64 y4][o]? := fun o => by rw [hW4, aft_cell, if_pos (by omega)]; exact cY_3 o
  have hG_4 : Hid (Ext w.heap.size w W4) := hid (by rw [hW4]; exact hG_3.out.aft _)
  have l_4 : kY + 1 ≤ W4.heap.size := by rw [hW4]; have := size_aft W3 u2; omega
  rw [← hW4]
  clear hW4 cX_3 cY_3 l_3 hG_3
  obtain ⟨kZ, hkZ⟩ : ∃ k, k = W4.heap.size := ⟨_, rfl⟩
  obtain ⟨W5, hW5⟩ : ∃ X, X = W4.alloc (Obj.cells #[Value.int IntKind.i64 a1, Value.int IntKind.i64 a2, Value.int IntKind.i64 a3, Value.int IntKind.i64 a4] 27) := ⟨_, rfl⟩
  have cX_5 : ∀ o, W5.cell? ⟨kX, o, none⟩ = #[Value.int IntKind.i64 x1, Value.int IntKind.i64 x2, Value.int IntKind.i64 x3, Value.int IntKind.i64 x4][o]? := fun o => by rw [hW5, alloc_cell, if_neg (by omega)]; exact cX_4 o
  have cY_5 : ∀ o, W5.cell? ⟨kY, o, none⟩ = #[Value.int IntKind.i64 y1, Value.int IntKind.i64 y2, Value.int IntKind.i64 y3, Value.int IntKind.i64 y4][o]? := fun o => by rw [hW5, alloc_cell, if_neg (by omega)]; exact cY_4 o
  have cZ_5 : ∀ o, W5.cell? ⟨kZ, o, none⟩ = #[Value.int IntKind.i64 a1, Value.int IntKind.i64 a2, Value.int IntKind.i64 a3, Value.int IntKind.i64 a4][o]? := fun o => by rw [hW5, alloc_cell, if_pos hkZ]
  have hG_5 : Hid (Ext w.heap.size w W5) := hid (by rw [hW5]; exact hG_4.out.alloc _)
  have l_5 : W5.heap.size = kZ + 1 := by rw [hW5]; simp; omega
  have qZ : kY < kZ := by omega
  rw [← hW5, ← hkZ]
  clear hW5 cX_4 cY_4 l_4 hG_4 hkZ
  refine via (CS.out _) ?_
  intro u3 zu3
  (try simp at zu3)
  go_wp2_with fail
  clear zu3
  obtain ⟨W6, hW6⟩ : ∃ X, X = aft W5 u3 := ⟨_, rfl⟩
  have cX_6 : ∀ o, W6.cell? ⟨kX, o, none⟩ = #[Value.int IntKind.i64 x1, Value.int IntKind.i64 x2, Value.int IntKind.i64 x3, Value.int IntKind.i64 x4][o]? := fun o => by rw [hW6, aft_cell, if_pos (by omega)]; exact cX_5 o
  have cY_6 : ∀ o, W6.cell? ⟨kY, o, none⟩ = #[Value.int IntKind.i64 y1, Value.int IntKind.i64 y2, Value.int IntKind.i64 y3, Value.int IntKind.i64 y4][o]? := fun o => by rw [hW6, aft_cell, if_pos (by omega)]; exact cY_5 o
  have cZ_6 : ∀ o, W6.cell? ⟨kZ, o, none⟩ = #[Value.int IntKind.i64 a1, Value.int IntKind.i64 a2, Value.int IntKind.i64 a3, Value.int IntKind.i64 a4][o]? := fun o => by rw [hW6, aft_cell, if_pos (by omega)]; exact cZ_5 o
  have hG_6 : Hid (Ext w.heap.size w W6) := hid (by rw [hW6]; exact hG_5.out.aft _)
  have l_6 : kZ + 1 ≤ W6.heap.size := by rw [hW6]; have := size_aft W5 u3; omega
  rw [← hW6]
  clear hW6 cX_5 cY_5 cZ_5 l_5 hG_5
  obtain ⟨kZM, hkZM⟩ : ∃ k, k = W6.heap.size := ⟨_, rfl⟩
  obtain ⟨W7, hW7⟩ : ∃ X, X = W6.alloc (Obj.cells #[Value.int IntKind.i64 a1, Value.int IntKind.i64 a2, Value.int IntKind.i64 a3, Value.int IntKind.i64 a4] 27) := ⟨_, rfl⟩
  have cX_7 : ∀ o, W7.cell? ⟨kX, o, none⟩ = #[Value.int IntKind.i64 x1, Value.int IntKind.i64 x2, Value.int IntKind.i64 x3, Value.int IntKind.i64 x4][o]? := fun o => by rw [hW7, alloc_cell, if_neg (by omega)]; exact cX_6 o
  have cY_7 : ∀ o, W7.cell? ⟨kY, o, none⟩ = #[Value.int IntKind.i64 y1, Value.int IntKind.i64 y2, Value.int IntKind.i64 y3, Value.int IntKind.i64 y4][o]? := fun o => by rw [hW7, alloc_cell, if_neg (by omega)]; exact cY_6 o
  have cZ_7 : ∀ o, W7.cell? ⟨kZ, o, none⟩ = #[Value.int IntKind.i64 a1, Value.int IntKind.i64 a2, Value.int IntKind.i64 a3, Value.int IntKind.i64 a4][o]? := fun o => by rw [hW7, alloc_cell, if_neg (by omega)]; exact cZ_6 o
  have cZM_7 : ∀ o, W7.cell? ⟨kZM, o, none⟩ = #[Value.int IntKind.i64 a1, Value.int IntKind.i64 a2, Value.int IntKind.i64 a3, Value.int IntKind.i64 a4][o]? := fun o => by rw [hW7, alloc_cell, if_pos hkZM]
  have hG_7 : Hid (Ext w.heap.size w W7) := hid (by rw [hW7]; exact hG_6.out.alloc _)
  have l_7 : W7.heap.size = kZM + 1 := by rw [hW7]; simp; omega
  have qZM : kZ < kZM := by omega
  rw [← hW7, ← hkZM]
  clear hW7 cX_6 cY_6 cZ_6 l_6 hG_6 hkZM
  refine viaV (α := Pd) (g := (fun x : Pd => .agg #[.int .i64 x.p, .int .i64 x.v, .int .i64 x.u, .int .i64 x.n])) (s_DrawNegatePadic w.heap.size a len cap _ (H.out.ext hG_7.out) hl hG_7.out.2) ?_
  intro zz u4 zu4
  (try simp at zu4)
  obtain ⟨n1, n2, n3, n4⟩ := zz
  dsimp only
  go_wp2_with fail
  clear zu4
  obtain ⟨W8, hW8⟩ : ∃ X, X = aft W7 u4 := ⟨_, rfl⟩
  have cX_8 : ∀ o, W8.cell? ⟨kX, o, none⟩ = #[Value.int IntKind.i64 x1, Value.int IntKind.i64 x2, Value.int IntKind.i64 x3, Value.int IntKind.i64 x4][o]? := fun o => by rw [hW8, aft_cell, if_pos (by omega)]; exact cX_7 o
  have cY_8 : ∀ o, W8.cell? ⟨kY, o, none⟩ = #[Value.int IntKind.i64 y1, Value.int IntKind.i64 y2, Value.int IntKind.i64 y3, Value.int IntKind.i64 y4][o]? := fun o => by rw [hW8, aft_cell, if_pos (by omega)]; exact cY_7 o
  have cZ_8 : ∀ o, W8.cell? ⟨kZ, o, none⟩ = #[Value.int IntKind.i64 a1, Value.int IntKind.i64 a2, Value.int IntKind.i64 a3, Value.int IntKind.i64 a4][o]? := fun o => by rw [hW8, aft_cell, if_pos (by omega)]; exact cZ_7 o
  have cZM_8 : ∀ o, W8.cell? ⟨kZM, o, none⟩ = #[Value.int IntKind.i64 a1, Value.int IntKind.i64 a2, Value.int IntKind.i64 a3, Value.int IntKind.i64 a4][o]? := fun o => by rw [hW8, aft_cell, if_pos (by omega)]; exact cZM_7 o
  have hG_8 : Hid (Ext w.heap.size w W8) := hid (by rw [hW8]; exact hG_7.out.aft _)
  have l_8 : kZM + 1 ≤ W8.heap.size := by rw [hW8]; have := size_aft W7 u4; omega
  rw [← hW8]
  clear hW8 cX_7 cY_7 cZ_7 cZM_7 l_7 hG_7
  obtain ⟨kN, hkN⟩ : ∃ k, k = W8.heap.size := ⟨_, rfl⟩
  obtain ⟨W9, hW9⟩ : ∃ X, X = W8.alloc (Obj.cells #[Value.int IntKind.i64 n1, Value.int IntKind.i64 n2, Value.int IntKind.i64 n3, Value.int IntKind.i64 n4] 27) := ⟨_, rfl⟩
  have cX_9 : ∀ o, W9.cell? ⟨kX, o, none⟩ = #[Value.int IntKind.i64 x1, Value.int IntKind.i64 x2, Value.int IntKind.i64 x3, Value.int IntKind.i64 x4][o]? := fun o => by rw [hW9, alloc_cell, if_neg (by omega)]; exact cX_8 o
  have cY_9 : ∀ o, W9.cell? ⟨kY, o, none⟩ = #[Value.int IntKind.i64 y1, Value.int IntKind.i64 y2, Value.int IntKind.i64 y3, Value.int IntKind.i64 y4][o]? := fun o => by rw [hW9, alloc_cell, if_neg (by omega)]; exact cY_8 o
  have cZ_9 : ∀ o, W9.cell? ⟨kZ, o, none⟩ = #[Value.int IntKind.i64 a1, Value.int IntKind.i64 a2, Value.int IntKind.i64 a3, Value.int IntKind.i64 a4][o]? := fun o => by rw [hW9, alloc_cell, if_neg (by omega)]; exact cZ_8 o
  have cZM_9 : ∀ o, W9.cell? ⟨kZM, o, none⟩ = #[Value.int IntKind.i64 a1, Value.int IntKind.i64 a2, Value.int IntKind.i64 a3, Value.int IntKind.i64 a4][o]? := fun o => by rw [hW9, alloc_cell, if_neg (by omega)]; exact cZM_8 o
  have cN_9 : ∀ o, W9.cell? ⟨kN, o, none⟩ = #[Value.int IntKind.i64 n1, Value.int IntKind.i64 n2, Value.int IntKind.i64 n3, Value.int IntKind.i64 n4][o]? := fun o => by rw [hW9, alloc_cell, if_pos hkN]
  have hG_9 : Hid (Ext w.heap.size w W9) := hid (by rw [hW9]; exact hG_8.out.alloc _)
  have l_9 : W9.heap.size = kN + 1 := by rw [hW9]; simp; omega
  have qN : kZM < kN := by omega
  rw [← hW9, ← hkN]
  clear hW9 cX_8 cY_8 cZ_8 cZM_8 l_8 hG_8 hkN
  obtain ⟨B, hB⟩ : ∃ y, y = ngpF n1 n2 n3 n4 := ⟨_, rfl⟩
  obtain ⟨⟨m1, m2, m3, m4⟩, m5⟩ := B
  have NI : Hid (∀ W : World, Calls Try.prog 21 #[.agg #[.int .i64 n1, .int .i64 n2, .int .i64 n3, .int .i64 n4]] W fun e w' => e = .returned (.tuple #[.agg #[.int .i64 m1, .int .i64 m2, .int .i64 m3, .int .i64 m4], .int .i64 m5]) ∧ Below W.heap.size W w') := hid fun W => by have := i_NegatePadic n1 n2 n3 n4 W; rw [← hB] at this; exact this
  have NS : Hid (∀ W : World, Calls Try.prog 22 #[.agg #[.int .i64 n1, .int .i64 n2, .int .i64 n3, .int .i64 n4]] W fun e w' => e = .returned (.tuple #[.agg #[.int .i64 m1, .int .i64 m2, .int .i64 m3, .int .i64 m4], .int .i64 m5]) ∧ Below W.heap.size W w') := hid fun W => by have := s_NegatePadic n1 n2 n3 n4 W; rw [← hB] at this; exact this
  have HB := hid hB
  clear hB
  refine via (NI.out _) ?_
  intro u5 zu5
  (try simp at zu5)
  go_wp2_with fail
  clear zu5
  obtain ⟨W10, hW10⟩ : ∃ X, X = aft W9 u5 := ⟨_, rfl⟩
  have cX_10 : ∀ o, W10.cell? ⟨kX, o, none⟩ = #[Value.int IntKind.i64 x1, Value.int IntKind.i64 x2, Value.int IntKind.i64 x3, Value.int IntKind.i64 x4][o]? := fun o => by rw [hW10, aft_cell, if_pos (by omega)]; exact cX_9 o
  have cY_10 : ∀ o, W10.cell? ⟨kY, o, none⟩ = #[Value.int IntKind.i64 y1, Value.int IntKind.i64 y2, Value.int IntKind.i64 y3, Value.int IntKind.i64 y4][o]? := fun o => by rw [hW10, aft_cell, if_pos (by omega)]; exact cY_9 o
  have cZ_10 : ∀ o, W10.cell? ⟨kZ, o, none⟩ = #[Value.int IntKind.i64 a1, Value.int IntKind.i64 a2, Value.int IntKind.i64 a3, Value.int IntKind.i64 a4][o]? := fun o => by rw [hW10, aft_cell, if_pos (by omega)]; exact cZ_9 o
  have cZM_10 : ∀ o, W10.cell? ⟨kZM, o, none⟩ = #[Value.int IntKind.i64 a1, Value.int IntKind.i64 a2, Value.int IntKind.i64 a3, Value.int IntKind.i64 a4][o]? := fun o => by rw [hW10, aft_cell, if_pos (by omega)]; exact cZM_9 o
  have cN_10 : ∀ o, W10.cell? ⟨kN, o, none⟩ = #[Value.int IntKind.i64 n1, Value.int IntKind.i64 n2, Value.int IntKind.i64 n3, Value.int IntKind.i64 n4][o]? := fun o => by rw [hW10, aft_cell, if_pos (by omega)]; exact cN_9 o
  have hG_10 : Hid (Ext w.heap.size w W10) := hid (by rw [hW10]; exact hG_9.out.aft _)
  have l_10 : kN + 1 ≤ W10.heap.size := by rw [hW10]; have := size_aft W9 u5; omega
  rw [← hW10]
  clear hW10 cX_9 cY_9 cZ_9 cZM_9 cN_9 l_9 hG_9
  obtain ⟨kM, hkM⟩ : ∃ k, k = W10.heap.size := ⟨_, rfl⟩
  obtain ⟨W11, hW11⟩ : ∃ X, X = W10.alloc (Obj.cells #[Value.int IntKind.i64 m1, Value.int IntKind.i64 m2, Value.int IntKind.i64 m3, Value.int IntKind.i64 m4] 27) := ⟨_, rfl⟩
  have cX_11 : ∀ o, W11.cell? ⟨kX, o, none⟩ = #[Value.int IntKind.i64 x1, Value.int IntKind.i64 x2, Value.int IntKind.i64 x3, Value.int IntKind.i64 x4][o]? := fun o => by rw [hW11, alloc_cell, if_neg (by omega)]; exact cX_10 o
  have cY_11 : ∀ o, W11.cell? ⟨kY, o, none⟩ = #[Value.int IntKind.i64 y1, Value.int IntKind.i64 y2, Value.int IntKind.i64 y3, Value.int IntKind.i64 y4][o]? := fun o => by rw [hW11, alloc_cell, if_neg (by omega)]; exact cY_10 o
  have cZ_11 : ∀ o, W11.cell? ⟨kZ, o, none⟩ = #[Value.int IntKind.i64 a1, Value.int IntKind.i64 a2, Value.int IntKind.i64 a3, Value.int IntKind.i64 a4][o]? := fun o => by rw [hW11, alloc_cell, if_neg (by omega)]; exact cZ_10 o
  have cZM_11 : ∀ o, W11.cell? ⟨kZM, o, none⟩ = #[Value.int IntKind.i64 a1, Value.int IntKind.i64 a2, Value.int IntKind.i64 a3, Value.int IntKind.i64 a4][o]? := fun o => by rw [hW11, alloc_cell, if_neg (by omega)]; exact cZM_10 o
  have cN_11 : ∀ o, W11.cell? ⟨kN, o, none⟩ = #[Value.int IntKind.i64 n1, Value.int IntKind.i64 n2, Value.int IntKind.i64 n3, Value.int IntKind.i64 n4][o]? := fun o => by rw [hW11, alloc_cell, if_neg (by omega)]; exact cN_10 o
  have cM_11 : ∀ o, W11.cell? ⟨kM, o, none⟩ = #[Value.int IntKind.i64 m1, Value.int IntKind.i64 m2, Value.int IntKind.i64 m3, Value.int IntKind.i64 m4][o]? := fun o => by rw [hW11, alloc_cell, if_pos hkM]
  have hG_11 : Hid (Ext w.heap.size w W11) := hid (by rw [hW11]; exact hG_10.out.alloc _)
  have l_11 : W11.heap.size = kM + 1 := by rw [hW11]; simp; omega
  have qM : kN < kM := by omega
  rw [← hW11, ← hkM]
  clear hW11 cX_10 cY_10 cZ_10 cZM_10 cN_10 l_10 hG_10 hkM
  refine via (NS.out _) ?_
  intro u6 zu6
  (try simp at zu6)
  go_wp2_with fail
  clear zu6
  obtain ⟨W12, hW12⟩ : ∃ X, X = aft W11 u6 := ⟨_, rfl⟩
  have cX_12 : ∀ o, W12.cell? ⟨kX, o, none⟩ = #[Value.int IntKind.i64 x1, Value.int IntKind.i64 x2, Value.int IntKind.i64 x3, Value.int IntKind.i64 x4][o]? := fun o => by rw [hW12, aft_cell, if_pos (by omega)]; exact cX_11 o
  have cY_12 : ∀ o, W12.cell? ⟨kY, o, none⟩ = #[Value.int IntKind.i64 y1, Value.int IntKind.i64 y2, Value.int IntKind.i64 y3, Value.int IntKind.i64 y4][o]? := fun o => by rw [hW12, aft_cell, if_pos (by omega)]; exact cY_11 o
  have cZ_12 : ∀ o, W12.cell? ⟨kZ, o, none⟩ = #[Value.int IntKind.i64 a1, Value.int IntKind.i64 a2, Value.int IntKind.i64 a3, Value.int IntKind.i64 a4][o]? := fun o => by rw [hW12, aft_cell, if_pos (by omega)]; exact cZ_11 o
  have cZM_12 : ∀ o, W12.cell? ⟨kZM, o, none⟩ = #[Value.int IntKind.i64 a1, Value.int IntKind.i64 a2, Value.int IntKind.i64 a3, Value.int IntKind.i64 a4][o]? := fun o => by rw [hW12, aft_cell, if_pos (by omega)]; exact cZM_11 o
  have cN_12 : ∀ o, W12.cell? ⟨kN, o, none⟩ = #[Value.int IntKind.i64 n1, Value.int IntKind.i64 n2, Value.int IntKind.i64 n3, Value.int IntKind.i64 n4][o]? := fun o => by rw [hW12, aft_cell, if_pos (by omega)]; exact cN_11 o
  have cM_12 : ∀ o, W12.cell? ⟨kM, o, none⟩ = #[Value.int IntKind.i64 m1, Value.int IntKind.i64 m2, Value.int IntKind.i64 m3, Value.int IntKind.i64 m4][o]? := fun o => by rw [hW12, aft_cell, if_pos (by omega)]; exact cM_11 o
  have hG_12 : Hid (Ext w.heap.size w W12) := hid (by rw [hW12]; exact hG_11.out.aft _)
  have l_12 : kM + 1 ≤ W12.heap.size := by rw [hW12]; have := size_aft W11 u6; omega
  rw [← hW12]
  clear hW12 cX_11 cY_11 cZ_11 cZM_11 cN_11 cM_11 l_11 hG_11
  obtain ⟨kMM, hkMM⟩ : ∃ k, k = W12.heap.size := ⟨_, rfl⟩
  obtain ⟨W13, hW13⟩ : ∃ X, X = W12.alloc (Obj.cells #[Value.int IntKind.i64 m1, Value.int IntKind.i64 m2, Value.int IntKind.i64 m3, Value.int IntKind.i64 m4] 27) := ⟨_, rfl⟩
  have cX_13 : ∀ o, W13.cell? ⟨kX, o, none⟩ = #[Value.int IntKind.i64 x1, Value.int IntKind.i64 x2, Value.int IntKind.i64 x3, Value.int IntKind.i64 x4][o]? := fun o => by rw [hW13, alloc_cell, if_neg (by omega)]; exact cX_12 o
  have cY_13 : ∀ o, W13.cell? ⟨kY, o, none⟩ = #[Value.int IntKind.i64 y1, Value.int IntKind.i64 y2, Value.int IntKind.i64 y3, Value.int IntKind.i64 y4][o]? := fun o => by rw [hW13, alloc_cell, if_neg (by omega)]; exact cY_12 o
  have cZ_13 : ∀ o, W13.cell? ⟨kZ, o, none⟩ = #[Value.int IntKind.i64 a1, Value.int IntKind.i64 a2, Value.int IntKind.i64 a3, Value.int IntKind.i64 a4][o]? := fun o => by rw [hW13, alloc_cell, if_neg (by omega)]; exact cZ_12 o
  have cZM_13 : ∀ o, W13.cell? ⟨kZM, o, none⟩ = #[Value.int IntKind.i64 a1, Value.int IntKind.i64 a2, Value.int IntKind.i64 a3, Value.int IntKind.i64 a4][o]? := fun o => by rw [hW13, alloc_cell, if_neg (by omega)]; exact cZM_12 o
  have cN_13 : ∀ o, W13.cell? ⟨kN, o, none⟩ = #[Value.int IntKind.i64 n1, Value.int IntKind.i64 n2, Value.int IntKind.i64 n3, Value.int IntKind.i64 n4][o]? := fun o => by rw [hW13, alloc_cell, if_neg (by omega)]; exact cN_12 o
  have cM_13 : ∀ o, W13.cell? ⟨kM, o, none⟩ = #[Value.int IntKind.i64 m1, Value.int IntKind.i64 m2, Value.int IntKind.i64 m3, Value.int IntKind.i64 m4][o]? := fun o => by rw [hW13, alloc_cell, if_neg (by omega)]; exact cM_12 o
  have cMM_13 : ∀ o, W13.cell? ⟨kMM, o, none⟩ = #[Value.int IntKind.i64 m1, Value.int IntKind.i64 m2, Value.int IntKind.i64 m3, Value.int IntKind.i64 m4][o]? := fun o => by rw [hW13, alloc_cell, if_pos hkMM]
  have hG_13 : Hid (Ext w.heap.size w W13) := hid (by rw [hW13]; exact hG_12.out.alloc _)
  have l_13 : W13.heap.size = kMM + 1 := by rw [hW13]; simp; omega
  have qMM : kM < kMM := by omega
  rw [← hW13, ← hkMM]
  clear hW13 cX_12 cY_12 cZ_12 cZM_12 cN_12 cM_12 l_12 hG_12 hkMM
  refine viaV (α := Pd × Pd) (g := (fun z : Pd × Pd => .tuple #[(fun x : Pd => .agg #[.int .i64 x.p, .int .i64 x.v, .int .i64 x.u, .int .i64 x.n]) z.1, (fun x : Pd => .agg #[.int .i64 x.p, .int .i64 x.v, .int .i64 x.u, .int .i64 x.n]) z.2])) (s_DrawAreEqualTo w.heap.size a len cap _ (H.out.ext hG_13.out) hl hG_13.out.2) ?_
  intro zz u7 zu7
  (try simp at zu7)
  obtain ⟨⟨p1, p2, p3, p4⟩, ⟨q1, q2, q3, q4⟩⟩ := zz
  dsimp only
  go_wp2_with fail
  clear zu7
  obtain ⟨W14, hW14⟩ : ∃ X, X = aft W13 u7 := ⟨_, rfl⟩
  have cX_14 : ∀ o, W14.cell? ⟨kX, o, none⟩ = #[Value.int IntKind.i64 x1, Value.int IntKind.i64 x2, Value.int IntKind.i64 x3, Value.int IntKind.i64 x4][o]? := fun o => by rw [hW14, aft_cell, if_pos (by omega)]; exact cX_13 o
  have cY_14 : ∀ o, W14.cell? ⟨kY, o, none⟩ = #[Value.int IntKind.i64 y1, Value.int IntKind.i64 y2, Value.int IntKind.i64 y3, Value.int IntKind.i64 y4][o]? := fun o => by rw [hW14, aft_cell, if_pos (by omega)]; exact cY_13 o
  have cZ_14 : ∀ o, W14.cell? ⟨kZ, o, none⟩ = #[Value.int IntKind.i64 a1, Value.int IntKind.i64 a2, Value.int IntKind.i64 a3, Value.int IntKind.i64 a4][o]? := fun o => by rw [hW14, aft_cell, if_pos (by omega)]; exact cZ_13 o
  have cZM_14 : ∀ o, W14.cell? ⟨kZM, o, none⟩ = #[Value.int IntKind.i64 a1, Value.int IntKind.i64 a2, Value.int IntKind.i64 a3, Value.int IntKind.i64 a4][o]? := fun o => by rw [hW14, aft_cell, if_pos (by omega)]; exact cZM_13 o
  have cN_14 : ∀ o, W14.cell? ⟨kN, o, none⟩ = #[Value.int IntKind.i64 n1, Value.int IntKind.i64 n2, Value.int IntKind.i64 n3, Value.int IntKind.i64 n4][o]? := fun o => by rw [hW14, aft_cell, if_pos (by omega)]; exact cN_13 o
  have cM_14 : ∀ o, W14.cell? ⟨kM, o, none⟩ = #[Value.int IntKind.i64 m1, Value.int IntKind.i64 m2, Value.int IntKind.i64 m3, Value.int IntKind.i64 m4][o]? := fun o => by rw [hW14, aft_cell, if_pos (by omega)]; exact cM_13 o
  have cMM_14 : ∀ o, W14.cell? ⟨kMM, o, none⟩ = #[Value.int IntKind.i64 m1, Value.int IntKind.i64 m2, Value.int IntKind.i64 m3, Value.int IntKind.i64 m4][o]? := fun o => by rw [hW14, aft_cell, if_pos (by omega)]; exact cMM_13 o
  have hG_14 : Hid (Ext w.heap.size w W14) := hid (by rw [hW14]; exact hG_13.out.aft _)
  have l_14 : kMM + 1 ≤ W14.heap.size := by rw [hW14]; have := size_aft W13 u7; omega
  rw [← hW14]
  clear hW14 cX_13 cY_13 cZ_13 cZM_13 cN_13 cM_13 cMM_13 l_13 hG_13
  obtain ⟨kP, hkP⟩ : ∃ k, k = W14.heap.size := ⟨_, rfl⟩
  obtain ⟨W15, hW15⟩ : ∃ X, X = W14.alloc (Obj.cells #[Value.int IntKind.i64 p1, Value.int IntKind.i64 p2, Value.int IntKind.i64 p3, Value.int IntKind.i64 p4] 27) := ⟨_, rfl⟩
  have cX_15 : ∀ o, W15.cell? ⟨kX, o, none⟩ = #[Value.int IntKind.i64 x1, Value.int IntKind.i64 x2, Value.int IntKind.i64 x3, Value.int IntKind.i64 x4][o]? := fun o => by rw [hW15, alloc_cell, if_neg (by omega)]; exact cX_14 o
  have cY_15 : ∀ o, W15.cell? ⟨kY, o, none⟩ = #[Value.int IntKind.i64 y1, Value.int IntKind.i64 y2, Value.int IntKind.i64 y3, Value.int IntKind.i64 y4][o]? := fun o => by rw [hW15, alloc_cell, if_neg (by omega)]; exact cY_14 o
  have cZ_15 : ∀ o, W15.cell? ⟨kZ, o, none⟩ = #[Value.int IntKind.i64 a1, Value.int IntKind.i64 a2, Value.int IntKind.i64 a3, Value.int IntKind.i64 a4][o]? := fun o => by rw [hW15, alloc_cell, if_neg (by omega)]; exact cZ_14 o
  have cZM_15 : ∀ o, W15.cell? ⟨kZM, o, none⟩ = #[Value.int IntKind.i64 a1, Value.int IntKind.i64 a2, Value.int IntKind.i64 a3, Value.int IntKind.i64 a4][o]? := fun o => by rw [hW15, alloc_cell, if_neg (by omega)]; exact cZM_14 o
  have cN_15 : ∀ o, W15.cell? ⟨kN, o, none⟩ = #[Value.int IntKind.i64 n1, Value.int IntKind.i64 n2, Value.int IntKind.i64 n3, Value.int IntKind.i64 n4][o]? := fun o => by rw [hW15, alloc_cell, if_neg (by omega)]; exact cN_14 o
  have cM_15 : ∀ o, W15.cell? ⟨kM, o, none⟩ = #[Value.int IntKind.i64 m1, Value.int IntKind.i64 m2, Value.int IntKind.i64 m3, Value.int IntKind.i64 m4][o]? := fun o => by rw [hW15, alloc_cell, if_neg (by omega)]; exact cM_14 o
  have cMM_15 : ∀ o, W15.cell? ⟨kMM, o, none⟩ = #[Value.int IntKind.i64 m1, Value.int IntKind.i64 m2, Value.int IntKind.i64 m3, Value.int IntKind.i64 m4][o]? := fun o => by rw [hW15, alloc_cell, if_neg (by omega)]; exact cMM_14 o
  have cP_15 : ∀ o, W15.cell? ⟨kP, o, none⟩ = #[Value.int IntKind.i64 p1, Value.int IntKind.i64 p2, Value.int IntKind.i64 p3, Value.int IntKind.i64 p4][o]? := fun o => by rw [hW15, alloc_cell, if_pos hkP]
  have hG_15 : Hid (Ext w.heap.size w W15) := hid (by rw [hW15]; exact hG_14.out.alloc _)
  have l_15 : W15.heap.size = kP + 1 := by rw [hW15]; simp; omega
  have qP : kMM < kP := by omega
  rw [← hW15, ← hkP]
  clear hW15 cX_14 cY_14 cZ_14 cZM_14 cN_14 cM_14 cMM_14 l_14 hG_14 hkP
  obtain ⟨kQ, jQ⟩ : ∃ k, k = kP + 1 := ⟨_, rfl⟩
  have hkQ : kQ = W15.heap.size := by omega
  obtain ⟨W16, hW16⟩ : ∃ X, X = W15.alloc (Obj.cells #[Value.int IntKind.i64 q1, Value.int IntKind.i64 q2, Value.int IntKind.i64 q3, Value.int IntKind.i64 q4] 27) := ⟨_, rfl⟩
  have cX_16 : ∀ o, W16.cell? ⟨kX, o, none⟩ = #[Value.int IntKind.i64 x1, Value.int IntKind.i64 x2, Value.int IntKind.i64 x3, Value.int IntKind.i64 x4][o]? := fun o => by rw [hW16, alloc_cell, if_neg (by omega)]; exact cX_15 o
  have cY_16 : ∀ o, W16.cell? ⟨kY, o, none⟩ = #[Value.int IntKind.i64 y1, Value.int IntKind.i64 y2, Value.int IntKind.i64 y3, Value.int IntKind.i64 y4][o]? := fun o => by rw [hW16, alloc_cell, if_neg (by omega)]; exact cY_15 o
  have cZ_16 : ∀ o, W16.cell? ⟨kZ, o, none⟩ = #[Value.int IntKind.i64 a1, Value.int IntKind.i64 a2, Value.int IntKind.i64 a3, Value.int IntKind.i64 a4][o]? := fun o => by rw [hW16, alloc_cell, if_neg (by omega)]; exact cZ_15 o
  have cZM_16 : ∀ o, W16.cell? ⟨kZM, o, none⟩ = #[Value.int IntKind.i64 a1, Value.int IntKind.i64 a2, Value.int IntKind.i64 a3, Value.int IntKind.i64 a4][o]? := fun o => by rw [hW16, alloc_cell, if_neg (by omega)]; exact cZM_15 o
  have cN_16 : ∀ o, W16.cell? ⟨kN, o, none⟩ = #[Value.int IntKind.i64 n1, Value.int IntKind.i64 n2, Value.int IntKind.i64 n3, Value.int IntKind.i64 n4][o]? := fun o => by rw [hW16, alloc_cell, if_neg (by omega)]; exact cN_15 o
  have cM_16 : ∀ o, W16.cell? ⟨kM, o, none⟩ = #[Value.int IntKind.i64 m1, Value.int IntKind.i64 m2, Value.int IntKind.i64 m3, Value.int IntKind.i64 m4][o]? := fun o => by rw [hW16, alloc_cell, if_neg (by omega)]; exact cM_15 o
  have cMM_16 : ∀ o, W16.cell? ⟨kMM, o, none⟩ = #[Value.int IntKind.i64 m1, Value.int IntKind.i64 m2, Value.int IntKind.i64 m3, Value.int IntKind.i64 m4][o]? := fun o => by rw [hW16, alloc_cell, if_neg (by omega)]; exact cMM_15 o
  have cP_16 : ∀ o, W16.cell? ⟨kP, o, none⟩ = #[Value.int IntKind.i64 p1, Value.int IntKind.i64 p2, Value.int IntKind.i64 p3, Value.int IntKind.i64 p4][o]? := fun o => by rw [hW16, alloc_cell, if_neg (by omega)]; exact cP_15 o
  have cQ_16 : ∀ o, W16.cell? ⟨kQ, o, none⟩ = #[Value.int IntKind.i64 q1, Value.int IntKind.i64 q2, Value.int IntKind.i64 q3, Value.int IntKind.i64 q4][o]? := fun o => by rw [hW16, alloc_cell, if_pos hkQ]
  have hG_16 : Hid (Ext w.heap.size w W16) := hid (by rw [hW16]; exact hG_15.out.alloc _)
  have l_16 : W16.heap.size = kQ + 1 := by rw [hW16]; simp; omega
  have qQ : kP < kQ := by omega
  rw [← hW16, ← jQ]
  clear hW16 cX_15 cY_15 cZ_15 cZM_15 cN_15 cM_15 cMM_15 cP_15 l_15 hG_15 hkQ jQ
  obtain ⟨E, hE⟩ : ∃ y, y = eqtF p1 p2 p3 p4 q1 q2 q3 q4 := ⟨_, rfl⟩
  obtain ⟨e1, e2⟩ := E
  have EI : Hid (∀ W : World, Calls Try.prog 24 #[.agg #[.int .i64 p1, .int .i64 p2, .int .i64 p3, .int .i64 p4], .agg #[.int .i64 q1, .int .i64 q2, .int .i64 q3, .int .i64 q4]] W fun e w' => e = .returned (.tuple #[.int .i64 e1, .int .i64 e2]) ∧ Below W.heap.size W w') := hid fun W => by have := i_AreEqualTo p1 p2 p3 p4 q1 q2 q3 q4 W; rw [← hE] at this; exact this
  have ES : Hid (∀ W : World, Calls Try.prog 25 #[.agg #[.int .i64 p1, .int .i64 p2, .int .i64 p3, .int .i64 p4], .agg #[.int .i64 q1, .int .i64 q2, .int .i64 q3, .int .i64 q4]] W fun e w' => e = .returned (.tuple #[.int .i64 e1, .int .i64 e2]) ∧ Below W.heap.size W w') := hid fun W => by have := s_AreEqualTo p1 p2 p3 p4 q1 q2 q3 q4 W; rw [← hE] at this; exact this
  clear hE
  refine via (EI.out _) ?_
  intro u8 zu8
  (try simp at zu8)
  go_wp2_with fail
  clear zu8
  obtain ⟨W17, hW17⟩ : ∃ X, X = aft W16 u8 := ⟨_, rfl⟩
  have cX_17 : ∀ o, W17.cell? ⟨kX, o, none⟩ = #[Value.int IntKind.i64 x1, Value.int IntKind.i64 x2, Value.int IntKind.i64 x3, Value.int IntKind.i64 x4][o]? := fun o => by rw [hW17, aft_cell, if_pos (by omega)]; exact cX_16 o
  have cY_17 : ∀ o, W17.cell? ⟨kY, o, none⟩ = #[Value.int IntKind.i64 y1, Value.int IntKind.i64 y2, Value.int IntKind.i64 y3, Value.int IntKind.i64 y4][o]? := fun o => by rw [hW17, aft_cell, if_pos (by omega)]; exact cY_16 o
  have cZ_17 : ∀ o, W17.cell? ⟨kZ, o, none⟩ = #[Value.int IntKind.i64 a1, Value.int IntKind.i64 a2, Value.int IntKind.i64 a3, Value.int IntKind.i64 a4][o]? := fun o => by rw [hW17, aft_cell, if_pos (by omega)]; exact cZ_16 o
  have cZM_17 : ∀ o, W17.cell? ⟨kZM, o, none⟩ = #[Value.int IntKind.i64 a1, Value.int IntKind.i64 a2, Value.int IntKind.i64 a3, Value.int IntKind.i64 a4][o]? := fun o => by rw [hW17, aft_cell, if_pos (by omega)]; exact cZM_16 o
  have cN_17 : ∀ o, W17.cell? ⟨kN, o, none⟩ = #[Value.int IntKind.i64 n1, Value.int IntKind.i64 n2, Value.int IntKind.i64 n3, Value.int IntKind.i64 n4][o]? := fun o => by rw [hW17, aft_cell, if_pos (by omega)]; exact cN_16 o
  have cM_17 : ∀ o, W17.cell? ⟨kM, o, none⟩ = #[Value.int IntKind.i64 m1, Value.int IntKind.i64 m2, Value.int IntKind.i64 m3, Value.int IntKind.i64 m4][o]? := fun o => by rw [hW17, aft_cell, if_pos (by omega)]; exact cM_16 o
  have cMM_17 : ∀ o, W17.cell? ⟨kMM, o, none⟩ = #[Value.int IntKind.i64 m1, Value.int IntKind.i64 m2, Value.int IntKind.i64 m3, Value.int IntKind.i64 m4][o]? := fun o => by rw [hW17, aft_cell, if_pos (by omega)]; exact cMM_16 o
  have cP_17 : ∀ o, W17.cell? ⟨kP, o, none⟩ = #[Value.int IntKind.i64 p1, Value.int IntKind.i64 p2, Value.int IntKind.i64 p3, Value.int IntKind.i64 p4][o]? := fun o => by rw [hW17, aft_cell, if_pos (by omega)]; exact cP_16 o
  have cQ_17 : ∀ o, W17.cell? ⟨kQ, o, none⟩ = #[Value.int IntKind.i64 q1, Value.int IntKind.i64 q2, Value.int IntKind.i64 q3, Value.int IntKind.i64 q4][o]? := fun o => by rw [hW17, aft_cell, if_pos (by omega)]; exact cQ_16 o
  have hG_17 : Hid (Ext w.heap.size w W17) := hid (by rw [hW17]; exact hG_16.out.aft _)
  have l_17 : kQ + 1 ≤ W17.heap.size := by rw [hW17]; have := size_aft W16 u8; omega
  rw [← hW17]
  clear hW17 cX_16 cY_16 cZ_16 cZM_16 cN_16 cM_16 cMM_16 cP_16 cQ_16 l_16 hG_16
  refine via (ES.out _) ?_
  intro u9 zu9
  (try simp at zu9)
  go_wp2_with fail
  clear zu9
  obtain ⟨W18, hW18⟩ : ∃ X, X = aft W17 u9 := ⟨_, rfl⟩
  have cX_18 : ∀ o, W18.cell? ⟨kX, o, none⟩ = #[Value.int IntKind.i64 x1, Value.int IntKind.i64 x2, Value.int IntKind.i64 x3, Value.int IntKind.i64 x4][o]? := fun o => by rw [hW18, aft_cell, if_pos (by omega)]; exact cX_17 o
  have cY_18 : ∀ o, W18.cell? ⟨kY, o, none⟩ = #[Value.int IntKind.i64 y1, Value.int IntKind.i64 y2, Value.int IntKind.i64 y3, Value.int IntKind.i64 y4][o]? := fun o => by rw [hW18, aft_cell, if_pos (by omega)]; exact cY_17 o
  have cZ_18 : ∀ o, W18.cell? ⟨kZ, o, none⟩ = #[Value.int IntKind.i64 a1, Value.int IntKind.i64 a2, Value.int IntKind.i64 a3, Value.int IntKind.i64 a4][o]? := fun o => by rw [hW18, aft_cell, if_pos (by omega)]; exact cZ_17 o
  have cZM_18 : ∀ o, W18.cell? ⟨kZM, o, none⟩ = #[Value.int IntKind.i64 a1, Value.int IntKind.i64 a2, Value.int IntKind.i64 a3, Value.int IntKind.i64 a4][o]? := fun o => by rw [hW18, aft_cell, if_pos (by omega)]; exact cZM_17 o
  have cN_18 : ∀ o, W18.cell? ⟨kN, o, none⟩ = #[Value.int IntKind.i64 n1, Value.int IntKind.i64 n2, Value.int IntKind.i64 n3, Value.int IntKind.i64 n4][o]? := fun o => by rw [hW18, aft_cell, if_pos (by omega)]; exact cN_17 o
  have cM_18 : ∀ o, W18.cell? ⟨kM, o, none⟩ = #[Value.int IntKind.i64 m1, Value.int IntKind.i64 m2, Value.int IntKind.i64 m3, Value.int IntKind.i64 m4][o]? := fun o => by rw [hW18, aft_cell, if_pos (by omega)]; exact cM_17 o
  have cMM_18 : ∀ o, W18.cell? ⟨kMM, o, none⟩ = #[Value.int IntKind.i64 m1, Value.int IntKind.i64 m2, Value.int IntKind.i64 m3, Value.int IntKind.i64 m4][o]? := fun o => by rw [hW18, aft_cell, if_pos (by omega)]; exact cMM_17 o
  have cP_18 : ∀ o, W18.cell? ⟨kP, o, none⟩ = #[Value.int IntKind.i64 p1, Value.int IntKind.i64 p2, Value.int IntKind.i64 p3, Value.int IntKind.i64 p4][o]? := fun o => by rw [hW18, aft_cell, if_pos (by omega)]; exact cP_17 o
  have cQ_18 : ∀ o, W18.cell? ⟨kQ, o, none⟩ = #[Value.int IntKind.i64 q1, Value.int IntKind.i64 q2, Value.int IntKind.i64 q3, Value.int IntKind.i64 q4][o]? := fun o => by rw [hW18, aft_cell, if_pos (by omega)]; exact cQ_17 o
  have hG_18 : Hid (Ext w.heap.size w W18) := hid (by rw [hW18]; exact hG_17.out.aft _)
  have l_18 : kQ + 1 ≤ W18.heap.size := by rw [hW18]; have := size_aft W17 u9; omega
  rw [← hW18]
  clear hW18 cX_17 cY_17 cZ_17 cZM_17 cN_17 cM_17 cMM_17 cP_17 cQ_17 l_17 hG_17
  cases hn : padicB n1 n2 n3 n4
  case false =>
    have hB := HB.out
    rw [show ngpF n1 n2 n3 n4 = (⟨0, 0, 0, 0⟩, 1) by simp [ngpF, hn]] at hB
    have hm5 : m5 = 1 := by injection hB
    clear hB
    subst hm5
    go_wp2_with fail
    refine via (i_IsPadic _ _ _ _ _) ?_
    intro u10 z10
    clear z10
    rw [hn]
    obtain ⟨W19, hW19⟩ : ∃ X, X = aft W18 u10 := ⟨_, rfl⟩
    have cX_19 : ∀ o, W19.cell? ⟨kX, o, none⟩ = #[Value.int IntKind.i64 x1, Value.int IntKind.i64 x2, Value.int IntKind.i64 x3, Value.int IntKind.i64 x4][o]? := fun o => by rw [hW19, aft_cell, if_pos (by omega)]; exact cX_18 o
    have cY_19 : ∀ o, W19.cell? ⟨kY, o, none⟩ = #[Value.int IntKind.i64 y1, Value.int IntKind.i64 y2, Value.int IntKind.i64 y3, Value.int IntKind.i64 y4][o]? := fun o => by rw [hW19, aft_cell, if_pos (by omega)]; exact cY_18 o
    have cZ_19 : ∀ o, W19.cell? ⟨kZ, o, none⟩ = #[Value.int IntKind.i64 a1, Value.int IntKind.i64 a2, Value.int IntKind.i64 a3, Value.int IntKind.i64 a4][o]? := fun o => by rw [hW19, aft_cell, if_pos (by omega)]; exact cZ_18 o
    have cZM_19 : ∀ o, W19.cell? ⟨kZM, o, none⟩ = #[Value.int IntKind.i64 a1, Value.int IntKind.i64 a2, Value.int IntKind.i64 a3, Value.int IntKind.i64 a4][o]? := fun o => by rw [hW19, aft_cell, if_pos (by omega)]; exact cZM_18 o
    have cN_19 : ∀ o, W19.cell? ⟨kN, o, none⟩ = #[Value.int IntKind.i64 n1, Value.int IntKind.i64 n2, Value.int IntKind.i64 n3, Value.int IntKind.i64 n4][o]? := fun o => by rw [hW19, aft_cell, if_pos (by omega)]; exact cN_18 o
    have cM_19 : ∀ o, W19.cell? ⟨kM, o, none⟩ = #[Value.int IntKind.i64 m1, Value.int IntKind.i64 m2, Value.int IntKind.i64 m3, Value.int IntKind.i64 m4][o]? := fun o => by rw [hW19, aft_cell, if_pos (by omega)]; exact cM_18 o
    have cMM_19 : ∀ o, W19.cell? ⟨kMM, o, none⟩ = #[Value.int IntKind.i64 m1, Value.int IntKind.i64 m2, Value.int IntKind.i64 m3, Value.int IntKind.i64 m4][o]? := fun o => by rw [hW19, aft_cell, if_pos (by omega)]; exact cMM_18 o
    have cP_19 : ∀ o, W19.cell? ⟨kP, o, none⟩ = #[Value.int IntKind.i64 p1, Value.int IntKind.i64 p2, Value.int IntKind.i64 p3, Value.int IntKind.i64 p4][o]? := fun o => by rw [hW19, aft_cell, if_pos (by omega)]; exact cP_18 o
    have cQ_19 : ∀ o, W19.cell? ⟨kQ, o, none⟩ = #[Value.int IntKind.i64 q1, Value.int IntKind.i64 q2, Value.int IntKind.i64 q3, Value.int IntKind.i64 q4][o]? := fun o => by rw [hW19, aft_cell, if_pos (by omega)]; exact cQ_18 o
    have hG_19 : Hid (Ext w.heap.size w W19) := hid (by rw [hW19]; exact hG_18.out.aft _)
    have l_19 : kQ + 1 ≤ W19.heap.size := by rw [hW19]; have := size_aft W18 u10; omega
    rw [← hW19]
    clear hW19 cX_18 cY_18 cZ_18 cZM_18 cN_18 cM_18 cMM_18 cP_18 cQ_18 l_18 hG_18
    by_cases h5 : a5 = 0
    case neg =>
      have h5' : (a5 == 0) = false := by simpa using h5
      clear h5
      go_wp2_with fail
      go_ret
      exact ⟨rfl, Ext.bel hG_19.out⟩
    subst h5
    obtain ⟨g1, g2, g3, g4, g5⟩ := HA.out rfl
    have BI : Hid (∀ W : World, Calls Try.prog 18 #[.agg #[.int .i64 y1, .int .i64 y2, .int .i64 y3, .int .i64 y4], .agg #[.int .i64 x1, .int .i64 x2, .int .i64 x3, .int .i64 x4]] W fun e w' => e = .returned (.tuple #[.agg #[.int .i64 a1, .int .i64 a2, .int .i64 a3, .int .i64 a4], .int .i64 0]) ∧ Below W.heap.size W w') := hid fun W => by have := i_AddPadics y1 y2 y3 y4 x1 x2 x3 x4 W; rw [g5] at this; exact this
    have G1 := hid g1
    have G2 := hid g2
    have G3 := hid g3
    have f1 := (padic_facts g1)
    have f2 := (padic_facts g2)
    have b1 : -100 ≤ x2 + x4 ∧ x2 + x4 ≤ 100 := by omega
    have b2 : -100 ≤ y2 + y4 ∧ y2 + y4 ≤ 100 := by omega
    clear f1 f2 g1 g2 g3 g5
    go_wp2_with fail
    refine via (BI.out _) ?_
    intro u20 zu20
    (try simp at zu20)
    go_wp2_with fail
    clear zu20
    obtain ⟨W20, hW20⟩ : ∃ X, X = aft W19 u20 := ⟨_, rfl⟩
    have cX_20 : ∀ o, W20.cell? ⟨kX, o, none⟩ = #[Value.int IntKind.i64 x1, Value.int IntKind.i64 x2, Value.int IntKind.i64 x3, Value.int IntKind.i64 x4][o]? := fun o => by rw [hW20, aft_cell, if_pos (by omega)]; exact cX_19 o
    have cY_20 : ∀ o, W20.cell? ⟨kY, o, none⟩ = #[Value.int IntKind.i64 y1, Value.int IntKind.i64 y2, Value.int IntKind.i64 y3, Value.int IntKind.i64 y4][o]? := fun o => by rw [hW20, aft_cell, if_pos (by omega)]; exact cY_19 o
    have cZ_20 : ∀ o, W20.cell? ⟨kZ, o, none⟩ = #[Value.int IntKind.i64 a1, Value.int IntKind.i64 a2, Value.int IntKind.i64 a3, Value.int IntKind.i64 a4][o]? := fun o => by rw [hW20, aft_cell, if_pos (by omega)]; exact cZ_19 o
    have cZM_20 : ∀ o, W20.cell? ⟨kZM, o, none⟩ = #[Value.int IntKind.i64 a1, Value.int IntKind.i64 a2, Value.int IntKind.i64 a3, Value.int IntKind.i64 a4][o]? := fun o => by rw [hW20, aft_cell, if_pos (by omega)]; exact cZM_19 o
    have cN_20 : ∀ o, W20.cell? ⟨kN, o, none⟩ = #[Value.int IntKind.i64 n1, Value.int IntKind.i64 n2, Value.int IntKind.i64 n3, Value.int IntKind.i64 n4][o]? := fun o => by rw [hW20, aft_cell, if_pos (by omega)]; exact cN_19 o
    have cM_20 : ∀ o, W20.cell? ⟨kM, o, none⟩ = #[Value.int IntKind.i64 m1, Value.int IntKind.i64 m2, Value.int IntKind.i64 m3, Value.int IntKind.i64 m4][o]? := fun o => by rw [hW20, aft_cell, if_pos (by omega)]; exact cM_19 o
    have cMM_20 : ∀ o, W20.cell? ⟨kMM, o, none⟩ = #[Value.int IntKind.i64 m1, Value.int IntKind.i64 m2, Value.int IntKind.i64 m3, Value.int IntKind.i64 m4][o]? := fun o => by rw [hW20, aft_cell, if_pos (by omega)]; exact cMM_19 o
    have cP_20 : ∀ o, W20.cell? ⟨kP, o, none⟩ = #[Value.int IntKind.i64 p1, Value.int IntKind.i64 p2, Value.int IntKind.i64 p3, Value.int IntKind.i64 p4][o]? := fun o => by rw [hW20, aft_cell, if_pos (by omega)]; exact cP_19 o
    have cQ_20 : ∀ o, W20.cell? ⟨kQ, o, none⟩ = #[Value.int IntKind.i64 q1, Value.int IntKind.i64 q2, Value.int IntKind.i64 q3, Value.int IntKind.i64 q4][o]? := fun o => by rw [hW20, aft_cell, if_pos (by omega)]; exact cQ_19 o
    have hG_20 : Hid (Ext w.heap.size w W20) := hid (by rw [hW20]; exact hG_19.out.aft _)
    have l_20 : kQ + 1 ≤ W20.heap.size := by rw [hW20]; have := size_aft W19 u20; omega
    rw [← hW20]
    clear hW20 cX_19 cY_19 cZ_19 cZM_19 cN_19 cM_19 cMM_19 cP_19 cQ_19 l_19 hG_19
    obtain ⟨kBK, hkBK⟩ : ∃ k, k = W20.heap.size := ⟨_, rfl⟩
    obtain ⟨W21, hW21⟩ : ∃ X, X = W20.alloc (Obj.cells #[Value.int IntKind.i64 a1, Value.int IntKind.i64 a2, Value.int IntKind.i64 a3, Value.int IntKind.i64 a4] 27) := ⟨_, rfl⟩
    have cX_21 : ∀ o, W21.cell? ⟨kX, o, none⟩ = #[Value.int IntKind.i64 x1, Value.int IntKind.i64 x2, Value.int IntKind.i64 x3, Value.int IntKind.i64 x4][o]? := fun o => by rw [hW21, alloc_cell, if_neg (by omega)]; exact cX_20 o
    have cY_21 : ∀ o, W21.cell? ⟨kY, o, none⟩ = #[Value.int IntKind.i64 y1, Value.int IntKind.i64 y2, Value.int IntKind.i64 y3, Value.int IntKind.i64 y4][o]? := fun o => by rw [hW21, alloc_cell, if_neg (by omega)]; exact cY_20 o
    have cZ_21 : ∀ o, W21.cell? ⟨kZ, o, none⟩ = #[Value.int IntKind.i64 a1, Value.int IntKind.i64 a2, Value.int IntKind.i64 a3, Value.int IntKind.i64 a4][o]? := fun o => by rw [hW21, alloc_cell, if_neg (by omega)]; exact cZ_20 o
    have cZM_21 : ∀ o, W21.cell? ⟨kZM, o, none⟩ = #[Value.int IntKind.i64 a1, Value.int IntKind.i64 a2, Value.int IntKind.i64 a3, Value.int IntKind.i64 a4][o]? := fun o => by rw [hW21, alloc_cell, if_neg (by omega)]; exact cZM_20 o
    have cN_21 : ∀ o, W21.cell? ⟨kN, o, none⟩ = #[Value.int IntKind.i64 n1, Value.int IntKind.i64 n2, Value.int IntKind.i64 n3, Value.int IntKind.i64 n4][o]? := fun o => by rw [hW21, alloc_cell, if_neg (by omega)]; exact cN_20 o
    have cM_21 : ∀ o, W21.cell? ⟨kM, o, none⟩ = #[Value.int IntKind.i64 m1, Value.int IntKind.i64 m2, Value.int IntKind.i64 m3, Value.int IntKind.i64 m4][o]? := fun o => by rw [hW21, alloc_cell, if_neg (by omega)]; exact cM_20 o
    have cMM_21 : ∀ o, W21.cell? ⟨kMM, o, none⟩ = #[Value.int IntKind.i64 m1, Value.int IntKind.i64 m2, Value.int IntKind.i64 m3, Value.int IntKind.i64 m4][o]? := fun o => by rw [hW21, alloc_cell, if_neg (by omega)]; exact cMM_20 o
    have cP_21 : ∀ o, W21.cell? ⟨kP, o, none⟩ = #[Value.int IntKind.i64 p1, Value.int IntKind.i64 p2, Value.int IntKind.i64 p3, Value.int IntKind.i64 p4][o]? := fun o => by rw [hW21, alloc_cell, if_neg (by omega)]; exact cP_20 o
    have cQ_21 : ∀ o, W21.cell? ⟨kQ, o, none⟩ = #[Value.int IntKind.i64 q1, Value.int IntKind.i64 q2, Value.int IntKind.i64 q3, Value.int IntKind.i64 q4][o]? := fun o => by rw [hW21, alloc_cell, if_neg (by omega)]; exact cQ_20 o
    have cBK_21 : ∀ o, W21.cell? ⟨kBK, o, none⟩ = #[Value.int IntKind.i64 a1, Value.int IntKind.i64 a2, Value.int IntKind.i64 a3, Value.int IntKind.i64 a4][o]? := fun o => by rw [hW21, alloc_cell, if_pos hkBK]
    have hG_21 : Hid (Ext w.heap.size w W21) := hid (by rw [hW21]; exact hG_20.out.alloc _)
    have l_21 : W21.heap.size = kBK + 1 := by rw [hW21]; simp; omega
    have qBK : kQ < kBK := by omega
    rw [← hW21, ← hkBK]
    clear hW21 cX_20 cY_20 cZ_20 cZM_20 cN_20 cM_20 cMM_20 cP_20 cQ_20 l_20 hG_20 hkBK
    refine via (i_EndOf _ _ _ _ _ G1.out) ?_
    intro u21 zu21
    (try simp at zu21)
    go_wp2_with fail
    clear zu21
    obtain ⟨W22, hW22⟩ : ∃ X, X = aft W21 u21 := ⟨_, rfl⟩
    have cX_22 : ∀ o, W22.cell? ⟨kX, o, none⟩ = #[Value.int IntKind.i64 x1, Value.int IntKind.i64 x2, Value.int IntKind.i64 x3, Value.int IntKind.i64 x4][o]? := fun o => by rw [hW22, aft_cell, if_pos (by omega)]; exact cX_21 o
    have cY_22 : ∀ o, W22.cell? ⟨kY, o, none⟩ = #[Value.int IntKind.i64 y1, Value.int IntKind.i64 y2, Value.int IntKind.i64 y3, Value.int IntKind.i64 y4][o]? := fun o => by rw [hW22, aft_cell, if_pos (by omega)]; exact cY_21 o
    have cZ_22 : ∀ o, W22.cell? ⟨kZ, o, none⟩ = #[Value.int IntKind.i64 a1, Value.int IntKind.i64 a2, Value.int IntKind.i64 a3, Value.int IntKind.i64 a4][o]? := fun o => by rw [hW22, aft_cell, if_pos (by omega)]; exact cZ_21 o
    have cZM_22 : ∀ o, W22.cell? ⟨kZM, o, none⟩ = #[Value.int IntKind.i64 a1, Value.int IntKind.i64 a2, Value.int IntKind.i64 a3, Value.int IntKind.i64 a4][o]? := fun o => by rw [hW22, aft_cell, if_pos (by omega)]; exact cZM_21 o
    have cN_22 : ∀ o, W22.cell? ⟨kN, o, none⟩ = #[Value.int IntKind.i64 n1, Value.int IntKind.i64 n2, Value.int IntKind.i64 n3, Value.int IntKind.i64 n4][o]? := fun o => by rw [hW22, aft_cell, if_pos (by omega)]; exact cN_21 o
    have cM_22 : ∀ o, W22.cell? ⟨kM, o, none⟩ = #[Value.int IntKind.i64 m1, Value.int IntKind.i64 m2, Value.int IntKind.i64 m3, Value.int IntKind.i64 m4][o]? := fun o => by rw [hW22, aft_cell, if_pos (by omega)]; exact cM_21 o
    have cMM_22 : ∀ o, W22.cell? ⟨kMM, o, none⟩ = #[Value.int IntKind.i64 m1, Value.int IntKind.i64 m2, Value.int IntKind.i64 m3, Value.int IntKind.i64 m4][o]? := fun o => by rw [hW22, aft_cell, if_pos (by omega)]; exact cMM_21 o
    have cP_22 : ∀ o, W22.cell? ⟨kP, o, none⟩ = #[Value.int IntKind.i64 p1, Value.int IntKind.i64 p2, Value.int IntKind.i64 p3, Value.int IntKind.i64 p4][o]? := fun o => by rw [hW22, aft_cell, if_pos (by omega)]; exact cP_21 o
    have cQ_22 : ∀ o, W22.cell? ⟨kQ, o, none⟩ = #[Value.int IntKind.i64 q1, Value.int IntKind.i64 q2, Value.int IntKind.i64 q3, Value.int IntKind.i64 q4][o]? := fun o => by rw [hW22, aft_cell, if_pos (by omega)]; exact cQ_21 o
    have cBK_22 : ∀ o, W22.cell? ⟨kBK, o, none⟩ = #[Value.int IntKind.i64 a1, Value.int IntKind.i64 a2, Value.int IntKind.i64 a3, Value.int IntKind.i64 a4][o]? := fun o => by rw [hW22, aft_cell, if_pos (by omega)]; exact cBK_21 o
    have hG_22 : Hid (Ext w.heap.size w W22) := hid (by rw [hW22]; exact hG_21.out.aft _)
    have l_22 : kBK + 1 ≤ W22.heap.size := by rw [hW22]; have := size_aft W21 u21; omega
    rw [← hW22]
    clear hW22 cX_21 cY_21 cZ_21 cZM_21 cN_21 cM_21 cMM_21 cP_21 cQ_21 cBK_21 l_21 hG_21
    refine via (i_EndOf _ _ _ _ _ G2.out) ?_
    intro u22 zu22
    (try simp at zu22)
    go_wp2_with fail
    clear zu22
    obtain ⟨W23, hW23⟩ : ∃ X, X = aft W22 u22 := ⟨_, rfl⟩
    have cX_23 : ∀ o, W23.cell? ⟨kX, o, none⟩ = #[Value.int IntKind.i64 x1, Value.int IntKind.i64 x2, Value.int IntKind.i64 x3, Value.int IntKind.i64 x4][o]? := fun o => by rw [hW23, aft_cell, if_pos (by omega)]; exact cX_22 o
    have cY_23 : ∀ o, W23.cell? ⟨kY, o, none⟩ = #[Value.int IntKind.i64 y1, Value.int IntKind.i64 y2, Value.int IntKind.i64 y3, Value.int IntKind.i64 y4][o]? := fun o => by rw [hW23, aft_cell, if_pos (by omega)]; exact cY_22 o
    have cZ_23 : ∀ o, W23.cell? ⟨kZ, o, none⟩ = #[Value.int IntKind.i64 a1, Value.int IntKind.i64 a2, Value.int IntKind.i64 a3, Value.int IntKind.i64 a4][o]? := fun o => by rw [hW23, aft_cell, if_pos (by omega)]; exact cZ_22 o
    have cZM_23 : ∀ o, W23.cell? ⟨kZM, o, none⟩ = #[Value.int IntKind.i64 a1, Value.int IntKind.i64 a2, Value.int IntKind.i64 a3, Value.int IntKind.i64 a4][o]? := fun o => by rw [hW23, aft_cell, if_pos (by omega)]; exact cZM_22 o
    have cN_23 : ∀ o, W23.cell? ⟨kN, o, none⟩ = #[Value.int IntKind.i64 n1, Value.int IntKind.i64 n2, Value.int IntKind.i64 n3, Value.int IntKind.i64 n4][o]? := fun o => by rw [hW23, aft_cell, if_pos (by omega)]; exact cN_22 o
    have cM_23 : ∀ o, W23.cell? ⟨kM, o, none⟩ = #[Value.int IntKind.i64 m1, Value.int IntKind.i64 m2, Value.int IntKind.i64 m3, Value.int IntKind.i64 m4][o]? := fun o => by rw [hW23, aft_cell, if_pos (by omega)]; exact cM_22 o
    have cMM_23 : ∀ o, W23.cell? ⟨kMM, o, none⟩ = #[Value.int IntKind.i64 m1, Value.int IntKind.i64 m2, Value.int IntKind.i64 m3, Value.int IntKind.i64 m4][o]? := fun o => by rw [hW23, aft_cell, if_pos (by omega)]; exact cMM_22 o
    have cP_23 : ∀ o, W23.cell? ⟨kP, o, none⟩ = #[Value.int IntKind.i64 p1, Value.int IntKind.i64 p2, Value.int IntKind.i64 p3, Value.int IntKind.i64 p4][o]? := fun o => by rw [hW23, aft_cell, if_pos (by omega)]; exact cP_22 o
    have cQ_23 : ∀ o, W23.cell? ⟨kQ, o, none⟩ = #[Value.int IntKind.i64 q1, Value.int IntKind.i64 q2, Value.int IntKind.i64 q3, Value.int IntKind.i64 q4][o]? := fun o => by rw [hW23, aft_cell, if_pos (by omega)]; exact cQ_22 o
    have cBK_23 : ∀ o, W23.cell? ⟨kBK, o, none⟩ = #[Value.int IntKind.i64 a1, Value.int IntKind.i64 a2, Value.int IntKind.i64 a3, Value.int IntKind.i64 a4][o]? := fun o => by rw [hW23, aft_cell, if_pos (by omega)]; exact cBK_22 o
    have hG_23 : Hid (Ext w.heap.size w W23) := hid (by rw [hW23]; exact hG_22.out.aft _)
    have l_23 : kBK + 1 ≤ W23.heap.size := by rw [hW23]; have := size_aft W22 u22; omega
    rw [← hW23]
    clear hW23 cX_22 cY_22 cZ_22 cZM_22 cN_22 cM_22 cMM_22 cP_22 cQ_22 cBK_22 l_22 hG_22
    refine via (i_EndOf _ _ _ _ _ G3.out) ?_
    intro u23 z23
    (try simp at z23)
    by_cases hm : x2 + x4 ≤ y2 + y4
    · rw [Int.min_eq_left hm] at g4
      rw [g4]
      by_cases hm2 : x2 + x4 < y2 + y4
      · go_wp2_with fail
        go_ret
        exact ⟨by simp, Ext.bel (hG_23.out.aft _)⟩
      · have hm3 : y2 + y4 = x2 + x4 := by omega
        rw [hm3]
        go_wp2_with fail
        go_ret
        exact ⟨by simp, Ext.bel (hG_23.out.aft _)⟩
    · rw [Int.min_eq_right (by omega)] at g4
      rw [g4]
      have hm2 : y2 + y4 < x2 + x4 := by omega
      go_wp2_with fail
      go_ret
      exact ⟨by simp, Ext.bel (hG_23.out.aft _)⟩
  have hB := HB.out
  rw [show ngpF n1 n2 n3 n4 = (⟨n1, n2, ngF n1 n3 n4, n4⟩, 0) by simp [ngpF, hn]] at hB
  obtain ⟨⟨hm1, hm2, hm3, hm4⟩, hm5⟩ : (m1 = n1 ∧ m2 = n2 ∧ m3 = ngF n1 n3 n4 ∧ m4 = n4) ∧ m5 = 0 := by simpa using hB
  have HM3 := hid hm3
  clear hB hm3 HB
  subst hm1 hm2 hm4
  have HN := hid hn
  have HZ := hid (neg_zero hn)
  have f3 := padic_facts hn
  have b3 : -100 ≤ m2 + m4 ∧ m2 + m4 ≤ 100 := by omega
  clear f3
  subst hm5
  go_wp2_with fail
  refine via (i_IsPadic _ _ _ _ _) ?_
  intro u10 z10
  clear z10
  rw [hn]
  clear hn
  obtain ⟨W19, hW19⟩ : ∃ X, X = aft W18 u10 := ⟨_, rfl⟩
  have cX_19 : ∀ o, W19.cell? ⟨kX, o, none⟩ = #[Value.int IntKind.i64 x1, Value.int IntKind.i64 x2, Value.int IntKind.i64 x3, Value.int IntKind.i64 x4][o]? := fun o => by rw [hW19, aft_cell, if_pos (by omega)]; exact cX_18 o
  have cY_19 : ∀ o, W19.cell? ⟨kY, o, none⟩ = #[Value.int IntKind.i64 y1, Value.int IntKind.i64 y2, Value.int IntKind.i64 y3, Value.int IntKind.i64 y4][o]? := fun o => by rw [hW19, aft_cell, if_pos (by omega)]; exact cY_18 o
  have cZ_19 : ∀ o, W19.cell? ⟨kZ, o, none⟩ = #[Value.int IntKind.i64 a1, Value.int IntKind.i64 a2, Value.int IntKind.i64 a3, Value.int IntKind.i64 a4][o]? := fun o => by rw [hW19, aft_cell, if_pos (by omega)]; exact cZ_18 o
  have cZM_19 : ∀ o, W19.cell? ⟨kZM, o, none⟩ = #[Value.int IntKind.i64 a1, Value.int IntKind.i64 a2, Value.int IntKind.i64 a3, Value.int IntKind.i64 a4][o]? := fun o => by rw [hW19, aft_cell, if_pos (by omega)]; exact cZM_18 o
  have cN_19 : ∀ o, W19.cell? ⟨kN, o, none⟩ = #[Value.int IntKind.i64 m1, Value.int IntKind.i64 m2, Value.int IntKind.i64 n3, Value.int IntKind.i64 m4][o]? := fun o => by rw [hW19, aft_cell, if_pos (by omega)]; exact cN_18 o
  have cM_19 : ∀ o, W19.cell? ⟨kM, o, none⟩ = #[Value.int IntKind.i64 m1, Value.int IntKind.i64 m2, Value.int IntKind.i64 m3, Value.int IntKind.i64 m4][o]? := fun o => by rw [hW19, aft_cell, if_pos (by omega)]; exact cM_18 o
  have cMM_19 : ∀ o, W19.cell? ⟨kMM, o, none⟩ = #[Value.int IntKind.i64 m1, Value.int IntKind.i64 m2, Value.int IntKind.i64 m3, Value.int IntKind.i64 m4][o]? := fun o => by rw [hW19, aft_cell, if_pos (by omega)]; exact cMM_18 o
  have cP_19 : ∀ o, W19.cell? ⟨kP, o, none⟩ = #[Value.int IntKind.i64 p1, Value.int IntKind.i64 p2, Value.int IntKind.i64 p3, Value.int IntKind.i64 p4][o]? := fun o => by rw [hW19, aft_cell, if_pos (by omega)]; exact cP_18 o
  have cQ_19 : ∀ o, W19.cell? ⟨kQ, o, none⟩ = #[Value.int IntKind.i64 q1, Value.int IntKind.i64 q2, Value.int IntKind.i64 q3, Value.int IntKind.i64 q4][o]? := fun o => by rw [hW19, aft_cell, if_pos (by omega)]; exact cQ_18 o
  have hG_19 : Hid (Ext w.heap.size w W19) := hid (by rw [hW19]; exact hG_18.out.aft _)
  have l_19 : kQ + 1 ≤ W19.heap.size := by rw [hW19]; have := size_aft W18 u10; omega
  rw [← hW19]
  clear hW19 cX_18 cY_18 cZ_18 cZM_18 cN_18 cM_18 cMM_18 cP_18 cQ_18 l_18 hG_18
  go_wp2_with fail
  rcases limF_cases ⟨m1, m2 + m4, 0, 0⟩ with ⟨h6, h7⟩ | h6
  case inl =>
    have ZI : Hid (∀ W : World, Calls Try.prog 18 #[.agg #[.int .i64 m1, .int .i64 m2, .int .i64 n3, .int .i64 m4], .agg #[.int .i64 m1, .int .i64 m2, .int .i64 m3, .int .i64 m4]] W fun e w' => e = .returned (.tuple #[.agg #[.int .i64 m1, .int .i64 (m2 + m4), .int .i64 0, .int .i64 0], .int .i64 0]) ∧ Below W.heap.size W w') := hid fun W => by have := i_AddPadics m1 m2 n3 m4 m1 m2 (ngF m1 n3 m4) m4 W; rw [HZ.out, h6] at this; rw [HM3.out]; exact this
    clear h6 h7
    refine via (ZI.out _) ?_
    intro u11 zu11
    (try simp at zu11)
    go_wp2_with fail
    clear zu11
    obtain ⟨W20, hW20⟩ : ∃ X, X = aft W19 u11 := ⟨_, rfl⟩
    have cX_20 : ∀ o, W20.cell? ⟨kX, o, none⟩ = #[Value.int IntKind.i64 x1, Value.int IntKind.i64 x2, Value.int IntKind.i64 x3, Value.int IntKind.i64 x4][o]? := fun o => by rw [hW20, aft_cell, if_pos (by omega)]; exact cX_19 o
    have cY_20 : ∀ o, W20.cell? ⟨kY, o, none⟩ = #[Value.int IntKind.i64 y1, Value.int IntKind.i64 y2, Value.int IntKind.i64 y3, Value.int IntKind.i64 y4][o]? := fun o => by rw [hW20, aft_cell, if_pos (by omega)]; exact cY_19 o
    have cZ_20 : ∀ o, W20.cell? ⟨kZ, o, none⟩ = #[Value.int IntKind.i64 a1, Value.int IntKind.i64 a2, Value.int IntKind.i64 a3, Value.int IntKind.i64 a4][o]? := fun o => by rw [hW20, aft_cell, if_pos (by omega)]; exact cZ_19 o
    have cZM_20 : ∀ o, W20.cell? ⟨kZM, o, none⟩ = #[Value.int IntKind.i64 a1, Value.int IntKind.i64 a2, Value.int IntKind.i64 a3, Value.int IntKind.i64 a4][o]? := fun o => by rw [hW20, aft_cell, if_pos (by omega)]; exact cZM_19 o
    have cN_20 : ∀ o, W20.cell? ⟨kN, o, none⟩ = #[Value.int IntKind.i64 m1, Value.int IntKind.i64 m2, Value.int IntKind.i64 n3, Value.int IntKind.i64 m4][o]? := fun o => by rw [hW20, aft_cell, if_pos (by omega)]; exact cN_19 o
    have cM_20 : ∀ o, W20.cell? ⟨kM, o, none⟩ = #[Value.int IntKind.i64 m1, Value.int IntKind.i64 m2, Value.int IntKind.i64 m3, Value.int IntKind.i64 m4][o]? := fun o => by rw [hW20, aft_cell, if_pos (by omega)]; exact cM_19 o
    have cMM_20 : ∀ o, W20.cell? ⟨kMM, o, none⟩ = #[Value.int IntKind.i64 m1, Value.int IntKind.i64 m2, Value.int IntKind.i64 m3, Value.int IntKind.i64 m4][o]? := fun o => by rw [hW20, aft_cell, if_pos (by omega)]; exact cMM_19 o
    have cP_20 : ∀ o, W20.cell? ⟨kP, o, none⟩ = #[Value.int IntKind.i64 p1, Value.int IntKind.i64 p2, Value.int IntKind.i64 p3, Value.int IntKind.i64 p4][o]? := fun o => by rw [hW20, aft_cell, if_pos (by omega)]; exact cP_19 o
    have cQ_20 : ∀ o, W20.cell? ⟨kQ, o, none⟩ = #[Value.int IntKind.i64 q1, Value.int IntKind.i64 q2, Value.int IntKind.i64 q3, Value.int IntKind.i64 q4][o]? := fun o => by rw [hW20, aft_cell, if_pos (by omega)]; exact cQ_19 o
    have hG_20 : Hid (Ext w.heap.size w W20) := hid (by rw [hW20]; exact hG_19.out.aft _)
    have l_20 : kQ + 1 ≤ W20.heap.size := by rw [hW20]; have := size_aft W19 u11; omega
    rw [← hW20]
    clear hW20 cX_19 cY_19 cZ_19 cZM_19 cN_19 cM_19 cMM_19 cP_19 cQ_19 l_19 hG_19
    obtain ⟨kZR, hkZR⟩ : ∃ k, k = W20.heap.size := ⟨_, rfl⟩
    obtain ⟨W21, hW21⟩ : ∃ X, X = W20.alloc (Obj.cells #[Value.int IntKind.i64 m1, Value.int IntKind.i64 (m2 + m4), Value.int IntKind.i64 0, Value.int IntKind.i64 0] 27) := ⟨_, rfl⟩
    have cX_21 : ∀ o, W21.cell? ⟨kX, o, none⟩ = #[Value.int IntKind.i64 x1, Value.int IntKind.i64 x2, Value.int IntKind.i64 x3, Value.int IntKind.i64 x4][o]? := fun o => by rw [hW21, alloc_cell, if_neg (by omega)]; exact cX_20 o
    have cY_21 : ∀ o, W21.cell? ⟨kY, o, none⟩ = #[Value.int IntKind.i64 y1, Value.int IntKind.i64 y2, Value.int IntKind.i64 y3, Value.int IntKind.i64 y4][o]? := fun o => by rw [hW21, alloc_cell, if_neg (by omega)]; exact cY_20 o
    have cZ_21 : ∀ o, W21.cell? ⟨kZ, o, none⟩ = #[Value.int IntKind.i64 a1, Value.int IntKind.i64 a2, Value.int IntKind.i64 a3, Value.int IntKind.i64 a4][o]? := fun o => by rw [hW21, alloc_cell, if_neg (by omega)]; exact cZ_20 o
    have cZM_21 : ∀ o, W21.cell? ⟨kZM, o, none⟩ = #[Value.int IntKind.i64 a1, Value.int IntKind.i64 a2, Value.int IntKind.i64 a3, Value.int IntKind.i64 a4][o]? := fun o => by rw [hW21, alloc_cell, if_neg (by omega)]; exact cZM_20 o
    have cN_21 : ∀ o, W21.cell? ⟨kN, o, none⟩ = #[Value.int IntKind.i64 m1, Value.int IntKind.i64 m2, Value.int IntKind.i64 n3, Value.int IntKind.i64 m4][o]? := fun o => by rw [hW21, alloc_cell, if_neg (by omega)]; exact cN_20 o
    have cM_21 : ∀ o, W21.cell? ⟨kM, o, none⟩ = #[Value.int IntKind.i64 m1, Value.int IntKind.i64 m2, Value.int IntKind.i64 m3, Value.int IntKind.i64 m4][o]? := fun o => by rw [hW21, alloc_cell, if_neg (by omega)]; exact cM_20 o
    have cMM_21 : ∀ o, W21.cell? ⟨kMM, o, none⟩ = #[Value.int IntKind.i64 m1, Value.int IntKind.i64 m2, Value.int IntKind.i64 m3, Value.int IntKind.i64 m4][o]? := fun o => by rw [hW21, alloc_cell, if_neg (by omega)]; exact cMM_20 o
    have cP_21 : ∀ o, W21.cell? ⟨kP, o, none⟩ = #[Value.int IntKind.i64 p1, Value.int IntKind.i64 p2, Value.int IntKind.i64 p3, Value.int IntKind.i64 p4][o]? := fun o => by rw [hW21, alloc_cell, if_neg (by omega)]; exact cP_20 o
    have cQ_21 : ∀ o, W21.cell? ⟨kQ, o, none⟩ = #[Value.int IntKind.i64 q1, Value.int IntKind.i64 q2, Value.int IntKind.i64 q3, Value.int IntKind.i64 q4][o]? := fun o => by rw [hW21, alloc_cell, if_neg (by omega)]; exact cQ_20 o
    have cZR_21 : ∀ o, W21.cell? ⟨kZR, o, none⟩ = #[Value.int IntKind.i64 m1, Value.int IntKind.i64 (m2 + m4), Value.int IntKind.i64 0, Value.int IntKind.i64 0][o]? := fun o => by rw [hW21, alloc_cell, if_pos hkZR]
    have hG_21 : Hid (Ext w.heap.size w W21) := hid (by rw [hW21]; exact hG_20.out.alloc _)
    have l_21 : W21.heap.size = kZR + 1 := by rw [hW21]; simp; omega
    have qZR : kQ < kZR := by omega
    rw [← hW21, ← hkZR]
    clear hW21 cX_20 cY_20 cZ_20 cZM_20 cN_20 cM_20 cMM_20 cP_20 cQ_20 l_20 hG_20 hkZR
    refine via (i_EndOf _ _ _ _ _ HN.out) ?_
    intro u12 z12
    clear z12
    obtain ⟨W22, hW22⟩ : ∃ X, X = aft W21 u12 := ⟨_, rfl⟩
    have cX_22 : ∀ o, W22.cell? ⟨kX, o, none⟩ = #[Value.int IntKind.i64 x1, Value.int IntKind.i64 x2, Value.int IntKind.i64 x3, Value.int IntKind.i64 x4][o]? := fun o => by rw [hW22, aft_cell, if_pos (by omega)]; exact cX_21 o
    have cY_22 : ∀ o, W22.cell? ⟨kY, o, none⟩ = #[Value.int IntKind.i64 y1, Value.int IntKind.i64 y2, Value.int IntKind.i64 y3, Value.int IntKind.i64 y4][o]? := fun o => by rw [hW22, aft_cell, if_pos (by omega)]; exact cY_21 o
    have cZ_22 : ∀ o, W22.cell? ⟨kZ, o, none⟩ = #[Value.int IntKind.i64 a1, Value.int IntKind.i64 a2, Value.int IntKind.i64 a3, Value.int IntKind.i64 a4][o]? := fun o => by rw [hW22, aft_cell, if_pos (by omega)]; exact cZ_21 o
    have cZM_22 : ∀ o, W22.cell? ⟨kZM, o, none⟩ = #[Value.int IntKind.i64 a1, Value.int IntKind.i64 a2, Value.int IntKind.i64 a3, Value.int IntKind.i64 a4][o]? := fun o => by rw [hW22, aft_cell, if_pos (by omega)]; exact cZM_21 o
    have cN_22 : ∀ o, W22.cell? ⟨kN, o, none⟩ = #[Value.int IntKind.i64 m1, Value.int IntKind.i64 m2, Value.int IntKind.i64 n3, Value.int IntKind.i64 m4][o]? := fun o => by rw [hW22, aft_cell, if_pos (by omega)]; exact cN_21 o
    have cM_22 : ∀ o, W22.cell? ⟨kM, o, none⟩ = #[Value.int IntKind.i64 m1, Value.int IntKind.i64 m2, Value.int IntKind.i64 m3, Value.int IntKind.i64 m4][o]? := fun o => by rw [hW22, aft_cell, if_pos (by omega)]; exact cM_21 o
    have cMM_22 : ∀ o, W22.cell? ⟨kMM, o, none⟩ = #[Value.int IntKind.i64 m1, Value.int IntKind.i64 m2, Value.int IntKind.i64 m3, Value.int IntKind.i64 m4][o]? := fun o => by rw [hW22, aft_cell, if_pos (by omega)]; exact cMM_21 o
    have cP_22 : ∀ o, W22.cell? ⟨kP, o, none⟩ = #[Value.int IntKind.i64 p1, Value.int IntKind.i64 p2, Value.int IntKind.i64 p3, Value.int IntKind.i64 p4][o]? := fun o => by rw [hW22, aft_cell, if_pos (by omega)]; exact cP_21 o
    have cQ_22 : ∀ o, W22.cell? ⟨kQ, o, none⟩ = #[Value.int IntKind.i64 q1, Value.int IntKind.i64 q2, Value.int IntKind.i64 q3, Value.int IntKind.i64 q4][o]? := fun o => by rw [hW22, aft_cell, if_pos (by omega)]; exact cQ_21 o
    have cZR_22 : ∀ o, W22.cell? ⟨kZR, o, none⟩ = #[Value.int IntKind.i64 m1, Value.int IntKind.i64 (m2 + m4), Value.int IntKind.i64 0, Value.int IntKind.i64 0][o]? := fun o => by rw [hW22, aft_cell, if_pos (by omega)]; exact cZR_21 o
    have hG_22 : Hid (Ext w.heap.size w W22) := hid (by rw [hW22]; exact hG_21.out.aft _)
    have l_22 : kZR + 1 ≤ W22.heap.size := by rw [hW22]; have := size_aft W21 u12; omega
    rw [← hW22]
    clear hW22 cX_21 cY_21 cZ_21 cZM_21 cN_21 cM_21 cMM_21 cP_21 cQ_21 cZR_21 l_21 hG_21
    by_cases h5 : a5 = 0
    case neg =>
      have h5' : (a5 == 0) = false := by simpa using h5
      clear h5
      go_wp2_with fail
      go_ret
      exact ⟨rfl, Ext.bel hG_22.out⟩
    subst h5
    obtain ⟨g1, g2, g3, g4, g5⟩ := HA.out rfl
    have BI : Hid (∀ W : World, Calls Try.prog 18 #[.agg #[.int .i64 y1, .int .i64 y2, .int .i64 y3, .int .i64 y4], .agg #[.int .i64 x1, .int .i64 x2, .int .i64 x3, .int .i64 x4]] W fun e w' => e = .returned (.tuple #[.agg #[.int .i64 a1, .int .i64 a2, .int .i64 a3, .int .i64 a4], .int .i64 0]) ∧ Below W.heap.size W w') := hid fun W => by have := i_AddPadics y1 y2 y3 y4 x1 x2 x3 x4 W; rw [g5] at this; exact this
    have G1 := hid g1
    have G2 := hid g2
    have G3 := hid g3
    have f1 := (padic_facts g1)
    have f2 := (padic_facts g2)
    have b1 : -100 ≤ x2 + x4 ∧ x2 + x4 ≤ 100 := by omega
    have b2 : -100 ≤ y2 + y4 ∧ y2 + y4 ≤ 100 := by omega
    clear f1 f2 g1 g2 g3 g5
    go_wp2_with fail
    refine via (BI.out _) ?_
    intro u20 zu20
    (try simp at zu20)
    go_wp2_with fail
    clear zu20
    obtain ⟨W23, hW23⟩ : ∃ X, X = aft W22 u20 := ⟨_, rfl⟩
    have cX_23 : ∀ o, W23.cell? ⟨kX, o, none⟩ = #[Value.int IntKind.i64 x1, Value.int IntKind.i64 x2, Value.int IntKind.i64 x3, Value.int IntKind.i64 x4][o]? := fun o => by rw [hW23, aft_cell, if_pos (by omega)]; exact cX_22 o
    have cY_23 : ∀ o, W23.cell? ⟨kY, o, none⟩ = #[Value.int IntKind.i64 y1, Value.int IntKind.i64 y2, Value.int IntKind.i64 y3, Value.int IntKind.i64 y4][o]? := fun o => by rw [hW23, aft_cell, if_pos (by omega)]; exact cY_22 o
    have cZ_23 : ∀ o, W23.cell? ⟨kZ, o, none⟩ = #[Value.int IntKind.i64 a1, Value.int IntKind.i64 a2, Value.int IntKind.i64 a3, Value.int IntKind.i64 a4][o]? := fun o => by rw [hW23, aft_cell, if_pos (by omega)]; exact cZ_22 o
    have cZM_23 : ∀ o, W23.cell? ⟨kZM, o, none⟩ = #[Value.int IntKind.i64 a1, Value.int IntKind.i64 a2, Value.int IntKind.i64 a3, Value.int IntKind.i64 a4][o]? := fun o => by rw [hW23, aft_cell, if_pos (by omega)]; exact cZM_22 o
    have cN_23 : ∀ o, W23.cell? ⟨kN, o, none⟩ = #[Value.int IntKind.i64 m1, Value.int IntKind.i64 m2, Value.int IntKind.i64 n3, Value.int IntKind.i64 m4][o]? := fun o => by rw [hW23, aft_cell, if_pos (by omega)]; exact cN_22 o
    have cM_23 : ∀ o, W23.cell? ⟨kM, o, none⟩ = #[Value.int IntKind.i64 m1, Value.int IntKind.i64 m2, Value.int IntKind.i64 m3, Value.int IntKind.i64 m4][o]? := fun o => by rw [hW23, aft_cell, if_pos (by omega)]; exact cM_22 o
    have cMM_23 : ∀ o, W23.cell? ⟨kMM, o, none⟩ = #[Value.int IntKind.i64 m1, Value.int IntKind.i64 m2, Value.int IntKind.i64 m3, Value.int IntKind.i64 m4][o]? := fun o => by rw [hW23, aft_cell, if_pos (by omega)]; exact cMM_22 o
    have cP_23 : ∀ o, W23.cell? ⟨kP, o, none⟩ = #[Value.int IntKind.i64 p1, Value.int IntKind.i64 p2, Value.int IntKind.i64 p3, Value.int IntKind.i64 p4][o]? := fun o => by rw [hW23, aft_cell, if_pos (by omega)]; exact cP_22 o
    have cQ_23 : ∀ o, W23.cell? ⟨kQ, o, none⟩ = #[Value.int IntKind.i64 q1, Value.int IntKind.i64 q2, Value.int IntKind.i64 q3, Value.int IntKind.i64 q4][o]? := fun o => by rw [hW23, aft_cell, if_pos (by omega)]; exact cQ_22 o
    have cZR_23 : ∀ o, W23.cell? ⟨kZR, o, none⟩ = #[Value.int IntKind.i64 m1, Value.int IntKind.i64 (m2 + m4), Value.int IntKind.i64 0, Value.int IntKind.i64 0][o]? := fun o => by rw [hW23, aft_cell, if_pos (by omega)]; exact cZR_22 o
    have hG_23 : Hid (Ext w.heap.size w W23) := hid (by rw [hW23]; exact hG_22.out.aft _)
    have l_23 : kZR + 1 ≤ W23.heap.size := by rw [hW23]; have := size_aft W22 u20; omega
    rw [← hW23]
    clear hW23 cX_22 cY_22 cZ_22 cZM_22 cN_22 cM_22 cMM_22 cP_22 cQ_22 cZR_22 l_22 hG_22
    obtain ⟨kBK, hkBK⟩ : ∃ k, k = W23.heap.size := ⟨_, rfl⟩
    obtain ⟨W24, hW24⟩ : ∃ X, X = W23.alloc (Obj.cells #[Value.int IntKind.i64 a1, Value.int IntKind.i64 a2, Value.int IntKind.i64 a3, Value.int IntKind.i64 a4] 27) := ⟨_, rfl⟩
    have cX_24 : ∀ o, W24.cell? ⟨kX, o, none⟩ = #[Value.int IntKind.i64 x1, Value.int IntKind.i64 x2, Value.int IntKind.i64 x3, Value.int IntKind.i64 x4][o]? := fun o => by rw [hW24, alloc_cell, if_neg (by omega)]; exact cX_23 o
    have cY_24 : ∀ o, W24.cell? ⟨kY, o, none⟩ = #[Value.int IntKind.i64 y1, Value.int IntKind.i64 y2, Value.int IntKind.i64 y3, Value.int IntKind.i64 y4][o]? := fun o => by rw [hW24, alloc_cell, if_neg (by omega)]; exact cY_23 o
    have cZ_24 : ∀ o, W24.cell? ⟨kZ, o, none⟩ = #[Value.int IntKind.i64 a1, Value.int IntKind.i64 a2, Value.int IntKind.i64 a3, Value.int IntKind.i64 a4][o]? := fun o => by rw [hW24, alloc_cell, if_neg (by omega)]; exact cZ_23 o
    have cZM_24 : ∀ o, W24.cell? ⟨kZM, o, none⟩ = #[Value.int IntKind.i64 a1, Value.int IntKind.i64 a2, Value.int IntKind.i64 a3, Value.int IntKind.i64 a4][o]? := fun o => by rw [hW24, alloc_cell, if_neg (by omega)]; exact cZM_23 o
    have cN_24 : ∀ o, W24.cell? ⟨kN, o, none⟩ = #[Value.int IntKind.i64 m1, Value.int IntKind.i64 m2, Value.int IntKind.i64 n3, Value.int IntKind.i64 m4][o]? := fun o => by rw [hW24, alloc_cell, if_neg (by omega)]; exact cN_23 o
    have cM_24 : ∀ o, W24.cell? ⟨kM, o, none⟩ = #[Value.int IntKind.i64 m1, Value.int IntKind.i64 m2, Value.int IntKind.i64 m3, Value.int IntKind.i64 m4][o]? := fun o => by rw [hW24, alloc_cell, if_neg (by omega)]; exact cM_23 o
    have cMM_24 : ∀ o, W24.cell? ⟨kMM, o, none⟩ = #[Value.int IntKind.i64 m1, Value.int IntKind.i64 m2, Value.int IntKind.i64 m3, Value.int IntKind.i64 m4][o]? := fun o => by rw [hW24, alloc_cell, if_neg (by omega)]; exact cMM_23 o
    have cP_24 : ∀ o, W24.cell? ⟨kP, o, none⟩ = #[Value.int IntKind.i64 p1, Value.int IntKind.i64 p2, Value.int IntKind.i64 p3, Value.int IntKind.i64 p4][o]? := fun o => by rw [hW24, alloc_cell, if_neg (by omega)]; exact cP_23 o
    have cQ_24 : ∀ o, W24.cell? ⟨kQ, o, none⟩ = #[Value.int IntKind.i64 q1, Value.int IntKind.i64 q2, Value.int IntKind.i64 q3, Value.int IntKind.i64 q4][o]? := fun o => by rw [hW24, alloc_cell, if_neg (by omega)]; exact cQ_23 o
    have cZR_24 : ∀ o, W24.cell? ⟨kZR, o, none⟩ = #[Value.int IntKind.i64 m1, Value.int IntKind.i64 (m2 + m4), Value.int IntKind.i64 0, Value.int IntKind.i64 0][o]? := fun o => by rw [hW24, alloc_cell, if_neg (by omega)]; exact cZR_23 o
    have cBK_24 : ∀ o, W24.cell? ⟨kBK, o, none⟩ = #[Value.int IntKind.i64 a1, Value.int IntKind.i64 a2, Value.int IntKind.i64 a3, Value.int IntKind.i64 a4][o]? := fun o => by rw [hW24, alloc_cell, if_pos hkBK]
    have hG_24 : Hid (Ext w.heap.size w W24) := hid (by rw [hW24]; exact hG_23.out.alloc _)
    have l_24 : W24.heap.size = kBK + 1 := by rw [hW24]; simp; omega
    have qBK : kZR < kBK := by omega
    rw [← hW24, ← hkBK]
    clear hW24 cX_23 cY_23 cZ_23 cZM_23 cN_23 cM_23 cMM_23 cP_23 cQ_23 cZR_23 l_23 hG_23 hkBK
    refine via (i_EndOf _ _ _ _ _ G1.out) ?_
    intro u21 zu21
    (try simp at zu21)
    go_wp2_with fail
    clear zu21
    obtain ⟨W25, hW25⟩ : ∃ X, X = aft W24 u21 := ⟨_, rfl⟩
    have cX_25 : ∀ o, W25.cell? ⟨kX, o, none⟩ = #[Value.int IntKind.i64 x1, Value.int IntKind.i64 x2, Value.int IntKind.i64 x3, Value.int IntKind.i64 x4][o]? := fun o => by rw [hW25, aft_cell, if_pos (by omega)]; exact cX_24 o
    have cY_25 : ∀ o, W25.cell? ⟨kY, o, none⟩ = #[Value.int IntKind.i64 y1, Value.int IntKind.i64 y2, Value.int IntKind.i64 y3, Value.int IntKind.i64 y4][o]? := fun o => by rw [hW25, aft_cell, if_pos (by omega)]; exact cY_24 o
    have cZ_25 : ∀ o, W25.cell? ⟨kZ, o, none⟩ = #[Value.int IntKind.i64 a1, Value.int IntKind.i64 a2, Value.int IntKind.i64 a3, Value.int IntKind.i64 a4][o]? := fun o => by rw [hW25, aft_cell, if_pos (by omega)]; exact cZ_24 o
    have cZM_25 : ∀ o, W25.cell? ⟨kZM, o, none⟩ = #[Value.int IntKind.i64 a1, Value.int IntKind.i64 a2, Value.int IntKind.i64 a3, Value.int IntKind.i64 a4][o]? := fun o => by rw [hW25, aft_cell, if_pos (by omega)]; exact cZM_24 o
    have cN_25 : ∀ o, W25.cell? ⟨kN, o, none⟩ = #[Value.int IntKind.i64 m1, Value.int IntKind.i64 m2, Value.int IntKind.i64 n3, Value.int IntKind.i64 m4][o]? := fun o => by rw [hW25, aft_cell, if_pos (by omega)]; exact cN_24 o
    have cM_25 : ∀ o, W25.cell? ⟨kM, o, none⟩ = #[Value.int IntKind.i64 m1, Value.int IntKind.i64 m2, Value.int IntKind.i64 m3, Value.int IntKind.i64 m4][o]? := fun o => by rw [hW25, aft_cell, if_pos (by omega)]; exact cM_24 o
    have cMM_25 : ∀ o, W25.cell? ⟨kMM, o, none⟩ = #[Value.int IntKind.i64 m1, Value.int IntKind.i64 m2, Value.int IntKind.i64 m3, Value.int IntKind.i64 m4][o]? := fun o => by rw [hW25, aft_cell, if_pos (by omega)]; exact cMM_24 o
    have cP_25 : ∀ o, W25.cell? ⟨kP, o, none⟩ = #[Value.int IntKind.i64 p1, Value.int IntKind.i64 p2, Value.int IntKind.i64 p3, Value.int IntKind.i64 p4][o]? := fun o => by rw [hW25, aft_cell, if_pos (by omega)]; exact cP_24 o
    have cQ_25 : ∀ o, W25.cell? ⟨kQ, o, none⟩ = #[Value.int IntKind.i64 q1, Value.int IntKind.i64 q2, Value.int IntKind.i64 q3, Value.int IntKind.i64 q4][o]? := fun o => by rw [hW25, aft_cell, if_pos (by omega)]; exact cQ_24 o
    have cZR_25 : ∀ o, W25.cell? ⟨kZR, o, none⟩ = #[Value.int IntKind.i64 m1, Value.int IntKind.i64 (m2 + m4), Value.int IntKind.i64 0, Value.int IntKind.i64 0][o]? := fun o => by rw [hW25, aft_cell, if_pos (by omega)]; exact cZR_24 o
    have cBK_25 : ∀ o, W25.cell? ⟨kBK, o, none⟩ = #[Value.int IntKind.i64 a1, Value.int IntKind.i64 a2, Value.int IntKind.i64 a3, Value.int IntKind.i64 a4][o]? := fun o => by rw [hW25, aft_cell, if_pos (by omega)]; exact cBK_24 o
    have hG_25 : Hid (Ext w.heap.size w W25) := hid (by rw [hW25]; exact hG_24.out.aft _)
    have l_25 : kBK + 1 ≤ W25.heap.size := by rw [hW25]; have := size_aft W24 u21; omega
    rw [← hW25]
    clear hW25 cX_24 cY_24 cZ_24 cZM_24 cN_24 cM_24 cMM_24 cP_24 cQ_24 cZR_24 cBK_24 l_24 hG_24
    refine via (i_EndOf _ _ _ _ _ G2.out) ?_
    intro u22 zu22
    (try simp at zu22)
    go_wp2_with fail
    clear zu22
    obtain ⟨W26, hW26⟩ : ∃ X, X = aft W25 u22 := ⟨_, rfl⟩
    have cX_26 : ∀ o, W26.cell? ⟨kX, o, none⟩ = #[Value.int IntKind.i64 x1, Value.int IntKind.i64 x2, Value.int IntKind.i64 x3, Value.int IntKind.i64 x4][o]? := fun o => by rw [hW26, aft_cell, if_pos (by omega)]; exact cX_25 o
    have cY_26 : ∀ o, W26.cell? ⟨kY, o, none⟩ = #[Value.int IntKind.i64 y1, Value.int IntKind.i64 y2, Value.int IntKind.i64 y3, Value.int IntKind.i64 y4][o]? := fun o => by rw [hW26, aft_cell, if_pos (by omega)]; exact cY_25 o
    have cZ_26 : ∀ o, W26.cell? ⟨kZ, o, none⟩ = #[Value.int IntKind.i64 a1, Value.int IntKind.i64 a2, Value.int IntKind.i64 a3, Value.int IntKind.i64 a4][o]? := fun o => by rw [hW26, aft_cell, if_pos (by omega)]; exact cZ_25 o
    have cZM_26 : ∀ o, W26.cell? ⟨kZM, o, none⟩ = #[Value.int IntKind.i64 a1, Value.int IntKind.i64 a2, Value.int IntKind.i64 a3, Value.int IntKind.i64 a4][o]? := fun o => by rw [hW26, aft_cell, if_pos (by omega)]; exact cZM_25 o
    have cN_26 : ∀ o, W26.cell? ⟨kN, o, none⟩ = #[Value.int IntKind.i64 m1, Value.int IntKind.i64 m2, Value.int IntKind.i64 n3, Value.int IntKind.i64 m4][o]? := fun o => by rw [hW26, aft_cell, if_pos (by omega)]; exact cN_25 o
    have cM_26 : ∀ o, W26.cell? ⟨kM, o, none⟩ = #[Value.int IntKind.i64 m1, Value.int IntKind.i64 m2, Value.int IntKind.i64 m3, Value.int IntKind.i64 m4][o]? := fun o => by rw [hW26, aft_cell, if_pos (by omega)]; exact cM_25 o
    have cMM_26 : ∀ o, W26.cell? ⟨kMM, o, none⟩ = #[Value.int IntKind.i64 m1, Value.int IntKind.i64 m2, Value.int IntKind.i64 m3, Value.int IntKind.i64 m4][o]? := fun o => by rw [hW26, aft_cell, if_pos (by omega)]; exact cMM_25 o
    have cP_26 : ∀ o, W26.cell? ⟨kP, o, none⟩ = #[Value.int IntKind.i64 p1, Value.int IntKind.i64 p2, Value.int IntKind.i64 p3, Value.int IntKind.i64 p4][o]? := fun o => by rw [hW26, aft_cell, if_pos (by omega)]; exact cP_25 o
    have cQ_26 : ∀ o, W26.cell? ⟨kQ, o, none⟩ = #[Value.int IntKind.i64 q1, Value.int IntKind.i64 q2, Value.int IntKind.i64 q3, Value.int IntKind.i64 q4][o]? := fun o => by rw [hW26, aft_cell, if_pos (by omega)]; exact cQ_25 o
    have cZR_26 : ∀ o, W26.cell? ⟨kZR, o, none⟩ = #[Value.int IntKind.i64 m1, Value.int IntKind.i64 (m2 + m4), Value.int IntKind.i64 0, Value.int IntKind.i64 0][o]? := fun o => by rw [hW26, aft_cell, if_pos (by omega)]; exact cZR_25 o
    have cBK_26 : ∀ o, W26.cell? ⟨kBK, o, none⟩ = #[Value.int IntKind.i64 a1, Value.int IntKind.i64 a2, Value.int IntKind.i64 a3, Value.int IntKind.i64 a4][o]? := fun o => by rw [hW26, aft_cell, if_pos (by omega)]; exact cBK_25 o
    have hG_26 : Hid (Ext w.heap.size w W26) := hid (by rw [hW26]; exact hG_25.out.aft _)
    have l_26 : kBK + 1 ≤ W26.heap.size := by rw [hW26]; have := size_aft W25 u22; omega
    rw [← hW26]
    clear hW26 cX_25 cY_25 cZ_25 cZM_25 cN_25 cM_25 cMM_25 cP_25 cQ_25 cZR_25 cBK_25 l_25 hG_25
    refine via (i_EndOf _ _ _ _ _ G3.out) ?_
    intro u23 z23
    (try simp at z23)
    by_cases hm : x2 + x4 ≤ y2 + y4
    · rw [Int.min_eq_left hm] at g4
      rw [g4]
      by_cases hm2 : x2 + x4 < y2 + y4
      · go_wp2_with fail
        go_ret
        exact ⟨by simp, Ext.bel (hG_26.out.aft _)⟩
      · have hm3 : y2 + y4 = x2 + x4 := by omega
        rw [hm3]
        go_wp2_with fail
        go_ret
        exact ⟨by simp, Ext.bel (hG_26.out.aft _)⟩
    · rw [Int.min_eq_right (by omega)] at g4
      rw [g4]
      have hm2 : y2 + y4 < x2 + x4 := by omega
      go_wp2_with fail
      go_ret
      exact ⟨by simp, Ext.bel (hG_26.out.aft _)⟩
  case inr =>
    have ZI : Hid (∀ W : World, Calls Try.prog 18 #[.agg #[.int .i64 m1, .int .i64 m2, .int .i64 n3, .int .i64 m4], .agg #[.int .i64 m1, .int .i64 m2, .int .i64 m3, .int .i64 m4]] W fun e w' => e = .returned (.tuple #[.agg #[.int .i64 0, .int .i64 0, .int .i64 0, .int .i64 0], .int .i64 3]) ∧ Below W.heap.size W w') := hid fun W => by have := i_AddPadics m1 m2 n3 m4 m1 m2 (ngF m1 n3 m4) m4 W; rw [HZ.out, h6] at this; rw [HM3.out]; exact this
    clear h6
    refine via (ZI.out _) ?_
    intro u11 zu11
    (try simp at zu11)
    go_wp2_with fail
    clear zu11
    obtain ⟨W20, hW20⟩ : ∃ X, X = aft W19 u11 := ⟨_, rfl⟩
    have cX_20 : ∀ o, W20.cell? ⟨kX, o, none⟩ = #[Value.int IntKind.i64 x1, Value.int IntKind.i64 x2, Value.int IntKind.i64 x3, Value.int IntKind.i64 x4][o]? := fun o => by rw [hW20, aft_cell, if_pos (by omega)]; exact cX_19 o
    have cY_20 : ∀ o, W20.cell? ⟨kY, o, none⟩ = #[Value.int IntKind.i64 y1, Value.int IntKind.i64 y2, Value.int IntKind.i64 y3, Value.int IntKind.i64 y4][o]? := fun o => by rw [hW20, aft_cell, if_pos (by omega)]; exact cY_19 o
    have cZ_20 : ∀ o, W20.cell? ⟨kZ, o, none⟩ = #[Value.int IntKind.i64 a1, Value.int IntKind.i64 a2, Value.int IntKind.i64 a3, Value.int IntKind.i64 a4][o]? := fun o => by rw [hW20, aft_cell, if_pos (by omega)]; exact cZ_19 o
    have cZM_20 : ∀ o, W20.cell? ⟨kZM, o, none⟩ = #[Value.int IntKind.i64 a1, Value.int IntKind.i64 a2, Value.int IntKind.i64 a3, Value.int IntKind.i64 a4][o]? := fun o => by rw [hW20, aft_cell, if_pos (by omega)]; exact cZM_19 o
    have cN_20 : ∀ o, W20.cell? ⟨kN, o, none⟩ = #[Value.int IntKind.i64 m1, Value.int IntKind.i64 m2, Value.int IntKind.i64 n3, Value.int IntKind.i64 m4][o]? := fun o => by rw [hW20, aft_cell, if_pos (by omega)]; exact cN_19 o
    have cM_20 : ∀ o, W20.cell? ⟨kM, o, none⟩ = #[Value.int IntKind.i64 m1, Value.int IntKind.i64 m2, Value.int IntKind.i64 m3, Value.int IntKind.i64 m4][o]? := fun o => by rw [hW20, aft_cell, if_pos (by omega)]; exact cM_19 o
    have cMM_20 : ∀ o, W20.cell? ⟨kMM, o, none⟩ = #[Value.int IntKind.i64 m1, Value.int IntKind.i64 m2, Value.int IntKind.i64 m3, Value.int IntKind.i64 m4][o]? := fun o => by rw [hW20, aft_cell, if_pos (by omega)]; exact cMM_19 o
    have cP_20 : ∀ o, W20.cell? ⟨kP, o, none⟩ = #[Value.int IntKind.i64 p1, Value.int IntKind.i64 p2, Value.int IntKind.i64 p3, Value.int IntKind.i64 p4][o]? := fun o => by rw [hW20, aft_cell, if_pos (by omega)]; exact cP_19 o
    have cQ_20 : ∀ o, W20.cell? ⟨kQ, o, none⟩ = #[Value.int IntKind.i64 q1, Value.int IntKind.i64 q2, Value.int IntKind.i64 q3, Value.int IntKind.i64 q4][o]? := fun o => by rw [hW20, aft_cell, if_pos (by omega)]; exact cQ_19 o
    have hG_20 : Hid (Ext w.heap.size w W20) := hid (by rw [hW20]; exact hG_19.out.aft _)
    have l_20 : kQ + 1 ≤ W20.heap.size := by rw [hW20]; have := size_aft W19 u11; omega
    rw [← hW20]
    clear hW20 cX_19 cY_19 cZ_19 cZM_19 cN_19 cM_19 cMM_19 cP_19 cQ_19 l_19 hG_19
    obtain ⟨kZR, hkZR⟩ : ∃ k, k = W20.heap.size := ⟨_, rfl⟩
    obtain ⟨W21, hW21⟩ : ∃ X, X = W20.alloc (Obj.cells #[Value.int IntKind.i64 0, Value.int IntKind.i64 0, Value.int IntKind.i64 0, Value.int IntKind.i64 0] 27) := ⟨_, rfl⟩
    have cX_21 : ∀ o, W21.cell? ⟨kX, o, none⟩ = #[Value.int IntKind.i64 x1, Value.int IntKind.i64 x2, Value.int IntKind.i64 x3, Value.int IntKind.i64 x4][o]? := fun o => by rw [hW21, alloc_cell, if_neg (by omega)]; exact cX_20 o
    have cY_21 : ∀ o, W21.cell? ⟨kY, o, none⟩ = #[Value.int IntKind.i64 y1, Value.int IntKind.i64 y2, Value.int IntKind.i64 y3, Value.int IntKind.i64 y4][o]? := fun o => by rw [hW21, alloc_cell, if_neg (by omega)]; exact cY_20 o
    have cZ_21 : ∀ o, W21.cell? ⟨kZ, o, none⟩ = #[Value.int IntKind.i64 a1, Value.int IntKind.i64 a2, Value.int IntKind.i64 a3, Value.int IntKind.i64 a4][o]? := fun o => by rw [hW21, alloc_cell, if_neg (by omega)]; exact cZ_20 o
    have cZM_21 : ∀ o, W21.cell? ⟨kZM, o, none⟩ = #[Value.int IntKind.i64 a1, Value.int IntKind.i64 a2, Value.int IntKind.i64 a3, Value.int IntKind.i64 a4][o]? := fun o => by rw [hW21, alloc_cell, if_neg (by omega)]; exact cZM_20 o
    have cN_21 : ∀ o, W21.cell? ⟨kN, o, none⟩ = #[Value.int IntKind.i64 m1, Value.int IntKind.i64 m2, Value.int IntKind.i64 n3, Value.int IntKind.i64 m4][o]? := fun o => by rw [hW21, alloc_cell, if_neg (by omega)]; exact cN_20 o
    have cM_21 : ∀ o, W21.cell? ⟨kM, o, none⟩ = #[Value.int IntKind.i64 m1, Value.int IntKind.i64 m2, Value.int IntKind.i64 m3, Value.int IntKind.i64 m4][o]? := fun o => by rw [hW21, alloc_cell, if_neg (by omega)]; exact cM_20 o
    have cMM_21 : ∀ o, W21.cell? ⟨kMM, o, none⟩ = #[Value.int IntKind.i64 m1, Value.int IntKind.i64 m2, Value.int IntKind.i64 m3, Value.int IntKind.i64 m4][o]? := fun o => by rw [hW21, alloc_cell, if_neg (by omega)]; exact cMM_20 o
    have cP_21 : ∀ o, W21.cell? ⟨kP, o, none⟩ = #[Value.int IntKind.i64 p1, Value.int IntKind.i64 p2, Value.int IntKind.i64 p3, Value.int IntKind.i64 p4][o]? := fun o => by rw [hW21, alloc_cell, if_neg (by omega)]; exact cP_20 o
    have cQ_21 : ∀ o, W21.cell? ⟨kQ, o, none⟩ = #[Value.int IntKind.i64 q1, Value.int IntKind.i64 q2, Value.int IntKind.i64 q3, Value.int IntKind.i64 q4][o]? := fun o => by rw [hW21, alloc_cell, if_neg (by omega)]; exact cQ_20 o
    have cZR_21 : ∀ o, W21.cell? ⟨kZR, o, none⟩ = #[Value.int IntKind.i64 0, Value.int IntKind.i64 0, Value.int IntKind.i64 0, Value.int IntKind.i64 0][o]? := fun o => by rw [hW21, alloc_cell, if_pos hkZR]
    have hG_21 : Hid (Ext w.heap.size w W21) := hid (by rw [hW21]; exact hG_20.out.alloc _)
    have l_21 : W21.heap.size = kZR + 1 := by rw [hW21]; simp; omega
    have qZR : kQ < kZR := by omega
    rw [← hW21, ← hkZR]
    clear hW21 cX_20 cY_20 cZ_20 cZM_20 cN_20 cM_20 cMM_20 cP_20 cQ_20 l_20 hG_20 hkZR
    refine via (i_EndOf _ _ _ _ _ HN.out) ?_
    intro u12 z12
    clear z12
    obtain ⟨W22, hW22⟩ : ∃ X, X = aft W21 u12 := ⟨_, rfl⟩
    have cX_22 : ∀ o, W22.cell? ⟨kX, o, none⟩ = #[Value.int IntKind.i64 x1, Value.int IntKind.i64 x2, Value.int IntKind.i64 x3, Value.int IntKind.i64 x4][o]? := fun o => by rw [hW22, aft_cell, if_pos (by omega)]; exact cX_21 o
    have cY_22 : ∀ o, W22.cell? ⟨kY, o, none⟩ = #[Value.int IntKind.i64 y1, Value.int IntKind.i64 y2, Value.int IntKind.i64 y3, Value.int IntKind.i64 y4][o]? := fun o => by rw [hW22, aft_cell, if_pos (by omega)]; exact cY_21 o
    have cZ_22 : ∀ o, W22.cell? ⟨kZ, o, none⟩ = #[Value.int IntKind.i64 a1, Value.int IntKind.i64 a2, Value.int IntKind.i64 a3, Value.int IntKind.i64 a4][o]? := fun o => by rw [hW22, aft_cell, if_pos (by omega)]; exact cZ_21 o
    have cZM_22 : ∀ o, W22.cell? ⟨kZM, o, none⟩ = #[Value.int IntKind.i64 a1, Value.int IntKind.i64 a2, Value.int IntKind.i64 a3, Value.int IntKind.i64 a4][o]? := fun o => by rw [hW22, aft_cell, if_pos (by omega)]; exact cZM_21 o
    have cN_22 : ∀ o, W22.cell? ⟨kN, o, none⟩ = #[Value.int IntKind.i64 m1, Value.int IntKind.i64 m2, Value.int IntKind.i64 n3, Value.int IntKind.i64 m4][o]? := fun o => by rw [hW22, aft_cell, if_pos (by omega)]; exact cN_21 o
    have cM_22 : ∀ o, W22.cell? ⟨kM, o, none⟩ = #[Value.int IntKind.i64 m1, Value.int IntKind.i64 m2, Value.int IntKind.i64 m3, Value.int IntKind.i64 m4][o]? := fun o => by rw [hW22, aft_cell, if_pos (by omega)]; exact cM_21 o
    have cMM_22 : ∀ o, W22.cell? ⟨kMM, o, none⟩ = #[Value.int IntKind.i64 m1, Value.int IntKind.i64 m2, Value.int IntKind.i64 m3, Value.int IntKind.i64 m4][o]? := fun o => by rw [hW22, aft_cell, if_pos (by omega)]; exact cMM_21 o
    have cP_22 : ∀ o, W22.cell? ⟨kP, o, none⟩ = #[Value.int IntKind.i64 p1, Value.int IntKind.i64 p2, Value.int IntKind.i64 p3, Value.int IntKind.i64 p4][o]? := fun o => by rw [hW22, aft_cell, if_pos (by omega)]; exact cP_21 o
    have cQ_22 : ∀ o, W22.cell? ⟨kQ, o, none⟩ = #[Value.int IntKind.i64 q1, Value.int IntKind.i64 q2, Value.int IntKind.i64 q3, Value.int IntKind.i64 q4][o]? := fun o => by rw [hW22, aft_cell, if_pos (by omega)]; exact cQ_21 o
    have cZR_22 : ∀ o, W22.cell? ⟨kZR, o, none⟩ = #[Value.int IntKind.i64 0, Value.int IntKind.i64 0, Value.int IntKind.i64 0, Value.int IntKind.i64 0][o]? := fun o => by rw [hW22, aft_cell, if_pos (by omega)]; exact cZR_21 o
    have hG_22 : Hid (Ext w.heap.size w W22) := hid (by rw [hW22]; exact hG_21.out.aft _)
    have l_22 : kZR + 1 ≤ W22.heap.size := by rw [hW22]; have := size_aft W21 u12; omega
    rw [← hW22]
    clear hW22 cX_21 cY_21 cZ_21 cZM_21 cN_21 cM_21 cMM_21 cP_21 cQ_21 cZR_21 l_21 hG_21
    by_cases h5 : a5 = 0
    case neg =>
      have h5' : (a5 == 0) = false := by simpa using h5
      clear h5
      go_wp2_with fail
      go_ret
      exact ⟨rfl, Ext.bel hG_22.out⟩
    subst h5
    obtain ⟨g1, g2, g3, g4, g5⟩ := HA.out rfl
    have BI : Hid (∀ W : World, Calls Try.prog 18 #[.agg #[.int .i64 y1, .int .i64 y2, .int .i64 y3, .int .i64 y4], .agg #[.int .i64 x1, .int .i64 x2, .int .i64 x3, .int .i64 x4]] W fun e w' => e = .returned (.tuple #[.agg #[.int .i64 a1, .int .i64 a2, .int .i64 a3, .int .i64 a4], .int .i64 0]) ∧ Below W.heap.size W w') := hid fun W => by have := i_AddPadics y1 y2 y3 y4 x1 x2 x3 x4 W; rw [g5] at this; exact this
    have G1 := hid g1
    have G2 := hid g2
    have G3 := hid g3
    have f1 := (padic_facts g1)
    have f2 := (padic_facts g2)
    have b1 : -100 ≤ x2 + x4 ∧ x2 + x4 ≤ 100 := by omega
    have b2 : -100 ≤ y2 + y4 ∧ y2 + y4 ≤ 100 := by omega
    clear f1 f2 g1 g2 g3 g5
    go_wp2_with fail
    refine via (BI.out _) ?_
    intro u20 zu20
    (try simp at zu20)
    go_wp2_with fail
    clear zu20
    obtain ⟨W23, hW23⟩ : ∃ X, X = aft W22 u20 := ⟨_, rfl⟩
    have cX_23 : ∀ o, W23.cell? ⟨kX, o, none⟩ = #[Value.int IntKind.i64 x1, Value.int IntKind.i64 x2, Value.int IntKind.i64 x3, Value.int IntKind.i64 x4][o]? := fun o => by rw [hW23, aft_cell, if_pos (by omega)]; exact cX_22 o
    have cY_23 : ∀ o, W23.cell? ⟨kY, o, none⟩ = #[Value.int IntKind.i64 y1, Value.int IntKind.i64 y2, Value.int IntKind.i64 y3, Value.int IntKind.i64 y4][o]? := fun o => by rw [hW23, aft_cell, if_pos (by omega)]; exact cY_22 o
    have cZ_23 : ∀ o, W23.cell? ⟨kZ, o, none⟩ = #[Value.int IntKind.i64 a1, Value.int IntKind.i64 a2, Value.int IntKind.i64 a3, Value.int IntKind.i64 a4][o]? := fun o => by rw [hW23, aft_cell, if_pos (by omega)]; exact cZ_22 o
    have cZM_23 : ∀ o, W23.cell? ⟨kZM, o, none⟩ = #[Value.int IntKind.i64 a1, Value.int IntKind.i64 a2, Value.int IntKind.i64 a3, Value.int IntKind.i64 a4][o]? := fun o => by rw [hW23, aft_cell, if_pos (by omega)]; exact cZM_22 o
    have cN_23 : ∀ o, W23.cell? ⟨kN, o, none⟩ = #[Value.int IntKind.i64 m1, Value.int IntKind.i64 m2, Value.int IntKind.i64 n3, Value.int IntKind.i64 m4][o]? := fun o => by rw [hW23, aft_cell, if_pos (by omega)]; exact cN_22 o
    have cM_23 : ∀ o, W23.cell? ⟨kM, o, none⟩ = #[Value.int IntKind.i64 m1, Value.int IntKind.i64 m2, Value.int IntKind.i64 m3, Value.int IntKind.i64 m4][o]? := fun o => by rw [hW23, aft_cell, if_pos (by omega)]; exact cM_22 o
    have cMM_23 : ∀ o, W23.cell? ⟨kMM, o, none⟩ = #[Value.int IntKind.i64 m1, Value.int IntKind.i64 m2, Value.int IntKind.i64 m3, Value.int IntKind.i64 m4][o]? := fun o => by rw [hW23, aft_cell, if_pos (by omega)]; exact cMM_22 o
    have cP_23 : ∀ o, W23.cell? ⟨kP, o, none⟩ = #[Value.int IntKind.i64 p1, Value.int IntKind.i64 p2, Value.int IntKind.i64 p3, Value.int IntKind.i64 p4][o]? := fun o => by rw [hW23, aft_cell, if_pos (by omega)]; exact cP_22 o
    have cQ_23 : ∀ o, W23.cell? ⟨kQ, o, none⟩ = #[Value.int IntKind.i64 q1, Value.int IntKind.i64 q2, Value.int IntKind.i64 q3, Value.int IntKind.i64 q4][o]? := fun o => by rw [hW23, aft_cell, if_pos (by omega)]; exact cQ_22 o
    have cZR_23 : ∀ o, W23.cell? ⟨kZR, o, none⟩ = #[Value.int IntKind.i64 0, Value.int IntKind.i64 0, Value.int IntKind.i64 0, Value.int IntKind.i64 0][o]? := fun o => by rw [hW23, aft_cell, if_pos (by omega)]; exact cZR_22 o
    have hG_23 : Hid (Ext w.heap.size w W23) := hid (by rw [hW23]; exact hG_22.out.aft _)
    have l_23 : kZR + 1 ≤ W23.heap.size := by rw [hW23]; have := size_aft W22 u20; omega
    rw [← hW23]
    clear hW23 cX_22 cY_22 cZ_22 cZM_22 cN_22 cM_22 cMM_22 cP_22 cQ_22 cZR_22 l_22 hG_22
    obtain ⟨kBK, hkBK⟩ : ∃ k, k = W23.heap.size := ⟨_, rfl⟩
    obtain ⟨W24, hW24⟩ : ∃ X, X = W23.alloc (Obj.cells #[Value.int IntKind.i64 a1, Value.int IntKind.i64 a2, Value.int IntKind.i64 a3, Value.int IntKind.i64 a4] 27) := ⟨_, rfl⟩
    have cX_24 : ∀ o, W24.cell? ⟨kX, o, none⟩ = #[Value.int IntKind.i64 x1, Value.int IntKind.i64 x2, Value.int IntKind.i64 x3, Value.int IntKind.i64 x4][o]? := fun o => by rw [hW24, alloc_cell, if_neg (by omega)]; exact cX_23 o
    have cY_24 : ∀ o, W24.cell? ⟨kY, o, none⟩ = #[Value.int IntKind.i64 y1, Value.int IntKind.i64 y2, Value.int IntKind.i64 y3, Value.int IntKind.i64 y4][o]? := fun o => by rw [hW24, alloc_cell, if_neg (by omega)]; exact cY_23 o
    have cZ_24 : ∀ o, W24.cell? ⟨kZ, o, none⟩ = #[Value.int IntKind.i64 a1, Value.int IntKind.i64 a2, Value.int IntKind.i64 a3, Value.int IntKind.i64 a4][o]? := fun o => by rw [hW24, alloc_cell, if_neg (by omega)]; exact cZ_23 o
    have cZM_24 : ∀ o, W24.cell? ⟨kZM, o, none⟩ = #[Value.int IntKind.i64 a1, Value.int IntKind.i64 a2, Value.int IntKind.i64 a3, Value.int IntKind.i64 a4][o]? := fun o => by rw [hW24, alloc_cell, if_neg (by omega)]; exact cZM_23 o
    have cN_24 : ∀ o, W24.cell? ⟨kN, o, none⟩ = #[Value.int IntKind.i64 m1, Value.int IntKind.i64 m2, Value.int IntKind.i64 n3, Value.int IntKind.i64 m4][o]? := fun o => by rw [hW24, alloc_cell, if_neg (by omega)]; exact cN_23 o
    have cM_24 : ∀ o, W24.cell? ⟨kM, o, none⟩ = #[Value.int IntKind.i64 m1, Value.int IntKind.i64 m2, Value.int IntKind.i64 m3, Value.int IntKind.i64 m4][o]? := fun o => by rw [hW24, alloc_cell, if_neg (by omega)]; exact cM_23 o
    have cMM_24 : ∀ o, W24.cell? ⟨kMM, o, none⟩ = #[Value.int IntKind.i64 m1, Value.int IntKind.i64 m2, Value.int IntKind.i64 m3, Value.int IntKind.i64 m4][o]? := fun o => by rw [hW24, alloc_cell, if_neg (by omega)]; exact cMM_23 o
    have cP_24 : ∀ o, W24.cell? ⟨kP, o, none⟩ = #[Value.int IntKind.i64 p1, Value.int IntKind.i64 p2, Value.int IntKind.i64 p3, Value.int IntKind.i64 p4][o]? := fun o => by rw [hW24, alloc_cell, if_neg (by omega)]; exact cP_23 o
    have cQ_24 : ∀ o, W24.cell? ⟨kQ, o, none⟩ = #[Value.int IntKind.i64 q1, Value.int IntKind.i64 q2, Value.int IntKind.i64 q3, Value.int IntKind.i64 q4][o]? := fun o => by rw [hW24, alloc_cell, if_neg (by omega)]; exact cQ_23 o
    have cZR_24 : ∀ o, W24.cell? ⟨kZR, o, none⟩ = #[Value.int IntKind.i64 0, Value.int IntKind.i64 0, Value.int IntKind.i64 0, Value.int IntKind.i64 0][o]? := fun o => by rw [hW24, alloc_cell, if_neg (by omega)]; exact cZR_23 o
    have cBK_24 : ∀ o, W24.cell? ⟨kBK, o, none⟩ = #[Value.int IntKind.i64 a1, Value.int IntKind.i64 a2, Value.int IntKind.i64 a3, Value.int IntKind.i64 a4][o]? := fun o => by rw [hW24, alloc_cell, if_pos hkBK]
    have hG_24 : Hid (Ext w.heap.size w W24) := hid (by rw [hW24]; exact hG_23.out.alloc _)
    have l_24 : W24.heap.size = kBK + 1 := by rw [hW24]; simp; omega
    have qBK : kZR < kBK := by omega
    rw [← hW24, ← hkBK]
    clear hW24 cX_23 cY_23 cZ_23 cZM_23 cN_23 cM_23 cMM_23 cP_23 cQ_23 cZR_23 l_23 hG_23 hkBK
    refine via (i_EndOf _ _ _ _ _ G1.out) ?_
    intro u21 zu21
    (try simp at zu21)
    go_wp2_with fail
    clear zu21
    obtain ⟨W25, hW25⟩ : ∃ X, X = aft W24 u21 := ⟨_, rfl⟩
    have cX_25 : ∀ o, W25.cell? ⟨kX, o, none⟩ = #[Value.int IntKind.i64 x1, Value.int IntKind.i64 x2, Value.int IntKind.i64 x3, Value.int IntKind.i64 x4][o]? := fun o => by rw [hW25, aft_cell, if_pos (by omega)]; exact cX_24 o
    have cY_25 : ∀ o, W25.cell? ⟨kY, o, none⟩ = #[Value.int IntKind.i64 y1, Value.int IntKind.i64 y2, Value.int IntKind.i64 y3, Value.int IntKind.i64 y4][o]? := fun o => by rw [hW25, aft_cell, if_pos (by omega)]; exact cY_24 o
    have cZ_25 : ∀ o, W25.cell? ⟨kZ, o, none⟩ = #[Value.int IntKind.i64 a1, Value.int IntKind.i64 a2, Value.int IntKind.i64 a3, Value.int IntKind.i64 a4][o]? := fun o => by rw [hW25, aft_cell, if_pos (by omega)]; exact cZ_24 o
    have cZM_25 : ∀ o, W25.cell? ⟨kZM, o, none⟩ = #[Value.int IntKind.i64 a1, Value.int IntKind.i64 a2, Value.int IntKind.i64 a3, Value.int IntKind.i64 a4][o]? := fun o => by rw [hW25, aft_cell, if_pos (by omega)]; exact cZM_24 o
    have cN_25 : ∀ o, W25.cell? ⟨kN, o, none⟩ = #[Value.int IntKind.i64 m1, Value.int IntKind.i64 m2, Value.int IntKind.i64 n3, Value.int IntKind.i64 m4][o]? := fun o => by rw [hW25, aft_cell, if_pos (by omega)]; exact cN_24 o
    have cM_25 : ∀ o, W25.cell? ⟨kM, o, none⟩ = #[Value.int IntKind.i64 m1, Value.int IntKind.i64 m2, Value.int IntKind.i64 m3, Value.int IntKind.i64 m4][o]? := fun o => by rw [hW25, aft_cell, if_pos (by omega)]; exact cM_24 o
    have cMM_25 : ∀ o, W25.cell? ⟨kMM, o, none⟩ = #[Value.int IntKind.i64 m1, Value.int IntKind.i64 m2, Value.int IntKind.i64 m3, Value.int IntKind.i64 m4][o]? := fun o => by rw [hW25, aft_cell, if_pos (by omega)]; exact cMM_24 o
    have cP_25 : ∀ o, W25.cell? ⟨kP, o, none⟩ = #[Value.int IntKind.i64 p1, Value.int IntKind.i64 p2, Value.int IntKind.i64 p3, Value.int IntKind.i64 p4][o]? := fun o => by rw [hW25, aft_cell, if_pos (by omega)]; exact cP_24 o
    have cQ_25 : ∀ o, W25.cell? ⟨kQ, o, none⟩ = #[Value.int IntKind.i64 q1, Value.int IntKind.i64 q2, Value.int IntKind.i64 q3, Value.int IntKind.i64 q4][o]? := fun o => by rw [hW25, aft_cell, if_pos (by omega)]; exact cQ_24 o
    have cZR_25 : ∀ o, W25.cell? ⟨kZR, o, none⟩ = #[Value.int IntKind.i64 0, Value.int IntKind.i64 0, Value.int IntKind.i64 0, Value.int IntKind.i64 0][o]? := fun o => by rw [hW25, aft_cell, if_pos (by omega)]; exact cZR_24 o
    have cBK_25 : ∀ o, W25.cell? ⟨kBK, o, none⟩ = #[Value.int IntKind.i64 a1, Value.int IntKind.i64 a2, Value.int IntKind.i64 a3, Value.int IntKind.i64 a4][o]? := fun o => by rw [hW25, aft_cell, if_pos (by omega)]; exact cBK_24 o
    have hG_25 : Hid (Ext w.heap.size w W25) := hid (by rw [hW25]; exact hG_24.out.aft _)
    have l_25 : kBK + 1 ≤ W25.heap.size := by rw [hW25]; have := size_aft W24 u21; omega
    rw [← hW25]
    clear hW25 cX_24 cY_24 cZ_24 cZM_24 cN_24 cM_24 cMM_24 cP_24 cQ_24 cZR_24 cBK_24 l_24 hG_24
    refine via (i_EndOf _ _ _ _ _ G2.out) ?_
    intro u22 zu22
    (try simp at zu22)
    go_wp2_with fail
    clear zu22
    obtain ⟨W26, hW26⟩ : ∃ X, X = aft W25 u22 := ⟨_, rfl⟩
    have cX_26 : ∀ o, W26.cell? ⟨kX, o, none⟩ = #[Value.int IntKind.i64 x1, Value.int IntKind.i64 x2, Value.int IntKind.i64 x3, Value.int IntKind.i64 x4][o]? := fun o => by rw [hW26, aft_cell, if_pos (by omega)]; exact cX_25 o
    have cY_26 : ∀ o, W26.cell? ⟨kY, o, none⟩ = #[Value.int IntKind.i64 y1, Value.int IntKind.i64 y2, Value.int IntKind.i64 y3, Value.int IntKind.i64 y4][o]? := fun o => by rw [hW26, aft_cell, if_pos (by omega)]; exact cY_25 o
    have cZ_26 : ∀ o, W26.cell? ⟨kZ, o, none⟩ = #[Value.int IntKind.i64 a1, Value.int IntKind.i64 a2, Value.int IntKind.i64 a3, Value.int IntKind.i64 a4][o]? := fun o => by rw [hW26, aft_cell, if_pos (by omega)]; exact cZ_25 o
    have cZM_26 : ∀ o, W26.cell? ⟨kZM, o, none⟩ = #[Value.int IntKind.i64 a1, Value.int IntKind.i64 a2, Value.int IntKind.i64 a3, Value.int IntKind.i64 a4][o]? := fun o => by rw [hW26, aft_cell, if_pos (by omega)]; exact cZM_25 o
    have cN_26 : ∀ o, W26.cell? ⟨kN, o, none⟩ = #[Value.int IntKind.i64 m1, Value.int IntKind.i64 m2, Value.int IntKind.i64 n3, Value.int IntKind.i64 m4][o]? := fun o => by rw [hW26, aft_cell, if_pos (by omega)]; exact cN_25 o
    have cM_26 : ∀ o, W26.cell? ⟨kM, o, none⟩ = #[Value.int IntKind.i64 m1, Value.int IntKind.i64 m2, Value.int IntKind.i64 m3, Value.int IntKind.i64 m4][o]? := fun o => by rw [hW26, aft_cell, if_pos (by omega)]; exact cM_25 o
    have cMM_26 : ∀ o, W26.cell? ⟨kMM, o, none⟩ = #[Value.int IntKind.i64 m1, Value.int IntKind.i64 m2, Value.int IntKind.i64 m3, Value.int IntKind.i64 m4][o]? := fun o => by rw [hW26, aft_cell, if_pos (by omega)]; exact cMM_25 o
    have cP_26 : ∀ o, W26.cell? ⟨kP, o, none⟩ = #[Value.int IntKind.i64 p1, Value.int IntKind.i64 p2, Value.int IntKind.i64 p3, Value.int IntKind.i64 p4][o]? := fun o => by rw [hW26, aft_cell, if_pos (by omega)]; exact cP_25 o
    have cQ_26 : ∀ o, W26.cell? ⟨kQ, o, none⟩ = #[Value.int IntKind.i64 q1, Value.int IntKind.i64 q2, Value.int IntKind.i64 q3, Value.int IntKind.i64 q4][o]? := fun o => by rw [hW26, aft_cell, if_pos (by omega)]; exact cQ_25 o
    have cZR_26 : ∀ o, W26.cell? ⟨kZR, o, none⟩ = #[Value.int IntKind.i64 0, Value.int IntKind.i64 0, Value.int IntKind.i64 0, Value.int IntKind.i64 0][o]? := fun o => by rw [hW26, aft_cell, if_pos (by omega)]; exact cZR_25 o
    have cBK_26 : ∀ o, W26.cell? ⟨kBK, o, none⟩ = #[Value.int IntKind.i64 a1, Value.int IntKind.i64 a2, Value.int IntKind.i64 a3, Value.int IntKind.i64 a4][o]? := fun o => by rw [hW26, aft_cell, if_pos (by omega)]; exact cBK_25 o
    have hG_26 : Hid (Ext w.heap.size w W26) := hid (by rw [hW26]; exact hG_25.out.aft _)
    have l_26 : kBK + 1 ≤ W26.heap.size := by rw [hW26]; have := size_aft W25 u22; omega
    rw [← hW26]
    clear hW26 cX_25 cY_25 cZ_25 cZM_25 cN_25 cM_25 cMM_25 cP_25 cQ_25 cZR_25 cBK_25 l_25 hG_25
    refine via (i_EndOf _ _ _ _ _ G3.out) ?_
    intro u23 z23
    (try simp at z23)
    by_cases hm : x2 + x4 ≤ y2 + y4
    · rw [Int.min_eq_left hm] at g4
      rw [g4]
      by_cases hm2 : x2 + x4 < y2 + y4
      · go_wp2_with fail
        go_ret
        exact ⟨by simp, Ext.bel (hG_26.out.aft _)⟩
      · have hm3 : y2 + y4 = x2 + x4 := by omega
        rw [hm3]
        go_wp2_with fail
        go_ret
        exact ⟨by simp, Ext.bel (hG_26.out.aft _)⟩
    · rw [Int.min_eq_right (by omega)] at g4
      rw [g4]
      have hm2 : y2 + y4 < x2 + x4 := by omega
      go_wp2_with fail
      go_ret
      exact ⟨by simp, Ext.bel (hG_26.out.aft _)⟩
end Go.Proofs.Ytfbpkbnepojlnaa
