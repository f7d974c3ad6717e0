/- Products of p-adic numbers: the law. (Printed by mkT23.py.) -/
import Derived.Test.YtfbpkbnepojlnaaT22
import Derived.Test.YtfbpkbnepojlnaaT21
import Derived.Test.YtfbpkbnepojlnaaT10
import Derived.Test.YtfbpkbnepojlnaaT12
namespace Go.Proofs.Ytfbpkbnepojlnaa
open Go Go.RowKit

set_option maxRecDepth 20000 in
set_option maxHeartbeats 32000000 in
theorem law_PadicProducts (a : Option Addr) (len cap : Nat) (w : World) (h : rdB w.heap.size w a len) :
    Calls Try.prog 5 #[.slice a len cap] w fun e w' => e = .returned (.bool true) ∧ Below w.heap.size w w' := by
  by_cases hl : len ≤ 4096
  case neg =>
    have hd : decide ((4096 : Int) < (len : Int)) = true := by simp; omega
    go_enter Try.func5, Try.ntmps5
    go_wp2_with (go_at_call 6; refine pur (l_big _ _ _ _) ?_)
    go_ret
    exact ⟨rfl, (by refine Ext.bel ?_; repeat (with_reducible first | exact Ext.refl _ | apply Ext.alloc | apply Ext.aft | apply Ext.drew | apply Ext.drewN | apply Ext.setCell | exact Nat.le_add_right _ _ | exact Nat.le_refl _ | (simp; done) | omega))⟩
  have hd : decide ((4096 : Int) < (len : Int)) = false := by simp; omega
  have H := hid h
  clear h
  go_enter Try.func5, Try.ntmps5
  go_wp2_with (go_at_call 6; refine pur (l_big _ _ _ _) ?_)
  have hG_0 : Hid (Ext w.heap.size w w) := hid (Ext.refl w)
  refine viaV (α := Pd × Pd) (g := (fun z : Pd × Pd => .tuple #[(fun x : Pd => .agg #[.int .i64 x.p, .int .i64 x.v, .int .i64 x.u, .int .i64 x.n]) z.1, (fun x : Pd => .agg #[.int .i64 x.p, .int .i64 x.v, .int .i64 x.u, .int .i64 x.n]) z.2])) (s_DrawMultiplyPadics w.heap.size a len cap _ (H.out.ext hG_0.out) hl hG_0.out.2) ?_
  intro zz u1 zu1
  (try simp at zu1)
  obtain ⟨⟨x1, x2, x3, x4⟩, ⟨y1, y2, y3, y4⟩⟩ := zz
  dsimp only
  go_wp2_with fail
  clear zu1
  obtain ⟨W1, hW1⟩ : ∃ X, X = aft w u1 := ⟨_, rfl⟩
  have hG_1 : Hid (Ext w.heap.size w W1) := hid (by rw [hW1]; exact hG_0.out.aft _)
  rw [← hW1]
  clear hW1 hG_0
  obtain ⟨kX, hkX⟩ : ∃ k, k = W1.heap.size := ⟨_, rfl⟩
  obtain ⟨W2, hW2⟩ : ∃ X, X = W1.alloc (Obj.cells #[Value.int IntKind.i64 x1, Value.int IntKind.i64 x2, Value.int IntKind.i64 x3, Value.int IntKind.i64 x4] 27) := ⟨_, rfl⟩
  have cX_2 : ∀ o, W2.cell? ⟨kX, o, none⟩ = #[Value.int IntKind.i64 x1, Value.int IntKind.i64 x2, Value.int IntKind.i64 x3, Value.int IntKind.i64 x4][o]? := fun o => by rw [hW2, alloc_cell, if_pos hkX]
  have hG_2 : Hid (Ext w.heap.size w W2) := hid (by rw [hW2]; exact hG_1.out.alloc _)
  have l_2 : W2.heap.size = kX + 1 := by rw [hW2]; simp; omega
  rw [← hW2, ← hkX]
  clear hW2 hG_1 hkX
  obtain ⟨kY, jY⟩ : ∃ k, k = kX + 1 := ⟨_, rfl⟩
  have hkY : kY = W2.heap.size := by omega
  obtain ⟨W3, hW3⟩ : ∃ X, X = W2.alloc (Obj.cells #[Value.int IntKind.i64 y1, Value.int IntKind.i64 y2, Value.int IntKind.i64 y3, Value.int IntKind.i64 y4] 27) := ⟨_, rfl⟩
  have cX_3 : ∀ o, W3.cell? ⟨kX, o, none⟩ = #[Value.int IntKind.i64 x1, Value.int IntKind.i64 x2, Value.int IntKind.i64 x3, Value.int IntKind.i64 x4][o]? := fun o => by rw [hW3, alloc_cell, if_neg (by omega)]; exact cX_2 o
  have cY_3 : ∀ o, W3.cell? ⟨kY, o, none⟩ = #[Value.int IntKind.i64 y1, Value.int IntKind.i64 y2, Value.int IntKind.i64 y3, Value.int IntKind.i64 y4][o]? := fun o => by rw [hW3, alloc_cell, if_pos hkY]
  have hG_3 : Hid (Ext w.heap.size w W3) := hid (by rw [hW3]; exact hG_2.out.alloc _)
  have l_3 : W3.heap.size = kY + 1 := by rw [hW3]; simp; omega
  have qY : kX < kY := by omega
  rw [← hW3, ← jY]
  clear hW3 cX_2 l_2 hG_2 hkY jY
  obtain ⟨A, hA⟩ : ∃ y, y = mulpF x1 x2 x3 x4 y1 y2 y3 y4 := ⟨_, rfl⟩
  obtain ⟨⟨a1, a2, a3, a4⟩, a5⟩ := A
  have CI : Hid (∀ W : World, Calls Try.prog 27 #[.agg #[.int .i64 x1, .int .i64 x2, .int .i64 x3, .int .i64 x4], .agg #[.int .i64 y1, .int .i64 y2, .int .i64 y3, .int .i64 y4]] W fun e w' => e = .returned (.tuple #[.agg #[.int .i64 a1, .int .i64 a2, .int .i64 a3, .int .i64 a4], .int .i64 a5]) ∧ Below W.heap.size W w') := hid fun W => by have := i_MultiplyPadics x1 x2 x3 x4 y1 y2 y3 y4 W; rw [← hA] at this; exact this
  have CS : Hid (∀ W : World, Calls Try.prog 28 #[.agg #[.int .i64 x1, .int .i64 x2, .int .i64 x3, .int .i64 x4], .agg #[.int .i64 y1, .int .i64 y2, .int .i64 y3, .int .i64 y4]] W fun e w' => e = .returned (.tuple #[.agg #[.int .i64 a1, .int .i64 a2, .int .i64 a3, .int .i64 a4], .int .i64 a5]) ∧ Below W.heap.size W w') := hid fun W => by have := s_MultiplyPadics x1 x2 x3 x4 y1 y2 y3 y4 W; rw [← hA] at this; exact this
  have HA : Hid (a5 = 0 → a2 = x2 + y2 ∧ a4 = min x4 y4 ∧ (-60 ≤ x2 ∧ x2 ≤ 60) ∧ (-60 ≤ y2 ∧ y2 ≤ 60) ∧ (0 ≤ x4 ∧ x4 ≤ 40) ∧ (0 ≤ y4 ∧ y4 ≤ 40)) := hid fun h0 => by
    have := @mulp_facts x1 x2 x3 x4 y1 y2 y3 y4 (by rw [← hA]; exact h0)
    rw [← hA] at this
    exact this
  clear hA
  refine via (CI.out _) ?_
  intro u2 zu2
  (try simp at zu2)
  go_wp2_with fail
  clear zu2
  obtain ⟨W4, hW4⟩ : ∃ X, X = aft W3 u2 := ⟨_, rfl⟩
  have cX_4 : ∀ o, W4.cell? ⟨kX, o, none⟩ = #[Value.int IntKind.i64 x1, Value.int IntKind.i64 x2, Value.int IntKind.i64 x3, Value.int IntKind.i64 x4][o]? := fun o => by rw [hW4, aft_cell, if_pos (by omega)]; exact cX_3 o
  have cY_4 : ∀ o, W4.cell? ⟨kY, o, none⟩ = #[Value.int IntKind.i64 y1, Value.int IntKind.i64 y2, Value.int IntKind.i64 y3, Value.int IntKind.i64 y4][o]? := fun o => by rw [hW4, aft_cell, if_pos (by omega)]; exact cY_3 o
  have hG_4 : Hid (Ext w.heap.size w W4) := hid (by rw [hW4]; exact hG_3.out.aft _)
  have l_4 : kY + 1 ≤ W4.heap.size := by rw [hW4]; have := size_aft W3 u2; omega
  rw [← hW4]
  clear hW4 cX_3 cY_3 l_3 hG_3
  obtain ⟨kZ, hkZ⟩ : ∃ k, k = W4.heap.size := ⟨_, rfl⟩
  obtain ⟨W5, hW5⟩ : ∃ X, X = W4.alloc (Obj.cells #[Value.int IntKind.i64 a1, Value.int IntKind.i64 a2, Value.int IntKind.i64 a3, Value.int IntKind.i64 a4] 27) := ⟨_, rfl⟩
  have cX_5 : ∀ o, W5.cell? ⟨kX, o, none⟩ = #[Value.int IntKind.i64 x1, Value.int IntKind.i64 x2, Value.int IntKind.i64 x3, Value.int IntKind.i64 x4][o]? := fun o => by rw [hW5, alloc_cell, if_neg (by omega)]; exact cX_4 o
  have cY_5 : ∀ o, W5.cell? ⟨kY, o, none⟩ = #[Value.int IntKind.i64 y1, Value.int IntKind.i64 y2, Value.int IntKind.i64 y3, Value.int IntKind.i64 y4][o]? := fun o => by rw [hW5, alloc_cell, if_neg (by omega)]; exact cY_4 o
  have cZ_5 : ∀ o, W5.cell? ⟨kZ, o, none⟩ = #[Value.int IntKind.i64 a1, Value.int IntKind.i64 a2, Value.int IntKind.i64 a3, Value.int IntKind.i64 a4][o]? := fun o => by rw [hW5, alloc_cell, if_pos hkZ]
  have hG_5 : Hid (Ext w.heap.size w W5) := hid (by rw [hW5]; exact hG_4.out.alloc _)
  have l_5 : W5.heap.size = kZ + 1 := by rw [hW5]; simp; omega
  have qZ : kY < kZ := by omega
  rw [← hW5, ← hkZ]
  clear hW5 cX_4 cY_4 l_4 hG_4 hkZ
  refine via (CS.out _) ?_
  intro u3 zu3
  (try simp at zu3)
  go_wp2_with fail
  clear zu3
  obtain ⟨W6, hW6⟩ : ∃ X, X = aft W5 u3 := ⟨_, rfl⟩
  have cX_6 : ∀ o, W6.cell? ⟨kX, o, none⟩ = #[Value.int IntKind.i64 x1, Value.int IntKind.i64 x2, Value.int IntKind.i64 x3, Value.int IntKind.i64 x4][o]? := fun o => by rw [hW6, aft_cell, if_pos (by omega)]; exact cX_5 o
  have cY_6 : ∀ o, W6.cell? ⟨kY, o, none⟩ = #[Value.int IntKind.i64 y1, Value.int IntKind.i64 y2, Value.int IntKind.i64 y3, Value.int IntKind.i64 y4][o]? := fun o => by rw [hW6, aft_cell, if_pos (by omega)]; exact cY_5 o
  have cZ_6 : ∀ o, W6.cell? ⟨kZ, o, none⟩ = #[Value.int IntKind.i64 a1, Value.int IntKind.i64 a2, Value.int IntKind.i64 a3, Value.int IntKind.i64 a4][o]? := fun o => by rw [hW6, aft_cell, if_pos (by omega)]; exact cZ_5 o
  have hG_6 : Hid (Ext w.heap.size w W6) := hid (by rw [hW6]; exact hG_5.out.aft _)
  have l_6 : kZ + 1 ≤ W6.heap.size := by rw [hW6]; have := size_aft W5 u3; omega
  rw [← hW6]
  clear hW6 cX_5 cY_5 cZ_5 l_5 hG_5
  obtain ⟨kZM, hkZM⟩ : ∃ k, k = W6.heap.size := ⟨_, rfl⟩
  obtain ⟨W7, hW7⟩ : ∃ X, X = W6.alloc (Obj.cells #[Value.int IntKind.i64 a1, Value.int IntKind.i64 a2, Value.int IntKind.i64 a3, Value.int IntKind.i64 a4] 27) := ⟨_, rfl⟩
  have cX_7 : ∀ o, W7.cell? ⟨kX, o, none⟩ = #[Value.int IntKind.i64 x1, Value.int IntKind.i64 x2, Value.int IntKind.i64 x3, Value.int IntKind.i64 x4][o]? := fun o => by rw [hW7, alloc_cell, if_neg (by omega)]; exact cX_6 o
  have cY_7 : ∀ o, W7.cell? ⟨kY, o, none⟩ = #[Value.int IntKind.i64 y1, Value.int IntKind.i64 y2, Value.int IntKind.i64 y3, Value.int IntKind.i64 y4][o]? := fun o => by rw [hW7, alloc_cell, if_neg (by omega)]; exact cY_6 o
  have cZ_7 : ∀ o, W7.cell? ⟨kZ, o, none⟩ = #[Value.int IntKind.i64 a1, Value.int IntKind.i64 a2, Value.int IntKind.i64 a3, Value.int IntKind.i64 a4][o]? := fun o => by rw [hW7, alloc_cell, if_neg (by omega)]; exact cZ_6 o
  have cZM_7 : ∀ o, W7.cell? ⟨kZM, o, none⟩ = #[Value.int IntKind.i64 a1, Value.int IntKind.i64 a2, Value.int IntKind.i64 a3, Value.int IntKind.i64 a4][o]? := fun o => by rw [hW7, alloc_cell, if_pos hkZM]
  have hG_7 : Hid (Ext w.heap.size w W7) := hid (by rw [hW7]; exact hG_6.out.alloc _)
  have l_7 : W7.heap.size = kZM + 1 := by rw [hW7]; simp; omega
  have qZM : kZ < kZM := by omega
  rw [← hW7, ← hkZM]
  clear hW7 cX_6 cY_6 cZ_6 l_6 hG_6 hkZM
  refine viaV (α := Pd) (g := (fun x : Pd => .agg #[.int .i64 x.p, .int .i64 x.v, .int .i64 x.u, .int .i64 x.n])) (s_DrawInvertPadic w.heap.size a len cap _ (H.out.ext hG_7.out) hl hG_7.out.2) ?_
  intro zz u4 zu4
  (try simp at zu4)
  obtain ⟨n1, n2, n3, n4⟩ := zz
  dsimp only
  go_wp2_with fail
  clear zu4
  obtain ⟨W8, hW8⟩ : ∃ X, X = aft W7 u4 := ⟨_, rfl⟩
  have cX_8 : ∀ o, W8.cell? ⟨kX, o, none⟩ = #[Value.int IntKind.i64 x1, Value.int IntKind.i64 x2, Value.int IntKind.i64 x3, Value.int IntKind.i64 x4][o]? := fun o => by rw [hW8, aft_cell, if_pos (by omega)]; exact cX_7 o
  have cY_8 : ∀ o, W8.cell? ⟨kY, o, none⟩ = #[Value.int IntKind.i64 y1, Value.int IntKind.i64 y2, Value.int IntKind.i64 y3, Value.int IntKind.i64 y4][o]? := fun o => by rw [hW8, aft_cell, if_pos (by omega)]; exact cY_7 o
  have cZ_8 : ∀ o, W8.cell? ⟨kZ, o, none⟩ = #[Value.int IntKind.i64 a1, Value.int IntKind.i64 a2, Value.int IntKind.i64 a3, Value.int IntKind.i64 a4][o]? := fun o => by rw [hW8, aft_cell, if_pos (by omega)]; exact cZ_7 o
  have cZM_8 : ∀ o, W8.cell? ⟨kZM, o, none⟩ = #[Value.int IntKind.i64 a1, Value.int IntKind.i64 a2, Value.int IntKind.i64 a3, Value.int IntKind.i64 a4][o]? := fun o => by rw [hW8, aft_cell, if_pos (by omega)]; exact cZM_7 o
  have hG_8 : Hid (Ext w.heap.size w W8) := hid (by rw [hW8]; exact hG_7.out.aft _)
  have l_8 : kZM + 1 ≤ W8.heap.size := by rw [hW8]; have := size_aft W7 u4; omega
  rw [← hW8]
  clear hW8 cX_7 cY_7 cZ_7 cZM_7 l_7 hG_7
  obtain ⟨kN, hkN⟩ : ∃ k, k = W8.heap.size := ⟨_, rfl⟩
  obtain ⟨W9, hW9⟩ : ∃ X, X = W8.alloc (Obj.cells #[Value.int IntKind.i64 n1, Value.int IntKind.i64 n2, Value.int IntKind.i64 n3, Value.int IntKind.i64 n4] 27) := ⟨_, rfl⟩
  have cX_9 : ∀ o, W9.cell? ⟨kX, o, none⟩ = #[Value.int IntKind.i64 x1, Value.int IntKind.i64 x2, Value.int IntKind.i64 x3, Value.int IntKind.i64 x4][o]? := fun o => by rw [hW9, alloc_cell, if_neg (by omega)]; exact cX_8 o
  have cY_9 : ∀ o, W9.cell? ⟨kY, o, none⟩ = #[Value.int IntKind.i64 y1, Value.int IntKind.i64 y2, Value.int IntKind.i64 y3, Value.int IntKind.i64 y4][o]? := fun o => by rw [hW9, alloc_cell, if_neg (by omega)]; exact cY_8 o
  have cZ_9 : ∀ o, W9.cell? ⟨kZ, o, none⟩ = #[Value.int IntKind.i64 a1, Value.int IntKind.i64 a2, Value.int IntKind.i64 a3, Value.int IntKind.i64 a4][o]? := fun o => by rw [hW9, alloc_cell, if_neg (by omega)]; exact cZ_8 o
  have cZM_9 : ∀ o, W9.cell? ⟨kZM, o, none⟩ = #[Value.int IntKind.i64 a1, Value.int IntKind.i64 a2, Value.int IntKind.i64 a3, Value.int IntKind.i64 a4][o]? := fun o => by rw [hW9, alloc_cell, if_neg (by omega)]; exact cZM_8 o
  have cN_9 : ∀ o, W9.cell? ⟨kN, o, none⟩ = #[Value.int IntKind.i64 n1, Value.int IntKind.i64 n2, Value.int IntKind.i64 n3, Value.int IntKind.i64 n4][o]? := fun o => by rw [hW9, alloc_cell, if_pos hkN]
  have hG_9 : Hid (Ext w.heap.size w W9) := hid (by rw [hW9]; exact hG_8.out.alloc _)
  have l_9 : W9.heap.size = kN + 1 := by rw [hW9]; simp; omega
  have qN : kZM < kN := by omega
  rw [← hW9, ← hkN]
  clear hW9 cX_8 cY_8 cZ_8 cZM_8 l_8 hG_8 hkN
  obtain ⟨B, hB⟩ : ∃ y, y = invpF n1 n2 n3 n4 := ⟨_, rfl⟩
  obtain ⟨⟨m1, m2, m3, m4⟩, m5⟩ := B
  have NI : Hid (∀ W : World, Calls Try.prog 30 #[.agg #[.int .i64 n1, .int .i64 n2, .int .i64 n3, .int .i64 n4]] W fun e w' => e = .returned (.tuple #[.agg #[.int .i64 m1, .int .i64 m2, .int .i64 m3, .int .i64 m4], .int .i64 m5]) ∧ Below W.heap.size W w') := hid fun W => by have := i_InvertPadic n1 n2 n3 n4 W; rw [← hB] at this; exact this
  have NS : Hid (∀ W : World, Calls Try.prog 31 #[.agg #[.int .i64 n1, .int .i64 n2, .int .i64 n3, .int .i64 n4]] W fun e w' => e = .returned (.tuple #[.agg #[.int .i64 m1, .int .i64 m2, .int .i64 m3, .int .i64 m4], .int .i64 m5]) ∧ Below W.heap.size W w') := hid fun W => by have := s_InvertPadic n1 n2 n3 n4 W; rw [← hB] at this; exact this
  have HB : Hid (m5 = 0 → mulpF n1 n2 n3 n4 m1 m2 m3 m4 = (⟨n1, 0, 1, n4⟩, 0)) := hid fun h0 => by
    have := @mulp_inv n1 n2 n3 n4 (by rw [← hB]; exact h0)
    rw [← hB] at this
    exact this.1
  clear hB
  refine via (NI.out _) ?_
  intro u5 zu5
  (try simp at zu5)
  go_wp2_with fail
  clear zu5
  obtain ⟨W10, hW10⟩ : ∃ X, X = aft W9 u5 := ⟨_, rfl⟩
  have cX_10 : ∀ o, W10.cell? ⟨kX, o, none⟩ = #[Value.int IntKind.i64 x1, Value.int IntKind.i64 x2, Value.int IntKind.i64 x3, Value.int IntKind.i64 x4][o]? := fun o => by rw [hW10, aft_cell, if_pos (by omega)]; exact cX_9 o
  have cY_10 : ∀ o, W10.cell? ⟨kY, o, none⟩ = #[Value.int IntKind.i64 y1, Value.int IntKind.i64 y2, Value.int IntKind.i64 y3, Value.int IntKind.i64 y4][o]? := fun o => by rw [hW10, aft_cell, if_pos (by omega)]; exact cY_9 o
  have cZ_10 : ∀ o, W10.cell? ⟨kZ, o, none⟩ = #[Value.int IntKind.i64 a1, Value.int IntKind.i64 a2, Value.int IntKind.i64 a3, Value.int IntKind.i64 a4][o]? := fun o => by rw [hW10, aft_cell, if_pos (by omega)]; exact cZ_9 o
  have cZM_10 : ∀ o, W10.cell? ⟨kZM, o, none⟩ = #[Value.int IntKind.i64 a1, Value.int IntKind.i64 a2, Value.int IntKind.i64 a3, Value.int IntKind.i64 a4][o]? := fun o => by rw [hW10, aft_cell, if_pos (by omega)]; exact cZM_9 o
  have cN_10 : ∀ o, W10.cell? ⟨kN, o, none⟩ = #[Value.int IntKind.i64 n1, Value.int IntKind.i64 n2, Value.int IntKind.i64 n3, Value.int IntKind.i64 n4][o]? := fun o => by rw [hW10, aft_cell, if_pos (by omega)]; exact cN_9 o
  have hG_10 : Hid (Ext w.heap.size w W10) := hid (by rw [hW10]; exact hG_9.out.aft _)
  have l_10 : kN + 1 ≤ W10.heap.size := by rw [hW10]; have := size_aft W9 u5; omega
  rw [← hW10]
  clear hW10 cX_9 cY_9 cZ_9 cZM_9 cN_9 l_9 hG_9
  obtain ⟨kM, hkM⟩ : ∃ k, k = W10.heap.size := ⟨_, rfl⟩
  obtain ⟨W11, hW11⟩ : ∃ X, X = W10.alloc (Obj.cells #[Value.int IntKind.i64 m1, Value.int IntKind.i64 m2, Value.int IntKind.i64 m3, Value.int IntKind.i64 m4] 27) := ⟨_, rfl⟩
  have cX_11 : ∀ o, W11.cell? ⟨kX, o, none⟩ = #[Value.int IntKind.i64 x1, Value.int IntKind.i64 x2, Value.int IntKind.i64 x3, Value.int IntKind.i64 x4][o]? := fun o => by rw [hW11, alloc_cell, if_neg (by omega)]; exact cX_10 o
  have cY_11 : ∀ o, W11.cell? ⟨kY, o, none⟩ = #[Value.int IntKind.i64 y1, Value.int IntKind.i64 y2, Value.int IntKind.i64 y3, Value.int IntKind.i64 y4][o]? := fun o => by rw [hW11, alloc_cell, if_neg (by omega)]; exact cY_10 o
  have cZ_11 : ∀ o, W11.cell? ⟨kZ, o, none⟩ = #[Value.int IntKind.i64 a1, Value.int IntKind.i64 a2, Value.int IntKind.i64 a3, Value.int IntKind.i64 a4][o]? := fun o => by rw [hW11, alloc_cell, if_neg (by omega)]; exact cZ_10 o
  have cZM_11 : ∀ o, W11.cell? ⟨kZM, o, none⟩ = #[Value.int IntKind.i64 a1, Value.int IntKind.i64 a2, Value.int IntKind.i64 a3, Value.int IntKind.i64 a4][o]? := fun o => by rw [hW11, alloc_cell, if_neg (by omega)]; exact cZM_10 o
  have cN_11 : ∀ o, W11.cell? ⟨kN, o, none⟩ = #[Value.int IntKind.i64 n1, Value.int IntKind.i64 n2, Value.int IntKind.i64 n3, Value.int IntKind.i64 n4][o]? := fun o => by rw [hW11, alloc_cell, if_neg (by omega)]; exact cN_10 o
  have cM_11 : ∀ o, W11.cell? ⟨kM, o, none⟩ = #[Value.int IntKind.i64 m1, Value.int IntKind.i64 m2, Value.int IntKind.i64 m3, Value.int IntKind.i64 m4][o]? := fun o => by rw [hW11, alloc_cell, if_pos hkM]
  have hG_11 : Hid (Ext w.heap.size w W11) := hid (by rw [hW11]; exact hG_10.out.alloc _)
  have l_11 : W11.heap.size = kM + 1 := by rw [hW11]; simp; omega
  have qM : kN < kM := by omega
  rw [← hW11, ← hkM]
  clear hW11 cX_10 cY_10 cZ_10 cZM_10 cN_10 l_10 hG_10 hkM
  refine via (NS.out _) ?_
  intro u6 zu6
  (try simp at zu6)
  go_wp2_with fail
  clear zu6
  obtain ⟨W12, hW12⟩ : ∃ X, X = aft W11 u6 := ⟨_, rfl⟩
  have cX_12 : ∀ o, W12.cell? ⟨kX, o, none⟩ = #[Value.int IntKind.i64 x1, Value.int IntKind.i64 x2, Value.int IntKind.i64 x3, Value.int IntKind.i64 x4][o]? := fun o => by rw [hW12, aft_cell, if_pos (by omega)]; exact cX_11 o
  have cY_12 : ∀ o, W12.cell? ⟨kY, o, none⟩ = #[Value.int IntKind.i64 y1, Value.int IntKind.i64 y2, Value.int IntKind.i64 y3, Value.int IntKind.i64 y4][o]? := fun o => by rw [hW12, aft_cell, if_pos (by omega)]; exact cY_11 o
  have cZ_12 : ∀ o, W12.cell? ⟨kZ, o, none⟩ = #[Value.int IntKind.i64 a1, Value.int IntKind.i64 a2, Value.int IntKind.i64 a3, Value.int IntKind.i64 a4][o]? := fun o => by rw [hW12, aft_cell, if_pos (by omega)]; exact cZ_11 o
  have cZM_12 : ∀ o, W12.cell? ⟨kZM, o, none⟩ = #[Value.int IntKind.i64 a1, Value.int IntKind.i64 a2, Value.int IntKind.i64 a3, Value.int IntKind.i64 a4][o]? := fun o => by rw [hW12, aft_cell, if_pos (by omega)]; exact cZM_11 o
  have cN_12 : ∀ o, W12.cell? ⟨kN, o, none⟩ = #[Value.int IntKind.i64 n1, Value.int IntKind.i64 n2, Value.int IntKind.i64 n3, Value.int IntKind.i64 n4][o]? := fun o => by rw [hW12, aft_cell, if_pos (by omega)]; exact cN_11 o
  have cM_12 : ∀ o, W12.cell? ⟨kM, o, none⟩ = #[Value.int IntKind.i64 m1, Value.int IntKind.i64 m2, Value.int IntKind.i64 m3, Value.int IntKind.i64 m4][o]? := fun o => by rw [hW12, aft_cell, if_pos (by omega)]; exact cM_11 o
  have hG_12 : Hid (Ext w.heap.size w W12) := hid (by rw [hW12]; exact hG_11.out.aft _)
  have l_12 : kM + 1 ≤ W12.heap.size := by rw [hW12]; have := size_aft W11 u6; omega
  rw [← hW12]
  clear hW12 cX_11 cY_11 cZ_11 cZM_11 cN_11 cM_11 l_11 hG_11
  obtain ⟨kMM, hkMM⟩ : ∃ k, k = W12.heap.size := ⟨_, rfl⟩
  obtain ⟨W13, hW13⟩ : ∃ X, X = W12.alloc (Obj.cells #[Value.int IntKind.i64 m1, Value.int IntKind.i64 m2, Value.int IntKind.i64 m3, Value.int IntKind.i64 m4] 27) := ⟨_, rfl⟩
  have cX_13 : ∀ o, W13.cell? ⟨kX, o, none⟩ = #[Value.int IntKind.i64 x1, Value.int IntKind.i64 x2, Value.int IntKind.i64 x3, Value.int IntKind.i64 x4][o]? := fun o => by rw [hW13, alloc_cell, if_neg (by omega)]; exact cX_12 o
  have cY_13 : ∀ o, W13.cell? ⟨kY, o, none⟩ = #[Value.int IntKind.i64 y1, Value.int IntKind.i64 y2, Value.int IntKind.i64 y3, Value.int IntKind.i64 y4][o]? := fun o => by rw [hW13, alloc_cell, if_neg (by omega)]; exact cY_12 o
  have cZ_13 : ∀ o, W13.cell? ⟨kZ, o, none⟩ = #[Value.int IntKind.i64 a1, Value.int IntKind.i64 a2, Value.int IntKind.i64 a3, Value.int IntKind.i64 a4][o]? := fun o => by rw [hW13, alloc_cell, if_neg (by omega)]; exact cZ_12 o
  have cZM_13 : ∀ o, W13.cell? ⟨kZM, o, none⟩ = #[Value.int IntKind.i64 a1, Value.int IntKind.i64 a2, Value.int IntKind.i64 a3, Value.int IntKind.i64 a4][o]? := fun o => by rw [hW13, alloc_cell, if_neg (by omega)]; exact cZM_12 o
  have cN_13 : ∀ o, W13.cell? ⟨kN, o, none⟩ = #[Value.int IntKind.i64 n1, Value.int IntKind.i64 n2, Value.int IntKind.i64 n3, Value.int IntKind.i64 n4][o]? := fun o => by rw [hW13, alloc_cell, if_neg (by omega)]; exact cN_12 o
  have cM_13 : ∀ o, W13.cell? ⟨kM, o, none⟩ = #[Value.int IntKind.i64 m1, Value.int IntKind.i64 m2, Value.int IntKind.i64 m3, Value.int IntKind.i64 m4][o]? := fun o => by rw [hW13, alloc_cell, if_neg (by omega)]; exact cM_12 o
  have cMM_13 : ∀ o, W13.cell? ⟨kMM, o, none⟩ = #[Value.int IntKind.i64 m1, Value.int IntKind.i64 m2, Value.int IntKind.i64 m3, Value.int IntKind.i64 m4][o]? := fun o => by rw [hW13, alloc_cell, if_pos hkMM]
  have hG_13 : Hid (Ext w.heap.size w W13) := hid (by rw [hW13]; exact hG_12.out.alloc _)
  have l_13 : W13.heap.size = kMM + 1 := by rw [hW13]; simp; omega
  have qMM : kM < kMM := by omega
  rw [← hW13, ← hkMM]
  clear hW13 cX_12 cY_12 cZ_12 cZM_12 cN_12 cM_12 l_12 hG_12 hkMM
  refine viaV (α := Pd × Int) (g := fun z => .tuple #[(fun x : Pd => .agg #[.int .i64 x.p, .int .i64 x.v, .int .i64 x.u, .int .i64 x.n]) z.1, .int .i64 z.2]) (s_DrawCutPadic w.heap.size a len cap _ (H.out.ext hG_13.out) hl hG_13.out.2) ?_
  intro zz u7 zu7
  (try simp at zu7)
  obtain ⟨⟨c1, c2, c3, c4⟩, t⟩ := zz
  dsimp only
  go_wp2_with fail
  clear zu7
  obtain ⟨W14, hW14⟩ : ∃ X, X = aft W13 u7 := ⟨_, rfl⟩
  have cX_14 : ∀ o, W14.cell? ⟨kX, o, none⟩ = #[Value.int IntKind.i64 x1, Value.int IntKind.i64 x2, Value.int IntKind.i64 x3, Value.int IntKind.i64 x4][o]? := fun o => by rw [hW14, aft_cell, if_pos (by omega)]; exact cX_13 o
  have cY_14 : ∀ o, W14.cell? ⟨kY, o, none⟩ = #[Value.int IntKind.i64 y1, Value.int IntKind.i64 y2, Value.int IntKind.i64 y3, Value.int IntKind.i64 y4][o]? := fun o => by rw [hW14, aft_cell, if_pos (by omega)]; exact cY_13 o
  have cZ_14 : ∀ o, W14.cell? ⟨kZ, o, none⟩ = #[Value.int IntKind.i64 a1, Value.int IntKind.i64 a2, Value.int IntKind.i64 a3, Value.int IntKind.i64 a4][o]? := fun o => by rw [hW14, aft_cell, if_pos (by omega)]; exact cZ_13 o
  have cZM_14 : ∀ o, W14.cell? ⟨kZM, o, none⟩ = #[Value.int IntKind.i64 a1, Value.int IntKind.i64 a2, Value.int IntKind.i64 a3, Value.int IntKind.i64 a4][o]? := fun o => by rw [hW14, aft_cell, if_pos (by omega)]; exact cZM_13 o
  have cN_14 : ∀ o, W14.cell? ⟨kN, o, none⟩ = #[Value.int IntKind.i64 n1, Value.int IntKind.i64 n2, Value.int IntKind.i64 n3, Value.int IntKind.i64 n4][o]? := fun o => by rw [hW14, aft_cell, if_pos (by omega)]; exact cN_13 o
  have cM_14 : ∀ o, W14.cell? ⟨kM, o, none⟩ = #[Value.int IntKind.i64 m1, Value.int IntKind.i64 m2, Value.int IntKind.i64 m3, Value.int IntKind.i64 m4][o]? := fun o => by rw [hW14, aft_cell, if_pos (by omega)]; exact cM_13 o
  have cMM_14 : ∀ o, W14.cell? ⟨kMM, o, none⟩ = #[Value.int IntKind.i64 m1, Value.int IntKind.i64 m2, Value.int IntKind.i64 m3, Value.int IntKind.i64 m4][o]? := fun o => by rw [hW14, aft_cell, if_pos (by omega)]; exact cMM_13 o
  have hG_14 : Hid (Ext w.heap.size w W14) := hid (by rw [hW14]; exact hG_13.out.aft _)
  have l_14 : kMM + 1 ≤ W14.heap.size := by rw [hW14]; have := size_aft W13 u7; omega
  rw [← hW14]
  clear hW14 cX_13 cY_13 cZ_13 cZM_13 cN_13 cM_13 cMM_13 l_13 hG_13
  obtain ⟨kC, hkC⟩ : ∃ k, k = W14.heap.size := ⟨_, rfl⟩
  obtain ⟨W15, hW15⟩ : ∃ X, X = W14.alloc (Obj.cells #[Value.int IntKind.i64 c1, Value.int IntKind.i64 c2, Value.int IntKind.i64 c3, Value.int IntKind.i64 c4] 27) := ⟨_, rfl⟩
  have cX_15 : ∀ o, W15.cell? ⟨kX, o, none⟩ = #[Value.int IntKind.i64 x1, Value.int IntKind.i64 x2, Value.int IntKind.i64 x3, Value.int IntKind.i64 x4][o]? := fun o => by rw [hW15, alloc_cell, if_neg (by omega)]; exact cX_14 o
  have cY_15 : ∀ o, W15.cell? ⟨kY, o, none⟩ = #[Value.int IntKind.i64 y1, Value.int IntKind.i64 y2, Value.int IntKind.i64 y3, Value.int IntKind.i64 y4][o]? := fun o => by rw [hW15, alloc_cell, if_neg (by omega)]; exact cY_14 o
  have cZ_15 : ∀ o, W15.cell? ⟨kZ, o, none⟩ = #[Value.int IntKind.i64 a1, Value.int IntKind.i64 a2, Value.int IntKind.i64 a3, Value.int IntKind.i64 a4][o]? := fun o => by rw [hW15, alloc_cell, if_neg (by omega)]; exact cZ_14 o
  have cZM_15 : ∀ o, W15.cell? ⟨kZM, o, none⟩ = #[Value.int IntKind.i64 a1, Value.int IntKind.i64 a2, Value.int IntKind.i64 a3, Value.int IntKind.i64 a4][o]? := fun o => by rw [hW15, alloc_cell, if_neg (by omega)]; exact cZM_14 o
  have cN_15 : ∀ o, W15.cell? ⟨kN, o, none⟩ = #[Value.int IntKind.i64 n1, Value.int IntKind.i64 n2, Value.int IntKind.i64 n3, Value.int IntKind.i64 n4][o]? := fun o => by rw [hW15, alloc_cell, if_neg (by omega)]; exact cN_14 o
  have cM_15 : ∀ o, W15.cell? ⟨kM, o, none⟩ = #[Value.int IntKind.i64 m1, Value.int IntKind.i64 m2, Value.int IntKind.i64 m3, Value.int IntKind.i64 m4][o]? := fun o => by rw [hW15, alloc_cell, if_neg (by omega)]; exact cM_14 o
  have cMM_15 : ∀ o, W15.cell? ⟨kMM, o, none⟩ = #[Value.int IntKind.i64 m1, Value.int IntKind.i64 m2, Value.int IntKind.i64 m3, Value.int IntKind.i64 m4][o]? := fun o => by rw [hW15, alloc_cell, if_neg (by omega)]; exact cMM_14 o
  have cC_15 : ∀ o, W15.cell? ⟨kC, o, none⟩ = #[Value.int IntKind.i64 c1, Value.int IntKind.i64 c2, Value.int IntKind.i64 c3, Value.int IntKind.i64 c4][o]? := fun o => by rw [hW15, alloc_cell, if_pos hkC]
  have hG_15 : Hid (Ext w.heap.size w W15) := hid (by rw [hW15]; exact hG_14.out.alloc _)
  have l_15 : W15.heap.size = kC + 1 := by rw [hW15]; simp; omega
  have qC : kMM < kC := by omega
  rw [← hW15, ← hkC]
  clear hW15 cX_14 cY_14 cZ_14 cZM_14 cN_14 cM_14 cMM_14 l_14 hG_14 hkC
  obtain ⟨D, hD⟩ : ∃ y, y = cutpF c1 c2 c3 c4 t := ⟨_, rfl⟩
  obtain ⟨⟨d1, d2, d3, d4⟩, d5⟩ := D
  have DI : Hid (∀ W : World, Calls Try.prog 33 #[.agg #[.int .i64 c1, .int .i64 c2, .int .i64 c3, .int .i64 c4], .int .i64 t] W fun e w' => e = .returned (.tuple #[.agg #[.int .i64 d1, .int .i64 d2, .int .i64 d3, .int .i64 d4], .int .i64 d5]) ∧ Below W.heap.size W w') := hid fun W => by have := i_CutPadic c1 c2 c3 c4 t W; rw [← hD] at this; exact this
  have DS : Hid (∀ W : World, Calls Try.prog 34 #[.agg #[.int .i64 c1, .int .i64 c2, .int .i64 c3, .int .i64 c4], .int .i64 t] W fun e w' => e = .returned (.tuple #[.agg #[.int .i64 d1, .int .i64 d2, .int .i64 d3, .int .i64 d4], .int .i64 d5]) ∧ Below W.heap.size W w') := hid fun W => by have := s_CutPadic c1 c2 c3 c4 t W; rw [← hD] at this; exact this
  have HD : Hid (d5 = 0 → padicB d1 d2 d3 d4 = true ∧ d2 + d4 = c2 + t ∧ ∃ c, eqtF c1 c2 c3 c4 d1 d2 d3 d4 = c ∧ (c = (c2 + t, 0) ∨ c.2 = 3)) := hid fun h0 => by
    have := @cutp_facts c1 c2 c3 c4 t (by rw [← hD]; exact h0)
    rw [← hD] at this
    exact this
  clear hD
  refine via (DI.out _) ?_
  intro u8 zu8
  (try simp at zu8)
  go_wp2_with fail
  clear zu8
  obtain ⟨W16, hW16⟩ : ∃ X, X = aft W15 u8 := ⟨_, rfl⟩
  have cX_16 : ∀ o, W16.cell? ⟨kX, o, none⟩ = #[Value.int IntKind.i64 x1, Value.int IntKind.i64 x2, Value.int IntKind.i64 x3, Value.int IntKind.i64 x4][o]? := fun o => by rw [hW16, aft_cell, if_pos (by omega)]; exact cX_15 o
  have cY_16 : ∀ o, W16.cell? ⟨kY, o, none⟩ = #[Value.int IntKind.i64 y1, Value.int IntKind.i64 y2, Value.int IntKind.i64 y3, Value.int IntKind.i64 y4][o]? := fun o => by rw [hW16, aft_cell, if_pos (by omega)]; exact cY_15 o
  have cZ_16 : ∀ o, W16.cell? ⟨kZ, o, none⟩ = #[Value.int IntKind.i64 a1, Value.int IntKind.i64 a2, Value.int IntKind.i64 a3, Value.int IntKind.i64 a4][o]? := fun o => by rw [hW16, aft_cell, if_pos (by omega)]; exact cZ_15 o
  have cZM_16 : ∀ o, W16.cell? ⟨kZM, o, none⟩ = #[Value.int IntKind.i64 a1, Value.int IntKind.i64 a2, Value.int IntKind.i64 a3, Value.int IntKind.i64 a4][o]? := fun o => by rw [hW16, aft_cell, if_pos (by omega)]; exact cZM_15 o
  have cN_16 : ∀ o, W16.cell? ⟨kN, o, none⟩ = #[Value.int IntKind.i64 n1, Value.int IntKind.i64 n2, Value.int IntKind.i64 n3, Value.int IntKind.i64 n4][o]? := fun o => by rw [hW16, aft_cell, if_pos (by omega)]; exact cN_15 o
  have cM_16 : ∀ o, W16.cell? ⟨kM, o, none⟩ = #[Value.int IntKind.i64 m1, Value.int IntKind.i64 m2, Value.int IntKind.i64 m3, Value.int IntKind.i64 m4][o]? := fun o => by rw [hW16, aft_cell, if_pos (by omega)]; exact cM_15 o
  have cMM_16 : ∀ o, W16.cell? ⟨kMM, o, none⟩ = #[Value.int IntKind.i64 m1, Value.int IntKind.i64 m2, Value.int IntKind.i64 m3, Value.int IntKind.i64 m4][o]? := fun o => by rw [hW16, aft_cell, if_pos (by omega)]; exact cMM_15 o
  have cC_16 : ∀ o, W16.cell? ⟨kC, o, none⟩ = #[Value.int IntKind.i64 c1, Value.int IntKind.i64 c2, Value.int IntKind.i64 c3, Value.int IntKind.i64 c4][o]? := fun o => by rw [hW16, aft_cell, if_pos (by omega)]; exact cC_15 o
  have hG_16 : Hid (Ext w.heap.size w W16) := hid (by rw [hW16]; exact hG_15.out.aft _)
  have l_16 : kC + 1 ≤ W16.heap.size := by rw [hW16]; have := size_aft W15 u8; omega
  rw [← hW16]
  clear hW16 cX_15 cY_15 cZ_15 cZM_15 cN_15 cM_15 cMM_15 cC_15 l_15 hG_15
  obtain ⟨kD, hkD⟩ : ∃ k, k = W16.heap.size := ⟨_, rfl⟩
  obtain ⟨W17, hW17⟩ : ∃ X, X = W16.alloc (Obj.cells #[Value.int IntKind.i64 d1, Value.int IntKind.i64 d2, Value.int IntKind.i64 d3, Value.int IntKind.i64 d4] 27) := ⟨_, rfl⟩
  have cX_17 : ∀ o, W17.cell? ⟨kX, o, none⟩ = #[Value.int IntKind.i64 x1, Value.int IntKind.i64 x2, Value.int IntKind.i64 x3, Value.int IntKind.i64 x4][o]? := fun o => by rw [hW17, alloc_cell, if_neg (by omega)]; exact cX_16 o
  have cY_17 : ∀ o, W17.cell? ⟨kY, o, none⟩ = #[Value.int IntKind.i64 y1, Value.int IntKind.i64 y2, Value.int IntKind.i64 y3, Value.int IntKind.i64 y4][o]? := fun o => by rw [hW17, alloc_cell, if_neg (by omega)]; exact cY_16 o
  have cZ_17 : ∀ o, W17.cell? ⟨kZ, o, none⟩ = #[Value.int IntKind.i64 a1, Value.int IntKind.i64 a2, Value.int IntKind.i64 a3, Value.int IntKind.i64 a4][o]? := fun o => by rw [hW17, alloc_cell, if_neg (by omega)]; exact cZ_16 o
  have cZM_17 : ∀ o, W17.cell? ⟨kZM, o, none⟩ = #[Value.int IntKind.i64 a1, Value.int IntKind.i64 a2, Value.int IntKind.i64 a3, Value.int IntKind.i64 a4][o]? := fun o => by rw [hW17, alloc_cell, if_neg (by omega)]; exact cZM_16 o
  have cN_17 : ∀ o, W17.cell? ⟨kN, o, none⟩ = #[Value.int IntKind.i64 n1, Value.int IntKind.i64 n2, Value.int IntKind.i64 n3, Value.int IntKind.i64 n4][o]? := fun o => by rw [hW17, alloc_cell, if_neg (by omega)]; exact cN_16 o
  have cM_17 : ∀ o, W17.cell? ⟨kM, o, none⟩ = #[Value.int IntKind.i64 m1, Value.int IntKind.i64 m2, Value.int IntKind.i64 m3, Value.int IntKind.i64 m4][o]? := fun o => by rw [hW17, alloc_cell, if_neg (by omega)]; exact cM_16 o
  have cMM_17 : ∀ o, W17.cell? ⟨kMM, o, none⟩ = #[Value.int IntKind.i64 m1, Value.int IntKind.i64 m2, Value.int IntKind.i64 m3, Value.int IntKind.i64 m4][o]? := fun o => by rw [hW17, alloc_cell, if_neg (by omega)]; exact cMM_16 o
  have cC_17 : ∀ o, W17.cell? ⟨kC, o, none⟩ = #[Value.int IntKind.i64 c1, Value.int IntKind.i64 c2, Value.int IntKind.i64 c3, Value.int IntKind.i64 c4][o]? := fun o => by rw [hW17, alloc_cell, if_neg (by omega)]; exact cC_16 o
  have cD_17 : ∀ o, W17.cell? ⟨kD, o, none⟩ = #[Value.int IntKind.i64 d1, Value.int IntKind.i64 d2, Value.int IntKind.i64 d3, Value.int IntKind.i64 d4][o]? := fun o => by rw [hW17, alloc_cell, if_pos hkD]
  have hG_17 : Hid (Ext w.heap.size w W17) := hid (by rw [hW17]; exact hG_16.out.alloc _)
  have l_17 : W17.heap.size = kD + 1 := by rw [hW17]; simp; omega
  have qD : kC < kD := by omega
  rw [← hW17, ← hkD]
  clear hW17 cX_16 cY_16 cZ_16 cZM_16 cN_16 cM_16 cMM_16 cC_16 l_16 hG_16 hkD
  refine via (DS.out _) ?_
  intro u9 zu9
  (try simp at zu9)
  by_cases hd5 : d5 = 0
  case neg =>
    have hd5' : (d5 == 0) = false := by simpa using hd5
    clear hd5
    by_cases hm5 : m5 = 0
    case neg =>
      have hm5' : (m5 == 0) = false := by simpa using hm5
      clear hm5
      by_cases h5 : a5 = 0
      case neg =>
        have h5' : (a5 == 0) = false := by simpa using h5
        have h5n : (a5 != 0) = true := by simpa using h5
        go_wp2_with fail
        go_ret
        exact ⟨by first | rfl | simp, Ext.bel (by repeat (with_reducible first | exact hG_17.out | apply Ext.aft | apply Ext.alloc))⟩
      subst h5
      obtain ⟨g1, g2, g3, g4, g5, g6⟩ := HA.out rfl
      have g7 : -120 ≤ x2 + y2 ∧ x2 + y2 ≤ 120 := by omega
      rcases (show (x4 < y4 ∧ a4 = x4) ∨ (x4 = y4 ∧ a4 = x4) ∨ (y4 < x4 ∧ a4 = y4) by omega) with ⟨q1, q2⟩ | ⟨q1, q2⟩ | ⟨q1, q2⟩
      all_goals clear g2
      case inl =>
        subst q2
        go_wp2_with fail
        go_ret
        exact ⟨by first | rfl | simp | (simp; omega), Ext.bel (by repeat (with_reducible first | exact hG_17.out | apply Ext.aft | apply Ext.alloc))⟩
      case inr.inl =>
        subst q2
        subst q1
        go_wp2_with fail
        go_ret
        exact ⟨by first | rfl | simp | (simp; omega), Ext.bel (by repeat (with_reducible first | exact hG_17.out | apply Ext.aft | apply Ext.alloc))⟩
      case inr.inr =>
        subst q2
        go_wp2_with fail
        go_ret
        exact ⟨by first | rfl | simp | (simp; omega), Ext.bel (by repeat (with_reducible first | exact hG_17.out | apply Ext.aft | apply Ext.alloc))⟩
    subst hm5
    have BI : Hid (∀ W : World, Calls Try.prog 27 #[.agg #[.int .i64 n1, .int .i64 n2, .int .i64 n3, .int .i64 n4], .agg #[.int .i64 m1, .int .i64 m2, .int .i64 m3, .int .i64 m4]] W fun e w' => e = .returned (.tuple #[.agg #[.int .i64 n1, .int .i64 0, .int .i64 1, .int .i64 n4], .int .i64 0]) ∧ Below W.heap.size W w') := hid fun W => by have := i_MultiplyPadics n1 n2 n3 n4 m1 m2 m3 m4 W; rw [HB.out rfl] at this; exact this
    go_wp2_with fail
    clear zu9
    obtain ⟨W18, hW18⟩ : ∃ X, X = aft W17 u9 := ⟨_, rfl⟩
    have cX_18 : ∀ o, W18.cell? ⟨kX, o, none⟩ = #[Value.int IntKind.i64 x1, Value.int IntKind.i64 x2, Value.int IntKind.i64 x3, Value.int IntKind.i64 x4][o]? := fun o => by rw [hW18, aft_cell, if_pos (by omega)]; exact cX_17 o
    have cY_18 : ∀ o, W18.cell? ⟨kY, o, none⟩ = #[Value.int IntKind.i64 y1, Value.int IntKind.i64 y2, Value.int IntKind.i64 y3, Value.int IntKind.i64 y4][o]? := fun o => by rw [hW18, aft_cell, if_pos (by omega)]; exact cY_17 o
    have cZ_18 : ∀ o, W18.cell? ⟨kZ, o, none⟩ = #[Value.int IntKind.i64 a1, Value.int IntKind.i64 a2, Value.int IntKind.i64 a3, Value.int IntKind.i64 a4][o]? := fun o => by rw [hW18, aft_cell, if_pos (by omega)]; exact cZ_17 o
    have cZM_18 : ∀ o, W18.cell? ⟨kZM, o, none⟩ = #[Value.int IntKind.i64 a1, Value.int IntKind.i64 a2, Value.int IntKind.i64 a3, Value.int IntKind.i64 a4][o]? := fun o => by rw [hW18, aft_cell, if_pos (by omega)]; exact cZM_17 o
    have cN_18 : ∀ o, W18.cell? ⟨kN, o, none⟩ = #[Value.int IntKind.i64 n1, Value.int IntKind.i64 n2, Value.int IntKind.i64 n3, Value.int IntKind.i64 n4][o]? := fun o => by rw [hW18, aft_cell, if_pos (by omega)]; exact cN_17 o
    have cM_18 : ∀ o, W18.cell? ⟨kM, o, none⟩ = #[Value.int IntKind.i64 m1, Value.int IntKind.i64 m2, Value.int IntKind.i64 m3, Value.int IntKind.i64 m4][o]? := fun o => by rw [hW18, aft_cell, if_pos (by omega)]; exact cM_17 o
    have cMM_18 : ∀ o, W18.cell? ⟨kMM, o, none⟩ = #[Value.int IntKind.i64 m1, Value.int IntKind.i64 m2, Value.int IntKind.i64 m3, Value.int IntKind.i64 m4][o]? := fun o => by rw [hW18, aft_cell, if_pos (by omega)]; exact cMM_17 o
    have cC_18 : ∀ o, W18.cell? ⟨kC, o, none⟩ = #[Value.int IntKind.i64 c1, Value.int IntKind.i64 c2, Value.int IntKind.i64 c3, Value.int IntKind.i64 c4][o]? := fun o => by rw [hW18, aft_cell, if_pos (by omega)]; exact cC_17 o
    have cD_18 : ∀ o, W18.cell? ⟨kD, o, none⟩ = #[Value.int IntKind.i64 d1, Value.int IntKind.i64 d2, Value.int IntKind.i64 d3, Value.int IntKind.i64 d4][o]? := fun o => by rw [hW18, aft_cell, if_pos (by omega)]; exact cD_17 o
    have hG_18 : Hid (Ext w.heap.size w W18) := hid (by rw [hW18]; exact hG_17.out.aft _)
    have l_18 : kD + 1 ≤ W18.heap.size := by rw [hW18]; have := size_aft W17 u9; omega
    rw [← hW18]
    clear hW18 cX_17 cY_17 cZ_17 cZM_17 cN_17 cM_17 cMM_17 cC_17 cD_17 l_17 hG_17
    obtain ⟨kDM, hkDM⟩ : ∃ k, k = W18.heap.size := ⟨_, rfl⟩
    obtain ⟨W19, hW19⟩ : ∃ X, X = W18.alloc (Obj.cells #[Value.int IntKind.i64 d1, Value.int IntKind.i64 d2, Value.int IntKind.i64 d3, Value.int IntKind.i64 d4] 27) := ⟨_, rfl⟩
    have cX_19 : ∀ o, W19.cell? ⟨kX, o, none⟩ = #[Value.int IntKind.i64 x1, Value.int IntKind.i64 x2, Value.int IntKind.i64 x3, Value.int IntKind.i64 x4][o]? := fun o => by rw [hW19, alloc_cell, if_neg (by omega)]; exact cX_18 o
    have cY_19 : ∀ o, W19.cell? ⟨kY, o, none⟩ = #[Value.int IntKind.i64 y1, Value.int IntKind.i64 y2, Value.int IntKind.i64 y3, Value.int IntKind.i64 y4][o]? := fun o => by rw [hW19, alloc_cell, if_neg (by omega)]; exact cY_18 o
    have cZ_19 : ∀ o, W19.cell? ⟨kZ, o, none⟩ = #[Value.int IntKind.i64 a1, Value.int IntKind.i64 a2, Value.int IntKind.i64 a3, Value.int IntKind.i64 a4][o]? := fun o => by rw [hW19, alloc_cell, if_neg (by omega)]; exact cZ_18 o
    have cZM_19 : ∀ o, W19.cell? ⟨kZM, o, none⟩ = #[Value.int IntKind.i64 a1, Value.int IntKind.i64 a2, Value.int IntKind.i64 a3, Value.int IntKind.i64 a4][o]? := fun o => by rw [hW19, alloc_cell, if_neg (by omega)]; exact cZM_18 o
    have cN_19 : ∀ o, W19.cell? ⟨kN, o, none⟩ = #[Value.int IntKind.i64 n1, Value.int IntKind.i64 n2, Value.int IntKind.i64 n3, Value.int IntKind.i64 n4][o]? := fun o => by rw [hW19, alloc_cell, if_neg (by omega)]; exact cN_18 o
    have cM_19 : ∀ o, W19.cell? ⟨kM, o, none⟩ = #[Value.int IntKind.i64 m1, Value.int IntKind.i64 m2, Value.int IntKind.i64 m3, Value.int IntKind.i64 m4][o]? := fun o => by rw [hW19, alloc_cell, if_neg (by omega)]; exact cM_18 o
    have cMM_19 : ∀ o, W19.cell? ⟨kMM, o, none⟩ = #[Value.int IntKind.i64 m1, Value.int IntKind.i64 m2, Value.int IntKind.i64 m3, Value.int IntKind.i64 m4][o]? := fun o => by rw [hW19, alloc_cell, if_neg (by omega)]; exact cMM_18 o
    have cC_19 : ∀ o, W19.cell? ⟨kC, o, none⟩ = #[Value.int IntKind.i64 c1, Value.int IntKind.i64 c2, Value.int IntKind.i64 c3, Value.int IntKind.i64 c4][o]? := fun o => by rw [hW19, alloc_cell, if_neg (by omega)]; exact cC_18 o
    have cD_19 : ∀ o, W19.cell? ⟨kD, o, none⟩ = #[Value.int IntKind.i64 d1, Value.int IntKind.i64 d2, Value.int IntKind.i64 d3, Value.int IntKind.i64 d4][o]? := fun o => by rw [hW19, alloc_cell, if_neg (by omega)]; exact cD_18 o
    have cDM_19 : ∀ o, W19.cell? ⟨kDM, o, none⟩ = #[Value.int IntKind.i64 d1, Value.int IntKind.i64 d2, Value.int IntKind.i64 d3, Value.int IntKind.i64 d4][o]? := fun o => by rw [hW19, alloc_cell, if_pos hkDM]
    have hG_19 : Hid (Ext w.heap.size w W19) := hid (by rw [hW19]; exact hG_18.out.alloc _)
    have l_19 : W19.heap.size = kDM + 1 := by rw [hW19]; simp; omega
    have qDM : kD < kDM := by omega
    rw [← hW19, ← hkDM]
    clear hW19 cX_18 cY_18 cZ_18 cZM_18 cN_18 cM_18 cMM_18 cC_18 cD_18 l_18 hG_18 hkDM
    refine via (BI.out _) ?_
    intro u15 zu15
    (try simp at zu15)
    by_cases h5 : a5 = 0
    case neg =>
      have h5' : (a5 == 0) = false := by simpa using h5
      have h5n : (a5 != 0) = true := by simpa using h5
      go_wp2_with fail
      go_ret
      exact ⟨by first | rfl | simp, Ext.bel (by repeat (with_reducible first | exact hG_19.out | apply Ext.aft | apply Ext.alloc))⟩
    subst h5
    obtain ⟨g1, g2, g3, g4, g5, g6⟩ := HA.out rfl
    have g7 : -120 ≤ x2 + y2 ∧ x2 + y2 ≤ 120 := by omega
    rcases (show (x4 < y4 ∧ a4 = x4) ∨ (x4 = y4 ∧ a4 = x4) ∨ (y4 < x4 ∧ a4 = y4) by omega) with ⟨q1, q2⟩ | ⟨q1, q2⟩ | ⟨q1, q2⟩
    all_goals clear g2
    case inl =>
      subst q2
      go_wp2_with fail
      go_ret
      exact ⟨by first | rfl | simp | (simp; omega), Ext.bel (by repeat (with_reducible first | exact hG_19.out | apply Ext.aft | apply Ext.alloc))⟩
    case inr.inl =>
      subst q2
      subst q1
      go_wp2_with fail
      go_ret
      exact ⟨by first | rfl | simp | (simp; omega), Ext.bel (by repeat (with_reducible first | exact hG_19.out | apply Ext.aft | apply Ext.alloc))⟩
    case inr.inr =>
      subst q2
      go_wp2_with fail
      go_ret
      exact ⟨by first | rfl | simp | (simp; omega), Ext.bel (by repeat (with_reducible first | exact hG_19.out | apply Ext.aft | apply Ext.alloc))⟩
  subst hd5
  obtain ⟨r1, r2, ⟨e1, e2⟩, r3, r4⟩ := HD.out rfl
  have R1 := hid r1
  have R2 := hid r2
  have f1 := (padic_facts r1)
  have b1 : -100 ≤ c2 + t ∧ c2 + t ≤ 100 := by omega
  have EI : Hid (∀ W : World, Calls Try.prog 24 #[.agg #[.int .i64 c1, .int .i64 c2, .int .i64 c3, .int .i64 c4], .agg #[.int .i64 d1, .int .i64 d2, .int .i64 d3, .int .i64 d4]] W fun e w' => e = .returned (.tuple #[.int .i64 e1, .int .i64 e2]) ∧ Below W.heap.size W w') := hid fun W => by have := i_AreEqualTo c1 c2 c3 c4 d1 d2 d3 d4 W; rw [r3] at this; exact this
  have EE : Hid (∀ W : World, Calls Try.prog 14 #[.agg #[.int .i64 d1, .int .i64 d2, .int .i64 d3, .int .i64 d4]] W fun e w' => e = .returned (.tuple #[.int .i64 (c2 + t), .int .i64 0]) ∧ Below W.heap.size W w') := hid fun W => by have := i_EndOf d1 d2 d3 d4 W R1.out; rw [R2.out] at this; exact this
  clear r1 r2 r3 f1
  have R4 := hid r4
  clear r4
  go_wp2_with fail
  clear zu9
  obtain ⟨W18, hW18⟩ : ∃ X, X = aft W17 u9 := ⟨_, rfl⟩
  have cX_18 : ∀ o, W18.cell? ⟨kX, o, none⟩ = #[Value.int IntKind.i64 x1, Value.int IntKind.i64 x2, Value.int IntKind.i64 x3, Value.int IntKind.i64 x4][o]? := fun o => by rw [hW18, aft_cell, if_pos (by omega)]; exact cX_17 o
  have cY_18 : ∀ o, W18.cell? ⟨kY, o, none⟩ = #[Value.int IntKind.i64 y1, Value.int IntKind.i64 y2, Value.int IntKind.i64 y3, Value.int IntKind.i64 y4][o]? := fun o => by rw [hW18, aft_cell, if_pos (by omega)]; exact cY_17 o
  have cZ_18 : ∀ o, W18.cell? ⟨kZ, o, none⟩ = #[Value.int IntKind.i64 a1, Value.int IntKind.i64 a2, Value.int IntKind.i64 a3, Value.int IntKind.i64 a4][o]? := fun o => by rw [hW18, aft_cell, if_pos (by omega)]; exact cZ_17 o
  have cZM_18 : ∀ o, W18.cell? ⟨kZM, o, none⟩ = #[Value.int IntKind.i64 a1, Value.int IntKind.i64 a2, Value.int IntKind.i64 a3, Value.int IntKind.i64 a4][o]? := fun o => by rw [hW18, aft_cell, if_pos (by omega)]; exact cZM_17 o
  have cN_18 : ∀ o, W18.cell? ⟨kN, o, none⟩ = #[Value.int IntKind.i64 n1, Value.int IntKind.i64 n2, Value.int IntKind.i64 n3, Value.int IntKind.i64 n4][o]? := fun o => by rw [hW18, aft_cell, if_pos (by omega)]; exact cN_17 o
  have cM_18 : ∀ o, W18.cell? ⟨kM, o, none⟩ = #[Value.int IntKind.i64 m1, Value.int IntKind.i64 m2, Value.int IntKind.i64 m3, Value.int IntKind.i64 m4][o]? := fun o => by rw [hW18, aft_cell, if_pos (by omega)]; exact cM_17 o
  have cMM_18 : ∀ o, W18.cell? ⟨kMM, o, none⟩ = #[Value.int IntKind.i64 m1, Value.int IntKind.i64 m2, Value.int IntKind.i64 m3, Value.int IntKind.i64 m4][o]? := fun o => by rw [hW18, aft_cell, if_pos (by omega)]; exact cMM_17 o
  have cC_18 : ∀ o, W18.cell? ⟨kC, o, none⟩ = #[Value.int IntKind.i64 c1, Value.int IntKind.i64 c2, Value.int IntKind.i64 c3, Value.int IntKind.i64 c4][o]? := fun o => by rw [hW18, aft_cell, if_pos (by omega)]; exact cC_17 o
  have cD_18 : ∀ o, W18.cell? ⟨kD, o, none⟩ = #[Value.int IntKind.i64 d1, Value.int IntKind.i64 d2, Value.int IntKind.i64 d3, Value.int IntKind.i64 d4][o]? := fun o => by rw [hW18, aft_cell, if_pos (by omega)]; exact cD_17 o
  have hG_18 : Hid (Ext w.heap.size w W18) := hid (by rw [hW18]; exact hG_17.out.aft _)
  have l_18 : kD + 1 ≤ W18.heap.size := by rw [hW18]; have := size_aft W17 u9; omega
  rw [← hW18]
  clear hW18 cX_17 cY_17 cZ_17 cZM_17 cN_17 cM_17 cMM_17 cC_17 cD_17 l_17 hG_17
  obtain ⟨kDM, hkDM⟩ : ∃ k, k = W18.heap.size := ⟨_, rfl⟩
  obtain ⟨W19, hW19⟩ : ∃ X, X = W18.alloc (Obj.cells #[Value.int IntKind.i64 d1, Value.int IntKind.i64 d2, Value.int IntKind.i64 d3, Value.int IntKind.i64 d4] 27) := ⟨_, rfl⟩
  have cX_19 : ∀ o, W19.cell? ⟨kX, o, none⟩ = #[Value.int IntKind.i64 x1, Value.int IntKind.i64 x2, Value.int IntKind.i64 x3, Value.int IntKind.i64 x4][o]? := fun o => by rw [hW19, alloc_cell, if_neg (by omega)]; exact cX_18 o
  have cY_19 : ∀ o, W19.cell? ⟨kY, o, none⟩ = #[Value.int IntKind.i64 y1, Value.int IntKind.i64 y2, Value.int IntKind.i64 y3, Value.int IntKind.i64 y4][o]? := fun o => by rw [hW19, alloc_cell, if_neg (by omega)]; exact cY_18 o
  have cZ_19 : ∀ o, W19.cell? ⟨kZ, o, none⟩ = #[Value.int IntKind.i64 a1, Value.int IntKind.i64 a2, Value.int IntKind.i64 a3, Value.int IntKind.i64 a4][o]? := fun o => by rw [hW19, alloc_cell, if_neg (by omega)]; exact cZ_18 o
  have cZM_19 : ∀ o, W19.cell? ⟨kZM, o, none⟩ = #[Value.int IntKind.i64 a1, Value.int IntKind.i64 a2, Value.int IntKind.i64 a3, Value.int IntKind.i64 a4][o]? := fun o => by rw [hW19, alloc_cell, if_neg (by omega)]; exact cZM_18 o
  have cN_19 : ∀ o, W19.cell? ⟨kN, o, none⟩ = #[Value.int IntKind.i64 n1, Value.int IntKind.i64 n2, Value.int IntKind.i64 n3, Value.int IntKind.i64 n4][o]? := fun o => by rw [hW19, alloc_cell, if_neg (by omega)]; exact cN_18 o
  have cM_19 : ∀ o, W19.cell? ⟨kM, o, none⟩ = #[Value.int IntKind.i64 m1, Value.int IntKind.i64 m2, Value.int IntKind.i64 m3, Value.int IntKind.i64 m4][o]? := fun o => by rw [hW19, alloc_cell, if_neg (by omega)]; exact cM_18 o
  have cMM_19 : ∀ o, W19.cell? ⟨kMM, o, none⟩ = #[Value.int IntKind.i64 m1, Value.int IntKind.i64 m2, Value.int IntKind.i64 m3, Value.int IntKind.i64 m4][o]? := fun o => by rw [hW19, alloc_cell, if_neg (by omega)]; exact cMM_18 o
  have cC_19 : ∀ o, W19.cell? ⟨kC, o, none⟩ = #[Value.int IntKind.i64 c1, Value.int IntKind.i64 c2, Value.int IntKind.i64 c3, Value.int IntKind.i64 c4][o]? := fun o => by rw [hW19, alloc_cell, if_neg (by omega)]; exact cC_18 o
  have cD_19 : ∀ o, W19.cell? ⟨kD, o, none⟩ = #[Value.int IntKind.i64 d1, Value.int IntKind.i64 d2, Value.int IntKind.i64 d3, Value.int IntKind.i64 d4][o]? := fun o => by rw [hW19, alloc_cell, if_neg (by omega)]; exact cD_18 o
  have cDM_19 : ∀ o, W19.cell? ⟨kDM, o, none⟩ = #[Value.int IntKind.i64 d1, Value.int IntKind.i64 d2, Value.int IntKind.i64 d3, Value.int IntKind.i64 d4][o]? := fun o => by rw [hW19, alloc_cell, if_pos hkDM]
  have hG_19 : Hid (Ext w.heap.size w W19) := hid (by rw [hW19]; exact hG_18.out.alloc _)
  have l_19 : W19.heap.size = kDM + 1 := by rw [hW19]; simp; omega
  have qDM : kD < kDM := by omega
  rw [← hW19, ← hkDM]
  clear hW19 cX_18 cY_18 cZ_18 cZM_18 cN_18 cM_18 cMM_18 cC_18 cD_18 l_18 hG_18 hkDM
  refine via (EI.out _) ?_
  intro u10 zu10
  (try simp at zu10)
  go_wp2_with fail
  clear zu10
  obtain ⟨W20, hW20⟩ : ∃ X, X = aft W19 u10 := ⟨_, rfl⟩
  have cX_20 : ∀ o, W20.cell? ⟨kX, o, none⟩ = #[Value.int IntKind.i64 x1, Value.int IntKind.i64 x2, Value.int IntKind.i64 x3, Value.int IntKind.i64 x4][o]? := fun o => by rw [hW20, aft_cell, if_pos (by omega)]; exact cX_19 o
  have cY_20 : ∀ o, W20.cell? ⟨kY, o, none⟩ = #[Value.int IntKind.i64 y1, Value.int IntKind.i64 y2, Value.int IntKind.i64 y3, Value.int IntKind.i64 y4][o]? := fun o => by rw [hW20, aft_cell, if_pos (by omega)]; exact cY_19 o
  have cZ_20 : ∀ o, W20.cell? ⟨kZ, o, none⟩ = #[Value.int IntKind.i64 a1, Value.int IntKind.i64 a2, Value.int IntKind.i64 a3, Value.int IntKind.i64 a4][o]? := fun o => by rw [hW20, aft_cell, if_pos (by omega)]; exact cZ_19 o
  have cZM_20 : ∀ o, W20.cell? ⟨kZM, o, none⟩ = #[Value.int IntKind.i64 a1, Value.int IntKind.i64 a2, Value.int IntKind.i64 a3, Value.int IntKind.i64 a4][o]? := fun o => by rw [hW20, aft_cell, if_pos (by omega)]; exact cZM_19 o
  have cN_20 : ∀ o, W20.cell? ⟨kN, o, none⟩ = #[Value.int IntKind.i64 n1, Value.int IntKind.i64 n2, Value.int IntKind.i64 n3, Value.int IntKind.i64 n4][o]? := fun o => by rw [hW20, aft_cell, if_pos (by omega)]; exact cN_19 o
  have cM_20 : ∀ o, W20.cell? ⟨kM, o, none⟩ = #[Value.int IntKind.i64 m1, Value.int IntKind.i64 m2, Value.int IntKind.i64 m3, Value.int IntKind.i64 m4][o]? := fun o => by rw [hW20, aft_cell, if_pos (by omega)]; exact cM_19 o
  have cMM_20 : ∀ o, W20.cell? ⟨kMM, o, none⟩ = #[Value.int IntKind.i64 m1, Value.int IntKind.i64 m2, Value.int IntKind.i64 m3, Value.int IntKind.i64 m4][o]? := fun o => by rw [hW20, aft_cell, if_pos (by omega)]; exact cMM_19 o
  have cC_20 : ∀ o, W20.cell? ⟨kC, o, none⟩ = #[Value.int IntKind.i64 c1, Value.int IntKind.i64 c2, Value.int IntKind.i64 c3, Value.int IntKind.i64 c4][o]? := fun o => by rw [hW20, aft_cell, if_pos (by omega)]; exact cC_19 o
  have cD_20 : ∀ o, W20.cell? ⟨kD, o, none⟩ = #[Value.int IntKind.i64 d1, Value.int IntKind.i64 d2, Value.int IntKind.i64 d3, Value.int IntKind.i64 d4][o]? := fun o => by rw [hW20, aft_cell, if_pos (by omega)]; exact cD_19 o
  have cDM_20 : ∀ o, W20.cell? ⟨kDM, o, none⟩ = #[Value.int IntKind.i64 d1, Value.int IntKind.i64 d2, Value.int IntKind.i64 d3, Value.int IntKind.i64 d4][o]? := fun o => by rw [hW20, aft_cell, if_pos (by omega)]; exact cDM_19 o
  have hG_20 : Hid (Ext w.heap.size w W20) := hid (by rw [hW20]; exact hG_19.out.aft _)
  have l_20 : kDM + 1 ≤ W20.heap.size := by rw [hW20]; have := size_aft W19 u10; omega
  rw [← hW20]
  clear hW20 cX_19 cY_19 cZ_19 cZM_19 cN_19 cM_19 cMM_19 cC_19 cD_19 cDM_19 l_19 hG_19
  refine via (EE.out _) ?_
  intro u11 zu11
  (try simp at zu11)
  rcases R4.out with r4 | r4
  case inl =>
    obtain ⟨s1, s2⟩ : e1 = c2 + t ∧ e2 = 0 := by simpa using r4
    clear r4 R4 EI
    subst s1
    subst s2
    by_cases hm5 : m5 = 0
    case neg =>
      have hm5' : (m5 == 0) = false := by simpa using hm5
      clear hm5
      by_cases h5 : a5 = 0
      case neg =>
        have h5' : (a5 == 0) = false := by simpa using h5
        have h5n : (a5 != 0) = true := by simpa using h5
        go_wp2_with fail
        go_ret
        exact ⟨by first | rfl | simp, Ext.bel (by repeat (with_reducible first | exact hG_20.out | apply Ext.aft | apply Ext.alloc))⟩
      subst h5
      obtain ⟨g1, g2, g3, g4, g5, g6⟩ := HA.out rfl
      have g7 : -120 ≤ x2 + y2 ∧ x2 + y2 ≤ 120 := by omega
      rcases (show (x4 < y4 ∧ a4 = x4) ∨ (x4 = y4 ∧ a4 = x4) ∨ (y4 < x4 ∧ a4 = y4) by omega) with ⟨q1, q2⟩ | ⟨q1, q2⟩ | ⟨q1, q2⟩
      all_goals clear g2
      case inl =>
        subst q2
        go_wp2_with fail
        go_ret
        exact ⟨by first | rfl | simp | (simp; omega), Ext.bel (by repeat (with_reducible first | exact hG_20.out | apply Ext.aft | apply Ext.alloc))⟩
      case inr.inl =>
        subst q2
        subst q1
        go_wp2_with fail
        go_ret
        exact ⟨by first | rfl | simp | (simp; omega), Ext.bel (by repeat (with_reducible first | exact hG_20.out | apply Ext.aft | apply Ext.alloc))⟩
      case inr.inr =>
        subst q2
        go_wp2_with fail
        go_ret
        exact ⟨by first | rfl | simp | (simp; omega), Ext.bel (by repeat (with_reducible first | exact hG_20.out | apply Ext.aft | apply Ext.alloc))⟩
    subst hm5
    have BI : Hid (∀ W : World, Calls Try.prog 27 #[.agg #[.int .i64 n1, .int .i64 n2, .int .i64 n3, .int .i64 n4], .agg #[.int .i64 m1, .int .i64 m2, .int .i64 m3, .int .i64 m4]] W fun e w' => e = .returned (.tuple #[.agg #[.int .i64 n1, .int .i64 0, .int .i64 1, .int .i64 n4], .int .i64 0]) ∧ Below W.heap.size W w') := hid fun W => by have := i_MultiplyPadics n1 n2 n3 n4 m1 m2 m3 m4 W; rw [HB.out rfl] at this; exact this
    go_wp2_with fail
    clear zu11
    obtain ⟨W21, hW21⟩ : ∃ X, X = aft W20 u11 := ⟨_, rfl⟩
    have cX_21 : ∀ o, W21.cell? ⟨kX, o, none⟩ = #[Value.int IntKind.i64 x1, Value.int IntKind.i64 x2, Value.int IntKind.i64 x3, Value.int IntKind.i64 x4][o]? := fun o => by rw [hW21, aft_cell, if_pos (by omega)]; exact cX_20 o
    have cY_21 : ∀ o, W21.cell? ⟨kY, o, none⟩ = #[Value.int IntKind.i64 y1, Value.int IntKind.i64 y2, Value.int IntKind.i64 y3, Value.int IntKind.i64 y4][o]? := fun o => by rw [hW21, aft_cell, if_pos (by omega)]; exact cY_20 o
    have cZ_21 : ∀ o, W21.cell? ⟨kZ, o, none⟩ = #[Value.int IntKind.i64 a1, Value.int IntKind.i64 a2, Value.int IntKind.i64 a3, Value.int IntKind.i64 a4][o]? := fun o => by rw [hW21, aft_cell, if_pos (by omega)]; exact cZ_20 o
    have cZM_21 : ∀ o, W21.cell? ⟨kZM, o, none⟩ = #[Value.int IntKind.i64 a1, Value.int IntKind.i64 a2, Value.int IntKind.i64 a3, Value.int IntKind.i64 a4][o]? := fun o => by rw [hW21, aft_cell, if_pos (by omega)]; exact cZM_20 o
    have cN_21 : ∀ o, W21.cell? ⟨kN, o, none⟩ = #[Value.int IntKind.i64 n1, Value.int IntKind.i64 n2, Value.int IntKind.i64 n3, Value.int IntKind.i64 n4][o]? := fun o => by rw [hW21, aft_cell, if_pos (by omega)]; exact cN_20 o
    have cM_21 : ∀ o, W21.cell? ⟨kM, o, none⟩ = #[Value.int IntKind.i64 m1, Value.int IntKind.i64 m2, Value.int IntKind.i64 m3, Value.int IntKind.i64 m4][o]? := fun o => by rw [hW21, aft_cell, if_pos (by omega)]; exact cM_20 o
    have cMM_21 : ∀ o, W21.cell? ⟨kMM, o, none⟩ = #[Value.int IntKind.i64 m1, Value.int IntKind.i64 m2, Value.int IntKind.i64 m3, Value.int IntKind.i64 m4][o]? := fun o => by rw [hW21, aft_cell, if_pos (by omega)]; exact cMM_20 o
    have cC_21 : ∀ o, W21.cell? ⟨kC, o, none⟩ = #[Value.int IntKind.i64 c1, Value.int IntKind.i64 c2, Value.int IntKind.i64 c3, Value.int IntKind.i64 c4][o]? := fun o => by rw [hW21, aft_cell, if_pos (by omega)]; exact cC_20 o
    have cD_21 : ∀ o, W21.cell? ⟨kD, o, none⟩ = #[Value.int IntKind.i64 d1, Value.int IntKind.i64 d2, Value.int IntKind.i64 d3, Value.int IntKind.i64 d4][o]? := fun o => by rw [hW21, aft_cell, if_pos (by omega)]; exact cD_20 o
    have cDM_21 : ∀ o, W21.cell? ⟨kDM, o, none⟩ = #[Value.int IntKind.i64 d1, Value.int IntKind.i64 d2, Value.int IntKind.i64 d3, Value.int IntKind.i64 d4][o]? := fun o => by rw [hW21, aft_cell, if_pos (by omega)]; exact cDM_20 o
    have hG_21 : Hid (Ext w.heap.size w W21) := hid (by rw [hW21]; exact hG_20.out.aft _)
    have l_21 : kDM + 1 ≤ W21.heap.size := by rw [hW21]; have := size_aft W20 u11; omega
    rw [← hW21]
    clear hW21 cX_20 cY_20 cZ_20 cZM_20 cN_20 cM_20 cMM_20 cC_20 cD_20 cDM_20 l_20 hG_20
    refine via (BI.out _) ?_
    intro u15 zu15
    (try simp at zu15)
    by_cases h5 : a5 = 0
    case neg =>
      have h5' : (a5 == 0) = false := by simpa using h5
      have h5n : (a5 != 0) = true := by simpa using h5
      go_wp2_with fail
      go_ret
      exact ⟨by first | rfl | simp, Ext.bel (by repeat (with_reducible first | exact hG_21.out | apply Ext.aft | apply Ext.alloc))⟩
    subst h5
    obtain ⟨g1, g2, g3, g4, g5, g6⟩ := HA.out rfl
    have g7 : -120 ≤ x2 + y2 ∧ x2 + y2 ≤ 120 := by omega
    rcases (show (x4 < y4 ∧ a4 = x4) ∨ (x4 = y4 ∧ a4 = x4) ∨ (y4 < x4 ∧ a4 = y4) by omega) with ⟨q1, q2⟩ | ⟨q1, q2⟩ | ⟨q1, q2⟩
    all_goals clear g2
    case inl =>
      subst q2
      go_wp2_with fail
      go_ret
      exact ⟨by first | rfl | simp | (simp; omega), Ext.bel (by repeat (with_reducible first | exact hG_21.out | apply Ext.aft | apply Ext.alloc))⟩
    case inr.inl =>
      subst q2
      subst q1
      go_wp2_with fail
      go_ret
      exact ⟨by first | rfl | simp | (simp; omega), Ext.bel (by repeat (with_reducible first | exact hG_21.out | apply Ext.aft | apply Ext.alloc))⟩
    case inr.inr =>
      subst q2
      go_wp2_with fail
      go_ret
      exact ⟨by first | rfl | simp | (simp; omega), Ext.bel (by repeat (with_reducible first | exact hG_21.out | apply Ext.aft | apply Ext.alloc))⟩
  case inr =>
    have s2 : e2 = 3 := r4
    clear r4 R4 EI
    subst s2
    by_cases hm5 : m5 = 0
    case neg =>
      have hm5' : (m5 == 0) = false := by simpa using hm5
      clear hm5
      by_cases h5 : a5 = 0
      case neg =>
        have h5' : (a5 == 0) = false := by simpa using h5
        have h5n : (a5 != 0) = true := by simpa using h5
        go_wp2_with fail
        go_ret
        exact ⟨by first | rfl | simp, Ext.bel (by repeat (with_reducible first | exact hG_20.out | apply Ext.aft | apply Ext.alloc))⟩
      subst h5
      obtain ⟨g1, g2, g3, g4, g5, g6⟩ := HA.out rfl
      have g7 : -120 ≤ x2 + y2 ∧ x2 + y2 ≤ 120 := by omega
      rcases (show (x4 < y4 ∧ a4 = x4) ∨ (x4 = y4 ∧ a4 = x4) ∨ (y4 < x4 ∧ a4 = y4) by omega) with ⟨q1, q2⟩ | ⟨q1, q2⟩ | ⟨q1, q2⟩
      all_goals clear g2
      case inl =>
        subst q2
        go_wp2_with fail
        go_ret
        exact ⟨by first | rfl | simp | (simp; omega), Ext.bel (by repeat (with_reducible first | exact hG_20.out | apply Ext.aft | apply Ext.alloc))⟩
      case inr.inl =>
        subst q2
        subst q1
        go_wp2_with fail
        go_ret
        exact ⟨by first | rfl | simp | (simp; omega), Ext.bel (by repeat (with_reducible first | exact hG_20.out | apply Ext.aft | apply Ext.alloc))⟩
      case inr.inr =>
        subst q2
        go_wp2_with fail
        go_ret
        exact ⟨by first | rfl | simp | (simp; omega), Ext.bel (by repeat (with_reducible first | exact hG_20.out | apply Ext.aft | apply Ext.alloc))⟩
    subst hm5
    have BI : Hid (∀ W : World, Calls Try.prog 27 #[.agg #[.int .i64 n1, .int .i64 n2, .int .i64 n3, .int .i64 n4], .agg #[.int .i64 m1, .int .i64 m2, .int .i64 m3, .int .i64 m4]] W fun e w' => e = .returned (.tuple #[.agg #[.int .i64 n1, .int .i64 0, .int .i64 1, .int .i64 n4], .int .i64 0]) ∧ Below W.heap.size W w') := hid fun W => by have := i_MultiplyPadics n1 n2 n3 n4 m1 m2 m3 m4 W; rw [HB.out rfl] at this; exact this
    go_wp2_with fail
    clear zu11
    obtain ⟨W21, hW21⟩ : ∃ X, X = aft W20 u11 := ⟨_, rfl⟩
    have cX_21 : ∀ o, W21.cell? ⟨kX, o, none⟩ = #[Value.int IntKind.i64 x1, Value.int IntKind.i64 x2, Value.int IntKind.i64 x3, Value.int IntKind.i64 x4][o]? := fun o => by rw [hW21, aft_cell, if_pos (by omega)]; exact cX_20 o
    have cY_21 : ∀ o, W21.cell? ⟨kY, o, none⟩ = #[Value.int IntKind.i64 y1, Value.int IntKind.i64 y2, Value.int IntKind.i64 y3, Value.int IntKind.i64 y4][o]? := fun o => by rw [hW21, aft_cell, if_pos (by omega)]; exact cY_20 o
    have cZ_21 : ∀ o, W21.cell? ⟨kZ, o, none⟩ = #[Value.int IntKind.i64 a1, Value.int IntKind.i64 a2, Value.int IntKind.i64 a3, Value.int IntKind.i64 a4][o]? := fun o => by rw [hW21, aft_cell, if_pos (by omega)]; exact cZ_20 o
    have cZM_21 : ∀ o, W21.cell? ⟨kZM, o, none⟩ = #[Value.int IntKind.i64 a1, Value.int IntKind.i64 a2, Value.int IntKind.i64 a3, Value.int IntKind.i64 a4][o]? := fun o => by rw [hW21, aft_cell, if_pos (by omega)]; exact cZM_20 o
    have cN_21 : ∀ o, W21.cell? ⟨kN, o, none⟩ = #[Value.int IntKind.i64 n1, Value.int IntKind.i64 n2, Value.int IntKind.i64 n3, Value.int IntKind.i64 n4][o]? := fun o => by rw [hW21, aft_cell, if_pos (by omega)]; exact cN_20 o
    have cM_21 : ∀ o, W21.cell? ⟨kM, o, none⟩ = #[Value.int IntKind.i64 m1, Value.int IntKind.i64 m2, Value.int IntKind.i64 m3, Value.int IntKind.i64 m4][o]? := fun o => by rw [hW21, aft_cell, if_pos (by omega)]; exact cM_20 o
    have cMM_21 : ∀ o, W21.cell? ⟨kMM, o, none⟩ = #[Value.int IntKind.i64 m1, Value.int IntKind.i64 m2, Value.int IntKind.i64 m3, Value.int IntKind.i64 m4][o]? := fun o => by rw [hW21, aft_cell, if_pos (by omega)]; exact cMM_20 o
    have cC_21 : ∀ o, W21.cell? ⟨kC, o, none⟩ = #[Value.int IntKind.i64 c1, Value.int IntKind.i64 c2, Value.int IntKind.i64 c3, Value.int IntKind.i64 c4][o]? := fun o => by rw [hW21, aft_cell, if_pos (by omega)]; exact cC_20 o
    have cD_21 : ∀ o, W21.cell? ⟨kD, o, none⟩ = #[Value.int IntKind.i64 d1, Value.int IntKind.i64 d2, Value.int IntKind.i64 d3, Value.int IntKind.i64 d4][o]? := fun o => by rw [hW21, aft_cell, if_pos (by omega)]; exact cD_20 o
    have cDM_21 : ∀ o, W21.cell? ⟨kDM, o, none⟩ = #[Value.int IntKind.i64 d1, Value.int IntKind.i64 d2, Value.int IntKind.i64 d3, Value.int IntKind.i64 d4][o]? := fun o => by rw [hW21, aft_cell, if_pos (by omega)]; exact cDM_20 o
    have hG_21 : Hid (Ext w.heap.size w W21) := hid (by rw [hW21]; exact hG_20.out.aft _)
    have l_21 : kDM + 1 ≤ W21.heap.size := by rw [hW21]; have := size_aft W20 u11; omega
    rw [← hW21]
    clear hW21 cX_20 cY_20 cZ_20 cZM_20 cN_20 cM_20 cMM_20 cC_20 cD_20 cDM_20 l_20 hG_20
    refine via (BI.out _) ?_
    intro u15 zu15
    (try simp at zu15)
    by_cases h5 : a5 = 0
    case neg =>
      have h5' : (a5 == 0) = false := by simpa using h5
      have h5n : (a5 != 0) = true := by simpa using h5
      go_wp2_with fail
      go_ret
      exact ⟨by first | rfl | simp, Ext.bel (by repeat (with_reducible first | exact hG_21.out | apply Ext.aft | apply Ext.alloc))⟩
    subst h5
    obtain ⟨g1, g2, g3, g4, g5, g6⟩ := HA.out rfl
    have g7 : -120 ≤ x2 + y2 ∧ x2 + y2 ≤ 120 := by omega
    rcases (show (x4 < y4 ∧ a4 = x4) ∨ (x4 = y4 ∧ a4 = x4) ∨ (y4 < x4 ∧ a4 = y4) by omega) with ⟨q1, q2⟩ | ⟨q1, q2⟩ | ⟨q1, q2⟩
    all_goals clear g2
    case inl =>
      subst q2
      go_wp2_with fail
      go_ret
      exact ⟨by first | rfl | simp | (simp; omega), Ext.bel (by repeat (with_reducible first | exact hG_21.out | apply Ext.aft | apply Ext.alloc))⟩
    case inr.inl =>
      subst q2
      subst q1
      go_wp2_with fail
      go_ret
      exact ⟨by first | rfl | simp | (simp; omega), Ext.bel (by repeat (with_reducible first | exact hG_21.out | apply Ext.aft | apply Ext.alloc))⟩
    case inr.inr =>
      subst q2
      go_wp2_with fail
      go_ret
      exact ⟨by first | rfl | simp | (simp; omega), Ext.bel (by repeat (with_reducible first | exact hG_21.out | apply Ext.aft | apply Ext.alloc))⟩
end Go.Proofs.Ytfbpkbnepojlnaa
