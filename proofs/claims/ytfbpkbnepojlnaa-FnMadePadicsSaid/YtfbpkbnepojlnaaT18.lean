/- The number for an integer has its digits: the law. (Printed by mkT18.py.) -/
import Derived.Test.YtfbpkbnepojlnaaT17
import Derived.Test.YtfbpkbnepojlnaaT9
import Derived.Test.YtfbpkbnepojlnaaT10
namespace Go.Proofs.Ytfbpkbnepojlnaa
open Go Go.RowKit

theorem tmod_cases {n p : Int} (hp : 2 ≤ p) : (n.tmod p < 0 ∧ n.tmod p + p = n % p) ∨ (¬ n.tmod p < 0 ∧ n.tmod p = n % p) := by
  have h1 := Int.emod_nonneg n (show p ≠ 0 by omega)
  have h2 := Int.emod_lt_of_pos n (show 0 < p by omega)
  have h3 := Int.tmod_def n p
  have hb := @tmod_bd n p (by omega)
  rcases Int.lt_or_le (n.tmod p) 0 with h | h
  · left
    refine ⟨h, ?_⟩
    have h4 : (n.tmod p + p) % p = n % p := by
      rw [Int.add_emod_right, h3, Int.sub_emod, Int.mul_emod_right, Int.sub_zero, Int.emod_emod]
    rw [← h4, Int.emod_eq_of_lt (by omega) (by omega)]
  · right
    refine ⟨by omega, ?_⟩
    have h4 : n.tmod p % p = n % p := by
      rw [h3, Int.sub_emod, Int.mul_emod_right, Int.sub_zero, Int.emod_emod]
    rw [← h4, Int.emod_eq_of_lt h (by omega)]

set_option maxRecDepth 20000 in
set_option maxHeartbeats 16000000 in
theorem law_MadePadics (a : Option Addr) (len cap : Nat) (w : World) (h : rdB w.heap.size w a len) :
    Calls Try.prog 3 #[.slice a len cap] w fun e w' => e = .returned (.bool true) ∧ Below w.heap.size w w' := by
  by_cases hl : len ≤ 4096
  case neg =>
    have hd : decide ((4096 : Int) < (len : Int)) = true := by simp; omega
    go_enter Try.func3, Try.ntmps3
    go_wp2_with (go_at_call 6; refine pur (l_big _ _ _ _) ?_)
    go_ret
    exact ⟨rfl, (by refine Ext.bel ?_; repeat (with_reducible first | exact Ext.refl _ | apply Ext.alloc | apply Ext.aft | apply Ext.drew | apply Ext.drewN | apply Ext.setCell | exact Nat.le_add_right _ _ | exact Nat.le_refl _ | (simp; done) | omega))⟩
  have hd : decide ((4096 : Int) < (len : Int)) = false := by simp; omega
  have H := hid h
  clear h
  go_enter Try.func3, Try.ntmps3
  go_wp2_with (go_at_call 6; refine pur (l_big _ _ _ _) ?_)
  have hG_0 : Hid (Ext w.heap.size w w) := hid (Ext.refl w)
  refine viaV (α := Int × Int × Int) (g := fun z => .tuple #[.int .i64 z.1, .int .i64 z.2.1, .int .i64 z.2.2]) (s_DrawMakePadic w.heap.size a len cap _ (H.out.ext hG_0.out) hl hG_0.out.2) ?_
  intro zz u1 zu1
  obtain ⟨p, n, k⟩ := zz
  dsimp only
  go_wp2_with fail
  clear zu1
  obtain ⟨W1, hW1⟩ : ∃ X, X = aft w u1 := ⟨_, rfl⟩
  have hG_1 : Hid (Ext w.heap.size w W1) := hid (by rw [hW1]; exact hG_0.out.aft _)
  rw [← hW1]
  clear hW1 hG_0
  obtain ⟨A, hA⟩ : ∃ y, y = makpF p n k := ⟨_, rfl⟩
  obtain ⟨⟨a1, a2, a3, a4⟩, a5⟩ := A
  have CI : Hid (∀ W : World, Calls Try.prog 8 #[.int .i64 p, .int .i64 n, .int .i64 k] W fun e w' => e = .returned (.tuple #[.agg #[.int .i64 a1, .int .i64 a2, .int .i64 a3, .int .i64 a4], .int .i64 a5]) ∧ Below W.heap.size W w') := hid fun W => by have := i_MakePadic p n k W; rw [← hA] at this; exact this
  have CS : Hid (∀ W : World, Calls Try.prog 9 #[.int .i64 p, .int .i64 n, .int .i64 k] W fun e w' => e = .returned (.tuple #[.agg #[.int .i64 a1, .int .i64 a2, .int .i64 a3, .int .i64 a4], .int .i64 a5]) ∧ Below W.heap.size W w') := hid fun W => by have := s_MakePadic p n k W; rw [← hA] at this; exact this
  have HA : Hid (a5 = 0 → padicB a1 a2 a3 a4 = true ∧ digaF a1 a2 a3 a4 0 = (n % p, 0) ∧ 2 ≤ p ∧ p ≤ 97) := hid fun h0 => by
    have q1 := @makp_facts p n k (by rw [← hA]; exact h0)
    have q2 := @diga_makp p n k (by rw [← hA]; exact h0)
    rw [← hA] at q1 q2
    exact ⟨q1.1, q2, q1.2.2.2.1.1, q1.2.2.2.1.2⟩
  clear hA
  refine via (CI.out _) ?_
  intro u2 zu2
  (try simp at zu2)
  go_wp2_with fail
  clear zu2
  obtain ⟨W2, hW2⟩ : ∃ X, X = aft W1 u2 := ⟨_, rfl⟩
  have hG_2 : Hid (Ext w.heap.size w W2) := hid (by rw [hW2]; exact hG_1.out.aft _)
  rw [← hW2]
  clear hW2 hG_1
  obtain ⟨kZ, hkZ⟩ : ∃ k, k = W2.heap.size := ⟨_, rfl⟩
  obtain ⟨W3, hW3⟩ : ∃ X, X = W2.alloc (Obj.cells #[Value.int IntKind.i64 a1, Value.int IntKind.i64 a2, Value.int IntKind.i64 a3, Value.int IntKind.i64 a4] 27) := ⟨_, rfl⟩
  have cZ_3 : ∀ o, W3.cell? ⟨kZ, o, none⟩ = #[Value.int IntKind.i64 a1, Value.int IntKind.i64 a2, Value.int IntKind.i64 a3, Value.int IntKind.i64 a4][o]? := fun o => by rw [hW3, alloc_cell, if_pos hkZ]
  have hG_3 : Hid (Ext w.heap.size w W3) := hid (by rw [hW3]; exact hG_2.out.alloc _)
  have l_3 : W3.heap.size = kZ + 1 := by rw [hW3]; simp; omega
  rw [← hW3, ← hkZ]
  clear hW3 hG_2 hkZ
  refine via (CS.out _) ?_
  intro u3 zu3
  (try simp at zu3)
  go_wp2_with fail
  clear zu3
  obtain ⟨W4, hW4⟩ : ∃ X, X = aft W3 u3 := ⟨_, rfl⟩
  have cZ_4 : ∀ o, W4.cell? ⟨kZ, o, none⟩ = #[Value.int IntKind.i64 a1, Value.int IntKind.i64 a2, Value.int IntKind.i64 a3, Value.int IntKind.i64 a4][o]? := fun o => by rw [hW4, aft_cell, if_pos (by omega)]; exact cZ_3 o
  have hG_4 : Hid (Ext w.heap.size w W4) := hid (by rw [hW4]; exact hG_3.out.aft _)
  have l_4 : kZ + 1 ≤ W4.heap.size := by rw [hW4]; have := size_aft W3 u3; omega
  rw [← hW4]
  clear hW4 cZ_3 l_3 hG_3
  obtain ⟨kZM, hkZM⟩ : ∃ k, k = W4.heap.size := ⟨_, rfl⟩
  obtain ⟨W5, hW5⟩ : ∃ X, X = W4.alloc (Obj.cells #[Value.int IntKind.i64 a1, Value.int IntKind.i64 a2, Value.int IntKind.i64 a3, Value.int IntKind.i64 a4] 27) := ⟨_, rfl⟩
  have cZ_5 : ∀ o, W5.cell? ⟨kZ, o, none⟩ = #[Value.int IntKind.i64 a1, Value.int IntKind.i64 a2, Value.int IntKind.i64 a3, Value.int IntKind.i64 a4][o]? := fun o => by rw [hW5, alloc_cell, if_neg (by omega)]; exact cZ_4 o
  have cZM_5 : ∀ o, W5.cell? ⟨kZM, o, none⟩ = #[Value.int IntKind.i64 a1, Value.int IntKind.i64 a2, Value.int IntKind.i64 a3, Value.int IntKind.i64 a4][o]? := fun o => by rw [hW5, alloc_cell, if_pos hkZM]
  have hG_5 : Hid (Ext w.heap.size w W5) := hid (by rw [hW5]; exact hG_4.out.alloc _)
  have l_5 : W5.heap.size = kZM + 1 := by rw [hW5]; simp; omega
  have qZM : kZ < kZM := by omega
  rw [← hW5, ← hkZM]
  clear hW5 cZ_4 l_4 hG_4 hkZM
  refine viaW (α := Pd × Int) (g := fun z => .tuple #[(fun x : Pd => .agg #[.int .i64 x.p, .int .i64 x.v, .int .i64 x.u, .int .i64 x.n]) z.1, .int .i64 z.2]) (s_DrawDigitAt w.heap.size a len cap _ (H.out.ext hG_5.out) hl hG_5.out.2) ?_
  intro zz u4 ht zu4
  (try simp at zu4)
  obtain ⟨⟨y1, y2, y3, y4⟩, t⟩ := zz
  dsimp only at ht ⊢
  go_wp2_with fail
  clear zu4
  obtain ⟨W6, hW6⟩ : ∃ X, X = aft W5 u4 := ⟨_, rfl⟩
  have cZ_6 : ∀ o, W6.cell? ⟨kZ, o, none⟩ = #[Value.int IntKind.i64 a1, Value.int IntKind.i64 a2, Value.int IntKind.i64 a3, Value.int IntKind.i64 a4][o]? := fun o => by rw [hW6, aft_cell, if_pos (by omega)]; exact cZ_5 o
  have cZM_6 : ∀ o, W6.cell? ⟨kZM, o, none⟩ = #[Value.int IntKind.i64 a1, Value.int IntKind.i64 a2, Value.int IntKind.i64 a3, Value.int IntKind.i64 a4][o]? := fun o => by rw [hW6, aft_cell, if_pos (by omega)]; exact cZM_5 o
  have hG_6 : Hid (Ext w.heap.size w W6) := hid (by rw [hW6]; exact hG_5.out.aft _)
  have l_6 : kZM + 1 ≤ W6.heap.size := by rw [hW6]; have := size_aft W5 u4; omega
  rw [← hW6]
  clear hW6 cZ_5 cZM_5 l_5 hG_5
  obtain ⟨kY, hkY⟩ : ∃ k, k = W6.heap.size := ⟨_, rfl⟩
  obtain ⟨W7, hW7⟩ : ∃ X, X = W6.alloc (Obj.cells #[Value.int IntKind.i64 y1, Value.int IntKind.i64 y2, Value.int IntKind.i64 y3, Value.int IntKind.i64 y4] 27) := ⟨_, rfl⟩
  have cZ_7 : ∀ o, W7.cell? ⟨kZ, o, none⟩ = #[Value.int IntKind.i64 a1, Value.int IntKind.i64 a2, Value.int IntKind.i64 a3, Value.int IntKind.i64 a4][o]? := fun o => by rw [hW7, alloc_cell, if_neg (by omega)]; exact cZ_6 o
  have cZM_7 : ∀ o, W7.cell? ⟨kZM, o, none⟩ = #[Value.int IntKind.i64 a1, Value.int IntKind.i64 a2, Value.int IntKind.i64 a3, Value.int IntKind.i64 a4][o]? := fun o => by rw [hW7, alloc_cell, if_neg (by omega)]; exact cZM_6 o
  have cY_7 : ∀ o, W7.cell? ⟨kY, o, none⟩ = #[Value.int IntKind.i64 y1, Value.int IntKind.i64 y2, Value.int IntKind.i64 y3, Value.int IntKind.i64 y4][o]? := fun o => by rw [hW7, alloc_cell, if_pos hkY]
  have hG_7 : Hid (Ext w.heap.size w W7) := hid (by rw [hW7]; exact hG_6.out.alloc _)
  have l_7 : W7.heap.size = kY + 1 := by rw [hW7]; simp; omega
  have qY : kZM < kY := by omega
  rw [← hW7, ← hkY]
  clear hW7 cZ_6 cZM_6 l_6 hG_6 hkY
  obtain ⟨D, hD⟩ : ∃ y, y = digaF y1 y2 y3 y4 t := ⟨_, rfl⟩
  obtain ⟨d1, d2⟩ := D
  have DI : Hid (∀ W : World, Calls Try.prog 11 #[.agg #[.int .i64 y1, .int .i64 y2, .int .i64 y3, .int .i64 y4], .int .i64 t] W fun e w' => e = .returned (.tuple #[.int .i64 d1, .int .i64 d2]) ∧ Below W.heap.size W w') := hid fun W => by have := i_DigitAt y1 y2 y3 y4 t W ht; rw [← hD] at this; exact this
  have DS : Hid (∀ W : World, Calls Try.prog 12 #[.agg #[.int .i64 y1, .int .i64 y2, .int .i64 y3, .int .i64 y4], .int .i64 t] W fun e w' => e = .returned (.tuple #[.int .i64 d1, .int .i64 d2]) ∧ Below W.heap.size W w') := hid fun W => by have := s_DigitAt y1 y2 y3 y4 t W ht; rw [← hD] at this; exact this
  have HD : Hid (d2 = 0 → 0 ≤ d1 ∧ d1 < y1) := hid fun h0 => by
    have q1 := @diga_facts y1 y2 y3 y4 t (by rw [← hD]; exact h0)
    rw [← hD] at q1
    exact q1.2
  clear hD ht
  refine via (DI.out _) ?_
  intro u5 zu5
  (try simp at zu5)
  go_wp2_with fail
  clear zu5
  obtain ⟨W8, hW8⟩ : ∃ X, X = aft W7 u5 := ⟨_, rfl⟩
  have cZ_8 : ∀ o, W8.cell? ⟨kZ, o, none⟩ = #[Value.int IntKind.i64 a1, Value.int IntKind.i64 a2, Value.int IntKind.i64 a3, Value.int IntKind.i64 a4][o]? := fun o => by rw [hW8, aft_cell, if_pos (by omega)]; exact cZ_7 o
  have cZM_8 : ∀ o, W8.cell? ⟨kZM, o, none⟩ = #[Value.int IntKind.i64 a1, Value.int IntKind.i64 a2, Value.int IntKind.i64 a3, Value.int IntKind.i64 a4][o]? := fun o => by rw [hW8, aft_cell, if_pos (by omega)]; exact cZM_7 o
  have cY_8 : ∀ o, W8.cell? ⟨kY, o, none⟩ = #[Value.int IntKind.i64 y1, Value.int IntKind.i64 y2, Value.int IntKind.i64 y3, Value.int IntKind.i64 y4][o]? := fun o => by rw [hW8, aft_cell, if_pos (by omega)]; exact cY_7 o
  have hG_8 : Hid (Ext w.heap.size w W8) := hid (by rw [hW8]; exact hG_7.out.aft _)
  have l_8 : kY + 1 ≤ W8.heap.size := by rw [hW8]; have := size_aft W7 u5; omega
  rw [← hW8]
  clear hW8 cZ_7 cZM_7 cY_7 l_7 hG_7
  refine via (DS.out _) ?_
  intro u6 zu6
  (try simp at zu6)
  go_wp2_with fail
  clear zu6
  obtain ⟨W9, hW9⟩ : ∃ X, X = aft W8 u6 := ⟨_, rfl⟩
  have cZ_9 : ∀ o, W9.cell? ⟨kZ, o, none⟩ = #[Value.int IntKind.i64 a1, Value.int IntKind.i64 a2, Value.int IntKind.i64 a3, Value.int IntKind.i64 a4][o]? := fun o => by rw [hW9, aft_cell, if_pos (by omega)]; exact cZ_8 o
  have cZM_9 : ∀ o, W9.cell? ⟨kZM, o, none⟩ = #[Value.int IntKind.i64 a1, Value.int IntKind.i64 a2, Value.int IntKind.i64 a3, Value.int IntKind.i64 a4][o]? := fun o => by rw [hW9, aft_cell, if_pos (by omega)]; exact cZM_8 o
  have cY_9 : ∀ o, W9.cell? ⟨kY, o, none⟩ = #[Value.int IntKind.i64 y1, Value.int IntKind.i64 y2, Value.int IntKind.i64 y3, Value.int IntKind.i64 y4][o]? := fun o => by rw [hW9, aft_cell, if_pos (by omega)]; exact cY_8 o
  have hG_9 : Hid (Ext w.heap.size w W9) := hid (by rw [hW9]; exact hG_8.out.aft _)
  have l_9 : kY + 1 ≤ W9.heap.size := by rw [hW9]; have := size_aft W8 u6; omega
  rw [← hW9]
  clear hW9 cZ_8 cZM_8 cY_8 l_8 hG_8
  refine viaV (α := Pd) (g := (fun x : Pd => .agg #[.int .i64 x.p, .int .i64 x.v, .int .i64 x.u, .int .i64 x.n])) (s_DrawEndOf w.heap.size a len cap _ (H.out.ext hG_9.out) hl hG_9.out.2) ?_
  intro zz u7 zu7
  (try simp at zu7)
  obtain ⟨e1, e2, e3, e4⟩ := zz
  dsimp only
  go_wp2_with fail
  clear zu7
  obtain ⟨W10, hW10⟩ : ∃ X, X = aft W9 u7 := ⟨_, rfl⟩
  have cZ_10 : ∀ o, W10.cell? ⟨kZ, o, none⟩ = #[Value.int IntKind.i64 a1, Value.int IntKind.i64 a2, Value.int IntKind.i64 a3, Value.int IntKind.i64 a4][o]? := fun o => by rw [hW10, aft_cell, if_pos (by omega)]; exact cZ_9 o
  have cZM_10 : ∀ o, W10.cell? ⟨kZM, o, none⟩ = #[Value.int IntKind.i64 a1, Value.int IntKind.i64 a2, Value.int IntKind.i64 a3, Value.int IntKind.i64 a4][o]? := fun o => by rw [hW10, aft_cell, if_pos (by omega)]; exact cZM_9 o
  have cY_10 : ∀ o, W10.cell? ⟨kY, o, none⟩ = #[Value.int IntKind.i64 y1, Value.int IntKind.i64 y2, Value.int IntKind.i64 y3, Value.int IntKind.i64 y4][o]? := fun o => by rw [hW10, aft_cell, if_pos (by omega)]; exact cY_9 o
  have hG_10 : Hid (Ext w.heap.size w W10) := hid (by rw [hW10]; exact hG_9.out.aft _)
  have l_10 : kY + 1 ≤ W10.heap.size := by rw [hW10]; have := size_aft W9 u7; omega
  rw [← hW10]
  clear hW10 cZ_9 cZM_9 cY_9 l_9 hG_9
  obtain ⟨kE, hkE⟩ : ∃ k, k = W10.heap.size := ⟨_, rfl⟩
  obtain ⟨W11, hW11⟩ : ∃ X, X = W10.alloc (Obj.cells #[Value.int IntKind.i64 e1, Value.int IntKind.i64 e2, Value.int IntKind.i64 e3, Value.int IntKind.i64 e4] 27) := ⟨_, rfl⟩
  have cZ_11 : ∀ o, W11.cell? ⟨kZ, o, none⟩ = #[Value.int IntKind.i64 a1, Value.int IntKind.i64 a2, Value.int IntKind.i64 a3, Value.int IntKind.i64 a4][o]? := fun o => by rw [hW11, alloc_cell, if_neg (by omega)]; exact cZ_10 o
  have cZM_11 : ∀ o, W11.cell? ⟨kZM, o, none⟩ = #[Value.int IntKind.i64 a1, Value.int IntKind.i64 a2, Value.int IntKind.i64 a3, Value.int IntKind.i64 a4][o]? := fun o => by rw [hW11, alloc_cell, if_neg (by omega)]; exact cZM_10 o
  have cY_11 : ∀ o, W11.cell? ⟨kY, o, none⟩ = #[Value.int IntKind.i64 y1, Value.int IntKind.i64 y2, Value.int IntKind.i64 y3, Value.int IntKind.i64 y4][o]? := fun o => by rw [hW11, alloc_cell, if_neg (by omega)]; exact cY_10 o
  have cE_11 : ∀ o, W11.cell? ⟨kE, o, none⟩ = #[Value.int IntKind.i64 e1, Value.int IntKind.i64 e2, Value.int IntKind.i64 e3, Value.int IntKind.i64 e4][o]? := fun o => by rw [hW11, alloc_cell, if_pos hkE]
  have hG_11 : Hid (Ext w.heap.size w W11) := hid (by rw [hW11]; exact hG_10.out.alloc _)
  have l_11 : W11.heap.size = kE + 1 := by rw [hW11]; simp; omega
  have qE : kY < kE := by omega
  rw [← hW11, ← hkE]
  clear hW11 cZ_10 cZM_10 cY_10 l_10 hG_10 hkE
  obtain ⟨G, hG⟩ : ∃ y, y = endF e1 e2 e3 e4 := ⟨_, rfl⟩
  obtain ⟨g1, g2⟩ := G
  have EI : Hid (∀ W : World, Calls Try.prog 14 #[.agg #[.int .i64 e1, .int .i64 e2, .int .i64 e3, .int .i64 e4]] W fun e w' => e = .returned (.tuple #[.int .i64 g1, .int .i64 g2]) ∧ Below W.heap.size W w') := hid fun W => by have := i_EndOfA e1 e2 e3 e4 W; rw [← hG] at this; exact this
  have ES : Hid (∀ W : World, Calls Try.prog 15 #[.agg #[.int .i64 e1, .int .i64 e2, .int .i64 e3, .int .i64 e4]] W fun e w' => e = .returned (.tuple #[.int .i64 g1, .int .i64 g2]) ∧ Below W.heap.size W w') := hid fun W => by have := s_EndOfA e1 e2 e3 e4 W; rw [← hG] at this; exact this
  clear hG
  refine via (EI.out _) ?_
  intro u8 zu8
  (try simp at zu8)
  go_wp2_with fail
  clear zu8
  obtain ⟨W12, hW12⟩ : ∃ X, X = aft W11 u8 := ⟨_, rfl⟩
  have cZ_12 : ∀ o, W12.cell? ⟨kZ, o, none⟩ = #[Value.int IntKind.i64 a1, Value.int IntKind.i64 a2, Value.int IntKind.i64 a3, Value.int IntKind.i64 a4][o]? := fun o => by rw [hW12, aft_cell, if_pos (by omega)]; exact cZ_11 o
  have cZM_12 : ∀ o, W12.cell? ⟨kZM, o, none⟩ = #[Value.int IntKind.i64 a1, Value.int IntKind.i64 a2, Value.int IntKind.i64 a3, Value.int IntKind.i64 a4][o]? := fun o => by rw [hW12, aft_cell, if_pos (by omega)]; exact cZM_11 o
  have cY_12 : ∀ o, W12.cell? ⟨kY, o, none⟩ = #[Value.int IntKind.i64 y1, Value.int IntKind.i64 y2, Value.int IntKind.i64 y3, Value.int IntKind.i64 y4][o]? := fun o => by rw [hW12, aft_cell, if_pos (by omega)]; exact cY_11 o
  have cE_12 : ∀ o, W12.cell? ⟨kE, o, none⟩ = #[Value.int IntKind.i64 e1, Value.int IntKind.i64 e2, Value.int IntKind.i64 e3, Value.int IntKind.i64 e4][o]? := fun o => by rw [hW12, aft_cell, if_pos (by omega)]; exact cE_11 o
  have hG_12 : Hid (Ext w.heap.size w W12) := hid (by rw [hW12]; exact hG_11.out.aft _)
  have l_12 : kE + 1 ≤ W12.heap.size := by rw [hW12]; have := size_aft W11 u8; omega
  rw [← hW12]
  clear hW12 cZ_11 cZM_11 cY_11 cE_11 l_11 hG_11
  refine via (ES.out _) ?_
  intro u9 zu9
  clear zu9
  obtain ⟨W13, hW13⟩ : ∃ X, X = aft W12 u9 := ⟨_, rfl⟩
  have cZ_13 : ∀ o, W13.cell? ⟨kZ, o, none⟩ = #[Value.int IntKind.i64 a1, Value.int IntKind.i64 a2, Value.int IntKind.i64 a3, Value.int IntKind.i64 a4][o]? := fun o => by rw [hW13, aft_cell, if_pos (by omega)]; exact cZ_12 o
  have cZM_13 : ∀ o, W13.cell? ⟨kZM, o, none⟩ = #[Value.int IntKind.i64 a1, Value.int IntKind.i64 a2, Value.int IntKind.i64 a3, Value.int IntKind.i64 a4][o]? := fun o => by rw [hW13, aft_cell, if_pos (by omega)]; exact cZM_12 o
  have cY_13 : ∀ o, W13.cell? ⟨kY, o, none⟩ = #[Value.int IntKind.i64 y1, Value.int IntKind.i64 y2, Value.int IntKind.i64 y3, Value.int IntKind.i64 y4][o]? := fun o => by rw [hW13, aft_cell, if_pos (by omega)]; exact cY_12 o
  have cE_13 : ∀ o, W13.cell? ⟨kE, o, none⟩ = #[Value.int IntKind.i64 e1, Value.int IntKind.i64 e2, Value.int IntKind.i64 e3, Value.int IntKind.i64 e4][o]? := fun o => by rw [hW13, aft_cell, if_pos (by omega)]; exact cE_12 o
  have hG_13 : Hid (Ext w.heap.size w W13) := hid (by rw [hW13]; exact hG_12.out.aft _)
  have l_13 : kE + 1 ≤ W13.heap.size := by rw [hW13]; have := size_aft W12 u9; omega
  rw [← hW13]
  clear hW13 cZ_12 cZM_12 cY_12 cE_12 l_12 hG_12
  by_cases h6 : d2 = 0
  case neg =>
    have h6' : (d2 == 0) = false := by simpa using h6
    clear h6
    by_cases h5 : a5 = 0
    case neg =>
      have h5' : (a5 == 0) = false := by simpa using h5
      clear h5
      go_wp2_with fail
      go_ret
      exact ⟨rfl, Ext.bel hG_13.out⟩
    subst h5
    obtain ⟨q1, q2, q3, q4⟩ := HA.out rfl
    have BI : Hid (∀ W : World, Calls Try.prog 11 #[.agg #[.int .i64 a1, .int .i64 a2, .int .i64 a3, .int .i64 a4], .int .i64 0] W fun e w' => e = .returned (.tuple #[.int .i64 (n % p), .int .i64 0]) ∧ Below W.heap.size W w') := hid fun W => by have := i_DigitAt a1 a2 a3 a4 0 W (by omega); rw [q2] at this; exact this
    have Q1 := hid q1
    have q5 := Int.emod_nonneg n (show p ≠ 0 by omega)
    have hr := @tmod_cases n p (by omega)
    have p0 : (p == 0) = false := by rw [beq_eq_false_iff_ne]; omega
    have q6 := Int.emod_lt_of_pos n (show 0 < p by omega)
    clear q1 q2
    rcases hr with ⟨hr1, hr2⟩ | ⟨hr1, hr2⟩
    case inl =>
      go_wp2_with fail
      refine via (BI.out _) ?_
      intro u20 zu20
      (try simp at zu20)
      go_wp2_with fail
      clear zu20
      obtain ⟨W14, hW14⟩ : ∃ X, X = aft W13 u20 := ⟨_, rfl⟩
      have cZ_14 : ∀ o, W14.cell? ⟨kZ, o, none⟩ = #[Value.int IntKind.i64 a1, Value.int IntKind.i64 a2, Value.int IntKind.i64 a3, Value.int IntKind.i64 a4][o]? := fun o => by rw [hW14, aft_cell, if_pos (by omega)]; exact cZ_13 o
      have cZM_14 : ∀ o, W14.cell? ⟨kZM, o, none⟩ = #[Value.int IntKind.i64 a1, Value.int IntKind.i64 a2, Value.int IntKind.i64 a3, Value.int IntKind.i64 a4][o]? := fun o => by rw [hW14, aft_cell, if_pos (by omega)]; exact cZM_13 o
      have cY_14 : ∀ o, W14.cell? ⟨kY, o, none⟩ = #[Value.int IntKind.i64 y1, Value.int IntKind.i64 y2, Value.int IntKind.i64 y3, Value.int IntKind.i64 y4][o]? := fun o => by rw [hW14, aft_cell, if_pos (by omega)]; exact cY_13 o
      have cE_14 : ∀ o, W14.cell? ⟨kE, o, none⟩ = #[Value.int IntKind.i64 e1, Value.int IntKind.i64 e2, Value.int IntKind.i64 e3, Value.int IntKind.i64 e4][o]? := fun o => by rw [hW14, aft_cell, if_pos (by omega)]; exact cE_13 o
      have hG_14 : Hid (Ext w.heap.size w W14) := hid (by rw [hW14]; exact hG_13.out.aft _)
      have l_14 : kE + 1 ≤ W14.heap.size := by rw [hW14]; have := size_aft W13 u20; omega
      rw [← hW14]
      clear hW14 cZ_13 cZM_13 cY_13 cE_13 l_13 hG_13
      refine via (i_IsPadic _ _ _ _ _) ?_
      intro u21 z21
      (try simp at z21)
      rw [Q1.out]
      go_wp2_with fail
      go_ret
      exact ⟨by simp, Ext.bel (hG_14.out.aft _)⟩
    case inr =>
      go_wp2_with fail
      refine via (BI.out _) ?_
      intro u20 zu20
      (try simp at zu20)
      go_wp2_with fail
      clear zu20
      obtain ⟨W14, hW14⟩ : ∃ X, X = aft W13 u20 := ⟨_, rfl⟩
      have cZ_14 : ∀ o, W14.cell? ⟨kZ, o, none⟩ = #[Value.int IntKind.i64 a1, Value.int IntKind.i64 a2, Value.int IntKind.i64 a3, Value.int IntKind.i64 a4][o]? := fun o => by rw [hW14, aft_cell, if_pos (by omega)]; exact cZ_13 o
      have cZM_14 : ∀ o, W14.cell? ⟨kZM, o, none⟩ = #[Value.int IntKind.i64 a1, Value.int IntKind.i64 a2, Value.int IntKind.i64 a3, Value.int IntKind.i64 a4][o]? := fun o => by rw [hW14, aft_cell, if_pos (by omega)]; exact cZM_13 o
      have cY_14 : ∀ o, W14.cell? ⟨kY, o, none⟩ = #[Value.int IntKind.i64 y1, Value.int IntKind.i64 y2, Value.int IntKind.i64 y3, Value.int IntKind.i64 y4][o]? := fun o => by rw [hW14, aft_cell, if_pos (by omega)]; exact cY_13 o
      have cE_14 : ∀ o, W14.cell? ⟨kE, o, none⟩ = #[Value.int IntKind.i64 e1, Value.int IntKind.i64 e2, Value.int IntKind.i64 e3, Value.int IntKind.i64 e4][o]? := fun o => by rw [hW14, aft_cell, if_pos (by omega)]; exact cE_13 o
      have hG_14 : Hid (Ext w.heap.size w W14) := hid (by rw [hW14]; exact hG_13.out.aft _)
      have l_14 : kE + 1 ≤ W14.heap.size := by rw [hW14]; have := size_aft W13 u20; omega
      rw [← hW14]
      clear hW14 cZ_13 cZM_13 cY_13 cE_13 l_13 hG_13
      refine via (i_IsPadic _ _ _ _ _) ?_
      intro u21 z21
      (try simp at z21)
      rw [Q1.out]
      go_wp2_with fail
      go_ret
      exact ⟨by simp, Ext.bel (hG_14.out.aft _)⟩
  subst h6
  obtain ⟨r1, r2⟩ := HD.out rfl
  by_cases h5 : a5 = 0
  case neg =>
    have h5' : (a5 == 0) = false := by simpa using h5
    clear h5
    go_wp2_with fail
    go_ret
    exact ⟨rfl, Ext.bel hG_13.out⟩
  subst h5
  obtain ⟨q1, q2, q3, q4⟩ := HA.out rfl
  have BI : Hid (∀ W : World, Calls Try.prog 11 #[.agg #[.int .i64 a1, .int .i64 a2, .int .i64 a3, .int .i64 a4], .int .i64 0] W fun e w' => e = .returned (.tuple #[.int .i64 (n % p), .int .i64 0]) ∧ Below W.heap.size W w') := hid fun W => by have := i_DigitAt a1 a2 a3 a4 0 W (by omega); rw [q2] at this; exact this
  have Q1 := hid q1
  have q5 := Int.emod_nonneg n (show p ≠ 0 by omega)
  have hr := @tmod_cases n p (by omega)
  have p0 : (p == 0) = false := by rw [beq_eq_false_iff_ne]; omega
  have q6 := Int.emod_lt_of_pos n (show 0 < p by omega)
  clear q1 q2
  rcases hr with ⟨hr1, hr2⟩ | ⟨hr1, hr2⟩
  case inl =>
    go_wp2_with fail
    refine via (BI.out _) ?_
    intro u20 zu20
    (try simp at zu20)
    go_wp2_with fail
    clear zu20
    obtain ⟨W14, hW14⟩ : ∃ X, X = aft W13 u20 := ⟨_, rfl⟩
    have cZ_14 : ∀ o, W14.cell? ⟨kZ, o, none⟩ = #[Value.int IntKind.i64 a1, Value.int IntKind.i64 a2, Value.int IntKind.i64 a3, Value.int IntKind.i64 a4][o]? := fun o => by rw [hW14, aft_cell, if_pos (by omega)]; exact cZ_13 o
    have cZM_14 : ∀ o, W14.cell? ⟨kZM, o, none⟩ = #[Value.int IntKind.i64 a1, Value.int IntKind.i64 a2, Value.int IntKind.i64 a3, Value.int IntKind.i64 a4][o]? := fun o => by rw [hW14, aft_cell, if_pos (by omega)]; exact cZM_13 o
    have cY_14 : ∀ o, W14.cell? ⟨kY, o, none⟩ = #[Value.int IntKind.i64 y1, Value.int IntKind.i64 y2, Value.int IntKind.i64 y3, Value.int IntKind.i64 y4][o]? := fun o => by rw [hW14, aft_cell, if_pos (by omega)]; exact cY_13 o
    have cE_14 : ∀ o, W14.cell? ⟨kE, o, none⟩ = #[Value.int IntKind.i64 e1, Value.int IntKind.i64 e2, Value.int IntKind.i64 e3, Value.int IntKind.i64 e4][o]? := fun o => by rw [hW14, aft_cell, if_pos (by omega)]; exact cE_13 o
    have hG_14 : Hid (Ext w.heap.size w W14) := hid (by rw [hW14]; exact hG_13.out.aft _)
    have l_14 : kE + 1 ≤ W14.heap.size := by rw [hW14]; have := size_aft W13 u20; omega
    rw [← hW14]
    clear hW14 cZ_13 cZM_13 cY_13 cE_13 l_13 hG_13
    refine via (i_IsPadic _ _ _ _ _) ?_
    intro u21 z21
    (try simp at z21)
    rw [Q1.out]
    go_wp2_with fail
    go_ret
    exact ⟨by simp, Ext.bel (hG_14.out.aft _)⟩
  case inr =>
    go_wp2_with fail
    refine via (BI.out _) ?_
    intro u20 zu20
    (try simp at zu20)
    go_wp2_with fail
    clear zu20
    obtain ⟨W14, hW14⟩ : ∃ X, X = aft W13 u20 := ⟨_, rfl⟩
    have cZ_14 : ∀ o, W14.cell? ⟨kZ, o, none⟩ = #[Value.int IntKind.i64 a1, Value.int IntKind.i64 a2, Value.int IntKind.i64 a3, Value.int IntKind.i64 a4][o]? := fun o => by rw [hW14, aft_cell, if_pos (by omega)]; exact cZ_13 o
    have cZM_14 : ∀ o, W14.cell? ⟨kZM, o, none⟩ = #[Value.int IntKind.i64 a1, Value.int IntKind.i64 a2, Value.int IntKind.i64 a3, Value.int IntKind.i64 a4][o]? := fun o => by rw [hW14, aft_cell, if_pos (by omega)]; exact cZM_13 o
    have cY_14 : ∀ o, W14.cell? ⟨kY, o, none⟩ = #[Value.int IntKind.i64 y1, Value.int IntKind.i64 y2, Value.int IntKind.i64 y3, Value.int IntKind.i64 y4][o]? := fun o => by rw [hW14, aft_cell, if_pos (by omega)]; exact cY_13 o
    have cE_14 : ∀ o, W14.cell? ⟨kE, o, none⟩ = #[Value.int IntKind.i64 e1, Value.int IntKind.i64 e2, Value.int IntKind.i64 e3, Value.int IntKind.i64 e4][o]? := fun o => by rw [hW14, aft_cell, if_pos (by omega)]; exact cE_13 o
    have hG_14 : Hid (Ext w.heap.size w W14) := hid (by rw [hW14]; exact hG_13.out.aft _)
    have l_14 : kE + 1 ≤ W14.heap.size := by rw [hW14]; have := size_aft W13 u20; omega
    rw [← hW14]
    clear hW14 cZ_13 cZM_13 cY_13 cE_13 l_13 hG_13
    refine via (i_IsPadic _ _ _ _ _) ?_
    intro u21 z21
    (try simp at z21)
    rw [Q1.out]
    go_wp2_with fail
    go_ret
    exact ⟨by simp, Ext.bel (hG_14.out.aft _)⟩
end Go.Proofs.Ytfbpkbnepojlnaa
