/- A number times its inverse, and orders: the law. (Printed by mkT46.py.) -/
import Derived.Test.YtcillfhkgckiaaaT45
import Derived.Test.YtcillfhkgckiaaaT12
namespace Go.Proofs.Ytcillfhkgckiaaa
open Go Go.RowKit

theorem unit_codes (p n a : Int) : (invF p n a).2 = unitF p n a ∧ (ordpF p n a).2 = unitF p n a := by
  by_cases h : unitF p n a = 0
  · simp [invF, ordpF, h]
  · simp [invF, ordpF, h]
set_option maxRecDepth 20000 in
set_option maxHeartbeats 32000000 in
theorem law_Inverses (a : Option Addr) (len cap : Nat) (w : World) (h : rdB w.heap.size w a len) :
    Calls Try.prog 5 #[.slice a len cap] w fun e w' => e = .returned (.bool true) ∧ Below w.heap.size w w' := by
  by_cases hl : len ≤ 4096
  case neg =>
    have hd : decide ((4096 : Int) < (len : Int)) = true := by simp; omega
    go_enter Try.func5, Try.ntmps5
    go_wp2_with (go_at_call 9; refine pur (l_big _ _ _ _) ?_)
    go_ret
    exact ⟨rfl, (by refine Ext.bel ?_; repeat (with_reducible first | exact Ext.refl _ | apply Ext.alloc | apply Ext.aft | apply Ext.drew | apply Ext.drewN | apply Ext.setCell | exact Nat.le_add_right _ _ | exact Nat.le_refl _ | (simp; done) | omega))⟩
  have hd : decide ((4096 : Int) < (len : Int)) = false := by simp; omega
  have H := hid h
  clear h
  go_enter Try.func5, Try.ntmps5
  go_wp2_with (go_at_call 9; refine pur (l_big _ _ _ _) ?_)
  have hG_0 : Hid (Ext w.heap.size w w) := hid (Ext.refl w)
  refine viaV (α := (Int × Int) × Int) (g := (fun z : (Int × Int) × Int => .tuple #[.agg #[.int .i64 z.1.1, .int .i64 z.1.2], .int .i64 z.2])) (s_DrawInverseOf w.heap.size a len cap _ (H.out.ext hG_0.out) hl hG_0.out.2) ?_
  intro zz u1 zu1
  (try simp at zu1)
  obtain ⟨⟨p, n⟩, x⟩ := zz
  dsimp only
  go_wp2_with fail
  clear zu1
  obtain ⟨W1, hW1⟩ : ∃ X, X = aft w u1 := ⟨_, rfl⟩
  have hG_1 : Hid (Ext w.heap.size w W1) := hid (by rw [hW1]; exact hG_0.out.aft _)
  rw [← hW1]
  clear hW1 hG_0
  obtain ⟨kR, hkR⟩ : ∃ k, k = W1.heap.size := ⟨_, rfl⟩
  obtain ⟨W2, hW2⟩ : ∃ X, X = W1.alloc (Obj.cells #[Value.int IntKind.i64 p, Value.int IntKind.i64 n] 26) := ⟨_, rfl⟩
  have cR_2 : ∀ o, W2.cell? ⟨kR, o, none⟩ = #[Value.int IntKind.i64 p, Value.int IntKind.i64 n][o]? := fun o => by rw [hW2, alloc_cell, if_pos hkR]
  have hG_2 : Hid (Ext w.heap.size w W2) := hid (by rw [hW2]; exact hG_1.out.alloc _)
  have l_2 : W2.heap.size = kR + 1 := by rw [hW2]; simp; omega
  rw [← hW2, ← hkR]
  clear hW2 hG_1 hkR
  obtain ⟨hu1, hu2⟩ := unit_codes p n x
  have HF := hid (@inverse_facts p n x)
  obtain ⟨U, hU⟩ : ∃ U, U = unitF p n x := ⟨_, rfl⟩
  rw [← hU] at hu1 hu2 HF
  obtain ⟨A, hA⟩ : ∃ rr, rr = invF p n x := ⟨_, rfl⟩
  obtain ⟨a1, a5⟩ := A
  have CI : Hid (∀ W : World, Calls Try.prog 21 #[.agg #[.int .i64 p, .int .i64 n], .int .i64 x] W fun e w' => e = .returned (.tuple #[.int .i64 a1, .int .i64 a5]) ∧ Below W.heap.size W w') := hid fun W => by have := i_InverseOf p n x W; rw [← hA] at this; exact this
  have CS : Hid (∀ W : World, Calls Try.prog 22 #[.agg #[.int .i64 p, .int .i64 n], .int .i64 x] W fun e w' => e = .returned (.tuple #[.int .i64 a1, .int .i64 a5]) ∧ Below W.heap.size W w') := hid fun W => by have := s_InverseOf p n x W; rw [← hA] at this; exact this
  obtain ⟨B, hB⟩ : ∃ rr, rr = ordpF p n x := ⟨_, rfl⟩
  obtain ⟨o1, o5⟩ := B
  have OI : Hid (∀ W : World, Calls Try.prog 8 #[.agg #[.int .i64 p, .int .i64 n], .int .i64 x] W fun e w' => e = .returned (.tuple #[.int .i64 o1, .int .i64 o5]) ∧ Below W.heap.size W w') := hid fun W => by have := i_OrderOf p n x W; rw [← hB] at this; exact this
  have OS : Hid (∀ W : World, Calls Try.prog 6 #[.agg #[.int .i64 p, .int .i64 n], .int .i64 x] W fun e w' => e = .returned (.tuple #[.int .i64 o1, .int .i64 o5]) ∧ Below W.heap.size W w') := hid fun W => by have := s_OrderOf p n x W; rw [← hB] at this; exact this
  obtain ⟨D, hD⟩ : ∃ rr, rr = cntF p n := ⟨_, rfl⟩
  obtain ⟨n1, n5⟩ := D
  have NI : Hid (∀ W : World, Calls Try.prog 23 #[.agg #[.int .i64 p, .int .i64 n]] W fun e w' => e = .returned (.tuple #[.int .i64 n1, .int .i64 n5]) ∧ Below W.heap.size W w') := hid fun W => by have := i_CountUnits p n W; rw [← hD] at this; exact this
  have NS : Hid (∀ W : World, Calls Try.prog 24 #[.agg #[.int .i64 p, .int .i64 n]] W fun e w' => e = .returned (.tuple #[.int .i64 n1, .int .i64 n5]) ∧ Below W.heap.size W w') := hid fun W => by have := s_CountUnits p n W; rw [← hD] at this; exact this
  obtain ⟨E, hE⟩ : ∃ rr, rr = mdlF p n := ⟨_, rfl⟩
  obtain ⟨m1, m5⟩ := E
  have MI : Hid (∀ W : World, Calls Try.prog 25 #[.agg #[.int .i64 p, .int .i64 n]] W fun e w' => e = .returned (.tuple #[.int .i64 m1, .int .i64 m5]) ∧ Below W.heap.size W w') := hid fun W => by have := i_ModulusOf p n W; rw [← hE] at this; exact this
  have MS : Hid (∀ W : World, Calls Try.prog 19 #[.agg #[.int .i64 p, .int .i64 n]] W fun e w' => e = .returned (.tuple #[.int .i64 m1, .int .i64 m5]) ∧ Below W.heap.size W w') := hid fun W => by have := s_ModulusOf p n W; rw [← hE] at this; exact this
  rw [← hA] at hu1
  rw [← hB] at hu2
  rw [← hA, ← hB, ← hD, ← hE] at HF
  simp only at hu1 hu2
  subst hu1
  subst hu2
  clear hA hB hD hE hU
  refine via (CI.out _) ?_
  intro u2 zu2
  (try simp at zu2)
  go_wp2_with fail
  clear zu2
  obtain ⟨W3, hW3⟩ : ∃ X, X = aft W2 u2 := ⟨_, rfl⟩
  have cR_3 : ∀ o, W3.cell? ⟨kR, o, none⟩ = #[Value.int IntKind.i64 p, Value.int IntKind.i64 n][o]? := fun o => by rw [hW3, aft_cell, if_pos (by omega)]; exact cR_2 o
  have hG_3 : Hid (Ext w.heap.size w W3) := hid (by rw [hW3]; exact hG_2.out.aft _)
  have l_3 : kR + 1 ≤ W3.heap.size := by rw [hW3]; have := size_aft W2 u2; omega
  rw [← hW3]
  clear hW3 cR_2 l_2 hG_2
  refine via (CS.out _) ?_
  intro u3 zu3
  (try simp at zu3)
  go_wp2_with fail
  clear zu3
  obtain ⟨W4, hW4⟩ : ∃ X, X = aft W3 u3 := ⟨_, rfl⟩
  have cR_4 : ∀ o, W4.cell? ⟨kR, o, none⟩ = #[Value.int IntKind.i64 p, Value.int IntKind.i64 n][o]? := fun o => by rw [hW4, aft_cell, if_pos (by omega)]; exact cR_3 o
  have hG_4 : Hid (Ext w.heap.size w W4) := hid (by rw [hW4]; exact hG_3.out.aft _)
  have l_4 : kR + 1 ≤ W4.heap.size := by rw [hW4]; have := size_aft W3 u3; omega
  rw [← hW4]
  clear hW4 cR_3 l_3 hG_3
  refine via (OI.out _) ?_
  intro u4 zu4
  (try simp at zu4)
  go_wp2_with fail
  clear zu4
  obtain ⟨W5, hW5⟩ : ∃ X, X = aft W4 u4 := ⟨_, rfl⟩
  have cR_5 : ∀ o, W5.cell? ⟨kR, o, none⟩ = #[Value.int IntKind.i64 p, Value.int IntKind.i64 n][o]? := fun o => by rw [hW5, aft_cell, if_pos (by omega)]; exact cR_4 o
  have hG_5 : Hid (Ext w.heap.size w W5) := hid (by rw [hW5]; exact hG_4.out.aft _)
  have l_5 : kR + 1 ≤ W5.heap.size := by rw [hW5]; have := size_aft W4 u4; omega
  rw [← hW5]
  clear hW5 cR_4 l_4 hG_4
  refine via (OS.out _) ?_
  intro u5 zu5
  (try simp at zu5)
  go_wp2_with fail
  clear zu5
  obtain ⟨W6, hW6⟩ : ∃ X, X = aft W5 u5 := ⟨_, rfl⟩
  have cR_6 : ∀ o, W6.cell? ⟨kR, o, none⟩ = #[Value.int IntKind.i64 p, Value.int IntKind.i64 n][o]? := fun o => by rw [hW6, aft_cell, if_pos (by omega)]; exact cR_5 o
  have hG_6 : Hid (Ext w.heap.size w W6) := hid (by rw [hW6]; exact hG_5.out.aft _)
  have l_6 : kR + 1 ≤ W6.heap.size := by rw [hW6]; have := size_aft W5 u5; omega
  rw [← hW6]
  clear hW6 cR_5 l_5 hG_5
  refine via (NI.out _) ?_
  intro u6 zu6
  (try simp at zu6)
  go_wp2_with fail
  clear zu6
  obtain ⟨W7, hW7⟩ : ∃ X, X = aft W6 u6 := ⟨_, rfl⟩
  have cR_7 : ∀ o, W7.cell? ⟨kR, o, none⟩ = #[Value.int IntKind.i64 p, Value.int IntKind.i64 n][o]? := fun o => by rw [hW7, aft_cell, if_pos (by omega)]; exact cR_6 o
  have hG_7 : Hid (Ext w.heap.size w W7) := hid (by rw [hW7]; exact hG_6.out.aft _)
  have l_7 : kR + 1 ≤ W7.heap.size := by rw [hW7]; have := size_aft W6 u6; omega
  rw [← hW7]
  clear hW7 cR_6 l_6 hG_6
  refine via (NS.out _) ?_
  intro u7 zu7
  (try simp at zu7)
  go_wp2_with fail
  clear zu7
  obtain ⟨W8, hW8⟩ : ∃ X, X = aft W7 u7 := ⟨_, rfl⟩
  have cR_8 : ∀ o, W8.cell? ⟨kR, o, none⟩ = #[Value.int IntKind.i64 p, Value.int IntKind.i64 n][o]? := fun o => by rw [hW8, aft_cell, if_pos (by omega)]; exact cR_7 o
  have hG_8 : Hid (Ext w.heap.size w W8) := hid (by rw [hW8]; exact hG_7.out.aft _)
  have l_8 : kR + 1 ≤ W8.heap.size := by rw [hW8]; have := size_aft W7 u7; omega
  rw [← hW8]
  clear hW8 cR_7 l_7 hG_7
  refine via (MI.out _) ?_
  intro u8 zu8
  (try simp at zu8)
  go_wp2_with fail
  clear zu8
  obtain ⟨W9, hW9⟩ : ∃ X, X = aft W8 u8 := ⟨_, rfl⟩
  have cR_9 : ∀ o, W9.cell? ⟨kR, o, none⟩ = #[Value.int IntKind.i64 p, Value.int IntKind.i64 n][o]? := fun o => by rw [hW9, aft_cell, if_pos (by omega)]; exact cR_8 o
  have hG_9 : Hid (Ext w.heap.size w W9) := hid (by rw [hW9]; exact hG_8.out.aft _)
  have l_9 : kR + 1 ≤ W9.heap.size := by rw [hW9]; have := size_aft W8 u8; omega
  rw [← hW9]
  clear hW9 cR_8 l_8 hG_8
  refine via (MS.out _) ?_
  intro u9 zu9
  (try simp at zu9)
  go_wp2_with fail
  clear zu9
  obtain ⟨W10, hW10⟩ : ∃ X, X = aft W9 u9 := ⟨_, rfl⟩
  have cR_10 : ∀ o, W10.cell? ⟨kR, o, none⟩ = #[Value.int IntKind.i64 p, Value.int IntKind.i64 n][o]? := fun o => by rw [hW10, aft_cell, if_pos (by omega)]; exact cR_9 o
  have hG_10 : Hid (Ext w.heap.size w W10) := hid (by rw [hW10]; exact hG_9.out.aft _)
  have l_10 : kR + 1 ≤ W10.heap.size := by rw [hW10]; have := size_aft W9 u9; omega
  rw [← hW10]
  clear hW10 cR_9 l_9 hG_9
  refine wp_region_calm (by kernel_rfl) (by kernel_rfl) ?_
  repeat (go_big_quiet_step (first | (go_at_call 26; exact calm (i_IsRing _ _ _)) | (go_at_call 27; exact calm (s_IsRing _ _ _))))
  refine wpQuiet_nil ?_; intro uq zq; try simp at zq
  by_cases h5 : o5 = 0
  case neg =>
    have h5' : (o5 == 0) = false := by simpa using h5
    have h5n : (o5 != 0) = true := by simpa using h5
    go_wp2_with fail
    go_ret
    exact ⟨by first | rfl | simp, Ext.bel (hG_10.out.aft _)⟩
  subst h5
  obtain ⟨x', o', u', M', e1, e2, e3, e4, hM, hax, hxb, hxb2, ho, hu, huo, hpw⟩ := HF.out rfl
  obtain rfl : a1 = x' := by injection e1
  obtain rfl : o1 = o' := by injection e2
  obtain ⟨e5, e6⟩ : n1 = u' ∧ n5 = 0 := by injection e3 with q1 q2; exact ⟨q1, q2⟩
  obtain ⟨e7, e8⟩ : m1 = M' ∧ m5 = 0 := by injection e4 with q1 q2; exact ⟨q1, q2⟩
  subst e5 e6 e7 e8
  clear e1 e2 e3 e4
  have PI : Hid (∀ W : World, Calls Try.prog 11 #[.agg #[.int .i64 p, .int .i64 n], .int .i64 x, .int .i64 o1] W fun e w' => e = .returned (.tuple #[.int .i64 1, .int .i64 0]) ∧ Below W.heap.size W w') := hid fun W => by have := i_PowerOf p n x o1 W; rw [hpw] at this; exact this
  have hm0 : 0 ≤ x * a1 := Int.mul_nonneg hxb.1 hxb2.1
  have hmb : x * a1 ≤ 1000000000 * 1000000000 := Int.mul_le_mul (by omega) (by omega) (by omega) (by omega)
  have hmt : (x * a1).tmod m1 = x * a1 % m1 := Int.tmod_eq_emod_of_nonneg hm0
  have hut : n1.tmod o1 = n1 % o1 := Int.tmod_eq_emod_of_nonneg (by omega)
  have M0 : (m1 == 0) = false := by rw [beq_eq_false_iff_ne]; omega
  have M1 : m1 ≠ 0 := by omega
  have O0 : (o1 == 0) = false := by rw [beq_eq_false_iff_ne]; omega
  have O1 : o1 ≠ 0 := by omega
  have O2 : decide (0 < o1) = true := by simp; omega
  clear hpw
  go_wp2_with fail
  refine via (PI.out _) ?_
  intro u20 zu20
  (try simp at zu20)
  go_wp2_with fail
  go_ret
  exact ⟨by first | rfl | simp, Ext.bel ((hG_10.out.aft _).aft _)⟩
end Go.Proofs.Ytcillfhkgckiaaa
