/- A number is the sum of its whole part and its fraction: the law. (Printed by mkT59.py.) -/
import Derived.Test.YtehdkbopkkgabaaT58
import Derived.Test.YtehdkbopkkgabaaT12
namespace Go.Proofs.Ytehdkbopkkgabaa
open Go Go.RowKit

theorem parts_law {p v u n : Int} {a1 a2 a3 a4 a5 N D c : Int} (hA : ((⟨a1, a2, a3, a4⟩, a5) : Pd × Int) = wpF p v u n) (hB : (N, D, c) = frF p v u n) :
    c = a5 ∧ (a5 = 0 → (0 ≤ N ∧ N < D ∧ D ≤ 1000000000) ∧ ratB N D = true ∧ 0 ≤ a2 ∧ (n = 0 → N = 0) ∧ (N ≠ 0 → popF N D p n = (⟨p, v, N, n⟩, 0) ∧ addpF p v N n a1 a2 a3 a4 = (⟨p, v, u, n⟩, 0))) := by
  cases h : padicB p v u n
  · have e1 : wpF p v u n = (⟨0, 0, 0, 0⟩, 1) := by simp [wpF, h]
    have e2 : frF p v u n = (0, 0, 1) := by simp [frF, h]
    rw [e1] at hA
    rw [e2] at hB
    have c1 : a5 = 1 := by injection hA
    have c2 : c = 1 := by injection hB with _ q; injection q
    exact ⟨by omega, fun q => by omega⟩
  by_cases he : v + n < 0
  · have e1 : wpF p v u n = (⟨0, 0, 0, 0⟩, 4) := by unfold wpF; rw [if_pos h, if_pos he]
    have e2 : frF p v u n = (0, 0, 4) := by unfold frF; rw [if_pos h, if_pos he]
    rw [e1] at hA
    rw [e2] at hB
    have c1 : a5 = 4 := by injection hA
    have c2 : c = 4 := by injection hB with _ q; injection q
    exact ⟨by omega, fun q => by omega⟩
  obtain ⟨N', D', e2, f1, f2, f3, f4, f5⟩ := parts_facts h (show 0 ≤ v + n by omega)
  have e1 : wpF p v u n = (wholeF p v u n, 0) := by unfold wpF; rw [if_pos h, if_neg he]
  rw [e1] at hA
  rw [e2] at hB
  obtain ⟨q1, q2⟩ : (⟨a1, a2, a3, a4⟩ : Pd) = wholeF p v u n ∧ a5 = 0 := by injection hA with q1 q2; exact ⟨q1, q2⟩
  obtain ⟨q3, q4, q5⟩ : N = N' ∧ D = D' ∧ c = 0 := by injection hB with q3 q4; injection q4 with q4 q5; exact ⟨q3, q4, q5⟩
  rw [← q1] at f3 f5
  rw [← q3, ← q4] at f1 f2 f5
  rw [← q3] at f4
  exact ⟨by omega, fun _ => ⟨f1, f2, f3, f4, f5⟩⟩
set_option maxRecDepth 20000 in
set_option maxHeartbeats 32000000 in
theorem law_Parts (a : Option Addr) (len cap : Nat) (w : World) (h : rdB w.heap.size w a len) :
    Calls Try.prog 5 #[.slice a len cap] w fun e w' => e = .returned (.bool true) ∧ Below w.heap.size w w' := by
  by_cases hl : len ≤ 4096
  case neg =>
    have hd : decide ((4096 : Int) < (len : Int)) = true := by simp; omega
    go_enter Try.func5, Try.ntmps5
    go_wp2_with (go_at_call 9; refine pur (l_big _ _ _ _) ?_)
    go_ret
    exact ⟨rfl, (by refine Ext.bel ?_; repeat (with_reducible first | exact Ext.refl _ | apply Ext.alloc | apply Ext.aft | apply Ext.drew | apply Ext.drewN | apply Ext.setCell | exact Nat.le_add_right _ _ | exact Nat.le_refl _ | (simp; done) | omega))⟩
  have hd : decide ((4096 : Int) < (len : Int)) = false := by simp; omega
  have H := hid h
  clear h
  go_enter Try.func5, Try.ntmps5
  go_wp2_with (go_at_call 9; refine pur (l_big _ _ _ _) ?_)
  have hG_0 : Hid (Ext w.heap.size w w) := hid (Ext.refl w)
  refine viaV (α := Pd) (g := (fun x : Pd => .agg #[.int .i64 x.p, .int .i64 x.v, .int .i64 x.u, .int .i64 x.n])) (s_DrawWholePart w.heap.size a len cap _ (H.out.ext hG_0.out) hl hG_0.out.2) ?_
  intro zz u1 zu1
  (try simp at zu1)
  obtain ⟨x1, x2, x3, x4⟩ := zz
  dsimp only
  go_wp2_with fail
  clear zu1
  obtain ⟨W1, hW1⟩ : ∃ X, X = aft w u1 := ⟨_, rfl⟩
  have hG_1 : Hid (Ext w.heap.size w W1) := hid (by rw [hW1]; exact hG_0.out.aft _)
  rw [← hW1]
  clear hW1 hG_0
  obtain ⟨kX, hkX⟩ : ∃ k, k = W1.heap.size := ⟨_, rfl⟩
  obtain ⟨W2, hW2⟩ : ∃ X, X = W1.alloc (Obj.cells #[Value.int IntKind.i64 x1, Value.int IntKind.i64 x2, Value.int IntKind.i64 x3, Value.int IntKind.i64 x4] 38) := ⟨_, rfl⟩
  have cX_2 : ∀ o, W2.cell? ⟨kX, o, none⟩ = #[Value.int IntKind.i64 x1, Value.int IntKind.i64 x2, Value.int IntKind.i64 x3, Value.int IntKind.i64 x4][o]? := fun o => by rw [hW2, alloc_cell, if_pos hkX]
  have hG_2 : Hid (Ext w.heap.size w W2) := hid (by rw [hW2]; exact hG_1.out.alloc _)
  have l_2 : W2.heap.size = kX + 1 := by rw [hW2]; simp; omega
  rw [← hW2, ← hkX]
  clear hW2 hG_1 hkX
  obtain ⟨A, hA⟩ : ∃ rr, rr = wpF x1 x2 x3 x4 := ⟨_, rfl⟩
  obtain ⟨⟨a1, a2, a3, a4⟩, a5⟩ := A
  have CI : Hid (∀ W : World, Calls Try.prog 35 #[.agg #[.int .i64 x1, .int .i64 x2, .int .i64 x3, .int .i64 x4]] W fun e w' => e = .returned (.tuple #[.agg #[.int .i64 a1, .int .i64 a2, .int .i64 a3, .int .i64 a4], .int .i64 a5]) ∧ Below W.heap.size W w') := hid fun W => by have := i_WholePart x1 x2 x3 x4 W; rw [← hA] at this; exact this
  have CS : Hid (∀ W : World, Calls Try.prog 36 #[.agg #[.int .i64 x1, .int .i64 x2, .int .i64 x3, .int .i64 x4]] W fun e w' => e = .returned (.tuple #[.agg #[.int .i64 a1, .int .i64 a2, .int .i64 a3, .int .i64 a4], .int .i64 a5]) ∧ Below W.heap.size W w') := hid fun W => by have := s_WholePart x1 x2 x3 x4 W; rw [← hA] at this; exact this
  obtain ⟨B, hB⟩ : ∃ rr, rr = frF x1 x2 x3 x4 := ⟨_, rfl⟩
  obtain ⟨N, D, c⟩ := B
  have FI : Hid (∀ W : World, Calls Try.prog 37 #[.agg #[.int .i64 x1, .int .i64 x2, .int .i64 x3, .int .i64 x4]] W fun e w' => e = .returned (.tuple #[.int .i64 N, .int .i64 D, .int .i64 c]) ∧ Below W.heap.size W w') := hid fun W => by have := i_FractionOf x1 x2 x3 x4 W; rw [← hB] at this; exact this
  have FS : Hid (∀ W : World, Calls Try.prog 38 #[.agg #[.int .i64 x1, .int .i64 x2, .int .i64 x3, .int .i64 x4]] W fun e w' => e = .returned (.tuple #[.int .i64 N, .int .i64 D, .int .i64 c]) ∧ Below W.heap.size W w') := hid fun W => by have := s_FractionOf x1 x2 x3 x4 W; rw [← hB] at this; exact this
  obtain ⟨hc, HF⟩ := parts_law hA hB
  subst hc
  have HF := hid HF
  clear hA hB
  refine via (CI.out _) ?_
  intro u2 zu2
  (try simp at zu2)
  go_wp2_with fail
  clear zu2
  obtain ⟨W3, hW3⟩ : ∃ X, X = aft W2 u2 := ⟨_, rfl⟩
  have cX_3 : ∀ o, W3.cell? ⟨kX, o, none⟩ = #[Value.int IntKind.i64 x1, Value.int IntKind.i64 x2, Value.int IntKind.i64 x3, Value.int IntKind.i64 x4][o]? := fun o => by rw [hW3, aft_cell, if_pos (by omega)]; exact cX_2 o
  have hG_3 : Hid (Ext w.heap.size w W3) := hid (by rw [hW3]; exact hG_2.out.aft _)
  have l_3 : kX + 1 ≤ W3.heap.size := by rw [hW3]; have := size_aft W2 u2; omega
  rw [← hW3]
  clear hW3 cX_2 l_2 hG_2
  obtain ⟨kA, hkA⟩ : ∃ k, k = W3.heap.size := ⟨_, rfl⟩
  obtain ⟨W4, hW4⟩ : ∃ X, X = W3.alloc (Obj.cells #[Value.int IntKind.i64 a1, Value.int IntKind.i64 a2, Value.int IntKind.i64 a3, Value.int IntKind.i64 a4] 38) := ⟨_, rfl⟩
  have cX_4 : ∀ o, W4.cell? ⟨kX, o, none⟩ = #[Value.int IntKind.i64 x1, Value.int IntKind.i64 x2, Value.int IntKind.i64 x3, Value.int IntKind.i64 x4][o]? := fun o => by rw [hW4, alloc_cell, if_neg (by omega)]; exact cX_3 o
  have cA_4 : ∀ o, W4.cell? ⟨kA, o, none⟩ = #[Value.int IntKind.i64 a1, Value.int IntKind.i64 a2, Value.int IntKind.i64 a3, Value.int IntKind.i64 a4][o]? := fun o => by rw [hW4, alloc_cell, if_pos hkA]
  have hG_4 : Hid (Ext w.heap.size w W4) := hid (by rw [hW4]; exact hG_3.out.alloc _)
  have l_4 : W4.heap.size = kA + 1 := by rw [hW4]; simp; omega
  have qA : kX < kA := by omega
  rw [← hW4, ← hkA]
  clear hW4 cX_3 l_3 hG_3 hkA
  refine via (CS.out _) ?_
  intro u3 zu3
  (try simp at zu3)
  go_wp2_with fail
  clear zu3
  obtain ⟨W5, hW5⟩ : ∃ X, X = aft W4 u3 := ⟨_, rfl⟩
  have cX_5 : ∀ o, W5.cell? ⟨kX, o, none⟩ = #[Value.int IntKind.i64 x1, Value.int IntKind.i64 x2, Value.int IntKind.i64 x3, Value.int IntKind.i64 x4][o]? := fun o => by rw [hW5, aft_cell, if_pos (by omega)]; exact cX_4 o
  have cA_5 : ∀ o, W5.cell? ⟨kA, o, none⟩ = #[Value.int IntKind.i64 a1, Value.int IntKind.i64 a2, Value.int IntKind.i64 a3, Value.int IntKind.i64 a4][o]? := fun o => by rw [hW5, aft_cell, if_pos (by omega)]; exact cA_4 o
  have hG_5 : Hid (Ext w.heap.size w W5) := hid (by rw [hW5]; exact hG_4.out.aft _)
  have l_5 : kA + 1 ≤ W5.heap.size := by rw [hW5]; have := size_aft W4 u3; omega
  rw [← hW5]
  clear hW5 cX_4 cA_4 l_4 hG_4
  obtain ⟨kAM, hkAM⟩ : ∃ k, k = W5.heap.size := ⟨_, rfl⟩
  obtain ⟨W6, hW6⟩ : ∃ X, X = W5.alloc (Obj.cells #[Value.int IntKind.i64 a1, Value.int IntKind.i64 a2, Value.int IntKind.i64 a3, Value.int IntKind.i64 a4] 38) := ⟨_, rfl⟩
  have cX_6 : ∀ o, W6.cell? ⟨kX, o, none⟩ = #[Value.int IntKind.i64 x1, Value.int IntKind.i64 x2, Value.int IntKind.i64 x3, Value.int IntKind.i64 x4][o]? := fun o => by rw [hW6, alloc_cell, if_neg (by omega)]; exact cX_5 o
  have cA_6 : ∀ o, W6.cell? ⟨kA, o, none⟩ = #[Value.int IntKind.i64 a1, Value.int IntKind.i64 a2, Value.int IntKind.i64 a3, Value.int IntKind.i64 a4][o]? := fun o => by rw [hW6, alloc_cell, if_neg (by omega)]; exact cA_5 o
  have cAM_6 : ∀ o, W6.cell? ⟨kAM, o, none⟩ = #[Value.int IntKind.i64 a1, Value.int IntKind.i64 a2, Value.int IntKind.i64 a3, Value.int IntKind.i64 a4][o]? := fun o => by rw [hW6, alloc_cell, if_pos hkAM]
  have hG_6 : Hid (Ext w.heap.size w W6) := hid (by rw [hW6]; exact hG_5.out.alloc _)
  have l_6 : W6.heap.size = kAM + 1 := by rw [hW6]; simp; omega
  have qAM : kA < kAM := by omega
  rw [← hW6, ← hkAM]
  clear hW6 cX_5 cA_5 l_5 hG_5 hkAM
  refine via (FI.out _) ?_
  intro u4 zu4
  (try simp at zu4)
  go_wp2_with fail
  clear zu4
  obtain ⟨W7, hW7⟩ : ∃ X, X = aft W6 u4 := ⟨_, rfl⟩
  have cX_7 : ∀ o, W7.cell? ⟨kX, o, none⟩ = #[Value.int IntKind.i64 x1, Value.int IntKind.i64 x2, Value.int IntKind.i64 x3, Value.int IntKind.i64 x4][o]? := fun o => by rw [hW7, aft_cell, if_pos (by omega)]; exact cX_6 o
  have cA_7 : ∀ o, W7.cell? ⟨kA, o, none⟩ = #[Value.int IntKind.i64 a1, Value.int IntKind.i64 a2, Value.int IntKind.i64 a3, Value.int IntKind.i64 a4][o]? := fun o => by rw [hW7, aft_cell, if_pos (by omega)]; exact cA_6 o
  have cAM_7 : ∀ o, W7.cell? ⟨kAM, o, none⟩ = #[Value.int IntKind.i64 a1, Value.int IntKind.i64 a2, Value.int IntKind.i64 a3, Value.int IntKind.i64 a4][o]? := fun o => by rw [hW7, aft_cell, if_pos (by omega)]; exact cAM_6 o
  have hG_7 : Hid (Ext w.heap.size w W7) := hid (by rw [hW7]; exact hG_6.out.aft _)
  have l_7 : kAM + 1 ≤ W7.heap.size := by rw [hW7]; have := size_aft W6 u4; omega
  rw [← hW7]
  clear hW7 cX_6 cA_6 cAM_6 l_6 hG_6
  by_cases hc : c = 0
  case neg =>
    have hc' : (c == 0) = false := by simpa using hc
    have hcn : (c != 0) = true := by simpa using hc
    refine via (FS.out _) ?_
    intro u5 zu5
    (try simp at zu5)
    go_wp2_with fail
    go_ret
    exact ⟨by first | rfl | simp, Ext.bel (hG_7.out.aft _)⟩
  subst hc
  obtain ⟨⟨n0, n1, n2⟩, hrat, hw, hz, HS⟩ := HF.out rfl
  have t1 : decide (N < 0) = false := by simp; omega
  have t2 : decide (D ≤ N) = false := by simp; omega
  have t3 : decide (a2 < 0) = false := by simp; omega
  have RI : Hid (∀ W : World, Calls Try.prog 39 #[.agg #[.int .i64 N, .int .i64 D]] W fun e w' => e = .returned (.bool true) ∧ Below W.heap.size W w') := hid fun W => by have := i_IsRational N D W; rw [hrat] at this; exact this
  have HS := hid HS
  clear HF hrat
  refine via (FS.out _) ?_
  intro u5 zu5
  (try simp at zu5)
  go_wp2_with fail
  clear zu5
  obtain ⟨W8, hW8⟩ : ∃ X, X = aft W7 u5 := ⟨_, rfl⟩
  have cX_8 : ∀ o, W8.cell? ⟨kX, o, none⟩ = #[Value.int IntKind.i64 x1, Value.int IntKind.i64 x2, Value.int IntKind.i64 x3, Value.int IntKind.i64 x4][o]? := fun o => by rw [hW8, aft_cell, if_pos (by omega)]; exact cX_7 o
  have cA_8 : ∀ o, W8.cell? ⟨kA, o, none⟩ = #[Value.int IntKind.i64 a1, Value.int IntKind.i64 a2, Value.int IntKind.i64 a3, Value.int IntKind.i64 a4][o]? := fun o => by rw [hW8, aft_cell, if_pos (by omega)]; exact cA_7 o
  have cAM_8 : ∀ o, W8.cell? ⟨kAM, o, none⟩ = #[Value.int IntKind.i64 a1, Value.int IntKind.i64 a2, Value.int IntKind.i64 a3, Value.int IntKind.i64 a4][o]? := fun o => by rw [hW8, aft_cell, if_pos (by omega)]; exact cAM_7 o
  have hG_8 : Hid (Ext w.heap.size w W8) := hid (by rw [hW8]; exact hG_7.out.aft _)
  have l_8 : kAM + 1 ≤ W8.heap.size := by rw [hW8]; have := size_aft W7 u5; omega
  rw [← hW8]
  clear hW8 cX_7 cA_7 cAM_7 l_7 hG_7
  by_cases hN : N = 0
  case pos =>
    subst hN
    refine via (RI.out _) ?_
    intro u6 zu6
    (try simp at zu6)
    go_wp2_with fail
    go_ret
    exact ⟨by first | rfl | simp, Ext.bel (hG_8.out.aft _)⟩
  have hN' : (N == 0) = false := by simpa using hN
  have hx4 : (x4 == 0) = false := by rw [beq_eq_false_iff_ne]; exact fun e => hN (hz e)
  obtain ⟨hpo, had⟩ := HS.out hN
  have PI : Hid (∀ W : World, Calls Try.prog 40 #[.agg #[.int .i64 N, .int .i64 D], .agg #[.int .i64 x1, .int .i64 x4]] W fun e w' => e = .returned (.tuple #[.agg #[.int .i64 x1, .int .i64 x2, .int .i64 N, .int .i64 x4], .int .i64 0]) ∧ Below W.heap.size W w') := hid fun W => by have := i_PadicOf N D x1 x4 W; rw [hpo] at this; exact this
  have AI : Hid (∀ W : World, Calls Try.prog 41 #[.agg #[.int .i64 x1, .int .i64 x2, .int .i64 N, .int .i64 x4], .agg #[.int .i64 a1, .int .i64 a2, .int .i64 a3, .int .i64 a4]] W fun e w' => e = .returned (.tuple #[.agg #[.int .i64 x1, .int .i64 x2, .int .i64 x3, .int .i64 x4], .int .i64 0]) ∧ Below W.heap.size W w') := hid fun W => by have := i_AddPadics x1 x2 N x4 a1 a2 a3 a4 W; rw [had] at this; exact this
  clear hz hN HS hpo had
  refine via (RI.out _) ?_
  intro u6 zu6
  (try simp at zu6)
  go_wp2_with fail
  clear zu6
  obtain ⟨W9, hW9⟩ : ∃ X, X = aft W8 u6 := ⟨_, rfl⟩
  have cX_9 : ∀ o, W9.cell? ⟨kX, o, none⟩ = #[Value.int IntKind.i64 x1, Value.int IntKind.i64 x2, Value.int IntKind.i64 x3, Value.int IntKind.i64 x4][o]? := fun o => by rw [hW9, aft_cell, if_pos (by omega)]; exact cX_8 o
  have cA_9 : ∀ o, W9.cell? ⟨kA, o, none⟩ = #[Value.int IntKind.i64 a1, Value.int IntKind.i64 a2, Value.int IntKind.i64 a3, Value.int IntKind.i64 a4][o]? := fun o => by rw [hW9, aft_cell, if_pos (by omega)]; exact cA_8 o
  have cAM_9 : ∀ o, W9.cell? ⟨kAM, o, none⟩ = #[Value.int IntKind.i64 a1, Value.int IntKind.i64 a2, Value.int IntKind.i64 a3, Value.int IntKind.i64 a4][o]? := fun o => by rw [hW9, aft_cell, if_pos (by omega)]; exact cAM_8 o
  have hG_9 : Hid (Ext w.heap.size w W9) := hid (by rw [hW9]; exact hG_8.out.aft _)
  have l_9 : kAM + 1 ≤ W9.heap.size := by rw [hW9]; have := size_aft W8 u6; omega
  rw [← hW9]
  clear hW9 cX_8 cA_8 cAM_8 l_8 hG_8
  refine via (PI.out _) ?_
  intro u7 zu7
  (try simp at zu7)
  go_wp2_with fail
  clear zu7
  obtain ⟨W10, hW10⟩ : ∃ X, X = aft W9 u7 := ⟨_, rfl⟩
  have cX_10 : ∀ o, W10.cell? ⟨kX, o, none⟩ = #[Value.int IntKind.i64 x1, Value.int IntKind.i64 x2, Value.int IntKind.i64 x3, Value.int IntKind.i64 x4][o]? := fun o => by rw [hW10, aft_cell, if_pos (by omega)]; exact cX_9 o
  have cA_10 : ∀ o, W10.cell? ⟨kA, o, none⟩ = #[Value.int IntKind.i64 a1, Value.int IntKind.i64 a2, Value.int IntKind.i64 a3, Value.int IntKind.i64 a4][o]? := fun o => by rw [hW10, aft_cell, if_pos (by omega)]; exact cA_9 o
  have cAM_10 : ∀ o, W10.cell? ⟨kAM, o, none⟩ = #[Value.int IntKind.i64 a1, Value.int IntKind.i64 a2, Value.int IntKind.i64 a3, Value.int IntKind.i64 a4][o]? := fun o => by rw [hW10, aft_cell, if_pos (by omega)]; exact cAM_9 o
  have hG_10 : Hid (Ext w.heap.size w W10) := hid (by rw [hW10]; exact hG_9.out.aft _)
  have l_10 : kAM + 1 ≤ W10.heap.size := by rw [hW10]; have := size_aft W9 u7; omega
  rw [← hW10]
  clear hW10 cX_9 cA_9 cAM_9 l_9 hG_9
  obtain ⟨kF, hkF⟩ : ∃ k, k = W10.heap.size := ⟨_, rfl⟩
  obtain ⟨W11, hW11⟩ : ∃ X, X = W10.alloc (Obj.cells #[Value.int IntKind.i64 x1, Value.int IntKind.i64 x2, Value.int IntKind.i64 N, Value.int IntKind.i64 x4] 38) := ⟨_, rfl⟩
  have cX_11 : ∀ o, W11.cell? ⟨kX, o, none⟩ = #[Value.int IntKind.i64 x1, Value.int IntKind.i64 x2, Value.int IntKind.i64 x3, Value.int IntKind.i64 x4][o]? := fun o => by rw [hW11, alloc_cell, if_neg (by omega)]; exact cX_10 o
  have cA_11 : ∀ o, W11.cell? ⟨kA, o, none⟩ = #[Value.int IntKind.i64 a1, Value.int IntKind.i64 a2, Value.int IntKind.i64 a3, Value.int IntKind.i64 a4][o]? := fun o => by rw [hW11, alloc_cell, if_neg (by omega)]; exact cA_10 o
  have cAM_11 : ∀ o, W11.cell? ⟨kAM, o, none⟩ = #[Value.int IntKind.i64 a1, Value.int IntKind.i64 a2, Value.int IntKind.i64 a3, Value.int IntKind.i64 a4][o]? := fun o => by rw [hW11, alloc_cell, if_neg (by omega)]; exact cAM_10 o
  have cF_11 : ∀ o, W11.cell? ⟨kF, o, none⟩ = #[Value.int IntKind.i64 x1, Value.int IntKind.i64 x2, Value.int IntKind.i64 N, Value.int IntKind.i64 x4][o]? := fun o => by rw [hW11, alloc_cell, if_pos hkF]
  have hG_11 : Hid (Ext w.heap.size w W11) := hid (by rw [hW11]; exact hG_10.out.alloc _)
  have l_11 : W11.heap.size = kF + 1 := by rw [hW11]; simp; omega
  have qF : kAM < kF := by omega
  rw [← hW11, ← hkF]
  clear hW11 cX_10 cA_10 cAM_10 l_10 hG_10 hkF
  refine via (AI.out _) ?_
  intro u8 zu8
  (try simp at zu8)
  go_wp2_with fail
  go_ret
  exact ⟨by first | rfl | simp, Ext.bel ((hG_11.out.aft _).alloc _)⟩
end Go.Proofs.Ytehdkbopkkgabaa
