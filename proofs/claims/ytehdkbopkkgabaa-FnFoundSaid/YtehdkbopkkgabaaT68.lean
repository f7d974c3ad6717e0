/- A small rational number is found again from its p-adic number: the law. (Printed by mkT68.py.) -/
import Derived.Test.YtehdkbopkkgabaaT66
import Derived.Test.YtehdkbopkkgabaaT67
import Derived.Test.YtehdkbopkkgabaaT62
import Derived.Test.YtehdkbopkkgabaaT12
namespace Go.Proofs.Ytehdkbopkkgabaa
open Go Go.RowKit

theorem eq_rat (a b a' b' : Int) (w : World) : (binOp .eql 57 (.agg #[.int .i64 a, .int .i64 b]) (.agg #[.int .i64 a', .int .i64 b'])).run Try.prog w = .ok (.bool (a == a' && b == b')) w := by
  have u3 := Try.underlying2
  have hS : Try.prog.underlying 57 = some (.struct (Try.prog.fieldsOf 57)) := by kernel_rfl
  have hp : Try.prog.stoodInHeld 57 = false := by kernel_rfl
  rw [run_eql_struct, show (10000 : Nat) = 9999 + 1 from rfl, run_equalIn_agg w 9999 57 _ _ hS hp]
  simp only [Program.fieldsOf, Try.underlying57]
  go_simp
  by_cases h1 : a = a' <;> by_cases h2 : b = b' <;> simp [h1, h2]
theorem ne_rat (a b a' b' : Int) (w : World) : (binOp .neq 57 (.agg #[.int .i64 a, .int .i64 b]) (.agg #[.int .i64 a', .int .i64 b'])).run Try.prog w = .ok (.bool (!(a == a' && b == b'))) w := by
  have h := eq_rat a b a' b' w
  rw [run_eql_struct] at h
  rw [run_neq_struct]
  generalize ((Op.equalIn 10000 57 (.agg #[.int .i64 a, .int .i64 b]) (.agg #[.int .i64 a', .int .i64 b'])).run Try.prog w) = r at h ⊢
  cases r <;> simp [Result.andThen] at h ⊢
  obtain ⟨h1, h2⟩ := h
  subst h1 h2
  exact ⟨rfl, rfl⟩
attribute [go_sem high] eq_rat ne_rat
theorem guard_rat (op : BinOp) (x y : Operand) (a b : Array Value) (w : World) : (eqGuard op 57 x y (.agg a) (.agg b)).run Try.prog w = .ok () w := run_eqGuard_agg w op 57 x y a b (by kernel_rfl)
attribute [go_sem high] guard_rat
set_option maxRecDepth 20000 in
set_option maxHeartbeats 32000000 in
theorem law_Found (a : Option Addr) (len cap : Nat) (w : World) (h : rdB w.heap.size w a len) :
    Calls Try.prog 6 #[.slice a len cap] w fun e w' => e = .returned (.bool true) ∧ Below w.heap.size w w' := by
  by_cases hl : len ≤ 4096
  case neg =>
    have hd : decide ((4096 : Int) < (len : Int)) = true := by simp; omega
    go_enter Try.func6, Try.ntmps6
    go_wp2_with (go_at_call 9; refine pur (l_big _ _ _ _) ?_)
    go_ret
    exact ⟨rfl, (by refine Ext.bel ?_; repeat (with_reducible first | exact Ext.refl _ | apply Ext.alloc | apply Ext.aft | apply Ext.drew | apply Ext.drewN | apply Ext.setCell | exact Nat.le_add_right _ _ | exact Nat.le_refl _ | (simp; done) | omega))⟩
  have hd : decide ((4096 : Int) < (len : Int)) = false := by simp; omega
  have H := hid h
  clear h
  go_enter Try.func6, Try.ntmps6
  go_wp2_with (go_at_call 9; refine pur (l_big _ _ _ _) ?_)
  have hG_0 : Hid (Ext w.heap.size w w) := hid (Ext.refl w)
  refine viaV (α := Pd) (g := (fun x : Pd => .agg #[.int .i64 x.p, .int .i64 x.v, .int .i64 x.u, .int .i64 x.n])) (s_DrawFindRational w.heap.size a len cap _ (H.out.ext hG_0.out) hl hG_0.out.2) ?_
  intro zz u1 zu1
  (try simp at zu1)
  obtain ⟨x1, x2, x3, x4⟩ := zz
  dsimp only
  go_wp2_with fail
  clear zu1
  obtain ⟨W1, hW1⟩ : ∃ X, X = aft w u1 := ⟨_, rfl⟩
  have hG_1 : Hid (Ext w.heap.size w W1) := hid (by rw [hW1]; exact hG_0.out.aft _)
  rw [← hW1]
  clear hW1 hG_0
  obtain ⟨kX, hkX⟩ : ∃ k, k = W1.heap.size := ⟨_, rfl⟩
  obtain ⟨W2, hW2⟩ : ∃ X, X = W1.alloc (Obj.cells #[Value.int IntKind.i64 x1, Value.int IntKind.i64 x2, Value.int IntKind.i64 x3, Value.int IntKind.i64 x4] 38) := ⟨_, rfl⟩
  have cX_2 : ∀ o, W2.cell? ⟨kX, o, none⟩ = #[Value.int IntKind.i64 x1, Value.int IntKind.i64 x2, Value.int IntKind.i64 x3, Value.int IntKind.i64 x4][o]? := fun o => by rw [hW2, alloc_cell, if_pos hkX]
  have hG_2 : Hid (Ext w.heap.size w W2) := hid (by rw [hW2]; exact hG_1.out.alloc _)
  have l_2 : W2.heap.size = kX + 1 := by rw [hW2]; simp; omega
  rw [← hW2, ← hkX]
  clear hW2 hG_1 hkX
  obtain ⟨F, hF⟩ : ∃ rr, rr = frtF x1 x2 x3 x4 := ⟨_, rfl⟩
  obtain ⟨N, D, c⟩ := F
  have FI : Hid (∀ W : World, Calls Try.prog 43 #[.agg #[.int .i64 x1, .int .i64 x2, .int .i64 x3, .int .i64 x4]] W fun e w' => e = .returned (.tuple #[.agg #[.int .i64 N, .int .i64 D], .int .i64 c]) ∧ Below W.heap.size W w') := hid fun W => by have := i_FindRational x1 x2 x3 x4 W; rw [← hF] at this; exact this
  have FS : Hid (∀ W : World, Calls Try.prog 44 #[.agg #[.int .i64 x1, .int .i64 x2, .int .i64 x3, .int .i64 x4]] W fun e w' => e = .returned (.tuple #[.agg #[.int .i64 N, .int .i64 D], .int .i64 c]) ∧ Below W.heap.size W w') := hid fun W => by have := s_FindRational x1 x2 x3 x4 W; rw [← hF] at this; exact this
  have HF : Hid (c = 0 → popF N D x1 x4 = (⟨x1, x2, x3, x4⟩, 0)) := hid fun e => find_back (by rw [← hF, e])
  clear hF
  refine via (FI.out _) ?_
  intro u2 zu2
  (try simp at zu2)
  go_wp2_with fail
  clear zu2
  obtain ⟨W3, hW3⟩ : ∃ X, X = aft W2 u2 := ⟨_, rfl⟩
  have cX_3 : ∀ o, W3.cell? ⟨kX, o, none⟩ = #[Value.int IntKind.i64 x1, Value.int IntKind.i64 x2, Value.int IntKind.i64 x3, Value.int IntKind.i64 x4][o]? := fun o => by rw [hW3, aft_cell, if_pos (by omega)]; exact cX_2 o
  have hG_3 : Hid (Ext w.heap.size w W3) := hid (by rw [hW3]; exact hG_2.out.aft _)
  have l_3 : kX + 1 ≤ W3.heap.size := by rw [hW3]; have := size_aft W2 u2; omega
  rw [← hW3]
  clear hW3 cX_2 l_2 hG_2
  obtain ⟨kQ, hkQ⟩ : ∃ k, k = W3.heap.size := ⟨_, rfl⟩
  obtain ⟨W4, hW4⟩ : ∃ X, X = W3.alloc (Obj.cells #[Value.int IntKind.i64 N, Value.int IntKind.i64 D] 57) := ⟨_, rfl⟩
  have cX_4 : ∀ o, W4.cell? ⟨kX, o, none⟩ = #[Value.int IntKind.i64 x1, Value.int IntKind.i64 x2, Value.int IntKind.i64 x3, Value.int IntKind.i64 x4][o]? := fun o => by rw [hW4, alloc_cell, if_neg (by omega)]; exact cX_3 o
  have cQ_4 : ∀ o, W4.cell? ⟨kQ, o, none⟩ = #[Value.int IntKind.i64 N, Value.int IntKind.i64 D][o]? := fun o => by rw [hW4, alloc_cell, if_pos hkQ]
  have hG_4 : Hid (Ext w.heap.size w W4) := hid (by rw [hW4]; exact hG_3.out.alloc _)
  have l_4 : W4.heap.size = kQ + 1 := by rw [hW4]; simp; omega
  have qQ : kX < kQ := by omega
  rw [← hW4, ← hkQ]
  clear hW4 cX_3 l_3 hG_3 hkQ
  refine via (FS.out _) ?_
  intro u3 zu3
  (try simp at zu3)
  go_wp2_with fail
  clear zu3
  obtain ⟨W5, hW5⟩ : ∃ X, X = aft W4 u3 := ⟨_, rfl⟩
  have cX_5 : ∀ o, W5.cell? ⟨kX, o, none⟩ = #[Value.int IntKind.i64 x1, Value.int IntKind.i64 x2, Value.int IntKind.i64 x3, Value.int IntKind.i64 x4][o]? := fun o => by rw [hW5, aft_cell, if_pos (by omega)]; exact cX_4 o
  have cQ_5 : ∀ o, W5.cell? ⟨kQ, o, none⟩ = #[Value.int IntKind.i64 N, Value.int IntKind.i64 D][o]? := fun o => by rw [hW5, aft_cell, if_pos (by omega)]; exact cQ_4 o
  have hG_5 : Hid (Ext w.heap.size w W5) := hid (by rw [hW5]; exact hG_4.out.aft _)
  have l_5 : kQ + 1 ≤ W5.heap.size := by rw [hW5]; have := size_aft W4 u3; omega
  rw [← hW5]
  clear hW5 cX_4 cQ_4 l_4 hG_4
  obtain ⟨kM, hkM⟩ : ∃ k, k = W5.heap.size := ⟨_, rfl⟩
  obtain ⟨W6, hW6⟩ : ∃ X, X = W5.alloc (Obj.cells #[Value.int IntKind.i64 N, Value.int IntKind.i64 D] 57) := ⟨_, rfl⟩
  have cX_6 : ∀ o, W6.cell? ⟨kX, o, none⟩ = #[Value.int IntKind.i64 x1, Value.int IntKind.i64 x2, Value.int IntKind.i64 x3, Value.int IntKind.i64 x4][o]? := fun o => by rw [hW6, alloc_cell, if_neg (by omega)]; exact cX_5 o
  have cQ_6 : ∀ o, W6.cell? ⟨kQ, o, none⟩ = #[Value.int IntKind.i64 N, Value.int IntKind.i64 D][o]? := fun o => by rw [hW6, alloc_cell, if_neg (by omega)]; exact cQ_5 o
  have cM_6 : ∀ o, W6.cell? ⟨kM, o, none⟩ = #[Value.int IntKind.i64 N, Value.int IntKind.i64 D][o]? := fun o => by rw [hW6, alloc_cell, if_pos hkM]
  have hG_6 : Hid (Ext w.heap.size w W6) := hid (by rw [hW6]; exact hG_5.out.alloc _)
  have l_6 : W6.heap.size = kM + 1 := by rw [hW6]; simp; omega
  have qM : kQ < kM := by omega
  rw [← hW6, ← hkM]
  clear hW6 cX_5 cQ_5 l_5 hG_5 hkM
  refine viaV (α := (Int × Int) × (Int × Int)) (g := (fun z : (Int × Int) × (Int × Int) => .tuple #[.agg #[.int .i64 z.1.1, .int .i64 z.1.2], .agg #[.int .i64 z.2.1, .int .i64 z.2.2]])) (s_DrawPadicOf w.heap.size a len cap _ (H.out.ext hG_6.out) hl hG_6.out.2) ?_
  intro zz u4 zu4
  (try simp at zu4)
  obtain ⟨⟨a1, a2⟩, ⟨r1, r2⟩⟩ := zz
  dsimp only
  go_wp2_with fail
  clear zu4
  obtain ⟨W7, hW7⟩ : ∃ X, X = aft W6 u4 := ⟨_, rfl⟩
  have cX_7 : ∀ o, W7.cell? ⟨kX, o, none⟩ = #[Value.int IntKind.i64 x1, Value.int IntKind.i64 x2, Value.int IntKind.i64 x3, Value.int IntKind.i64 x4][o]? := fun o => by rw [hW7, aft_cell, if_pos (by omega)]; exact cX_6 o
  have cQ_7 : ∀ o, W7.cell? ⟨kQ, o, none⟩ = #[Value.int IntKind.i64 N, Value.int IntKind.i64 D][o]? := fun o => by rw [hW7, aft_cell, if_pos (by omega)]; exact cQ_6 o
  have cM_7 : ∀ o, W7.cell? ⟨kM, o, none⟩ = #[Value.int IntKind.i64 N, Value.int IntKind.i64 D][o]? := fun o => by rw [hW7, aft_cell, if_pos (by omega)]; exact cM_6 o
  have hG_7 : Hid (Ext w.heap.size w W7) := hid (by rw [hW7]; exact hG_6.out.aft _)
  have l_7 : kM + 1 ≤ W7.heap.size := by rw [hW7]; have := size_aft W6 u4; omega
  rw [← hW7]
  clear hW7 cX_6 cQ_6 cM_6 l_6 hG_6
  obtain ⟨kA, hkA⟩ : ∃ k, k = W7.heap.size := ⟨_, rfl⟩
  obtain ⟨W8, hW8⟩ : ∃ X, X = W7.alloc (Obj.cells #[Value.int IntKind.i64 a1, Value.int IntKind.i64 a2] 57) := ⟨_, rfl⟩
  have cX_8 : ∀ o, W8.cell? ⟨kX, o, none⟩ = #[Value.int IntKind.i64 x1, Value.int IntKind.i64 x2, Value.int IntKind.i64 x3, Value.int IntKind.i64 x4][o]? := fun o => by rw [hW8, alloc_cell, if_neg (by omega)]; exact cX_7 o
  have cQ_8 : ∀ o, W8.cell? ⟨kQ, o, none⟩ = #[Value.int IntKind.i64 N, Value.int IntKind.i64 D][o]? := fun o => by rw [hW8, alloc_cell, if_neg (by omega)]; exact cQ_7 o
  have cM_8 : ∀ o, W8.cell? ⟨kM, o, none⟩ = #[Value.int IntKind.i64 N, Value.int IntKind.i64 D][o]? := fun o => by rw [hW8, alloc_cell, if_neg (by omega)]; exact cM_7 o
  have cA_8 : ∀ o, W8.cell? ⟨kA, o, none⟩ = #[Value.int IntKind.i64 a1, Value.int IntKind.i64 a2][o]? := fun o => by rw [hW8, alloc_cell, if_pos hkA]
  have hG_8 : Hid (Ext w.heap.size w W8) := hid (by rw [hW8]; exact hG_7.out.alloc _)
  have l_8 : W8.heap.size = kA + 1 := by rw [hW8]; simp; omega
  have qA : kM < kA := by omega
  rw [← hW8, ← hkA]
  clear hW8 cX_7 cQ_7 cM_7 l_7 hG_7 hkA
  obtain ⟨kR, jR⟩ : ∃ k, k = kA + 1 := ⟨_, rfl⟩
  have hkR : kR = W8.heap.size := by omega
  obtain ⟨W9, hW9⟩ : ∃ X, X = W8.alloc (Obj.cells #[Value.int IntKind.i64 r1, Value.int IntKind.i64 r2] 36) := ⟨_, rfl⟩
  have cX_9 : ∀ o, W9.cell? ⟨kX, o, none⟩ = #[Value.int IntKind.i64 x1, Value.int IntKind.i64 x2, Value.int IntKind.i64 x3, Value.int IntKind.i64 x4][o]? := fun o => by rw [hW9, alloc_cell, if_neg (by omega)]; exact cX_8 o
  have cQ_9 : ∀ o, W9.cell? ⟨kQ, o, none⟩ = #[Value.int IntKind.i64 N, Value.int IntKind.i64 D][o]? := fun o => by rw [hW9, alloc_cell, if_neg (by omega)]; exact cQ_8 o
  have cM_9 : ∀ o, W9.cell? ⟨kM, o, none⟩ = #[Value.int IntKind.i64 N, Value.int IntKind.i64 D][o]? := fun o => by rw [hW9, alloc_cell, if_neg (by omega)]; exact cM_8 o
  have cA_9 : ∀ o, W9.cell? ⟨kA, o, none⟩ = #[Value.int IntKind.i64 a1, Value.int IntKind.i64 a2][o]? := fun o => by rw [hW9, alloc_cell, if_neg (by omega)]; exact cA_8 o
  have cR_9 : ∀ o, W9.cell? ⟨kR, o, none⟩ = #[Value.int IntKind.i64 r1, Value.int IntKind.i64 r2][o]? := fun o => by rw [hW9, alloc_cell, if_pos hkR]
  have hG_9 : Hid (Ext w.heap.size w W9) := hid (by rw [hW9]; exact hG_8.out.alloc _)
  have l_9 : W9.heap.size = kR + 1 := by rw [hW9]; simp; omega
  have qR : kA < kR := by omega
  rw [← hW9, ← jR]
  clear hW9 cX_8 cQ_8 cM_8 cA_8 l_8 hG_8 hkR jR
  obtain ⟨P, hP⟩ : ∃ rr, rr = popF a1 a2 r1 r2 := ⟨_, rfl⟩
  obtain ⟨⟨y1, y2, y3, y4⟩, d⟩ := P
  have PI : Hid (∀ W : World, Calls Try.prog 40 #[.agg #[.int .i64 a1, .int .i64 a2], .agg #[.int .i64 r1, .int .i64 r2]] W fun e w' => e = .returned (.tuple #[.agg #[.int .i64 y1, .int .i64 y2, .int .i64 y3, .int .i64 y4], .int .i64 d]) ∧ Below W.heap.size W w') := hid fun W => by have := i_PadicOf a1 a2 r1 r2 W; rw [← hP] at this; exact this
  have PS : Hid (∀ W : World, Calls Try.prog 46 #[.agg #[.int .i64 a1, .int .i64 a2], .agg #[.int .i64 r1, .int .i64 r2]] W fun e w' => e = .returned (.tuple #[.agg #[.int .i64 y1, .int .i64 y2, .int .i64 y3, .int .i64 y4], .int .i64 d]) ∧ Below W.heap.size W w') := hid fun W => by have := s_PadicOf a1 a2 r1 r2 W; rw [← hP] at this; exact this
  have HP : Hid (d = 0 → doaF a1 a2 y1 y2 y3 y4 = (true, 0)) := hid fun e => by
    have := @pop_ok a1 a2 r1 r2 (by rw [← hP]; exact e)
    rw [← hP] at this
    exact this
  clear hP
  refine via (PI.out _) ?_
  intro u5 zu5
  (try simp at zu5)
  go_wp2_with fail
  clear zu5
  obtain ⟨W10, hW10⟩ : ∃ X, X = aft W9 u5 := ⟨_, rfl⟩
  have cX_10 : ∀ o, W10.cell? ⟨kX, o, none⟩ = #[Value.int IntKind.i64 x1, Value.int IntKind.i64 x2, Value.int IntKind.i64 x3, Value.int IntKind.i64 x4][o]? := fun o => by rw [hW10, aft_cell, if_pos (by omega)]; exact cX_9 o
  have cQ_10 : ∀ o, W10.cell? ⟨kQ, o, none⟩ = #[Value.int IntKind.i64 N, Value.int IntKind.i64 D][o]? := fun o => by rw [hW10, aft_cell, if_pos (by omega)]; exact cQ_9 o
  have cM_10 : ∀ o, W10.cell? ⟨kM, o, none⟩ = #[Value.int IntKind.i64 N, Value.int IntKind.i64 D][o]? := fun o => by rw [hW10, aft_cell, if_pos (by omega)]; exact cM_9 o
  have cA_10 : ∀ o, W10.cell? ⟨kA, o, none⟩ = #[Value.int IntKind.i64 a1, Value.int IntKind.i64 a2][o]? := fun o => by rw [hW10, aft_cell, if_pos (by omega)]; exact cA_9 o
  have cR_10 : ∀ o, W10.cell? ⟨kR, o, none⟩ = #[Value.int IntKind.i64 r1, Value.int IntKind.i64 r2][o]? := fun o => by rw [hW10, aft_cell, if_pos (by omega)]; exact cR_9 o
  have hG_10 : Hid (Ext w.heap.size w W10) := hid (by rw [hW10]; exact hG_9.out.aft _)
  have l_10 : kR + 1 ≤ W10.heap.size := by rw [hW10]; have := size_aft W9 u5; omega
  rw [← hW10]
  clear hW10 cX_9 cQ_9 cM_9 cA_9 cR_9 l_9 hG_9
  obtain ⟨kY, hkY⟩ : ∃ k, k = W10.heap.size := ⟨_, rfl⟩
  obtain ⟨W11, hW11⟩ : ∃ X, X = W10.alloc (Obj.cells #[Value.int IntKind.i64 y1, Value.int IntKind.i64 y2, Value.int IntKind.i64 y3, Value.int IntKind.i64 y4] 38) := ⟨_, rfl⟩
  have cX_11 : ∀ o, W11.cell? ⟨kX, o, none⟩ = #[Value.int IntKind.i64 x1, Value.int IntKind.i64 x2, Value.int IntKind.i64 x3, Value.int IntKind.i64 x4][o]? := fun o => by rw [hW11, alloc_cell, if_neg (by omega)]; exact cX_10 o
  have cQ_11 : ∀ o, W11.cell? ⟨kQ, o, none⟩ = #[Value.int IntKind.i64 N, Value.int IntKind.i64 D][o]? := fun o => by rw [hW11, alloc_cell, if_neg (by omega)]; exact cQ_10 o
  have cM_11 : ∀ o, W11.cell? ⟨kM, o, none⟩ = #[Value.int IntKind.i64 N, Value.int IntKind.i64 D][o]? := fun o => by rw [hW11, alloc_cell, if_neg (by omega)]; exact cM_10 o
  have cA_11 : ∀ o, W11.cell? ⟨kA, o, none⟩ = #[Value.int IntKind.i64 a1, Value.int IntKind.i64 a2][o]? := fun o => by rw [hW11, alloc_cell, if_neg (by omega)]; exact cA_10 o
  have cR_11 : ∀ o, W11.cell? ⟨kR, o, none⟩ = #[Value.int IntKind.i64 r1, Value.int IntKind.i64 r2][o]? := fun o => by rw [hW11, alloc_cell, if_neg (by omega)]; exact cR_10 o
  have cY_11 : ∀ o, W11.cell? ⟨kY, o, none⟩ = #[Value.int IntKind.i64 y1, Value.int IntKind.i64 y2, Value.int IntKind.i64 y3, Value.int IntKind.i64 y4][o]? := fun o => by rw [hW11, alloc_cell, if_pos hkY]
  have hG_11 : Hid (Ext w.heap.size w W11) := hid (by rw [hW11]; exact hG_10.out.alloc _)
  have l_11 : W11.heap.size = kY + 1 := by rw [hW11]; simp; omega
  have qY : kR < kY := by omega
  rw [← hW11, ← hkY]
  clear hW11 cX_10 cQ_10 cM_10 cA_10 cR_10 l_10 hG_10 hkY
  refine via (PS.out _) ?_
  intro u6 zu6
  (try simp at zu6)
  go_wp2_with fail
  clear zu6
  obtain ⟨W12, hW12⟩ : ∃ X, X = aft W11 u6 := ⟨_, rfl⟩
  have cX_12 : ∀ o, W12.cell? ⟨kX, o, none⟩ = #[Value.int IntKind.i64 x1, Value.int IntKind.i64 x2, Value.int IntKind.i64 x3, Value.int IntKind.i64 x4][o]? := fun o => by rw [hW12, aft_cell, if_pos (by omega)]; exact cX_11 o
  have cQ_12 : ∀ o, W12.cell? ⟨kQ, o, none⟩ = #[Value.int IntKind.i64 N, Value.int IntKind.i64 D][o]? := fun o => by rw [hW12, aft_cell, if_pos (by omega)]; exact cQ_11 o
  have cM_12 : ∀ o, W12.cell? ⟨kM, o, none⟩ = #[Value.int IntKind.i64 N, Value.int IntKind.i64 D][o]? := fun o => by rw [hW12, aft_cell, if_pos (by omega)]; exact cM_11 o
  have cA_12 : ∀ o, W12.cell? ⟨kA, o, none⟩ = #[Value.int IntKind.i64 a1, Value.int IntKind.i64 a2][o]? := fun o => by rw [hW12, aft_cell, if_pos (by omega)]; exact cA_11 o
  have cR_12 : ∀ o, W12.cell? ⟨kR, o, none⟩ = #[Value.int IntKind.i64 r1, Value.int IntKind.i64 r2][o]? := fun o => by rw [hW12, aft_cell, if_pos (by omega)]; exact cR_11 o
  have cY_12 : ∀ o, W12.cell? ⟨kY, o, none⟩ = #[Value.int IntKind.i64 y1, Value.int IntKind.i64 y2, Value.int IntKind.i64 y3, Value.int IntKind.i64 y4][o]? := fun o => by rw [hW12, aft_cell, if_pos (by omega)]; exact cY_11 o
  have hG_12 : Hid (Ext w.heap.size w W12) := hid (by rw [hW12]; exact hG_11.out.aft _)
  have l_12 : kY + 1 ≤ W12.heap.size := by rw [hW12]; have := size_aft W11 u6; omega
  rw [← hW12]
  clear hW12 cX_11 cQ_11 cM_11 cA_11 cR_11 cY_11 l_11 hG_11
  obtain ⟨kV, hkV⟩ : ∃ k, k = W12.heap.size := ⟨_, rfl⟩
  obtain ⟨W13, hW13⟩ : ∃ X, X = W12.alloc (Obj.cells #[Value.int IntKind.i64 y1, Value.int IntKind.i64 y2, Value.int IntKind.i64 y3, Value.int IntKind.i64 y4] 38) := ⟨_, rfl⟩
  have cX_13 : ∀ o, W13.cell? ⟨kX, o, none⟩ = #[Value.int IntKind.i64 x1, Value.int IntKind.i64 x2, Value.int IntKind.i64 x3, Value.int IntKind.i64 x4][o]? := fun o => by rw [hW13, alloc_cell, if_neg (by omega)]; exact cX_12 o
  have cQ_13 : ∀ o, W13.cell? ⟨kQ, o, none⟩ = #[Value.int IntKind.i64 N, Value.int IntKind.i64 D][o]? := fun o => by rw [hW13, alloc_cell, if_neg (by omega)]; exact cQ_12 o
  have cM_13 : ∀ o, W13.cell? ⟨kM, o, none⟩ = #[Value.int IntKind.i64 N, Value.int IntKind.i64 D][o]? := fun o => by rw [hW13, alloc_cell, if_neg (by omega)]; exact cM_12 o
  have cA_13 : ∀ o, W13.cell? ⟨kA, o, none⟩ = #[Value.int IntKind.i64 a1, Value.int IntKind.i64 a2][o]? := fun o => by rw [hW13, alloc_cell, if_neg (by omega)]; exact cA_12 o
  have cR_13 : ∀ o, W13.cell? ⟨kR, o, none⟩ = #[Value.int IntKind.i64 r1, Value.int IntKind.i64 r2][o]? := fun o => by rw [hW13, alloc_cell, if_neg (by omega)]; exact cR_12 o
  have cY_13 : ∀ o, W13.cell? ⟨kY, o, none⟩ = #[Value.int IntKind.i64 y1, Value.int IntKind.i64 y2, Value.int IntKind.i64 y3, Value.int IntKind.i64 y4][o]? := fun o => by rw [hW13, alloc_cell, if_neg (by omega)]; exact cY_12 o
  have cV_13 : ∀ o, W13.cell? ⟨kV, o, none⟩ = #[Value.int IntKind.i64 y1, Value.int IntKind.i64 y2, Value.int IntKind.i64 y3, Value.int IntKind.i64 y4][o]? := fun o => by rw [hW13, alloc_cell, if_pos hkV]
  have hG_13 : Hid (Ext w.heap.size w W13) := hid (by rw [hW13]; exact hG_12.out.alloc _)
  have l_13 : W13.heap.size = kV + 1 := by rw [hW13]; simp; omega
  have qV : kY < kV := by omega
  rw [← hW13, ← hkV]
  clear hW13 cX_12 cQ_12 cM_12 cA_12 cR_12 cY_12 l_12 hG_12 hkV
  refine viaV (α := (Int × Int) × Pd) (g := (fun z : (Int × Int) × Pd => .tuple #[.agg #[.int .i64 z.1.1, .int .i64 z.1.2], .agg #[.int .i64 z.2.p, .int .i64 z.2.v, .int .i64 z.2.u, .int .i64 z.2.n]])) (s_DrawDoAgree w.heap.size a len cap _ (H.out.ext hG_13.out) hl hG_13.out.2) ?_
  intro zz u7 zu7
  (try simp at zu7)
  obtain ⟨⟨b1, b2⟩, ⟨z1, z2, z3, z4⟩⟩ := zz
  dsimp only
  go_wp2_with fail
  clear zu7
  obtain ⟨W14, hW14⟩ : ∃ X, X = aft W13 u7 := ⟨_, rfl⟩
  have cX_14 : ∀ o, W14.cell? ⟨kX, o, none⟩ = #[Value.int IntKind.i64 x1, Value.int IntKind.i64 x2, Value.int IntKind.i64 x3, Value.int IntKind.i64 x4][o]? := fun o => by rw [hW14, aft_cell, if_pos (by omega)]; exact cX_13 o
  have cQ_14 : ∀ o, W14.cell? ⟨kQ, o, none⟩ = #[Value.int IntKind.i64 N, Value.int IntKind.i64 D][o]? := fun o => by rw [hW14, aft_cell, if_pos (by omega)]; exact cQ_13 o
  have cM_14 : ∀ o, W14.cell? ⟨kM, o, none⟩ = #[Value.int IntKind.i64 N, Value.int IntKind.i64 D][o]? := fun o => by rw [hW14, aft_cell, if_pos (by omega)]; exact cM_13 o
  have cA_14 : ∀ o, W14.cell? ⟨kA, o, none⟩ = #[Value.int IntKind.i64 a1, Value.int IntKind.i64 a2][o]? := fun o => by rw [hW14, aft_cell, if_pos (by omega)]; exact cA_13 o
  have cR_14 : ∀ o, W14.cell? ⟨kR, o, none⟩ = #[Value.int IntKind.i64 r1, Value.int IntKind.i64 r2][o]? := fun o => by rw [hW14, aft_cell, if_pos (by omega)]; exact cR_13 o
  have cY_14 : ∀ o, W14.cell? ⟨kY, o, none⟩ = #[Value.int IntKind.i64 y1, Value.int IntKind.i64 y2, Value.int IntKind.i64 y3, Value.int IntKind.i64 y4][o]? := fun o => by rw [hW14, aft_cell, if_pos (by omega)]; exact cY_13 o
  have cV_14 : ∀ o, W14.cell? ⟨kV, o, none⟩ = #[Value.int IntKind.i64 y1, Value.int IntKind.i64 y2, Value.int IntKind.i64 y3, Value.int IntKind.i64 y4][o]? := fun o => by rw [hW14, aft_cell, if_pos (by omega)]; exact cV_13 o
  have hG_14 : Hid (Ext w.heap.size w W14) := hid (by rw [hW14]; exact hG_13.out.aft _)
  have l_14 : kV + 1 ≤ W14.heap.size := by rw [hW14]; have := size_aft W13 u7; omega
  rw [← hW14]
  clear hW14 cX_13 cQ_13 cM_13 cA_13 cR_13 cY_13 cV_13 l_13 hG_13
  obtain ⟨kB, hkB⟩ : ∃ k, k = W14.heap.size := ⟨_, rfl⟩
  obtain ⟨W15, hW15⟩ : ∃ X, X = W14.alloc (Obj.cells #[Value.int IntKind.i64 b1, Value.int IntKind.i64 b2] 57) := ⟨_, rfl⟩
  have cX_15 : ∀ o, W15.cell? ⟨kX, o, none⟩ = #[Value.int IntKind.i64 x1, Value.int IntKind.i64 x2, Value.int IntKind.i64 x3, Value.int IntKind.i64 x4][o]? := fun o => by rw [hW15, alloc_cell, if_neg (by omega)]; exact cX_14 o
  have cQ_15 : ∀ o, W15.cell? ⟨kQ, o, none⟩ = #[Value.int IntKind.i64 N, Value.int IntKind.i64 D][o]? := fun o => by rw [hW15, alloc_cell, if_neg (by omega)]; exact cQ_14 o
  have cM_15 : ∀ o, W15.cell? ⟨kM, o, none⟩ = #[Value.int IntKind.i64 N, Value.int IntKind.i64 D][o]? := fun o => by rw [hW15, alloc_cell, if_neg (by omega)]; exact cM_14 o
  have cA_15 : ∀ o, W15.cell? ⟨kA, o, none⟩ = #[Value.int IntKind.i64 a1, Value.int IntKind.i64 a2][o]? := fun o => by rw [hW15, alloc_cell, if_neg (by omega)]; exact cA_14 o
  have cR_15 : ∀ o, W15.cell? ⟨kR, o, none⟩ = #[Value.int IntKind.i64 r1, Value.int IntKind.i64 r2][o]? := fun o => by rw [hW15, alloc_cell, if_neg (by omega)]; exact cR_14 o
  have cY_15 : ∀ o, W15.cell? ⟨kY, o, none⟩ = #[Value.int IntKind.i64 y1, Value.int IntKind.i64 y2, Value.int IntKind.i64 y3, Value.int IntKind.i64 y4][o]? := fun o => by rw [hW15, alloc_cell, if_neg (by omega)]; exact cY_14 o
  have cV_15 : ∀ o, W15.cell? ⟨kV, o, none⟩ = #[Value.int IntKind.i64 y1, Value.int IntKind.i64 y2, Value.int IntKind.i64 y3, Value.int IntKind.i64 y4][o]? := fun o => by rw [hW15, alloc_cell, if_neg (by omega)]; exact cV_14 o
  have cB_15 : ∀ o, W15.cell? ⟨kB, o, none⟩ = #[Value.int IntKind.i64 b1, Value.int IntKind.i64 b2][o]? := fun o => by rw [hW15, alloc_cell, if_pos hkB]
  have hG_15 : Hid (Ext w.heap.size w W15) := hid (by rw [hW15]; exact hG_14.out.alloc _)
  have l_15 : W15.heap.size = kB + 1 := by rw [hW15]; simp; omega
  have qB : kV < kB := by omega
  rw [← hW15, ← hkB]
  clear hW15 cX_14 cQ_14 cM_14 cA_14 cR_14 cY_14 cV_14 l_14 hG_14 hkB
  obtain ⟨kZ, jZ⟩ : ∃ k, k = kB + 1 := ⟨_, rfl⟩
  have hkZ : kZ = W15.heap.size := by omega
  obtain ⟨W16, hW16⟩ : ∃ X, X = W15.alloc (Obj.cells #[Value.int IntKind.i64 z1, Value.int IntKind.i64 z2, Value.int IntKind.i64 z3, Value.int IntKind.i64 z4] 38) := ⟨_, rfl⟩
  have cX_16 : ∀ o, W16.cell? ⟨kX, o, none⟩ = #[Value.int IntKind.i64 x1, Value.int IntKind.i64 x2, Value.int IntKind.i64 x3, Value.int IntKind.i64 x4][o]? := fun o => by rw [hW16, alloc_cell, if_neg (by omega)]; exact cX_15 o
  have cQ_16 : ∀ o, W16.cell? ⟨kQ, o, none⟩ = #[Value.int IntKind.i64 N, Value.int IntKind.i64 D][o]? := fun o => by rw [hW16, alloc_cell, if_neg (by omega)]; exact cQ_15 o
  have cM_16 : ∀ o, W16.cell? ⟨kM, o, none⟩ = #[Value.int IntKind.i64 N, Value.int IntKind.i64 D][o]? := fun o => by rw [hW16, alloc_cell, if_neg (by omega)]; exact cM_15 o
  have cA_16 : ∀ o, W16.cell? ⟨kA, o, none⟩ = #[Value.int IntKind.i64 a1, Value.int IntKind.i64 a2][o]? := fun o => by rw [hW16, alloc_cell, if_neg (by omega)]; exact cA_15 o
  have cR_16 : ∀ o, W16.cell? ⟨kR, o, none⟩ = #[Value.int IntKind.i64 r1, Value.int IntKind.i64 r2][o]? := fun o => by rw [hW16, alloc_cell, if_neg (by omega)]; exact cR_15 o
  have cY_16 : ∀ o, W16.cell? ⟨kY, o, none⟩ = #[Value.int IntKind.i64 y1, Value.int IntKind.i64 y2, Value.int IntKind.i64 y3, Value.int IntKind.i64 y4][o]? := fun o => by rw [hW16, alloc_cell, if_neg (by omega)]; exact cY_15 o
  have cV_16 : ∀ o, W16.cell? ⟨kV, o, none⟩ = #[Value.int IntKind.i64 y1, Value.int IntKind.i64 y2, Value.int IntKind.i64 y3, Value.int IntKind.i64 y4][o]? := fun o => by rw [hW16, alloc_cell, if_neg (by omega)]; exact cV_15 o
  have cB_16 : ∀ o, W16.cell? ⟨kB, o, none⟩ = #[Value.int IntKind.i64 b1, Value.int IntKind.i64 b2][o]? := fun o => by rw [hW16, alloc_cell, if_neg (by omega)]; exact cB_15 o
  have cZ_16 : ∀ o, W16.cell? ⟨kZ, o, none⟩ = #[Value.int IntKind.i64 z1, Value.int IntKind.i64 z2, Value.int IntKind.i64 z3, Value.int IntKind.i64 z4][o]? := fun o => by rw [hW16, alloc_cell, if_pos hkZ]
  have hG_16 : Hid (Ext w.heap.size w W16) := hid (by rw [hW16]; exact hG_15.out.alloc _)
  have l_16 : W16.heap.size = kZ + 1 := by rw [hW16]; simp; omega
  have qZ : kB < kZ := by omega
  rw [← hW16, ← jZ]
  clear hW16 cX_15 cQ_15 cM_15 cA_15 cR_15 cY_15 cV_15 cB_15 l_15 hG_15 hkZ jZ
  obtain ⟨G, hG⟩ : ∃ rr, rr = doaF b1 b2 z1 z2 z3 z4 := ⟨_, rfl⟩
  obtain ⟨t, g⟩ := G
  have GI : Hid (∀ W : World, Calls Try.prog 48 #[.agg #[.int .i64 b1, .int .i64 b2], .agg #[.int .i64 z1, .int .i64 z2, .int .i64 z3, .int .i64 z4]] W fun e w' => e = .returned (.tuple #[.bool t, .int .i64 g]) ∧ Below W.heap.size W w') := hid fun W => by have := i_DoAgree b1 b2 z1 z2 z3 z4 W; rw [← hG] at this; exact this
  have GS : Hid (∀ W : World, Calls Try.prog 49 #[.agg #[.int .i64 b1, .int .i64 b2], .agg #[.int .i64 z1, .int .i64 z2, .int .i64 z3, .int .i64 z4]] W fun e w' => e = .returned (.tuple #[.bool t, .int .i64 g]) ∧ Below W.heap.size W w') := hid fun W => by have := s_DoAgree b1 b2 z1 z2 z3 z4 W; rw [← hG] at this; exact this
  clear hG
  refine via (GI.out _) ?_
  intro u8 zu8
  (try simp at zu8)
  go_wp2_with fail
  clear zu8
  obtain ⟨W17, hW17⟩ : ∃ X, X = aft W16 u8 := ⟨_, rfl⟩
  have cX_17 : ∀ o, W17.cell? ⟨kX, o, none⟩ = #[Value.int IntKind.i64 x1, Value.int IntKind.i64 x2, Value.int IntKind.i64 x3, Value.int IntKind.i64 x4][o]? := fun o => by rw [hW17, aft_cell, if_pos (by omega)]; exact cX_16 o
  have cQ_17 : ∀ o, W17.cell? ⟨kQ, o, none⟩ = #[Value.int IntKind.i64 N, Value.int IntKind.i64 D][o]? := fun o => by rw [hW17, aft_cell, if_pos (by omega)]; exact cQ_16 o
  have cM_17 : ∀ o, W17.cell? ⟨kM, o, none⟩ = #[Value.int IntKind.i64 N, Value.int IntKind.i64 D][o]? := fun o => by rw [hW17, aft_cell, if_pos (by omega)]; exact cM_16 o
  have cA_17 : ∀ o, W17.cell? ⟨kA, o, none⟩ = #[Value.int IntKind.i64 a1, Value.int IntKind.i64 a2][o]? := fun o => by rw [hW17, aft_cell, if_pos (by omega)]; exact cA_16 o
  have cR_17 : ∀ o, W17.cell? ⟨kR, o, none⟩ = #[Value.int IntKind.i64 r1, Value.int IntKind.i64 r2][o]? := fun o => by rw [hW17, aft_cell, if_pos (by omega)]; exact cR_16 o
  have cY_17 : ∀ o, W17.cell? ⟨kY, o, none⟩ = #[Value.int IntKind.i64 y1, Value.int IntKind.i64 y2, Value.int IntKind.i64 y3, Value.int IntKind.i64 y4][o]? := fun o => by rw [hW17, aft_cell, if_pos (by omega)]; exact cY_16 o
  have cV_17 : ∀ o, W17.cell? ⟨kV, o, none⟩ = #[Value.int IntKind.i64 y1, Value.int IntKind.i64 y2, Value.int IntKind.i64 y3, Value.int IntKind.i64 y4][o]? := fun o => by rw [hW17, aft_cell, if_pos (by omega)]; exact cV_16 o
  have cB_17 : ∀ o, W17.cell? ⟨kB, o, none⟩ = #[Value.int IntKind.i64 b1, Value.int IntKind.i64 b2][o]? := fun o => by rw [hW17, aft_cell, if_pos (by omega)]; exact cB_16 o
  have cZ_17 : ∀ o, W17.cell? ⟨kZ, o, none⟩ = #[Value.int IntKind.i64 z1, Value.int IntKind.i64 z2, Value.int IntKind.i64 z3, Value.int IntKind.i64 z4][o]? := fun o => by rw [hW17, aft_cell, if_pos (by omega)]; exact cZ_16 o
  have hG_17 : Hid (Ext w.heap.size w W17) := hid (by rw [hW17]; exact hG_16.out.aft _)
  have l_17 : kZ + 1 ≤ W17.heap.size := by rw [hW17]; have := size_aft W16 u8; omega
  rw [← hW17]
  clear hW17 cX_16 cQ_16 cM_16 cA_16 cR_16 cY_16 cV_16 cB_16 cZ_16 l_16 hG_16
  refine via (GS.out _) ?_
  intro u9 zu9
  (try simp at zu9)
  by_cases hd1 : d = 0
  case neg =>
    have hd1' : (d == 0) = false := by simpa using hd1
    by_cases hc : c = 0
    case neg =>
      have hc' : (c != 0) = true := by simpa using hc
      have hc2 : (c == 0) = false := by simpa using hc
      go_wp2_with fail
      go_ret
      exact ⟨by first | rfl | simp, Ext.bel (hG_17.out.aft _)⟩
    subst hc
    have BI : Hid (∀ W : World, Calls Try.prog 40 #[.agg #[.int .i64 N, .int .i64 D], .agg #[.int .i64 x1, .int .i64 x4]] W fun e w' => e = .returned (.tuple #[.agg #[.int .i64 x1, .int .i64 x2, .int .i64 x3, .int .i64 x4], .int .i64 0]) ∧ Below W.heap.size W w') := hid fun W => by have := i_PadicOf N D x1 x4 W; rw [HF.out rfl] at this; exact this
    go_wp2_with fail
    clear zu9
    obtain ⟨W18, hW18⟩ : ∃ X, X = aft W17 u9 := ⟨_, rfl⟩
    have cX_18 : ∀ o, W18.cell? ⟨kX, o, none⟩ = #[Value.int IntKind.i64 x1, Value.int IntKind.i64 x2, Value.int IntKind.i64 x3, Value.int IntKind.i64 x4][o]? := fun o => by rw [hW18, aft_cell, if_pos (by omega)]; exact cX_17 o
    have cQ_18 : ∀ o, W18.cell? ⟨kQ, o, none⟩ = #[Value.int IntKind.i64 N, Value.int IntKind.i64 D][o]? := fun o => by rw [hW18, aft_cell, if_pos (by omega)]; exact cQ_17 o
    have cM_18 : ∀ o, W18.cell? ⟨kM, o, none⟩ = #[Value.int IntKind.i64 N, Value.int IntKind.i64 D][o]? := fun o => by rw [hW18, aft_cell, if_pos (by omega)]; exact cM_17 o
    have cA_18 : ∀ o, W18.cell? ⟨kA, o, none⟩ = #[Value.int IntKind.i64 a1, Value.int IntKind.i64 a2][o]? := fun o => by rw [hW18, aft_cell, if_pos (by omega)]; exact cA_17 o
    have cR_18 : ∀ o, W18.cell? ⟨kR, o, none⟩ = #[Value.int IntKind.i64 r1, Value.int IntKind.i64 r2][o]? := fun o => by rw [hW18, aft_cell, if_pos (by omega)]; exact cR_17 o
    have cY_18 : ∀ o, W18.cell? ⟨kY, o, none⟩ = #[Value.int IntKind.i64 y1, Value.int IntKind.i64 y2, Value.int IntKind.i64 y3, Value.int IntKind.i64 y4][o]? := fun o => by rw [hW18, aft_cell, if_pos (by omega)]; exact cY_17 o
    have cV_18 : ∀ o, W18.cell? ⟨kV, o, none⟩ = #[Value.int IntKind.i64 y1, Value.int IntKind.i64 y2, Value.int IntKind.i64 y3, Value.int IntKind.i64 y4][o]? := fun o => by rw [hW18, aft_cell, if_pos (by omega)]; exact cV_17 o
    have cB_18 : ∀ o, W18.cell? ⟨kB, o, none⟩ = #[Value.int IntKind.i64 b1, Value.int IntKind.i64 b2][o]? := fun o => by rw [hW18, aft_cell, if_pos (by omega)]; exact cB_17 o
    have cZ_18 : ∀ o, W18.cell? ⟨kZ, o, none⟩ = #[Value.int IntKind.i64 z1, Value.int IntKind.i64 z2, Value.int IntKind.i64 z3, Value.int IntKind.i64 z4][o]? := fun o => by rw [hW18, aft_cell, if_pos (by omega)]; exact cZ_17 o
    have hG_18 : Hid (Ext w.heap.size w W18) := hid (by rw [hW18]; exact hG_17.out.aft _)
    have l_18 : kZ + 1 ≤ W18.heap.size := by rw [hW18]; have := size_aft W17 u9; omega
    rw [← hW18]
    clear hW18 cX_17 cQ_17 cM_17 cA_17 cR_17 cY_17 cV_17 cB_17 cZ_17 l_17 hG_17
    refine via (BI.out _) ?_
    intro u20 zu20
    (try simp at zu20)
    go_wp2_with fail
    go_ret
    exact ⟨by first | rfl | simp, Ext.bel ((hG_18.out.aft _).alloc _)⟩
  subst hd1
  have SI : Hid (∀ W : World, Calls Try.prog 48 #[.agg #[.int .i64 a1, .int .i64 a2], .agg #[.int .i64 y1, .int .i64 y2, .int .i64 y3, .int .i64 y4]] W fun e w' => e = .returned (.tuple #[.bool true, .int .i64 0]) ∧ Below W.heap.size W w') := hid fun W => by have := i_DoAgree a1 a2 y1 y2 y3 y4 W; rw [HP.out rfl] at this; exact this
  go_wp2_with fail
  clear zu9
  obtain ⟨W18, hW18⟩ : ∃ X, X = aft W17 u9 := ⟨_, rfl⟩
  have cX_18 : ∀ o, W18.cell? ⟨kX, o, none⟩ = #[Value.int IntKind.i64 x1, Value.int IntKind.i64 x2, Value.int IntKind.i64 x3, Value.int IntKind.i64 x4][o]? := fun o => by rw [hW18, aft_cell, if_pos (by omega)]; exact cX_17 o
  have cQ_18 : ∀ o, W18.cell? ⟨kQ, o, none⟩ = #[Value.int IntKind.i64 N, Value.int IntKind.i64 D][o]? := fun o => by rw [hW18, aft_cell, if_pos (by omega)]; exact cQ_17 o
  have cM_18 : ∀ o, W18.cell? ⟨kM, o, none⟩ = #[Value.int IntKind.i64 N, Value.int IntKind.i64 D][o]? := fun o => by rw [hW18, aft_cell, if_pos (by omega)]; exact cM_17 o
  have cA_18 : ∀ o, W18.cell? ⟨kA, o, none⟩ = #[Value.int IntKind.i64 a1, Value.int IntKind.i64 a2][o]? := fun o => by rw [hW18, aft_cell, if_pos (by omega)]; exact cA_17 o
  have cR_18 : ∀ o, W18.cell? ⟨kR, o, none⟩ = #[Value.int IntKind.i64 r1, Value.int IntKind.i64 r2][o]? := fun o => by rw [hW18, aft_cell, if_pos (by omega)]; exact cR_17 o
  have cY_18 : ∀ o, W18.cell? ⟨kY, o, none⟩ = #[Value.int IntKind.i64 y1, Value.int IntKind.i64 y2, Value.int IntKind.i64 y3, Value.int IntKind.i64 y4][o]? := fun o => by rw [hW18, aft_cell, if_pos (by omega)]; exact cY_17 o
  have cV_18 : ∀ o, W18.cell? ⟨kV, o, none⟩ = #[Value.int IntKind.i64 y1, Value.int IntKind.i64 y2, Value.int IntKind.i64 y3, Value.int IntKind.i64 y4][o]? := fun o => by rw [hW18, aft_cell, if_pos (by omega)]; exact cV_17 o
  have cB_18 : ∀ o, W18.cell? ⟨kB, o, none⟩ = #[Value.int IntKind.i64 b1, Value.int IntKind.i64 b2][o]? := fun o => by rw [hW18, aft_cell, if_pos (by omega)]; exact cB_17 o
  have cZ_18 : ∀ o, W18.cell? ⟨kZ, o, none⟩ = #[Value.int IntKind.i64 z1, Value.int IntKind.i64 z2, Value.int IntKind.i64 z3, Value.int IntKind.i64 z4][o]? := fun o => by rw [hW18, aft_cell, if_pos (by omega)]; exact cZ_17 o
  have hG_18 : Hid (Ext w.heap.size w W18) := hid (by rw [hW18]; exact hG_17.out.aft _)
  have l_18 : kZ + 1 ≤ W18.heap.size := by rw [hW18]; have := size_aft W17 u9; omega
  rw [← hW18]
  clear hW18 cX_17 cQ_17 cM_17 cA_17 cR_17 cY_17 cV_17 cB_17 cZ_17 l_17 hG_17
  refine via (SI.out _) ?_
  intro u10 zu10
  (try simp at zu10)
  by_cases hc : c = 0
  case neg =>
    have hc' : (c != 0) = true := by simpa using hc
    have hc2 : (c == 0) = false := by simpa using hc
    go_wp2_with fail
    go_ret
    exact ⟨by first | rfl | simp, Ext.bel (hG_18.out.aft _)⟩
  subst hc
  have BI : Hid (∀ W : World, Calls Try.prog 40 #[.agg #[.int .i64 N, .int .i64 D], .agg #[.int .i64 x1, .int .i64 x4]] W fun e w' => e = .returned (.tuple #[.agg #[.int .i64 x1, .int .i64 x2, .int .i64 x3, .int .i64 x4], .int .i64 0]) ∧ Below W.heap.size W w') := hid fun W => by have := i_PadicOf N D x1 x4 W; rw [HF.out rfl] at this; exact this
  go_wp2_with fail
  clear zu10
  obtain ⟨W19, hW19⟩ : ∃ X, X = aft W18 u10 := ⟨_, rfl⟩
  have cX_19 : ∀ o, W19.cell? ⟨kX, o, none⟩ = #[Value.int IntKind.i64 x1, Value.int IntKind.i64 x2, Value.int IntKind.i64 x3, Value.int IntKind.i64 x4][o]? := fun o => by rw [hW19, aft_cell, if_pos (by omega)]; exact cX_18 o
  have cQ_19 : ∀ o, W19.cell? ⟨kQ, o, none⟩ = #[Value.int IntKind.i64 N, Value.int IntKind.i64 D][o]? := fun o => by rw [hW19, aft_cell, if_pos (by omega)]; exact cQ_18 o
  have cM_19 : ∀ o, W19.cell? ⟨kM, o, none⟩ = #[Value.int IntKind.i64 N, Value.int IntKind.i64 D][o]? := fun o => by rw [hW19, aft_cell, if_pos (by omega)]; exact cM_18 o
  have cA_19 : ∀ o, W19.cell? ⟨kA, o, none⟩ = #[Value.int IntKind.i64 a1, Value.int IntKind.i64 a2][o]? := fun o => by rw [hW19, aft_cell, if_pos (by omega)]; exact cA_18 o
  have cR_19 : ∀ o, W19.cell? ⟨kR, o, none⟩ = #[Value.int IntKind.i64 r1, Value.int IntKind.i64 r2][o]? := fun o => by rw [hW19, aft_cell, if_pos (by omega)]; exact cR_18 o
  have cY_19 : ∀ o, W19.cell? ⟨kY, o, none⟩ = #[Value.int IntKind.i64 y1, Value.int IntKind.i64 y2, Value.int IntKind.i64 y3, Value.int IntKind.i64 y4][o]? := fun o => by rw [hW19, aft_cell, if_pos (by omega)]; exact cY_18 o
  have cV_19 : ∀ o, W19.cell? ⟨kV, o, none⟩ = #[Value.int IntKind.i64 y1, Value.int IntKind.i64 y2, Value.int IntKind.i64 y3, Value.int IntKind.i64 y4][o]? := fun o => by rw [hW19, aft_cell, if_pos (by omega)]; exact cV_18 o
  have cB_19 : ∀ o, W19.cell? ⟨kB, o, none⟩ = #[Value.int IntKind.i64 b1, Value.int IntKind.i64 b2][o]? := fun o => by rw [hW19, aft_cell, if_pos (by omega)]; exact cB_18 o
  have cZ_19 : ∀ o, W19.cell? ⟨kZ, o, none⟩ = #[Value.int IntKind.i64 z1, Value.int IntKind.i64 z2, Value.int IntKind.i64 z3, Value.int IntKind.i64 z4][o]? := fun o => by rw [hW19, aft_cell, if_pos (by omega)]; exact cZ_18 o
  have hG_19 : Hid (Ext w.heap.size w W19) := hid (by rw [hW19]; exact hG_18.out.aft _)
  have l_19 : kZ + 1 ≤ W19.heap.size := by rw [hW19]; have := size_aft W18 u10; omega
  rw [← hW19]
  clear hW19 cX_18 cQ_18 cM_18 cA_18 cR_18 cY_18 cV_18 cB_18 cZ_18 l_18 hG_18
  refine via (BI.out _) ?_
  intro u20 zu20
  (try simp at zu20)
  go_wp2_with fail
  go_ret
  exact ⟨by first | rfl | simp, Ext.bel ((hG_19.out.aft _).alloc _)⟩
end Go.Proofs.Ytehdkbopkkgabaa
