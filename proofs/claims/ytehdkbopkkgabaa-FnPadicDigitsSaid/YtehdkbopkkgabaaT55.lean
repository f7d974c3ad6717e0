/- Digits of p-adic numbers: the law. (Printed by mkT55.py.) -/
import Derived.Test.YtehdkbopkkgabaaT53
import Derived.Test.YtehdkbopkkgabaaT54
import Derived.Test.YtehdkbopkkgabaaT12
namespace Go.Proofs.Ytehdkbopkkgabaa
open Go Go.RowKit

theorem digits_facts {p v u n : Int} {ds : List Int} {d : Int} (h : (ds, d) = digitsF p v u n) : d = 0 → fdF p v ds = (⟨p, v, u, n⟩, 0) ∧ dsumF p v u n = (lsum ds, 0) ∧ (∀ x ∈ ds, 0 ≤ x ∧ x ≤ 1000) ∧ ds.length ≤ 40 ∧ (∀ k, 0 ≤ lsum (ds.take k) ∧ lsum (ds.take k) ≤ 1000000000) := by
  intro h0
  have hp : padicB p v u n = true := digits_ok (by rw [← h]; exact h0)
  obtain ⟨f1, f2, f3, f4, f5⟩ := padic_facts hp
  have e : digitsF p v u n = (digs p u n.toNat, 0) := by simp [digitsF, hp]
  rw [e] at h
  injection h with h1 h2
  subst h1
  refine ⟨digits_back hp, by simp [dsumF, hp], digs_mem f1, by rw [digs_len]; omega, fun k => ?_⟩
  have := lsum_take_bd (digs_mem (u := u) (k := n.toNat) f1) (by rw [digs_len]; omega) k
  omega
theorem shift_facts {p v u n k : Int} {s1 s2 s3 s4 c : Int} (h : ((⟨s1, s2, s3, s4⟩, c) : Pd × Int) = shiftF ⟨p, v, u, n⟩ k) : c = 0 → (-60 ≤ k ∧ k ≤ 60) ∧ shiftF ⟨s1, s2, s3, s4⟩ (-k) = (⟨p, v, u, n⟩, 0) := by
  intro h0
  subst h0
  exact shift_back h.symm
set_option maxRecDepth 20000 in
set_option maxHeartbeats 32000000 in
theorem law_PadicDigits (a : Option Addr) (len cap : Nat) (w : World) (h : rdB w.heap.size w a len) :
    Calls Try.prog 4 #[.slice a len cap] w fun e w' => e = .returned (.bool true) ∧ Below w.heap.size w w' := by
  by_cases hl : len ≤ 4096
  case neg =>
    have hd : decide ((4096 : Int) < (len : Int)) = true := by simp; omega
    go_enter Try.func4, Try.ntmps4
    go_wp2_with (go_at_call 9; refine pur (l_big _ _ _ _) ?_)
    go_ret
    exact ⟨rfl, (by refine Ext.bel ?_; repeat (with_reducible first | exact Ext.refl _ | apply Ext.alloc | apply Ext.aft | apply Ext.drew | apply Ext.drewN | apply Ext.setCell | exact Nat.le_add_right _ _ | exact Nat.le_refl _ | (simp; done) | omega))⟩
  have hd : decide ((4096 : Int) < (len : Int)) = false := by simp; omega
  have H := hid h
  clear h
  go_enter Try.func4, Try.ntmps4
  go_wp2_with (go_at_call 9; refine pur (l_big _ _ _ _) ?_)
  have hG_0 : Hid (Ext w.heap.size w w) := hid (Ext.refl w)
  refine viaV (α := Pd) (g := (fun x : Pd => .agg #[.int .i64 x.p, .int .i64 x.v, .int .i64 x.u, .int .i64 x.n])) (s_DrawDigitsOf w.heap.size a len cap _ (H.out.ext hG_0.out) hl hG_0.out.2) ?_
  intro zz u1 zu1
  (try simp at zu1)
  obtain ⟨x1, x2, x3, x4⟩ := zz
  dsimp only
  go_wp2_with fail
  clear zu1
  obtain ⟨W1, hW1⟩ : ∃ X, X = aft w u1 := ⟨_, rfl⟩
  have hG_1 : Hid (Ext w.heap.size w W1) := hid (by rw [hW1]; exact hG_0.out.aft _)
  rw [← hW1]
  clear hW1 hG_0
  obtain ⟨kX, hkX⟩ : ∃ k, k = W1.heap.size := ⟨_, rfl⟩
  obtain ⟨W2, hW2⟩ : ∃ X, X = W1.alloc (Obj.cells #[Value.int IntKind.i64 x1, Value.int IntKind.i64 x2, Value.int IntKind.i64 x3, Value.int IntKind.i64 x4] 38) := ⟨_, rfl⟩
  have cX_2 : ∀ o, W2.cell? ⟨kX, o, none⟩ = #[Value.int IntKind.i64 x1, Value.int IntKind.i64 x2, Value.int IntKind.i64 x3, Value.int IntKind.i64 x4][o]? := fun o => by rw [hW2, alloc_cell, if_pos hkX]
  have hG_2 : Hid (Ext w.heap.size w W2) := hid (by rw [hW2]; exact hG_1.out.alloc _)
  have l_2 : W2.heap.size = kX + 1 := by rw [hW2]; simp; omega
  rw [← hW2, ← hkX]
  clear hW2 hG_1 hkX
  obtain ⟨D, hD⟩ : ∃ rr, rr = digitsF x1 x2 x3 x4 := ⟨_, rfl⟩
  obtain ⟨ds, d5⟩ := D
  have DI : Hid (∀ W : World, Calls Try.prog 21 #[.agg #[.int .i64 x1, .int .i64 x2, .int .i64 x3, .int .i64 x4]] W fun e w' => ∃ r, e = .returned (.tuple #[r, .int .i64 d5]) ∧ ownR W.heap.size w' r ds ∧ Below W.heap.size W w') := hid fun W => by have := i_DigitsOf x1 x2 x3 x4 W; rw [← hD] at this; exact this
  have DS : Hid (∀ W : World, Calls Try.prog 22 #[.agg #[.int .i64 x1, .int .i64 x2, .int .i64 x3, .int .i64 x4]] W fun e w' => ∃ r, e = .returned (.tuple #[r, .int .i64 d5]) ∧ ownR W.heap.size w' r ds ∧ Below W.heap.size W w') := hid fun W => by have := s_DigitsOf x1 x2 x3 x4 W; rw [← hD] at this; exact this
  have HF := hid (digits_facts hD)
  clear hD
  refine viaE (g := fun r => .tuple #[r, .int .i64 d5]) (DI.out _) rfl ?_
  intro RD u2 zu2 ownD
  (try simp at zu2)
  have qD := hid ownD.rd
  clear ownD
  go_wp2_with fail
  clear zu2
  obtain ⟨W3, hW3⟩ : ∃ X, X = aft W2 u2 := ⟨_, rfl⟩
  have cX_3 : ∀ o, W3.cell? ⟨kX, o, none⟩ = #[Value.int IntKind.i64 x1, Value.int IntKind.i64 x2, Value.int IntKind.i64 x3, Value.int IntKind.i64 x4][o]? := fun o => by rw [hW3, aft_cell, if_pos (by omega)]; exact cX_2 o
  have rD_3 : Hid (rdI W3 RD ds) := hid (by rw [hW3]; exact qD.out)
  have hG_3 : Hid (Ext w.heap.size w W3) := hid (by rw [hW3]; exact hG_2.out.aft _)
  have l_3 : kX + 1 ≤ W3.heap.size := by rw [hW3]; have := size_aft W2 u2; omega
  rw [← hW3]
  clear hW3 cX_2 qD l_2 hG_2
  refine viaE (g := fun r => .tuple #[r, .int .i64 d5]) (DS.out _) rfl ?_
  intro RE u3 zu3 ownE
  (try simp at zu3)
  have qE := hid ownE.rd
  clear ownE
  go_wp2_with fail
  clear zu3
  obtain ⟨W4, hW4⟩ : ∃ X, X = aft W3 u3 := ⟨_, rfl⟩
  have cX_4 : ∀ o, W4.cell? ⟨kX, o, none⟩ = #[Value.int IntKind.i64 x1, Value.int IntKind.i64 x2, Value.int IntKind.i64 x3, Value.int IntKind.i64 x4][o]? := fun o => by rw [hW4, aft_cell, if_pos (by omega)]; exact cX_3 o
  have rD_4 : Hid (rdI W4 RD ds) := hid (by rw [hW4]; exact rD_3.out.aft _)
  have rE_4 : Hid (rdI W4 RE ds) := hid (by rw [hW4]; exact qE.out)
  have hG_4 : Hid (Ext w.heap.size w W4) := hid (by rw [hW4]; exact hG_3.out.aft _)
  have l_4 : kX + 1 ≤ W4.heap.size := by rw [hW4]; have := size_aft W3 u3; omega
  rw [← hW4]
  clear hW4 cX_3 rD_3 qE l_3 hG_3
  refine viaL (α := Int × Int) (g := (fun (z : Int × Int) (r : Value) => .tuple #[.int .i64 z.1, .int .i64 z.2, r])) (s_DrawFromDigits w.heap.size a len cap _ (H.out.ext hG_4.out) hl hG_4.out.2) ?_
  intro zz RL ys u4 ownL hyl zu4
  (try simp at zu4)
  obtain ⟨q, pl⟩ := zz
  dsimp only
  have qL := hid ownL.rd
  clear ownL
  go_wp2_with fail
  clear zu4
  obtain ⟨W5, hW5⟩ : ∃ X, X = aft W4 u4 := ⟨_, rfl⟩
  have cX_5 : ∀ o, W5.cell? ⟨kX, o, none⟩ = #[Value.int IntKind.i64 x1, Value.int IntKind.i64 x2, Value.int IntKind.i64 x3, Value.int IntKind.i64 x4][o]? := fun o => by rw [hW5, aft_cell, if_pos (by omega)]; exact cX_4 o
  have rD_5 : Hid (rdI W5 RD ds) := hid (by rw [hW5]; exact rD_4.out.aft _)
  have rE_5 : Hid (rdI W5 RE ds) := hid (by rw [hW5]; exact rE_4.out.aft _)
  have rL_5 : Hid (rdI W5 RL ys) := hid (by rw [hW5]; exact qL.out)
  have hG_5 : Hid (Ext w.heap.size w W5) := hid (by rw [hW5]; exact hG_4.out.aft _)
  have l_5 : kX + 1 ≤ W5.heap.size := by rw [hW5]; have := size_aft W4 u4; omega
  rw [← hW5]
  clear hW5 cX_4 rD_4 rE_4 qL l_4 hG_4
  obtain ⟨F, hF⟩ : ∃ rr, rr = fdF q pl ys := ⟨_, rfl⟩
  obtain ⟨⟨y1, y2, y3, y4⟩, y5⟩ := F
  have FI : Hid (∀ W : World, rdI W RL ys → Calls Try.prog 24 #[.int .i64 q, .int .i64 pl, RL] W fun e w' => e = .returned (.tuple #[.agg #[.int .i64 y1, .int .i64 y2, .int .i64 y3, .int .i64 y4], .int .i64 y5]) ∧ Below W.heap.size W w') := hid fun W hW => by have := i_FromDigits q pl RL ys W hW; rw [← hF] at this; exact this
  have FS : Hid (∀ W : World, rdI W RL ys → Calls Try.prog 25 #[.int .i64 q, .int .i64 pl, RL] W fun e w' => e = .returned (.tuple #[.agg #[.int .i64 y1, .int .i64 y2, .int .i64 y3, .int .i64 y4], .int .i64 y5]) ∧ Below W.heap.size W w') := hid fun W hW => by have := s_FromDigits q pl RL ys W hW; rw [← hF] at this; exact this
  clear hF
  refine via (FI.out _ rL_5.out) ?_
  intro u5 zu5
  (try simp at zu5)
  go_wp2_with fail
  clear zu5
  obtain ⟨W6, hW6⟩ : ∃ X, X = aft W5 u5 := ⟨_, rfl⟩
  have cX_6 : ∀ o, W6.cell? ⟨kX, o, none⟩ = #[Value.int IntKind.i64 x1, Value.int IntKind.i64 x2, Value.int IntKind.i64 x3, Value.int IntKind.i64 x4][o]? := fun o => by rw [hW6, aft_cell, if_pos (by omega)]; exact cX_5 o
  have rD_6 : Hid (rdI W6 RD ds) := hid (by rw [hW6]; exact rD_5.out.aft _)
  have rE_6 : Hid (rdI W6 RE ds) := hid (by rw [hW6]; exact rE_5.out.aft _)
  have rL_6 : Hid (rdI W6 RL ys) := hid (by rw [hW6]; exact rL_5.out.aft _)
  have hG_6 : Hid (Ext w.heap.size w W6) := hid (by rw [hW6]; exact hG_5.out.aft _)
  have l_6 : kX + 1 ≤ W6.heap.size := by rw [hW6]; have := size_aft W5 u5; omega
  rw [← hW6]
  clear hW6 cX_5 rD_5 rE_5 rL_5 l_5 hG_5
  obtain ⟨kY, hkY⟩ : ∃ k, k = W6.heap.size := ⟨_, rfl⟩
  obtain ⟨W7, hW7⟩ : ∃ X, X = W6.alloc (Obj.cells #[Value.int IntKind.i64 y1, Value.int IntKind.i64 y2, Value.int IntKind.i64 y3, Value.int IntKind.i64 y4] 38) := ⟨_, rfl⟩
  have cX_7 : ∀ o, W7.cell? ⟨kX, o, none⟩ = #[Value.int IntKind.i64 x1, Value.int IntKind.i64 x2, Value.int IntKind.i64 x3, Value.int IntKind.i64 x4][o]? := fun o => by rw [hW7, alloc_cell, if_neg (by omega)]; exact cX_6 o
  have cY_7 : ∀ o, W7.cell? ⟨kY, o, none⟩ = #[Value.int IntKind.i64 y1, Value.int IntKind.i64 y2, Value.int IntKind.i64 y3, Value.int IntKind.i64 y4][o]? := fun o => by rw [hW7, alloc_cell, if_pos hkY]
  have rD_7 : Hid (rdI W7 RD ds) := hid (by rw [hW7]; exact rD_6.out.alloc _)
  have rE_7 : Hid (rdI W7 RE ds) := hid (by rw [hW7]; exact rE_6.out.alloc _)
  have rL_7 : Hid (rdI W7 RL ys) := hid (by rw [hW7]; exact rL_6.out.alloc _)
  have hG_7 : Hid (Ext w.heap.size w W7) := hid (by rw [hW7]; exact hG_6.out.alloc _)
  have l_7 : W7.heap.size = kY + 1 := by rw [hW7]; simp; omega
  have qY : kX < kY := by omega
  rw [← hW7, ← hkY]
  clear hW7 cX_6 rD_6 rE_6 rL_6 l_6 hG_6 hkY
  refine via (FS.out _ rL_7.out) ?_
  intro u6 zu6
  (try simp at zu6)
  go_wp2_with fail
  clear zu6
  obtain ⟨W8, hW8⟩ : ∃ X, X = aft W7 u6 := ⟨_, rfl⟩
  have cX_8 : ∀ o, W8.cell? ⟨kX, o, none⟩ = #[Value.int IntKind.i64 x1, Value.int IntKind.i64 x2, Value.int IntKind.i64 x3, Value.int IntKind.i64 x4][o]? := fun o => by rw [hW8, aft_cell, if_pos (by omega)]; exact cX_7 o
  have cY_8 : ∀ o, W8.cell? ⟨kY, o, none⟩ = #[Value.int IntKind.i64 y1, Value.int IntKind.i64 y2, Value.int IntKind.i64 y3, Value.int IntKind.i64 y4][o]? := fun o => by rw [hW8, aft_cell, if_pos (by omega)]; exact cY_7 o
  have rD_8 : Hid (rdI W8 RD ds) := hid (by rw [hW8]; exact rD_7.out.aft _)
  have rE_8 : Hid (rdI W8 RE ds) := hid (by rw [hW8]; exact rE_7.out.aft _)
  have rL_8 : Hid (rdI W8 RL ys) := hid (by rw [hW8]; exact rL_7.out.aft _)
  have hG_8 : Hid (Ext w.heap.size w W8) := hid (by rw [hW8]; exact hG_7.out.aft _)
  have l_8 : kY + 1 ≤ W8.heap.size := by rw [hW8]; have := size_aft W7 u6; omega
  rw [← hW8]
  clear hW8 cX_7 cY_7 rD_7 rE_7 rL_7 l_7 hG_7
  obtain ⟨kYM, hkYM⟩ : ∃ k, k = W8.heap.size := ⟨_, rfl⟩
  obtain ⟨W9, hW9⟩ : ∃ X, X = W8.alloc (Obj.cells #[Value.int IntKind.i64 y1, Value.int IntKind.i64 y2, Value.int IntKind.i64 y3, Value.int IntKind.i64 y4] 38) := ⟨_, rfl⟩
  have cX_9 : ∀ o, W9.cell? ⟨kX, o, none⟩ = #[Value.int IntKind.i64 x1, Value.int IntKind.i64 x2, Value.int IntKind.i64 x3, Value.int IntKind.i64 x4][o]? := fun o => by rw [hW9, alloc_cell, if_neg (by omega)]; exact cX_8 o
  have cY_9 : ∀ o, W9.cell? ⟨kY, o, none⟩ = #[Value.int IntKind.i64 y1, Value.int IntKind.i64 y2, Value.int IntKind.i64 y3, Value.int IntKind.i64 y4][o]? := fun o => by rw [hW9, alloc_cell, if_neg (by omega)]; exact cY_8 o
  have cYM_9 : ∀ o, W9.cell? ⟨kYM, o, none⟩ = #[Value.int IntKind.i64 y1, Value.int IntKind.i64 y2, Value.int IntKind.i64 y3, Value.int IntKind.i64 y4][o]? := fun o => by rw [hW9, alloc_cell, if_pos hkYM]
  have rD_9 : Hid (rdI W9 RD ds) := hid (by rw [hW9]; exact rD_8.out.alloc _)
  have rE_9 : Hid (rdI W9 RE ds) := hid (by rw [hW9]; exact rE_8.out.alloc _)
  have rL_9 : Hid (rdI W9 RL ys) := hid (by rw [hW9]; exact rL_8.out.alloc _)
  have hG_9 : Hid (Ext w.heap.size w W9) := hid (by rw [hW9]; exact hG_8.out.alloc _)
  have l_9 : W9.heap.size = kYM + 1 := by rw [hW9]; simp; omega
  have qYM : kY < kYM := by omega
  rw [← hW9, ← hkYM]
  clear hW9 cX_8 cY_8 rD_8 rE_8 rL_8 l_8 hG_8 hkYM
  refine viaV (α := Pd × Int) (g := (fun z : Pd × Int => .tuple #[(fun x : Pd => .agg #[.int .i64 x.p, .int .i64 x.v, .int .i64 x.u, .int .i64 x.n]) z.1, .int .i64 z.2])) (s_DrawShiftPadic w.heap.size a len cap _ (H.out.ext hG_9.out) hl hG_9.out.2) ?_
  intro zz u7 zu7
  (try simp at zu7)
  obtain ⟨⟨z1, z2, z3, z4⟩, k⟩ := zz
  dsimp only
  go_wp2_with fail
  clear zu7
  obtain ⟨W10, hW10⟩ : ∃ X, X = aft W9 u7 := ⟨_, rfl⟩
  have cX_10 : ∀ o, W10.cell? ⟨kX, o, none⟩ = #[Value.int IntKind.i64 x1, Value.int IntKind.i64 x2, Value.int IntKind.i64 x3, Value.int IntKind.i64 x4][o]? := fun o => by rw [hW10, aft_cell, if_pos (by omega)]; exact cX_9 o
  have cY_10 : ∀ o, W10.cell? ⟨kY, o, none⟩ = #[Value.int IntKind.i64 y1, Value.int IntKind.i64 y2, Value.int IntKind.i64 y3, Value.int IntKind.i64 y4][o]? := fun o => by rw [hW10, aft_cell, if_pos (by omega)]; exact cY_9 o
  have cYM_10 : ∀ o, W10.cell? ⟨kYM, o, none⟩ = #[Value.int IntKind.i64 y1, Value.int IntKind.i64 y2, Value.int IntKind.i64 y3, Value.int IntKind.i64 y4][o]? := fun o => by rw [hW10, aft_cell, if_pos (by omega)]; exact cYM_9 o
  have rD_10 : Hid (rdI W10 RD ds) := hid (by rw [hW10]; exact rD_9.out.aft _)
  have rE_10 : Hid (rdI W10 RE ds) := hid (by rw [hW10]; exact rE_9.out.aft _)
  have rL_10 : Hid (rdI W10 RL ys) := hid (by rw [hW10]; exact rL_9.out.aft _)
  have hG_10 : Hid (Ext w.heap.size w W10) := hid (by rw [hW10]; exact hG_9.out.aft _)
  have l_10 : kYM + 1 ≤ W10.heap.size := by rw [hW10]; have := size_aft W9 u7; omega
  rw [← hW10]
  clear hW10 cX_9 cY_9 cYM_9 rD_9 rE_9 rL_9 l_9 hG_9
  obtain ⟨kZ, hkZ⟩ : ∃ k, k = W10.heap.size := ⟨_, rfl⟩
  obtain ⟨W11, hW11⟩ : ∃ X, X = W10.alloc (Obj.cells #[Value.int IntKind.i64 z1, Value.int IntKind.i64 z2, Value.int IntKind.i64 z3, Value.int IntKind.i64 z4] 38) := ⟨_, rfl⟩
  have cX_11 : ∀ o, W11.cell? ⟨kX, o, none⟩ = #[Value.int IntKind.i64 x1, Value.int IntKind.i64 x2, Value.int IntKind.i64 x3, Value.int IntKind.i64 x4][o]? := fun o => by rw [hW11, alloc_cell, if_neg (by omega)]; exact cX_10 o
  have cY_11 : ∀ o, W11.cell? ⟨kY, o, none⟩ = #[Value.int IntKind.i64 y1, Value.int IntKind.i64 y2, Value.int IntKind.i64 y3, Value.int IntKind.i64 y4][o]? := fun o => by rw [hW11, alloc_cell, if_neg (by omega)]; exact cY_10 o
  have cYM_11 : ∀ o, W11.cell? ⟨kYM, o, none⟩ = #[Value.int IntKind.i64 y1, Value.int IntKind.i64 y2, Value.int IntKind.i64 y3, Value.int IntKind.i64 y4][o]? := fun o => by rw [hW11, alloc_cell, if_neg (by omega)]; exact cYM_10 o
  have cZ_11 : ∀ o, W11.cell? ⟨kZ, o, none⟩ = #[Value.int IntKind.i64 z1, Value.int IntKind.i64 z2, Value.int IntKind.i64 z3, Value.int IntKind.i64 z4][o]? := fun o => by rw [hW11, alloc_cell, if_pos hkZ]
  have rD_11 : Hid (rdI W11 RD ds) := hid (by rw [hW11]; exact rD_10.out.alloc _)
  have rE_11 : Hid (rdI W11 RE ds) := hid (by rw [hW11]; exact rE_10.out.alloc _)
  have rL_11 : Hid (rdI W11 RL ys) := hid (by rw [hW11]; exact rL_10.out.alloc _)
  have hG_11 : Hid (Ext w.heap.size w W11) := hid (by rw [hW11]; exact hG_10.out.alloc _)
  have l_11 : W11.heap.size = kZ + 1 := by rw [hW11]; simp; omega
  have qZ : kYM < kZ := by omega
  rw [← hW11, ← hkZ]
  clear hW11 cX_10 cY_10 cYM_10 rD_10 rE_10 rL_10 l_10 hG_10 hkZ
  obtain ⟨A, hA⟩ : ∃ rr, rr = shiftF ⟨z1, z2, z3, z4⟩ k := ⟨_, rfl⟩
  obtain ⟨⟨s1, s2, s3, s4⟩, s5⟩ := A
  have SI : Hid (∀ W : World, Calls Try.prog 27 #[.agg #[.int .i64 z1, .int .i64 z2, .int .i64 z3, .int .i64 z4], .int .i64 k] W fun e w' => e = .returned (.tuple #[.agg #[.int .i64 s1, .int .i64 s2, .int .i64 s3, .int .i64 s4], .int .i64 s5]) ∧ Below W.heap.size W w') := hid fun W => by have := i_Shift z1 z2 z3 z4 k W; rw [← hA] at this; exact this
  have SS : Hid (∀ W : World, Calls Try.prog 28 #[.agg #[.int .i64 z1, .int .i64 z2, .int .i64 z3, .int .i64 z4], .int .i64 k] W fun e w' => e = .returned (.tuple #[.agg #[.int .i64 s1, .int .i64 s2, .int .i64 s3, .int .i64 s4], .int .i64 s5]) ∧ Below W.heap.size W w') := hid fun W => by have := s_Shift z1 z2 z3 z4 k W; rw [← hA] at this; exact this
  have HS := hid (shift_facts hA)
  clear hA
  refine via (SI.out _) ?_
  intro u8 zu8
  (try simp at zu8)
  go_wp2_with fail
  clear zu8
  obtain ⟨W12, hW12⟩ : ∃ X, X = aft W11 u8 := ⟨_, rfl⟩
  have cX_12 : ∀ o, W12.cell? ⟨kX, o, none⟩ = #[Value.int IntKind.i64 x1, Value.int IntKind.i64 x2, Value.int IntKind.i64 x3, Value.int IntKind.i64 x4][o]? := fun o => by rw [hW12, aft_cell, if_pos (by omega)]; exact cX_11 o
  have cY_12 : ∀ o, W12.cell? ⟨kY, o, none⟩ = #[Value.int IntKind.i64 y1, Value.int IntKind.i64 y2, Value.int IntKind.i64 y3, Value.int IntKind.i64 y4][o]? := fun o => by rw [hW12, aft_cell, if_pos (by omega)]; exact cY_11 o
  have cYM_12 : ∀ o, W12.cell? ⟨kYM, o, none⟩ = #[Value.int IntKind.i64 y1, Value.int IntKind.i64 y2, Value.int IntKind.i64 y3, Value.int IntKind.i64 y4][o]? := fun o => by rw [hW12, aft_cell, if_pos (by omega)]; exact cYM_11 o
  have cZ_12 : ∀ o, W12.cell? ⟨kZ, o, none⟩ = #[Value.int IntKind.i64 z1, Value.int IntKind.i64 z2, Value.int IntKind.i64 z3, Value.int IntKind.i64 z4][o]? := fun o => by rw [hW12, aft_cell, if_pos (by omega)]; exact cZ_11 o
  have rD_12 : Hid (rdI W12 RD ds) := hid (by rw [hW12]; exact rD_11.out.aft _)
  have rE_12 : Hid (rdI W12 RE ds) := hid (by rw [hW12]; exact rE_11.out.aft _)
  have rL_12 : Hid (rdI W12 RL ys) := hid (by rw [hW12]; exact rL_11.out.aft _)
  have hG_12 : Hid (Ext w.heap.size w W12) := hid (by rw [hW12]; exact hG_11.out.aft _)
  have l_12 : kZ + 1 ≤ W12.heap.size := by rw [hW12]; have := size_aft W11 u8; omega
  rw [← hW12]
  clear hW12 cX_11 cY_11 cYM_11 cZ_11 rD_11 rE_11 rL_11 l_11 hG_11
  obtain ⟨kS, hkS⟩ : ∃ k, k = W12.heap.size := ⟨_, rfl⟩
  obtain ⟨W13, hW13⟩ : ∃ X, X = W12.alloc (Obj.cells #[Value.int IntKind.i64 s1, Value.int IntKind.i64 s2, Value.int IntKind.i64 s3, Value.int IntKind.i64 s4] 38) := ⟨_, rfl⟩
  have cX_13 : ∀ o, W13.cell? ⟨kX, o, none⟩ = #[Value.int IntKind.i64 x1, Value.int IntKind.i64 x2, Value.int IntKind.i64 x3, Value.int IntKind.i64 x4][o]? := fun o => by rw [hW13, alloc_cell, if_neg (by omega)]; exact cX_12 o
  have cY_13 : ∀ o, W13.cell? ⟨kY, o, none⟩ = #[Value.int IntKind.i64 y1, Value.int IntKind.i64 y2, Value.int IntKind.i64 y3, Value.int IntKind.i64 y4][o]? := fun o => by rw [hW13, alloc_cell, if_neg (by omega)]; exact cY_12 o
  have cYM_13 : ∀ o, W13.cell? ⟨kYM, o, none⟩ = #[Value.int IntKind.i64 y1, Value.int IntKind.i64 y2, Value.int IntKind.i64 y3, Value.int IntKind.i64 y4][o]? := fun o => by rw [hW13, alloc_cell, if_neg (by omega)]; exact cYM_12 o
  have cZ_13 : ∀ o, W13.cell? ⟨kZ, o, none⟩ = #[Value.int IntKind.i64 z1, Value.int IntKind.i64 z2, Value.int IntKind.i64 z3, Value.int IntKind.i64 z4][o]? := fun o => by rw [hW13, alloc_cell, if_neg (by omega)]; exact cZ_12 o
  have cS_13 : ∀ o, W13.cell? ⟨kS, o, none⟩ = #[Value.int IntKind.i64 s1, Value.int IntKind.i64 s2, Value.int IntKind.i64 s3, Value.int IntKind.i64 s4][o]? := fun o => by rw [hW13, alloc_cell, if_pos hkS]
  have rD_13 : Hid (rdI W13 RD ds) := hid (by rw [hW13]; exact rD_12.out.alloc _)
  have rE_13 : Hid (rdI W13 RE ds) := hid (by rw [hW13]; exact rE_12.out.alloc _)
  have rL_13 : Hid (rdI W13 RL ys) := hid (by rw [hW13]; exact rL_12.out.alloc _)
  have hG_13 : Hid (Ext w.heap.size w W13) := hid (by rw [hW13]; exact hG_12.out.alloc _)
  have l_13 : W13.heap.size = kS + 1 := by rw [hW13]; simp; omega
  have qS : kZ < kS := by omega
  rw [← hW13, ← hkS]
  clear hW13 cX_12 cY_12 cYM_12 cZ_12 rD_12 rE_12 rL_12 l_12 hG_12 hkS
  refine via (SS.out _) ?_
  intro u9 zu9
  (try simp at zu9)
  go_wp2_with fail
  clear zu9
  obtain ⟨W14, hW14⟩ : ∃ X, X = aft W13 u9 := ⟨_, rfl⟩
  have cX_14 : ∀ o, W14.cell? ⟨kX, o, none⟩ = #[Value.int IntKind.i64 x1, Value.int IntKind.i64 x2, Value.int IntKind.i64 x3, Value.int IntKind.i64 x4][o]? := fun o => by rw [hW14, aft_cell, if_pos (by omega)]; exact cX_13 o
  have cY_14 : ∀ o, W14.cell? ⟨kY, o, none⟩ = #[Value.int IntKind.i64 y1, Value.int IntKind.i64 y2, Value.int IntKind.i64 y3, Value.int IntKind.i64 y4][o]? := fun o => by rw [hW14, aft_cell, if_pos (by omega)]; exact cY_13 o
  have cYM_14 : ∀ o, W14.cell? ⟨kYM, o, none⟩ = #[Value.int IntKind.i64 y1, Value.int IntKind.i64 y2, Value.int IntKind.i64 y3, Value.int IntKind.i64 y4][o]? := fun o => by rw [hW14, aft_cell, if_pos (by omega)]; exact cYM_13 o
  have cZ_14 : ∀ o, W14.cell? ⟨kZ, o, none⟩ = #[Value.int IntKind.i64 z1, Value.int IntKind.i64 z2, Value.int IntKind.i64 z3, Value.int IntKind.i64 z4][o]? := fun o => by rw [hW14, aft_cell, if_pos (by omega)]; exact cZ_13 o
  have cS_14 : ∀ o, W14.cell? ⟨kS, o, none⟩ = #[Value.int IntKind.i64 s1, Value.int IntKind.i64 s2, Value.int IntKind.i64 s3, Value.int IntKind.i64 s4][o]? := fun o => by rw [hW14, aft_cell, if_pos (by omega)]; exact cS_13 o
  have rD_14 : Hid (rdI W14 RD ds) := hid (by rw [hW14]; exact rD_13.out.aft _)
  have rE_14 : Hid (rdI W14 RE ds) := hid (by rw [hW14]; exact rE_13.out.aft _)
  have rL_14 : Hid (rdI W14 RL ys) := hid (by rw [hW14]; exact rL_13.out.aft _)
  have hG_14 : Hid (Ext w.heap.size w W14) := hid (by rw [hW14]; exact hG_13.out.aft _)
  have l_14 : kS + 1 ≤ W14.heap.size := by rw [hW14]; have := size_aft W13 u9; omega
  rw [← hW14]
  clear hW14 cX_13 cY_13 cYM_13 cZ_13 cS_13 rD_13 rE_13 rL_13 l_13 hG_13
  obtain ⟨kSM, hkSM⟩ : ∃ k, k = W14.heap.size := ⟨_, rfl⟩
  obtain ⟨W15, hW15⟩ : ∃ X, X = W14.alloc (Obj.cells #[Value.int IntKind.i64 s1, Value.int IntKind.i64 s2, Value.int IntKind.i64 s3, Value.int IntKind.i64 s4] 38) := ⟨_, rfl⟩
  have cX_15 : ∀ o, W15.cell? ⟨kX, o, none⟩ = #[Value.int IntKind.i64 x1, Value.int IntKind.i64 x2, Value.int IntKind.i64 x3, Value.int IntKind.i64 x4][o]? := fun o => by rw [hW15, alloc_cell, if_neg (by omega)]; exact cX_14 o
  have cY_15 : ∀ o, W15.cell? ⟨kY, o, none⟩ = #[Value.int IntKind.i64 y1, Value.int IntKind.i64 y2, Value.int IntKind.i64 y3, Value.int IntKind.i64 y4][o]? := fun o => by rw [hW15, alloc_cell, if_neg (by omega)]; exact cY_14 o
  have cYM_15 : ∀ o, W15.cell? ⟨kYM, o, none⟩ = #[Value.int IntKind.i64 y1, Value.int IntKind.i64 y2, Value.int IntKind.i64 y3, Value.int IntKind.i64 y4][o]? := fun o => by rw [hW15, alloc_cell, if_neg (by omega)]; exact cYM_14 o
  have cZ_15 : ∀ o, W15.cell? ⟨kZ, o, none⟩ = #[Value.int IntKind.i64 z1, Value.int IntKind.i64 z2, Value.int IntKind.i64 z3, Value.int IntKind.i64 z4][o]? := fun o => by rw [hW15, alloc_cell, if_neg (by omega)]; exact cZ_14 o
  have cS_15 : ∀ o, W15.cell? ⟨kS, o, none⟩ = #[Value.int IntKind.i64 s1, Value.int IntKind.i64 s2, Value.int IntKind.i64 s3, Value.int IntKind.i64 s4][o]? := fun o => by rw [hW15, alloc_cell, if_neg (by omega)]; exact cS_14 o
  have cSM_15 : ∀ o, W15.cell? ⟨kSM, o, none⟩ = #[Value.int IntKind.i64 s1, Value.int IntKind.i64 s2, Value.int IntKind.i64 s3, Value.int IntKind.i64 s4][o]? := fun o => by rw [hW15, alloc_cell, if_pos hkSM]
  have rD_15 : Hid (rdI W15 RD ds) := hid (by rw [hW15]; exact rD_14.out.alloc _)
  have rE_15 : Hid (rdI W15 RE ds) := hid (by rw [hW15]; exact rE_14.out.alloc _)
  have rL_15 : Hid (rdI W15 RL ys) := hid (by rw [hW15]; exact rL_14.out.alloc _)
  have hG_15 : Hid (Ext w.heap.size w W15) := hid (by rw [hW15]; exact hG_14.out.alloc _)
  have l_15 : W15.heap.size = kSM + 1 := by rw [hW15]; simp; omega
  have qSM : kS < kSM := by omega
  rw [← hW15, ← hkSM]
  clear hW15 cX_14 cY_14 cYM_14 cZ_14 cS_14 rD_14 rE_14 rL_14 l_14 hG_14 hkSM
  refine viaV (α := Pd) (g := (fun x : Pd => .agg #[.int .i64 x.p, .int .i64 x.v, .int .i64 x.u, .int .i64 x.n])) (s_DrawSumOfDigits w.heap.size a len cap _ (H.out.ext hG_15.out) hl hG_15.out.2) ?_
  intro zz u10 zu10
  (try simp at zu10)
  obtain ⟨b1, b2, b3, b4⟩ := zz
  dsimp only
  go_wp2_with fail
  clear zu10
  obtain ⟨W16, hW16⟩ : ∃ X, X = aft W15 u10 := ⟨_, rfl⟩
  have cX_16 : ∀ o, W16.cell? ⟨kX, o, none⟩ = #[Value.int IntKind.i64 x1, Value.int IntKind.i64 x2, Value.int IntKind.i64 x3, Value.int IntKind.i64 x4][o]? := fun o => by rw [hW16, aft_cell, if_pos (by omega)]; exact cX_15 o
  have cY_16 : ∀ o, W16.cell? ⟨kY, o, none⟩ = #[Value.int IntKind.i64 y1, Value.int IntKind.i64 y2, Value.int IntKind.i64 y3, Value.int IntKind.i64 y4][o]? := fun o => by rw [hW16, aft_cell, if_pos (by omega)]; exact cY_15 o
  have cYM_16 : ∀ o, W16.cell? ⟨kYM, o, none⟩ = #[Value.int IntKind.i64 y1, Value.int IntKind.i64 y2, Value.int IntKind.i64 y3, Value.int IntKind.i64 y4][o]? := fun o => by rw [hW16, aft_cell, if_pos (by omega)]; exact cYM_15 o
  have cZ_16 : ∀ o, W16.cell? ⟨kZ, o, none⟩ = #[Value.int IntKind.i64 z1, Value.int IntKind.i64 z2, Value.int IntKind.i64 z3, Value.int IntKind.i64 z4][o]? := fun o => by rw [hW16, aft_cell, if_pos (by omega)]; exact cZ_15 o
  have cS_16 : ∀ o, W16.cell? ⟨kS, o, none⟩ = #[Value.int IntKind.i64 s1, Value.int IntKind.i64 s2, Value.int IntKind.i64 s3, Value.int IntKind.i64 s4][o]? := fun o => by rw [hW16, aft_cell, if_pos (by omega)]; exact cS_15 o
  have cSM_16 : ∀ o, W16.cell? ⟨kSM, o, none⟩ = #[Value.int IntKind.i64 s1, Value.int IntKind.i64 s2, Value.int IntKind.i64 s3, Value.int IntKind.i64 s4][o]? := fun o => by rw [hW16, aft_cell, if_pos (by omega)]; exact cSM_15 o
  have rD_16 : Hid (rdI W16 RD ds) := hid (by rw [hW16]; exact rD_15.out.aft _)
  have rE_16 : Hid (rdI W16 RE ds) := hid (by rw [hW16]; exact rE_15.out.aft _)
  have rL_16 : Hid (rdI W16 RL ys) := hid (by rw [hW16]; exact rL_15.out.aft _)
  have hG_16 : Hid (Ext w.heap.size w W16) := hid (by rw [hW16]; exact hG_15.out.aft _)
  have l_16 : kSM + 1 ≤ W16.heap.size := by rw [hW16]; have := size_aft W15 u10; omega
  rw [← hW16]
  clear hW16 cX_15 cY_15 cYM_15 cZ_15 cS_15 cSM_15 rD_15 rE_15 rL_15 l_15 hG_15
  obtain ⟨kB, hkB⟩ : ∃ k, k = W16.heap.size := ⟨_, rfl⟩
  obtain ⟨W17, hW17⟩ : ∃ X, X = W16.alloc (Obj.cells #[Value.int IntKind.i64 b1, Value.int IntKind.i64 b2, Value.int IntKind.i64 b3, Value.int IntKind.i64 b4] 38) := ⟨_, rfl⟩
  have cX_17 : ∀ o, W17.cell? ⟨kX, o, none⟩ = #[Value.int IntKind.i64 x1, Value.int IntKind.i64 x2, Value.int IntKind.i64 x3, Value.int IntKind.i64 x4][o]? := fun o => by rw [hW17, alloc_cell, if_neg (by omega)]; exact cX_16 o
  have cY_17 : ∀ o, W17.cell? ⟨kY, o, none⟩ = #[Value.int IntKind.i64 y1, Value.int IntKind.i64 y2, Value.int IntKind.i64 y3, Value.int IntKind.i64 y4][o]? := fun o => by rw [hW17, alloc_cell, if_neg (by omega)]; exact cY_16 o
  have cYM_17 : ∀ o, W17.cell? ⟨kYM, o, none⟩ = #[Value.int IntKind.i64 y1, Value.int IntKind.i64 y2, Value.int IntKind.i64 y3, Value.int IntKind.i64 y4][o]? := fun o => by rw [hW17, alloc_cell, if_neg (by omega)]; exact cYM_16 o
  have cZ_17 : ∀ o, W17.cell? ⟨kZ, o, none⟩ = #[Value.int IntKind.i64 z1, Value.int IntKind.i64 z2, Value.int IntKind.i64 z3, Value.int IntKind.i64 z4][o]? := fun o => by rw [hW17, alloc_cell, if_neg (by omega)]; exact cZ_16 o
  have cS_17 : ∀ o, W17.cell? ⟨kS, o, none⟩ = #[Value.int IntKind.i64 s1, Value.int IntKind.i64 s2, Value.int IntKind.i64 s3, Value.int IntKind.i64 s4][o]? := fun o => by rw [hW17, alloc_cell, if_neg (by omega)]; exact cS_16 o
  have cSM_17 : ∀ o, W17.cell? ⟨kSM, o, none⟩ = #[Value.int IntKind.i64 s1, Value.int IntKind.i64 s2, Value.int IntKind.i64 s3, Value.int IntKind.i64 s4][o]? := fun o => by rw [hW17, alloc_cell, if_neg (by omega)]; exact cSM_16 o
  have cB_17 : ∀ o, W17.cell? ⟨kB, o, none⟩ = #[Value.int IntKind.i64 b1, Value.int IntKind.i64 b2, Value.int IntKind.i64 b3, Value.int IntKind.i64 b4][o]? := fun o => by rw [hW17, alloc_cell, if_pos hkB]
  have rD_17 : Hid (rdI W17 RD ds) := hid (by rw [hW17]; exact rD_16.out.alloc _)
  have rE_17 : Hid (rdI W17 RE ds) := hid (by rw [hW17]; exact rE_16.out.alloc _)
  have rL_17 : Hid (rdI W17 RL ys) := hid (by rw [hW17]; exact rL_16.out.alloc _)
  have hG_17 : Hid (Ext w.heap.size w W17) := hid (by rw [hW17]; exact hG_16.out.alloc _)
  have l_17 : W17.heap.size = kB + 1 := by rw [hW17]; simp; omega
  have qB : kSM < kB := by omega
  rw [← hW17, ← hkB]
  clear hW17 cX_16 cY_16 cYM_16 cZ_16 cS_16 cSM_16 rD_16 rE_16 rL_16 l_16 hG_16 hkB
  obtain ⟨G, hG⟩ : ∃ rr, rr = dsumF b1 b2 b3 b4 := ⟨_, rfl⟩
  obtain ⟨g1, g5⟩ := G
  have GI : Hid (∀ W : World, Calls Try.prog 30 #[.agg #[.int .i64 b1, .int .i64 b2, .int .i64 b3, .int .i64 b4]] W fun e w' => e = .returned (.tuple #[.int .i64 g1, .int .i64 g5]) ∧ Below W.heap.size W w') := hid fun W => by have := i_SumOfDigits b1 b2 b3 b4 W; rw [← hG] at this; exact this
  have GS : Hid (∀ W : World, Calls Try.prog 31 #[.agg #[.int .i64 b1, .int .i64 b2, .int .i64 b3, .int .i64 b4]] W fun e w' => e = .returned (.tuple #[.int .i64 g1, .int .i64 g5]) ∧ Below W.heap.size W w') := hid fun W => by have := s_SumOfDigits b1 b2 b3 b4 W; rw [← hG] at this; exact this
  clear hG
  refine via (GI.out _) ?_
  intro u11 zu11
  (try simp at zu11)
  go_wp2_with fail
  clear zu11
  obtain ⟨W18, hW18⟩ : ∃ X, X = aft W17 u11 := ⟨_, rfl⟩
  have cX_18 : ∀ o, W18.cell? ⟨kX, o, none⟩ = #[Value.int IntKind.i64 x1, Value.int IntKind.i64 x2, Value.int IntKind.i64 x3, Value.int IntKind.i64 x4][o]? := fun o => by rw [hW18, aft_cell, if_pos (by omega)]; exact cX_17 o
  have cY_18 : ∀ o, W18.cell? ⟨kY, o, none⟩ = #[Value.int IntKind.i64 y1, Value.int IntKind.i64 y2, Value.int IntKind.i64 y3, Value.int IntKind.i64 y4][o]? := fun o => by rw [hW18, aft_cell, if_pos (by omega)]; exact cY_17 o
  have cYM_18 : ∀ o, W18.cell? ⟨kYM, o, none⟩ = #[Value.int IntKind.i64 y1, Value.int IntKind.i64 y2, Value.int IntKind.i64 y3, Value.int IntKind.i64 y4][o]? := fun o => by rw [hW18, aft_cell, if_pos (by omega)]; exact cYM_17 o
  have cZ_18 : ∀ o, W18.cell? ⟨kZ, o, none⟩ = #[Value.int IntKind.i64 z1, Value.int IntKind.i64 z2, Value.int IntKind.i64 z3, Value.int IntKind.i64 z4][o]? := fun o => by rw [hW18, aft_cell, if_pos (by omega)]; exact cZ_17 o
  have cS_18 : ∀ o, W18.cell? ⟨kS, o, none⟩ = #[Value.int IntKind.i64 s1, Value.int IntKind.i64 s2, Value.int IntKind.i64 s3, Value.int IntKind.i64 s4][o]? := fun o => by rw [hW18, aft_cell, if_pos (by omega)]; exact cS_17 o
  have cSM_18 : ∀ o, W18.cell? ⟨kSM, o, none⟩ = #[Value.int IntKind.i64 s1, Value.int IntKind.i64 s2, Value.int IntKind.i64 s3, Value.int IntKind.i64 s4][o]? := fun o => by rw [hW18, aft_cell, if_pos (by omega)]; exact cSM_17 o
  have cB_18 : ∀ o, W18.cell? ⟨kB, o, none⟩ = #[Value.int IntKind.i64 b1, Value.int IntKind.i64 b2, Value.int IntKind.i64 b3, Value.int IntKind.i64 b4][o]? := fun o => by rw [hW18, aft_cell, if_pos (by omega)]; exact cB_17 o
  have rD_18 : Hid (rdI W18 RD ds) := hid (by rw [hW18]; exact rD_17.out.aft _)
  have rE_18 : Hid (rdI W18 RE ds) := hid (by rw [hW18]; exact rE_17.out.aft _)
  have rL_18 : Hid (rdI W18 RL ys) := hid (by rw [hW18]; exact rL_17.out.aft _)
  have hG_18 : Hid (Ext w.heap.size w W18) := hid (by rw [hW18]; exact hG_17.out.aft _)
  have l_18 : kB + 1 ≤ W18.heap.size := by rw [hW18]; have := size_aft W17 u11; omega
  rw [← hW18]
  clear hW18 cX_17 cY_17 cYM_17 cZ_17 cS_17 cSM_17 cB_17 rD_17 rE_17 rL_17 l_17 hG_17
  refine via (GS.out _) ?_
  intro u12 zu12
  (try simp at zu12)
  go_wp2_with fail
  clear zu12
  obtain ⟨W19, hW19⟩ : ∃ X, X = aft W18 u12 := ⟨_, rfl⟩
  have cX_19 : ∀ o, W19.cell? ⟨kX, o, none⟩ = #[Value.int IntKind.i64 x1, Value.int IntKind.i64 x2, Value.int IntKind.i64 x3, Value.int IntKind.i64 x4][o]? := fun o => by rw [hW19, aft_cell, if_pos (by omega)]; exact cX_18 o
  have cY_19 : ∀ o, W19.cell? ⟨kY, o, none⟩ = #[Value.int IntKind.i64 y1, Value.int IntKind.i64 y2, Value.int IntKind.i64 y3, Value.int IntKind.i64 y4][o]? := fun o => by rw [hW19, aft_cell, if_pos (by omega)]; exact cY_18 o
  have cYM_19 : ∀ o, W19.cell? ⟨kYM, o, none⟩ = #[Value.int IntKind.i64 y1, Value.int IntKind.i64 y2, Value.int IntKind.i64 y3, Value.int IntKind.i64 y4][o]? := fun o => by rw [hW19, aft_cell, if_pos (by omega)]; exact cYM_18 o
  have cZ_19 : ∀ o, W19.cell? ⟨kZ, o, none⟩ = #[Value.int IntKind.i64 z1, Value.int IntKind.i64 z2, Value.int IntKind.i64 z3, Value.int IntKind.i64 z4][o]? := fun o => by rw [hW19, aft_cell, if_pos (by omega)]; exact cZ_18 o
  have cS_19 : ∀ o, W19.cell? ⟨kS, o, none⟩ = #[Value.int IntKind.i64 s1, Value.int IntKind.i64 s2, Value.int IntKind.i64 s3, Value.int IntKind.i64 s4][o]? := fun o => by rw [hW19, aft_cell, if_pos (by omega)]; exact cS_18 o
  have cSM_19 : ∀ o, W19.cell? ⟨kSM, o, none⟩ = #[Value.int IntKind.i64 s1, Value.int IntKind.i64 s2, Value.int IntKind.i64 s3, Value.int IntKind.i64 s4][o]? := fun o => by rw [hW19, aft_cell, if_pos (by omega)]; exact cSM_18 o
  have cB_19 : ∀ o, W19.cell? ⟨kB, o, none⟩ = #[Value.int IntKind.i64 b1, Value.int IntKind.i64 b2, Value.int IntKind.i64 b3, Value.int IntKind.i64 b4][o]? := fun o => by rw [hW19, aft_cell, if_pos (by omega)]; exact cB_18 o
  have rD_19 : Hid (rdI W19 RD ds) := hid (by rw [hW19]; exact rD_18.out.aft _)
  have rE_19 : Hid (rdI W19 RE ds) := hid (by rw [hW19]; exact rE_18.out.aft _)
  have rL_19 : Hid (rdI W19 RL ys) := hid (by rw [hW19]; exact rL_18.out.aft _)
  have hG_19 : Hid (Ext w.heap.size w W19) := hid (by rw [hW19]; exact hG_18.out.aft _)
  have l_19 : kB + 1 ≤ W19.heap.size := by rw [hW19]; have := size_aft W18 u12; omega
  rw [← hW19]
  clear hW19 cX_18 cY_18 cYM_18 cZ_18 cS_18 cSM_18 cB_18 rD_18 rE_18 rL_18 l_18 hG_18
  clear DI DS FI FS SS GI GS
  by_cases hs5 : s5 = 0
  case neg =>
    have hs5' : (s5 == 0) = false := by simpa using hs5
    clear HS hs5
    by_cases h5 : d5 = 0
    case neg =>
      have h5' : (d5 != 0) = true := by simpa using h5
      refine via (l_like _ _ ds _ rD_19.out rE_19.out) ?_
      intro u13 zu13
      (try simp at zu13)
      go_wp2_with fail
      go_ret
      exact ⟨by first | rfl | simp, Ext.bel (hG_19.out.aft _)⟩
    subst h5
    obtain ⟨e1, e2, e3, e4, e5⟩ := HF.out rfl
    have FB : Hid (∀ W : World, rdI W RD ds → Calls Try.prog 24 #[.int .i64 x1, .int .i64 x2, RD] W fun e w' => e = .returned (.tuple #[.agg #[.int .i64 x1, .int .i64 x2, .int .i64 x3, .int .i64 x4], .int .i64 0]) ∧ Below W.heap.size W w') := hid fun W hW => by have := i_FromDigits x1 x2 RD ds W hW; rw [e1] at this; exact this
    have GB : Hid (∀ W : World, Calls Try.prog 30 #[.agg #[.int .i64 x1, .int .i64 x2, .int .i64 x3, .int .i64 x4]] W fun e w' => e = .returned (.tuple #[.int .i64 (lsum ds), .int .i64 0]) ∧ Below W.heap.size W w') := hid fun W => by have := i_SumOfDigits x1 x2 x3 x4 W; rw [e2] at this; exact this
    have E3 := hid e3
    have E5 := hid e5
    have hls := e5 ds.length
    rw [List.take_length] at hls
    clear e1 e2 e3 e5
    refine via (l_like _ _ ds _ rD_19.out rE_19.out) ?_
    intro u13 zu13
    (try simp at zu13)
    go_wp2_with fail
    clear zu13
    obtain ⟨W20, hW20⟩ : ∃ X, X = aft W19 u13 := ⟨_, rfl⟩
    have cX_20 : ∀ o, W20.cell? ⟨kX, o, none⟩ = #[Value.int IntKind.i64 x1, Value.int IntKind.i64 x2, Value.int IntKind.i64 x3, Value.int IntKind.i64 x4][o]? := fun o => by rw [hW20, aft_cell, if_pos (by omega)]; exact cX_19 o
    have cY_20 : ∀ o, W20.cell? ⟨kY, o, none⟩ = #[Value.int IntKind.i64 y1, Value.int IntKind.i64 y2, Value.int IntKind.i64 y3, Value.int IntKind.i64 y4][o]? := fun o => by rw [hW20, aft_cell, if_pos (by omega)]; exact cY_19 o
    have cYM_20 : ∀ o, W20.cell? ⟨kYM, o, none⟩ = #[Value.int IntKind.i64 y1, Value.int IntKind.i64 y2, Value.int IntKind.i64 y3, Value.int IntKind.i64 y4][o]? := fun o => by rw [hW20, aft_cell, if_pos (by omega)]; exact cYM_19 o
    have cZ_20 : ∀ o, W20.cell? ⟨kZ, o, none⟩ = #[Value.int IntKind.i64 z1, Value.int IntKind.i64 z2, Value.int IntKind.i64 z3, Value.int IntKind.i64 z4][o]? := fun o => by rw [hW20, aft_cell, if_pos (by omega)]; exact cZ_19 o
    have cS_20 : ∀ o, W20.cell? ⟨kS, o, none⟩ = #[Value.int IntKind.i64 s1, Value.int IntKind.i64 s2, Value.int IntKind.i64 s3, Value.int IntKind.i64 s4][o]? := fun o => by rw [hW20, aft_cell, if_pos (by omega)]; exact cS_19 o
    have cSM_20 : ∀ o, W20.cell? ⟨kSM, o, none⟩ = #[Value.int IntKind.i64 s1, Value.int IntKind.i64 s2, Value.int IntKind.i64 s3, Value.int IntKind.i64 s4][o]? := fun o => by rw [hW20, aft_cell, if_pos (by omega)]; exact cSM_19 o
    have cB_20 : ∀ o, W20.cell? ⟨kB, o, none⟩ = #[Value.int IntKind.i64 b1, Value.int IntKind.i64 b2, Value.int IntKind.i64 b3, Value.int IntKind.i64 b4][o]? := fun o => by rw [hW20, aft_cell, if_pos (by omega)]; exact cB_19 o
    have rD_20 : Hid (rdI W20 RD ds) := hid (by rw [hW20]; exact rD_19.out.aft _)
    have rE_20 : Hid (rdI W20 RE ds) := hid (by rw [hW20]; exact rE_19.out.aft _)
    have rL_20 : Hid (rdI W20 RL ys) := hid (by rw [hW20]; exact rL_19.out.aft _)
    have hG_20 : Hid (Ext w.heap.size w W20) := hid (by rw [hW20]; exact hG_19.out.aft _)
    have l_20 : kB + 1 ≤ W20.heap.size := by rw [hW20]; have := size_aft W19 u13; omega
    rw [← hW20]
    clear hW20 cX_19 cY_19 cYM_19 cZ_19 cS_19 cSM_19 cB_19 rD_19 rE_19 rL_19 l_19 hG_19
    refine via (FB.out _ rD_20.out) ?_
    intro u20 zu20
    (try simp at zu20)
    go_wp2_with fail
    clear zu20
    obtain ⟨W21, hW21⟩ : ∃ X, X = aft W20 u20 := ⟨_, rfl⟩
    have cX_21 : ∀ o, W21.cell? ⟨kX, o, none⟩ = #[Value.int IntKind.i64 x1, Value.int IntKind.i64 x2, Value.int IntKind.i64 x3, Value.int IntKind.i64 x4][o]? := fun o => by rw [hW21, aft_cell, if_pos (by omega)]; exact cX_20 o
    have cY_21 : ∀ o, W21.cell? ⟨kY, o, none⟩ = #[Value.int IntKind.i64 y1, Value.int IntKind.i64 y2, Value.int IntKind.i64 y3, Value.int IntKind.i64 y4][o]? := fun o => by rw [hW21, aft_cell, if_pos (by omega)]; exact cY_20 o
    have cYM_21 : ∀ o, W21.cell? ⟨kYM, o, none⟩ = #[Value.int IntKind.i64 y1, Value.int IntKind.i64 y2, Value.int IntKind.i64 y3, Value.int IntKind.i64 y4][o]? := fun o => by rw [hW21, aft_cell, if_pos (by omega)]; exact cYM_20 o
    have cZ_21 : ∀ o, W21.cell? ⟨kZ, o, none⟩ = #[Value.int IntKind.i64 z1, Value.int IntKind.i64 z2, Value.int IntKind.i64 z3, Value.int IntKind.i64 z4][o]? := fun o => by rw [hW21, aft_cell, if_pos (by omega)]; exact cZ_20 o
    have cS_21 : ∀ o, W21.cell? ⟨kS, o, none⟩ = #[Value.int IntKind.i64 s1, Value.int IntKind.i64 s2, Value.int IntKind.i64 s3, Value.int IntKind.i64 s4][o]? := fun o => by rw [hW21, aft_cell, if_pos (by omega)]; exact cS_20 o
    have cSM_21 : ∀ o, W21.cell? ⟨kSM, o, none⟩ = #[Value.int IntKind.i64 s1, Value.int IntKind.i64 s2, Value.int IntKind.i64 s3, Value.int IntKind.i64 s4][o]? := fun o => by rw [hW21, aft_cell, if_pos (by omega)]; exact cSM_20 o
    have cB_21 : ∀ o, W21.cell? ⟨kB, o, none⟩ = #[Value.int IntKind.i64 b1, Value.int IntKind.i64 b2, Value.int IntKind.i64 b3, Value.int IntKind.i64 b4][o]? := fun o => by rw [hW21, aft_cell, if_pos (by omega)]; exact cB_20 o
    have rD_21 : Hid (rdI W21 RD ds) := hid (by rw [hW21]; exact rD_20.out.aft _)
    have rE_21 : Hid (rdI W21 RE ds) := hid (by rw [hW21]; exact rE_20.out.aft _)
    have rL_21 : Hid (rdI W21 RL ys) := hid (by rw [hW21]; exact rL_20.out.aft _)
    have hG_21 : Hid (Ext w.heap.size w W21) := hid (by rw [hW21]; exact hG_20.out.aft _)
    have l_21 : kB + 1 ≤ W21.heap.size := by rw [hW21]; have := size_aft W20 u20; omega
    rw [← hW21]
    clear hW21 cX_20 cY_20 cYM_20 cZ_20 cS_20 cSM_20 cB_20 rD_20 rE_20 rL_20 l_20 hG_20
    obtain ⟨kK, hkK⟩ : ∃ k, k = W21.heap.size := ⟨_, rfl⟩
    obtain ⟨W22, hW22⟩ : ∃ X, X = W21.alloc (Obj.cells #[Value.int IntKind.i64 x1, Value.int IntKind.i64 x2, Value.int IntKind.i64 x3, Value.int IntKind.i64 x4] 38) := ⟨_, rfl⟩
    have cX_22 : ∀ o, W22.cell? ⟨kX, o, none⟩ = #[Value.int IntKind.i64 x1, Value.int IntKind.i64 x2, Value.int IntKind.i64 x3, Value.int IntKind.i64 x4][o]? := fun o => by rw [hW22, alloc_cell, if_neg (by omega)]; exact cX_21 o
    have cY_22 : ∀ o, W22.cell? ⟨kY, o, none⟩ = #[Value.int IntKind.i64 y1, Value.int IntKind.i64 y2, Value.int IntKind.i64 y3, Value.int IntKind.i64 y4][o]? := fun o => by rw [hW22, alloc_cell, if_neg (by omega)]; exact cY_21 o
    have cYM_22 : ∀ o, W22.cell? ⟨kYM, o, none⟩ = #[Value.int IntKind.i64 y1, Value.int IntKind.i64 y2, Value.int IntKind.i64 y3, Value.int IntKind.i64 y4][o]? := fun o => by rw [hW22, alloc_cell, if_neg (by omega)]; exact cYM_21 o
    have cZ_22 : ∀ o, W22.cell? ⟨kZ, o, none⟩ = #[Value.int IntKind.i64 z1, Value.int IntKind.i64 z2, Value.int IntKind.i64 z3, Value.int IntKind.i64 z4][o]? := fun o => by rw [hW22, alloc_cell, if_neg (by omega)]; exact cZ_21 o
    have cS_22 : ∀ o, W22.cell? ⟨kS, o, none⟩ = #[Value.int IntKind.i64 s1, Value.int IntKind.i64 s2, Value.int IntKind.i64 s3, Value.int IntKind.i64 s4][o]? := fun o => by rw [hW22, alloc_cell, if_neg (by omega)]; exact cS_21 o
    have cSM_22 : ∀ o, W22.cell? ⟨kSM, o, none⟩ = #[Value.int IntKind.i64 s1, Value.int IntKind.i64 s2, Value.int IntKind.i64 s3, Value.int IntKind.i64 s4][o]? := fun o => by rw [hW22, alloc_cell, if_neg (by omega)]; exact cSM_21 o
    have cB_22 : ∀ o, W22.cell? ⟨kB, o, none⟩ = #[Value.int IntKind.i64 b1, Value.int IntKind.i64 b2, Value.int IntKind.i64 b3, Value.int IntKind.i64 b4][o]? := fun o => by rw [hW22, alloc_cell, if_neg (by omega)]; exact cB_21 o
    have cK_22 : ∀ o, W22.cell? ⟨kK, o, none⟩ = #[Value.int IntKind.i64 x1, Value.int IntKind.i64 x2, Value.int IntKind.i64 x3, Value.int IntKind.i64 x4][o]? := fun o => by rw [hW22, alloc_cell, if_pos hkK]
    have rD_22 : Hid (rdI W22 RD ds) := hid (by rw [hW22]; exact rD_21.out.alloc _)
    have rE_22 : Hid (rdI W22 RE ds) := hid (by rw [hW22]; exact rE_21.out.alloc _)
    have rL_22 : Hid (rdI W22 RL ys) := hid (by rw [hW22]; exact rL_21.out.alloc _)
    have hG_22 : Hid (Ext w.heap.size w W22) := hid (by rw [hW22]; exact hG_21.out.alloc _)
    have l_22 : W22.heap.size = kK + 1 := by rw [hW22]; simp; omega
    have qK : kB < kK := by omega
    rw [← hW22, ← hkK]
    clear hW22 cX_21 cY_21 cYM_21 cZ_21 cS_21 cSM_21 cB_21 rD_21 rE_21 rL_21 l_21 hG_21 hkK
    refine via (GB.out _) ?_
    intro u21 zu21
    (try simp at zu21)
    go_wp2_with fail
    clear zu21
    obtain ⟨W23, hW23⟩ : ∃ X, X = aft W22 u21 := ⟨_, rfl⟩
    have cX_23 : ∀ o, W23.cell? ⟨kX, o, none⟩ = #[Value.int IntKind.i64 x1, Value.int IntKind.i64 x2, Value.int IntKind.i64 x3, Value.int IntKind.i64 x4][o]? := fun o => by rw [hW23, aft_cell, if_pos (by omega)]; exact cX_22 o
    have cY_23 : ∀ o, W23.cell? ⟨kY, o, none⟩ = #[Value.int IntKind.i64 y1, Value.int IntKind.i64 y2, Value.int IntKind.i64 y3, Value.int IntKind.i64 y4][o]? := fun o => by rw [hW23, aft_cell, if_pos (by omega)]; exact cY_22 o
    have cYM_23 : ∀ o, W23.cell? ⟨kYM, o, none⟩ = #[Value.int IntKind.i64 y1, Value.int IntKind.i64 y2, Value.int IntKind.i64 y3, Value.int IntKind.i64 y4][o]? := fun o => by rw [hW23, aft_cell, if_pos (by omega)]; exact cYM_22 o
    have cZ_23 : ∀ o, W23.cell? ⟨kZ, o, none⟩ = #[Value.int IntKind.i64 z1, Value.int IntKind.i64 z2, Value.int IntKind.i64 z3, Value.int IntKind.i64 z4][o]? := fun o => by rw [hW23, aft_cell, if_pos (by omega)]; exact cZ_22 o
    have cS_23 : ∀ o, W23.cell? ⟨kS, o, none⟩ = #[Value.int IntKind.i64 s1, Value.int IntKind.i64 s2, Value.int IntKind.i64 s3, Value.int IntKind.i64 s4][o]? := fun o => by rw [hW23, aft_cell, if_pos (by omega)]; exact cS_22 o
    have cSM_23 : ∀ o, W23.cell? ⟨kSM, o, none⟩ = #[Value.int IntKind.i64 s1, Value.int IntKind.i64 s2, Value.int IntKind.i64 s3, Value.int IntKind.i64 s4][o]? := fun o => by rw [hW23, aft_cell, if_pos (by omega)]; exact cSM_22 o
    have cB_23 : ∀ o, W23.cell? ⟨kB, o, none⟩ = #[Value.int IntKind.i64 b1, Value.int IntKind.i64 b2, Value.int IntKind.i64 b3, Value.int IntKind.i64 b4][o]? := fun o => by rw [hW23, aft_cell, if_pos (by omega)]; exact cB_22 o
    have cK_23 : ∀ o, W23.cell? ⟨kK, o, none⟩ = #[Value.int IntKind.i64 x1, Value.int IntKind.i64 x2, Value.int IntKind.i64 x3, Value.int IntKind.i64 x4][o]? := fun o => by rw [hW23, aft_cell, if_pos (by omega)]; exact cK_22 o
    have rD_23 : Hid (rdI W23 RD ds) := hid (by rw [hW23]; exact rD_22.out.aft _)
    have rE_23 : Hid (rdI W23 RE ds) := hid (by rw [hW23]; exact rE_22.out.aft _)
    have rL_23 : Hid (rdI W23 RL ys) := hid (by rw [hW23]; exact rL_22.out.aft _)
    have hG_23 : Hid (Ext w.heap.size w W23) := hid (by rw [hW23]; exact hG_22.out.aft _)
    have l_23 : kK + 1 ≤ W23.heap.size := by rw [hW23]; have := size_aft W22 u21; omega
    rw [← hW23]
    clear hW23 cX_22 cY_22 cYM_22 cZ_22 cS_22 cSM_22 cB_22 cK_22 rD_22 rE_22 rL_22 l_22 hG_22
    refine pur (l_sum RD ds _ rD_23.out E3.out e4 E5.out) ?_
    go_wp2_with fail
    go_ret
    exact ⟨by first | rfl | simp, Ext.bel hG_23.out⟩
  subst hs5
  obtain ⟨hk, hsb⟩ := HS.out rfl
  have SB : Hid (∀ W : World, Calls Try.prog 27 #[.agg #[.int .i64 s1, .int .i64 s2, .int .i64 s3, .int .i64 s4], .int .i64 (-k)] W fun e w' => e = .returned (.tuple #[.agg #[.int .i64 z1, .int .i64 z2, .int .i64 z3, .int .i64 z4], .int .i64 0]) ∧ Below W.heap.size W w') := hid fun W => by have := i_Shift s1 s2 s3 s4 (-k) W; rw [hsb] at this; exact this
  clear hsb HS
  refine via (l_like _ _ ds _ rD_19.out rE_19.out) ?_
  intro u13 zu13
  (try simp at zu13)
  go_wp2_with fail
  clear zu13
  obtain ⟨W20, hW20⟩ : ∃ X, X = aft W19 u13 := ⟨_, rfl⟩
  have cX_20 : ∀ o, W20.cell? ⟨kX, o, none⟩ = #[Value.int IntKind.i64 x1, Value.int IntKind.i64 x2, Value.int IntKind.i64 x3, Value.int IntKind.i64 x4][o]? := fun o => by rw [hW20, aft_cell, if_pos (by omega)]; exact cX_19 o
  have cY_20 : ∀ o, W20.cell? ⟨kY, o, none⟩ = #[Value.int IntKind.i64 y1, Value.int IntKind.i64 y2, Value.int IntKind.i64 y3, Value.int IntKind.i64 y4][o]? := fun o => by rw [hW20, aft_cell, if_pos (by omega)]; exact cY_19 o
  have cYM_20 : ∀ o, W20.cell? ⟨kYM, o, none⟩ = #[Value.int IntKind.i64 y1, Value.int IntKind.i64 y2, Value.int IntKind.i64 y3, Value.int IntKind.i64 y4][o]? := fun o => by rw [hW20, aft_cell, if_pos (by omega)]; exact cYM_19 o
  have cZ_20 : ∀ o, W20.cell? ⟨kZ, o, none⟩ = #[Value.int IntKind.i64 z1, Value.int IntKind.i64 z2, Value.int IntKind.i64 z3, Value.int IntKind.i64 z4][o]? := fun o => by rw [hW20, aft_cell, if_pos (by omega)]; exact cZ_19 o
  have cS_20 : ∀ o, W20.cell? ⟨kS, o, none⟩ = #[Value.int IntKind.i64 s1, Value.int IntKind.i64 s2, Value.int IntKind.i64 s3, Value.int IntKind.i64 s4][o]? := fun o => by rw [hW20, aft_cell, if_pos (by omega)]; exact cS_19 o
  have cSM_20 : ∀ o, W20.cell? ⟨kSM, o, none⟩ = #[Value.int IntKind.i64 s1, Value.int IntKind.i64 s2, Value.int IntKind.i64 s3, Value.int IntKind.i64 s4][o]? := fun o => by rw [hW20, aft_cell, if_pos (by omega)]; exact cSM_19 o
  have cB_20 : ∀ o, W20.cell? ⟨kB, o, none⟩ = #[Value.int IntKind.i64 b1, Value.int IntKind.i64 b2, Value.int IntKind.i64 b3, Value.int IntKind.i64 b4][o]? := fun o => by rw [hW20, aft_cell, if_pos (by omega)]; exact cB_19 o
  have rD_20 : Hid (rdI W20 RD ds) := hid (by rw [hW20]; exact rD_19.out.aft _)
  have rE_20 : Hid (rdI W20 RE ds) := hid (by rw [hW20]; exact rE_19.out.aft _)
  have rL_20 : Hid (rdI W20 RL ys) := hid (by rw [hW20]; exact rL_19.out.aft _)
  have hG_20 : Hid (Ext w.heap.size w W20) := hid (by rw [hW20]; exact hG_19.out.aft _)
  have l_20 : kB + 1 ≤ W20.heap.size := by rw [hW20]; have := size_aft W19 u13; omega
  rw [← hW20]
  clear hW20 cX_19 cY_19 cYM_19 cZ_19 cS_19 cSM_19 cB_19 rD_19 rE_19 rL_19 l_19 hG_19
  by_cases h5 : d5 = 0
  case neg =>
    have h5' : (d5 != 0) = true := by simpa using h5
    refine via (SB.out _) ?_
    intro u14 zu14
    (try simp at zu14)
    go_wp2_with fail
    go_ret
    exact ⟨by first | rfl | simp, Ext.bel ((hG_20.out.aft _).alloc _)⟩
  subst h5
  obtain ⟨e1, e2, e3, e4, e5⟩ := HF.out rfl
  have FB : Hid (∀ W : World, rdI W RD ds → Calls Try.prog 24 #[.int .i64 x1, .int .i64 x2, RD] W fun e w' => e = .returned (.tuple #[.agg #[.int .i64 x1, .int .i64 x2, .int .i64 x3, .int .i64 x4], .int .i64 0]) ∧ Below W.heap.size W w') := hid fun W hW => by have := i_FromDigits x1 x2 RD ds W hW; rw [e1] at this; exact this
  have GB : Hid (∀ W : World, Calls Try.prog 30 #[.agg #[.int .i64 x1, .int .i64 x2, .int .i64 x3, .int .i64 x4]] W fun e w' => e = .returned (.tuple #[.int .i64 (lsum ds), .int .i64 0]) ∧ Below W.heap.size W w') := hid fun W => by have := i_SumOfDigits x1 x2 x3 x4 W; rw [e2] at this; exact this
  have E3 := hid e3
  have E5 := hid e5
  have hls := e5 ds.length
  rw [List.take_length] at hls
  clear e1 e2 e3 e5
  refine via (SB.out _) ?_
  intro u14 zu14
  (try simp at zu14)
  go_wp2_with fail
  clear zu14
  obtain ⟨W21, hW21⟩ : ∃ X, X = aft W20 u14 := ⟨_, rfl⟩
  have cX_21 : ∀ o, W21.cell? ⟨kX, o, none⟩ = #[Value.int IntKind.i64 x1, Value.int IntKind.i64 x2, Value.int IntKind.i64 x3, Value.int IntKind.i64 x4][o]? := fun o => by rw [hW21, aft_cell, if_pos (by omega)]; exact cX_20 o
  have cY_21 : ∀ o, W21.cell? ⟨kY, o, none⟩ = #[Value.int IntKind.i64 y1, Value.int IntKind.i64 y2, Value.int IntKind.i64 y3, Value.int IntKind.i64 y4][o]? := fun o => by rw [hW21, aft_cell, if_pos (by omega)]; exact cY_20 o
  have cYM_21 : ∀ o, W21.cell? ⟨kYM, o, none⟩ = #[Value.int IntKind.i64 y1, Value.int IntKind.i64 y2, Value.int IntKind.i64 y3, Value.int IntKind.i64 y4][o]? := fun o => by rw [hW21, aft_cell, if_pos (by omega)]; exact cYM_20 o
  have cZ_21 : ∀ o, W21.cell? ⟨kZ, o, none⟩ = #[Value.int IntKind.i64 z1, Value.int IntKind.i64 z2, Value.int IntKind.i64 z3, Value.int IntKind.i64 z4][o]? := fun o => by rw [hW21, aft_cell, if_pos (by omega)]; exact cZ_20 o
  have cS_21 : ∀ o, W21.cell? ⟨kS, o, none⟩ = #[Value.int IntKind.i64 s1, Value.int IntKind.i64 s2, Value.int IntKind.i64 s3, Value.int IntKind.i64 s4][o]? := fun o => by rw [hW21, aft_cell, if_pos (by omega)]; exact cS_20 o
  have cSM_21 : ∀ o, W21.cell? ⟨kSM, o, none⟩ = #[Value.int IntKind.i64 s1, Value.int IntKind.i64 s2, Value.int IntKind.i64 s3, Value.int IntKind.i64 s4][o]? := fun o => by rw [hW21, aft_cell, if_pos (by omega)]; exact cSM_20 o
  have cB_21 : ∀ o, W21.cell? ⟨kB, o, none⟩ = #[Value.int IntKind.i64 b1, Value.int IntKind.i64 b2, Value.int IntKind.i64 b3, Value.int IntKind.i64 b4][o]? := fun o => by rw [hW21, aft_cell, if_pos (by omega)]; exact cB_20 o
  have rD_21 : Hid (rdI W21 RD ds) := hid (by rw [hW21]; exact rD_20.out.aft _)
  have rE_21 : Hid (rdI W21 RE ds) := hid (by rw [hW21]; exact rE_20.out.aft _)
  have rL_21 : Hid (rdI W21 RL ys) := hid (by rw [hW21]; exact rL_20.out.aft _)
  have hG_21 : Hid (Ext w.heap.size w W21) := hid (by rw [hW21]; exact hG_20.out.aft _)
  have l_21 : kB + 1 ≤ W21.heap.size := by rw [hW21]; have := size_aft W20 u14; omega
  rw [← hW21]
  clear hW21 cX_20 cY_20 cYM_20 cZ_20 cS_20 cSM_20 cB_20 rD_20 rE_20 rL_20 l_20 hG_20
  obtain ⟨kSB, hkSB⟩ : ∃ k, k = W21.heap.size := ⟨_, rfl⟩
  obtain ⟨W22, hW22⟩ : ∃ X, X = W21.alloc (Obj.cells #[Value.int IntKind.i64 z1, Value.int IntKind.i64 z2, Value.int IntKind.i64 z3, Value.int IntKind.i64 z4] 38) := ⟨_, rfl⟩
  have cX_22 : ∀ o, W22.cell? ⟨kX, o, none⟩ = #[Value.int IntKind.i64 x1, Value.int IntKind.i64 x2, Value.int IntKind.i64 x3, Value.int IntKind.i64 x4][o]? := fun o => by rw [hW22, alloc_cell, if_neg (by omega)]; exact cX_21 o
  have cY_22 : ∀ o, W22.cell? ⟨kY, o, none⟩ = #[Value.int IntKind.i64 y1, Value.int IntKind.i64 y2, Value.int IntKind.i64 y3, Value.int IntKind.i64 y4][o]? := fun o => by rw [hW22, alloc_cell, if_neg (by omega)]; exact cY_21 o
  have cYM_22 : ∀ o, W22.cell? ⟨kYM, o, none⟩ = #[Value.int IntKind.i64 y1, Value.int IntKind.i64 y2, Value.int IntKind.i64 y3, Value.int IntKind.i64 y4][o]? := fun o => by rw [hW22, alloc_cell, if_neg (by omega)]; exact cYM_21 o
  have cZ_22 : ∀ o, W22.cell? ⟨kZ, o, none⟩ = #[Value.int IntKind.i64 z1, Value.int IntKind.i64 z2, Value.int IntKind.i64 z3, Value.int IntKind.i64 z4][o]? := fun o => by rw [hW22, alloc_cell, if_neg (by omega)]; exact cZ_21 o
  have cS_22 : ∀ o, W22.cell? ⟨kS, o, none⟩ = #[Value.int IntKind.i64 s1, Value.int IntKind.i64 s2, Value.int IntKind.i64 s3, Value.int IntKind.i64 s4][o]? := fun o => by rw [hW22, alloc_cell, if_neg (by omega)]; exact cS_21 o
  have cSM_22 : ∀ o, W22.cell? ⟨kSM, o, none⟩ = #[Value.int IntKind.i64 s1, Value.int IntKind.i64 s2, Value.int IntKind.i64 s3, Value.int IntKind.i64 s4][o]? := fun o => by rw [hW22, alloc_cell, if_neg (by omega)]; exact cSM_21 o
  have cB_22 : ∀ o, W22.cell? ⟨kB, o, none⟩ = #[Value.int IntKind.i64 b1, Value.int IntKind.i64 b2, Value.int IntKind.i64 b3, Value.int IntKind.i64 b4][o]? := fun o => by rw [hW22, alloc_cell, if_neg (by omega)]; exact cB_21 o
  have cSB_22 : ∀ o, W22.cell? ⟨kSB, o, none⟩ = #[Value.int IntKind.i64 z1, Value.int IntKind.i64 z2, Value.int IntKind.i64 z3, Value.int IntKind.i64 z4][o]? := fun o => by rw [hW22, alloc_cell, if_pos hkSB]
  have rD_22 : Hid (rdI W22 RD ds) := hid (by rw [hW22]; exact rD_21.out.alloc _)
  have rE_22 : Hid (rdI W22 RE ds) := hid (by rw [hW22]; exact rE_21.out.alloc _)
  have rL_22 : Hid (rdI W22 RL ys) := hid (by rw [hW22]; exact rL_21.out.alloc _)
  have hG_22 : Hid (Ext w.heap.size w W22) := hid (by rw [hW22]; exact hG_21.out.alloc _)
  have l_22 : W22.heap.size = kSB + 1 := by rw [hW22]; simp; omega
  have qSB : kB < kSB := by omega
  rw [← hW22, ← hkSB]
  clear hW22 cX_21 cY_21 cYM_21 cZ_21 cS_21 cSM_21 cB_21 rD_21 rE_21 rL_21 l_21 hG_21 hkSB
  refine via (FB.out _ rD_22.out) ?_
  intro u20 zu20
  (try simp at zu20)
  go_wp2_with fail
  clear zu20
  obtain ⟨W23, hW23⟩ : ∃ X, X = aft W22 u20 := ⟨_, rfl⟩
  have cX_23 : ∀ o, W23.cell? ⟨kX, o, none⟩ = #[Value.int IntKind.i64 x1, Value.int IntKind.i64 x2, Value.int IntKind.i64 x3, Value.int IntKind.i64 x4][o]? := fun o => by rw [hW23, aft_cell, if_pos (by omega)]; exact cX_22 o
  have cY_23 : ∀ o, W23.cell? ⟨kY, o, none⟩ = #[Value.int IntKind.i64 y1, Value.int IntKind.i64 y2, Value.int IntKind.i64 y3, Value.int IntKind.i64 y4][o]? := fun o => by rw [hW23, aft_cell, if_pos (by omega)]; exact cY_22 o
  have cYM_23 : ∀ o, W23.cell? ⟨kYM, o, none⟩ = #[Value.int IntKind.i64 y1, Value.int IntKind.i64 y2, Value.int IntKind.i64 y3, Value.int IntKind.i64 y4][o]? := fun o => by rw [hW23, aft_cell, if_pos (by omega)]; exact cYM_22 o
  have cZ_23 : ∀ o, W23.cell? ⟨kZ, o, none⟩ = #[Value.int IntKind.i64 z1, Value.int IntKind.i64 z2, Value.int IntKind.i64 z3, Value.int IntKind.i64 z4][o]? := fun o => by rw [hW23, aft_cell, if_pos (by omega)]; exact cZ_22 o
  have cS_23 : ∀ o, W23.cell? ⟨kS, o, none⟩ = #[Value.int IntKind.i64 s1, Value.int IntKind.i64 s2, Value.int IntKind.i64 s3, Value.int IntKind.i64 s4][o]? := fun o => by rw [hW23, aft_cell, if_pos (by omega)]; exact cS_22 o
  have cSM_23 : ∀ o, W23.cell? ⟨kSM, o, none⟩ = #[Value.int IntKind.i64 s1, Value.int IntKind.i64 s2, Value.int IntKind.i64 s3, Value.int IntKind.i64 s4][o]? := fun o => by rw [hW23, aft_cell, if_pos (by omega)]; exact cSM_22 o
  have cB_23 : ∀ o, W23.cell? ⟨kB, o, none⟩ = #[Value.int IntKind.i64 b1, Value.int IntKind.i64 b2, Value.int IntKind.i64 b3, Value.int IntKind.i64 b4][o]? := fun o => by rw [hW23, aft_cell, if_pos (by omega)]; exact cB_22 o
  have cSB_23 : ∀ o, W23.cell? ⟨kSB, o, none⟩ = #[Value.int IntKind.i64 z1, Value.int IntKind.i64 z2, Value.int IntKind.i64 z3, Value.int IntKind.i64 z4][o]? := fun o => by rw [hW23, aft_cell, if_pos (by omega)]; exact cSB_22 o
  have rD_23 : Hid (rdI W23 RD ds) := hid (by rw [hW23]; exact rD_22.out.aft _)
  have rE_23 : Hid (rdI W23 RE ds) := hid (by rw [hW23]; exact rE_22.out.aft _)
  have rL_23 : Hid (rdI W23 RL ys) := hid (by rw [hW23]; exact rL_22.out.aft _)
  have hG_23 : Hid (Ext w.heap.size w W23) := hid (by rw [hW23]; exact hG_22.out.aft _)
  have l_23 : kSB + 1 ≤ W23.heap.size := by rw [hW23]; have := size_aft W22 u20; omega
  rw [← hW23]
  clear hW23 cX_22 cY_22 cYM_22 cZ_22 cS_22 cSM_22 cB_22 cSB_22 rD_22 rE_22 rL_22 l_22 hG_22
  obtain ⟨kK, hkK⟩ : ∃ k, k = W23.heap.size := ⟨_, rfl⟩
  obtain ⟨W24, hW24⟩ : ∃ X, X = W23.alloc (Obj.cells #[Value.int IntKind.i64 x1, Value.int IntKind.i64 x2, Value.int IntKind.i64 x3, Value.int IntKind.i64 x4] 38) := ⟨_, rfl⟩
  have cX_24 : ∀ o, W24.cell? ⟨kX, o, none⟩ = #[Value.int IntKind.i64 x1, Value.int IntKind.i64 x2, Value.int IntKind.i64 x3, Value.int IntKind.i64 x4][o]? := fun o => by rw [hW24, alloc_cell, if_neg (by omega)]; exact cX_23 o
  have cY_24 : ∀ o, W24.cell? ⟨kY, o, none⟩ = #[Value.int IntKind.i64 y1, Value.int IntKind.i64 y2, Value.int IntKind.i64 y3, Value.int IntKind.i64 y4][o]? := fun o => by rw [hW24, alloc_cell, if_neg (by omega)]; exact cY_23 o
  have cYM_24 : ∀ o, W24.cell? ⟨kYM, o, none⟩ = #[Value.int IntKind.i64 y1, Value.int IntKind.i64 y2, Value.int IntKind.i64 y3, Value.int IntKind.i64 y4][o]? := fun o => by rw [hW24, alloc_cell, if_neg (by omega)]; exact cYM_23 o
  have cZ_24 : ∀ o, W24.cell? ⟨kZ, o, none⟩ = #[Value.int IntKind.i64 z1, Value.int IntKind.i64 z2, Value.int IntKind.i64 z3, Value.int IntKind.i64 z4][o]? := fun o => by rw [hW24, alloc_cell, if_neg (by omega)]; exact cZ_23 o
  have cS_24 : ∀ o, W24.cell? ⟨kS, o, none⟩ = #[Value.int IntKind.i64 s1, Value.int IntKind.i64 s2, Value.int IntKind.i64 s3, Value.int IntKind.i64 s4][o]? := fun o => by rw [hW24, alloc_cell, if_neg (by omega)]; exact cS_23 o
  have cSM_24 : ∀ o, W24.cell? ⟨kSM, o, none⟩ = #[Value.int IntKind.i64 s1, Value.int IntKind.i64 s2, Value.int IntKind.i64 s3, Value.int IntKind.i64 s4][o]? := fun o => by rw [hW24, alloc_cell, if_neg (by omega)]; exact cSM_23 o
  have cB_24 : ∀ o, W24.cell? ⟨kB, o, none⟩ = #[Value.int IntKind.i64 b1, Value.int IntKind.i64 b2, Value.int IntKind.i64 b3, Value.int IntKind.i64 b4][o]? := fun o => by rw [hW24, alloc_cell, if_neg (by omega)]; exact cB_23 o
  have cSB_24 : ∀ o, W24.cell? ⟨kSB, o, none⟩ = #[Value.int IntKind.i64 z1, Value.int IntKind.i64 z2, Value.int IntKind.i64 z3, Value.int IntKind.i64 z4][o]? := fun o => by rw [hW24, alloc_cell, if_neg (by omega)]; exact cSB_23 o
  have cK_24 : ∀ o, W24.cell? ⟨kK, o, none⟩ = #[Value.int IntKind.i64 x1, Value.int IntKind.i64 x2, Value.int IntKind.i64 x3, Value.int IntKind.i64 x4][o]? := fun o => by rw [hW24, alloc_cell, if_pos hkK]
  have rD_24 : Hid (rdI W24 RD ds) := hid (by rw [hW24]; exact rD_23.out.alloc _)
  have rE_24 : Hid (rdI W24 RE ds) := hid (by rw [hW24]; exact rE_23.out.alloc _)
  have rL_24 : Hid (rdI W24 RL ys) := hid (by rw [hW24]; exact rL_23.out.alloc _)
  have hG_24 : Hid (Ext w.heap.size w W24) := hid (by rw [hW24]; exact hG_23.out.alloc _)
  have l_24 : W24.heap.size = kK + 1 := by rw [hW24]; simp; omega
  have qK : kSB < kK := by omega
  rw [← hW24, ← hkK]
  clear hW24 cX_23 cY_23 cYM_23 cZ_23 cS_23 cSM_23 cB_23 cSB_23 rD_23 rE_23 rL_23 l_23 hG_23 hkK
  refine via (GB.out _) ?_
  intro u21 zu21
  (try simp at zu21)
  go_wp2_with fail
  clear zu21
  obtain ⟨W25, hW25⟩ : ∃ X, X = aft W24 u21 := ⟨_, rfl⟩
  have cX_25 : ∀ o, W25.cell? ⟨kX, o, none⟩ = #[Value.int IntKind.i64 x1, Value.int IntKind.i64 x2, Value.int IntKind.i64 x3, Value.int IntKind.i64 x4][o]? := fun o => by rw [hW25, aft_cell, if_pos (by omega)]; exact cX_24 o
  have cY_25 : ∀ o, W25.cell? ⟨kY, o, none⟩ = #[Value.int IntKind.i64 y1, Value.int IntKind.i64 y2, Value.int IntKind.i64 y3, Value.int IntKind.i64 y4][o]? := fun o => by rw [hW25, aft_cell, if_pos (by omega)]; exact cY_24 o
  have cYM_25 : ∀ o, W25.cell? ⟨kYM, o, none⟩ = #[Value.int IntKind.i64 y1, Value.int IntKind.i64 y2, Value.int IntKind.i64 y3, Value.int IntKind.i64 y4][o]? := fun o => by rw [hW25, aft_cell, if_pos (by omega)]; exact cYM_24 o
  have cZ_25 : ∀ o, W25.cell? ⟨kZ, o, none⟩ = #[Value.int IntKind.i64 z1, Value.int IntKind.i64 z2, Value.int IntKind.i64 z3, Value.int IntKind.i64 z4][o]? := fun o => by rw [hW25, aft_cell, if_pos (by omega)]; exact cZ_24 o
  have cS_25 : ∀ o, W25.cell? ⟨kS, o, none⟩ = #[Value.int IntKind.i64 s1, Value.int IntKind.i64 s2, Value.int IntKind.i64 s3, Value.int IntKind.i64 s4][o]? := fun o => by rw [hW25, aft_cell, if_pos (by omega)]; exact cS_24 o
  have cSM_25 : ∀ o, W25.cell? ⟨kSM, o, none⟩ = #[Value.int IntKind.i64 s1, Value.int IntKind.i64 s2, Value.int IntKind.i64 s3, Value.int IntKind.i64 s4][o]? := fun o => by rw [hW25, aft_cell, if_pos (by omega)]; exact cSM_24 o
  have cB_25 : ∀ o, W25.cell? ⟨kB, o, none⟩ = #[Value.int IntKind.i64 b1, Value.int IntKind.i64 b2, Value.int IntKind.i64 b3, Value.int IntKind.i64 b4][o]? := fun o => by rw [hW25, aft_cell, if_pos (by omega)]; exact cB_24 o
  have cSB_25 : ∀ o, W25.cell? ⟨kSB, o, none⟩ = #[Value.int IntKind.i64 z1, Value.int IntKind.i64 z2, Value.int IntKind.i64 z3, Value.int IntKind.i64 z4][o]? := fun o => by rw [hW25, aft_cell, if_pos (by omega)]; exact cSB_24 o
  have cK_25 : ∀ o, W25.cell? ⟨kK, o, none⟩ = #[Value.int IntKind.i64 x1, Value.int IntKind.i64 x2, Value.int IntKind.i64 x3, Value.int IntKind.i64 x4][o]? := fun o => by rw [hW25, aft_cell, if_pos (by omega)]; exact cK_24 o
  have rD_25 : Hid (rdI W25 RD ds) := hid (by rw [hW25]; exact rD_24.out.aft _)
  have rE_25 : Hid (rdI W25 RE ds) := hid (by rw [hW25]; exact rE_24.out.aft _)
  have rL_25 : Hid (rdI W25 RL ys) := hid (by rw [hW25]; exact rL_24.out.aft _)
  have hG_25 : Hid (Ext w.heap.size w W25) := hid (by rw [hW25]; exact hG_24.out.aft _)
  have l_25 : kK + 1 ≤ W25.heap.size := by rw [hW25]; have := size_aft W24 u21; omega
  rw [← hW25]
  clear hW25 cX_24 cY_24 cYM_24 cZ_24 cS_24 cSM_24 cB_24 cSB_24 cK_24 rD_24 rE_24 rL_24 l_24 hG_24
  refine pur (l_sum RD ds _ rD_25.out E3.out e4 E5.out) ?_
  go_wp2_with fail
  go_ret
  exact ⟨by first | rfl | simp, Ext.bel hG_25.out⟩
end Go.Proofs.Ytehdkbopkkgabaa
