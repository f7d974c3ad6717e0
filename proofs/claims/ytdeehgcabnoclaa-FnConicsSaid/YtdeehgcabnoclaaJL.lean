/- Conics, classes of squares, symbols: the law. (Printed by mkJL.py.) -/
import Derived.Test.YtdeehgcabnoclaaJK
import Derived.Test.YtdeehgcabnoclaaT12
namespace Go.Proofs.Ytdeehgcabnoclaa
open Go Go.RowKit

theorem scanZ_bd {a b x y : Int} : ∀ {k : Nat} {z : Int} {t : Int × Int × Int}, scanZ a b x y k z = some t → t.1 = x ∧ t.2.1 = y ∧ z ≤ t.2.2 ∧ t.2.2 < z + k
  | 0, _, _, h => by simp [scanZ] at h
  | k + 1, z, t, h => by
    unfold scanZ at h
    split at h
    · simp at h; subst h; exact ⟨rfl, rfl, by simp, by simp only; omega⟩
    · have := scanZ_bd h; omega
theorem scanY_bd {a b x : Int} {M : Nat} : ∀ {k : Nat} {y : Int} {t : Int × Int × Int}, scanY a b x M k y = some t → t.1 = x ∧ y ≤ t.2.1 ∧ t.2.1 < y + k ∧ 0 ≤ t.2.2 ∧ t.2.2 < M
  | 0, _, _, h => by simp [scanY] at h
  | k + 1, y, t, h => by
    unfold scanY at h
    rcases hz : scanZ a b x y M 0 with _ | t'
    · rw [hz] at h; have := scanY_bd (k := k) h; omega
    · rw [hz] at h; simp at h; subst h; have := scanZ_bd hz; omega
theorem scanX_bd {a b : Int} {M : Nat} : ∀ {k : Nat} {x : Int} {t : Int × Int × Int}, scanX a b M k x = some t → x ≤ t.1 ∧ t.1 < x + k ∧ 0 ≤ t.2.1 ∧ t.2.1 < M ∧ 0 ≤ t.2.2 ∧ t.2.2 < M
  | 0, _, _, h => by simp [scanX] at h
  | k + 1, x, t, h => by
    unfold scanX at h
    rcases hz : scanY a b x M M 0 with _ | t'
    · rw [hz] at h; have := scanX_bd (k := k) h; omega
    · rw [hz] at h; simp at h; subst h; have := scanY_bd hz; omega
theorem fcF_bd {a b m : Int} : (0 ≤ (fcF a b m).1 ∧ (fcF a b m).1 ≤ 100) ∧ (0 ≤ (fcF a b m).2.1 ∧ (fcF a b m).2.1 ≤ 100) ∧ (0 ≤ (fcF a b m).2.2.1 ∧ (fcF a b m).2.2.1 ≤ 100) := by
  unfold fcF
  split
  · rename_i hc
    have hm := inB_iff.1 hc.2.2
    rcases hz : scanX a b (m + 1).toNat (m + 1).toNat 0 with _ | ⟨x, y, z⟩
    · simp [fcO]
    · have := scanX_bd hz
      simp only [fcO] at this ⊢
      omega
  · simp
theorem conic_facts {a b m r1 r2 r3 r4 : Int} (h : ((r1, r2, r3, r4) : Int × Int × Int × Int) = fcF a b m) : ((0 ≤ r1 ∧ r1 ≤ 100) ∧ (0 ≤ r2 ∧ r2 ≤ 100) ∧ (0 ≤ r3 ∧ r3 ≤ 100)) ∧
    (r4 = 0 → (-1000000 ≤ a ∧ a ≤ 1000000 ∧ a ≠ 0) ∧ (-1000000 ≤ b ∧ b ≤ 1000000 ∧ b ≠ 0) ∧ a * r1 * r1 + b * r2 * r2 = r3 * r3 ∧ (r1 ≠ 0 ∨ r2 ≠ 0 ∨ r3 ≠ 0) ∧ ∀ p, p = 0 ∨ smallP p = true → hilF p a b = 1) := by
  have h1 := @fcF_bd a b m
  have h2 := @fcF_found a b m
  rw [← h] at h1 h2
  refine ⟨h1, fun h0 => ?_⟩
  obtain ⟨k1, k2, k3, k4⟩ := h2 h0
  simp only at k3 k4
  refine ⟨k1, k2, k3, k4, fun p hp => conic_hil (X := r1) (Y := r2) (Z := r3) hp k1.2.2 k2.2.2 (fun hh => ?_) (by rw [← Int.mul_assoc, ← Int.mul_assoc]; exact k3)⟩
  rcases k4 with e | e | e
  · exact e hh.1
  · exact e hh.2.1
  · exact e hh.2.2
theorem class_facts {p n c cc : Int} (h : ((c, cc) : Int × Int) = clF p n) : cc = 0 → clF p c = (c, 0) ∧ 1 ≤ c := by
  intro h0
  unfold clF at h
  by_cases h1 : smallP p = true
  · rw [if_pos h1] at h
    by_cases h2 : inB n (-1000000000000) 1000000000000 = true ∧ n ≠ 0
    · rw [if_pos h2] at h
      have e : c = clsF p n := by injection h
      obtain ⟨q1, q2, q3⟩ := @clsF_twice p n h1 h2.2
      rw [← e] at q1 q2 q3
      refine ⟨?_, q2⟩
      unfold clF
      rw [if_pos h1, if_pos ⟨inB_iff.2 (by omega), by omega⟩, q1]
    · rw [if_neg h2] at h; injection h with _ q; omega
  · rw [if_neg h1] at h; injection h with _ q; omega
theorem square_facts {x1 x2 x3 x4 t1 t2 t3 t4 tc : Int} (h : ((⟨t1, t2, t3, t4⟩, tc) : Pd × Int) = mulpF x1 x2 x3 x4 x1 x2 x3 x4) : tc = 0 → isqF t1 t2 t3 t4 = (true, 0) ∨ isqF t1 t2 t3 t4 = (false, 4) := by
  intro h0
  have := @square_sq x1 x2 x3 x4
  rw [← h] at this
  exact this h0
set_option maxRecDepth 20000 in
set_option maxHeartbeats 64000000 in
theorem law_Conics (a : Option Addr) (len cap : Nat) (w : World) (h : rdB w.heap.size w a len) :
    Calls Try.prog 3 #[.slice a len cap] w fun e w' => e = .returned (.bool true) ∧ Below w.heap.size w w' := by
  by_cases hl : len ≤ 4096
  case neg =>
    have hd : decide ((4096 : Int) < (len : Int)) = true := by simp; omega
    go_enter Try.func3, Try.ntmps3
    go_wp2_with (go_at_call 4; refine pur (l_big _ _ _ _) ?_)
    go_ret
    exact ⟨rfl, (by refine Ext.bel ?_; repeat (with_reducible first | exact Ext.refl _ | apply Ext.alloc | apply Ext.aft | apply Ext.drew | apply Ext.drewN | apply Ext.setCell | exact Nat.le_add_right _ _ | exact Nat.le_refl _ | (simp; done) | omega))⟩
  have hd : decide ((4096 : Int) < (len : Int)) = false := by simp; omega
  have H := hid h
  clear h
  go_enter Try.func3, Try.ntmps3
  go_wp2_with (go_at_call 4; refine pur (l_big _ _ _ _) ?_)
  have hG_0 : Hid (Ext w.heap.size w w) := hid (Ext.refl w)
  refine viaV (α := Int × Int × Int) (g := (fun z : Int × Int × Int => .tuple #[.int .i64 z.1, .int .i64 z.2.1, .int .i64 z.2.2])) (s_DrawFindConic w.heap.size a len cap _ (H.out.ext hG_0.out) hl hG_0.out.2) ?_
  intro zz u1 zu1
  (try simp at zu1)
  obtain ⟨fa, fb, fm⟩ := zz
  dsimp only
  go_wp2_with fail
  clear zu1
  obtain ⟨W1, hW1⟩ : ∃ X, X = aft w u1 := ⟨_, rfl⟩
  have hG_1 : Hid (Ext w.heap.size w W1) := hid (by rw [hW1]; exact hG_0.out.aft _)
  rw [← hW1]
  clear hW1 hG_0
  obtain ⟨R, hR⟩ : ∃ rr, rr = fcF fa fb fm := ⟨_, rfl⟩
  obtain ⟨r1, r2, r3, r4⟩ := R
  have FI : Hid (∀ W : World, Calls Try.prog 6 #[.int .i64 fa, .int .i64 fb, .int .i64 fm] W fun e w' => e = .returned (.tuple #[.int .i64 r1, .int .i64 r2, .int .i64 r3, .int .i64 r4]) ∧ Below W.heap.size W w') := hid fun W => by have := i_FindConic fa fb fm W; rw [← hR] at this; exact this
  have FS : Hid (∀ W : World, Calls Try.prog 7 #[.int .i64 fa, .int .i64 fb, .int .i64 fm] W fun e w' => e = .returned (.tuple #[.int .i64 r1, .int .i64 r2, .int .i64 r3, .int .i64 r4]) ∧ Below W.heap.size W w') := hid fun W => by have := s_FindConic fa fb fm W; rw [← hR] at this; exact this.mono fun e w' hh => ⟨hh.1, hh.2 ▸ Below.refl _ _⟩
  obtain ⟨rb, HR⟩ := conic_facts hR
  have HR := hid HR
  clear hR
  refine via (FI.out _) ?_
  intro u2 zu2
  (try simp at zu2)
  go_wp2_with fail
  clear zu2
  obtain ⟨W2, hW2⟩ : ∃ X, X = aft W1 u2 := ⟨_, rfl⟩
  have hG_2 : Hid (Ext w.heap.size w W2) := hid (by rw [hW2]; exact hG_1.out.aft _)
  rw [← hW2]
  clear hW2 hG_1
  refine via (FS.out _) ?_
  intro u3 zu3
  (try simp at zu3)
  go_wp2_with fail
  clear zu3
  obtain ⟨W3, hW3⟩ : ∃ X, X = aft W2 u3 := ⟨_, rfl⟩
  have hG_3 : Hid (Ext w.heap.size w W3) := hid (by rw [hW3]; exact hG_2.out.aft _)
  rw [← hW3]
  clear hW3 hG_2
  refine viaV (α := Pd) (g := (fun x : Pd => .agg #[.int .i64 x.p, .int .i64 x.v, .int .i64 x.u, .int .i64 x.n])) (s_DrawIsSquarePadic w.heap.size a len cap _ (H.out.ext hG_3.out) hl hG_3.out.2) ?_
  intro zz u4 zu4
  (try simp at zu4)
  obtain ⟨x1, x2, x3, x4⟩ := zz
  dsimp only
  go_wp2_with fail
  clear zu4
  obtain ⟨W4, hW4⟩ : ∃ X, X = aft W3 u4 := ⟨_, rfl⟩
  have hG_4 : Hid (Ext w.heap.size w W4) := hid (by rw [hW4]; exact hG_3.out.aft _)
  rw [← hW4]
  clear hW4 hG_3
  obtain ⟨kX, hkX⟩ : ∃ k, k = W4.heap.size := ⟨_, rfl⟩
  obtain ⟨W5, hW5⟩ : ∃ X, X = W4.alloc (Obj.cells #[Value.int IntKind.i64 x1, Value.int IntKind.i64 x2, Value.int IntKind.i64 x3, Value.int IntKind.i64 x4] 29) := ⟨_, rfl⟩
  have cX_5 : ∀ o, W5.cell? ⟨kX, o, none⟩ = #[Value.int IntKind.i64 x1, Value.int IntKind.i64 x2, Value.int IntKind.i64 x3, Value.int IntKind.i64 x4][o]? := fun o => by rw [hW5, alloc_cell, if_pos hkX]
  have hG_5 : Hid (Ext w.heap.size w W5) := hid (by rw [hW5]; exact hG_4.out.alloc _)
  have l_5 : W5.heap.size = kX + 1 := by rw [hW5]; simp; omega
  rw [← hW5, ← hkX]
  clear hW5 hG_4 hkX
  obtain ⟨Q, hQ⟩ : ∃ rr, rr = isqF x1 x2 x3 x4 := ⟨_, rfl⟩
  obtain ⟨qb, qc⟩ := Q
  have QI : Hid (∀ W : World, Calls Try.prog 9 #[.agg #[.int .i64 x1, .int .i64 x2, .int .i64 x3, .int .i64 x4]] W fun e w' => e = .returned (.tuple #[.bool qb, .int .i64 qc]) ∧ Below W.heap.size W w') := hid fun W => by have := i_IsSq x1 x2 x3 x4 W; rw [← hQ] at this; exact this
  have QS : Hid (∀ W : World, Calls Try.prog 10 #[.agg #[.int .i64 x1, .int .i64 x2, .int .i64 x3, .int .i64 x4]] W fun e w' => e = .returned (.tuple #[.bool qb, .int .i64 qc]) ∧ Below W.heap.size W w') := hid fun W => by have := s_IsSq x1 x2 x3 x4 W; rw [← hQ] at this; exact this
  clear hQ
  refine via (QI.out _) ?_
  intro u5 zu5
  (try simp at zu5)
  go_wp2_with fail
  clear zu5
  obtain ⟨W6, hW6⟩ : ∃ X, X = aft W5 u5 := ⟨_, rfl⟩
  have cX_6 : ∀ o, W6.cell? ⟨kX, o, none⟩ = #[Value.int IntKind.i64 x1, Value.int IntKind.i64 x2, Value.int IntKind.i64 x3, Value.int IntKind.i64 x4][o]? := fun o => by rw [hW6, aft_cell, if_pos (by omega)]; exact cX_5 o
  have hG_6 : Hid (Ext w.heap.size w W6) := hid (by rw [hW6]; exact hG_5.out.aft _)
  have l_6 : kX + 1 ≤ W6.heap.size := by rw [hW6]; have := size_aft W5 u5; omega
  rw [← hW6]
  clear hW6 cX_5 l_5 hG_5
  refine via (QS.out _) ?_
  intro u6 zu6
  (try simp at zu6)
  go_wp2_with fail
  clear zu6
  obtain ⟨W7, hW7⟩ : ∃ X, X = aft W6 u6 := ⟨_, rfl⟩
  have cX_7 : ∀ o, W7.cell? ⟨kX, o, none⟩ = #[Value.int IntKind.i64 x1, Value.int IntKind.i64 x2, Value.int IntKind.i64 x3, Value.int IntKind.i64 x4][o]? := fun o => by rw [hW7, aft_cell, if_pos (by omega)]; exact cX_6 o
  have hG_7 : Hid (Ext w.heap.size w W7) := hid (by rw [hW7]; exact hG_6.out.aft _)
  have l_7 : kX + 1 ≤ W7.heap.size := by rw [hW7]; have := size_aft W6 u6; omega
  rw [← hW7]
  clear hW7 cX_6 l_6 hG_6
  refine viaV (α := Int × Int) (g := (fun z : Int × Int => .tuple #[.int .i64 z.1, .int .i64 z.2])) (s_DrawSquareClass w.heap.size a len cap _ (H.out.ext hG_7.out) hl hG_7.out.2) ?_
  intro zz u7 zu7
  (try simp at zu7)
  obtain ⟨p, n⟩ := zz
  dsimp only
  go_wp2_with fail
  clear zu7
  obtain ⟨W8, hW8⟩ : ∃ X, X = aft W7 u7 := ⟨_, rfl⟩
  have cX_8 : ∀ o, W8.cell? ⟨kX, o, none⟩ = #[Value.int IntKind.i64 x1, Value.int IntKind.i64 x2, Value.int IntKind.i64 x3, Value.int IntKind.i64 x4][o]? := fun o => by rw [hW8, aft_cell, if_pos (by omega)]; exact cX_7 o
  have hG_8 : Hid (Ext w.heap.size w W8) := hid (by rw [hW8]; exact hG_7.out.aft _)
  have l_8 : kX + 1 ≤ W8.heap.size := by rw [hW8]; have := size_aft W7 u7; omega
  rw [← hW8]
  clear hW8 cX_7 l_7 hG_7
  obtain ⟨C, hC⟩ : ∃ rr, rr = clF p n := ⟨_, rfl⟩
  obtain ⟨c, cc⟩ := C
  have CI : Hid (∀ W : World, Calls Try.prog 12 #[.int .i64 p, .int .i64 n] W fun e w' => e = .returned (.tuple #[.int .i64 c, .int .i64 cc]) ∧ Below W.heap.size W w') := hid fun W => by have := i_SquareClass p n W; rw [← hC] at this; exact this.mono fun e w' hh => ⟨hh.1, hh.2 ▸ Below.refl _ _⟩
  have CS : Hid (∀ W : World, Calls Try.prog 13 #[.int .i64 p, .int .i64 n] W fun e w' => e = .returned (.tuple #[.int .i64 c, .int .i64 cc]) ∧ Below W.heap.size W w') := hid fun W => by have := s_SquareClass p n W; rw [← hC] at this; exact this.mono fun e w' hh => ⟨hh.1, hh.2 ▸ Below.refl _ _⟩
  have HC := hid (class_facts hC)
  clear hC
  refine via (CI.out _) ?_
  intro u8 zu8
  (try simp at zu8)
  go_wp2_with fail
  clear zu8
  obtain ⟨W9, hW9⟩ : ∃ X, X = aft W8 u8 := ⟨_, rfl⟩
  have cX_9 : ∀ o, W9.cell? ⟨kX, o, none⟩ = #[Value.int IntKind.i64 x1, Value.int IntKind.i64 x2, Value.int IntKind.i64 x3, Value.int IntKind.i64 x4][o]? := fun o => by rw [hW9, aft_cell, if_pos (by omega)]; exact cX_8 o
  have hG_9 : Hid (Ext w.heap.size w W9) := hid (by rw [hW9]; exact hG_8.out.aft _)
  have l_9 : kX + 1 ≤ W9.heap.size := by rw [hW9]; have := size_aft W8 u8; omega
  rw [← hW9]
  clear hW9 cX_8 l_8 hG_8
  refine via (CS.out _) ?_
  intro u9 zu9
  (try simp at zu9)
  go_wp2_with fail
  clear zu9
  obtain ⟨W10, hW10⟩ : ∃ X, X = aft W9 u9 := ⟨_, rfl⟩
  have cX_10 : ∀ o, W10.cell? ⟨kX, o, none⟩ = #[Value.int IntKind.i64 x1, Value.int IntKind.i64 x2, Value.int IntKind.i64 x3, Value.int IntKind.i64 x4][o]? := fun o => by rw [hW10, aft_cell, if_pos (by omega)]; exact cX_9 o
  have hG_10 : Hid (Ext w.heap.size w W10) := hid (by rw [hW10]; exact hG_9.out.aft _)
  have l_10 : kX + 1 ≤ W10.heap.size := by rw [hW10]; have := size_aft W9 u9; omega
  rw [← hW10]
  clear hW10 cX_9 l_9 hG_9
  refine viaV (α := Int × Int) (g := (fun z : Int × Int => .tuple #[.int .i64 z.1, .int .i64 z.2])) (s_DrawJacobiSymbol w.heap.size a len cap _ (H.out.ext hG_10.out) hl hG_10.out.2) ?_
  intro zz u10 zu10
  (try simp at zu10)
  obtain ⟨d, m⟩ := zz
  dsimp only
  go_wp2_with fail
  clear zu10
  obtain ⟨W11, hW11⟩ : ∃ X, X = aft W10 u10 := ⟨_, rfl⟩
  have cX_11 : ∀ o, W11.cell? ⟨kX, o, none⟩ = #[Value.int IntKind.i64 x1, Value.int IntKind.i64 x2, Value.int IntKind.i64 x3, Value.int IntKind.i64 x4][o]? := fun o => by rw [hW11, aft_cell, if_pos (by omega)]; exact cX_10 o
  have hG_11 : Hid (Ext w.heap.size w W11) := hid (by rw [hW11]; exact hG_10.out.aft _)
  have l_11 : kX + 1 ≤ W11.heap.size := by rw [hW11]; have := size_aft W10 u10; omega
  rw [← hW11]
  clear hW11 cX_10 l_10 hG_10
  obtain ⟨J, hJ⟩ : ∃ rr, rr = jacF d m := ⟨_, rfl⟩
  obtain ⟨j, jc⟩ := J
  have JI : Hid (∀ W : World, Calls Try.prog 15 #[.int .i64 d, .int .i64 m] W fun e w' => e = .returned (.tuple #[.int .i64 j, .int .i64 jc]) ∧ Below W.heap.size W w') := hid fun W => by have := i_jacobi d m W; rw [← hJ] at this; exact this
  have JS : Hid (∀ W : World, Calls Try.prog 16 #[.int .i64 d, .int .i64 m] W fun e w' => e = .returned (.tuple #[.int .i64 j, .int .i64 jc]) ∧ Below W.heap.size W w') := hid fun W => by have := s_jacobi d m W; rw [← hJ] at this; exact this
  clear hJ
  refine via (JI.out _) ?_
  intro u11 zu11
  (try simp at zu11)
  go_wp2_with fail
  clear zu11
  obtain ⟨W12, hW12⟩ : ∃ X, X = aft W11 u11 := ⟨_, rfl⟩
  have cX_12 : ∀ o, W12.cell? ⟨kX, o, none⟩ = #[Value.int IntKind.i64 x1, Value.int IntKind.i64 x2, Value.int IntKind.i64 x3, Value.int IntKind.i64 x4][o]? := fun o => by rw [hW12, aft_cell, if_pos (by omega)]; exact cX_11 o
  have hG_12 : Hid (Ext w.heap.size w W12) := hid (by rw [hW12]; exact hG_11.out.aft _)
  have l_12 : kX + 1 ≤ W12.heap.size := by rw [hW12]; have := size_aft W11 u11; omega
  rw [← hW12]
  clear hW12 cX_11 l_11 hG_11
  obtain ⟨M, hM⟩ : ∃ rr, rr = mulpF x1 x2 x3 x4 x1 x2 x3 x4 := ⟨_, rfl⟩
  obtain ⟨⟨t1, t2, t3, t4⟩, tc⟩ := M
  have MI : Hid (∀ W : World, Calls Try.prog 18 #[.agg #[.int .i64 x1, .int .i64 x2, .int .i64 x3, .int .i64 x4], .agg #[.int .i64 x1, .int .i64 x2, .int .i64 x3, .int .i64 x4]] W fun e w' => e = .returned (.tuple #[.agg #[.int .i64 t1, .int .i64 t2, .int .i64 t3, .int .i64 t4], .int .i64 tc]) ∧ Below W.heap.size W w') := hid fun W => by have := i_MultiplyPadics x1 x2 x3 x4 x1 x2 x3 x4 W; rw [← hM] at this; exact this
  have HM := hid (square_facts hM)
  clear hM
  have PI : Hid (∀ W : World, Calls Try.prog 17 #[.agg #[.int .i64 x1, .int .i64 x2, .int .i64 x3, .int .i64 x4]] W fun e w' => e = .returned (.bool (padicB x1 x2 x3 x4)) ∧ Below W.heap.size W w') := hid fun W => i_IsPadic x1 x2 x3 x4 W
  obtain ⟨pb, hpb⟩ : ∃ b, b = padicB x1 x2 x3 x4 := ⟨_, rfl⟩
  rw [← hpb] at PI
  clear hpb
  have HCI : Hid (cc = 0 → ∀ W : World, Calls Try.prog 12 #[.int .i64 p, .int .i64 c] W fun e w' => e = .returned (.tuple #[.int .i64 c, .int .i64 0]) ∧ Below W.heap.size W w') := hid fun h0 W => by
    have := i_SquareClass p c W
    rw [(HC.out h0).1] at this
    exact this.mono fun e w' hh => ⟨hh.1, hh.2 ▸ Below.refl _ _⟩
  have HTI : Hid (tc = 0 → ∃ (tb : Bool) (td : Int), ((tb = true ∧ td = 0) ∨ (tb = false ∧ td = 4)) ∧ ∀ W : World, Calls Try.prog 9 #[.agg #[.int .i64 t1, .int .i64 t2, .int .i64 t3, .int .i64 t4]] W fun e w' => e = .returned (.tuple #[.bool tb, .int .i64 td]) ∧ Below W.heap.size W w') := hid fun h0 => by
    rcases HM.out h0 with e | e
    · exact ⟨true, 0, .inl ⟨rfl, rfl⟩, fun W => by have := i_IsSq t1 t2 t3 t4 W; rw [e] at this; exact this⟩
    · exact ⟨false, 4, .inr ⟨rfl, rfl⟩, fun W => by have := i_IsSq t1 t2 t3 t4 W; rw [e] at this; exact this⟩
  have HHC : Hid (r4 = 0 → ∀ W : World, Calls Try.prog 19 #[.int .i64 fa, .int .i64 fb] W fun e w' => ∃ c : Int, e = .returned ((fun c : Int => .tuple #[.bool (c == 0), .int .i64 c]) c) ∧ Below W.heap.size W w') := hid fun h0 W => by
    obtain ⟨k1, k2, _, _, k5⟩ := HR.out h0
    exact i_HasConic fa fb W ⟨k1.2.2, by omega, by omega⟩ ⟨k2.2.2, by omega, by omega⟩ k5
  clear HM
  by_cases hc0 : cc = 0
  case neg =>
    have hc' : (cc == 0) = false := by simpa using hc0
    clear hc0
    refine via (JS.out _) ?_
    intro u21 zu21
    (try simp at zu21)
    go_wp2_with fail
    clear zu21
    obtain ⟨W13, hW13⟩ : ∃ X, X = aft W12 u21 := ⟨_, rfl⟩
    have cX_13 : ∀ o, W13.cell? ⟨kX, o, none⟩ = #[Value.int IntKind.i64 x1, Value.int IntKind.i64 x2, Value.int IntKind.i64 x3, Value.int IntKind.i64 x4][o]? := fun o => by rw [hW13, aft_cell, if_pos (by omega)]; exact cX_12 o
    have hG_13 : Hid (Ext w.heap.size w W13) := hid (by rw [hW13]; exact hG_12.out.aft _)
    have l_13 : kX + 1 ≤ W13.heap.size := by rw [hW13]; have := size_aft W12 u21; omega
    rw [← hW13]
    clear hW13 cX_12 l_12 hG_12
    cases pb with
    | false =>
      by_cases h4 : r4 = 0
      case neg =>
        have h4' : (r4 == 0) = false := by simpa using h4
        have h4n : (r4 != 0) = true := by simpa using h4
        clear h4
        refine via (PI.out _) ?_
        intro u22 zu22
        (try simp at zu22)
        go_wp2_with fail
        go_ret
        exact ⟨by first | rfl | simp, (by refine Ext.bel ?_; repeat (with_reducible first | exact hG_13.out | apply Ext.aft | apply Ext.alloc))⟩
      have HK := HHC.out h4
      obtain ⟨k1, k2, k3, k4, _⟩ := HR.out h4
      subst h4
      have hE : (fa * r1 * r1 + fb * r2 * r2 == r3 * r3) = true := by simpa using k3
      have hEn : (fa * r1 * r1 + fb * r2 * r2 != r3 * r3) = false := by simpa using k3
      have xb := mul2_bd (a := fa) (by omega) rb.1
      have yb := mul2_bd (a := fb) (by omega) rb.2.1
      have zb := sq2_bd rb.2.2
      have HK := hid HK
      clear k3
      by_cases e1 : r1 = 0
      case neg =>
        have e1' : (r1 == 0) = false := by simpa using e1
        clear e1 k4
        refine via (PI.out _) ?_
        intro u23 zu23
        (try simp at zu23)
        go_wp2_with fail
        refine viaV (α := Int) (g := (fun c : Int => .tuple #[.bool (c == 0), .int .i64 c])) (HK.out _) ?_
        intro ten u24 zu24
        (try simp at zu24)
        dsimp only
        by_cases ht : ten = 0
        · subst ht
          go_wp2_with fail
          go_ret
          exact ⟨by first | rfl | simp, (by refine Ext.bel ?_; repeat (with_reducible first | exact hG_13.out | apply Ext.aft | apply Ext.alloc))⟩
        · have ht' : (ten == 0) = false := by simpa using ht
          have htn : (ten != 0) = true := by simpa using ht
          clear ht
          go_wp2_with fail
          go_ret
          exact ⟨by first | rfl | simp, (by refine Ext.bel ?_; repeat (with_reducible first | exact hG_13.out | apply Ext.aft | apply Ext.alloc))⟩
      have e1' : (r1 == 0) = true := by simpa using e1
      by_cases e2 : r2 = 0
      case neg =>
        have e2' : (r2 == 0) = false := by simpa using e2
        clear e1 e2 k4
        refine via (PI.out _) ?_
        intro u25 zu25
        (try simp at zu25)
        go_wp2_with fail
        refine viaV (α := Int) (g := (fun c : Int => .tuple #[.bool (c == 0), .int .i64 c])) (HK.out _) ?_
        intro ten u26 zu26
        (try simp at zu26)
        dsimp only
        by_cases ht : ten = 0
        · subst ht
          go_wp2_with fail
          go_ret
          exact ⟨by first | rfl | simp, (by refine Ext.bel ?_; repeat (with_reducible first | exact hG_13.out | apply Ext.aft | apply Ext.alloc))⟩
        · have ht' : (ten == 0) = false := by simpa using ht
          have htn : (ten != 0) = true := by simpa using ht
          clear ht
          go_wp2_with fail
          go_ret
          exact ⟨by first | rfl | simp, (by refine Ext.bel ?_; repeat (with_reducible first | exact hG_13.out | apply Ext.aft | apply Ext.alloc))⟩
      have e2' : (r2 == 0) = true := by simpa using e2
      have e3' : (r3 == 0) = false := by rw [beq_eq_false_iff_ne]; omega
      clear e1 e2 k4
      refine via (PI.out _) ?_
      intro u27 zu27
      (try simp at zu27)
      go_wp2_with fail
      refine viaV (α := Int) (g := (fun c : Int => .tuple #[.bool (c == 0), .int .i64 c])) (HK.out _) ?_
      intro ten u28 zu28
      (try simp at zu28)
      dsimp only
      by_cases ht : ten = 0
      · subst ht
        go_wp2_with fail
        go_ret
        exact ⟨by first | rfl | simp, (by refine Ext.bel ?_; repeat (with_reducible first | exact hG_13.out | apply Ext.aft | apply Ext.alloc))⟩
      · have ht' : (ten == 0) = false := by simpa using ht
        have htn : (ten != 0) = true := by simpa using ht
        clear ht
        go_wp2_with fail
        go_ret
        exact ⟨by first | rfl | simp, (by refine Ext.bel ?_; repeat (with_reducible first | exact hG_13.out | apply Ext.aft | apply Ext.alloc))⟩
    | true =>
      refine via (PI.out _) ?_
      intro u29 zu29
      (try simp at zu29)
      go_wp2_with fail
      clear zu29
      obtain ⟨W14, hW14⟩ : ∃ X, X = aft W13 u29 := ⟨_, rfl⟩
      have cX_14 : ∀ o, W14.cell? ⟨kX, o, none⟩ = #[Value.int IntKind.i64 x1, Value.int IntKind.i64 x2, Value.int IntKind.i64 x3, Value.int IntKind.i64 x4][o]? := fun o => by rw [hW14, aft_cell, if_pos (by omega)]; exact cX_13 o
      have hG_14 : Hid (Ext w.heap.size w W14) := hid (by rw [hW14]; exact hG_13.out.aft _)
      have l_14 : kX + 1 ≤ W14.heap.size := by rw [hW14]; have := size_aft W13 u29; omega
      rw [← hW14]
      clear hW14 cX_13 l_13 hG_13
      by_cases ht0 : tc = 0
      case neg =>
        have ht' : (tc == 0) = false := by simpa using ht0
        clear ht0
        by_cases h4 : r4 = 0
        case neg =>
          have h4' : (r4 == 0) = false := by simpa using h4
          have h4n : (r4 != 0) = true := by simpa using h4
          clear h4
          refine via (MI.out _) ?_
          intro u30 zu30
          (try simp at zu30)
          go_wp2_with fail
          go_ret
          exact ⟨by first | rfl | simp, (by refine Ext.bel ?_; repeat (with_reducible first | exact hG_14.out | apply Ext.aft | apply Ext.alloc))⟩
        have HK := HHC.out h4
        obtain ⟨k1, k2, k3, k4, _⟩ := HR.out h4
        subst h4
        have hE : (fa * r1 * r1 + fb * r2 * r2 == r3 * r3) = true := by simpa using k3
        have hEn : (fa * r1 * r1 + fb * r2 * r2 != r3 * r3) = false := by simpa using k3
        have xb := mul2_bd (a := fa) (by omega) rb.1
        have yb := mul2_bd (a := fb) (by omega) rb.2.1
        have zb := sq2_bd rb.2.2
        have HK := hid HK
        clear k3
        by_cases e1 : r1 = 0
        case neg =>
          have e1' : (r1 == 0) = false := by simpa using e1
          clear e1 k4
          refine via (MI.out _) ?_
          intro u31 zu31
          (try simp at zu31)
          go_wp2_with fail
          refine viaV (α := Int) (g := (fun c : Int => .tuple #[.bool (c == 0), .int .i64 c])) (HK.out _) ?_
          intro ten u32 zu32
          (try simp at zu32)
          dsimp only
          by_cases ht : ten = 0
          · subst ht
            go_wp2_with fail
            go_ret
            exact ⟨by first | rfl | simp, (by refine Ext.bel ?_; repeat (with_reducible first | exact hG_14.out | apply Ext.aft | apply Ext.alloc))⟩
          · have ht' : (ten == 0) = false := by simpa using ht
            have htn : (ten != 0) = true := by simpa using ht
            clear ht
            go_wp2_with fail
            go_ret
            exact ⟨by first | rfl | simp, (by refine Ext.bel ?_; repeat (with_reducible first | exact hG_14.out | apply Ext.aft | apply Ext.alloc))⟩
        have e1' : (r1 == 0) = true := by simpa using e1
        by_cases e2 : r2 = 0
        case neg =>
          have e2' : (r2 == 0) = false := by simpa using e2
          clear e1 e2 k4
          refine via (MI.out _) ?_
          intro u33 zu33
          (try simp at zu33)
          go_wp2_with fail
          refine viaV (α := Int) (g := (fun c : Int => .tuple #[.bool (c == 0), .int .i64 c])) (HK.out _) ?_
          intro ten u34 zu34
          (try simp at zu34)
          dsimp only
          by_cases ht : ten = 0
          · subst ht
            go_wp2_with fail
            go_ret
            exact ⟨by first | rfl | simp, (by refine Ext.bel ?_; repeat (with_reducible first | exact hG_14.out | apply Ext.aft | apply Ext.alloc))⟩
          · have ht' : (ten == 0) = false := by simpa using ht
            have htn : (ten != 0) = true := by simpa using ht
            clear ht
            go_wp2_with fail
            go_ret
            exact ⟨by first | rfl | simp, (by refine Ext.bel ?_; repeat (with_reducible first | exact hG_14.out | apply Ext.aft | apply Ext.alloc))⟩
        have e2' : (r2 == 0) = true := by simpa using e2
        have e3' : (r3 == 0) = false := by rw [beq_eq_false_iff_ne]; omega
        clear e1 e2 k4
        refine via (MI.out _) ?_
        intro u35 zu35
        (try simp at zu35)
        go_wp2_with fail
        refine viaV (α := Int) (g := (fun c : Int => .tuple #[.bool (c == 0), .int .i64 c])) (HK.out _) ?_
        intro ten u36 zu36
        (try simp at zu36)
        dsimp only
        by_cases ht : ten = 0
        · subst ht
          go_wp2_with fail
          go_ret
          exact ⟨by first | rfl | simp, (by refine Ext.bel ?_; repeat (with_reducible first | exact hG_14.out | apply Ext.aft | apply Ext.alloc))⟩
        · have ht' : (ten == 0) = false := by simpa using ht
          have htn : (ten != 0) = true := by simpa using ht
          clear ht
          go_wp2_with fail
          go_ret
          exact ⟨by first | rfl | simp, (by refine Ext.bel ?_; repeat (with_reducible first | exact hG_14.out | apply Ext.aft | apply Ext.alloc))⟩
      obtain ⟨tb, td, htd, HTI2⟩ := HTI.out ht0
      have HTI2 := hid HTI2
      subst ht0
      refine via (MI.out _) ?_
      intro u37 zu37
      (try simp at zu37)
      go_wp2_with fail
      clear zu37
      obtain ⟨W15, hW15⟩ : ∃ X, X = aft W14 u37 := ⟨_, rfl⟩
      have cX_15 : ∀ o, W15.cell? ⟨kX, o, none⟩ = #[Value.int IntKind.i64 x1, Value.int IntKind.i64 x2, Value.int IntKind.i64 x3, Value.int IntKind.i64 x4][o]? := fun o => by rw [hW15, aft_cell, if_pos (by omega)]; exact cX_14 o
      have hG_15 : Hid (Ext w.heap.size w W15) := hid (by rw [hW15]; exact hG_14.out.aft _)
      have l_15 : kX + 1 ≤ W15.heap.size := by rw [hW15]; have := size_aft W14 u37; omega
      rw [← hW15]
      clear hW15 cX_14 l_14 hG_14
      obtain ⟨kT, hkT⟩ : ∃ k, k = W15.heap.size := ⟨_, rfl⟩
      obtain ⟨W16, hW16⟩ : ∃ X, X = W15.alloc (Obj.cells #[Value.int IntKind.i64 t1, Value.int IntKind.i64 t2, Value.int IntKind.i64 t3, Value.int IntKind.i64 t4] 29) := ⟨_, rfl⟩
      have cX_16 : ∀ o, W16.cell? ⟨kX, o, none⟩ = #[Value.int IntKind.i64 x1, Value.int IntKind.i64 x2, Value.int IntKind.i64 x3, Value.int IntKind.i64 x4][o]? := fun o => by rw [hW16, alloc_cell, if_neg (by omega)]; exact cX_15 o
      have cT_16 : ∀ o, W16.cell? ⟨kT, o, none⟩ = #[Value.int IntKind.i64 t1, Value.int IntKind.i64 t2, Value.int IntKind.i64 t3, Value.int IntKind.i64 t4][o]? := fun o => by rw [hW16, alloc_cell, if_pos hkT]
      have hG_16 : Hid (Ext w.heap.size w W16) := hid (by rw [hW16]; exact hG_15.out.alloc _)
      have l_16 : W16.heap.size = kT + 1 := by rw [hW16]; simp; omega
      have qT : kX < kT := by omega
      rw [← hW16, ← hkT]
      clear hW16 cX_15 l_15 hG_15 hkT
      rcases htd with ⟨rfl, rfl⟩ | ⟨rfl, rfl⟩
      · skip
        by_cases h4 : r4 = 0
        case neg =>
          have h4' : (r4 == 0) = false := by simpa using h4
          have h4n : (r4 != 0) = true := by simpa using h4
          clear h4
          refine via (HTI2.out _) ?_
          intro u38 zu38
          (try simp at zu38)
          go_wp2_with fail
          go_ret
          exact ⟨by first | rfl | simp, (by refine Ext.bel ?_; repeat (with_reducible first | exact hG_16.out | apply Ext.aft | apply Ext.alloc))⟩
        have HK := HHC.out h4
        obtain ⟨k1, k2, k3, k4, _⟩ := HR.out h4
        subst h4
        have hE : (fa * r1 * r1 + fb * r2 * r2 == r3 * r3) = true := by simpa using k3
        have hEn : (fa * r1 * r1 + fb * r2 * r2 != r3 * r3) = false := by simpa using k3
        have xb := mul2_bd (a := fa) (by omega) rb.1
        have yb := mul2_bd (a := fb) (by omega) rb.2.1
        have zb := sq2_bd rb.2.2
        have HK := hid HK
        clear k3
        by_cases e1 : r1 = 0
        case neg =>
          have e1' : (r1 == 0) = false := by simpa using e1
          clear e1 k4
          refine via (HTI2.out _) ?_
          intro u39 zu39
          (try simp at zu39)
          go_wp2_with fail
          refine viaV (α := Int) (g := (fun c : Int => .tuple #[.bool (c == 0), .int .i64 c])) (HK.out _) ?_
          intro ten u40 zu40
          (try simp at zu40)
          dsimp only
          by_cases ht : ten = 0
          · subst ht
            go_wp2_with fail
            go_ret
            exact ⟨by first | rfl | simp, (by refine Ext.bel ?_; repeat (with_reducible first | exact hG_16.out | apply Ext.aft | apply Ext.alloc))⟩
          · have ht' : (ten == 0) = false := by simpa using ht
            have htn : (ten != 0) = true := by simpa using ht
            clear ht
            go_wp2_with fail
            go_ret
            exact ⟨by first | rfl | simp, (by refine Ext.bel ?_; repeat (with_reducible first | exact hG_16.out | apply Ext.aft | apply Ext.alloc))⟩
        have e1' : (r1 == 0) = true := by simpa using e1
        by_cases e2 : r2 = 0
        case neg =>
          have e2' : (r2 == 0) = false := by simpa using e2
          clear e1 e2 k4
          refine via (HTI2.out _) ?_
          intro u41 zu41
          (try simp at zu41)
          go_wp2_with fail
          refine viaV (α := Int) (g := (fun c : Int => .tuple #[.bool (c == 0), .int .i64 c])) (HK.out _) ?_
          intro ten u42 zu42
          (try simp at zu42)
          dsimp only
          by_cases ht : ten = 0
          · subst ht
            go_wp2_with fail
            go_ret
            exact ⟨by first | rfl | simp, (by refine Ext.bel ?_; repeat (with_reducible first | exact hG_16.out | apply Ext.aft | apply Ext.alloc))⟩
          · have ht' : (ten == 0) = false := by simpa using ht
            have htn : (ten != 0) = true := by simpa using ht
            clear ht
            go_wp2_with fail
            go_ret
            exact ⟨by first | rfl | simp, (by refine Ext.bel ?_; repeat (with_reducible first | exact hG_16.out | apply Ext.aft | apply Ext.alloc))⟩
        have e2' : (r2 == 0) = true := by simpa using e2
        have e3' : (r3 == 0) = false := by rw [beq_eq_false_iff_ne]; omega
        clear e1 e2 k4
        refine via (HTI2.out _) ?_
        intro u43 zu43
        (try simp at zu43)
        go_wp2_with fail
        refine viaV (α := Int) (g := (fun c : Int => .tuple #[.bool (c == 0), .int .i64 c])) (HK.out _) ?_
        intro ten u44 zu44
        (try simp at zu44)
        dsimp only
        by_cases ht : ten = 0
        · subst ht
          go_wp2_with fail
          go_ret
          exact ⟨by first | rfl | simp, (by refine Ext.bel ?_; repeat (with_reducible first | exact hG_16.out | apply Ext.aft | apply Ext.alloc))⟩
        · have ht' : (ten == 0) = false := by simpa using ht
          have htn : (ten != 0) = true := by simpa using ht
          clear ht
          go_wp2_with fail
          go_ret
          exact ⟨by first | rfl | simp, (by refine Ext.bel ?_; repeat (with_reducible first | exact hG_16.out | apply Ext.aft | apply Ext.alloc))⟩
      · skip
        by_cases h4 : r4 = 0
        case neg =>
          have h4' : (r4 == 0) = false := by simpa using h4
          have h4n : (r4 != 0) = true := by simpa using h4
          clear h4
          refine via (HTI2.out _) ?_
          intro u45 zu45
          (try simp at zu45)
          go_wp2_with fail
          go_ret
          exact ⟨by first | rfl | simp, (by refine Ext.bel ?_; repeat (with_reducible first | exact hG_16.out | apply Ext.aft | apply Ext.alloc))⟩
        have HK := HHC.out h4
        obtain ⟨k1, k2, k3, k4, _⟩ := HR.out h4
        subst h4
        have hE : (fa * r1 * r1 + fb * r2 * r2 == r3 * r3) = true := by simpa using k3
        have hEn : (fa * r1 * r1 + fb * r2 * r2 != r3 * r3) = false := by simpa using k3
        have xb := mul2_bd (a := fa) (by omega) rb.1
        have yb := mul2_bd (a := fb) (by omega) rb.2.1
        have zb := sq2_bd rb.2.2
        have HK := hid HK
        clear k3
        by_cases e1 : r1 = 0
        case neg =>
          have e1' : (r1 == 0) = false := by simpa using e1
          clear e1 k4
          refine via (HTI2.out _) ?_
          intro u46 zu46
          (try simp at zu46)
          go_wp2_with fail
          refine viaV (α := Int) (g := (fun c : Int => .tuple #[.bool (c == 0), .int .i64 c])) (HK.out _) ?_
          intro ten u47 zu47
          (try simp at zu47)
          dsimp only
          by_cases ht : ten = 0
          · subst ht
            go_wp2_with fail
            go_ret
            exact ⟨by first | rfl | simp, (by refine Ext.bel ?_; repeat (with_reducible first | exact hG_16.out | apply Ext.aft | apply Ext.alloc))⟩
          · have ht' : (ten == 0) = false := by simpa using ht
            have htn : (ten != 0) = true := by simpa using ht
            clear ht
            go_wp2_with fail
            go_ret
            exact ⟨by first | rfl | simp, (by refine Ext.bel ?_; repeat (with_reducible first | exact hG_16.out | apply Ext.aft | apply Ext.alloc))⟩
        have e1' : (r1 == 0) = true := by simpa using e1
        by_cases e2 : r2 = 0
        case neg =>
          have e2' : (r2 == 0) = false := by simpa using e2
          clear e1 e2 k4
          refine via (HTI2.out _) ?_
          intro u48 zu48
          (try simp at zu48)
          go_wp2_with fail
          refine viaV (α := Int) (g := (fun c : Int => .tuple #[.bool (c == 0), .int .i64 c])) (HK.out _) ?_
          intro ten u49 zu49
          (try simp at zu49)
          dsimp only
          by_cases ht : ten = 0
          · subst ht
            go_wp2_with fail
            go_ret
            exact ⟨by first | rfl | simp, (by refine Ext.bel ?_; repeat (with_reducible first | exact hG_16.out | apply Ext.aft | apply Ext.alloc))⟩
          · have ht' : (ten == 0) = false := by simpa using ht
            have htn : (ten != 0) = true := by simpa using ht
            clear ht
            go_wp2_with fail
            go_ret
            exact ⟨by first | rfl | simp, (by refine Ext.bel ?_; repeat (with_reducible first | exact hG_16.out | apply Ext.aft | apply Ext.alloc))⟩
        have e2' : (r2 == 0) = true := by simpa using e2
        have e3' : (r3 == 0) = false := by rw [beq_eq_false_iff_ne]; omega
        clear e1 e2 k4
        refine via (HTI2.out _) ?_
        intro u50 zu50
        (try simp at zu50)
        go_wp2_with fail
        refine viaV (α := Int) (g := (fun c : Int => .tuple #[.bool (c == 0), .int .i64 c])) (HK.out _) ?_
        intro ten u51 zu51
        (try simp at zu51)
        dsimp only
        by_cases ht : ten = 0
        · subst ht
          go_wp2_with fail
          go_ret
          exact ⟨by first | rfl | simp, (by refine Ext.bel ?_; repeat (with_reducible first | exact hG_16.out | apply Ext.aft | apply Ext.alloc))⟩
        · have ht' : (ten == 0) = false := by simpa using ht
          have htn : (ten != 0) = true := by simpa using ht
          clear ht
          go_wp2_with fail
          go_ret
          exact ⟨by first | rfl | simp, (by refine Ext.bel ?_; repeat (with_reducible first | exact hG_16.out | apply Ext.aft | apply Ext.alloc))⟩
  have HCI2 := hid (HCI.out hc0)
  have hc1 := (HC.out hc0).2
  have hc1d : decide (c < 1) = false := by simp; omega
  subst hc0
  refine via (JS.out _) ?_
  intro u52 zu52
  (try simp at zu52)
  go_wp2_with fail
  clear zu52
  obtain ⟨W13, hW13⟩ : ∃ X, X = aft W12 u52 := ⟨_, rfl⟩
  have cX_13 : ∀ o, W13.cell? ⟨kX, o, none⟩ = #[Value.int IntKind.i64 x1, Value.int IntKind.i64 x2, Value.int IntKind.i64 x3, Value.int IntKind.i64 x4][o]? := fun o => by rw [hW13, aft_cell, if_pos (by omega)]; exact cX_12 o
  have hG_13 : Hid (Ext w.heap.size w W13) := hid (by rw [hW13]; exact hG_12.out.aft _)
  have l_13 : kX + 1 ≤ W13.heap.size := by rw [hW13]; have := size_aft W12 u52; omega
  rw [← hW13]
  clear hW13 cX_12 l_12 hG_12
  refine via (HCI2.out _) ?_
  intro u53 zu53
  (try simp at zu53)
  go_wp2_with fail
  clear zu53
  obtain ⟨W14, hW14⟩ : ∃ X, X = aft W13 u53 := ⟨_, rfl⟩
  have cX_14 : ∀ o, W14.cell? ⟨kX, o, none⟩ = #[Value.int IntKind.i64 x1, Value.int IntKind.i64 x2, Value.int IntKind.i64 x3, Value.int IntKind.i64 x4][o]? := fun o => by rw [hW14, aft_cell, if_pos (by omega)]; exact cX_13 o
  have hG_14 : Hid (Ext w.heap.size w W14) := hid (by rw [hW14]; exact hG_13.out.aft _)
  have l_14 : kX + 1 ≤ W14.heap.size := by rw [hW14]; have := size_aft W13 u53; omega
  rw [← hW14]
  clear hW14 cX_13 l_13 hG_13
  cases pb with
  | false =>
    by_cases h4 : r4 = 0
    case neg =>
      have h4' : (r4 == 0) = false := by simpa using h4
      have h4n : (r4 != 0) = true := by simpa using h4
      clear h4
      refine via (PI.out _) ?_
      intro u54 zu54
      (try simp at zu54)
      go_wp2_with fail
      go_ret
      exact ⟨by first | rfl | simp, (by refine Ext.bel ?_; repeat (with_reducible first | exact hG_14.out | apply Ext.aft | apply Ext.alloc))⟩
    have HK := HHC.out h4
    obtain ⟨k1, k2, k3, k4, _⟩ := HR.out h4
    subst h4
    have hE : (fa * r1 * r1 + fb * r2 * r2 == r3 * r3) = true := by simpa using k3
    have hEn : (fa * r1 * r1 + fb * r2 * r2 != r3 * r3) = false := by simpa using k3
    have xb := mul2_bd (a := fa) (by omega) rb.1
    have yb := mul2_bd (a := fb) (by omega) rb.2.1
    have zb := sq2_bd rb.2.2
    have HK := hid HK
    clear k3
    by_cases e1 : r1 = 0
    case neg =>
      have e1' : (r1 == 0) = false := by simpa using e1
      clear e1 k4
      refine via (PI.out _) ?_
      intro u55 zu55
      (try simp at zu55)
      go_wp2_with fail
      refine viaV (α := Int) (g := (fun c : Int => .tuple #[.bool (c == 0), .int .i64 c])) (HK.out _) ?_
      intro ten u56 zu56
      (try simp at zu56)
      dsimp only
      by_cases ht : ten = 0
      · subst ht
        go_wp2_with fail
        go_ret
        exact ⟨by first | rfl | simp, (by refine Ext.bel ?_; repeat (with_reducible first | exact hG_14.out | apply Ext.aft | apply Ext.alloc))⟩
      · have ht' : (ten == 0) = false := by simpa using ht
        have htn : (ten != 0) = true := by simpa using ht
        clear ht
        go_wp2_with fail
        go_ret
        exact ⟨by first | rfl | simp, (by refine Ext.bel ?_; repeat (with_reducible first | exact hG_14.out | apply Ext.aft | apply Ext.alloc))⟩
    have e1' : (r1 == 0) = true := by simpa using e1
    by_cases e2 : r2 = 0
    case neg =>
      have e2' : (r2 == 0) = false := by simpa using e2
      clear e1 e2 k4
      refine via (PI.out _) ?_
      intro u57 zu57
      (try simp at zu57)
      go_wp2_with fail
      refine viaV (α := Int) (g := (fun c : Int => .tuple #[.bool (c == 0), .int .i64 c])) (HK.out _) ?_
      intro ten u58 zu58
      (try simp at zu58)
      dsimp only
      by_cases ht : ten = 0
      · subst ht
        go_wp2_with fail
        go_ret
        exact ⟨by first | rfl | simp, (by refine Ext.bel ?_; repeat (with_reducible first | exact hG_14.out | apply Ext.aft | apply Ext.alloc))⟩
      · have ht' : (ten == 0) = false := by simpa using ht
        have htn : (ten != 0) = true := by simpa using ht
        clear ht
        go_wp2_with fail
        go_ret
        exact ⟨by first | rfl | simp, (by refine Ext.bel ?_; repeat (with_reducible first | exact hG_14.out | apply Ext.aft | apply Ext.alloc))⟩
    have e2' : (r2 == 0) = true := by simpa using e2
    have e3' : (r3 == 0) = false := by rw [beq_eq_false_iff_ne]; omega
    clear e1 e2 k4
    refine via (PI.out _) ?_
    intro u59 zu59
    (try simp at zu59)
    go_wp2_with fail
    refine viaV (α := Int) (g := (fun c : Int => .tuple #[.bool (c == 0), .int .i64 c])) (HK.out _) ?_
    intro ten u60 zu60
    (try simp at zu60)
    dsimp only
    by_cases ht : ten = 0
    · subst ht
      go_wp2_with fail
      go_ret
      exact ⟨by first | rfl | simp, (by refine Ext.bel ?_; repeat (with_reducible first | exact hG_14.out | apply Ext.aft | apply Ext.alloc))⟩
    · have ht' : (ten == 0) = false := by simpa using ht
      have htn : (ten != 0) = true := by simpa using ht
      clear ht
      go_wp2_with fail
      go_ret
      exact ⟨by first | rfl | simp, (by refine Ext.bel ?_; repeat (with_reducible first | exact hG_14.out | apply Ext.aft | apply Ext.alloc))⟩
  | true =>
    refine via (PI.out _) ?_
    intro u61 zu61
    (try simp at zu61)
    go_wp2_with fail
    clear zu61
    obtain ⟨W15, hW15⟩ : ∃ X, X = aft W14 u61 := ⟨_, rfl⟩
    have cX_15 : ∀ o, W15.cell? ⟨kX, o, none⟩ = #[Value.int IntKind.i64 x1, Value.int IntKind.i64 x2, Value.int IntKind.i64 x3, Value.int IntKind.i64 x4][o]? := fun o => by rw [hW15, aft_cell, if_pos (by omega)]; exact cX_14 o
    have hG_15 : Hid (Ext w.heap.size w W15) := hid (by rw [hW15]; exact hG_14.out.aft _)
    have l_15 : kX + 1 ≤ W15.heap.size := by rw [hW15]; have := size_aft W14 u61; omega
    rw [← hW15]
    clear hW15 cX_14 l_14 hG_14
    by_cases ht0 : tc = 0
    case neg =>
      have ht' : (tc == 0) = false := by simpa using ht0
      clear ht0
      by_cases h4 : r4 = 0
      case neg =>
        have h4' : (r4 == 0) = false := by simpa using h4
        have h4n : (r4 != 0) = true := by simpa using h4
        clear h4
        refine via (MI.out _) ?_
        intro u62 zu62
        (try simp at zu62)
        go_wp2_with fail
        go_ret
        exact ⟨by first | rfl | simp, (by refine Ext.bel ?_; repeat (with_reducible first | exact hG_15.out | apply Ext.aft | apply Ext.alloc))⟩
      have HK := HHC.out h4
      obtain ⟨k1, k2, k3, k4, _⟩ := HR.out h4
      subst h4
      have hE : (fa * r1 * r1 + fb * r2 * r2 == r3 * r3) = true := by simpa using k3
      have hEn : (fa * r1 * r1 + fb * r2 * r2 != r3 * r3) = false := by simpa using k3
      have xb := mul2_bd (a := fa) (by omega) rb.1
      have yb := mul2_bd (a := fb) (by omega) rb.2.1
      have zb := sq2_bd rb.2.2
      have HK := hid HK
      clear k3
      by_cases e1 : r1 = 0
      case neg =>
        have e1' : (r1 == 0) = false := by simpa using e1
        clear e1 k4
        refine via (MI.out _) ?_
        intro u63 zu63
        (try simp at zu63)
        go_wp2_with fail
        refine viaV (α := Int) (g := (fun c : Int => .tuple #[.bool (c == 0), .int .i64 c])) (HK.out _) ?_
        intro ten u64 zu64
        (try simp at zu64)
        dsimp only
        by_cases ht : ten = 0
        · subst ht
          go_wp2_with fail
          go_ret
          exact ⟨by first | rfl | simp, (by refine Ext.bel ?_; repeat (with_reducible first | exact hG_15.out | apply Ext.aft | apply Ext.alloc))⟩
        · have ht' : (ten == 0) = false := by simpa using ht
          have htn : (ten != 0) = true := by simpa using ht
          clear ht
          go_wp2_with fail
          go_ret
          exact ⟨by first | rfl | simp, (by refine Ext.bel ?_; repeat (with_reducible first | exact hG_15.out | apply Ext.aft | apply Ext.alloc))⟩
      have e1' : (r1 == 0) = true := by simpa using e1
      by_cases e2 : r2 = 0
      case neg =>
        have e2' : (r2 == 0) = false := by simpa using e2
        clear e1 e2 k4
        refine via (MI.out _) ?_
        intro u65 zu65
        (try simp at zu65)
        go_wp2_with fail
        refine viaV (α := Int) (g := (fun c : Int => .tuple #[.bool (c == 0), .int .i64 c])) (HK.out _) ?_
        intro ten u66 zu66
        (try simp at zu66)
        dsimp only
        by_cases ht : ten = 0
        · subst ht
          go_wp2_with fail
          go_ret
          exact ⟨by first | rfl | simp, (by refine Ext.bel ?_; repeat (with_reducible first | exact hG_15.out | apply Ext.aft | apply Ext.alloc))⟩
        · have ht' : (ten == 0) = false := by simpa using ht
          have htn : (ten != 0) = true := by simpa using ht
          clear ht
          go_wp2_with fail
          go_ret
          exact ⟨by first | rfl | simp, (by refine Ext.bel ?_; repeat (with_reducible first | exact hG_15.out | apply Ext.aft | apply Ext.alloc))⟩
      have e2' : (r2 == 0) = true := by simpa using e2
      have e3' : (r3 == 0) = false := by rw [beq_eq_false_iff_ne]; omega
      clear e1 e2 k4
      refine via (MI.out _) ?_
      intro u67 zu67
      (try simp at zu67)
      go_wp2_with fail
      refine viaV (α := Int) (g := (fun c : Int => .tuple #[.bool (c == 0), .int .i64 c])) (HK.out _) ?_
      intro ten u68 zu68
      (try simp at zu68)
      dsimp only
      by_cases ht : ten = 0
      · subst ht
        go_wp2_with fail
        go_ret
        exact ⟨by first | rfl | simp, (by refine Ext.bel ?_; repeat (with_reducible first | exact hG_15.out | apply Ext.aft | apply Ext.alloc))⟩
      · have ht' : (ten == 0) = false := by simpa using ht
        have htn : (ten != 0) = true := by simpa using ht
        clear ht
        go_wp2_with fail
        go_ret
        exact ⟨by first | rfl | simp, (by refine Ext.bel ?_; repeat (with_reducible first | exact hG_15.out | apply Ext.aft | apply Ext.alloc))⟩
    obtain ⟨tb, td, htd, HTI2⟩ := HTI.out ht0
    have HTI2 := hid HTI2
    subst ht0
    refine via (MI.out _) ?_
    intro u69 zu69
    (try simp at zu69)
    go_wp2_with fail
    clear zu69
    obtain ⟨W16, hW16⟩ : ∃ X, X = aft W15 u69 := ⟨_, rfl⟩
    have cX_16 : ∀ o, W16.cell? ⟨kX, o, none⟩ = #[Value.int IntKind.i64 x1, Value.int IntKind.i64 x2, Value.int IntKind.i64 x3, Value.int IntKind.i64 x4][o]? := fun o => by rw [hW16, aft_cell, if_pos (by omega)]; exact cX_15 o
    have hG_16 : Hid (Ext w.heap.size w W16) := hid (by rw [hW16]; exact hG_15.out.aft _)
    have l_16 : kX + 1 ≤ W16.heap.size := by rw [hW16]; have := size_aft W15 u69; omega
    rw [← hW16]
    clear hW16 cX_15 l_15 hG_15
    obtain ⟨kT, hkT⟩ : ∃ k, k = W16.heap.size := ⟨_, rfl⟩
    obtain ⟨W17, hW17⟩ : ∃ X, X = W16.alloc (Obj.cells #[Value.int IntKind.i64 t1, Value.int IntKind.i64 t2, Value.int IntKind.i64 t3, Value.int IntKind.i64 t4] 29) := ⟨_, rfl⟩
    have cX_17 : ∀ o, W17.cell? ⟨kX, o, none⟩ = #[Value.int IntKind.i64 x1, Value.int IntKind.i64 x2, Value.int IntKind.i64 x3, Value.int IntKind.i64 x4][o]? := fun o => by rw [hW17, alloc_cell, if_neg (by omega)]; exact cX_16 o
    have cT_17 : ∀ o, W17.cell? ⟨kT, o, none⟩ = #[Value.int IntKind.i64 t1, Value.int IntKind.i64 t2, Value.int IntKind.i64 t3, Value.int IntKind.i64 t4][o]? := fun o => by rw [hW17, alloc_cell, if_pos hkT]
    have hG_17 : Hid (Ext w.heap.size w W17) := hid (by rw [hW17]; exact hG_16.out.alloc _)
    have l_17 : W17.heap.size = kT + 1 := by rw [hW17]; simp; omega
    have qT : kX < kT := by omega
    rw [← hW17, ← hkT]
    clear hW17 cX_16 l_16 hG_16 hkT
    rcases htd with ⟨rfl, rfl⟩ | ⟨rfl, rfl⟩
    · skip
      by_cases h4 : r4 = 0
      case neg =>
        have h4' : (r4 == 0) = false := by simpa using h4
        have h4n : (r4 != 0) = true := by simpa using h4
        clear h4
        refine via (HTI2.out _) ?_
        intro u70 zu70
        (try simp at zu70)
        go_wp2_with fail
        go_ret
        exact ⟨by first | rfl | simp, (by refine Ext.bel ?_; repeat (with_reducible first | exact hG_17.out | apply Ext.aft | apply Ext.alloc))⟩
      have HK := HHC.out h4
      obtain ⟨k1, k2, k3, k4, _⟩ := HR.out h4
      subst h4
      have hE : (fa * r1 * r1 + fb * r2 * r2 == r3 * r3) = true := by simpa using k3
      have hEn : (fa * r1 * r1 + fb * r2 * r2 != r3 * r3) = false := by simpa using k3
      have xb := mul2_bd (a := fa) (by omega) rb.1
      have yb := mul2_bd (a := fb) (by omega) rb.2.1
      have zb := sq2_bd rb.2.2
      have HK := hid HK
      clear k3
      by_cases e1 : r1 = 0
      case neg =>
        have e1' : (r1 == 0) = false := by simpa using e1
        clear e1 k4
        refine via (HTI2.out _) ?_
        intro u71 zu71
        (try simp at zu71)
        go_wp2_with fail
        refine viaV (α := Int) (g := (fun c : Int => .tuple #[.bool (c == 0), .int .i64 c])) (HK.out _) ?_
        intro ten u72 zu72
        (try simp at zu72)
        dsimp only
        by_cases ht : ten = 0
        · subst ht
          go_wp2_with fail
          go_ret
          exact ⟨by first | rfl | simp, (by refine Ext.bel ?_; repeat (with_reducible first | exact hG_17.out | apply Ext.aft | apply Ext.alloc))⟩
        · have ht' : (ten == 0) = false := by simpa using ht
          have htn : (ten != 0) = true := by simpa using ht
          clear ht
          go_wp2_with fail
          go_ret
          exact ⟨by first | rfl | simp, (by refine Ext.bel ?_; repeat (with_reducible first | exact hG_17.out | apply Ext.aft | apply Ext.alloc))⟩
      have e1' : (r1 == 0) = true := by simpa using e1
      by_cases e2 : r2 = 0
      case neg =>
        have e2' : (r2 == 0) = false := by simpa using e2
        clear e1 e2 k4
        refine via (HTI2.out _) ?_
        intro u73 zu73
        (try simp at zu73)
        go_wp2_with fail
        refine viaV (α := Int) (g := (fun c : Int => .tuple #[.bool (c == 0), .int .i64 c])) (HK.out _) ?_
        intro ten u74 zu74
        (try simp at zu74)
        dsimp only
        by_cases ht : ten = 0
        · subst ht
          go_wp2_with fail
          go_ret
          exact ⟨by first | rfl | simp, (by refine Ext.bel ?_; repeat (with_reducible first | exact hG_17.out | apply Ext.aft | apply Ext.alloc))⟩
        · have ht' : (ten == 0) = false := by simpa using ht
          have htn : (ten != 0) = true := by simpa using ht
          clear ht
          go_wp2_with fail
          go_ret
          exact ⟨by first | rfl | simp, (by refine Ext.bel ?_; repeat (with_reducible first | exact hG_17.out | apply Ext.aft | apply Ext.alloc))⟩
      have e2' : (r2 == 0) = true := by simpa using e2
      have e3' : (r3 == 0) = false := by rw [beq_eq_false_iff_ne]; omega
      clear e1 e2 k4
      refine via (HTI2.out _) ?_
      intro u75 zu75
      (try simp at zu75)
      go_wp2_with fail
      refine viaV (α := Int) (g := (fun c : Int => .tuple #[.bool (c == 0), .int .i64 c])) (HK.out _) ?_
      intro ten u76 zu76
      (try simp at zu76)
      dsimp only
      by_cases ht : ten = 0
      · subst ht
        go_wp2_with fail
        go_ret
        exact ⟨by first | rfl | simp, (by refine Ext.bel ?_; repeat (with_reducible first | exact hG_17.out | apply Ext.aft | apply Ext.alloc))⟩
      · have ht' : (ten == 0) = false := by simpa using ht
        have htn : (ten != 0) = true := by simpa using ht
        clear ht
        go_wp2_with fail
        go_ret
        exact ⟨by first | rfl | simp, (by refine Ext.bel ?_; repeat (with_reducible first | exact hG_17.out | apply Ext.aft | apply Ext.alloc))⟩
    · skip
      by_cases h4 : r4 = 0
      case neg =>
        have h4' : (r4 == 0) = false := by simpa using h4
        have h4n : (r4 != 0) = true := by simpa using h4
        clear h4
        refine via (HTI2.out _) ?_
        intro u77 zu77
        (try simp at zu77)
        go_wp2_with fail
        go_ret
        exact ⟨by first | rfl | simp, (by refine Ext.bel ?_; repeat (with_reducible first | exact hG_17.out | apply Ext.aft | apply Ext.alloc))⟩
      have HK := HHC.out h4
      obtain ⟨k1, k2, k3, k4, _⟩ := HR.out h4
      subst h4
      have hE : (fa * r1 * r1 + fb * r2 * r2 == r3 * r3) = true := by simpa using k3
      have hEn : (fa * r1 * r1 + fb * r2 * r2 != r3 * r3) = false := by simpa using k3
      have xb := mul2_bd (a := fa) (by omega) rb.1
      have yb := mul2_bd (a := fb) (by omega) rb.2.1
      have zb := sq2_bd rb.2.2
      have HK := hid HK
      clear k3
      by_cases e1 : r1 = 0
      case neg =>
        have e1' : (r1 == 0) = false := by simpa using e1
        clear e1 k4
        refine via (HTI2.out _) ?_
        intro u78 zu78
        (try simp at zu78)
        go_wp2_with fail
        refine viaV (α := Int) (g := (fun c : Int => .tuple #[.bool (c == 0), .int .i64 c])) (HK.out _) ?_
        intro ten u79 zu79
        (try simp at zu79)
        dsimp only
        by_cases ht : ten = 0
        · subst ht
          go_wp2_with fail
          go_ret
          exact ⟨by first | rfl | simp, (by refine Ext.bel ?_; repeat (with_reducible first | exact hG_17.out | apply Ext.aft | apply Ext.alloc))⟩
        · have ht' : (ten == 0) = false := by simpa using ht
          have htn : (ten != 0) = true := by simpa using ht
          clear ht
          go_wp2_with fail
          go_ret
          exact ⟨by first | rfl | simp, (by refine Ext.bel ?_; repeat (with_reducible first | exact hG_17.out | apply Ext.aft | apply Ext.alloc))⟩
      have e1' : (r1 == 0) = true := by simpa using e1
      by_cases e2 : r2 = 0
      case neg =>
        have e2' : (r2 == 0) = false := by simpa using e2
        clear e1 e2 k4
        refine via (HTI2.out _) ?_
        intro u80 zu80
        (try simp at zu80)
        go_wp2_with fail
        refine viaV (α := Int) (g := (fun c : Int => .tuple #[.bool (c == 0), .int .i64 c])) (HK.out _) ?_
        intro ten u81 zu81
        (try simp at zu81)
        dsimp only
        by_cases ht : ten = 0
        · subst ht
          go_wp2_with fail
          go_ret
          exact ⟨by first | rfl | simp, (by refine Ext.bel ?_; repeat (with_reducible first | exact hG_17.out | apply Ext.aft | apply Ext.alloc))⟩
        · have ht' : (ten == 0) = false := by simpa using ht
          have htn : (ten != 0) = true := by simpa using ht
          clear ht
          go_wp2_with fail
          go_ret
          exact ⟨by first | rfl | simp, (by refine Ext.bel ?_; repeat (with_reducible first | exact hG_17.out | apply Ext.aft | apply Ext.alloc))⟩
      have e2' : (r2 == 0) = true := by simpa using e2
      have e3' : (r3 == 0) = false := by rw [beq_eq_false_iff_ne]; omega
      clear e1 e2 k4
      refine via (HTI2.out _) ?_
      intro u82 zu82
      (try simp at zu82)
      go_wp2_with fail
      refine viaV (α := Int) (g := (fun c : Int => .tuple #[.bool (c == 0), .int .i64 c])) (HK.out _) ?_
      intro ten u83 zu83
      (try simp at zu83)
      dsimp only
      by_cases ht : ten = 0
      · subst ht
        go_wp2_with fail
        go_ret
        exact ⟨by first | rfl | simp, (by refine Ext.bel ?_; repeat (with_reducible first | exact hG_17.out | apply Ext.aft | apply Ext.alloc))⟩
      · have ht' : (ten == 0) = false := by simpa using ht
        have htn : (ten != 0) = true := by simpa using ht
        clear ht
        go_wp2_with fail
        go_ret
        exact ⟨by first | rfl | simp, (by refine Ext.bel ?_; repeat (with_reducible first | exact hG_17.out | apply Ext.aft | apply Ext.alloc))⟩
end Go.Proofs.Ytdeehgcabnoclaa
