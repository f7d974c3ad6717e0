/- Primitive roots and squares: the law. (Printed by mkT51.py.) -/
import Derived.Test.YtehdkbopkkgabaaT49
import Derived.Test.YtehdkbopkkgabaaT50
import Derived.Test.YtehdkbopkkgabaaT12
namespace Go.Proofs.Ytehdkbopkkgabaa
open Go Go.RowKit

theorem sq_own {q x : Int} (hs : smallP q = true) (hx : 0 ≤ x ∧ x < q) : ∃ s, sqrpF q (x * x) = (s, 0) ∧ 0 ≤ s := by
  have hp := smallP_bd hs
  have h1 : 0 ≤ x * x := Int.mul_nonneg hx.1 hx.1
  have h2 : x * x ≤ 97 * 97 := Int.mul_le_mul (by omega) (by omega) (by omega) (by omega)
  refine ⟨sqF q (x * x), ?_, ?_⟩
  · unfold sqrpF
    rw [if_pos hs, if_pos (by rw [inB_iff]; omega)]
  · by_cases h0 : (x * x) % q = 0
    · rw [sqF_0 h0]; exact Int.le_refl 0
    · obtain ⟨X, rfl⟩ : ∃ X : Nat, x = (X : Int) := ⟨x.toNat, by omega⟩
      have hX : 1 ≤ X := by
        rcases Nat.lt_or_ge X 1 with h | h
        · exfalso; obtain rfl : X = 0 := by omega
          exact h0 (by simp)
        · exact h
      rw [sqF_1 h0 hX (by omega) (by rw [Int.sub_self]; exact Int.zero_emod q)]
      omega
theorem sq_zero {q a : Int} (hs : smallP q = true) : ((a.tmod q == 0) != (sqF q a == 0)) = false := by
  have hp := smallP_bd hs
  by_cases h0 : a % q = 0
  · have h1 : a.tmod q = 0 := tmod_zero_iff.2 h0
    rw [sqF_0 h0, h1]; rfl
  · have h1 : a.tmod q ≠ 0 := fun h => h0 (tmod_zero_iff.1 h)
    have h2 : sqF q a ≠ 0 := by
      unfold sqF
      rw [if_neg h0]
      split <;> omega
    have e1 : (a.tmod q == 0) = false := beq_eq_false_iff_ne.2 h1
    have e2 : (sqF q a == 0) = false := beq_eq_false_iff_ne.2 h2
    rw [e1, e2]; rfl
theorem sqrp_code {q a s : Int} (h : sqrpF q a = (s, 0)) : smallP q = true ∧ s = sqF q a := by
  unfold sqrpF at h
  split at h
  · split at h
    · exact ⟨‹_›, by injection h with h1 h2; exact h1.symm⟩
    · injection h with h1 h2; omega
  · injection h with h1 h2; omega
theorem rootp_code {p g : Int} (h : rootpF p = (g, 0)) : smallP p = true ∧ g = rootF p := by
  unfold rootpF at h
  split at h
  · exact ⟨‹_›, by injection h with h1 h2; exact h1.symm⟩
  · injection h with h1 h2; omega
set_option maxRecDepth 20000 in
set_option maxHeartbeats 32000000 in
theorem law_RootsOfPrimes (a : Option Addr) (len cap : Nat) (w : World) (h : rdB w.heap.size w a len) :
    Calls Try.prog 3 #[.slice a len cap] w fun e w' => e = .returned (.bool true) ∧ Below w.heap.size w w' := by
  by_cases hl : len ≤ 4096
  case neg =>
    have hd : decide ((4096 : Int) < (len : Int)) = true := by simp; omega
    go_enter Try.func3, Try.ntmps3
    go_wp2_with (go_at_call 9; refine pur (l_big _ _ _ _) ?_)
    go_ret
    exact ⟨rfl, (by refine Ext.bel ?_; repeat (with_reducible first | exact Ext.refl _ | apply Ext.alloc | apply Ext.aft | apply Ext.drew | apply Ext.drewN | apply Ext.setCell | exact Nat.le_add_right _ _ | exact Nat.le_refl _ | (simp; done) | omega))⟩
  have hd : decide ((4096 : Int) < (len : Int)) = false := by simp; omega
  have H := hid h
  clear h
  go_enter Try.func3, Try.ntmps3
  go_wp2_with (go_at_call 9; refine pur (l_big _ _ _ _) ?_)
  have hG_0 : Hid (Ext w.heap.size w w) := hid (Ext.refl w)
  refine viaV (α := Int) (g := fun z => .int .i64 z) (s_DrawPrimitiveRoot w.heap.size a len cap _ (H.out.ext hG_0.out) hl hG_0.out.2) ?_
  intro p u1 zu1
  (try simp at zu1)
  go_wp2_with fail
  clear zu1
  obtain ⟨W1, hW1⟩ : ∃ X, X = aft w u1 := ⟨_, rfl⟩
  have hG_1 : Hid (Ext w.heap.size w W1) := hid (by rw [hW1]; exact hG_0.out.aft _)
  rw [← hW1]
  clear hW1 hG_0
  obtain ⟨A, hA⟩ : ∃ rr, rr = rootpF p := ⟨_, rfl⟩
  obtain ⟨g, b⟩ := A
  have CI : Hid (∀ W : World, Calls Try.prog 11 #[.int .i64 p] W fun e w' => e = .returned (.tuple #[.int .i64 g, .int .i64 b]) ∧ Below W.heap.size W w') := hid fun W => by have := i_PrimitiveRoot p W; rw [← hA] at this; exact this
  have CS : Hid (∀ W : World, Calls Try.prog 12 #[.int .i64 p] W fun e w' => e = .returned (.tuple #[.int .i64 g, .int .i64 b]) ∧ Below W.heap.size W w') := hid fun W => by have := s_PrimitiveRoot p W; rw [← hA] at this; exact this
  have HA := hid hA
  clear hA
  refine via (CI.out _) ?_
  intro u2 zu2
  (try simp at zu2)
  go_wp2_with fail
  clear zu2
  obtain ⟨W2, hW2⟩ : ∃ X, X = aft W1 u2 := ⟨_, rfl⟩
  have hG_2 : Hid (Ext w.heap.size w W2) := hid (by rw [hW2]; exact hG_1.out.aft _)
  rw [← hW2]
  clear hW2 hG_1
  refine via (CS.out _) ?_
  intro u3 zu3
  (try simp at zu3)
  go_wp2_with fail
  clear zu3
  obtain ⟨W3, hW3⟩ : ∃ X, X = aft W2 u3 := ⟨_, rfl⟩
  have hG_3 : Hid (Ext w.heap.size w W3) := hid (by rw [hW3]; exact hG_2.out.aft _)
  rw [← hW3]
  clear hW3 hG_2
  refine viaV (α := Int × Int) (g := (fun z : Int × Int => .tuple #[.int .i64 z.1, .int .i64 z.2])) (s_DrawIsSquareResidue w.heap.size a len cap _ (H.out.ext hG_3.out) hl hG_3.out.2) ?_
  intro zz u4 zu4
  (try simp at zu4)
  obtain ⟨q, x⟩ := zz
  dsimp only
  go_wp2_with fail
  clear zu4
  obtain ⟨W4, hW4⟩ : ∃ X, X = aft W3 u4 := ⟨_, rfl⟩
  have hG_4 : Hid (Ext w.heap.size w W4) := hid (by rw [hW4]; exact hG_3.out.aft _)
  rw [← hW4]
  clear hW4 hG_3
  obtain ⟨D, hD⟩ : ∃ rr, rr = sqrpF q x := ⟨_, rfl⟩
  obtain ⟨s, c⟩ := D
  have DI : Hid (∀ W : World, Calls Try.prog 14 #[.int .i64 q, .int .i64 x] W fun e w' => e = .returned (.tuple #[.int .i64 s, .int .i64 c]) ∧ Below W.heap.size W w') := hid fun W => by have := i_IsSquareResidue q x W; rw [← hD] at this; exact this
  have DS : Hid (∀ W : World, Calls Try.prog 15 #[.int .i64 q, .int .i64 x] W fun e w' => e = .returned (.tuple #[.int .i64 s, .int .i64 c]) ∧ Below W.heap.size W w') := hid fun W => by have := s_IsSquareResidue q x W; rw [← hD] at this; exact this
  have HD := hid hD
  clear hD
  refine via (DI.out _) ?_
  intro u5 zu5
  (try simp at zu5)
  go_wp2_with fail
  clear zu5
  obtain ⟨W5, hW5⟩ : ∃ X, X = aft W4 u5 := ⟨_, rfl⟩
  have hG_5 : Hid (Ext w.heap.size w W5) := hid (by rw [hW5]; exact hG_4.out.aft _)
  rw [← hW5]
  clear hW5 hG_4
  refine via (DS.out _) ?_
  intro u6 zu6
  (try simp at zu6)
  by_cases hc : c = 0
  case neg =>
    have hc' : (c == 0) = false := by simpa using hc
    by_cases hb : b = 0
    case neg =>
      have hb' : (b != 0) = true := by simpa using hb
      go_wp2_with fail
      go_ret
      exact ⟨by first | rfl | simp, Ext.bel (hG_5.out.aft _)⟩
    subst hb
    obtain ⟨hs, hg⟩ := rootp_code HA.out.symm
    have ho := root_order hs
    have hp := smallP_bd hs
    rw [← hg] at ho
    have OI : Hid (∀ W : World, Calls Try.prog 19 #[.agg #[.int .i64 p, .int .i64 1], .int .i64 g] W fun e w' => e = .returned (.tuple #[.int .i64 (p - 1), .int .i64 0]) ∧ Below W.heap.size W w') := hid fun W => by have := i_OrderOf p 1 g W; rw [ho] at this; exact this
    clear hg ho
    go_wp2_with fail
    refine via (OI.out _) ?_
    intro u20 zu20
    (try simp at zu20)
    go_wp2_with fail
    go_ret
    exact ⟨by first | rfl | simp, Ext.bel (Ext.aft (hG_5.out.aft _) _)⟩
  subst hc
  obtain ⟨hq, he⟩ := sqrp_code HD.out.symm
  have hz := sq_zero (q := q) (a := x) hq
  rw [← he] at hz
  have hz2 : ((x.tmod q == 0) == (s == 0)) = true := by revert hz; cases (x.tmod q == 0) <;> cases (s == 0) <;> simp
  have hQ := smallP_bd hq
  have hq1 := smallP_prime hq
  have HQ := hid hq
  have q0 : (q == 0) = false := by rw [beq_eq_false_iff_ne]; omega
  clear he hq
  go_wp2_with (go_at_call 16; refine pur (i_IsPrime _ _) ?_)
  refine (l_roll w.heap.size a len cap 203 _ (H.out.ext (hG_5.out.aft _)) hl (hG_5.out.aft _).2 (by omega)).mono ?_
  rintro _ _ ⟨bd, rfl, hdc, hbd, hBel⟩
  obtain ⟨u7, rfl⟩ := aft_ex hBel
  obtain ⟨sd, hdc⟩ := hdc
  have hG_6 : Hid (Ext w.heap.size w (aft (aft W5 u6) u7)) := hid ((hG_5.out.aft _).aft _)
  have hbd2 : w.heap.size ≤ bd := Nat.le_trans (hG_5.out.aft _).2 hbd
  clear hz hz2 hBel hbd
  obtain ⟨W6, hW6⟩ : ∃ X, X = aft (aft W5 u6) u7 := ⟨_, rfl⟩
  rw [← hW6] at hdc hG_6
  dsimp only
  rw [← hW6]
  clear hW6 zu6
  go_wp2_with fail
  refine (l_below w.heap.size bd q _ ⟨_, _, _, _, _, hdc⟩ (by omega)).mono ?_
  rintro _ _ ⟨y, rfl, hy, hgr⟩
  obtain ⟨u8, rfl⟩ := aftD_ex hgr
  obtain ⟨W7, hW7⟩ : ∃ X, X = aftD bd W6 u8 := ⟨_, rfl⟩
  have hG_7 : Hid (Ext w.heap.size w W7) := hid (by rw [hW7]; exact hG_6.out.aftD _ hbd2)
  dsimp only
  rw [← hW7]
  clear hW7 hgr hG_6 hdc
  obtain ⟨t, ht, ht0⟩ := sq_own HQ.out hy
  have TI : Hid (∀ W : World, Calls Try.prog 14 #[.int .i64 q, .int .i64 (y * y)] W fun e w' => e = .returned (.tuple #[.int .i64 t, .int .i64 0]) ∧ Below W.heap.size W w') := hid fun W => by have := i_IsSquareResidue q (y * y) W; rw [ht] at this; exact this
  have y0 : 0 ≤ y * y := Int.mul_nonneg hy.1 hy.1
  have y1 : y * y ≤ 97 * 97 := Int.mul_le_mul (by omega) (by omega) (by omega) (by omega)
  have ht1 : decide (t < 0) = false := by simp; omega
  clear ht
  go_wp2_with fail
  refine via (TI.out _) ?_
  intro u9 zu9
  (try simp at zu9)
  by_cases hb : b = 0
  case neg =>
    have hb' : (b != 0) = true := by simpa using hb
    go_wp2_with fail
    go_ret
    exact ⟨by first | rfl | simp, Ext.bel (hG_7.out.aft _)⟩
  subst hb
  obtain ⟨hs, hg⟩ := rootp_code HA.out.symm
  have ho := root_order hs
  have hp := smallP_bd hs
  rw [← hg] at ho
  have OI : Hid (∀ W : World, Calls Try.prog 19 #[.agg #[.int .i64 p, .int .i64 1], .int .i64 g] W fun e w' => e = .returned (.tuple #[.int .i64 (p - 1), .int .i64 0]) ∧ Below W.heap.size W w') := hid fun W => by have := i_OrderOf p 1 g W; rw [ho] at this; exact this
  clear hg ho
  go_wp2_with fail
  refine via (OI.out _) ?_
  intro u20 zu20
  (try simp at zu20)
  go_wp2_with fail
  go_ret
  exact ⟨by first | rfl | simp, Ext.bel (Ext.aft (hG_7.out.aft _) _)⟩
end Go.Proofs.Ytehdkbopkkgabaa
