/- Contracts: Bezout, inverses. -/
import Derived.Test.YtaninbfcoifedaaA9
import Derived.Test.YtaninbfcoifedaaM2
namespace Go.Proofs.Ytaninbfcoifedaa
open Go Go.RowKit

theorem div_mod_sub {r s : Int} : r - r / s * s = r % s := by have := Int.emod_add_mul_ediv r s; rw [Int.mul_comm]; omega

set_option maxHeartbeats 1000000 in
theorem s_Bezout (a b : Int) (w : World) (ha : 0 ≤ a ∧ a ≤ 1000000000000) (hb : 1 ≤ b ∧ b ≤ 1000000000000) :
    Calls Try.prog 89 #[.int .i64 a, .int .i64 b] w fun e w' => e = .returned (.tuple #[.int .i64 (bx (b.toNat + 1) a 1 b 0), .int .i64 (bx (b.toNat + 1) a 0 b 1)]) ∧ w = w' := by
  go_enter Try.func89, Try.ntmps89
  go_wp2_with fail
  go_loop [6, 7, 8, 9, 10, 11, 12] (fun t6 t7 t8 t9 t10 t11 _ => ∃ (f : Nat) (r x y s u v : Int), t6 = .int .i64 r ∧ t7 = .int .i64 x ∧ t8 = .int .i64 y ∧ t9 = .int .i64 s ∧ t10 = .int .i64 u ∧ t11 = .int .i64 v ∧ s.toNat < f ∧
    (0 ≤ r ∧ r ≤ 1000000000000) ∧ (0 ≤ s ∧ s ≤ 1000000000000) ∧ Lin b r x s u ∧ Lin a r y s v ∧ bx f r x s u = bx (b.toNat + 1) a 1 b 0 ∧ bx f r y s v = bx (b.toNat + 1) a 0 b 1) (fun _ _ _ t9 _ _ _ => (intOf t9).toNat)
  case atStart => exact ⟨b.toNat + 1, a, 1, 0, b, 0, 1, rfl, rfl, rfl, rfl, rfl, rfl, by omega, ha, by omega, Lin.x0 _ _, Lin.y0 _ _, rfl, rfl⟩
  case round =>
    obtain ⟨f, r, x, y, s, u, v, rfl, rfl, rfl, rfl, rfl, rfl, hf, hr, hs, hx, hy, ex, ey⟩ := hrel
    by_cases h0 : s = 0
    · subst h0
      obtain ⟨f, rfl⟩ : ∃ g, f = g + 1 := ⟨f - 1, by omega⟩
      have Ex := hid ((bx_zero _ _ _ _).symm.trans ex)
      have Ey := hid ((bx_zero _ _ _ _).symm.trans ey)
      clear ex ey hx hy
      go_wp2
      go_ret2
      exact ⟨by rw [← Ex.out, ← Ey.out]; rfl, rfl⟩
    · have hs1 : 0 < s := by omega
      have fx := hx.fits hr.1 hs1 hb.2
      have fy := hy.fits hr.1 hs1 ha.2
      have hm := Int.emod_nonneg r h0
      have hm2 := Int.emod_lt_of_pos r hs1
      have hq : 0 ≤ r / s * s ∧ r / s * s ≤ 1000000000000 := by have := @div_mod_sub r s; have := Int.mul_nonneg (Int.ediv_nonneg hr.1 hs.1) hs.1; omega
      have HX := hid (hx.step hr.1 hs1)
      have HY := hid (hy.step hr.1 hs1)
      obtain ⟨f, rfl⟩ : ∃ g, f = g + 1 := ⟨f - 1, by omega⟩
      have Ex := hid ((bx_step _ _ _ _ _ h0).symm.trans ex)
      have Ey := hid ((bx_step _ _ _ _ _ h0).symm.trans ey)
      have E := hid (@div_mod_sub r s)
      have hq1 : 0 ≤ r / s ∧ r / s ≤ 1000000000000 := by
        refine ⟨Int.ediv_nonneg hr.1 hs.1, ?_⟩
        have : r / s * 1 ≤ r / s * s := Int.mul_le_mul_of_nonneg_left (by omega) (Int.ediv_nonneg hr.1 hs.1)
        omega
      have hn : (s == 0) = false := by simpa using h0
      have hn' : (s != 0) = true := by simpa using h0
      clear ex ey hx hy h0
      go_wp2
      go_round
      case rel => exact ⟨f, s, u, v, r % s, x - r / s * u, y - r / s * v, rfl, rfl, rfl, by rw [E.out], rfl, rfl, by omega, by omega, by omega, HX.out, HY.out, Ex.out, Ey.out⟩
      case measure => simp only [intOf]; rw [E.out]; omega

set_option maxHeartbeats 1000000 in
theorem i_Bezout (a b : Int) (w : World) (ha : 0 ≤ a ∧ a ≤ 1000000000000) (hb : 1 ≤ b ∧ b ≤ 1000000000000) :
    Calls Try.prog 97 #[.int .i64 a, .int .i64 b] w fun e w' => e = .returned (.tuple #[.int .i64 (bx (b.toNat + 1) a 1 b 0), .int .i64 (bx (b.toNat + 1) a 0 b 1), .int .i64 0]) ∧ w = w' := by
  have ha1 := inB_t (n := a) (a := -1000000000000) (b := 1000000000000) (by omega) (by omega)
  have hb1 := inB_t (n := b) (a := -1000000000000) (b := 1000000000000) (by omega) (by omega)
  go_enter Try.func97, Try.ntmps97
  go_wp2_with fail
  refine pur (i_isValue _ _) ?_
  go_wp2_with fail
  refine pur (i_isValue _ _) ?_
  go_wp2_with fail
  go_loop [7, 8, 9, 10, 11, 12, 13] (fun t6 t7 t8 t9 t10 t11 _ => ∃ (f : Nat) (r x y s u v : Int), t6 = .int .i64 r ∧ t7 = .int .i64 x ∧ t8 = .int .i64 y ∧ t9 = .int .i64 s ∧ t10 = .int .i64 u ∧ t11 = .int .i64 v ∧ s.toNat < f ∧
    (0 ≤ r ∧ r ≤ 1000000000000) ∧ (0 ≤ s ∧ s ≤ 1000000000000) ∧ Lin b r x s u ∧ Lin a r y s v ∧ bx f r x s u = bx (b.toNat + 1) a 1 b 0 ∧ bx f r y s v = bx (b.toNat + 1) a 0 b 1) (fun _ _ _ t9 _ _ _ => (intOf t9).toNat)
  case atStart => exact ⟨b.toNat + 1, a, 1, 0, b, 0, 1, rfl, rfl, rfl, rfl, rfl, rfl, by omega, ha, by omega, Lin.x0 _ _, Lin.y0 _ _, rfl, rfl⟩
  case round =>
    obtain ⟨f, r, x, y, s, u, v, rfl, rfl, rfl, rfl, rfl, rfl, hf, hr, hs, hx, hy, ex, ey⟩ := hrel
    by_cases h0 : s = 0
    · subst h0
      obtain ⟨f, rfl⟩ : ∃ g, f = g + 1 := ⟨f - 1, by omega⟩
      have Ex := hid ((bx_zero _ _ _ _).symm.trans ex)
      have Ey := hid ((bx_zero _ _ _ _).symm.trans ey)
      have hr0 := hr.1
      clear ex ey hx hy
      go_wp2
      go_ret3
      exact ⟨by rw [← Ex.out, ← Ey.out]; rfl, rfl⟩
    · have hs1 : 0 < s := by omega
      have fx := hx.fits hr.1 hs1 hb.2
      have fy := hy.fits hr.1 hs1 ha.2
      have hm := Int.emod_nonneg r h0
      have hm2 := Int.emod_lt_of_pos r hs1
      have hq : 0 ≤ r / s * s ∧ r / s * s ≤ 1000000000000 := by have := @div_mod_sub r s; have := Int.mul_nonneg (Int.ediv_nonneg hr.1 hs.1) hs.1; omega
      have HX := hid (hx.step hr.1 hs1)
      have HY := hid (hy.step hr.1 hs1)
      obtain ⟨f, rfl⟩ : ∃ g, f = g + 1 := ⟨f - 1, by omega⟩
      have Ex := hid ((bx_step _ _ _ _ _ h0).symm.trans ex)
      have Ey := hid ((bx_step _ _ _ _ _ h0).symm.trans ey)
      have E := hid (@div_mod_sub r s)
      have hq1 : 0 ≤ r / s ∧ r / s ≤ 1000000000000 := by
        refine ⟨Int.ediv_nonneg hr.1 hs.1, ?_⟩
        have : r / s * 1 ≤ r / s * s := Int.mul_le_mul_of_nonneg_left (by omega) (Int.ediv_nonneg hr.1 hs.1)
        omega
      have hn : (s == 0) = false := by simpa using h0
      have hn' : (s != 0) = true := by simpa using h0
      clear ex ey hx hy h0
      go_wp2
      go_round
      case rel => exact ⟨f, s, u, v, r % s, x - r / s * u, y - r / s * v, rfl, rfl, rfl, by rw [E.out], rfl, rfl, by omega, by omega, by omega, HX.out, HY.out, Ex.out, Ey.out⟩
      case measure => simp only [intOf]; rw [E.out]; omega

set_option maxHeartbeats 400000 in
theorem s_inverse (a m : Int) (w : World) (ha : 0 ≤ a ∧ a ≤ 1000000000000) (hb : 1 ≤ m ∧ m ≤ 1000000000000) :
    Calls Try.prog 76 #[.int .i64 a, .int .i64 m] w fun e w' => e = .returned (.int .i64 (inv a m)) ∧ w = w' := by
  go_enter Try.func76, Try.ntmps76
  go_wp2_with (first | (go_at_call 89; refine pur (s_Bezout _ _ _ ha hb) ?_) | (go_at_call 73; refine pur (s_mod _ _ _ (by omega) (by omega)) ?_))
  go_ret
  exact ⟨rfl, rfl⟩

set_option maxHeartbeats 400000 in
theorem i_inverse (p n a : Int) (w : World) (h : ringB p n = true) (ha : 0 ≤ a ∧ a ≤ 1000000000000) :
    Calls Try.prog 91 #[(.agg #[.int .i64 p, .int .i64 n]), .int .i64 a] w fun e w' => e = .returned (.int .i64 (inv a (p ^ n.toNat))) ∧ Below w.heap.size w w' := by
  have h2 := (ringB_iff.1 h).2
  have h3 := pow_pos' (show 1 ≤ p by have := smallP_bd (ringB_iff.1 h).1; omega) n.toNat
  have H := hid h
  have hm : 1 ≤ p ^ n.toNat ∧ p ^ n.toNat ≤ 1000000000000 := by omega
  clear h
  go_enter Try.func91, Try.ntmps91
  go_wp2_with (first | (go_at_call 49; refine via (i_modulus _ _ _ H.out) ?_; intro uu zz; try simp at zz) | (go_at_call 97; refine pur (i_Bezout _ _ _ ha hm) ?_) | (go_at_call 67; refine pur (i_mod _ _ _ (by omega) (by omega)) ?_))
  go_ret
  exact ⟨rfl, (by refine Ext.bel ?_; repeat (with_reducible first | exact Ext.refl _ | apply Ext.alloc | apply Ext.aft | apply Ext.drew | apply Ext.drewN | apply Ext.setCell | exact Nat.le_add_right _ _ | exact Nat.le_refl _ | (simp; done) | omega))⟩

/-- The first error of a ring and a residue that has to be a unit. -/
def unitF (p n a : Int) : Int := if ringB p n = true then (if inB a 0 (p ^ n.toNat - 1) = true then (if a % p = 0 then 5 else 0) else 2) else 1
def codeF (p n a : Int) : Int := if ringB p n = true then (if inB a 0 (p ^ n.toNat - 1) = true then 0 else 2) else 1
end Go.Proofs.Ytaninbfcoifedaa
