/- Plain arithmetic: Bezout's numbers. -/
import Derived.Test.YtdeehgcabnoclaaMA
namespace Go.Proofs.Ytdeehgcabnoclaa

/-- The first of Bezout's numbers, by the division steps. -/
def bx : Nat → Int → Int → Int → Int → Int
  | 0, _, x, _, _ => x
  | f + 1, r, x, s, u => if s = 0 then x else bx f s u (r % s) (x - r / s * u)

theorem bx_fuel : ∀ (f g : Nat) (r x s u : Int), 0 ≤ s → s.toNat < f → s.toNat < g → bx f r x s u = bx g r x s u := by
  intro f
  induction f with
  | zero => intro g r x s u _ h; omega
  | succ f ih =>
    intro g r x s u hs hf hg
    cases g with
    | zero => omega
    | succ g =>
      unfold bx
      by_cases h : s = 0
      · rw [if_pos h, if_pos h]
      · have h1 := Int.emod_nonneg r h
        have h2 := Int.emod_lt_of_pos r (show 0 < s by omega)
        rw [if_neg h, if_neg h, ih g _ _ _ _ h1 (by omega) (by omega)]

theorem bx_zero (f : Nat) (r x u : Int) : bx (f + 1) r x 0 u = x := by unfold bx; rw [if_pos rfl]
theorem bx_step (f : Nat) (r x s u : Int) (h : s ≠ 0) : bx (f + 1) r x s u = bx f s u (r % s) (x - r / s * u) := by
  conv => lhs; unfold bx
  rw [if_neg h]
/-- x and u have opposite signs, and x s and u r add up to b. -/
def Lin (b r x s u : Int) : Prop := ∃ X U g : Int, (g = 1 ∨ g = -1) ∧ 0 ≤ X ∧ 0 ≤ U ∧ x = g * X ∧ u = -(g * U) ∧ X * s + U * r = b
theorem Lin.step {b r x s u : Int} (h : Lin b r x s u) (hr : 0 ≤ r) (hs : 0 < s) : Lin b s u (r % s) (x - r / s * u) := by
  obtain ⟨X, U, g, hg, hX, hU, rfl, rfl, hb⟩ := h
  have hq : 0 ≤ r / s := Int.ediv_nonneg hr (by omega)
  refine ⟨U, X + r / s * U, -g, by omega, hU, ?_, ?_, ?_, ?_⟩
  · have := Int.mul_nonneg hq hU; omega
  · rw [Int.neg_mul]
  · rw [Int.neg_mul, Int.neg_neg, Int.mul_add, Int.mul_neg, Int.sub_neg, Int.mul_left_comm]
  · have e : r = r % s + s * (r / s) := by have := Int.emod_add_mul_ediv r s; omega
    rw [← hb]
    have : U * r = U * (r % s) + U * (s * (r / s)) := by rw [← Int.mul_add, ← e]
    rw [this, Int.add_mul]
    have : r / s * U * s = U * (s * (r / s)) := by rw [Int.mul_comm (r / s) U, Int.mul_assoc, Int.mul_comm (r / s) s]
    omega
theorem Lin.bd {b r x s u : Int} (h : Lin b r x s u) (hr : 0 ≤ r) (hs : 0 < s) : -b ≤ x ∧ x ≤ b := by
  obtain ⟨X, U, g, hg, hX, hU, rfl, rfl, hb⟩ := h
  have h1 := Int.mul_nonneg hU hr
  have h2 : X * 1 ≤ X * s := Int.mul_le_mul_of_nonneg_left (by omega) hX
  rcases hg with rfl | rfl
  · rw [Int.one_mul]; omega
  · rw [Int.neg_mul, Int.one_mul]; omega
theorem Lin.bd2 {b r x s u : Int} (h : Lin b r x s u) (hr : 0 < r) (hs : 0 ≤ s) : -b ≤ u ∧ u ≤ b := by
  obtain ⟨X, U, g, hg, hX, hU, rfl, rfl, hb⟩ := h
  have h1 := Int.mul_nonneg hX hs
  have h2 : U * 1 ≤ U * r := Int.mul_le_mul_of_nonneg_left (by omega) hU
  rcases hg with rfl | rfl
  · rw [Int.one_mul]; omega
  · rw [Int.neg_mul, Int.one_mul]; omega
theorem Lin.x0 (a b : Int) : Lin b a 1 b 0 := ⟨1, 0, 1, .inl rfl, by omega, by omega, by omega, by omega, by omega⟩
theorem Lin.y0 (a b : Int) : Lin a a 0 b 1 := ⟨0, 1, -1, .inr rfl, by omega, by omega, by omega, by omega, by omega⟩
/-- What the round computes fits. -/
theorem Lin.fits {b r x s u : Int} (h : Lin b r x s u) (hr : 0 ≤ r) (hs : 0 < s) (hb : b ≤ 1000000000000) :
    -2000000000000 ≤ r / s * u ∧ r / s * u ≤ 2000000000000 ∧ -1000000000000 ≤ x - r / s * u ∧ x - r / s * u ≤ 1000000000000 := by
  have h1 := h.bd hr hs
  have h2 := (h.step hr hs).bd2 hs (Int.emod_nonneg _ (by omega))
  omega
/-- The inverse of a by m, where there is one. -/
def inv (a m : Int) : Int := bx (m.toNat + 1) a 1 m 0 % m
end Go.Proofs.Ytdeehgcabnoclaa
