/- Powers by a modulus: both texts. -/
import Derived.Test.YtflmoopiajhadaaC3
import Derived.Laws.Bits128
namespace Go.Proofs.Ytflmoopiajhadaa
open Go Go.RowKit

theorem and_one_i64 (n : Int) : bits BinOp.and IntKind.i64 n 1 = n % 2 := by
  have h1 : (BitVec.ofInt 64 1).toNat = 2 ^ 1 - 1 := by decide
  have key : (BitVec.ofInt 64 n &&& BitVec.ofInt 64 1).toNat = (n % ((2 ^ 64 : Nat) : Int)).toNat % 2 ^ 1 := by
    rw [BitVec.toNat_and, BitVec.toNat_ofInt, h1, Nat.and_two_pow_sub_one_eq_mod]
  show IntKind.i64.wrap ((BitVec.ofInt 64 n &&& BitVec.ofInt 64 1).toNat : Nat) = n % 2
  rw [key, IntKind.wrap_i64]
  omega
attribute [go_sem] and_one_i64

def pwF : Nat → Int → Int → Int → Int → Int
  | 0, out, _, _, _ => out
  | f + 1, out, a, e, m => if e ≤ 0 then out else pwF f (if e % 2 = 1 then out * a % m else out) (a * a % m) (e / 2) m
/-- a to the power of e by m. -/
def powF (a e m : Int) : Int := pwF 60 1 (a % m) e m
theorem pwF_0 (f : Nat) (out a e m : Int) (h : e ≤ 0) : pwF f out a e m = out := by
  cases f with
  | zero => rfl
  | succ f => simp [pwF, h]
theorem sqm_bd {m a b : Int} (hm : m ≤ 1000000000) (ha : 0 ≤ a ∧ a ≤ m - 1) (hb : 0 ≤ b ∧ b ≤ m - 1) : 0 ≤ a * b ∧ a * b ≤ 1000000000000000000 := by
  refine ⟨Int.mul_nonneg ha.1 hb.1, ?_⟩
  have : a * b ≤ 1000000000 * 1000000000 := Int.mul_le_mul (by omega) (by omega) (by omega) (by omega)
  omega
theorem pwF_bd {m : Int} (hm : 2 ≤ m) : ∀ (f : Nat) (out a e : Int), 0 ≤ out ∧ out ≤ m - 1 → 0 ≤ pwF f out a e m ∧ pwF f out a e m ≤ m - 1 := by
  intro f
  induction f with
  | zero => intro out a e h; exact h
  | succ f ih =>
    intro out a e h
    unfold pwF
    split
    · exact h
    · refine ih _ _ _ ?_
      split
      · have := Int.emod_nonneg (out * a) (show m ≠ 0 by omega)
        have := Int.emod_lt_of_pos (out * a) (show 0 < m by omega)
        omega
      · exact h

end Go.Proofs.Ytflmoopiajhadaa
