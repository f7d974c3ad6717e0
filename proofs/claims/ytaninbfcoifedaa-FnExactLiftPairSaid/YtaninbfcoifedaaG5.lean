/- Hensel's condition: both texts, the law. -/
import Derived.Test.YtaninbfcoifedaaG4
import Derived.Test.YtaninbfcoifedaaB6
namespace Go.Proofs.Ytaninbfcoifedaa
open Go Go.RowKit

/-- The exponent of the greatest power of p, up to the modulus, that divides a residue. -/
def partF (p n a : Int) : Nat := if a = 0 then n.toNat else vl a p
theorem partF_le {p n a : Int} (hp : 2 ≤ p) (ha : 0 ≤ a ∧ a ≤ p ^ n.toNat - 1) : p ^ partF p n a ≤ p ^ n.toNat := by
  unfold partF
  split
  · exact Int.le_refl _
  · rename_i h0
    obtain ⟨c, h1, h2, h3⟩ := vl_spec hp h0
    have h4 := pow_pos' (show 1 ≤ p by omega) (vl a p)
    have hc : 1 ≤ c := by
      rcases Int.lt_or_le c 1 with h | h
      · have : c * p ^ vl a p ≤ 0 * p ^ vl a p := Int.mul_le_mul_of_nonneg_right (by omega) (by omega)
        omega
      · exact h
    have h5 : 1 * p ^ vl a p ≤ c * p ^ vl a p := Int.mul_le_mul_of_nonneg_right hc (by omega)
    omega
theorem pow_lt_iff {p : Int} (hp : 2 ≤ p) (a b : Nat) : p ^ a < p ^ b ↔ a < b := by
  constructor
  · intro h
    rcases Nat.lt_or_ge a b with h1 | h1
    · exact h1
    · have := pow_mono (show 1 ≤ p by omega) h1; omega
  · intro h
    have h1 := pow_mono (show 1 ≤ p by omega) (show a + 1 ≤ b from h)
    have h2 := pow_pos' (show 1 ≤ p by omega) a
    rw [Int.pow_succ] at h1
    have h3 : p ^ a * 2 ≤ p ^ a * p := Int.mul_le_mul_of_nonneg_left hp (by omega)
    omega
theorem sq_part {p : Int} (b : Nat) : p ^ b * p ^ b = p ^ (2 * b) := by rw [← Int.pow_add]; congr 1; omega

theorem s_modulusE (p n M : Int) (w : World) (hp : 2 ≤ p) (hp2 : p ≤ 1000000) (hn : -4000000000000000000 ≤ n ∧ n ≤ 4000000000000000000) (hM : modu p n = M) :
    Calls Try.prog 37 #[.int .i64 p, .int .i64 n] w fun e w' => e = .returned (.int .i64 M) ∧ w = w' := by
  subst hM; exact s_modulus p n w hp hp2 hn

/-- Hensel's condition, with its error. -/
def stabF (p n : Int) (xs : List Int) (x : Int) : Bool × Int :=
  if ringedF p n xs x = 0 then (decide (2 * partF p n (valF (p ^ n.toNat) x (derF xs)) < partF p n (valF (p ^ n.toNat) x xs)), 0) else (false, ringedF p n xs x)

end Go.Proofs.Ytaninbfcoifedaa
