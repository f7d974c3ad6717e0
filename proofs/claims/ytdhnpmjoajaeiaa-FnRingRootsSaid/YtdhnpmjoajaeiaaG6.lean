/- One step of Newton: both texts, the law. -/
import Derived.Test.YtdhnpmjoajaeiaaG5
namespace Go.Proofs.Ytdhnpmjoajaeiaa
open Go Go.RowKit

theorem valF_mod {p M x : Int} (hd : p ∣ M) : ∀ xs : List Int, valF p x xs = valF M x xs % p := by
  intro xs
  induction xs with
  | nil => simp [valF]
  | cons c r ih =>
    simp only [valF]
    rw [ih, Int.emod_emod_of_dvd _ hd, Int.add_emod, Int.mul_emod, Int.emod_emod, ← Int.mul_emod, ← Int.add_emod]
theorem inv_bd {a m : Int} (hm : 1 ≤ m) : 0 ≤ inv a m ∧ inv a m ≤ m - 1 := by
  unfold inv
  exact ⟨Int.emod_nonneg _ (by omega), by have := Int.emod_lt_of_pos (bx (m.toNat + 1) a 1 m 0) (show 0 < m by omega); omega⟩
theorem dvd_pow {p : Int} {k : Nat} (h : 1 ≤ k) : p ∣ p ^ k := by
  obtain ⟨j, rfl⟩ : ∃ j, k = j + 1 := ⟨k - 1, by omega⟩
  exact ⟨p ^ j, by rw [Int.pow_succ, Int.mul_comm]⟩
theorem prod_fits {a b x : Int} (ha : 0 ≤ a ∧ a ≤ 1000000000) (hb : 0 ≤ b ∧ b ≤ 1000000000) (hx : 0 ≤ x ∧ x ≤ 1000000000) : 0 ≤ a * b ∧ a * b ≤ 1000000000000000000 ∧ -1000000000000000000 ≤ x - a * b ∧ x - a * b ≤ 1000000000 := by
  have h1 := Int.mul_nonneg ha.1 hb.1
  have h2 : a * b ≤ 1000000000 * 1000000000 := Int.mul_le_mul ha.2 hb.2 hb.1 (by omega)
  omega

/-- The residue after a step. -/
def stepF (m : Int) (xs : List Int) (x : Int) : Int := (x - valF m x xs * inv (valF m x (derF xs)) m) % m
def newtF (p n : Int) (xs : List Int) (x : Int) : Int × Int :=
  if ringedF p n xs x = 0 then (if valF (p ^ n.toNat) x (derF xs) % p = 0 then (0, 5) else (stepF (p ^ n.toNat) xs x, 0)) else (0, ringedF p n xs x)

end Go.Proofs.Ytdhnpmjoajaeiaa
