/- Plain arithmetic: the number with a number's last digits. -/
import Derived.Test.YtdnfefkkbckmgaaGreatDoorE7
import Derived.Test.YtdnfefkkbckmgaaGreatDoorE6
namespace Go.Proofs.YtdnfefkkbckmgaaGreatDoor

theorem mod_mul' {a p P : Int} (hp : 1 ≤ p) (hP : 1 ≤ P) : a % (p * P) = p * (a / p % P) + a % p := by
  have h1 := Int.mul_ediv_add_emod a p
  have h2 := Int.mul_ediv_add_emod (a / p) P
  have h3 := Int.emod_nonneg a (show p ≠ 0 by omega)
  have h4 := Int.emod_lt_of_pos a (show 0 < p by omega)
  have h5 := Int.emod_nonneg (a / p) (show P ≠ 0 by omega)
  have h6 := Int.emod_lt_of_pos (a / p) (show 0 < P by omega)
  have h7 := Int.mul_nonneg (show 0 ≤ p by omega) h5
  have h8 : p * (a / p % P) ≤ p * (P - 1) := Int.mul_le_mul_of_nonneg_left (by omega) (by omega)
  rw [Int.mul_sub, Int.mul_one] at h8
  have e : a = (p * (a / p % P) + a % p) + p * P * (a / p / P) := by
    have : p * (a / p) = p * P * (a / p / P) + p * (a / p % P) := by
      rw [← h2, Int.mul_add, Int.mul_assoc]
      rw [h2]
    omega
  have e2 : a % (p * P) = ((p * (a / p % P) + a % p) + p * P * (a / p / P)) % (p * P) := by rw [← e]
  rw [e2, Int.add_mul_emod_self_left, Int.emod_eq_of_lt (by omega) (by omega)]

theorem dval_range {p u : Int} (hp : 2 ≤ p) : ∀ (m s : Nat), dval p ((List.range' s m).map (digF p u)) = u / p ^ s % p ^ m := by
  intro m
  induction m with
  | zero => intro s; simp [dval, Int.emod_one]
  | succ m ih =>
    intro s
    have h1 := pow_pos' (show 1 ≤ p by omega) m
    have h2 := pow_pos' (show 1 ≤ p by omega) s
    rw [List.range'_succ, List.map_cons]
    show p * dval p ((List.range' (s + 1) m).map (digF p u)) + digF p u s = _
    rw [ih (s + 1), Int.pow_succ p m, Int.mul_comm (p ^ m) p, mod_mul' (by omega) h1, Int.pow_succ, Int.ediv_ediv_of_nonneg (by omega)]
    rfl
theorem dval_digs {p u : Int} (hp : 2 ≤ p) {s k : Nat} : dval p ((digs p u k).drop s) = u / p ^ s % p ^ (k - s) := by
  unfold digs
  rw [← List.map_drop, List.range_eq_range', List.drop_range']
  simpa using dval_range (u := u) hp (k - s) (0 + 1 * s)
theorem whole_known {p v u n : Int} (hp : 2 ≤ p) (hv : v < 0) (he : 0 ≤ v + n) : wholeF p v u n = knownF p 0 (dval p ((digs p u n.toNat).drop (-v).toNat)) (v + n) := by
  unfold wholeF makeF
  rw [if_neg (by omega), dval_digs hp, show n.toNat - (-v).toNat = (v + n - 0).toNat by omega]
  split
  · rw [show (v + n - 0).toNat = 0 by omega]
    simp [knownF, Int.emod_one]
  · rw [Int.sub_zero]
end Go.Proofs.YtdnfefkkbckmgaaGreatDoor
