/- Plain arithmetic: the number of which some digits are known; sums. -/
import Derived.Test.YtdnfefkkbckmgaaGreatDoorA9
namespace Go.Proofs.YtdnfefkkbckmgaaGreatDoor

/-- r, at least 0 and less than p to the power of c, from the place v on. -/
def knownF (p v r c : Int) : Pd := if r = 0 then ⟨p, v + c, 0, 0⟩ else ⟨p, v + vl r p, r / p ^ vl r p, c - vl r p⟩
/-- p to the power of v times n, of which the digits below an end are known. -/
def makeF (p v n e : Int) : Pd := if e ≤ v then ⟨p, e, 0, 0⟩ else knownF p v (n % p ^ (e - v).toNat) (e - v)
/-- A sum. -/
def addF (p v u n v2 u2 n2 : Int) : Pd := makeF p (min v v2) (u * p ^ (v - min v v2).toNat + u2 * p ^ (v2 - min v v2).toNat) (min (v + n) (v2 + n2))

theorem vl_lt {p r : Int} {c : Nat} (hp : 2 ≤ p) (hr : 0 < r) (h : r < p ^ c) : vl r p < c := by
  obtain ⟨d, h1, h2, h3⟩ := vl_spec hp (show r ≠ 0 by omega)
  rcases Nat.lt_or_ge (vl r p) c with h4 | h4
  · exact h4
  · have h5 := pow_mono (show 1 ≤ p by omega) h4
    have h6 := pow_pos' (show 1 ≤ p by omega) (vl r p)
    have h7 : 1 ≤ d := by
      rcases Int.lt_or_le d 1 with h | h
      · have : d * p ^ vl r p ≤ 0 * p ^ vl r p := Int.mul_le_mul_of_nonneg_right (by omega) (by omega)
        omega
      · exact h
    have h8 : 1 * p ^ vl r p ≤ d * p ^ vl r p := Int.mul_le_mul_of_nonneg_right h7 (by omega)
    omega

theorem pow_split {p : Int} {a b : Nat} (h : a ≤ b) : p ^ b = p ^ a * p ^ (b - a) := by
  rw [← Int.pow_add]; congr 1; omega
theorem mul_pow_mod {p a : Int} (hp : 2 ≤ p) {s c : Nat} (h : s ≤ c) : (a % p ^ (c - s)) * p ^ s % p ^ c = a * p ^ s % p ^ c := by
  have h1 := pow_pos' (show 1 ≤ p by omega) s
  rw [pow_split h, Int.mul_comm _ (p ^ s), Int.mul_comm a, Int.mul_emod_mul_of_pos _ _ (by omega), Int.mul_emod_mul_of_pos _ _ (by omega), Int.emod_emod]
theorem mul_pow_zero {p a : Int} {s c : Nat} (h : c ≤ s) : a * p ^ s % p ^ c = 0 := by
  rw [pow_split h, Int.mul_left_comm, Int.mul_emod_right]
theorem mod_mul_mod {a b m : Int} : a % m * b % m = a * b % m := by
  rw [Int.mul_emod, Int.emod_emod, ← Int.mul_emod]
theorem mod_add_mod {a b m : Int} : (a % m + b % m) % m = (a + b) % m := by rw [← Int.add_emod]
theorem addF_comm (p v u n v2 u2 n2 : Int) : addF p v u n v2 u2 n2 = addF p v2 u2 n2 v u n := by
  unfold addF; rw [Int.min_comm v2 v, Int.min_comm (v2 + n2), Int.add_comm (u2 * _)]
/-- The sum, where the first number begins first. -/
theorem addF_le {p v u n v2 u2 n2 : Int} (h : v ≤ v2) : addF p v u n v2 u2 n2 = makeF p v (u + u2 * p ^ (v2 - v).toNat) (min (v + n) (v2 + n2)) := by
  unfold addF; rw [Int.min_eq_left h, Int.sub_self]; simp
theorem makeF_mod {p v n m e : Int} (h : n % p ^ (e - v).toNat = m % p ^ (e - v).toNat) : makeF p v n e = makeF p v m e := by
  unfold makeF; rw [h]
end Go.Proofs.YtdnfefkkbckmgaaGreatDoor
