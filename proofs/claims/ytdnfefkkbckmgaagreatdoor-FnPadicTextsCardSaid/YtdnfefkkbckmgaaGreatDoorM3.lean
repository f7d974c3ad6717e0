/- Plain arithmetic: squares by a prime. -/
import Derived.Test.YtdnfefkkbckmgaaGreatDoorMA
namespace Go.Proofs.YtdnfefkkbckmgaaGreatDoor

def hitB (p a : Int) (x : Nat) : Bool := decide (1 ≤ x) && (((x : Int) * x - a) % p == 0)
/-- 0, 1 or -1: p divides a, a is a square by p, or none. -/
def sqF (p a : Int) : Int := if a % p = 0 then 0 else if (List.range p.toNat).any (hitB p a) = true then 1 else -1
theorem sqF_0 {p a : Int} (h : a % p = 0) : sqF p a = 0 := by unfold sqF; rw [if_pos h]
theorem sqF_1 {p a : Int} {x : Nat} (h0 : ¬ a % p = 0) (hx : 1 ≤ x) (hxp : (x : Int) < p) (h : ((x : Int) * x - a) % p = 0) : sqF p a = 1 := by
  unfold sqF
  rw [if_neg h0, if_pos]
  rw [List.any_eq_true]
  exact ⟨x, List.mem_range.2 (by omega), by simp [hitB, hx, h]⟩
theorem sqF_m {p a : Int} (h0 : ¬ a % p = 0) (h : ∀ x : Nat, 1 ≤ x → (x : Int) < p → ¬ ((x : Int) * x - a) % p = 0) : sqF p a = -1 := by
  unfold sqF
  rw [if_neg h0, if_neg]
  intro hc
  rw [List.any_eq_true] at hc
  obtain ⟨x, hx, hh⟩ := hc
  have hx' := List.mem_range.1 hx
  simp [hitB] at hh
  exact h x hh.1 (by omega) hh.2
theorem mod_sub_iff {a b p : Int} : a % p = b % p ↔ (a - b) % p = 0 := Int.emod_eq_emod_iff_emod_sub_eq_zero
theorem sqF_mod {p a : Int} : sqF p (a % p) = sqF p a := by
  unfold sqF
  have e : ∀ x, hitB p (a % p) x = hitB p a x := by
    intro x
    unfold hitB
    rw [Int.sub_emod, Int.emod_emod_of_dvd _ (Int.dvd_refl p), ← Int.sub_emod]
  rw [Int.emod_emod_of_dvd _ (Int.dvd_refl p), funext e]
theorem sqF_bd (p a : Int) : sqF p a = 0 ∨ sqF p a = 1 ∨ sqF p a = -1 := by
  unfold sqF; split
  · simp
  · split <;> simp
/-- Whether n, other than 0, is a square of a p-adic number. -/
def sqrB (p n : Int) : Bool := decide (vl n p % 2 = 0) && (if p = 2 then n / p ^ vl n p % 8 == 1 else sqF p (n / p ^ vl n p) == 1)
theorem vl_unit {p n : Int} (hp : 2 ≤ p) (h : ¬ n % p = 0) : vl n p = 0 := vl_eq hp (k := 0) (c := n) (by simp) h
theorem sqrB_unit {p n : Int} (hp : 2 ≤ p) (h : ¬ n % p = 0) : sqrB p n = (if p = 2 then n % 8 == 1 else sqF p n == 1) := by
  unfold sqrB; rw [vl_unit hp h]; simp
theorem vl_pow_bd {p n : Int} (hp : 2 ≤ p) (hn : n ≠ 0) : p ^ vl n p ≤ n.natAbs ∧ (n / p ^ vl n p).natAbs ≤ n.natAbs ∧ n.tdiv (p ^ vl n p) = n / p ^ vl n p ∧ n / p ^ vl n p ≠ 0 ∧ ¬ (n / p ^ vl n p) % p = 0 := by
  obtain ⟨c, h1, h2, h3⟩ := vl_spec hp hn
  have h4 := pow_pos' (show 1 ≤ p by omega) (vl n p)
  have h5 : c ≠ 0 := fun h => h2 (by rw [h]; simp)
  have h6 : n.natAbs = c.natAbs * (p ^ vl n p).natAbs := by rw [← Int.natAbs_mul, ← h1]
  have h7 := Nat.mul_le_mul (show 1 ≤ c.natAbs by omega) (Nat.le_refl (p ^ vl n p).natAbs)
  have h8 := Nat.mul_le_mul (Nat.le_refl c.natAbs) (show 1 ≤ (p ^ vl n p).natAbs by omega)
  refine ⟨by omega, by rw [h3]; omega, ?_, by rw [h3]; exact h5, by rw [h3]; exact h2⟩
  exact Int.tdiv_eq_ediv_of_dvd ⟨c, by rw [Int.mul_comm]; exact h1⟩
end Go.Proofs.YtdnfefkkbckmgaaGreatDoor
