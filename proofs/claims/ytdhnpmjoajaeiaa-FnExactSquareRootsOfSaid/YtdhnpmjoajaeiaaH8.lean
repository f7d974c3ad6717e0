/- MultiplyInRing: both texts. -/
import Derived.Test.YtdhnpmjoajaeiaaH7
import Derived.Test.YtdhnpmjoajaeiaaH5
namespace Go.Proofs.Ytdhnpmjoajaeiaa
open Go Go.RowKit

theorem trimN_congr {a b : List Int} : ∀ n : Nat, (∀ j, j < n → a.getD j 0 = b.getD j 0) → trimN a n = trimN b n := by
  intro n
  induction n with
  | zero => intro _; rfl
  | succ n ih =>
    intro h
    simp only [trimN]
    rw [h n (by omega), ih fun j hj => h j (by omega)]
theorem trimN_more (a : List Int) (n : Nat) (h : a.length ≤ n) : trimN a n = trimN a a.length := by
  induction n with
  | zero => rw [show a.length = 0 by omega]
  | succ n ih =>
    rcases Nat.lt_or_ge n a.length with h1 | h1
    · rw [show n + 1 = a.length by omega]
    · simp only [trimN]
      rw [List.getD_eq_getElem?_getD, List.getElem?_eq_none h1]
      simp only [Option.getD_none, if_true]
      exact ih h1
theorem trimN_zero (a : List Int) : ∀ n j : Nat, trimN a n ≤ j → j < n → a.getD j 0 = 0 := by
  intro n
  induction n with
  | zero => intro j _ h; omega
  | succ n ih =>
    intro j h1 h2
    simp only [trimN] at h1
    split at h1
    · rename_i h0
      rcases Nat.lt_or_ge j n with h3 | h3
      · exact ih j h1 h3
      · rw [show j = n by omega]; exact h0
    · omega
theorem trimF_congr {a b : List Int} (h : ∀ j, a.getD j 0 = b.getD j 0) : trimF a = trimF b := by
  have e : trimN a a.length = trimN b b.length := by
    rw [← trimN_more a (max a.length b.length) (by omega), ← trimN_more b (max a.length b.length) (by omega)]
    exact trimN_congr _ fun j _ => h j
  unfold trimF
  have ha := trimN_le a a.length
  have hb := trimN_le b b.length
  rw [← e]
  apply List.ext_getElem
  · simp; omega
  · intro i h1 h2
    simp only [List.getElem_take]
    have hi1 : i < a.length := by simp at h1; omega
    have hi2 : i < b.length := by simp at h2; omega
    rw [← getD_lt hi1, ← getD_lt hi2, h i]
theorem trimF_getD (a : List Int) (j : Nat) : (trimF a).getD j 0 = a.getD j 0 := by
  unfold trimF
  rw [List.getD_eq_getElem?_getD, List.getElem?_take]
  split
  · rw [List.getD_eq_getElem?_getD]
  · rename_i h
    rcases Nat.lt_or_ge j a.length with h1 | h1
    · rw [trimN_zero a a.length j (by omega) h1]; rfl
    · rw [List.getD_eq_getElem?_getD, List.getElem?_eq_none h1]
/-- A product in a ring. -/
def mulR (m : Int) (xs ys : List Int) : List Int := if xs = [] ∨ ys = [] then [] else trimF (modL m (prodS xs ys xs.length))
theorem redF_prod (m : Int) (xs ys : List Int) : redF m (prodF xs ys) = mulR m xs ys := by
  unfold prodF mulR
  split
  · rfl
  · unfold redF
    refine trimF_congr fun j => ?_
    have h1 := modL_getD (m := m) (xs := trimF (prodS xs ys xs.length)) j
    have h2 := modL_getD (m := m) (xs := prodS xs ys xs.length) j
    rw [h2, ← trimF_getD (prodS xs ys xs.length) j]
    exact h1
theorem mulR_len (m : Int) (xs ys : List Int) : (mulR m xs ys).length ≤ xs.length + ys.length := by
  unfold mulR
  split
  · simp
  · have := trimF_len (modL m (prodS xs ys xs.length))
    rw [modL_len, prodS_len] at this
    omega
theorem prodF_len (xs ys : List Int) : (prodF xs ys).length ≤ xs.length + ys.length := by
  unfold prodF
  split
  · simp
  · have := trimF_len (prodS xs ys xs.length)
    rw [prodS_len] at this
    omega
theorem ring_prods {M : Int} {xs ys : List Int} (hM : 1 ≤ M ∧ M ≤ 1000000000) (h1 : ∀ c ∈ xs, 0 ≤ c ∧ c ≤ M - 1) (h2 : ∀ c ∈ ys, 0 ≤ c ∧ c ≤ M - 1) : ∀ c ∈ xs, ∀ d ∈ ys, 0 ≤ c * d ∧ c * d ≤ 1000000000000000000 := by
  intro c hc d hd
  have a := h1 c hc
  have b := h2 d hd
  have e := Int.mul_nonneg a.1 b.1
  have f : c * d ≤ 1000000000 * 1000000000 := Int.mul_le_mul (by omega) (by omega) b.1 (by omega)
  omega

def multiplyInRingF (p n : Int) (xs ys : List Int) : List Int × Int :=
  if inRingB p n xs = true ∧ inRingB p n ys = true then (if (mulR (p ^ n.toNat) xs ys).length ≤ 9 then (mulR (p ^ n.toNat) xs ys, 0) else ([], 3)) else ([], 1)
theorem inRing_M {p n : Int} {xs : List Int} (h : inRingB p n xs = true) : (2 ≤ p ∧ p ≤ 97) ∧ (1 ≤ n ∧ n ≤ 40) ∧ 1 ≤ p ^ n.toNat ∧ p ^ n.toNat ≤ 1000000000 := by
  have a := ringB_iff.1 (inRing_facts h).1
  have hp := smallP_bd a.1
  exact ⟨hp, ⟨a.2.1, a.2.2.1⟩, pow_pos' (show 1 ≤ p by omega) n.toNat, a.2.2.2⟩

theorem own_len {B : Nat} {w : World} {v : Value} {xs : List Int} (h : ownR B w v xs) : ∃ a cap, v = .slice a xs.length cap := by
  obtain ⟨a, cap, e, _, _⟩ := h.rd
  exact ⟨a, cap, e⟩

end Go.Proofs.Ytdhnpmjoajaeiaa
