/- A small fraction with a remainder: plain. -/
import Derived.Test.YtehdkbopkkgabaaB0
namespace Go.Proofs.Ytehdkbopkkgabaa
open Go Go.RowKit

/-- What the remainders' rows keep. -/
structure RecInv (m x B e r s T U : Int) : Prop where
  sgn : e = 1 ∨ e = -1
  det : r * U + s * T = m
  u1 : 1 ≤ U
  t0 : 0 ≤ T
  s0 : 0 ≤ s
  sr : s < r
  rB : B < r
  c1 : m ∣ r + e * (x * T)
  c2 : m ∣ s - e * (x * U)

theorem RecInv.start {m x B : Int} (hm : B < m) (hx : 0 ≤ x ∧ x < m) : RecInv m x B 1 m x 0 1 :=
  ⟨.inl rfl, by omega, by omega, by omega, hx.1, hx.2, hm, by simp, by simp⟩
theorem RecInv.step {m x B e r s T U : Int} (h : RecInv m x B e r s T U) (hs : B < s) (hB : 0 ≤ B) : RecInv m x B (-e) s (r - (r / s) * s) U (T + (r / s) * U) := by
  have hp : 0 < s := by omega
  have hr : r - (r / s) * s = r % s := by rw [Int.emod_def, Int.mul_comm]
  have h1 := Int.emod_nonneg r (show s ≠ 0 by omega)
  have h2 := Int.emod_lt_of_pos r hp
  have hq : 1 ≤ r / s := Int.le_ediv_of_mul_le hp (by have := h.sr; omega)
  refine ⟨by rcases h.sgn with e | e <;> subst e <;> simp, ?_, ?_, by have := h.u1; omega, by omega, by omega, hs, ?_, ?_⟩
  · have e1 : s * (T + r / s * U) + (r - r / s * s) * U = r * U + s * T := by
      rw [Int.mul_add, Int.sub_mul, ← Int.mul_assoc s, Int.mul_comm s (r / s)]; omega
    rw [e1, h.det]
  · have := Int.mul_le_mul hq h.u1 (by omega) (by omega)
    have := h.t0
    omega
  · have e1 : s + -e * (x * U) = s - e * (x * U) := by rw [Int.neg_mul]; omega
    rw [e1]; exact h.c2
  · have e1 : r - r / s * s - -e * (x * (T + r / s * U)) = (r + e * (x * T)) - r / s * (s - e * (x * U)) := by
      have a1 : e * (x * (r / s * U)) = r / s * (e * (x * U)) := by
        rw [Int.mul_left_comm x, Int.mul_left_comm e]
      have a2 : e * (x * (T + r / s * U)) = e * (x * T) + e * (x * (r / s * U)) := by rw [Int.mul_add, Int.mul_add]
      rw [Int.neg_mul, Int.mul_sub, a2, a1]
      omega
    rw [e1]
    exact Int.dvd_sub h.c1 (Int.dvd_mul_of_dvd_right h.c2)

/-- A pair that has the remainder is a multiple of the row. -/
theorem RecInv.uniq {m x B e r s T U n d : Int} (h : RecInv m x B e r s T U) (hs : s ≤ B) (hB : 2 * (B * B) < m) (hn : -B ≤ n ∧ n ≤ B) (hd : 1 ≤ d ∧ d ≤ B) (hc : m ∣ n - x * d) :
    ∃ b, 1 ≤ b ∧ e * n = b * s ∧ d = b * U := by
  have hm : 0 < m := by have := Int.mul_nonneg (show 0 ≤ B by omega) (show 0 ≤ B by omega); omega
  obtain ⟨N, hN⟩ : ∃ N, N = e * n := ⟨_, rfl⟩
  have hNB : -B ≤ N ∧ N ≤ B := by
    rcases h.sgn with e1 | e1 <;> subst e1 <;> simp at hN <;> omega
  have hcN : m ∣ N - e * (x * d) := by
    have : N - e * (x * d) = e * (n - x * d) := by rw [hN, Int.mul_sub]
    rw [this]; exact Int.dvd_mul_of_dvd_right hc
  have ha : m ∣ N * U - s * d := by
    have e1 : N * U - s * d = U * (N - e * (x * d)) - d * (s - e * (x * U)) := by
      have a1 : U * (e * (x * d)) = d * (e * (x * U)) := by
        rw [Int.mul_left_comm U e, Int.mul_left_comm U x, Int.mul_comm U d, Int.mul_left_comm x d, Int.mul_left_comm e d]
      rw [Int.mul_sub, Int.mul_sub, a1, Int.mul_comm U N, Int.mul_comm d s]
      omega
    rw [e1]
    exact Int.dvd_sub (Int.dvd_mul_of_dvd_right hcN) (Int.dvd_mul_of_dvd_right h.c2)
  have hb : m ∣ r * d + N * T := by
    have e1 : r * d + N * T = d * (r + e * (x * T)) + T * (N - e * (x * d)) := by
      have a1 : T * (e * (x * d)) = d * (e * (x * T)) := by
        rw [Int.mul_left_comm T e, Int.mul_left_comm T x, Int.mul_comm T d, Int.mul_left_comm x d, Int.mul_left_comm e d]
      rw [Int.mul_add, Int.mul_sub, a1, Int.mul_comm T N, Int.mul_comm d r]
      omega
    rw [e1]
    exact Int.dvd_add (Int.dvd_mul_of_dvd_right h.c1) (Int.dvd_mul_of_dvd_right hcN)
  obtain ⟨a, ha⟩ := ha
  obtain ⟨b, hb⟩ := hb
  have e1 : N = a * r + b * s := by
    have : m * N = m * (a * r + b * s) := by
      have q1 : m * N = r * (N * U) + s * (N * T) := by rw [← h.det, Int.add_mul]; rw [Int.mul_assoc, Int.mul_assoc, Int.mul_comm U N, Int.mul_comm T N]
      have q2 : N * U = m * a + s * d := by omega
      have q3 : N * T = m * b - r * d := by omega
      rw [q1, q2, q3, Int.mul_add, Int.mul_add, Int.mul_sub, Int.mul_left_comm r m, Int.mul_left_comm s m, Int.mul_comm r a, Int.mul_comm s b, Int.mul_left_comm r s]
      omega
    exact Int.eq_of_mul_eq_mul_left (by omega) this
  have e2 : d = b * U - a * T := by
    have : m * d = m * (b * U - a * T) := by
      have q1 : m * d = U * (r * d) + T * (s * d) := by rw [← h.det, Int.add_mul, Int.mul_comm r U, Int.mul_comm s T, Int.mul_assoc, Int.mul_assoc]
      have q2 : r * d = m * b - N * T := by omega
      have q3 : s * d = N * U - m * a := by omega
      rw [q1, q2, q3, Int.mul_sub, Int.mul_sub, Int.mul_sub, Int.mul_left_comm U m, Int.mul_left_comm T m, Int.mul_comm U b, Int.mul_comm T a, Int.mul_left_comm U N, Int.mul_comm U T, Int.mul_left_comm T N]
      omega
    exact Int.eq_of_mul_eq_mul_left (by omega) this
  have hu := h.u1
  have ht := h.t0
  have hs0 := h.s0
  have hrB := h.rB
  have a0 : a = 0 := by
    rcases Int.lt_trichotomy a 0 with hneg | h0 | hpos
    · exfalso
      have har : a * r ≤ -1 * r := Int.mul_le_mul_of_nonneg_right (by omega) (by omega)
      have hbs : 0 < b * s := by omega
      have hb1 : 1 ≤ b := by
        rcases Int.lt_or_le b 1 with hb' | hb'
        · have := Int.mul_le_mul_of_nonneg_right (show b ≤ 0 by omega) hs0; omega
        · exact hb'
      have hbU : 1 * U ≤ b * U := Int.mul_le_mul_of_nonneg_right hb1 (by omega)
      have haT : a * T ≤ 0 * T := Int.mul_le_mul_of_nonneg_right (by omega) ht
      have hUB : U ≤ B := by omega
      have q1 : s * d ≤ B * B := Int.mul_le_mul hs hd.2 (by omega) (by omega)
      have q2 : -B * U ≤ N * U := Int.mul_le_mul_of_nonneg_right hNB.1 (by omega)
      have q3 : B * U ≤ B * B := Int.mul_le_mul_of_nonneg_left hUB (by omega)
      have q4 : m * a ≤ m * (-1) := Int.mul_le_mul_of_nonneg_left (by omega) (by omega)
      rw [Int.neg_mul] at q2
      omega
    · exact h0
    · exfalso
      have har : 1 * r ≤ a * r := Int.mul_le_mul_of_nonneg_right (by omega) (by omega)
      have hbs : b * s < 0 := by omega
      have hb1 : b ≤ -1 := by
        rcases Int.lt_or_le b 0 with hb' | hb'
        · omega
        · have := Int.mul_nonneg hb' hs0; omega
      have hbU : b * U ≤ -1 * U := Int.mul_le_mul_of_nonneg_right hb1 (by omega)
      have haT : 0 * T ≤ a * T := Int.mul_le_mul_of_nonneg_right (by omega) ht
      omega
  subst a0
  refine ⟨b, ?_, by rw [← hN]; omega, by omega⟩
  rcases Int.lt_or_le b 1 with hb' | hb'
  · have := Int.mul_le_mul_of_nonneg_right (show b ≤ 0 by omega) (show 0 ≤ U by omega); omega
  · exact hb'

/-- The remainders' rows, down to a number of at most B. -/
def recG : Nat → Int → Int → Int → Int → Int → Int × Int
  | 0, _, _, s, _, u => (s, u)
  | f + 1, B, r, s, t, u => if s ≤ B then (s, u) else recG f B s (r - r / s * s) u (t - r / s * u)
theorem recG_inv {m x B : Int} (hB : 0 ≤ B) : ∀ (f : Nat) (e r s T U : Int), RecInv m x B e r s T U → s.toNat < f + 1 →
    ∃ e' r' s' T' U', RecInv m x B e' r' s' T' U' ∧ s' ≤ B ∧ recG f B r s (-e * T) (e * U) = (s', e' * U') := by
  intro f
  induction f with
  | zero => intro e r s T U h hf; exact ⟨e, r, s, T, U, h, by omega, rfl⟩
  | succ f ih =>
    intro e r s T U h hf
    unfold recG
    by_cases hs : s ≤ B
    · rw [if_pos hs]; exact ⟨e, r, s, T, U, h, hs, rfl⟩
    · rw [if_neg hs]
      have hr : r - (r / s) * s = r % s := by rw [Int.emod_def, Int.mul_comm]
      have h2 := Int.emod_lt_of_pos r (show 0 < s by omega)
      have h1 := Int.emod_nonneg r (show s ≠ 0 by omega)
      have := ih (-e) s (r - r / s * s) U (T + r / s * U) (h.step (by omega) hB) (by omega)
      have e1 : -e * T - r / s * (e * U) = -e * (T + r / s * U) := by
        rw [Int.mul_add, Int.neg_mul, Int.neg_mul, Int.mul_left_comm (r / s)]; omega
      have e2 : - -e * U = e * U := by rw [Int.neg_neg]
      rw [e2] at this
      rw [e1]
      exact this

/-- The balanced remainder. -/
def balF (x d m : Int) : Int := if 2 * (x * d % m) > m then x * d % m - m else x * d % m
theorem bal_dvd (x d m : Int) : m ∣ balF x d m - x * d := by
  unfold balF
  have e : x * d % m - x * d = -(m * (x * d / m)) := by rw [Int.emod_def]; omega
  split
  · rw [show x * d % m - m - x * d = -(m * (x * d / m)) - m by omega]
    exact Int.dvd_sub (Int.dvd_neg.2 (Int.dvd_mul_right _ _)) (Int.dvd_refl _)
  · rw [e]; exact Int.dvd_neg.2 (Int.dvd_mul_right _ _)
theorem bal_eq {x d m n : Int} (hm : 0 < m) (h : m ∣ n - x * d) (hn : -m < 2 * n ∧ 2 * n < m) : balF x d m = n := by
  obtain ⟨k, hk⟩ := h
  have e : x * d % m = n % m := by
    rw [show x * d = n + m * (-k) by rw [Int.mul_neg]; omega, Int.add_mul_emod_self_left]
  unfold balF
  rw [e]
  rcases Int.lt_or_le n 0 with h0 | h0
  · have : n % m = n + m := by
      rw [← Int.add_emod_right]
      exact Int.emod_eq_of_lt (by omega) (by omega)
    rw [this, if_pos (by omega)]; omega
  · have : n % m = n := Int.emod_eq_of_lt h0 (by omega)
    rw [this, if_neg (by omega)]

/-- What is asked of a denominator. -/
def goodD (p x m B d : Int) : Bool := decide (-B ≤ balF x d m) && decide (balF x d m ≤ B) && decide (Int.gcd (balF x d m) d = 1) && !decide (d % p = 0)
/-- What the program's way finds. -/
def candF (x m B : Int) : Int × Int := let z := recG (x.toNat + 1) B m x 0 1; if z.2 < 0 then (-z.1, -z.2) else z
def candOk (x m B : Int) : Bool := !decide ((candF x m B).1 = 0) && decide (1 ≤ (candF x m B).2) && decide ((candF x m B).2 ≤ B) && decide (Int.gcd (candF x m B).1 (candF x m B).2 = 1)

theorem cand_row {x m B : Int} (hB : 0 ≤ B) (hBm : B < m) (hx : 0 ≤ x ∧ x < m) : ∃ e r s T U, RecInv m x B e r s T U ∧ s ≤ B ∧ candF x m B = (e * s, U) := by
  obtain ⟨e, r, s, T, U, h, hs, he⟩ := recG_inv hB (x.toNat + 1) 1 m x 0 1 (RecInv.start hBm hx) (by omega)
  refine ⟨e, r, s, T, U, h, hs, ?_⟩
  have hu := h.u1
  have he' : recG (x.toNat + 1) B m x 0 1 = (s, e * U) := by simpa using he
  unfold candF
  rw [he']
  rcases h.sgn with e1 | e1 <;> subst e1 <;> simp <;> omega
/-- A good denominator is the one that the program finds. -/
theorem good_cand {p x m B d : Int} (hBm : 2 * (B * B) < m) (hx : 0 ≤ x ∧ x < m) (h0 : m ∣ x → False) (hd : 1 ≤ d ∧ d ≤ B) (h : goodD p x m B d = true) :
    candF x m B = (balF x d m, d) ∧ candOk x m B = true := by
  have hB1 : B * 1 ≤ B * B := Int.mul_le_mul_of_nonneg_left (by omega) (by omega)
  unfold goodD at h
  simp only [Bool.and_eq_true, decide_eq_true_eq] at h
  obtain ⟨⟨⟨h1, h2⟩, h3⟩, _⟩ := h
  obtain ⟨e, r, s, T, U, hr, hs, he⟩ := cand_row (x := x) (m := m) (B := B) (by omega) (by omega) hx
  obtain ⟨b, hb1, hbn, hbd⟩ := hr.uniq hs hBm ⟨h1, h2⟩ hd (bal_dvd x d m)
  have hbn' : balF x d m = b * (e * s) := by
    have : e * (e * balF x d m) = balF x d m := by rcases hr.sgn with e1 | e1 <;> subst e1 <;> simp
    rw [← this, hbn, Int.mul_left_comm]
  have hb : b = 1 := by
    have hdv : b ∣ (Int.gcd (balF x d m) d : Int) := Int.dvd_coe_gcd (by rw [hbn']; exact Int.dvd_mul_right _ _) (by rw [hbd]; exact Int.dvd_mul_right _ _)
    rw [h3] at hdv
    have := Int.le_of_dvd (by decide) hdv
    omega
  subst hb
  simp only [Int.one_mul] at hbn' hbd
  have hc : candF x m B = (balF x d m, d) := by rw [he, hbn', hbd]
  refine ⟨hc, ?_⟩
  unfold candOk
  rw [hc]
  have hn0 : balF x d m ≠ 0 := by
    intro hz
    rw [hz] at h3
    have hd1 : d = 1 := by rw [Int.zero_gcd] at h3; omega
    have hdv := bal_dvd x d m
    rw [hz, hd1] at hdv
    exact h0 (by simpa using hdv)
  simp [hn0, h3, hd.1, hd.2]
/-- What the program finds, if it is right, is a good denominator. -/
theorem cand_good {p x m B : Int} (hp : 2 ≤ p) (hpm : p ∣ m) (hB : 0 ≤ B) (hBm : 2 * (B * B) < m) (hx : 0 ≤ x ∧ x < m) (h : candOk x m B = true) :
    1 ≤ (candF x m B).2 ∧ (candF x m B).2 ≤ B ∧ goodD p x m B (candF x m B).2 = true ∧ balF x (candF x m B).2 m = (candF x m B).1 := by
  unfold candOk at h
  simp only [Bool.and_eq_true, decide_eq_true_eq] at h
  obtain ⟨⟨⟨h1, h2⟩, h3⟩, h4⟩ := h
  have hB1 : B * 1 ≤ B * B := Int.mul_le_mul_of_nonneg_left (by omega) (by omega)
  obtain ⟨e, r, s, T, U, hr, hs, he⟩ := cand_row (x := x) (m := m) (B := B) (by omega) (by omega) hx
  have hs0 := hr.s0
  rw [he] at h1 h2 h3 h4 ⊢
  simp only at h1 h2 h3 h4 ⊢
  have hS : -B ≤ e * s ∧ e * s ≤ B := by rcases hr.sgn with e1 | e1 <;> subst e1 <;> simp <;> omega
  have hdv : m ∣ e * s - x * U := by
    have : e * s - x * U = e * (s - e * (x * U)) := by rcases hr.sgn with e1 | e1 <;> subst e1 <;> simp <;> omega
    rw [this]; exact Int.dvd_mul_of_dvd_right hr.c2
  have hbal : balF x U m = e * s := bal_eq (by omega) hdv (by omega)
  refine ⟨h2, h3, ?_, hbal⟩
  unfold goodD
  rw [hbal]
  have hnp : ¬ U % p = 0 := by
    intro hz
    have d1 : p ∣ U := Int.dvd_of_emod_eq_zero hz
    have d2 : p ∣ e * s := by
      have := Int.dvd_add (Int.dvd_trans hpm hdv) (Int.dvd_mul_of_dvd_right (b := x) d1)
      rwa [show e * s - x * U + x * U = e * s by omega] at this
    have d3 := Int.dvd_coe_gcd d2 d1
    rw [h4] at d3
    have := Int.le_of_dvd (by decide) d3
    omega
  simp [hS.1, hS.2, h4, hnp]
end Go.Proofs.Ytehdkbopkkgabaa
