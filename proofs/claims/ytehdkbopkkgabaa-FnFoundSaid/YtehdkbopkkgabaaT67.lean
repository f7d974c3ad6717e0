/- Plain: a small rational number found is the number again. -/
import Derived.Test.YtehdkbopkkgabaaT61
import Derived.Test.YtehdkbopkkgabaaT69
namespace Go.Proofs.Ytehdkbopkkgabaa
open Go Go.RowKit

/-- r and s have no common divisor. -/
def cop (r s : Int) : Prop := ∀ d : Int, d ∣ r → d ∣ s → d ∣ 1
theorem cop.step {r s : Int} (h : cop r s) : cop s (r % s) := fun d h1 h2 => h d (by
  have e := Int.emod_add_mul_ediv r s
  rw [← e]
  exact Int.dvd_add h2 (Int.dvd_mul_of_dvd_left h1)) h1
theorem bx_spec (a M : Int) : ∀ (f : Nat) (r x s u : Int), 0 ≤ r → 0 ≤ s → s.toNat < f → cop r s → M ∣ r - x * a → M ∣ s - u * a → M ∣ 1 - bx f r x s u * a := by
  intro f
  induction f with
  | zero => intro r x s u _ _ h; omega
  | succ f ih =>
    intro r x s u hr hs hf hc h1 h2
    by_cases h0 : s = 0
    · subst h0
      rw [bx_zero]
      have h3 : r ∣ 1 := hc r (Int.dvd_refl r) (Int.dvd_zero r)
      have h4 : r = 1 := by
        have := Int.le_of_dvd (by omega) h3
        rcases (show r = 0 ∨ r = 1 by omega) with h | h
        · subst h; have := Int.zero_dvd.1 h3; omega
        · exact h
      rw [h4] at h1
      exact h1
    · have q1 := Int.emod_nonneg r h0
      have q2 := Int.emod_lt_of_pos r (show 0 < s by omega)
      rw [bx_step _ _ _ _ _ h0]
      refine ih _ _ _ _ hs q1 (by omega) hc.step h2 ?_
      have e : r % s - (x - r / s * u) * a = (r - x * a) - (r / s) * (s - u * a) := by
        have e1 := Int.emod_add_mul_ediv r s
        have e2 : s * (r / s) = (r / s) * s := Int.mul_comm _ _
        rw [Int.sub_mul, Int.mul_sub, Int.mul_assoc (r / s) u a]
        omega
      rw [e]
      exact Int.dvd_sub h1 (Int.dvd_mul_of_dvd_right h2)
theorem inv_spec {a M : Int} (ha : 0 ≤ a) (hM : 0 < M) (hc : cop a M) : a * inv a M % M = 1 % M := by
  have h := bx_spec a M (M.toNat + 1) a 1 M 0 ha (by omega) (by omega) hc (by rw [Int.one_mul, Int.sub_self]; exact Int.dvd_zero _) (by rw [Int.zero_mul, Int.sub_zero]; exact Int.dvd_refl _)
  unfold inv
  rw [Int.mul_emod, Int.emod_emod, ← Int.mul_emod, Int.mul_comm]
  exact (Int.emod_eq_emod_iff_emod_sub_eq_zero.2 (Int.emod_eq_zero_of_dvd h)).symm
theorem cop_of_gcd {r s : Int} (h : Int.gcd r s = 1) : cop r s := fun d h1 h2 => by
  have := Int.dvd_coe_gcd h1 h2
  rw [h] at this
  exact this
theorem mulUp_some {p : Int} : ∀ (k : Nat) (x y : Int), inB x (-1000000000000) 1000000000000 = true → mulUp k p x = some y → y = x * p ^ k ∧ inB y (-1000000000000) 1000000000000 = true := by
  intro k
  induction k with
  | zero => intro x y hx h; unfold mulUp at h; injection h with h; subst h; exact ⟨by simp, hx⟩
  | succ k ih =>
    intro x y hx h
    unfold mulUp at h
    cases hb : inB (x * p) (-1000000000000) 1000000000000
    · rw [hb] at h; simp at h
    · rw [hb] at h
      simp only [if_true] at h
      obtain ⟨e, h2⟩ := ih _ _ hb h
      exact ⟨by rw [e, Int.pow_succ', Int.mul_assoc], h2⟩
theorem tail_some {p v n d N D : Int} (hn : inB n (-1000000000000) 1000000000000 = true) (hd : inB d (-1000000000000) 1000000000000 = true) (h : tailF p v n d = (N, D, 0)) :
    N = n * p ^ v.toNat ∧ D = d * p ^ (-v).toNat ∧ inB N (-1000000000000) 1000000000000 = true ∧ inB D (-1000000000000) 1000000000000 = true := by
  unfold tailF at h
  cases h1 : mulUp v.toNat p n with
  | none => rw [h1] at h; simp at h
  | some N' =>
    rw [h1] at h
    simp only at h
    cases h2 : mulUp (-v).toNat p d with
    | none => rw [h2] at h; simp at h
    | some D' =>
      rw [h2] at h
      simp only at h
      have a := mulUp_some _ _ _ hn h1
      have b := mulUp_some _ _ _ hd h2
      have e1 : N' = N := by injection h
      have e2 : D' = D := by injection h with _ q; injection q
      rw [e1] at a
      rw [e2] at b
      exact ⟨a.1, b.1, a.2, b.2⟩
theorem gcd_mul_pow {n d p : Int} (hs : smallP p = true) (hd : ¬ d % p = 0) (h : Int.gcd n d = 1) (k : Nat) : Int.gcd (n * p ^ k) d = 1 := by
  have h2 := gcd_pow hs hd k
  unfold Int.gcd at h h2 ⊢
  rw [Int.natAbs_mul]
  exact Nat.Coprime.mul_left h (Nat.Coprime.symm h2)
theorem frac_unit {p n d u : Int} {k : Nat} {M : Int} (hs : smallP p = true) (hM : M = p ^ k) (hk : 1 ≤ k) (hd : ¬ d % p = 0) (hu : 0 ≤ u ∧ u < M) (hc : M ∣ n - u * d) :
    n % M * inv (d % M) M % M = u := by
  have h1 := mod_unit hd hk
  have h2 := cop_of_gcd (gcd_pow hs h1 k)
  rw [← hM] at h2
  have hi := inv_spec (Int.emod_nonneg d (by omega)) (by omega) h2
  obtain ⟨i, hI⟩ : ∃ i, i = inv (d % M) M := ⟨_, rfl⟩
  rw [← hI] at hi ⊢
  have hi2 : M ∣ d % M * i - 1 := Int.dvd_of_emod_eq_zero (Int.emod_eq_emod_iff_emod_sub_eq_zero.1 hi)
  obtain ⟨c, hc⟩ := hc
  obtain ⟨e, he⟩ := hi2
  have q1 := Int.emod_add_mul_ediv n M
  have q2 := Int.emod_add_mul_ediv d M
  obtain ⟨a, ha⟩ : ∃ a, a = n % M := ⟨_, rfl⟩
  obtain ⟨b, hb⟩ : ∃ b, b = d % M := ⟨_, rfl⟩
  obtain ⟨a', ha'⟩ : ∃ a', a' = n / M := ⟨_, rfl⟩
  obtain ⟨b', hb'⟩ : ∃ b', b' = d / M := ⟨_, rfl⟩
  rw [← ha] at q1 ⊢
  rw [← hb] at q2 he
  rw [← ha'] at q1
  rw [← hb'] at q2
  have key : a * i = u + M * (c * i + u * e + u * b' * i - a' * i) := by
    clear hI hi ha hb ha' hb' h1 h2
    grind
  rw [key, Int.add_mul_emod_self_left]
  exact Int.emod_eq_of_lt hu.1 hu.2

/-- The number found gives the number back. -/
theorem find_back {p v u n N D : Int} (h : frtF p v u n = (N, D, 0)) : popF N D p n = (⟨p, v, u, n⟩, 0) := by
  cases hp : padicB p v u n
  · unfold frtF at h; rw [hp] at h; simp at h
  by_cases h0 : n = 0
  · unfold frtF at h; rw [if_pos hp, if_pos h0] at h; simp at h
  obtain ⟨hs, hr, hum, hun, hpm, hm, hB⟩ := find_facts hp h0
  have hr3 := ringB_iff.1 hr
  cases hc : candOk u (p ^ n.toNat) (bndF (p ^ n.toNat))
  · unfold frtF at h; rw [if_pos hp, if_neg h0, hc] at h; simp at h
  have ht : tailF p v (candF u (p ^ n.toNat) (bndF (p ^ n.toNat))).1 (candF u (p ^ n.toNat) (bndF (p ^ n.toNat))).2 = (N, D, 0) := by
    unfold frtF at h; rw [if_pos hp, if_neg h0, if_pos hc] at h; exact h
  have hp2 := smallP_bd hs
  obtain ⟨g1, g2, g3, g4, g5, g6⟩ := cand_unit hs hpm (by omega) hB.1 hum hun hc
  obtain ⟨C, hC⟩ : ∃ C, C = candF u (p ^ n.toNat) (bndF (p ^ n.toNat)) := ⟨_, rfl⟩
  have hB3 := hB.2.2
  rw [← hC] at g1 g2 g3 g4 g5 g6 ht
  obtain ⟨a, b⟩ := C
  simp only at g1 g2 g3 g4 g5 g6 ht
  have hdv := bal_dvd u b (p ^ n.toNat)
  rw [g6] at hdv
  have hg : Int.gcd a b = 1 := by
    unfold goodD at g5
    rw [g6] at g5
    simp only [Bool.and_eq_true, decide_eq_true_eq] at g5
    exact g5.1.2
  obtain ⟨e1, e2, b1, b2⟩ := tail_some (inB_t (by omega) (by omega)) (inB_t (by omega) (by omega)) ht
  have hP1 := pow_pos' (show 1 ≤ p by omega) v.toNat
  have hP2 := pow_pos' (show 1 ≤ p by omega) (-v).toNat
  have hbd := Int.mul_pos (show 0 < b by omega) (show 0 < p ^ (-v).toNat by omega)
  have hgcd : Int.gcd N D = 1 := by
    rcases Int.le_total 0 v with h1 | h1
    · rw [e1, e2, show (-v).toNat = 0 by omega, Int.pow_zero, Int.mul_one]
      exact gcd_mul_pow hs g4 hg _
    · rw [e1, e2, show v.toNat = 0 by omega, Int.pow_zero, Int.mul_one, Int.gcd_comm]
      exact gcd_mul_pow hs g3 (by rw [Int.gcd_comm]; exact hg) _
  have b2' := inB_iff.1 b2
  have hrat : ratB N D = true := by
    unfold ratB
    rw [b1, inB_t (show 1 ≤ D by omega) b2'.2, hgcd]
    rfl
  have ha0 : a ≠ 0 := fun e => g3 (by rw [e]; simp)
  have hN0 : N ≠ 0 := by rw [e1]; exact Int.mul_ne_zero ha0 (by omega)
  unfold popF
  rw [if_pos ⟨hrat, hr⟩, if_neg hN0]
  unfold pofF
  have v1 : vl N p = v.toNat := vl_eq hp2.1 e1 g3
  have v2 : vl D p = (-v).toNat := vl_eq hp2.1 e2 g4
  have f1 : N / p ^ v.toNat = a := by rw [e1]; exact Int.mul_ediv_cancel _ (by omega)
  have f2 : D / p ^ (-v).toNat = b := by rw [e2]; exact Int.mul_ediv_cancel _ (by omega)
  rw [v1, v2, f1, f2, frac_unit hs rfl (show 1 ≤ n.toNat by omega) g4 hum hdv, show ((v.toNat : Nat) : Int) - ((-v).toNat : Nat) = v by omega]

theorem pow_small {p : Int} {k : Nat} (hp : 2 ≤ p) (h : p ^ k ≤ 1000000000000) : k ≤ 39 := by
  rcases Nat.lt_or_ge k 40 with h1 | h1
  · omega
  · exfalso
    have h2 : p ^ 40 ≤ p ^ k := pow_mono (by omega) h1
    have h3 : ∀ j : Nat, (2 : Int) ^ j ≤ p ^ j := by
      intro j
      induction j with
      | zero => simp
      | succ j ih =>
        rw [Int.pow_succ, Int.pow_succ]
        have := pow_pos' (show 1 ≤ p by omega) j
        exact Int.mul_le_mul ih hp (by omega) (by omega)
    have h4 := h3 40
    have h5 : (2 : Int) ^ 40 = 1099511627776 := by decide
    omega
/-- What PadicOf returns is valid and agrees. -/
theorem pop_ok {nu de p n : Int} (h : (popF nu de p n).2 = 0) : doaF nu de (popF nu de p n).1.p (popF nu de p n).1.v (popF nu de p n).1.u (popF nu de p n).1.n = (true, 0) := by
  unfold popF at h ⊢
  split at h
  · rename_i h1
    rw [if_pos h1]
    split at h
    · exact absurd h (by decide)
    · rename_i h0
      rw [if_neg h0]
      obtain ⟨h1, hr⟩ := h1
      have hr3 := ringB_iff.1 hr
      have hp := smallP_bd hr3.1
      obtain ⟨hnu, hde⟩ := rat_facts h1
      obtain ⟨x1, _, _, _, _, _⟩ := vl_pow_le hp.1 h0 hnu
      obtain ⟨y1, _, _, _, _, _⟩ := vl_pow_le (r := de) (B := 1000000000000) hp.1 (by omega) (by omega)
      have k1 := pow_small hp.1 x1
      have k2 := pow_small hp.1 y1
      obtain ⟨a, _, a2, a3⟩ := vl_spec hp.1 h0
      obtain ⟨b, _, b2, b3⟩ := vl_spec hp.1 (show de ≠ 0 by omega)
      have hM := pow_pos' (show 1 ≤ p by omega) n.toNat
      have hgi := cop_of_gcd (gcd_pow hr3.1 (mod_unit b2 (show 1 ≤ n.toNat by omega)) n.toNat)
      have hi := inv_spec (Int.emod_nonneg b (show p ^ n.toNat ≠ 0 by omega)) (by omega) hgi
      have hu : ¬ (a % p ^ n.toNat * inv (b % p ^ n.toNat) (p ^ n.toNat) % p ^ n.toNat) % p = 0 := by
        intro e
        rw [Int.emod_emod_of_dvd _ (show p ∣ p ^ n.toNat from ⟨p ^ (n.toNat - 1), by rw [Int.mul_comm, ← Int.pow_succ]; congr 1; omega⟩)] at e
        have d1 := Int.dvd_of_emod_eq_zero e
        have d2 : p ∣ p ^ n.toNat := ⟨p ^ (n.toNat - 1), by rw [Int.mul_comm, ← Int.pow_succ]; congr 1; omega⟩
        have d3 : p ^ n.toNat ∣ b % p ^ n.toNat * inv (b % p ^ n.toNat) (p ^ n.toNat) - 1 := Int.dvd_of_emod_eq_zero (Int.emod_eq_emod_iff_emod_sub_eq_zero.1 hi)
        obtain ⟨I, hI⟩ : ∃ I, I = inv (b % p ^ n.toNat) (p ^ n.toNat) := ⟨_, rfl⟩
        rw [← hI] at d1 d3
        have hp0 : p ∣ a % p ^ n.toNat * (b % p ^ n.toNat * I) := by
          rw [show a % p ^ n.toNat * (b % p ^ n.toNat * I) = (b % p ^ n.toNat) * (a % p ^ n.toNat * I) by rw [← Int.mul_assoc, Int.mul_comm (a % p ^ n.toNat), Int.mul_assoc]]
          exact Int.dvd_mul_of_dvd_right d1
        obtain ⟨t, ht⟩ := Int.dvd_trans d2 d3
        have hp1 : p ∣ a % p ^ n.toNat := by
          rw [show b % p ^ n.toNat * I = 1 + p * t by omega, Int.mul_add, Int.mul_one, ← Int.mul_assoc, Int.mul_comm _ p, Int.mul_assoc] at hp0
          have := Int.dvd_sub hp0 (Int.dvd_mul_right p (a % p ^ n.toNat * t))
          rwa [Int.add_sub_cancel] at this
        exact mod_unit a2 (show 1 ≤ n.toNat by omega) (Int.emod_eq_zero_of_dvd hp1)
      have hpad : padicB p (vl nu p - vl de p) (a % p ^ n.toNat * inv (b % p ^ n.toNat) (p ^ n.toNat) % p ^ n.toNat) n = true := by
        have w1 := Int.emod_nonneg (a % p ^ n.toNat * inv (b % p ^ n.toNat) (p ^ n.toNat)) (show p ^ n.toNat ≠ 0 by omega)
        have w2 := Int.emod_lt_of_pos (a % p ^ n.toNat * inv (b % p ^ n.toNat) (p ^ n.toNat)) (show 0 < p ^ n.toNat by omega)
        have e3 : (a % p ^ n.toNat * inv (b % p ^ n.toNat) (p ^ n.toNat) % p ^ n.toNat) ≠ 0 := fun q => hu (by rw [q]; simp)
        rw [padicB_alt hr3.1 (inB_t (by omega) (by omega)) (by omega), hr, inB_t (a := 1) (b := p ^ n.toNat - 1) (by omega) (by omega)]
        simp only [Bool.true_and, bne_iff_ne, ne_eq]
        exact hu
      have ep : pofF p n nu de = ⟨p, vl nu p - vl de p, a % p ^ n.toNat * inv (b % p ^ n.toNat) (p ^ n.toNat) % p ^ n.toNat, n⟩ := by unfold pofF; rw [a3, b3]
      unfold doaF
      rw [ep]
      simp only
      rw [if_pos ⟨h1, hpad⟩]
      unfold agreeB
      rw [if_neg h0, if_neg (by omega), ep]
      simp
  · exact absurd h (by decide)
end Go.Proofs.Ytehdkbopkkgabaa
