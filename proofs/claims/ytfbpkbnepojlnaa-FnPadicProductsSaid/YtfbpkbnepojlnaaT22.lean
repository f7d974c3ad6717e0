/- Plain arithmetic: the inverse is one; products and cut numbers. -/
import Derived.Test.YtfbpkbnepojlnaaT20
import Derived.Test.YtfbpkbnepojlnaaT9
import Derived.Test.YtfbpkbnepojlnaaD3
import Derived.Test.YtfbpkbnepojlnaaE4
namespace Go.Proofs.Ytfbpkbnepojlnaa

/-- r and s have no common divisor. -/
def cop (r s : Int) : Prop := ∀ d : Int, d ∣ r → d ∣ s → d ∣ 1
theorem cop.step {r s : Int} (h : cop r s) : cop s (r % s) := fun d h1 h2 => h d (by
  have e := Int.emod_add_mul_ediv r s
  rw [← e]
  exact Int.dvd_add h2 (Int.dvd_mul_of_dvd_left h1)) h1
theorem bx_spec (a M : Int) : ∀ (f : Nat) (r x s u : Int), 0 ≤ r → 0 ≤ s → s.toNat < f → cop r s → M ∣ r - x * a → M ∣ s - u * a → M ∣ 1 - bx f r x s u * a := by
  intro f
  induction f with
  | zero => intro r x s u _ _ h; omega
  | succ f ih =>
    intro r x s u hr hs hf hc h1 h2
    by_cases h0 : s = 0
    · subst h0
      rw [bx_zero]
      have h3 : r ∣ 1 := hc r (Int.dvd_refl r) (Int.dvd_zero r)
      have h4 : r = 1 := by
        have := Int.le_of_dvd (by omega) h3
        rcases (show r = 0 ∨ r = 1 by omega) with h | h
        · subst h; have := Int.zero_dvd.1 h3; omega
        · exact h
      rw [h4] at h1
      exact h1
    · have q1 := Int.emod_nonneg r h0
      have q2 := Int.emod_lt_of_pos r (show 0 < s by omega)
      rw [bx_step _ _ _ _ _ h0]
      refine ih _ _ _ _ hs q1 (by omega) hc.step h2 ?_
      have e : r % s - (x - r / s * u) * a = (r - x * a) - (r / s) * (s - u * a) := by
        have e1 := Int.emod_add_mul_ediv r s
        have e2 : s * (r / s) = (r / s) * s := Int.mul_comm _ _
        rw [Int.sub_mul, Int.mul_sub, Int.mul_assoc (r / s) u a]
        omega
      rw [e]
      exact Int.dvd_sub h1 (Int.dvd_mul_of_dvd_right h2)
theorem inv_spec {a M : Int} (ha : 0 ≤ a) (hM : 0 < M) (hc : cop a M) : a * inv a M % M = 1 % M := by
  have h := bx_spec a M (M.toNat + 1) a 1 M 0 ha (by omega) (by omega) hc (by rw [Int.one_mul, Int.sub_self]; exact Int.dvd_zero _) (by rw [Int.zero_mul, Int.sub_zero]; exact Int.dvd_refl _)
  unfold inv
  rw [Int.mul_emod, Int.emod_emod, ← Int.mul_emod, Int.mul_comm]
  exact (Int.emod_eq_emod_iff_emod_sub_eq_zero.2 (Int.emod_eq_zero_of_dvd h)).symm

theorem prime_div : ∀ p : Fin 98, primeB (p.val : Int) = true → ∀ d : Fin 98, p.val % d.val = 0 → d.val = 1 ∨ d.val = p.val := by decide +kernel
theorem cop_pow {p u : Int} (hs : smallP p = true) (hu : ¬ u % p = 0) (n : Nat) : cop u (p ^ n) := by
  have hp := smallP_bd hs
  have hprime := smallP_prime hs
  have hc : Nat.Coprime u.natAbs p.natAbs := by
    have h1 : Nat.gcd u.natAbs p.natAbs ∣ p.natAbs := Nat.gcd_dvd_right _ _
    have h2 : Nat.gcd u.natAbs p.natAbs ≤ p.natAbs := Nat.le_of_dvd (by omega) h1
    have h3 := prime_div ⟨p.natAbs, by omega⟩ (by simp only; rw [show ((p.natAbs : Nat) : Int) = p by omega]; exact hprime) ⟨Nat.gcd u.natAbs p.natAbs, by omega⟩ (Nat.mod_eq_zero_of_dvd h1)
    rcases h3 with h3 | h3
    · exact h3
    · exfalso
      simp only at h3
      have h4 : p.natAbs ∣ u.natAbs := by
        have := Nat.gcd_dvd_left u.natAbs p.natAbs
        rw [h3] at this
        exact this
      exact hu (Int.emod_eq_zero_of_dvd (Int.natAbs_dvd_natAbs.1 h4))
  intro d h1 h2
  have h3 : d.natAbs ∣ u.natAbs := Int.natAbs_dvd_natAbs.2 h1
  have h4 : d.natAbs ∣ p.natAbs ^ n := by
    have := Int.natAbs_dvd_natAbs.2 h2
    rw [Int.natAbs_pow] at this
    exact this
  have h5 := Nat.dvd_gcd h3 h4
  rw [Nat.Coprime.pow_right n hc] at h5
  have := Int.natAbs_dvd_natAbs.1 (show d.natAbs ∣ (1 : Int).natAbs from h5)
  exact this

theorem padicB_mk {p v u n : Int} (hr : ringB p n = true) (hv : -60 ≤ v ∧ v ≤ 60) (hu : 0 ≤ u ∧ u ≤ p ^ n.toNat - 1) (hz : ¬ u % p = 0) : padicB p v u n = true := by
  obtain ⟨hs, h1, _, _⟩ := ringB_iff.1 hr
  have e3 : u ≠ 0 := fun q => hz (by rw [q]; simp)
  rw [padicB_alt hs (inB_t hv.1 hv.2) (by omega), hr, inB_t (n := u) (a := 1) (b := p ^ n.toNat - 1) (by omega) (by omega)]
  simp only [Bool.true_and, bne_iff_ne, ne_eq]
  exact hz
theorem pow_dvd {p n : Int} (hn : 1 ≤ n) : p ∣ p ^ n.toNat := ⟨p ^ (n.toNat - 1), by rw [Int.mul_comm, ← Int.pow_succ]; congr 1; omega⟩

/-- A number times its inverse. -/
theorem mulp_inv {p v u n : Int} (h : (invpF p v u n).2 = 0) : mulpF p v u n (invpF p v u n).1.p (invpF p v u n).1.v (invpF p v u n).1.u (invpF p v u n).1.n = (⟨p, 0, 1, n⟩, 0) ∧ padicB p v u n = true := by
  unfold invpF at h ⊢
  cases hb : padicB p v u n
  · rw [hb] at h; simp at h
  rw [hb] at h
  simp only [if_true] at h ⊢
  by_cases h0 : n = 0
  · rw [if_pos h0] at h; simp at h
  rw [if_neg h0]
  simp only
  obtain ⟨hp, hv, hu9, hn, hbd⟩ := padic_facts hb
  obtain ⟨hr, hu, hun⟩ := padic_unit hb h0
  obtain ⟨hs, hn1, hn2, hn3⟩ := ringB_iff.1 hr
  have hM := pow_mono (show 1 ≤ p by omega) (show 1 ≤ n.toNat by omega)
  rw [Int.pow_succ, Int.pow_zero, Int.one_mul] at hM
  obtain ⟨M, hMe⟩ : ∃ M, M = p ^ n.toNat := ⟨_, rfl⟩
  have hd := @pow_dvd p n hn1
  have hc := cop_pow hs hun n.toNat
  rw [← hMe] at hM hd hc hu ⊢
  have hinv := inv_spec hu.1 (show 0 < M by omega) hc
  have i1 : 0 ≤ inv u M := Int.emod_nonneg _ (by omega)
  have i2 : inv u M < M := Int.emod_lt_of_pos _ (by omega)
  rw [show (1 : Int) % M = 1 from Int.emod_eq_of_lt (by omega) (by omega)] at hinv
  have hiz : ¬ inv u M % p = 0 := by
    intro hz
    have q1 : u * inv u M % M % p = u * inv u M % p := Int.emod_emod_of_dvd _ hd
    rw [hinv, Int.mul_emod, hz, Int.mul_zero, Int.zero_emod, Int.emod_eq_of_lt (by omega) (by omega)] at q1
    omega
  have hi : padicB p (-v) (inv u M) n = true := padicB_mk hr (by omega) (by rw [← hMe]; omega) hiz
  have h1 : pairF p v u n p (-v) (inv u M) n = 0 := by unfold pairF; rw [if_pos ⟨hb, hi⟩, if_pos rfl]
  have h2 : mulF p v u n (-v) (inv u M) n = ⟨p, 0, 1, n⟩ := by
    unfold mulF
    rw [Int.min_self, if_neg h0, ← hMe, Int.emod_eq_of_lt hu.1 (by omega), Int.emod_eq_of_lt i1 i2, hinv]
    congr 1
    omega
  refine ⟨?_, trivial⟩
  unfold mulpF
  rw [if_pos h1, h2]
  unfold limF
  rw [if_pos]
  exact padicB_mk hr (by simp only; omega) (by simp only; rw [← hMe]; omega) (by simp only; rw [Int.emod_eq_of_lt (by omega) (by omega)]; omega)

theorem mulp_facts {p v u n q v2 u2 n2 : Int} (h : (mulpF p v u n q v2 u2 n2).2 = 0) : (mulpF p v u n q v2 u2 n2).1.v = v + v2 ∧ (mulpF p v u n q v2 u2 n2).1.n = min n n2 ∧ (-60 ≤ v ∧ v ≤ 60) ∧ (-60 ≤ v2 ∧ v2 ≤ 60) ∧ (0 ≤ n ∧ n ≤ 40) ∧ (0 ≤ n2 ∧ n2 ≤ 40) := by
  rcases pairF_cases p v u n q v2 u2 n2 with h1 | h1 | ⟨h1, h2, h3, h4⟩
  · exfalso; unfold mulpF at h; rw [if_neg (by omega)] at h; simp only at h; omega
  · exfalso; unfold mulpF at h; rw [if_neg (by omega)] at h; simp only at h; omega
  · obtain ⟨_, a1, _, a2, _⟩ := padic_facts h2
    obtain ⟨_, b1, _, b2, _⟩ := padic_facts h3
    have e : mulpF p v u n q v2 u2 n2 = limF (mulF p v u n v2 u2 n2) := by unfold mulpF; rw [if_pos h1]
    rw [e] at h ⊢
    rcases limF_cases (mulF p v u n v2 u2 n2) with ⟨h6, h7⟩ | h6
    · rw [h6]; exact ⟨rfl, rfl, a1, b1, a2, b2⟩
    · rw [h6] at h; simp at h

/-- What a cut number has in common with the number. -/
theorem cutp_facts {p v u n k : Int} (h : (cutpF p v u n k).2 = 0) : padicB (cutpF p v u n k).1.p (cutpF p v u n k).1.v (cutpF p v u n k).1.u (cutpF p v u n k).1.n = true ∧ (cutpF p v u n k).1.v + (cutpF p v u n k).1.n = v + k ∧
    ∃ c, eqtF p v u n (cutpF p v u n k).1.p (cutpF p v u n k).1.v (cutpF p v u n k).1.u (cutpF p v u n k).1.n = c ∧ (c = (v + k, 0) ∨ c.2 = 3) := by
  unfold cutpF at h ⊢
  cases hb : padicB p v u n
  · rw [hb] at h; simp at h
  rw [hb] at h
  simp only [if_true] at h ⊢
  cases hi : inB k 1 n
  · rw [hi] at h; simp at h
  simp only [if_true]
  have hk := inB_iff.1 hi
  obtain ⟨hp, hv, hu9, hn, hbd⟩ := padic_facts hb
  obtain ⟨hr, hu, hun⟩ := padic_unit hb (show ¬ n = 0 by omega)
  obtain ⟨hs, hn1, hn2, hn3⟩ := ringB_iff.1 hr
  have hb2 := pow_le_bd (k := k.toNat) hp.1 (by omega) hn3
  have hrk : ringB p k = true := ringB_iff.2 ⟨hs, by omega, by omega, hb2.2⟩
  have u1 := Int.emod_nonneg u (show p ^ k.toNat ≠ 0 by omega)
  have u2 := Int.emod_lt_of_pos u (show 0 < p ^ k.toNat by omega)
  have hz : ¬ u % p ^ k.toNat % p = 0 := by rw [Int.emod_emod_of_dvd _ (@pow_dvd p k hk.1)]; exact hun
  have hc : padicB p v (u % p ^ k.toNat) k = true := padicB_mk hrk hv (by omega) hz
  refine ⟨hc, trivial, _, rfl, ?_⟩
  have h1 : pairF p v u n p v (u % p ^ k.toNat) k = 0 := by unfold pairF; rw [if_pos ⟨hb, hc⟩, if_pos rfl]
  have h2 : addF p v u n v (ngF p (u % p ^ k.toNat) k) k = ⟨p, v + k, 0, 0⟩ := by
    rw [addF_le (Int.le_refl v)]
    unfold makeF
    rw [show min (v + n) (v + k) = v + k by omega, if_neg (by omega), show (v - v).toNat = 0 by omega, show v + k - v = k by omega]
    have h3 : (u + ngF p (u % p ^ k.toNat) k * p ^ 0) % p ^ k.toNat = 0 := by
      unfold ngF
      rw [if_neg (by omega), Int.pow_zero, Int.mul_one, show u + (p ^ k.toNat - u % p ^ k.toNat) = (u - u % p ^ k.toNat) + p ^ k.toNat by omega, Int.add_emod_right]
      have := Int.emod_add_mul_ediv u (p ^ k.toNat)
      rw [show u - u % p ^ k.toNat = p ^ k.toNat * (u / p ^ k.toNat) by omega]
      exact Int.mul_emod_right _ _
    rw [h3]
    unfold knownF
    rw [if_pos rfl]
  unfold eqtF subF
  rw [if_pos h1, h2]
  rcases limF_cases ⟨p, v + k, 0, 0⟩ with ⟨h6, _⟩ | h6
  · rw [h6]; exact .inl rfl
  · rw [h6]; exact .inr rfl
end Go.Proofs.Ytfbpkbnepojlnaa
