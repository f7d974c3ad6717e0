/- Contracts: p-adic numbers: valid ones, shifts. -/
import Derived.Test.YtdhnpmjoajaeiaaA8
namespace Go.Proofs.Ytdhnpmjoajaeiaa
open Go Go.RowKit


theorem padicB_alt {p v u n : Int} (h1 : smallP p = true) (h2 : inB v (-60) 60 = true) (h3 : ¬ n = 0) :
    padicB p v u n = (ringB p n && inB u 1 (p ^ n.toNat - 1) && (u % p != 0)) := by
  have e : padicB p v u n = (ringB p n && inB u 0 (p ^ n.toNat - 1) && (u % p != 0)) := by simp [padicB, h1, h2, h3]
  rw [e]
  by_cases hu : u = 0
  · subst hu; simp
  · cases h : inB u 1 (p ^ n.toNat - 1)
    · cases h' : inB u 0 (p ^ n.toNat - 1)
      · rfl
      · have := inB_iff.1 h'
        have := inB_t (n := u) (a := 1) (b := p ^ n.toNat - 1) (by omega) (by omega)
        rw [h] at this; cases this
    · have := inB_iff.1 h
      rw [inB_t (n := u) (a := 0) (by omega) (by omega)]

structure Pd where
  (p v u n : Int)
def Pd.zero : Pd := ⟨0, 0, 0, 0⟩
/-- A number, or ErrLimit. -/
def limF (x : Pd) : Pd × Int := if padicB x.p x.v x.u x.n = true then (x, 0) else (.zero, 3)

theorem inB_ff {n a b : Int} (h : inB n a b = false) : n < a ∨ b < n := by
  rcases Int.lt_or_le n a with h1 | h1
  · exact .inl h1
  · rcases Int.lt_or_le b n with h2 | h2
    · exact .inr h2
    · rw [inB_t h1 h2] at h; cases h
theorem padicB_place {p v u n : Int} (h : padicB p v u n = true) : smallP p = true ∧ -60 ≤ v ∧ v ≤ 60 := by
  simp only [padicB, Bool.and_eq_true] at h
  exact ⟨h.1.1, inB_iff.1 h.1.2⟩

theorem padic_facts {p v u n : Int} (h : padicB p v u n = true) : (2 ≤ p ∧ p ≤ 97) ∧ (-60 ≤ v ∧ v ≤ 60) ∧ (0 ≤ u ∧ u ≤ 1000000000) ∧ (0 ≤ n ∧ n ≤ 40) ∧ p ^ n.toNat ≤ 1000000000 := by
  have h0 := padicB_place h
  have hp := smallP_bd h0.1
  by_cases h3 : n = 0
  · subst h3
    have : u = 0 := by simp [padicB] at h; exact h.2
    subst this
    exact ⟨hp, h0.2, by omega, by omega, by simp⟩
  · simp only [padicB, h3, if_false, Bool.and_eq_true] at h
    have hr := ringB_iff.1 h.2.1.1
    have hu := inB_iff.1 h.2.1.2
    exact ⟨hp, h0.2, by omega, by omega, hr.2.2.2⟩

theorem padic_unit {p v u n : Int} (h : padicB p v u n = true) (hn : ¬ n = 0) : ringB p n = true ∧ (0 ≤ u ∧ u ≤ p ^ n.toNat - 1) ∧ ¬ u % p = 0 := by
  simp only [padicB, hn, if_false, Bool.and_eq_true] at h
  exact ⟨h.2.1.1, inB_iff.1 h.2.1.2, by simpa using h.2.2⟩

end Go.Proofs.Ytdhnpmjoajaeiaa
