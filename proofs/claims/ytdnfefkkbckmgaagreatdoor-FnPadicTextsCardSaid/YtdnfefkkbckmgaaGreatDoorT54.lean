/- likeInts and sum of the laws; plain: digits and shifts there and back. -/
import Derived.Test.YtdnfefkkbckmgaaGreatDoorT56
import Derived.Test.YtdnfefkkbckmgaaGreatDoorC7
import Derived.Test.YtdnfefkkbckmgaaGreatDoorF2
import Derived.Test.YtdnfefkkbckmgaaGreatDoorM5
namespace Go.Proofs.YtdnfefkkbckmgaaGreatDoor
open Go Go.RowKit

theorem shift_back {p v u n k : Int} {s : Pd} (h : shiftF ⟨p, v, u, n⟩ k = (s, 0)) : (-60 ≤ k ∧ k ≤ 60) ∧ shiftF s (-k) = (⟨p, v, u, n⟩, 0) := by
  unfold shiftF at h
  split at h
  · rename_i h1
    split at h
    · rename_i h2
      unfold limF at h
      split at h
      · rename_i h3
        injection h with h4 h5
        subst h4
        have hk := inB_iff.1 h2
        refine ⟨hk, ?_⟩
        simp only at h1 h3
        have e1 : v + k + -k = v := by omega
        have e2 : inB (-k) (-60) 60 = true := inB_iff.2 (by omega)
        simp only [shiftF, h3, if_true, e2, limF, e1, h1]
      · injection h with h4 h5; omega
    · injection h with h4 h5; omega
  · injection h with h4 h5; omega

theorem digits_back {p v u n : Int} (h : padicB p v u n = true) : fdF p v (digs p u n.toNat) = (⟨p, v, u, n⟩, 0) := by
  obtain ⟨hp, hv, hu, hn, hb⟩ := padic_facts h
  have hs := padicB_place h
  have hd : (digs p u n.toNat).any (noDigit p) = false := by
    rw [List.any_eq_false]
    intro x hx
    simp only [digs, List.mem_map] at hx
    obtain ⟨i, _, rfl⟩ := hx
    have := digF_bd (u := u) (i := i) hp.1
    simp [noDigit, inB_iff]
    omega
  have hr : digs p u n.toNat = [] ∨ ringB p (digs p u n.toNat).length = true := by
    by_cases h0 : n = 0
    · left; subst h0; rfl
    · right
      rw [digs_len, show ((n.toNat : Nat) : Int) = n by omega]
      rw [padicB_alt hs.1 (inB_iff.2 hv) h0] at h
      simp only [Bool.and_eq_true] at h
      exact h.1.1
  have e : dval p (digs p u n.toNat) = u % p ^ n.toNat := by
    have := dval_digs (u := u) hp.1 (s := 0) (k := n.toNat)
    simpa using this
  have hk : knownF p v (dval p (digs p u n.toNat)) (digs p u n.toNat).length = ⟨p, v, u, n⟩ := by
    rw [e, digs_len, show ((n.toNat : Nat) : Int) = n by omega]
    by_cases h0 : n = 0
    · subst h0
      have hu0 : u = 0 := by
        simp only [padicB, Bool.and_eq_true] at h
        have := h.2
        simpa using this
      subst hu0
      simp [knownF]
    · have h2 := h
      rw [padicB_alt hs.1 (inB_iff.2 hv) h0] at h2
      simp only [Bool.and_eq_true, bne_iff_ne] at h2
      have hu2 := inB_iff.1 h2.1.2
      have e2 : u % p ^ n.toNat = u := Int.emod_eq_of_lt (by omega) (by omega)
      rw [e2]
      unfold knownF
      rw [if_neg (by omega), vl_unit hp.1 h2.2]
      simp
  unfold fdF
  rw [if_pos hs.1, if_pos ⟨inB_iff.2 hv, hd⟩, if_pos hr, hk]
  unfold limF
  rw [if_pos h]
theorem digits_ok {p v u n : Int} (h : (digitsF p v u n).2 = 0) : padicB p v u n = true := by
  unfold digitsF at h
  split at h
  · assumption
  · exact absurd h (by simp)
end Go.Proofs.YtdnfefkkbckmgaaGreatDoor
