/- Plain: what the law on roots asks. -/
import Derived.Test.YtdhnpmjoajaeiaaSS
import Derived.Test.YtdhnpmjoajaeiaaST
import Derived.Test.YtdhnpmjoajaeiaaT27
import Derived.Test.YtdhnpmjoajaeiaaT30
import Derived.Test.YtdhnpmjoajaeiaaG5
namespace Go.Proofs.Ytdhnpmjoajaeiaa
open Go Go.RowKit

theorem sortF_mem {l : List Int} {x : Int} : x ∈ sortF l ↔ x ∈ l := by
  have := (sort_spec l [] List.Pairwise.nil).1
  rw [List.append_nil] at this
  exact this.mem_iff
theorem sortF_up {l : List Int} (h : l.Pairwise (· ≠ ·)) (k : Nat) (hk : k + 1 < (sortF l).length) : (sortF l).getD k 0 < (sortF l).getD (k + 1) 0 := by
  obtain ⟨h1, h2⟩ := sort_spec l [] List.Pairwise.nil
  rw [List.append_nil] at h1
  have hn : (sortF l).Nodup := (h1.nodup_iff).2 h
  have e1 := List.pairwise_iff_getElem.1 h2 k (k + 1) (by unfold sortF at hk; omega) (by unfold sortF at hk; omega) (by omega)
  have e2 := List.pairwise_iff_getElem.1 hn k (k + 1) (by omega) hk (by omega)
  rw [getD_lt (show k < (sortF l).length by omega), getD_lt hk]
  have e3 : (sortF l)[k] ≤ (sortF l)[k + 1] := e1
  omega
theorem rootsZ_law {p : Int} {N : Nat} (hp : 2 ≤ p) (f Z : List Int) (h : rootsZ p N f = (Z, 0)) : (∀ x ∈ Z, (0 ≤ x ∧ x < p ^ N) ∧ p ^ N ∣ ev f x) ∧ (∀ k, k + 1 < Z.length → Z.getD k 0 < Z.getD (k + 1) 0) := by
  obtain ⟨_, h4⟩ := rootsD_spec hp f N 0 (Nat.le_refl _) ⟨by omega, by rw [Nat.sub_self, Int.pow_zero]; omega⟩
  unfold rootsZ at h
  split at h
  · cases h
  · injection h with h5 _
    subst h5
    exact ⟨fun x hx => (mem_rootsD hp f x).1 (sortF_mem.1 hx), fun k hk => sortF_up h4 k hk⟩
theorem rin_law {p n : Int} {f Z : List Int} (h : rinF p n f = (Z, 0)) : (∀ x ∈ Z, virF p n f x = (0, 0)) ∧ (∀ k, k + 1 < Z.length → Z.getD k 0 < Z.getD (k + 1) 0) := by
  unfold rinF at h
  split at h
  · rename_i hr
    obtain ⟨hp, hn, hM1, hM9⟩ := ring_facts hr.1
    obtain ⟨h1, h2⟩ := rootsZ_law hp.1 f Z h
    refine ⟨fun x hx => ?_, h2⟩
    obtain ⟨h3, h4⟩ := h1 x hx
    unfold virF ringedF
    rw [if_pos hr, if_pos (inB_iff.2 (by omega)), if_pos rfl, ev_mod, Int.emod_eq_zero_of_dvd h4]
  · cases h
theorem cnt_law {p n c t : Int} {g A : List Int} (h : crrF p n g = (c, 0)) (hA : rinF p n g = (A, t)) : (t = 0 ∧ (A.length : Int) = c) ∨ (t = 3 ∧ 60 < c) := by
  unfold crrF at h
  unfold rinF at hA
  split at h
  · rename_i hr
    rw [if_pos hr] at hA
    split at h
    · cases h
    · injection h with h1 _
      unfold rootsZ at hA
      split at hA
      · injection hA with _ h2
        exact .inr ⟨h2.symm, by omega⟩
      · injection hA with h2 h3
        exact .inl ⟨h3.symm, by rw [← h2, sortF_len]; exact h1⟩
  · cases h
theorem rin_cases {p n t : Int} {g A : List Int} (hA : rinF p n g = (A, t)) : A.length ≤ 60 := by
  unfold rinF at hA
  split at hA
  · have := rootsZ_len p n.toNat g
    rw [hA] at this
    exact this
  · cases hA; simp
theorem sq_law {p n a : Int} {X : List Int} (h : sqRF p n a = (X, 0)) : X.length ≤ 60 ∧ ∃ m, mdlF p n = (m, 0) ∧ 1 ≤ m ∧ m ≤ 1000000000 ∧ ∀ x ∈ X, (0 ≤ x ∧ x ≤ 1000000000) ∧ x * x % m = a := by
  unfold sqRF at h
  rcases codeF_cases p n a with h1 | h1 | ⟨h1, hr, hi⟩
  · rw [if_neg (by omega), h1] at h; cases h
  · rw [if_neg (by omega), h1] at h; cases h
  · rw [if_pos h1] at h
    obtain ⟨hp, hn, hM1, hM9⟩ := ring_facts hr
    have hl := rootsZ_len p n.toNat [-a, 0, 1]
    rw [h] at hl
    obtain ⟨h2, _⟩ := rootsZ_law hp.1 _ X h
    refine ⟨hl, p ^ n.toNat, by unfold mdlF; rw [if_pos hr], hM1, hM9, fun x hx => ?_⟩
    obtain ⟨h3, h4⟩ := h2 x hx
    have h5 := inB_iff.1 hi
    refine ⟨by omega, ?_⟩
    have e : ev [-a, 0, 1] x = x * x - a := by simp only [ev]; grind
    rw [e] at h4
    have h6 := Int.emod_eq_emod_iff_emod_sub_eq_zero.2 (Int.emod_eq_zero_of_dvd h4)
    rw [h6, Int.emod_eq_of_lt h5.1 (by omega)]
end Go.Proofs.Ytdhnpmjoajaeiaa
