/- Powers of residues: plain facts for the law. -/
import Derived.Test.YtcillfhkgckiaaaT30
namespace Go.Proofs.Ytcillfhkgckiaaa

theorem powF_bd {a e m : Int} (hm : 2 ≤ m) : 0 ≤ powF a e m ∧ powF a e m ≤ m - 1 := pwF_bd hm 60 1 (a % m) e (by omega)
theorem powp_facts {p n a e : Int} (h : (powpF p n a e).2 = 0) : ringB p n = true ∧ inB a 0 (p ^ n.toNat - 1) = true ∧ (0 ≤ e ∧ e ≤ 1000000000000) ∧ (powpF p n a e).1 = powF a e (p ^ n.toNat) := by
  unfold powpF at h ⊢
  split
  · rename_i hr
    rw [if_pos hr] at h
    split
    · rename_i hi; exact ⟨hr, hi.1, inB_iff.1 hi.2, rfl⟩
    · rename_i hi; rw [if_neg hi] at h; simp at h
  · rename_i hr; rw [if_neg hr] at h; simp at h
/-- What the law asks of a power: the next one. -/
theorem powp_next {p n a e x : Int} (h : powpF p n a e = (x, 0)) (he : e ≠ 1000000000000) : ∃ M, mdlF p n = (M, 0) ∧ powpF p n a (e + 1) = (x * a % M, 0) ∧ (2 ≤ M ∧ M ≤ 1000000000) ∧ (0 ≤ x ∧ x ≤ M - 1) ∧ (0 ≤ a ∧ a ≤ M - 1) ∧ (0 ≤ e ∧ e ≤ 1000000000000) := by
  obtain ⟨h1, h2, h3, h4⟩ := @powp_facts p n a e (by rw [h])
  obtain ⟨r1, r2, r3, r4, _, _, _⟩ := ring_facts2 h1
  rw [h] at h4
  simp only at h4
  have h5 := inB_iff.1 h2
  refine ⟨p ^ n.toNat, by simp [mdlF, h1], ?_, ⟨r3, r4⟩, by rw [h4]; exact powF_bd r3, h5, h3⟩
  have h6 : inB (e + 1) 0 1000000000000 = true := inB_t (by omega) (by omega)
  have h7 : powF a (e + 1) (p ^ n.toNat) = powF a e (p ^ n.toNat) * a % p ^ n.toNat := by
    obtain ⟨k, rfl⟩ : ∃ k : Nat, e = (k : Int) := ⟨e.toNat, by omega⟩
    have := @powF_succ a (p ^ n.toNat) k r3 (by omega)
    push_cast at this
    exact this
  unfold powpF
  rw [if_pos h1, if_pos ⟨h2, h6⟩, h7, h4]
/-- What the law asks of a Teichmueller residue. -/
theorem teip_facts {p n b t : Int} (h : teipF p n b = (t, 0)) : powpF p n t p = (t, 0) ∧ (t - b).tmod p = 0 ∧ 2 ≤ p ∧ p ≤ 97 ∧ (0 ≤ t ∧ t ≤ 1000000000) ∧ (0 ≤ b ∧ b ≤ 1000000000) := by
  unfold teipF at h
  cases hr : ringB p n
  · rw [hr] at h; simp at h
  cases hi : inB b 0 (p ^ n.toNat - 1)
  · rw [hr, hi] at h; simp at h
  rw [hr, hi] at h
  simp only [if_true] at h
  obtain ⟨r1, r2, r3, r4, _, _, _⟩ := ring_facts2 hr
  have hs := (ringB_iff.1 hr).1
  have ht : t = powF b (p ^ (n.toNat - 1)) (p ^ n.toNat) := by injection h with h1 h2; exact h1.symm
  have e : p ^ n.toNat = p ^ ((n.toNat - 1) + 1) := by congr 1; omega
  have hb := @powF_bd b (p ^ (n.toNat - 1)) (p ^ n.toNat) r3
  have hT := @teichF p b (n.toNat - 1) hs (by rw [← e]; exact r4)
  rw [← e, ← ht] at hT
  rw [← ht] at hb
  have h5 := inB_iff.1 hi
  refine ⟨?_, tmod_zero_iff.2 hT.2, r1.1, r1.2, by omega, by omega⟩
  unfold powpF
  rw [if_pos hr, if_pos ⟨inB_t hb.1 hb.2, inB_t (by omega) (by omega)⟩, hT.1]
end Go.Proofs.Ytcillfhkgckiaaa
