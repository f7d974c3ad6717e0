/- Sums: plain laws. -/
import Derived.Test.YtfbpkbnepojlnaaT8
namespace Go.Proofs.Ytfbpkbnepojlnaa
open Go Go.RowKit

theorem rdB.ext {w W : World} {a : Option Addr} {len : Nat} (h : rdB w.heap.size w a len) (hE : Ext w.heap.size w W) : rdB w.heap.size W a len :=
  h.of fun k o v hk hv => (hE.1.cell (p := ⟨k, o, none⟩) hk).trans hv

theorem known_end (p v r c : Int) : (knownF p v r c).v + (knownF p v r c).n = v + c := by
  unfold knownF
  split
  · simp
  · simp only; omega
theorem make_end (p v m e : Int) : (makeF p v m e).v + (makeF p v m e).n = e := by
  unfold makeF
  split
  · simp
  · rw [known_end]; omega
theorem add_end (p v u n v2 u2 n2 : Int) : (addF p v u n v2 u2 n2).v + (addF p v u n v2 u2 n2).n = min (v + n) (v2 + n2) := by
  unfold addF; exact make_end _ _ _ _
theorem limF_cases (x : Pd) : (limF x = (x, 0) ∧ padicB x.p x.v x.u x.n = true) ∨ limF x = (⟨0, 0, 0, 0⟩, 3) := by
  unfold limF
  split
  · rename_i h; exact .inl ⟨rfl, h⟩
  · exact .inr rfl
theorem addp_facts {p v u n q v2 u2 n2 : Int} (h : (addpF p v u n q v2 u2 n2).2 = 0) :
    padicB p v u n = true ∧ padicB q v2 u2 n2 = true ∧ padicB (addpF p v u n q v2 u2 n2).1.p (addpF p v u n q v2 u2 n2).1.v (addpF p v u n q v2 u2 n2).1.u (addpF p v u n q v2 u2 n2).1.n = true ∧
    (addpF p v u n q v2 u2 n2).1.v + (addpF p v u n q v2 u2 n2).1.n = min (v + n) (v2 + n2) ∧ addpF q v2 u2 n2 p v u n = addpF p v u n q v2 u2 n2 := by
  rcases pairF_cases p v u n q v2 u2 n2 with h1 | h1 | ⟨h1, h2, h3, h4⟩
  · exfalso; unfold addpF at h; rw [if_neg (by omega)] at h; simp only at h; omega
  · exfalso; unfold addpF at h; rw [if_neg (by omega)] at h; simp only at h; omega
  · subst h4
    have h5 : pairF p v2 u2 n2 p v u n = 0 := by unfold pairF; rw [if_pos ⟨h3, h2⟩, if_pos rfl]
    have e : addpF p v u n p v2 u2 n2 = limF (addF p v u n v2 u2 n2) := by unfold addpF; rw [if_pos h1]
    have e2 : addpF p v2 u2 n2 p v u n = limF (addF p v u n v2 u2 n2) := by unfold addpF; rw [if_pos h5, addF_comm]
    rw [e] at h ⊢
    rw [e2]
    rcases limF_cases (addF p v u n v2 u2 n2) with ⟨h6, h7⟩ | h6
    · rw [h6] at h ⊢
      exact ⟨h2, h3, h7, add_end _ _ _ _ _ _ _, rfl⟩
    · rw [h6] at h; simp at h
theorem neg_zero {p v u n : Int} (h : padicB p v u n = true) : addpF p v u n p v (ngF p u n) n = limF ⟨p, v + n, 0, 0⟩ := by
  have h1 : pairF p v u n p v (ngF p u n) n = 0 := by unfold pairF; rw [if_pos ⟨h, padicB_ng h⟩, if_pos rfl]
  have e : addF p v u n v (ngF p u n) n = ⟨p, v + n, 0, 0⟩ := by
    obtain ⟨hp, hv, hu, hn, hb⟩ := padic_facts h
    rw [addF_le (Int.le_refl v)]
    unfold makeF
    by_cases h0 : n = 0
    · rw [if_pos (by omega)]
      congr 1
      omega
    · rw [if_neg (by omega)]
      have h2 : (u + ngF p u n * p ^ (v - v).toNat) % p ^ (min (v + n) (v + n) - v).toNat = 0 := by
        rw [show (v - v).toNat = 0 by omega, show (min (v + n) (v + n) - v).toNat = n.toNat by omega]
        unfold ngF
        rw [if_neg h0, Int.pow_zero, Int.mul_one, show u + (p ^ n.toNat - u) = p ^ n.toNat by omega, Int.emod_self]
      rw [h2]
      unfold knownF
      rw [if_pos rfl]
      congr 1
      omega
  unfold addpF
  rw [if_pos h1, e]
end Go.Proofs.Ytfbpkbnepojlnaa
