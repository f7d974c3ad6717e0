/- Pairs: lifts are what they should be, plain. -/
import Derived.Test.YtflmoopiajhadaaLW8
import Derived.Test.YtflmoopiajhadaaMA
namespace Go.Proofs.Ytflmoopiajhadaa
open Go Go.RowKit

theorem pow1 (p : Int) : p ^ 1 = p := by first | exact Int.pow_one p | (rw [Int.pow_succ, Int.pow_zero]; omega) | grind
theorem lift_codes (p n : Int) (f g h : List Int) : (arePairF p n f g h).1 = decide ((liftPairF p n f g h).2.2 = 0) ∧ ((liftPairF p n f g h).2.2 = 0 → (arePairF p n f g h).2 = 0) := by
  unfold arePairF liftPairF
  by_cases hp : pairingF p n f g h = 0
  · rw [if_pos hp, if_pos hp]
    by_cases hi : isPairB p f g h = true
    · rw [if_pos hi]; simp [hi]
    · rw [if_neg hi]; simp [hi]
  · rw [if_neg hp, if_neg hp]
    simp [hp]
theorem ring_lif {p n : Int} {g a : List Int} (hr : ringB p n = true) (k : lif p (p ^ n.toNat) g a) (hl : 1 ≤ g.length) (hl9 : g.length ≤ 9) : inRingB p n a = true := by
  obtain ⟨k1, k2, k3, _⟩ := k
  have h1 : lastNZ a = true := by
    rw [lastNZ_at (k := g.length - 1) (by omega)]
    unfold co at k3
    have e : a[g.length - 1]'(by omega) = 1 := by rw [← k3, List.getD_eq_getElem?_getD, List.getElem?_eq_getElem (by omega)]; rfl
    rw [e]
    rfl
  have h2 : a.any (noRes p n) = false := by
    rw [List.any_eq_false]
    intro x hx
    have := k1 x hx
    unfold noRes inB
    simp
    omega
  unfold inRingB
  rw [hr, h1, h2]
  simp
  omega
theorem pair_law {p n : Int} {f g h : List Int} (h0 : (liftPairF p n f g h).2.2 = 0) :
    multiplyInRingF p n (liftPairF p n f g h).1 (liftPairF p n f g h).2.1 = (f, 0) ∧ imgF p n (liftPairF p n f g h).1 = (g, 0) ∧ imgF p n (liftPairF p n f g h).2.1 = (h, 0) := by
  have hq : pairingF p n f g h = 0 := by
    unfold liftPairF at h0
    by_cases hp : pairingF p n f g h = 0
    · exact hp
    · rw [if_neg hp] at h0; exact h0
  have hi : isPairB p f g h = true := by
    unfold liftPairF at h0
    rw [if_pos hq] at h0
    by_cases hi : isPairB p f g h = true
    · exact hi
    · rw [if_neg hi] at h0; exact absurd h0 (by decide)
  obtain ⟨k, hr, hn, htm⟩ := pairG_of hq hi
  obtain ⟨q1, _, _, _⟩ := pairingF_0 hq
  obtain ⟨_, hf9, hfb, hfl⟩ := inRing_facts q1
  have hs := k.1
  have hp := smallP_bd hs
  have hbase : ∀ j, (co f j - cv (co g) (co h) j) % p ^ 1 = 0 := fun j => by
    rw [pow1 p]
    refine mod_eq0 ?_
    rw [← co_times, htm, co_red]
  have k' := k
  obtain ⟨_, m2, _, hpm, _, hg, hh, hlg, hlh, hg9, hh9, _, _, _, _, hg1, hh1, _⟩ := k'
  have HE := lift_end k rfl n.toNat 1 g h (by omega) (by omega) (by omega) (lif.refl hg hpm hg1) (lif.refl hh hpm hh1) hbase
  rw [pow1 p] at HE
  have e : liftPairF p n f g h = ((liftR p (p ^ n.toNat) n.toNat f g h).1, (liftR p (p ^ n.toNat) n.toNat f g h).2, 0) := by unfold liftPairF; rw [if_pos hq, if_pos hi]
  rw [e]
  unfold liftR
  obtain ⟨A, hA⟩ : ∃ A, A = liftP p (p ^ n.toNat) f g h n.toNat p g h := ⟨_, rfl⟩
  rw [← hA] at HE ⊢
  obtain ⟨A, B⟩ := A
  obtain ⟨e1, e2, e3⟩ := HE
  simp only at e1 e2 e3 ⊢
  have r1 := ring_lif hr e1 (by omega) hg9
  have r2 := ring_lif hr e2 (by omega) hh9
  obtain ⟨M, hM⟩ : ∃ M, M = p ^ n.toNat := ⟨_, rfl⟩
  rw [← hM] at e3 m2 hfb
  have hprod : mulR M A B = f := by
    refine mod_same (p := M) (by omega) (by rw [← redF_prod]; exact isMod_red (by omega) _) ⟨hfb, hfl⟩ fun j => ?_
    have h1 := e3 j
    have h2 : co (mulR M A B) j = cv (co A) (co B) j % M := mulR_getD _ _ _ _
    rw [h2]
    refine mod_eq0 ?_
    rw [Int.emod_emod]
    exact (mod_of0 h1).symm
  refine ⟨?_, ?_, ?_⟩
  · unfold multiplyInRingF
    rw [if_pos ⟨r1, r2⟩, ← hM, hprod, if_pos hf9]
  · unfold imgF
    rw [if_pos r1, lif.red (by omega) hg e1]
  · unfold imgF
    rw [if_pos r2, lif.red (by omega) hh e2]
end Go.Proofs.Ytflmoopiajhadaa
