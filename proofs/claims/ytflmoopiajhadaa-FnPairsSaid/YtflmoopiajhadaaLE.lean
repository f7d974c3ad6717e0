/- Plain: the lifting of a pair: what stands in each round. -/
import Derived.Test.YtflmoopiajhadaaLD
namespace Go.Proofs.Ytflmoopiajhadaa
open Go Go.RowKit

theorem red_len (m : Int) (a : List Int) : (redF m a).length ≤ a.length := by
  have := trimF_len (a.map (· % m))
  simpa [redF] using this
/-- In range of the modulus, of the length of g, monic, and g by the prime. -/
def lif (p m : Int) (g a : List Int) : Prop := (∀ x ∈ a, 0 ≤ x ∧ x ≤ m - 1) ∧ a.length = g.length ∧ co a (g.length - 1) = 1 ∧ ∀ j, (co a j - co g j) % p = 0
theorem lif.red {p m : Int} {g a : List Int} (hp : 1 ≤ p) (hg : isMod p g) (k : lif p m g a) : redF p a = g :=
  mod_same hp (isMod_red hp _) hg fun j => by
    have := mod_of0 (k.2.2.2 j)
    rw [co_red]
    exact mod_eq0 (by rw [Int.emod_emod]; exact this)
theorem lif.refl {p m : Int} {g : List Int} (hg : isMod p g) (hpm : p ≤ m) (hmo : co g (g.length - 1) = 1) : lif p m g g :=
  ⟨fun x hx => by have := hg.1 x hx; omega, rfl, hmo, fun j => by rw [Int.sub_self]; rfl⟩
theorem dif_top {m : Int} {f a b : List Int} {k l : Nat} (hf : f.length = k + l + 1) (hf1 : co f (k + l) = 1) (ha : a.length = k + 1) (ha1 : co a k = 1) (hb : b.length = l + 1) (hb1 : co b l = 1) : ∀ j, k + l ≤ j → co (dif m f a b) j = 0 := by
  intro j hj
  have e : cv (co a) (co b) j = co f j := by
    by_cases h : j = k + l
    · subst h
      rw [hf1]
      have := sumR_only (p := 0) (f := fun i => co a i * co b (k + l - i)) (k := k) (k + l + 1) (by omega) (fun i hi hne => by
        rw [Int.emod_zero]
        by_cases h2 : k < i
        · rw [show co a i = 0 from getD_out (by omega)]; simp
        · rw [show co b (k + l - i) = 0 from getD_out (by omega)]; simp)
      rw [Int.emod_zero, Int.emod_zero, ha1, show k + l - k = l by omega, hb1] at this
      exact this
    · rw [show co f j = 0 from getD_out (by omega)]
      refine sumR_zero _ _ fun i hi => ?_
      by_cases h2 : k < i
      · rw [show co a i = 0 from getD_out (by omega)]; simp
      · rw [show co b (j - i) = 0 from getD_out (by omega)]; simp
  unfold dif
  rw [co_red, co_add]
  have e2 : co (prodF a b) j = cv (co a) (co b) j := by
    unfold prodF co
    rw [if_neg (by rintro (h | h) <;> subst h <;> simp at ha hb), trimF_getD]
    exact prod_conv (by omega) j
  rw [e2, e]
  rw [show co f j + -1 * co f j = 0 by omega]
  rfl
theorem mis_len {p m q : Int} {f a b : List Int} {k l : Nat} (hp : 1 ≤ p) (hf : f.length = k + l + 1) (hf1 : co f (k + l) = 1) (ha : a.length = k + 1) (ha1 : co a k = 1) (hb : b.length = l + 1) (hb1 : co b l = 1) : (misP p m q f a b).length ≤ k + l :=
  len_of (isMod_red hp _) fun j hj => by
    have h := dif_top (m := m) hf hf1 ha ha1 hb hb1 j hj
    unfold misP
    rw [co_red, Int.emod_emod]
    have : co ((dif m f a b).map (· / q)) j = co (dif m f a b) j / q := by
      unfold co
      simp only [List.getD_eq_getElem?_getD, List.getElem?_map]
      cases (dif m f a b)[j]? with
      | none => simp
      | some x => simp
    rw [this, h]
    simp
theorem lif.next {p m q : Int} {g a x : List Int} (hm : 2 ≤ m) (hpm : m % p = 0) (hq : q % p = 0) (k : lif p m g a) (hl : 1 ≤ g.length) (hx : x.length < g.length) : lif p m g (redF m (addK q a x)) := by
  obtain ⟨h1, h2, h3, h4⟩ := k
  have e1 := red_len m (addK q a x)
  have e2 := addK_len q a x
  have e3 : co (redF m (addK q a x)) (g.length - 1) = 1 := by
    rw [co_red, co_add, h3, show co x (g.length - 1) = 0 from getD_out (by omega)]
    rw [Int.mul_zero, Int.add_zero]
    exact Int.emod_eq_of_lt (by omega) (by omega)
  refine ⟨fun y hy => modL_mem (by omega) y (trimF_mem hy), ?_, e3, fun j => ?_⟩
  · rcases Nat.lt_or_ge (g.length - 1) (redF m (addK q a x)).length with h | h
    · omega
    · have : co (redF m (addK q a x)) (g.length - 1) = 0 := getD_out h
      omega
  · rw [co_red, co_add]
    refine mod_eq0 ?_
    rw [Int.emod_emod_of_dvd _ (Int.dvd_of_emod_eq_zero hpm)]
    refine mod_of0 ?_
    have h5 := h4 j
    have h6 : q * co x j % p = 0 := mod_mul0 hq
    rw [show co a j + q * co x j - co g j = co a j - co g j + q * co x j by omega]
    exact mod_add0 h5 h6
/-- The lifting: round by round. -/
def liftP (p m : Int) (f g h : List Int) : Nat → Int → List Int → List Int → List Int × List Int
  | 0, _, a, b => (a, b)
  | k + 1, q, a, b => if q < m then liftP p m f g h k (q * p) (redF m (addK q a (stX p (misP p m q f a b) (invP p h g) g))) (redF m (addK q b (stX p (misP p m q f a b) (invP p g h) h))) else (a, b)
theorem liftP_stop {p m q : Int} {f g h a b : List Int} {k : Nat} (hq : ¬ q < m) : liftP p m f g h k q a b = (a, b) := by
  cases k with
  | zero => rfl
  | succ k => rw [liftP, if_neg hq]
/-- What is given of a pair. -/
def pairG (p m : Int) (f g h : List Int) : Prop := smallP p = true ∧ 2 ≤ m ∧ m ≤ 1000000000 ∧ p ≤ m ∧ m % p = 0 ∧ isMod p g ∧ isMod p h ∧ 2 ≤ g.length ∧ 2 ≤ h.length ∧ g.length ≤ 9 ∧ h.length ≤ 9 ∧ f.length ≤ 9 ∧ f.length + 1 = g.length + h.length ∧ co f (f.length - 1) = 1 ∧ (∀ x ∈ f, 0 ≤ x ∧ x ≤ m - 1) ∧ co g (g.length - 1) = 1 ∧ co h (h.length - 1) = 1 ∧ cop p g h
theorem pair_mis {p m q : Int} {f g h a b : List Int} (k : pairG p m f g h) (ka : lif p m g a) (kb : lif p m h b) : (misP p m q f a b).length + 2 ≤ g.length + h.length ∧ isMod p (misP p m q f a b) := by
  obtain ⟨hs, m2, _, _, _, hg, hh, hlg, hlh, _, _, _, hlf, hf1, _, hg1, hh1, hc⟩ := k
  have hp := smallP_bd hs
  have := mis_len (p := p) (m := m) (q := q) (f := f) (a := a) (b := b) (k := g.length - 1) (l := h.length - 1) (by omega) (by omega) (by rw [show g.length - 1 + (h.length - 1) = f.length - 1 by omega]; exact hf1) (by rw [ka.2.1]; omega) ka.2.2.1 (by rw [kb.2.1]; omega) kb.2.2.1
  exact ⟨by omega, isMod_red (by omega) _⟩
/-- What the program's text does in a round is the same. -/
theorem pair_step {p m q : Int} {f g h a b : List Int} (k : pairG p m f g h) (ka : lif p m g a) (kb : lif p m h b) :
    remP p (timesP p (misP p m q f a b) (cofP p h g)) (redF p a) = stX p (misP p m q f a b) (invP p h g) g ∧
    quoP p (redF p (addK (-1) (misP p m q f a b) (timesP p (stX p (misP p m q f a b) (invP p h g) g) (redF p b)))) (redF p a) = stX p (misP p m q f a b) (invP p g h) h := by
  obtain ⟨hm1, _⟩ := pair_mis (q := q) k ka kb
  obtain ⟨hs, m2, _, _, _, hg, hh, hlg, hlh, _, _, _, hlf, hf1, _, hg1, hh1, hc⟩ := k
  have hp := smallP_bd hs
  rw [ka.red (by omega) hg, kb.red (by omega) hh]
  exact ⟨step_one hs hg (by omega), step_two hs hg hh hlg hlh hc hm1⟩
theorem pair_next {p m q : Int} {f g h a b : List Int} (k : pairG p m f g h) (ka : lif p m g a) (kb : lif p m h b) (hq : q % p = 0) :
    lif p m g (redF m (addK q a (stX p (misP p m q f a b) (invP p h g) g))) ∧ lif p m h (redF m (addK q b (stX p (misP p m q f a b) (invP p g h) h))) := by
  obtain ⟨hs, m2, _, _, hpm, hg, hh, hlg, hlh, _, _, _, hlf, hf1, _, hg1, hh1, hc⟩ := k
  exact ⟨ka.next m2 hpm hq (by omega) (stX_len hs hg (by omega)), kb.next m2 hpm hq (by omega) (stX_len hs hh (by omega))⟩
end Go.Proofs.Ytflmoopiajhadaa
