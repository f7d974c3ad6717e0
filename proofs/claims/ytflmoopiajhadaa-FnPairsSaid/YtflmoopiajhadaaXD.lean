/- Plain: derivatives by a prime, roots of polynomials in x^p, quotients by factors. -/
import Derived.Test.YtflmoopiajhadaaXC
import Derived.Test.YtflmoopiajhadaaMA
namespace Go.Proofs.Ytflmoopiajhadaa
open Go Go.RowKit

theorem der_last {p : Int} {f : List Int} {n : Nat} (hs : smallP p = true) (hf : mon p f) (hn : f.length = n + 1) (hn1 : 1 ≤ n) (hn8 : n ≤ 8) (h : redF p (derF f) = []) : (n : Int) % p = 0 := by
  have h1 : co (redF p (derF f)) (n - 1) = 0 := by rw [h]; simp [co]
  rw [co_red] at h1
  have h2 : co (derF f) (n - 1) = (n : Int) * co f n := by
    unfold derF derK co
    rw [hn, show n + 1 - 1 = n by omega]
    rw [List.getD_eq_getElem?_getD, List.getElem?_map, List.getElem?_range (by omega)]
    simp only [Option.map_some, Option.getD_some]
    rw [show n - 1 + 1 = n by omega, show ((n - 1 : Nat) : Int) + 1 = (n : Int) by omega]
  have h3 : co f n = 1 := by have := hf.2.2; rw [hn] at this; simpa using this
  rw [h2, h3, Int.mul_one] at h1
  exact h1
theorem der_len (p : Int) (f : List Int) : (redF p (derF f)).length ≤ f.length - 1 := by
  have := red_len p (derF f)
  rw [show (derF f).length = f.length - 1 from derK_len _ _] at this
  exact this
/-- Every p-th coefficient. -/
def rootK (P : Nat) (f : List Int) (k : Nat) : List Int := (List.range k).map fun t => f.getD (t * P) 0
theorem rootK_succ (P : Nat) (f : List Int) (k : Nat) : rootK P f (k + 1) = rootK P f k ++ [f.getD (k * P) 0] := by simp [rootK, List.range_succ]
theorem rootK_len (P : Nat) (f : List Int) (k : Nat) : (rootK P f k).length = k := by simp [rootK]
theorem rootK_mon {p : Int} {f : List Int} {n m : Nat} (hs : smallP p = true) (hf : mon p f) (hn : f.length = n + 1) (hm : n = m * p.toNat) : mon p (rootK p.toNat f (m + 1)) := by
  have hp := smallP_bd hs
  have hl := rootK_len p.toNat f (m + 1)
  have hco : ∀ t, t < m + 1 → co (rootK p.toNat f (m + 1)) t = f.getD (t * p.toNat) 0 := fun t ht => by
    unfold co rootK
    rw [List.getD_eq_getElem?_getD, List.getElem?_map, List.getElem?_range ht]; rfl
  have htop : co (rootK p.toNat f (m + 1)) m = 1 := by
    rw [hco m (by omega), ← hm]
    have := hf.2.2
    rw [hn] at this
    simpa [co] using this
  refine ⟨⟨fun x hx => ?_, ?_⟩, by omega, by rw [hl]; exact htop⟩
  · unfold rootK at hx
    obtain ⟨t, _, rfl⟩ := List.mem_map.1 hx
    exact getD_bd (b := p - 1) (by omega) hf.1.1 _
  · have h1 := lastNZ_at (xs := rootK p.toNat f (m + 1)) (k := m) hl
    rw [h1]
    have e : (rootK p.toNat f (m + 1))[m]'(by omega) = 1 := by
      have := htop
      unfold co at this
      rwa [getD_lt (by omega)] at this
    simp [e]
theorem mg_of_rem {p : Int} {f g : List Int} (hg : 1 ≤ g.length) (h : remP p f g = []) : mg p (co g) (co f) := by
  have h1 := rem_mg (p := p) (f := f) (g := g) hg
  rw [h] at h1
  exact h1.eq fun j => by simp [co_nil]
/-- The polynomial without its repeated factors, roughly. -/
theorem part_facts {p : Int} {f : List Int} (hs : smallP p = true) (hf : mon p f) (hl : 2 ≤ f.length) (hd : redF p (derF f) ≠ []) :
    mon p (quoP p f (commonP p f (redF p (derF f)))) ∧ 2 ≤ (quoP p f (commonP p f (redF p (derF f)))).length ∧ (quoP p f (commonP p f (redF p (derF f)))).length ≤ f.length ∧ mg p (co (quoP p f (commonP p f (redF p (derF f))))) (co f) ∧ mon p (commonP p f (redF p (derF f))) ∧ (commonP p f (redF p (derF f))).length ≤ f.length := by
  have hp := smallP_bd hs
  have hdm : isMod p (redF p (derF f)) := isMod_red (by omega) _
  have hd1 : 1 ≤ (redF p (derF f)).length := by
    rcases h : redF p (derF f) with _ | ⟨x, l⟩
    · exact absurd h hd
    · simp
  obtain ⟨c1, c2, c3⟩ := common_facts hs hf.1 hdm (by omega)
  have hcl := mg_len hs c1.1 c1.2.1 hdm hd1 c3
  have hdl := der_len p f
  obtain ⟨q1, q2, q3, q4⟩ := quo_facts hs hf c1 c2
  have hc1 := c1.2.1
  refine ⟨q2, by omega, by omega, ?_, c1, by omega⟩
  obtain ⟨K, hK⟩ : ∃ K, dg p K (co (commonP p f (redF p (derF f)))) := ⟨_, dg_list p _⟩
  refine ⟨co (commonP p f (redF p (derF f))), K, hK, fun j => ?_⟩
  rw [cvC]
  exact q4 j
end Go.Proofs.Ytflmoopiajhadaa
