/- Plain: balls are all roots. -/
import Derived.Test.YtdhnpmjoajaeiaaSA
namespace Go.Proofs.Ytdhnpmjoajaeiaa
open Go Go.RowKit

def rootsP (p : Int) (g : List Int) : List Int := ((List.range p.toNat).filter fun (a : Nat) => valF p (a : Int) g == 0).map fun (a : Nat) => (a : Int)
theorem mem_rootsP {p a : Int} {g : List Int} : a ∈ rootsP p g ↔ 0 ≤ a ∧ a < p ∧ p ∣ ev g a := by
  simp only [rootsP, List.mem_map, List.mem_filter, List.mem_range, beq_iff_eq, ev_mod]
  constructor
  · rintro ⟨n, ⟨h1, h2⟩, rfl⟩
    exact ⟨by omega, by omega, Int.dvd_of_emod_eq_zero h2⟩
  · rintro ⟨h1, h2, h3⟩
    exact ⟨a.toNat, ⟨by omega, by rw [show ((a.toNat : Nat) : Int) = a by omega]; exact Int.emod_eq_zero_of_dvd h3⟩, by omega⟩
theorem rootsP_ne (p : Int) (g : List Int) : (rootsP p g).Pairwise (· ≠ ·) := by
  unfold rootsP
  rw [List.pairwise_map]
  exact (List.Pairwise.filter _ List.nodup_range).imp fun h e => h (by omega)
def ballsF (p : Int) : Nat → List Int → Nat → Int → Nat → List (Int × Nat)
  | 0, _, _, r, e => [(r, e)]
  | t + 1, f, k, r, e => if cntF f = 0 ∨ k ≤ vl (cntF f) p then [(r, e)] else
      (rootsP p (f.map (· / p ^ vl (cntF f) p))).flatMap fun a => ballsF p t (subF (p ^ (k - vl (cntF f) p)) a p (f.map (· / p ^ vl (cntF f) p))) (k - vl (cntF f) p) (r + a * p ^ e) (e + 1)
theorem pow_cancel {p x : Int} {v k : Nat} (hp : 2 ≤ p) (h : v ≤ k) : p ^ k ∣ p ^ v * x ↔ p ^ (k - v) ∣ x := by
  have h0 : p ^ v ≠ 0 := by have : 0 < p ^ v := Int.pow_pos (by omega); omega
  have e : p ^ k = p ^ v * p ^ (k - v) := by rw [← Int.pow_add]; congr 1; omega
  rw [e]
  constructor
  · rintro ⟨t, ht⟩
    exact ⟨t, Int.eq_of_mul_eq_mul_left h0 (by rw [ht]; grind)⟩
  · rintro ⟨t, rfl⟩
    exact ⟨t, by grind⟩
theorem balls_spec {p : Int} (hp : 2 ≤ p) : ∀ (t : Nat) (f : List Int) (k : Nat) (r : Int) (e : Nat), 1 ≤ k → ((∀ c ∈ f, p ∣ c) ∧ k ≤ t ∨ k + 1 ≤ t) → (0 ≤ r ∧ r < p ^ e) →
    (∀ b ∈ ballsF p t f k r e, e ≤ b.2 ∧ b.2 ≤ e + k ∧ ((∀ c ∈ f, p ∣ c) → b.2 + 1 ≤ e + k) ∧ (0 ≤ b.1 ∧ b.1 < p ^ b.2) ∧ p ^ e ∣ b.1 - r) ∧
    (∀ y, p ^ k ∣ ev f y ↔ ∃ b ∈ ballsF p t f k r e, p ^ b.2 ∣ (r + p ^ e * y) - b.1) ∧
    (ballsF p t f k r e).Pairwise (fun b b' => ∀ x, p ^ b.2 ∣ x - b.1 → ¬ p ^ b'.2 ∣ x - b'.1) := by
  intro t
  induction t with
  | zero => intro f k r e hk hf _; exfalso; omega
  | succ t ih =>
    intro f k r e hk hf hr
    have hall : ∀ c ∈ f, cntF f ∣ c := fun c hc => cnt_mem hc
    rw [ballsF]
    split
    · rename_i hst
      have hev : ∀ y, p ^ k ∣ ev f y := fun y => ev_dvd (fun c hc => by
        rcases hst with h0 | h0
        · have := hall c hc
          rw [h0] at this
          rw [Int.zero_dvd.1 this]
          exact Int.dvd_zero _
        · by_cases hz : cntF f = 0
          · have := hall c hc
            rw [hz] at this
            rw [Int.zero_dvd.1 this]
            exact Int.dvd_zero _
          · obtain ⟨c0, h1, _, _⟩ := vl_spec hp hz
            exact Int.dvd_trans (Int.dvd_trans (pow_dvd' p h0) ⟨c0, by rw [Int.mul_comm]; exact h1⟩) (hall c hc)) y
      refine ⟨fun b hb => ?_, fun y => ⟨fun _ => ⟨(r, e), by simp, ?_⟩, fun _ => hev y⟩, by simp⟩
      · simp only [List.mem_singleton] at hb
        subst hb
        exact ⟨Nat.le_refl _, by simp, fun _ => by show e + 1 ≤ _; omega, hr, by show _ ∣ r - r; rw [Int.sub_self]; exact Int.dvd_zero _⟩
      · show p ^ e ∣ r + p ^ e * y - r
        rw [show r + p ^ e * y - r = p ^ e * y by omega]
        exact Int.dvd_mul_right _ _
    · rename_i hgo
      have hd0 : cntF f ≠ 0 := fun h => hgo (.inl h)
      have hv : vl (cntF f) p < k := by
        rcases Nat.lt_or_ge (vl (cntF f) p) k with h | h
        · exact h
        · exact absurd (.inr h) hgo
      obtain ⟨v, hve⟩ : ∃ v, v = vl (cntF f) p := ⟨_, rfl⟩
      obtain ⟨c0, hc0, hc1, _⟩ := vl_spec hp hd0
      rw [← hve] at hv hc0 ⊢
      have hq0 : p ^ v ≠ 0 := by have : 0 < p ^ v := Int.pow_pos (by omega); omega
      have hdv : ∀ c ∈ f, p ^ v ∣ c := fun c hc => Int.dvd_trans ⟨c0, by rw [Int.mul_comm]; exact hc0⟩ (hall c hc)
      have hv1 : (∀ c ∈ f, p ∣ c) → 1 ≤ v := fun h => by
        rcases Nat.eq_zero_or_pos v with h0 | h0
        · exfalso
          have := cnt_of h
          rw [hc0, h0, Int.pow_zero, Int.mul_one] at this
          exact hc1 (Int.emod_eq_zero_of_dvd this)
        · exact h0
      obtain ⟨g, hg⟩ : ∃ g, g = f.map (· / p ^ v) := ⟨_, rfl⟩
      have hfg : ∀ y, ev f y = p ^ v * ev g y := fun y => by rw [hg]; exact ev_div hq0 hdv y
      rw [← hg]
      clear hg hgo hc0 hve hall
      obtain ⟨k', hk'⟩ : ∃ k', k' = k - v := ⟨_, rfl⟩
      rw [← hk']
      have hk1 : 1 ≤ k' := by omega
      have hpk : p ∣ p ^ k' := by
        obtain ⟨s, hs⟩ : ∃ s, k' = s + 1 := ⟨k' - 1, by omega⟩
        rw [hs, Int.pow_succ]; exact Int.dvd_mul_left _ _
      have hpe : p ^ (e + 1) = p ^ e * p := Int.pow_succ _ _
      have hpe0 : 0 < p ^ e := Int.pow_pos (by omega)
      have hsub : ∀ a, p ∣ ev g a → ∀ c ∈ subF (p ^ k') a p g, p ∣ c := fun a ha c hc => by
        obtain ⟨i, hi, rfl⟩ := List.getElem_of_mem hc
        have h1 := sub_dvd (a := a) hpk g i
        rw [List.getD_eq_getElem?_getD, List.getElem?_eq_getElem hi] at h1
        rcases Nat.eq_zero_or_pos i with h0 | h0
        · subst h0
          have h2 := h1.2
          rw [List.getD_eq_getElem?_getD, List.getElem?_eq_getElem hi] at h2
          have := Int.dvd_add h2 ha
          simpa using this
        · exact h1.1 h0
      have IH : ∀ a ∈ rootsP p g, _ := fun a ha => by
        obtain ⟨a0, a1, a2⟩ := mem_rootsP.1 ha
        exact ih (subF (p ^ k') a p g) k' (r + a * p ^ e) (e + 1) hk1 (.inl ⟨hsub a a2, by
          rcases hf with ⟨h1, h2⟩ | h1
          · have := hv1 h1; omega
          · omega⟩) ⟨by have := Int.mul_nonneg a0 (show 0 ≤ p ^ e by omega); omega, by
            rw [hpe]
            have := Int.mul_le_mul_of_nonneg_right (show a ≤ p - 1 by omega) (show 0 ≤ p ^ e by omega)
            have e2 : (p - 1) * p ^ e = p ^ e * p - p ^ e := by grind
            omega⟩
      have hnear : ∀ a ∈ rootsP p g, ∀ b ∈ ballsF p t (subF (p ^ k') a p g) k' (r + a * p ^ e) (e + 1), ∀ x, p ^ b.2 ∣ x - b.1 → p ^ (e + 1) ∣ x - (r + a * p ^ e) := fun a ha b hb x hx => by
        obtain ⟨h1, _, _, _, h5⟩ := (IH a ha).1 b hb
        have := Int.dvd_add (Int.dvd_trans (pow_dvd' p h1) hx) h5
        rwa [show x - b.1 + (b.1 - (r + a * p ^ e)) = x - (r + a * p ^ e) by omega] at this
      have hcan : ∀ z, p ^ (e + 1) ∣ p ^ e * z → p ∣ z := fun z hz => by
        have := (pow_cancel (x := z) hp (show e ≤ e + 1 by omega)).1 hz
        rwa [show e + 1 - e = 1 by omega, Int.pow_succ, Int.pow_zero, Int.one_mul] at this
      refine ⟨fun b hb => ?_, fun y => ⟨fun hy => ?_, fun hy => ?_⟩, ?_⟩
      · obtain ⟨a, ha, hb⟩ := List.mem_flatMap.1 hb
        obtain ⟨a0, a1, a2⟩ := mem_rootsP.1 ha
        obtain ⟨h1, h2, h3, h4, h5⟩ := (IH a ha).1 b hb
        have h6 := h3 (hsub a a2)
        refine ⟨by omega, by omega, fun h => by have := hv1 h; omega, h4, ?_⟩
        have h7 := Int.dvd_trans (pow_dvd' p (show e ≤ e + 1 by omega)) h5
        have := Int.dvd_add h7 (Int.dvd_mul_left a (p ^ e))
        rwa [show b.1 - (r + a * p ^ e) + a * p ^ e = b.1 - r by omega] at this
      · rw [hfg, pow_cancel hp (by omega), ← hk'] at hy
        obtain ⟨a, ha⟩ : ∃ a, a = y % p := ⟨_, rfl⟩
        obtain ⟨z, hz⟩ : ∃ z, z = y / p := ⟨_, rfl⟩
        have hyz : y = a + p * z := by rw [ha, hz]; exact (Int.emod_add_mul_ediv y p).symm
        have hra : p ∣ ev g a := by
          have h1 := Int.dvd_trans hpk hy
          have h2 := ev_congr (p := p) (h := p * z) a g (Int.dvd_mul_right _ _)
          rw [← hyz] at h2
          refine Int.dvd_of_emod_eq_zero ?_
          rw [← h2]
          exact Int.emod_eq_zero_of_dvd h1
        have hmem : a ∈ rootsP p g := mem_rootsP.2 ⟨by rw [ha]; exact Int.emod_nonneg _ (by omega), by rw [ha]; exact Int.emod_lt_of_pos _ (by omega), hra⟩
        have h3 := sub_ev (m := p ^ k') (a := a) (p := p) z g
        rw [← hyz] at h3
        have h4 : p ^ k' ∣ ev (subF (p ^ k') a p g) z := by
          have := Int.dvd_add (Int.dvd_of_emod_eq_zero h3) hy
          rwa [show ev (subF (p ^ k') a p g) z - ev g y + ev g y = ev (subF (p ^ k') a p g) z by omega] at this
        obtain ⟨b, hb, hbd⟩ := ((IH a hmem).2.1 z).1 h4
        refine ⟨b, List.mem_flatMap.2 ⟨a, hmem, hb⟩, ?_⟩
        rw [hyz, show r + p ^ e * (a + p * z) - b.1 = r + a * p ^ e + p ^ (e + 1) * z - b.1 by rw [hpe]; grind]
        exact hbd
      · obtain ⟨b, hb, hbd⟩ := hy
        obtain ⟨a, ha, hb⟩ := List.mem_flatMap.1 hb
        obtain ⟨a0, a1, a2⟩ := mem_rootsP.1 ha
        have h1 := hnear a ha b hb _ hbd
        rw [show r + p ^ e * y - (r + a * p ^ e) = p ^ e * (y - a) by grind] at h1
        obtain ⟨z, hz⟩ := hcan _ h1
        have hyz : y = a + p * z := by omega
        have h4 := ((IH a ha).2.1 z).2 ⟨b, hb, by
          rw [hyz] at hbd
          rwa [show r + p ^ e * (a + p * z) - b.1 = r + a * p ^ e + p ^ (e + 1) * z - b.1 by rw [hpe]; grind] at hbd⟩
        rw [hfg, pow_cancel hp (by omega), ← hk']
        have h3 := sub_ev (m := p ^ k') (a := a) (p := p) z g
        rw [← hyz] at h3
        have := Int.dvd_sub h4 (Int.dvd_of_emod_eq_zero h3)
        rwa [show ev (subF (p ^ k') a p g) z - (ev (subF (p ^ k') a p g) z - ev g y) = ev g y by omega] at this
      · rw [List.pairwise_flatMap]
        refine ⟨fun a ha => (IH a ha).2.2, ?_⟩
        refine List.Pairwise.imp_of_mem ?_ (rootsP_ne p g)
        intro a a' ha ha' hne b hb b' hb' x hx hx'
        have h1 := hnear a ha b hb x hx
        have h2 := hnear a' ha' b' hb' x hx'
        have h3 := Int.dvd_sub h1 h2
        rw [show x - (r + a * p ^ e) - (x - (r + a' * p ^ e)) = p ^ e * (a' - a) by grind] at h3
        obtain ⟨z, hz⟩ := hcan _ h3
        obtain ⟨b0, b1, _⟩ := mem_rootsP.1 ha
        obtain ⟨d0, d1, _⟩ := mem_rootsP.1 ha'
        have hz0 : z = 0 := by
          rcases Int.lt_trichotomy z 0 with h | h | h
          · have := Int.mul_le_mul_of_nonneg_left (show z ≤ -1 by omega) (show 0 ≤ p by omega); omega
          · exact h
          · have := Int.mul_le_mul_of_nonneg_left (show 1 ≤ z by omega) (show 0 ≤ p by omega); omega
        rw [hz0, Int.mul_zero] at hz
        exact hne (by omega)
end Go.Proofs.Ytdhnpmjoajaeiaa
