/- Plain: coprime polynomials; a polynomial v with f a divisor of v^p - v splits f. -/
import Derived.Test.YtflmoopiajhadaaXA
namespace Go.Proofs.Ytflmoopiajhadaa
open Go Go.RowKit

theorem cv_const (c : Int) (x : Nat → Int) : cv (co [c]) x = sc c x := by
  rw [co_cons, co_zr, cv_zr, ad_zr, sc_cv, cv1]
/-- Monic by p. -/
def mon (p : Int) (f : List Int) : Prop := isMod p f ∧ 1 ≤ f.length ∧ co f (f.length - 1) = 1
theorem mon.top {p : Int} {f : List Int} (hs : smallP p = true) (h : mon p f) : top p (f.length - 1) (co f) := top_list hs h.1 h.2.1
theorem co_ge {f : List Int} {j : Nat} (h : co f j ≠ 0) : j < f.length := by
  rcases Nat.lt_or_ge j f.length with h1 | h1
  · exact h1
  · exact absurd (getD_out h1) h
theorem times_one_len {p : Int} (hs : smallP p = true) {f : List Int} (hf : isMod p f) (hl : 1 ≤ f.length) :
    mon p (monicP p f) ∧ (monicP p f).length = f.length ∧ mg p (co (monicP p f)) (co f) ∧ mg p (co f) (co (monicP p f)) := by
  have hp := smallP_bd hs
  have hne : f ≠ [] := fun h => by rw [h] at hl; simp at hl
  have hlast := isMod_last hf hl
  have hi := inv_ok hs hlast
  have hL : co f (f.length - 1) = f.getD (f.length - 1) 0 := rfl
  obtain ⟨L, hL2⟩ : ∃ L, L = f.getD (f.length - 1) 0 := ⟨_, rfl⟩
  rw [← hL2] at hi hL hlast
  obtain ⟨u, hu⟩ : ∃ u, u = inv L p := ⟨_, rfl⟩
  rw [← hu] at hi
  have e : monicP p f = timesP p f [u] := by unfold monicP; rw [if_neg hne, ← hL2, ← hu]
  have ec : ∀ j, co (monicP p f) j = u * co f j % p := fun j => by
    rw [e, co_times, cvC, cv_const]; rfl
  have hm : isMod p (monicP p f) := by rw [e]; exact timesP_mod (by omega) _ _
  have htop : co (monicP p f) (f.length - 1) = 1 := by rw [ec, hL]; exact hi
  have h1 := co_ge (f := monicP p f) (j := f.length - 1) (by rw [htop]; decide)
  have h2 : (monicP p f).length ≤ f.length := by
    have := times_len (p := p) (by omega) f [u]
    rw [← e] at this
    simpa using this
  have hlen : (monicP p f).length = f.length := by omega
  refine ⟨⟨hm, by omega, by rw [hlen]; exact htop⟩, hlen, ?_, ?_⟩
  · refine ⟨sc L one, 1, (dg_one p).scale L, fun j => ?_⟩
    rw [sc_cv, cv1]
    show (co f j - L * co (monicP p f) j) % p = 0
    rw [ec]
    have h3 := mod_self0 (u * co f j) p
    have h4 : (u * L - 1) % p = 0 := by rw [Int.sub_emod, hi, Int.emod_eq_of_lt (show (0 : Int) ≤ 1 by omega) (by omega)]; rfl
    rw [show co f j - L * (u * co f j % p) = L * (u * co f j - u * co f j % p) - (u * L - 1) * co f j by grind]
    exact mod_sub0 (mod_mul0' h3) (mod_mul0 h4)
  · refine ⟨sc u one, 1, (dg_one p).scale u, fun j => ?_⟩
    rw [sc_cv, cv1]
    show (co (monicP p f) j - u * co f j) % p = 0
    rw [ec, show u * co f j % p - u * co f j = -(u * co f j - u * co f j % p) by omega]
    exact neg0 (mod_self0 _ _)
theorem com_facts {p : Int} (hs : smallP p = true) : ∀ (n : Nat) (f g : List Int), isMod p f → isMod p g → g.length ≤ n → 1 ≤ f.length →
    mon p (comF p n f g) ∧ mg p (co (comF p n f g)) (co f) ∧ mg p (co (comF p n f g)) (co g) := by
  intro n
  induction n with
  | zero =>
    intro f g hf hg hl hf1
    have : g = [] := List.eq_nil_of_length_eq_zero (by omega)
    subst this
    rw [comF_nil]
    obtain ⟨k1, _, k2, _⟩ := times_one_len hs hf hf1
    exact ⟨k1, k2, mg_nil _ _⟩
  | succ n ih =>
    intro f g hf hg hl hf1
    by_cases h0 : g = []
    · subst h0
      rw [comF_nil]
      obtain ⟨k1, _, k2, _⟩ := times_one_len hs hf hf1
      exact ⟨k1, k2, mg_nil _ _⟩
    · rw [comF_step h0]
      have hg1 : 1 ≤ g.length := by rcases g with _ | ⟨x, g⟩ <;> simp_all
      have hr := rem_len hs hf.1 hg hg1
      obtain ⟨k1, k2, k3⟩ := ih g (remP p f g) hg (isMod_rem hs hf.1) (by omega) hg1
      refine ⟨k1, ?_, k2⟩
      refine ((k2.cvL (dg_list p (quoP p f g))).add k3).of fun j => ?_
      have := div_eq (p := p) (f := f) hg1 j
      rw [show cv (co (quoP p f g)) (co g) j + co (remP p f g) j - co f j = -(co f j - (co (remP p f g) j + cv (co (quoP p f g)) (co g) j)) by omega]
      exact neg0 this
theorem common_facts {p : Int} (hs : smallP p = true) {f g : List Int} (hf : isMod p f) (hg : isMod p g) (hl : 1 ≤ f.length) : mon p (commonP p f g) ∧ mg p (co (commonP p f g)) (co f) ∧ mg p (co (commonP p f g)) (co g) :=
  com_facts hs _ f g hf hg (Nat.le_refl _) hl
theorem mg_len {p : Int} {f g : List Int} (hs : smallP p = true) (hg : isMod p g) (hg1 : 1 ≤ g.length) (hf : isMod p f) (hf1 : 1 ≤ f.length) (h : mg p (co g) (co f)) : g.length ≤ f.length := by
  rcases Nat.lt_or_ge f.length g.length with hl | hl
  · exfalso
    have h1 := mg.small (top_list hs hg hg1) h ((dg_list p f).mono (by omega)) (f.length - 1)
    have h2 := isMod_last hf hf1
    unfold co at h1
    rw [Int.emod_eq_of_lt (by omega) (by omega)] at h1
    omega
  · exact hl
/-- Division without a rest. -/
theorem quo_facts {p : Int} {f g : List Int} (hs : smallP p = true) (hf : mon p f) (hg : mon p g) (h : mg p (co g) (co f)) :
    remP p f g = [] ∧ mon p (quoP p f g) ∧ (quoP p f g).length + g.length = f.length + 1 ∧ eqm p (co f) (cv (co (quoP p f g)) (co g)) := by
  have hp := smallP_bd hs
  have hl := mg_len hs hg.1 hg.2.1 hf.1 hf.2.1 h
  have hr : remP p f g = [] := by
    have hrl := rem_len hs hf.1.1 hg.1 hg.2.1
    refine small_eq (N := g.length - 1) hs hg.1 hg.2.1 (isMod_rem hs hf.1.1) (isMod_nil p) ((dg_list p _).mono (by omega)) ((dg_list p _).mono (by simp)) (by have := hg.2.1; omega) ?_
    exact (h.sub (rem_mg (p := p) (f := f) (g := g) hg.2.1)).eq fun j => by simp [co_nil]; omega
  have he : eqm p (co f) (cv (co (quoP p f g)) (co g)) := fun j => by
    have := div_eq (p := p) (f := f) (g := g) hg.2.1 j
    rw [hr] at this
    simpa [co_nil] using this
  have hqm := isMod_quo (g := g) hs hf.1.1
  have hqd : dg p (f.length - g.length + 1) (co (quoP p f g)) := top_deg (hg.top hs) (quoP p f g).length (dg_list p _) fun j hj => by
    have h1 := dg_list p f j (by have := hg.2.1; omega)
    have := mod_sub0 h1 (he j)
    rwa [show co f j - (co f j - cv (co (quoP p f g)) (co g) j) = cv (co (quoP p f g)) (co g) j by omega] at this
  have hql := len_of hqm hqd
  have htop : co (quoP p f g) (f.length - g.length) = 1 := by
    have h1 := he (f.length - 1)
    have hz : cv (co (quoP p f g)) (co g) (f.length - 1) % p = co (quoP p f g) (f.length - g.length) * co g (g.length - 1) % p := by
      unfold cv
      have hg1 := hg.2.1
      rw [sumR_only (p := p) (k := f.length - g.length) _ (by omega), show f.length - 1 - (f.length - g.length) = g.length - 1 by omega]
      intro i hi hne
      by_cases hij : f.length - g.length < i
      · exact mod_mul0 (hqd i (by omega))
      · exact mod_mul0' (dg_list p g _ (by omega))
    have h2 := mod_of0 h1
    rw [hz, hf.2.2, hg.2.2, Int.mul_one, Int.emod_eq_of_lt (by omega) (by omega)] at h2
    have h3 := co_bd (by omega) hqm (f.length - g.length)
    rw [Int.emod_eq_of_lt h3.1 h3.2] at h2
    exact h2.symm
  have h4 := co_ge (f := quoP p f g) (j := f.length - g.length) (by rw [htop]; decide)
  have hlen : (quoP p f g).length = f.length - g.length + 1 := by omega
  exact ⟨hr, ⟨hqm, by omega, by rw [hlen]; exact htop⟩, by omega, he⟩

/-- Coprime, as functions. -/
def cpF (p : Int) (f a : Nat → Int) : Prop := ∃ (α β : Nat → Int) (N : Nat), dg p N α ∧ dg p N β ∧ eqm p (ad (cv α f) (cv β a)) one
theorem cpF.swap {p : Int} {f a : Nat → Int} (h : cpF p f a) : cpF p a f := by
  obtain ⟨α, β, N, h1, h2, h3⟩ := h
  exact ⟨β, α, N, h2, h1, fun j => by have := h3 j; simp only [ad] at this ⊢; rw [Int.add_comm]; exact this⟩
theorem cpF_one (p : Int) (f : Nat → Int) : cpF p f one := ⟨zr, one, 1, fun j _ => by simp [zr], dg_one p, fun j => by
  rw [cvC zr, cv_zr, zr_ad, cv1, Int.sub_self]; rfl⟩
theorem cpF_of {p : Int} (hs : smallP p = true) {g h : List Int} (k : cop p g h) : cpF p (co g) (co h) := by
  have hp := smallP_bd hs
  obtain ⟨c, c1, c2, α, β, N, h1, h2, h3⟩ := k
  have hi := inv_ok hs (isMod_last c1 (by omega))
  obtain ⟨u, hu⟩ : ∃ u, u = inv (c.getD (c.length - 1) 0) p := ⟨_, rfl⟩
  rw [← hu, c2] at hi
  refine ⟨sc u α, sc u β, N, h1.scale u, h2.scale u, fun j => ?_⟩
  rw [sc_cv, sc_cv]
  show (u * cv α (co g) j + u * cv β (co h) j - one j) % p = 0
  have e1 := h3 j
  have e2 : (u * co c j - one j) % p = 0 := by
    cases j with
    | zero =>
      show (u * c.getD 0 0 - 1) % p = 0
      rw [Int.sub_emod, show u * c.getD 0 0 % p = 1 from hi, Int.emod_eq_of_lt (show (0 : Int) ≤ 1 by omega) (by omega)]; rfl
    | succ j =>
      have : co c (j + 1) = 0 := getD_out (by omega)
      rw [this]; simp [one]
  rw [show u * cv α (co g) j + u * cv β (co h) j - one j = (u * co c j - one j) - u * (co c j - (cv α (co g) j + cv β (co h) j)) by grind]
  exact mod_sub0 e2 (mod_mul0' e1)
instance : Std.Associative cv := ⟨cvA⟩
instance : Std.Commutative cv := ⟨cvC⟩
theorem cpF.mul {p : Int} {f a b : Nat → Int} {F A B : Nat} (hF : dg p F f) (hA : dg p A a) (hB : dg p B b) (ha : cpF p f a) (hb : cpF p f b) : cpF p f (cv a b) := by
  obtain ⟨α, β, N, h1, h2, h3⟩ := ha
  obtain ⟨γ, δ, M, k1, k2, k3⟩ := hb
  have e := h3.cv k3
  rw [cv1] at e
  have d1 := (h1.cvL k1).cvL hF
  have d2 := (h1.cvL k2).cvL hB
  have d3 := (h2.cvL hA).cvL k1
  have d4 := h2.cvL k2
  refine ⟨ad (ad (cv (cv α γ) f) (cv (cv α δ) b)) (cv (cv β a) γ), cv β δ, (N + M + N + A + B + F + M), ?_, d4.mono (by omega), ?_⟩
  · exact ((d1.mono (by omega)).add (d2.mono (by omega))).add (d3.mono (by omega))
  · have : ad (cv (ad (ad (cv (cv α γ) f) (cv (cv α δ) b)) (cv (cv β a) γ)) f) (cv (cv β δ) (cv a b)) = cv (ad (cv α f) (cv β a)) (ad (cv γ f) (cv δ b)) := by
      rw [ad_cv, ad_cv, cv_ad, ad_cv, ad_cv]
      have m1 : cv (cv (cv α γ) f) f = cv (cv α f) (cv γ f) := by ac_rfl
      have m2 : cv (cv (cv α δ) b) f = cv (cv α f) (cv δ b) := by ac_rfl
      have m3 : cv (cv (cv β a) γ) f = cv (cv β a) (cv γ f) := by ac_rfl
      have m4 : cv (cv β δ) (cv a b) = cv (cv β a) (cv δ b) := by ac_rfl
      rw [m1, m2, m3, m4]
      funext j
      simp only [ad]; omega
    rw [this]
    exact e
theorem cpF.prR {p : Int} {f y : Nat → Int} {F Y : Nat} (hF : dg p F f) (hY : dg p Y y) : ∀ rs : List Int, (∀ r ∈ rs, cpF p f (ad y (sc r one))) → cpF p f (prR y rs) ∧ ∃ K, dg p K (prR y rs)
  | [], _ => ⟨cpF_one p f, 1, dg_one p⟩
  | r :: rs, h => by
    obtain ⟨h1, K, h2⟩ := cpF.prR hF hY rs fun x hx => h x (by simp [hx])
    have h3 : dg p (Y + 1) (ad y (sc r one)) := (hY.mono (by omega)).add (((dg_one p).scale r).mono (by omega))
    exact ⟨(h r (by simp)).mul hF h3 h2 h1, _, h3.cvL h2⟩
theorem cpF.of {p : Int} {f a b : Nat → Int} (h : cpF p f a) (e : eqm p a b) : cpF p f b := by
  obtain ⟨α, β, N, h1, h2, h3⟩ := h
  exact ⟨α, β, N, h1, h2, (((eqm.refl p _).ad (e.symm.cvr β))).trans h3⟩
/-- Coprime to a multiple: f is constant. -/
theorem cpF.no {p : Int} {f a : Nat → Int} {k : Nat} (hp : 2 ≤ p) (hf : top p k f) (hk : 1 ≤ k) (h : cpF p f a) (hm : mg p f a) : False := by
  obtain ⟨α, β, N, h1, h2, h3⟩ := h
  have e1 : mg p f one := ((mg.self (p := p) (g := f) h1).add (hm.cvL h2)).of fun j => h3 j
  have := mg.small hf e1 ((dg_one p).mono hk) 0
  simp [one] at this
  rw [Int.emod_eq_of_lt (by omega) (by omega)] at this
  omega
/-- v - s by p. -/
def gS (p : Int) (v : List Int) (s : Int) : List Int := redF p (addK (-1) v [s])
theorem gS_co {p : Int} (v : List Int) (s : Int) : eqm p (co (gS p v s)) (ad (co v) (sc (-s) one)) := fun j => by
  unfold gS
  rw [co_red, co_add]
  have e : co v j + -1 * co [s] j = ad (co v) (sc (-s) one) j := by
    have : co [s] j = s * one j := by rw [co_cons, co_zr, cv_zr, ad_zr]; rfl
    rw [this]; simp only [ad, sc]; grind
  rw [e, show ad (co v) (sc (-s) one) j % p - ad (co v) (sc (-s) one) j = -(ad (co v) (sc (-s) one) j - ad (co v) (sc (-s) one) j % p) by omega]
  exact neg0 (mod_self0 _ _)
theorem split_ex {p : Int} {f v : List Int} (hs : smallP p = true) (hf : isMod p f) (hl : 2 ≤ f.length) (hm : mg p (co f) (fun j => pw (co v) p.toNat j - co v j)) :
    ∃ s : Nat, s < p.toNat ∧ 2 ≤ (commonP p f (gS p v (s : Int))).length := by
  have hp := smallP_bd hs
  rcases Classical.em (∃ s : Nat, s < p.toNat ∧ 2 ≤ (commonP p f (gS p v (s : Int))).length) with h | h
  · exact h
  exfalso
  have hall : ∀ r ∈ negs p.toNat, cpF p (co f) (ad (co v) (sc r one)) := fun r hr => by
    unfold negs at hr
    obtain ⟨s, hs2, rfl⟩ := List.mem_map.1 hr
    have hsp := List.mem_range.1 hs2
    have hgm : isMod p (gS p v (s : Int)) := isMod_red (by omega) _
    have h1 := common_facts hs hf hgm (by omega)
    have h2 : (commonP p f (gS p v (s : Int))).length = 1 := by
      have := h1.1.2.1
      rcases Nat.lt_or_ge (commonP p f (gS p v (s : Int))).length 2 with h3 | h3
      · omega
      · exact absurd ⟨s, hsp, h3⟩ h
    exact (cpF_of hs (cop_of (by omega) h2)).of (gS_co v (s : Int))
  obtain ⟨h1, K, h2⟩ := cpF.prR (dg_list p f) (dg_list p v) _ hall
  have h3 := prod_all hs (co v)
  refine cpF.no (by omega) (top_list hs hf (by omega)) (by omega) h1 (hm.of fun j => ?_)
  have := h3 j
  rw [show pw (co v) p.toNat j - co v j - prR (co v) (negs p.toNat) j = -(prR (co v) (negs p.toNat) j - (pw (co v) p.toNat j - co v j)) by omega]
  exact neg0 this
end Go.Proofs.Ytflmoopiajhadaa
