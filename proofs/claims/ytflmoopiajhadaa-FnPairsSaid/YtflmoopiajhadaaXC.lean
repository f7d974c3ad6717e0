/- Plain: the degrees of what splits off; a row of Berlekamp's matrix; powers by a polynomial. -/
import Derived.Test.YtflmoopiajhadaaXB
namespace Go.Proofs.Ytflmoopiajhadaa
open Go Go.RowKit

theorem top_one (p : Int) (hp : 2 ≤ p) : top p 0 one := ⟨dg_one p, 1, by simp only [one, if_true]; exact Int.emod_eq_of_lt (by omega) (by omega)⟩
theorem top_cv {p : Int} {k l : Nat} {a b : Nat → Int} (hp : 2 ≤ p) (ha : top p k a) (hb : top p l b) : top p (k + l) (cv a b) := by
  refine ⟨(ha.1.cvL hb.1).mono (by omega), ?_⟩
  obtain ⟨e, he⟩ := ha.2
  obtain ⟨d, hd⟩ := hb.2
  refine ⟨e * d, ?_⟩
  have hz : cv a b (k + l) % p = a k * b l % p := by
    unfold cv
    rw [sumR_only (p := p) (k := k) _ (by omega), show k + l - k = l by omega]
    intro i hi hne
    by_cases hij : k < i
    · exact mod_mul0 (ha.1 i (by omega))
    · exact mod_mul0' (hb.1 _ (by omega))
  rw [Int.mul_emod, hz, ← Int.mul_emod, show e * d * (a k * b l) = (e * a k) * (d * b l) by grind, Int.mul_emod, he, hd]
  exact Int.emod_eq_of_lt (by omega) (by omega)
theorem mg_mul {p : Int} {a b f : Nat → Int} (ha : mg p a f) (hb : mg p b f) (h : cpF p a b) : mg p (cv a b) f := by
  obtain ⟨α, β, N, h1, h2, h3⟩ := h
  obtain ⟨o, M, o1, o2⟩ := ha
  obtain ⟨q, K, q1, q2⟩ := hb
  -- f = (α a + β b) f = α q (a b) + β o (a b)
  have e1 : eqm p f (cv (ad (cv α a) (cv β b)) f) := by
    have := (h3.cvl f).symm
    rwa [cv1] at this
  have e2 : eqm p (cv (cv α a) f) (cv (cv α q) (cv a b)) := by
    have : eqm p f (cv q b) := q2
    have h4 := this.cvr (cv α a)
    have h5 : cv (cv α a) (cv q b) = cv (cv α q) (cv a b) := by ac_rfl
    rwa [h5] at h4
  have e3 : eqm p (cv (cv β b) f) (cv (cv β o) (cv a b)) := by
    have : eqm p f (cv o a) := o2
    have h4 := this.cvr (cv β b)
    have h5 : cv (cv β b) (cv o a) = cv (cv β o) (cv a b) := by ac_rfl
    rwa [h5] at h4
  refine ⟨ad (cv α q) (cv β o), (N + K + N + M), ((h1.cvL q1).mono (by omega)).add ((h2.cvL o1).mono (by omega)), ?_⟩
  rw [ad_cv]
  rw [ad_cv] at e1
  exact e1.trans (e2.ad e3)
theorem cpF_shift {p : Int} {v : List Int} {s t : Nat} {a b : Nat → Int} (hs : smallP p = true) (hsp : s < p.toNat) (htp : t < p.toNat) (hne : s ≠ t) (ha : mg p a (co (gS p v (s : Int)))) (hb : mg p b (co (gS p v (t : Int)))) : cpF p a b := by
  have hp := smallP_bd hs
  obtain ⟨o, M, o1, o2⟩ := ha
  obtain ⟨q, K, q1, q2⟩ := hb
  -- (t - s) is a unit
  obtain ⟨d, hd⟩ : ∃ d, d = ((t : Int) - s) % p := ⟨_, rfl⟩
  have hd0 : 0 < d ∧ d ≤ p - 1 := by
    have h1 := Int.emod_nonneg ((t : Int) - s) (show p ≠ 0 by omega)
    have h2 := Int.emod_lt_of_pos ((t : Int) - s) (show 0 < p by omega)
    rcases (show d = 0 ∨ 0 < d by omega) with h3 | h3
    · exfalso
      rw [h3] at hd
      obtain ⟨c, hc⟩ := Int.dvd_of_emod_eq_zero hd.symm
      rcases (show c = 0 ∨ c ≤ -1 ∨ 1 ≤ c by omega) with h4 | h4 | h4
      · rw [h4] at hc; omega
      · have := Int.mul_le_mul_of_nonneg_left h4 (show 0 ≤ p by omega); omega
      · have := Int.mul_le_mul_of_nonneg_left h4 (show 0 ≤ p by omega); omega
    · omega
  have hi := inv_ok hs hd0
  obtain ⟨u, hu⟩ : ∃ u, u = inv d p := ⟨_, rfl⟩
  rw [← hu] at hi
  refine ⟨sc u o, sc (-u) q, max M K, (o1.scale u).mono (by omega), (q1.scale (-u)).mono (by omega), fun j => ?_⟩
  rw [sc_cv, sc_cv]
  show (u * cv o a j + -u * cv q b j - one j) % p = 0
  have g1 := gS_co (p := p) v (s : Int) j
  have g2 := gS_co (p := p) v (t : Int) j
  simp only [ad, sc] at g1 g2
  have e1 := o2 j
  have e2 := q2 j
  have e3 : (u * ((t : Int) - s) - 1) % p = 0 := by
    have h1 : (((t : Int) - s) - d) % p = 0 := by rw [hd]; exact mod_self0 _ _
    have h2 : (u * d - 1) % p = 0 := by rw [Int.sub_emod, hi, Int.emod_eq_of_lt (show (0 : Int) ≤ 1 by omega) (by omega)]; rfl
    rw [show u * ((t : Int) - s) - 1 = u * (((t : Int) - s) - d) + (u * d - 1) by grind]
    exact mod_add0 (mod_mul0' h1) h2
  obtain ⟨A, hA⟩ : ∃ A, A = co (gS p v (s : Int)) j := ⟨_, rfl⟩
  obtain ⟨B, hB⟩ : ∃ B, B = co (gS p v (t : Int)) j := ⟨_, rfl⟩
  obtain ⟨x, hx⟩ : ∃ x, x = cv o a j := ⟨_, rfl⟩
  obtain ⟨y, hy⟩ : ∃ y, y = cv q b j := ⟨_, rfl⟩
  obtain ⟨V, hV⟩ : ∃ V, V = co v j := ⟨_, rfl⟩
  obtain ⟨w, hw⟩ : ∃ w, w = one j := ⟨_, rfl⟩
  rw [← hA, ← hx] at e1
  rw [← hB, ← hy] at e2
  rw [← hA, ← hV, ← hw] at g1
  rw [← hB, ← hV, ← hw] at g2
  rw [← hx, ← hy, ← hw]
  rw [show u * x + -u * y - w = (u * ((t : Int) - s) - 1) * w + u * ((A - (V + -(s : Int) * w)) - (B - (V + -(t : Int) * w))) - u * (A - x) + u * (B - y) by grind]
  exact mod_add0 (mod_sub0 (mod_add0 (mod_mul0 e3) (mod_mul0' (mod_sub0 g1 g2))) (mod_mul0' e1)) (mod_mul0' e2)
/-- The degrees of what the first values split off. -/
def sumD (p : Int) (f v : List Int) : Nat → Nat
  | 0 => 0
  | k + 1 => sumD p f v k + ((commonP p f (gS p v (k : Int))).length - 1)
theorem sumD_le {p : Int} {f v : List Int} (hs : smallP p = true) (hf : isMod p f) (hl : 1 ≤ f.length) : ∀ k, k ≤ p.toNat → sumD p f v k ≤ f.length - 1 := by
  have hp := smallP_bd hs
  have hg : ∀ t : Nat, mon p (commonP p f (gS p v (t : Int))) ∧ mg p (co (commonP p f (gS p v (t : Int)))) (co f) ∧ mg p (co (commonP p f (gS p v (t : Int)))) (co (gS p v (t : Int))) := fun t => common_facts hs hf (isMod_red (by omega) _) hl
  have key : ∀ k, k ≤ p.toNat → ∃ G : Nat → Int, top p (sumD p f v k) G ∧ mg p G (co f) ∧ ∀ t, k ≤ t → t < p.toNat → cpF p (co (commonP p f (gS p v (t : Int)))) G := by
    intro k
    induction k with
    | zero =>
      intro _
      refine ⟨one, top_one p hp.1, ⟨co f, f.length, dg_list p f, fun j => by rw [cv1R, Int.sub_self]; rfl⟩, fun t _ _ => cpF_one p _⟩
    | succ k ih =>
      intro hk
      obtain ⟨G, h1, h2, h3⟩ := ih (by omega)
      refine ⟨cv G (co (commonP p f (gS p v (k : Int)))), top_cv hp.1 h1 ((hg k).1.top hs), mg_mul h2 (hg k).2.1 (h3 k (by omega) (by omega)).swap, fun t ht htp => ?_⟩
      exact (h3 t (by omega) htp).mul (dg_list p _) h1.1 (dg_list p _) (cpF_shift hs htp (by omega) (by omega) (hg t).2.2 (hg k).2.2)
  intro k hk
  obtain ⟨G, h1, h2, _⟩ := key k hk
  rcases Nat.lt_or_ge (f.length - 1) (sumD p f v k) with h | h
  · exfalso
    have h4 := mg.small h1 h2 ((dg_list p f).mono (by omega)) (f.length - 1)
    have h5 := isMod_last hf hl
    unfold co at h4
    rw [Int.emod_eq_of_lt (by omega) (by omega)] at h4
    omega
  · exact h

/-! ### Rows of Berlekamp's matrix -/
theorem pw_XX : ∀ (i j : Nat), pw XX i j = if j = i then 1 else 0
  | 0, j => rfl
  | i + 1, j => by
    have hx : ∀ a j, cv XX a j = if j = 0 then 0 else a (j - 1) := fun a j => by
      cases j with
      | zero => simp [cv, sumR, XX]
      | succ j =>
        rw [cv_tail]
        have : cv (fun i => XX (i + 1)) a j = cv one a j := cv_congr j (fun i => by simp [XX, one]) (fun _ => rfl)
        rw [this, cv_one]
        simp [XX]
    simp only [pw]
    rw [hx]
    cases j with
    | zero => simp
    | succ j => simp [pw_XX i j]
def ph (p : Int) (k : Nat) : Nat → Int := fun j => pw (pw XX p.toNat) k j - pw XX k j
/-- What a row says: a combination of the x^(kp) - x^k is the row's first half, up to multiples of f. -/
def rel (p : Int) (f : Nat → Int) (n : Nat) (r : Nat → Int) : Prop := mg p f (fun j => sumR (fun k => r (n + k) * ph p k j) n - (if j < n then r j else 0))
theorem sumR_mod {p : Int} {f g : Nat → Int} : ∀ n : Nat, (∀ i, i < n → (f i - g i) % p = 0) → (sumR f n - sumR g n) % p = 0
  | 0, _ => by simp [sumR]
  | n + 1, h => by
    have h1 := sumR_mod n (fun i hi => h i (by omega))
    have h2 := h n (by omega)
    simp only [sumR]
    rw [show sumR f n + f n - (sumR g n + g n) = (sumR f n - sumR g n) + (f n - g n) by omega]
    exact mod_add0 h1 h2
theorem sumR_sub (f g : Nat → Int) : ∀ n : Nat, sumR (fun i => f i - g i) n = sumR f n - sumR g n
  | 0 => by simp [sumR]
  | n + 1 => by simp only [sumR]; rw [sumR_sub f g n]; omega
theorem rel.mod {p : Int} {f : Nat → Int} {n : Nat} {r r' : Nat → Int} (h : rel p f n r) (e : ∀ i, i < 2 * n → (r i - r' i) % p = 0) : rel p f n r' := by
  refine h.of fun j => ?_
  have h1 : (sumR (fun k => r (n + k) * ph p k j) n - sumR (fun k => r' (n + k) * ph p k j) n) % p = 0 := sumR_mod n fun i hi => by
    rw [← Int.sub_mul]; exact mod_mul0 (e _ (by omega))
  have h2 : ((if j < n then r j else 0) - (if j < n then r' j else 0)) % p = 0 := by
    by_cases hj : j < n
    · rw [if_pos hj, if_pos hj]; exact e j (by omega)
    · rw [if_neg hj, if_neg hj]; simp
  obtain ⟨a, ha⟩ : ∃ a, a = (if j < n then r j else 0) := ⟨_, rfl⟩
  obtain ⟨b, hb⟩ : ∃ b, b = (if j < n then r' j else 0) := ⟨_, rfl⟩
  rw [← ha, ← hb] at h2
  rw [← ha, ← hb]
  have := mod_sub0 h1 h2
  rwa [show sumR (fun k => r (n + k) * ph p k j) n - sumR (fun k => r' (n + k) * ph p k j) n - (a - b) = sumR (fun k => r (n + k) * ph p k j) n - a - (sumR (fun k => r' (n + k) * ph p k j) n - b) by omega] at this
theorem rel.sub {p : Int} {f : Nat → Int} {n : Nat} {r s : Nat → Int} (k : Int) (h : rel p f n r) (h' : rel p f n s) : rel p f n (fun i => r i - k * s i) := by
  have h2 := h'.cvL ((dg_one p).scale k)
  have e : cv (fun i => k * one i) (fun j => sumR (fun k => s (n + k) * ph p k j) n - (if j < n then s j else 0)) = sc k (fun j => sumR (fun k => s (n + k) * ph p k j) n - (if j < n then s j else 0)) := by
    show cv (sc k one) _ = _
    rw [sc_cv, cv1]
  rw [e] at h2
  refine (mg.sub h h2).eq fun j => ?_
  simp only [sc]
  have e2 : sumR (fun t => (r (n + t) - k * s (n + t)) * ph p t j) n = sumR (fun t => r (n + t) * ph p t j) n - k * sumR (fun t => s (n + t) * ph p t j) n := by
    rw [← sumR_mul, ← sumR_sub]
    exact sumR_congr _ fun i _ => by grind
  rw [e2]
  by_cases hj : j < n
  · simp only [if_pos hj]; rw [Int.mul_sub]; omega
  · simp only [if_neg hj]; rw [Int.mul_sub]; omega
theorem rel.init {p : Int} {f : Nat → Int} {n i : Nat} {im : List Int} (hi : i < n) (hl : im.length ≤ n) (h : mg p f (fun j => pw (pw XX p.toNat) i j - co im j)) :
    rel p f n (fun t => if t < n then co im t - (if t = i then 1 else 0) else (if t = n + i then 1 else 0)) := by
  refine h.eq fun j => ?_
  have e1 : sumR (fun k => (if n + k < n then co im (n + k) - (if n + k = i then 1 else 0) else (if n + k = n + i then 1 else 0)) * ph p k j) n = ph p i j := by
    have : sumR (fun k => (if n + k < n then co im (n + k) - (if n + k = i then 1 else 0) else (if n + k = n + i then 1 else 0)) * ph p k j) n = sumR (fun k => if k = i then ph p i j else 0) n := sumR_congr _ fun k _ => by
      rw [if_neg (by omega)]
      by_cases hk : k = i
      · subst hk; rw [if_pos rfl, if_pos rfl, Int.one_mul]
      · rw [if_neg (by omega), if_neg hk, Int.zero_mul]
    rw [this, sumR_single, if_pos hi]
  rw [e1]
  unfold ph
  rw [pw_XX]
  by_cases hj : j < n
  · rw [if_pos hj]; dsimp only; rw [if_pos hj]; omega
  · have hc : co im j = 0 := getD_out (by omega)
    rw [if_neg hj, if_neg (by omega), hc]; omega
theorem cv_sumR (a : Nat → Int) (F : Nat → Nat → Int) (j : Nat) : ∀ N : Nat, cv a (fun j => sumR (fun k => F k j) N) j = sumR (fun k => cv a (F k) j) N
  | 0 => by simp only [sumR]; exact congrFun (cv_zr a) j
  | N + 1 => by
    have : (fun j => sumR (fun k => F k j) (N + 1)) = ad (fun j => sumR (fun k => F k j) N) (F N) := rfl
    rw [this, cv_ad]
    simp only [ad, sumR]
    rw [cv_sumR a F j N]
theorem sub_sum (A : Nat → Int) (j : Nat) : ∀ v : List Int, Go.Proofs.Ytflmoopiajhadaa.sub A v j = sumR (fun k => v.getD k 0 * pw A k j) v.length
  | [] => rfl
  | c :: w => by
    have ih : Go.Proofs.Ytflmoopiajhadaa.sub A w = fun j => sumR (fun k => w.getD k 0 * pw A k j) w.length := funext fun j => sub_sum A j w
    simp only [Go.Proofs.Ytflmoopiajhadaa.sub, List.length_cons]
    rw [sumR_head, ih]
    simp only [ad, sc]
    rw [cv_sumR A (fun k j => w.getD k 0 * pw A k j) j]
    have : ∀ k, cv A (fun j => w.getD k 0 * pw A k j) j = w.getD k 0 * pw A (k + 1) j := fun k => by
      show cv A (Go.Proofs.Ytflmoopiajhadaa.sc (w.getD k 0) (pw A k)) j = _
      rw [cv_sc]; rfl
    simp only [this]
    simp [pw]
theorem sub_XX : ∀ v : List Int, Go.Proofs.Ytflmoopiajhadaa.sub XX v = co v
  | [] => co_zr.symm
  | c :: w => by rw [co_cons]; simp only [Go.Proofs.Ytflmoopiajhadaa.sub]; rw [sub_XX w]
/-- A row whose first half is 0 tells a polynomial. -/
theorem rel.fin {p : Int} {f : Nat → Int} {n : Nat} {r : Nat → Int} {v : List Int} (hs : smallP p = true) (h : rel p f n r) (h0 : ∀ k, k < n → r k = 0) (hv : ∀ k, co v k = if k < n then r (n + k) else 0) :
    mg p f (fun j => pw (co v) p.toNat j - co v j) := by
  obtain ⟨L, hL⟩ : ∃ L, L = (List.range n).map (fun k => r (n + k)) := ⟨_, rfl⟩
  have hLl : L.length = n := by rw [hL]; simp
  have hLg : ∀ k, L.getD k 0 = if k < n then r (n + k) else 0 := fun k => by
    rw [hL]
    by_cases hk : k < n
    · rw [if_pos hk]; simp [List.getD_eq_getElem?_getD, hk]
    · rw [if_neg hk]; exact getD_out (by simp; omega)
  have hc : co v = co L := funext fun k => by rw [hv k]; exact (hLg k).symm
  have e1 : ∀ j, sumR (fun k => r (n + k) * ph p k j) n - (if j < n then r j else 0) = Go.Proofs.Ytflmoopiajhadaa.sub (pw XX p.toNat) L j - co L j := fun j => by
    have e2 : (if j < n then r j else 0) = 0 := by
      by_cases hj : j < n
      · rw [if_pos hj, h0 j hj]
      · rw [if_neg hj]
    rw [e2, ← sub_XX L, sub_sum, sub_sum, ← sumR_sub, hLl, Int.sub_zero]
    refine sumR_congr _ fun k hk => ?_
    rw [hLg k, if_pos hk]
    unfold ph
    rw [Int.mul_sub]
  have h1 := h.eq e1
  rw [hc]
  refine h1.of fun j => ?_
  have := pow_p hs L j
  rw [show Go.Proofs.Ytflmoopiajhadaa.sub (pw XX p.toNat) L j - co L j - (pw (co L) p.toNat j - co L j) = -(pw (co L) p.toNat j - Go.Proofs.Ytflmoopiajhadaa.sub (pw XX p.toNat) L j) by omega]
  exact neg0 this

/-! ### Powers by a polynomial -/
def cgr (p : Int) (f a b : Nat → Int) : Prop := mg p f (fun j => a j - b j)
theorem cgr.refl (p : Int) (f a : Nat → Int) : cgr p f a a := mg.zero fun j => by rw [Int.sub_self]; rfl
theorem cgr.trans {p : Int} {f a b c : Nat → Int} (h : cgr p f a b) (h' : cgr p f b c) : cgr p f a c := cong_add h h'
theorem cgr.symm {p : Int} {f a b : Nat → Int} (h : cgr p f a b) : cgr p f b a := cong_sym h
theorem cgr.cvr {p : Int} {f a b c : Nat → Int} {M : Nat} (h : cgr p f a b) (hc : dg p M c) : cgr p f (cv c a) (cv c b) := cong_mul h hc
theorem cgr.cv {p : Int} {f a b c d : Nat → Int} {M N : Nat} (h : cgr p f a b) (h' : cgr p f c d) (hc : dg p M c) (hb : dg p N b) : cgr p f (cv a c) (cv b d) := by
  have h1 := h.cvr hc
  rw [cvC c a, cvC c b] at h1
  exact h1.trans (h'.cvr hb)
theorem cgr.pw {p : Int} {f a b : Nat → Int} {M N : Nat} (h : cgr p f a b) (ha : dg p M a) (hb : dg p N b) : ∀ n, cgr p f (pw a n) (pw b n)
  | 0 => cgr.refl _ _ _
  | n + 1 => by
    obtain ⟨K, hK⟩ := dg_pw ha n
    exact h.cv (h.pw ha hb n) hK hb
theorem cgr_times {p : Int} {f a b : List Int} (hf : 1 ≤ f.length) : cgr p (co f) (co (remP p (timesP p a b) f)) (cv (co a) (co b)) := by
  have h1 : cgr p (co f) (co (timesP p a b)) (co (remP p (timesP p a b) f)) := rem_mg hf
  refine h1.symm.trans (mg.zero fun j => ?_)
  rw [show co (timesP p a b) j - cv (co a) (co b) j = -(cv (co a) (co b) j - co (timesP p a b) j) by omega]
  exact neg0 (times_co a b j)
/-- One round of the powers. -/
theorem powP_step {p : Int} {f out a : List Int} {R : Nat → Int} {e : Nat} (hf : 1 ≤ f.length) (h : cgr p (co f) (cv (co out) (pw (co a) e)) R) :
    cgr p (co f) (cv (co (if e % 2 = 1 then remP p (timesP p out a) f else out)) (pw (co (remP p (timesP p a a) f)) (e / 2))) R := by
  have hsq : cgr p (co f) (pw (co (remP p (timesP p a a) f)) (e / 2)) (pw (co a) (2 * (e / 2))) := by
    rw [pw_mul]
    have : pw (co a) 2 = cv (co a) (co a) := by simp only [pw]; rw [cv1R]
    rw [this]
    exact (cgr_times hf).pw (dg_list p _) ((dg_list p a).cvL (dg_list p a)) _
  obtain ⟨K, hK⟩ := dg_pw (dg_list p a) (2 * (e / 2))
  obtain ⟨K', hK'⟩ := dg_pw (dg_list p (remP p (timesP p a a) f)) (e / 2)
  by_cases he : e % 2 = 1
  · rw [if_pos he]
    refine cgr.trans ?_ h
    have e1 : pw (co a) e = cv (co a) (pw (co a) (2 * (e / 2))) := by
      have : e = 2 * (e / 2) + 1 := by omega
      conv => lhs; rw [this]
      rfl
    rw [e1, ← cvA]
    exact (cgr_times (a := out) (b := a) hf).cv hsq hK' ((dg_list p out).cvL (dg_list p a))
  · rw [if_neg he]
    refine cgr.trans ?_ h
    have e1 : pw (co a) e = pw (co a) (2 * (e / 2)) := by congr 1; omega
    rw [e1]
    exact hsq.cvr (dg_list p out)
end Go.Proofs.Ytflmoopiajhadaa
