/- Several small texts in one: LA LB H16 H17 H18. -/
import Derived.Test.YtflmoopiajhadaaMA
/- Plain: products of polynomials as functions, by a prime. -/
namespace Go.Proofs.Ytflmoopiajhadaa
open Go Go.RowKit

/-- The product of two rows of numbers. -/
def cv (a b : Nat → Int) (j : Nat) : Int := sumR (fun i => a i * b (j - i)) (j + 1)
theorem cv_comm (f g : Nat → Int) (j : Nat) : cv f g j = cv g f j := by
  unfold cv
  rw [← sumR_rev]
  refine sumR_congr _ fun i hi => ?_
  rw [show j + 1 - 1 - i = j - i by omega, show j - (j - i) = i by omega, Int.mul_comm]
theorem cv_add (a b c : Nat → Int) (j : Nat) : cv (fun i => a i + b i) c j = cv a c j + cv b c j := by
  unfold cv
  rw [← sumR_add]
  exact sumR_congr _ fun i _ => Int.add_mul _ _ _
theorem sumR_mul (k : Int) (f : Nat → Int) (n : Nat) : sumR (fun i => k * f i) n = k * sumR f n := by
  induction n with
  | zero => simp [sumR]
  | succ n ih => simp only [sumR]; rw [ih, Int.mul_add]
theorem cv_scale (k : Int) (a c : Nat → Int) (j : Nat) : cv (fun i => k * a i) c j = k * cv a c j := by
  unfold cv
  rw [← sumR_mul]
  exact sumR_congr _ fun i _ => Int.mul_assoc _ _ _
theorem cv_addR (a b c : Nat → Int) (j : Nat) : cv c (fun i => a i + b i) j = cv c a j + cv c b j := by
  rw [cv_comm, cv_add, cv_comm a, cv_comm b]
theorem cv_scaleR (k : Int) (a c : Nat → Int) (j : Nat) : cv c (fun i => k * a i) j = k * cv c a j := by
  rw [cv_comm, cv_scale, cv_comm]
theorem cv_sub (a b c : Nat → Int) (j : Nat) : cv (fun i => a i - b i) c j = cv a c j - cv b c j := by
  have h := cv_add a (fun i => (-1) * b i) c j
  rw [cv_scale] at h
  have e : cv (fun i => a i - b i) c j = cv (fun i => a i + (-1) * b i) c j := by
    unfold cv
    exact sumR_congr _ fun i _ => by show (a i - b i) * _ = (a i + (-1) * b i) * _; rw [show a i - b i = a i + (-1) * b i by omega]
  rw [e, h]; omega
theorem cv_subR (a b c : Nat → Int) (j : Nat) : cv c (fun i => a i - b i) j = cv c a j - cv c b j := by
  rw [cv_comm, cv_sub, cv_comm a, cv_comm b]
theorem cv_tail (a b : Nat → Int) (j : Nat) : cv a b (j + 1) = a 0 * b (j + 1) + cv (fun i => a (i + 1)) b j := by
  unfold cv
  rw [sumR_head]
  congr 1
  exact sumR_congr _ fun i hi => by rw [show j + 1 - (i + 1) = j - i by omega]
theorem cv_congr {a a' b b' : Nat → Int} (j : Nat) (ha : ∀ i, a i = a' i) (hb : ∀ i, b i = b' i) : cv a b j = cv a' b' j := by
  unfold cv
  exact sumR_congr _ fun i _ => by rw [ha, hb]
theorem cv_assoc (b c : Nat → Int) : ∀ (j : Nat) (a : Nat → Int), cv (cv a b) c j = cv a (cv b c) j := by
  intro j
  induction j with
  | zero =>
    intro a
    simp only [cv, sumR, Nat.zero_sub, Int.zero_add]
    rw [Int.mul_assoc]
  | succ j ih =>
    intro a
    rw [cv_tail (cv a b), cv_tail a]
    have e : cv (fun i => cv a b (i + 1)) c j = cv (fun i => a 0 * b (i + 1) + cv (fun i => a (i + 1)) b i) c j := cv_congr j (fun i => cv_tail a b i) (fun _ => rfl)
    rw [e, cv_add, cv_scale, ih (fun i => a (i + 1)), cv_tail b]
    have h0 : cv a b 0 = a 0 * b 0 := by simp [cv, sumR]
    rw [h0]
    grind
theorem sumR_dvd {p : Int} {f : Nat → Int} : ∀ n : Nat, (∀ i, i < n → f i % p = 0) → sumR f n % p = 0 := by
  intro n
  induction n with
  | zero => intro _; simp [sumR]
  | succ n ih =>
    intro h
    have h1 := ih (fun i hi => h i (by omega))
    have h2 := h n (by omega)
    simp only [sumR]
    rw [Int.add_emod, h1, h2]; rfl
theorem sumR_only {p : Int} {f : Nat → Int} {k : Nat} : ∀ n : Nat, k < n → (∀ i, i < n → i ≠ k → f i % p = 0) → sumR f n % p = f k % p := by
  intro n
  induction n with
  | zero => intro h; omega
  | succ n ih =>
    intro hk h
    simp only [sumR]
    by_cases e : k = n
    · subst e
      have h1 := sumR_dvd (p := p) k (fun i hi => h i (by omega) (by omega))
      rw [Int.add_emod, h1]; simp
    · have h1 := ih (by omega) (fun i hi hne => h i (by omega) hne)
      have h2 := h n (by omega) (by omega)
      rw [Int.add_emod, h1, h2]; simp
/-- Nothing by p from N on. -/
def dg (p : Int) (N : Nat) (a : Nat → Int) : Prop := ∀ j, N ≤ j → a j % p = 0
theorem dg.mono {p : Int} {N M : Nat} {a : Nat → Int} (h : dg p N a) (hM : N ≤ M) : dg p M a := fun j hj => h j (by omega)
theorem mod_mul0 {p a b : Int} (h : a % p = 0) : a * b % p = 0 := by rw [Int.mul_emod, h]; simp
theorem mod_mul0' {p a b : Int} (h : b % p = 0) : a * b % p = 0 := by rw [Int.mul_emod, h]; simp
theorem mod_add0 {p a b : Int} (h : a % p = 0) (h' : b % p = 0) : (a + b) % p = 0 := by rw [Int.add_emod, h, h']; rfl
theorem mod_sub0 {p a b : Int} (h : a % p = 0) (h' : b % p = 0) : (a - b) % p = 0 := by rw [Int.sub_emod, h, h']; rfl
theorem dg.add {p : Int} {N : Nat} {a b : Nat → Int} (h : dg p N a) (h' : dg p N b) : dg p N (fun i => a i + b i) := fun j hj => mod_add0 (h j hj) (h' j hj)
theorem dg.sub {p : Int} {N : Nat} {a b : Nat → Int} (h : dg p N a) (h' : dg p N b) : dg p N (fun i => a i - b i) := fun j hj => mod_sub0 (h j hj) (h' j hj)
theorem dg.scale {p : Int} {N : Nat} {a : Nat → Int} (k : Int) (h : dg p N a) : dg p N (fun i => k * a i) := fun j hj => mod_mul0' (h j hj)
theorem dg.cvL {p : Int} {N M : Nat} {a b : Nat → Int} (h : dg p N a) (h' : dg p M b) : dg p (N + M - 1) (cv a b) := fun j hj => by
  refine sumR_dvd _ fun i hi => ?_
  by_cases hN : N ≤ i
  · exact mod_mul0 (h i hN)
  · exact mod_mul0' (h' _ (by omega))
theorem cv_zp {p : Int} {a b : Nat → Int} (h : ∀ j, a j % p = 0) (j : Nat) : cv a b j % p = 0 := sumR_dvd _ fun i _ => mod_mul0 (h i)
/-- Nothing above k, and a unit at k. -/
def top (p : Int) (k : Nat) (g : Nat → Int) : Prop := dg p (k + 1) g ∧ ∃ e : Int, e * g k % p = 1
theorem top_deg {p : Int} {k M : Nat} {g o : Nat → Int} (hg : top p k g) : ∀ N, dg p N o → (∀ j, M + k ≤ j → cv o g j % p = 0) → dg p M o := by
  intro N
  induction N with
  | zero => intro h _; exact h.mono (by omega)
  | succ N ih =>
    intro h hz
    by_cases hM : N + 1 ≤ M
    · exact h.mono hM
    · refine ih (fun j hj => ?_) hz
      by_cases e : j = N
      · subst e
        have h1 := hz (j + k) (by omega)
        have h2 : cv o g (j + k) % p = o j * g k % p := by
          unfold cv
          rw [sumR_only (p := p) (k := j) _ (by omega), show j + k - j = k by omega]
          intro i hi hne
          by_cases hij : j < i
          · exact mod_mul0 (h i (by omega))
          · exact mod_mul0' (hg.1 _ (by omega))
        rw [h2] at h1
        obtain ⟨u, hu⟩ := hg.2
        have h3 : o j * (u * g k) % p = 0 := by
          rw [show o j * (u * g k) = u * (o j * g k) by grind]
          exact mod_mul0' h1
        rw [Int.mul_emod, hu] at h3
        simpa using h3
      · exact h j (by omega)
/-- A multiple of g by p. -/
def mg (p : Int) (g a : Nat → Int) : Prop := ∃ (o : Nat → Int) (N : Nat), dg p N o ∧ ∀ j, (a j - cv o g j) % p = 0
theorem mg.add {p : Int} {g a b : Nat → Int} (h : mg p g a) (h' : mg p g b) : mg p g (fun i => a i + b i) := by
  obtain ⟨o, N, h1, h2⟩ := h
  obtain ⟨o', N', h1', h2'⟩ := h'
  refine ⟨fun i => o i + o' i, max N N', (h1.mono (by omega)).add (h1'.mono (by omega)), fun j => ?_⟩
  rw [cv_add]
  have := mod_add0 (h2 j) (h2' j)
  rw [show a j + b j - (cv o g j + cv o' g j) = a j - cv o g j + (b j - cv o' g j) by omega]
  exact this
theorem mg.sub {p : Int} {g a b : Nat → Int} (h : mg p g a) (h' : mg p g b) : mg p g (fun i => a i - b i) := by
  obtain ⟨o, N, h1, h2⟩ := h
  obtain ⟨o', N', h1', h2'⟩ := h'
  refine ⟨fun i => o i - o' i, max N N', (h1.mono (by omega)).sub (h1'.mono (by omega)), fun j => ?_⟩
  rw [cv_sub]
  have := mod_sub0 (h2 j) (h2' j)
  rw [show a j - b j - (cv o g j - cv o' g j) = a j - cv o g j - (b j - cv o' g j) by omega]
  exact this
theorem mg.cvL {p : Int} {g a c : Nat → Int} {M : Nat} (h : mg p g a) (hc : dg p M c) : mg p g (cv c a) := by
  obtain ⟨o, N, h1, h2⟩ := h
  refine ⟨cv c o, M + N - 1, hc.cvL h1, fun j => ?_⟩
  rw [cv_assoc, ← cv_subR, cv_comm]
  exact cv_zp h2 j
theorem mg.of {p : Int} {g a b : Nat → Int} (h : mg p g a) (e : ∀ j, (a j - b j) % p = 0) : mg p g b := by
  obtain ⟨o, N, h1, h2⟩ := h
  refine ⟨o, N, h1, fun j => ?_⟩
  have := mod_sub0 (h2 j) (e j)
  rw [show b j - cv o g j = a j - cv o g j - (a j - b j) by omega]
  exact this
theorem mg.eq {p : Int} {g a b : Nat → Int} (h : mg p g a) (e : ∀ j, a j = b j) : mg p g b := h.of fun j => by rw [e, Int.sub_self]; rfl
theorem mg.self {p : Int} {g c : Nat → Int} {M : Nat} (hc : dg p M c) : mg p g (cv c g) := ⟨c, M, hc, fun j => by rw [Int.sub_self]; rfl⟩
theorem mg.zero {p : Int} {g a : Nat → Int} (h : ∀ j, a j % p = 0) : mg p g a := ⟨fun _ => 0, 0, fun j _ => by simp, fun j => by
  have : cv (fun _ => 0) g j = 0 := sumR_zero _ _ fun i _ => by simp
  rw [this]; simpa using h j⟩
theorem mg.trans {p : Int} {D g a : Nat → Int} (h : mg p g a) (hD : mg p D g) : mg p D a := by
  obtain ⟨o, N, h1, h2⟩ := h
  exact (hD.cvL h1).of fun j => by
    have := h2 j
    rw [show cv o g j - a j = -(a j - cv o g j) by omega]
    rw [Int.neg_emod_eq_sub_emod, Int.sub_emod, this]; simp
/-- A remainder that is a multiple is nothing. -/
theorem mg.small {p : Int} {k : Nat} {g a : Nat → Int} (hg : top p k g) (h : mg p g a) (ha : dg p k a) : ∀ j, a j % p = 0 := by
  obtain ⟨o, N, h1, h2⟩ := h
  have h3 : dg p 0 o := top_deg (M := 0) hg N h1 fun j hj => by
    have := mod_sub0 (ha j (by omega)) (h2 j)
    rw [show cv o g j = a j - (a j - cv o g j) by omega]
    exact this
  intro j
  have h4 := cv_zp (b := g) (fun j => h3 j (by omega)) j
  have := mod_add0 (h2 j) h4
  rwa [show a j - cv o g j + cv o g j = a j by omega] at this
end Go.Proofs.Ytflmoopiajhadaa

/- Plain: lists of numbers by a prime as polynomials; division; Euclid's steps. -/
namespace Go.Proofs.Ytflmoopiajhadaa
open Go Go.RowKit

def co (f : List Int) : Nat → Int := fun i => f.getD i 0
theorem conv_cv (f g : List Int) (j : Nat) : conv f g j = cv (co f) (co g) j := rfl
theorem mod_eq0 {a b m : Int} (h : a % m = b % m) : (a - b) % m = 0 := by rw [Int.sub_emod, h, Int.sub_self]; simp
theorem mod_of0 {a b m : Int} (h : (a - b) % m = 0) : a % m = b % m := Int.emod_eq_emod_iff_emod_sub_eq_zero.2 h
theorem mod_self0 (a p : Int) : (a - a % p) % p = 0 := mod_eq0 (by rw [Int.emod_emod])
theorem dg_list (p : Int) (f : List Int) : dg p f.length (co f) := fun j hj => by unfold co; rw [getD_out hj]; simp
/-- Division, whatever the leading numbers are. -/
theorem div_invG {m : Int} {lead : Int → Int} {f g : List Int} (hg : 1 ≤ g.length) :
    ∀ t, t ≤ divN f g → (∀ i, i < divN f g - t → (divS m lead f g (divN f g) t).2.getD i 0 = 0) ∧ ∀ j, f.getD j 0 % m = ((divS m lead f g (divN f g) t).1.getD j 0 + conv (divS m lead f g (divN f g) t).2 g j) % m := by
  intro t
  induction t with
  | zero =>
    intro _
    refine ⟨fun i hi => ?_, fun j => ?_⟩
    · simp only [divS, List.getD_eq_getElem?_getD, List.getElem?_replicate]
      split <;> rfl
    · simp only [divS]
      rw [conv_zero]; simp
  | succ t ih =>
    intro ht
    obtain ⟨h0, h1⟩ := ih (by omega)
    obtain ⟨k, hk⟩ : ∃ k, k = divN f g - 1 - t := ⟨_, rfl⟩
    rw [divS_succ m lead f g _ t k (by omega)]
    obtain ⟨hl1, hl2⟩ := divS_len m lead f g (divN f g) t
    obtain ⟨A, hA⟩ : ∃ A, A = (divS m lead f g (divN f g) t).1 := ⟨_, rfl⟩
    obtain ⟨q, hq⟩ : ∃ q, q = (divS m lead f g (divN f g) t).2 := ⟨_, rfl⟩
    rw [← hA] at hl1 h1 ⊢
    rw [← hq] at hl2 h0 h1 ⊢
    clear hA hq ih
    dsimp only
    obtain ⟨c, hc⟩ : ∃ c, c = lead (A.getD (k + g.length - 1) 0) := ⟨_, rfl⟩
    rw [← hc]
    have hkq : k < q.length := by omega
    have hkf : k + g.length ≤ f.length := by unfold divN at hk ht; omega
    refine ⟨fun i hi => ?_, fun j => ?_⟩
    · rw [getD_set q k i c hkq, if_neg (by omega)]
      exact h0 i (by omega)
    · rw [conv_set q g k c j hkq (h0 k (by omega)), h1 j]
      rcases Nat.lt_or_ge j A.length with hj | hj
      · rw [subK_getD _ _ _ _ _ _ hj]
        by_cases h2 : k ≤ j ∧ j < k + g.length
        · rw [if_pos h2, if_pos h2.1]
          rw [Int.add_comm ((A.getD j 0 - c * g.getD (j - k) 0) % m), Int.add_emod_emod]
          congr 1
          omega
        · rw [if_neg h2]
          by_cases h3 : k ≤ j
          · rw [if_pos h3, getD_out (l := g) (by omega)]; congr 1; omega
          · rw [if_neg h3]; congr 1; omega
      · rw [getD_out hj, getD_out (by rw [subK_len]; exact hj)]
        rw [if_pos (by omega), getD_out (l := g) (by omega)]
        congr 1; omega
theorem div_eq {p : Int} {f g : List Int} (hg : 1 ≤ g.length) (j : Nat) : (co f j - (co (remP p f g) j + cv (co (quoP p f g)) (co g) j)) % p = 0 := by
  have h := (div_invG (m := p) (lead := leadF p (inv (g.getD (g.length - 1) 0) p)) (f := f) (g := g) hg _ (Nat.le_refl _)).2 j
  have e1 : co (remP p f g) j = (divS p (leadF p (inv (g.getD (g.length - 1) 0) p)) f g (divN f g) (divN f g)).1.getD j 0 := trimF_getD _ _
  have e2 : cv (co (quoP p f g)) (co g) j = conv (divS p (leadF p (inv (g.getD (g.length - 1) 0) p)) f g (divN f g) (divN f g)).2 g j := conv_congr g (fun i => trimF_getD _ _) j
  rw [e1, e2]
  exact mod_eq0 h
theorem quo_len {p : Int} (f g : List Int) : (quoP p f g).length ≤ f.length + 1 - g.length := by
  have h2 := trimF_len (divS p (leadF p (inv (g.getD (g.length - 1) 0) p)) f g (divN f g) (divN f g)).2
  rw [(divS_len _ _ _ _ _ _).2] at h2
  exact h2
theorem co_times (p : Int) (f g : List Int) (j : Nat) : co (timesP p f g) j = cv (co f) (co g) j % p := by
  unfold timesP
  rw [redF_prod]
  exact mulR_getD _ _ _ _
theorem co_red (p : Int) (f : List Int) (j : Nat) : co (redF p f) j = co f j % p := by
  unfold redF co
  rw [trimF_getD]
  exact modL_getD (m := p) (xs := f) j
theorem co_bd {p : Int} {f : List Int} (hp : 1 ≤ p) (h : isMod p f) (j : Nat) : 0 ≤ co f j ∧ co f j < p := by
  have := getD_bd (b := p - 1) (by omega) h.1 j
  unfold co
  omega
theorem mod_same {p : Int} {a b : List Int} (hp : 1 ≤ p) (ha : isMod p a) (hb : isMod p b) (h : ∀ j, (co a j - co b j) % p = 0) : a = b := by
  rw [← trimF_id ha.2, ← trimF_id hb.2]
  refine trimF_congr fun j => ?_
  have h1 := co_bd hp ha j
  have h2 := co_bd hp hb j
  have h3 := mod_of0 (h j)
  rw [Int.emod_eq_of_lt h1.1 h1.2, Int.emod_eq_of_lt h2.1 h2.2] at h3
  exact h3
theorem len_of {p : Int} {a : List Int} {N : Nat} (ha : isMod p a) (h : dg p N (co a)) : a.length ≤ N := by
  rcases Nat.lt_or_ge N a.length with hl | hl
  · have h1 := isMod_last ha (by omega)
    have h2 := h (a.length - 1) (by omega)
    unfold co at h2
    rw [Int.emod_eq_of_lt (by omega) (by omega)] at h2
    omega
  · exact hl
theorem top_list {p : Int} {g : List Int} (hs : smallP p = true) (hg : isMod p g) (hl : 1 ≤ g.length) : top p (g.length - 1) (co g) :=
  ⟨(dg_list p g).mono (by omega), inv (g.getD (g.length - 1) 0) p, inv_ok hs (isMod_last hg hl)⟩
def one (j : Nat) : Int := if j = 0 then 1 else 0
theorem cv_one (a : Nat → Int) (j : Nat) : cv one a j = a j := by
  unfold cv
  rw [sumR_head, sumR_zero]
  · simp [one]
  · intro i _; simp [one]
theorem dg_one (p : Int) : dg p 1 one := fun j hj => by unfold one; rw [if_neg (by omega)]; simp
theorem mg_refl (p : Int) (g : Nat → Int) : mg p g g := (mg.self (dg_one p)).eq fun j => cv_one g j
theorem mg_nil (p : Int) (g : Nat → Int) : mg p g (co []) := mg.zero fun j => by simp [co]
/-- Sum of multiples of two. -/
def cmb (p : Int) (g h a : Nat → Int) : Prop := ∃ (α β : Nat → Int) (N : Nat), dg p N α ∧ dg p N β ∧ ∀ j, (a j - (cv α g j + cv β h j)) % p = 0
theorem cmb.mg {p : Int} {g h a D : Nat → Int} (k : cmb p g h a) (hg : mg p D g) (hh : mg p D h) : mg p D a := by
  obtain ⟨α, β, N, h1, h2, h3⟩ := k
  exact ((hg.cvL h1).add (hh.cvL h2)).of fun j => by
    have := h3 j
    rw [show cv α g j + cv β h j - a j = -(a j - (cv α g j + cv β h j)) by omega, Int.neg_emod_eq_sub_emod, Int.sub_emod, this]; simp
theorem cmb.left (p : Int) (g h : Nat → Int) : cmb p g h g := ⟨one, fun _ => 0, 1, dg_one p, fun j _ => by simp, fun j => by
  have : cv (fun _ => 0) h j = 0 := sumR_zero _ _ fun i _ => by simp
  rw [cv_one, this]; simp⟩
theorem cmb.swap {p : Int} {g h a : Nat → Int} (k : cmb p g h a) : cmb p h g a := by
  obtain ⟨α, β, N, h1, h2, h3⟩ := k
  exact ⟨β, α, N, h2, h1, fun j => by rw [Int.add_comm]; exact h3 j⟩
theorem cmb.sub {p : Int} {g h a b : Nat → Int} (k : cmb p g h a) (k' : cmb p g h b) : cmb p g h (fun j => a j - b j) := by
  obtain ⟨α, β, N, h1, h2, h3⟩ := k
  obtain ⟨α', β', N', h1', h2', h3'⟩ := k'
  refine ⟨fun j => α j - α' j, fun j => β j - β' j, max N N', (h1.mono (by omega)).sub (h1'.mono (by omega)), (h2.mono (by omega)).sub (h2'.mono (by omega)), fun j => ?_⟩
  have := mod_sub0 (h3 j) (h3' j)
  rw [cv_sub, cv_sub, show a j - b j - (cv α g j - cv α' g j + (cv β h j - cv β' h j)) = a j - (cv α g j + cv β h j) - (b j - (cv α' g j + cv β' h j)) by omega]
  exact this
theorem cmb.cvL {p : Int} {g h a c : Nat → Int} {M : Nat} (k : cmb p g h a) (hc : dg p M c) : cmb p g h (cv c a) := by
  obtain ⟨α, β, N, h1, h2, h3⟩ := k
  refine ⟨cv c α, cv c β, M + N - 1, hc.cvL h1, hc.cvL h2, fun j => ?_⟩
  rw [cv_assoc, cv_assoc, ← cv_addR, ← cv_subR, cv_comm]
  exact cv_zp h3 j
theorem cmb.of {p : Int} {g h a b : Nat → Int} (k : cmb p g h a) (e : ∀ j, (a j - b j) % p = 0) : cmb p g h b := by
  obtain ⟨α, β, N, h1, h2, h3⟩ := k
  refine ⟨α, β, N, h1, h2, fun j => ?_⟩
  have := mod_sub0 (h3 j) (e j)
  rw [show b j - (cv α g j + cv β h j) = a j - (cv α g j + cv β h j) - (a j - b j) by omega]
  exact this
/-- The greatest common divisor is a sum of multiples. -/
theorem rem_cmb {p : Int} {G H : Nat → Int} {f g : List Int} (hg : 1 ≤ g.length) (kf : cmb p G H (co f)) (kg : cmb p G H (co g)) : cmb p G H (co (remP p f g)) :=
  (kf.sub (kg.cvL (dg_list p (quoP p f g)))).of fun j => by
    have := div_eq (p := p) (f := f) hg j
    rw [show co f j - cv (co (quoP p f g)) (co g) j - co (remP p f g) j = co f j - (co (remP p f g) j + cv (co (quoP p f g)) (co g) j) by omega]
    exact this
theorem monic_cmb {p : Int} {G H : Nat → Int} {f : List Int} (kf : cmb p G H (co f)) : cmb p G H (co (monicP p f)) := by
  unfold monicP
  split
  · rename_i h; rw [h] at kf; exact kf
  · refine (kf.cvL (dg_list p [inv (f.getD (f.length - 1) 0) p])).of fun j => ?_
    rw [co_times, cv_comm (co f)]
    exact mod_self0 _ _
theorem com_cmb {p : Int} {G H : Nat → Int} : ∀ (n : Nat) (f g : List Int), cmb p G H (co f) → cmb p G H (co g) → cmb p G H (co (comF p n f g)) := by
  intro n
  induction n with
  | zero => intro f g kf _; exact monic_cmb kf
  | succ n ih =>
    intro f g kf kg
    unfold comF
    split
    · exact monic_cmb kf
    · rename_i hg
      refine ih _ _ kg (rem_cmb ?_ kf kg)
      rcases g with _ | ⟨x, g⟩
      · exact absurd rfl hg
      · simp
/-- f plus k times g. -/
def addR (k : Int) (f g : List Int) : List Int := (List.range (max f.length g.length)).map fun i => f.getD i 0 + k * g.getD i 0
def addK (k : Int) (f g : List Int) : List Int := trimF (addR k f g)
theorem addR_len (k : Int) (f g : List Int) : (addR k f g).length = max f.length g.length := by simp [addR]
theorem addR_getD (k : Int) (f g : List Int) (j : Nat) : (addR k f g).getD j 0 = f.getD j 0 + k * g.getD j 0 := by
  rcases Nat.lt_or_ge j (max f.length g.length) with h | h
  · unfold addR
    simp only [List.getD_eq_getElem?_getD, List.getElem?_map]
    rw [List.getElem?_range h]
    rfl
  · rw [getD_out (by rw [addR_len]; exact h), getD_out (l := f) (by omega), getD_out (l := g) (by omega)]; simp
theorem co_add (k : Int) (f g : List Int) (j : Nat) : co (addK k f g) j = co f j + k * co g j := by
  unfold addK co
  rw [trimF_getD, addR_getD]
theorem addK_len (k : Int) (f g : List Int) : (addK k f g).length ≤ max f.length g.length := by
  have := trimF_len (addR k f g)
  rw [addR_len] at this
  exact this
theorem red_congr {p : Int} {a b : List Int} (h : ∀ j, co a j % p = co b j % p) : redF p a = redF p b := by
  unfold redF
  refine trimF_congr fun j => ?_
  have := h j
  unfold co at this
  rw [← modL_getD, ← modL_getD] at this
  exact this
theorem red_id {p : Int} {a : List Int} (hp : 1 ≤ p) (h : isMod p a) : redF p a = a := mod_same hp (isMod_red hp _) h fun j => by
  rw [co_red]
  exact mod_eq0 (by rw [Int.emod_emod])
end Go.Proofs.Ytflmoopiajhadaa

/- Polynomials by a prime: tests, comparisons, products: both texts. -/
namespace Go.Proofs.Ytflmoopiajhadaa
open Go Go.RowKit

/-- A number that is no residue by a prime. -/
def noDig (p : Int) : Int → Bool := fun c => !inB c 0 (p - 1)
/-- A polynomial by a prime. -/
def modB (p : Int) (xs : List Int) : Bool := smallP p && decide (xs.length ≤ 9) && !(xs.any (noDig p)) && lastNZ xs
theorem mod_facts {p : Int} {xs : List Int} (h : modB p xs = true) : smallP p = true ∧ xs.length ≤ 9 ∧ isMod p xs := by
  simp [modB, and_assoc] at h
  obtain ⟨h1, h2, h3, h4⟩ := h
  refine ⟨h1, h2, fun c hc => ?_, h4⟩
  have := h3 c hc
  simp [noDig] at this
  exact inB_iff.1 this

set_option maxHeartbeats 400000 in
theorem pred_mod (p : Int) (B : Nat) (w : World) (hp : 2 ≤ p ∧ p ≤ 97) (hB : B < w.heap.size) (hc : w.cell? ⟨B, 0, none⟩ = some (.int .i64 p)) :
    predC 73 #[.pointer (some ⟨B, 0, none⟩)] (noDig p) w := fun W x hb => by
  have hc' := (hb.cell (p := ⟨B, 0, none⟩) hB).trans hc
  have HB := hid hb
  unfold noDig
  clear hb hc
  show Calls Try.prog 73 #[.int .i64 x, .pointer (some ⟨B, 0, none⟩)] W _
  cases h : inB x 0 (p - 1)
  all_goals
    go_enter Try.func73, Try.ntmps73
    go_wp2_with (go_at_call 74; refine pur (i_within _ _ _ _) ?_)
    go_ret
    exact ⟨rfl, HB.out⟩

set_option maxHeartbeats 2000000 in
theorem i_IsModular (p : Int) (r : Value) (xs : List Int) (w : World) (h : rdI w r xs) :
    Calls Try.prog 32 #[.int .i64 p, r] w fun e w' => e = .returned (.bool (modB p xs)) ∧ Below w.heap.size w w' := by
  have eg : ∀ args w, (callFunc 73 args).run Try.prog w = .ok (.enter 73 args) w := entersT Try.func73 (by kernel_rfl) rfl
  have hlen : xs.length ≤ maxLen := by obtain ⟨a, cap, _, hm, _⟩ := h; exact hm
  unfold maxLen at hlen
  cases h1 : smallP p
  · have e : modB p xs = false := by simp [modB, h1]
    rw [e]; clear e
    go_enter Try.func32, Try.ntmps32
    go_wp2_with (first | (go_at_call 72; refine pur (i_small _ _) ?_))
    go_ret
    exact ⟨rfl, (by refine Ext.bel ?_; repeat (with_reducible first | exact Ext.refl _ | apply Ext.alloc | apply Ext.aft | apply Ext.drew | apply Ext.drewN | apply Ext.setCell | exact Nat.le_add_right _ _ | exact Nat.le_refl _ | (simp; done) | omega))⟩
  have H1 := hid h1
  have hp97 := smallP_bd h1
  by_cases hl : xs.length ≤ 9
  · obtain ⟨B, hB⟩ : ∃ B, B = xs.any (noDig p) := ⟨_, rfl⟩
    have H3 := hid hB.symm
    cases B
    · have e : modB p xs = lastNZ xs := by unfold modB; rw [← hB]; simp [hl, h1]
      rw [e]; clear e hB
      rcases Nat.eq_zero_or_pos xs.length with h0 | h0
      · obtain rfl : xs = [] := List.eq_nil_of_length_eq_zero h0
        rw [lastNZ_nil]
        obtain ⟨a, cap, rfl, _, _⟩ := id h
        change rdI w (.slice a 0 cap) [] at h
        go_enter Try.func32, Try.ntmps32
        go_wp2_with (first | (go_at_call 72; refine pur (i_small _ _) ?_) | (go_at_call 58; refine via (lib_containsB _ _ _ eg _ _ _ (by repeat (with_reducible first | assumption | apply rdI.aft | apply rdI.alloc | apply rdI.drew | apply rdI.drewN)) (pred_mod p _ _ hp97 (by first | omega | (simp; done) | (simp; omega)) (by simp [go_sem]; try omega)) _ H3.out) ?_; intro uu zz; try simp at zz))
        go_ret
        exact ⟨rfl, (by refine Ext.bel ?_; repeat (with_reducible first | exact Ext.refl _ | apply Ext.alloc | apply Ext.aft | apply Ext.drew | apply Ext.drewN | apply Ext.setCell | exact Nat.le_add_right _ _ | exact Nat.le_refl _ | (simp; done) | omega))⟩
      · obtain ⟨k, hk⟩ : ∃ k, xs.length = k + 1 := ⟨xs.length - 1, by omega⟩
        rw [lastNZ_at hk]
        obtain ⟨a, cap, rfl, _, hc⟩ := id h
        obtain ⟨b, o, rfl, hcell⟩ := hc (by intro e; subst e; simp at h0)
        have h1 := hcell k (by omega)
        have h1b := World.block_lt_of_cell? w _ h1
        obtain ⟨x, hx⟩ : ∃ x, x = xs[k] := ⟨_, rfl⟩
        rw [← hx] at h1 ⊢
        clear hx hcell hc
        rw [hk] at h ⊢
        have hl2 : k + 1 ≤ 9 := by omega
        have hk9 : (k : Int) + 1 ≤ 9 := by omega
        have hk0 : 0 ≤ (k : Int) := by omega
        clear hl hlen h0
        cases hx0 : (x == 0)
        all_goals
          go_enter Try.func32, Try.ntmps32
          go_wp2_with (first | (go_at_call 72; refine pur (i_small _ _) ?_) | (go_at_call 58; refine via (lib_containsB _ _ _ eg _ _ _ (by repeat (with_reducible first | assumption | apply rdI.aft | apply rdI.alloc | apply rdI.drew | apply rdI.drewN)) (pred_mod p _ _ hp97 (by first | omega | (simp; done) | (simp; omega)) (by simp [go_sem]; try omega)) _ H3.out) ?_; intro uu zz; try simp at zz))
          go_ret
          exact ⟨by simp [bne, hx0]; try omega, (by refine Ext.bel ?_; repeat (with_reducible first | exact Ext.refl _ | apply Ext.alloc | apply Ext.aft | apply Ext.drew | apply Ext.drewN | apply Ext.setCell | exact Nat.le_add_right _ _ | exact Nat.le_refl _ | (simp; done) | omega))⟩
    · have e : modB p xs = false := by unfold modB; rw [← hB]; simp
      rw [e]; clear e hB
      obtain ⟨a, cap, rfl, _, _⟩ := id h
      go_enter Try.func32, Try.ntmps32
      go_wp2_with (first | (go_at_call 72; refine pur (i_small _ _) ?_) | (go_at_call 58; refine via (lib_containsB _ _ _ eg _ _ _ (by repeat (with_reducible first | assumption | apply rdI.aft | apply rdI.alloc | apply rdI.drew | apply rdI.drewN)) (pred_mod p _ _ hp97 (by first | omega | (simp; done) | (simp; omega)) (by simp [go_sem]; try omega)) _ H3.out) ?_; intro uu zz; try simp at zz))
      go_ret
      exact ⟨rfl, (by refine Ext.bel ?_; repeat (with_reducible first | exact Ext.refl _ | apply Ext.alloc | apply Ext.aft | apply Ext.drew | apply Ext.drewN | apply Ext.setCell | exact Nat.le_add_right _ _ | exact Nat.le_refl _ | (simp; done) | omega))⟩
  · have e : modB p xs = false := by unfold modB; simp [hl]
    rw [e]; clear e
    obtain ⟨a, cap, rfl, _, _⟩ := id h
    have hl' : ¬ (xs.length : Int) ≤ 9 := by omega
    go_enter Try.func32, Try.ntmps32
    go_wp2_with (first | (go_at_call 72; refine pur (i_small _ _) ?_))
    go_ret
    exact ⟨rfl, (by refine Ext.bel ?_; repeat (with_reducible first | exact Ext.refl _ | apply Ext.alloc | apply Ext.aft | apply Ext.drew | apply Ext.drewN | apply Ext.setCell | exact Nat.le_add_right _ _ | exact Nat.le_refl _ | (simp; done) | omega))⟩

set_option maxHeartbeats 2000000 in
theorem s_IsModular (p : Int) (r : Value) (xs : List Int) (w : World) (h : rdI w r xs) :
    Calls Try.prog 45 #[.int .i64 p, r] w fun e w' => e = .returned (.bool (modB p xs)) ∧ w = w' := by
  have hlen : xs.length ≤ maxLen := by obtain ⟨a, cap, _, hm, _⟩ := h; exact hm
  unfold maxLen at hlen
  cases h1 : smallP p
  · have e : modB p xs = false := by simp [modB, h1]
    rw [e]; clear e
    go_enter Try.func45, Try.ntmps45
    go_wp2_with (first | (go_at_call 78; refine pur (s_small _ _) ?_))
    go_ret
    exact ⟨rfl, rfl⟩
  by_cases hl : xs.length ≤ 9
  · have hp := smallP_bd h1
    have e : modB p xs = (!(xs.any fun c => !inB c 0 (p - 1)) && lastNZ xs) := by
      unfold modB noDig; simp [hl, h1]
    obtain ⟨P, hP⟩ : ∃ P, P = modB p xs := ⟨_, rfl⟩
    rw [← hP]
    have HP := hid (hP.trans e)
    obtain ⟨a, cap, rfl, _, hc⟩ := h
    have Hc := hid hc
    clear hc hP e
    go_enter Try.func45, Try.ntmps45
    go_wp2_with (first | (go_at_call 78; refine pur (s_small _ _) ?_))
    go_loop [5] (fun i => ∃ k : Nat, k ≤ xs.length ∧ i = .int .i64 k ∧ Hid ((xs.take k).any (fun c => !inB c 0 (p - 1)) = false)) (fun i => xs.length - (intOf i).toNat)
    case atStart => exact ⟨0, by omega, rfl, hid (by simp)⟩
    case round =>
      obtain ⟨k, hk, rfl, HA⟩ := hrel
      by_cases hlt : k < xs.length
      · obtain ⟨b, o, rfl, hcell⟩ := Hc.out (by intro e; subst e; simp at hlt)
        have h1 := hcell k hlt
        obtain ⟨x, hx⟩ : ∃ x, x = xs[k] := ⟨_, rfl⟩
        rw [← hx] at h1
        have HX := hid hx
        clear hx hcell
        cases hq : inB x 0 (p - 1)
        · have HQ := hid hq
          have e : Hid (P = false) := hid (by
            rw [HP.out, any_hit hlt (by rw [← HX.out]; simp [HQ.out])]; simp)
          go_wp2_with (go_at_call 67; refine pur (s_in _ _ _ _) ?_)
          go_ret
          exact ⟨ret_b (by rw [e.out]), rfl⟩
        · have HQ := hid hq
          go_wp2_with (go_at_call 67; refine pur (s_in _ _ _ _) ?_)
          go_round
          case rel => exact ⟨k + 1, by omega, by go_num, hid (any_take_f hlt HA.out (by rw [← HX.out]; simp [HQ.out]))⟩
          case measure => simp only [intOf]; omega
      · obtain rfl : k = xs.length := by omega
        have HN := hid (show P = lastNZ xs by
          have := HA.out
          rw [List.take_length] at this
          rw [HP.out, this]; simp)
        rcases Nat.eq_zero_or_pos xs.length with h0 | h0
        · obtain rfl : xs = [] := List.eq_nil_of_length_eq_zero h0
          simp only [List.length_nil] at *
          go_wp2_with fail
          go_ret
          exact ⟨ret_b (by rw [HN.out]; rfl), rfl⟩
        · obtain ⟨k, hk⟩ : ∃ k, xs.length = k + 1 := ⟨xs.length - 1, by omega⟩
          rw [lastNZ_at hk] at HN
          obtain ⟨b, o, rfl, hcell⟩ := Hc.out (by intro e; subst e; simp at h0)
          have h1 := hcell k (by omega)
          obtain ⟨x, hx⟩ : ∃ x, x = xs[k] := ⟨_, rfl⟩
          rw [← hx] at h1 HN
          clear hx hcell Hc HA
          rw [hk]
          have hk9 : (k : Int) + 1 ≤ 9 := by omega
          have hk0 : 0 ≤ (k : Int) := by omega
          clear h0 hk hlt hl hlen
          go_wp2_with fail
          go_ret
          exact ⟨ret_b (by rw [HN.out]; first | (simp; done) | (simp; intros; omega)), rfl⟩
  · have e : modB p xs = false := by unfold modB; simp [hl]
    rw [e]; clear e
    obtain ⟨a, cap, rfl, _, _⟩ := h
    have hl' : ¬ (xs.length : Int) ≤ 9 := by omega
    go_enter Try.func45, Try.ntmps45
    go_wp2_with (first | (go_at_call 78; refine pur (s_small _ _) ?_))
    go_ret
    exact ⟨rfl, rfl⟩

set_option maxHeartbeats 4000000 in
theorem i_same (r1 r2 : Value) (xs ys : List Int) (w : World) (h1 : rdI w r1 xs) (h2 : rdI w r2 ys) :
    Calls Try.prog 34 #[r1, r2] w fun e w' => e = .returned (.bool (decide (xs = ys))) ∧ Below w.heap.size w w' := by
  obtain ⟨a1, cap1, rfl, hm1, _⟩ := id h1
  obtain ⟨a2, cap2, rfl, hm2, _⟩ := id h2
  unfold maxLen at hm1 hm2
  have H1 := hid h1
  have H2 := hid h2
  obtain ⟨P, hP⟩ : ∃ P, P = decide (xs = ys) := ⟨_, rfl⟩
  rw [← hP]
  have HP := hid hP
  clear h1 h2 hP
  by_cases hl : xs.length = ys.length
  · have hlz : ((xs.length : Int) != (ys.length : Int)) = false := by simp [hl]
    have hlb : (xs.length != ys.length) = false := by simp [hl]
    have HL := hid hl
    clear hl
    go_enter Try.func34, Try.ntmps34
    go_wp2_with fail
    go_loopw [13] (fun i wr => ∃ (k : Nat) (uu : World), wr = aft w uu ∧ k ≤ xs.length ∧ i = .int .i64 k ∧ Hid (xs.take k = ys.take k)) (fun i _ => xs.length - (intOf i).toNat)
    case atStart => exact ⟨0, w, (aft_of (Below.refl _ _)).symm, by omega, rfl, hid (by simp)⟩
    case round =>
      obtain ⟨k, uu, rfl, hk, rfl, HT⟩ := hrel
      have zs := size_aft w uu
      by_cases hlt : k < xs.length
      · have hlt2 : k < ys.length := by have := HL.out; omega
        obtain ⟨b1, o1, e1⟩ := rd_head H1.out (by intro e; subst e; simp at hlt)
        obtain ⟨b2, o2, e2⟩ := rd_head H2.out (by intro e; subst e; simp at hlt2)
        subst e1; subst e2
        have c1 := rd_at H1.out hlt
        have c2 := rd_at H2.out hlt2
        have k1 := World.block_lt_of_cell? w _ c1
        have k2 := World.block_lt_of_cell? w _ c2
        obtain ⟨x, hx⟩ : ∃ x, x = xs.getD k 0 := ⟨_, rfl⟩
        obtain ⟨y, hy⟩ : ∃ y, y = ys.getD k 0 := ⟨_, rfl⟩
        rw [← hx] at c1
        rw [← hy] at c2
        have HX := hid hx
        have HY := hid hy
        have hz : ((k : Int) : Int) < (xs.length : Int) := by omega
        have hz2 : ((k : Int) : Int) < (ys.length : Int) := by omega
        have hz0 : (0 : Int) ≤ (k : Int) := by omega
        clear hx hy
        cases hxy : (x != y)
        · have HE : Hid (x = y) := hid (by simpa using hxy)
          go_wp2_with fail
          refine wp_region_calm (by kernel_rfl) (by kernel_rfl) ?_
          repeat (go_big_quiet_step (fail))
          refine wpQuiet_nil ?_; intro uq zq; try simp at zq
          go_wp2_with fail
          go_roundw
          case rel => exact ⟨k + 1, _, (aft_of ((below_aft w uu).trans ((below_aft _ _).mono (size_aft w uu)))).symm, by omega, by go_num, hid (by rw [take_snocI _ _ hlt, take_snocI _ _ hlt2, HT.out, ← getD_lt hlt, ← getD_lt hlt2, ← HX.out, ← HY.out, HE.out])⟩
          case measure => simp [intOf]; omega
        · have HE : Hid (P = false) := hid (by
            rw [HP.out, decide_eq_false_iff_not]
            intro e
            have : x = y := by rw [HX.out, HY.out, e]
            rw [this] at hxy; simp at hxy)
          go_wp2_with fail
          refine wp_region_calm (by kernel_rfl) (by kernel_rfl) ?_
          repeat (go_big_quiet_step (fail))
          refine wpQuiet_nil ?_; intro uq zq; try simp at zq
          go_wp2_with fail
          go_ret
          exact ⟨ret_b (by rw [HE.out]), (by refine Ext.bel ?_; repeat (with_reducible first | exact Ext.refl _ | apply Ext.alloc | apply Ext.aft | apply Ext.drew | apply Ext.drewN | apply Ext.setCell | exact Nat.le_add_right _ _ | exact Nat.le_refl _ | (simp; done) | omega))⟩
      · obtain rfl : k = xs.length := by omega
        have HE : Hid (P = true) := hid (by
          rw [HP.out, decide_eq_true_iff]
          have := HT.out
          rw [List.take_length, HL.out, List.take_length] at this
          exact this)
        have hnz : ¬ (xs.length : Int) < (xs.length : Int) := by omega
        go_wp2_with fail
        go_ret
        exact ⟨ret_b (by rw [HE.out]), (by refine Ext.bel ?_; repeat (with_reducible first | exact Ext.refl _ | apply Ext.alloc | apply Ext.aft | apply Ext.drew | apply Ext.drewN | apply Ext.setCell | exact Nat.le_add_right _ _ | exact Nat.le_refl _ | (simp; done) | omega))⟩
  · have hlz : ((xs.length : Int) != (ys.length : Int)) = true := by simp; omega
    have hlb : (xs.length != ys.length) = true := by simp [hl]
    have HE : Hid (P = false) := hid (by rw [HP.out, decide_eq_false_iff_not]; intro e; exact hl (by rw [e]))
    clear hl
    go_enter Try.func34, Try.ntmps34
    go_wp2_with fail
    go_ret
    exact ⟨ret_b (by rw [HE.out]), (by refine Ext.bel ?_; repeat (with_reducible first | exact Ext.refl _ | apply Ext.alloc | apply Ext.aft | apply Ext.drew | apply Ext.drewN | apply Ext.setCell | exact Nat.le_add_right _ _ | exact Nat.le_refl _ | (simp; done) | omega))⟩

set_option maxHeartbeats 4000000 in
theorem s_same (r1 r2 : Value) (xs ys : List Int) (w : World) (h1 : rdI w r1 xs) (h2 : rdI w r2 ys) :
    Calls Try.prog 47 #[r1, r2] w fun e w' => e = .returned (.bool (decide (xs = ys))) ∧ Below w.heap.size w w' := by
  obtain ⟨a1, cap1, rfl, hm1, _⟩ := id h1
  obtain ⟨a2, cap2, rfl, hm2, _⟩ := id h2
  unfold maxLen at hm1 hm2
  have H1 := hid h1
  have H2 := hid h2
  obtain ⟨P, hP⟩ : ∃ P, P = decide (xs = ys) := ⟨_, rfl⟩
  rw [← hP]
  have HP := hid hP
  clear h1 h2 hP
  by_cases hl : xs.length = ys.length
  · have hlz : ((xs.length : Int) != (ys.length : Int)) = false := by simp [hl]
    have hlb : (xs.length != ys.length) = false := by simp [hl]
    have HL := hid hl
    clear hl
    go_enter Try.func47, Try.ntmps47
    go_wp2_with fail
    go_loopw [5] (fun i wr => ∃ (k : Nat) (uu : World), wr = aft w uu ∧ k ≤ xs.length ∧ i = .int .i64 k ∧ Hid (xs.take k = ys.take k)) (fun i _ => xs.length - (intOf i).toNat)
    case atStart => exact ⟨0, w, (aft_of (Below.refl _ _)).symm, by omega, rfl, hid (by simp)⟩
    case round =>
      obtain ⟨k, uu, rfl, hk, rfl, HT⟩ := hrel
      have zs := size_aft w uu
      by_cases hlt : k < xs.length
      · have hlt2 : k < ys.length := by have := HL.out; omega
        obtain ⟨b1, o1, e1⟩ := rd_head H1.out (by intro e; subst e; simp at hlt)
        obtain ⟨b2, o2, e2⟩ := rd_head H2.out (by intro e; subst e; simp at hlt2)
        subst e1; subst e2
        have c1 := rd_at H1.out hlt
        have c2 := rd_at H2.out hlt2
        have k1 := World.block_lt_of_cell? w _ c1
        have k2 := World.block_lt_of_cell? w _ c2
        obtain ⟨x, hx⟩ : ∃ x, x = xs.getD k 0 := ⟨_, rfl⟩
        obtain ⟨y, hy⟩ : ∃ y, y = ys.getD k 0 := ⟨_, rfl⟩
        rw [← hx] at c1
        rw [← hy] at c2
        have HX := hid hx
        have HY := hid hy
        have hz : ((k : Int) : Int) < (xs.length : Int) := by omega
        have hz2 : ((k : Int) : Int) < (ys.length : Int) := by omega
        have hz0 : (0 : Int) ≤ (k : Int) := by omega
        clear hx hy
        cases hxy : (x != y)
        · have HE : Hid (x = y) := hid (by simpa using hxy)
          go_wp2_with fail
          refine wp_region_calm (by kernel_rfl) (by kernel_rfl) ?_
          repeat (go_big_quiet_step (fail))
          refine wpQuiet_nil ?_; intro uq zq; try simp at zq
          go_wp2_with fail
          go_roundw
          case rel => exact ⟨k + 1, _, (aft_of ((below_aft w uu).trans ((below_aft _ _).mono (size_aft w uu)))).symm, by omega, by go_num, hid (by rw [take_snocI _ _ hlt, take_snocI _ _ hlt2, HT.out, ← getD_lt hlt, ← getD_lt hlt2, ← HX.out, ← HY.out, HE.out])⟩
          case measure => simp [intOf]; omega
        · have HE : Hid (P = false) := hid (by
            rw [HP.out, decide_eq_false_iff_not]
            intro e
            have : x = y := by rw [HX.out, HY.out, e]
            rw [this] at hxy; simp at hxy)
          go_wp2_with fail
          refine wp_region_calm (by kernel_rfl) (by kernel_rfl) ?_
          repeat (go_big_quiet_step (fail))
          refine wpQuiet_nil ?_; intro uq zq; try simp at zq
          go_wp2_with fail
          go_ret
          exact ⟨ret_b (by rw [HE.out]), (by refine Ext.bel ?_; repeat (with_reducible first | exact Ext.refl _ | apply Ext.alloc | apply Ext.aft | apply Ext.drew | apply Ext.drewN | apply Ext.setCell | exact Nat.le_add_right _ _ | exact Nat.le_refl _ | (simp; done) | omega))⟩
      · obtain rfl : k = xs.length := by omega
        have HE : Hid (P = true) := hid (by
          rw [HP.out, decide_eq_true_iff]
          have := HT.out
          rw [List.take_length, HL.out, List.take_length] at this
          exact this)
        have hnz : ¬ (xs.length : Int) < (xs.length : Int) := by omega
        go_wp2_with fail
        go_ret
        exact ⟨ret_b (by rw [HE.out]), (by refine Ext.bel ?_; repeat (with_reducible first | exact Ext.refl _ | apply Ext.alloc | apply Ext.aft | apply Ext.drew | apply Ext.drewN | apply Ext.setCell | exact Nat.le_add_right _ _ | exact Nat.le_refl _ | (simp; done) | omega))⟩
  · have hlz : ((xs.length : Int) != (ys.length : Int)) = true := by simp; omega
    have hlb : (xs.length != ys.length) = true := by simp [hl]
    have HE : Hid (P = false) := hid (by rw [HP.out, decide_eq_false_iff_not]; intro e; exact hl (by rw [e]))
    clear hl
    go_enter Try.func47, Try.ntmps47
    go_wp2_with fail
    go_ret
    exact ⟨ret_b (by rw [HE.out]), (by refine Ext.bel ?_; repeat (with_reducible first | exact Ext.refl _ | apply Ext.alloc | apply Ext.aft | apply Ext.drew | apply Ext.drewN | apply Ext.setCell | exact Nat.le_add_right _ _ | exact Nat.le_refl _ | (simp; done) | omega))⟩

set_option maxRecDepth 20000 in
set_option maxHeartbeats 8000000 in
theorem s_product (r1 r2 : Value) (xs ys : List Int) (w : World) (h1 : rdI w r1 xs) (h2 : rdI w r2 ys) (hl1 : xs.length ≤ 9) (hl2 : ys.length ≤ 1000) (hc : ∀ c ∈ xs, ∀ d ∈ ys, 0 ≤ c * d ∧ c * d ≤ 1000000000000000000) :
    Calls Try.prog 79 #[r1, r2] w fun e w' => ∃ v, e = .returned v ∧ ownR w.heap.size w' v (prodF xs ys) ∧ Below w.heap.size w w' := by
  obtain ⟨i0, hi, hz0, hz1, hz2⟩ := info_parts infoI
  obtain ⟨a1, cap1, rfl, _, _⟩ := id h1
  obtain ⟨a2, cap2, rfl, _, _⟩ := id h2
  by_cases hx : xs = []
  · have e : prodF xs ys = [] := by unfold prodF; rw [if_pos (.inl hx)]
    rw [e]; clear e
    subst hx
    simp only [List.length_nil]
    go_enter Try.func79, Try.ntmps79
    go_wp2_with fail
    go_ret
    exact ⟨_, rfl, own_made w, (by refine Ext.bel ?_; repeat (with_reducible first | exact Ext.refl _ | apply Ext.alloc | apply Ext.aft | apply Ext.drew | apply Ext.drewN | apply Ext.setCell | exact Nat.le_add_right _ _ | exact Nat.le_refl _ | (simp; done) | omega))⟩
  have hx1 : 1 ≤ xs.length := by
    rcases Nat.eq_zero_or_pos xs.length with h0 | h0
    · exact absurd (List.eq_nil_of_length_eq_zero h0) hx
    · exact h0
  by_cases hy : ys = []
  · have e : prodF xs ys = [] := by unfold prodF; rw [if_pos (.inr hy)]
    rw [e]; clear e
    subst hy
    simp only [List.length_nil]
    have hn0 : (xs.length == 0) = false := by simp; omega
    have hn1 : ((xs.length : Int) == 0) = false := by simp; omega
    go_enter Try.func79, Try.ntmps79
    go_wp2_with fail
    go_ret
    exact ⟨_, rfl, own_made w, (by refine Ext.bel ?_; repeat (with_reducible first | exact Ext.refl _ | apply Ext.alloc | apply Ext.aft | apply Ext.drew | apply Ext.drewN | apply Ext.setCell | exact Nat.le_add_right _ _ | exact Nat.le_refl _ | (simp; done) | omega))⟩
  have hy1 : 1 ≤ ys.length := by
    rcases Nat.eq_zero_or_pos ys.length with h0 | h0
    · exact absurd (List.eq_nil_of_length_eq_zero h0) hy
    · exact h0
  have e : prodF xs ys = trimF (prodS xs ys xs.length) := by unfold prodF; rw [if_neg (by simp [hx, hy])]
  rw [e]; clear e
  obtain ⟨b1, o1, rfl⟩ := rd_head h1 hx
  obtain ⟨b2, o2, rfl⟩ := rd_head h2 hy
  have H1 := hid h1
  have H2 := hid h2
  have Hc := hid hc
  obtain ⟨L, hL⟩ : ∃ L, L = xs.length + ys.length - 1 := ⟨_, rfl⟩
  have hLi : (xs.length : Int) + ys.length - 1 = L := by omega
  have HL := hid hL
  have hx2 : ((xs.length : Int) == 0) = false := by simp; omega
  have hy2 : ((ys.length : Int) == 0) = false := by simp; omega
  have hL9 : L ≤ 2000 := by omega
  clear h1 h2 hc hx hy hL
  go_enter Try.func79, Try.ntmps79
  go_wp2_with (at_make; refine wpList_make_full _ rfl _ _ 26 rfl w.heap.size 2 i0 (.int .i64 0) 1 Try.underlying26 hi hz0 hz1 _ _ _ _ L rfl rfl (by omega) (by omega) (by rw [hz2]; omega) (by unfold maxLen; omega) (Nat.le_refl _) ?_)
  intro w1 hown0 hgr
  have hown : w1.ownsRow w.heap.size 2 1 (.slice (some ⟨w.heap.size, 0, none⟩) L L) L (vI (prodS xs ys 0)) := by
    have e : prodS xs ys 0 = List.replicate L 0 := by rw [HL.out]; rfl
    rw [e, ← vI_zeros]; exact hown0
  have HB : Hid (Below w.heap.size w w1) := hid (Below.grown (Below.refl _ _) hgr (Nat.le_refl _) (fun k hk => by cases hk))
  have HO := hid hown
  clear hown0 hown hgr
  go_wp2_with fail
  go_loopw [6] (fun s wr => ∃ i : Nat, i ≤ xs.length ∧ s = .int .i64 i ∧ Hid (wr.ownsRow w.heap.size 2 1 (.slice (some ⟨w.heap.size, 0, none⟩) L L) L (vI (prodS xs ys i))) ∧ Hid (Below w.heap.size w wr)) (fun s _ => xs.length - (intOf s).toNat)
  case atStart => exact ⟨0, by omega, rfl, HO, HB⟩
  case round =>
    obtain ⟨i, hi9, rfl, HO, HB⟩ := hrel
    obtain ⟨wo, rfl⟩ : ∃ wo : World, wo = wr := ⟨_, rfl⟩
    by_cases hlt : i < xs.length
    · have hltz : (i : Int) < (xs.length : Int) := by omega
      obtain ⟨c, hcx⟩ : ∃ c, c = xs.getD i 0 := ⟨_, rfl⟩
      have HC := hid hcx
      clear hcx
      go_wp2_with fail
      go_loopw [7] (fun s wr => ∃ k : Nat, k ≤ ys.length ∧ s = .int .i64 k ∧ Hid (wr.ownsRow w.heap.size 2 1 (.slice (some ⟨w.heap.size, 0, none⟩) L L) L (vI (rowS (prodS xs ys i) i c ys k))) ∧ Hid (Below w.heap.size w wr)) (fun s _ => ys.length - (intOf s).toNat)
      case atStart => exact ⟨0, by omega, rfl, HO, HB⟩
      case round =>
        obtain ⟨k, hk9, rfl, HO', HB'⟩ := hrel
        by_cases hlt2 : k < ys.length
        · have hltz2 : (k : Int) < (ys.length : Int) := by omega
          have hf := HB'.out.cell (p := ⟨b1, o1 + i, none⟩) (World.block_lt_of_cell? w _ (rd_at H1.out hlt))
          rw [rd_at H1.out hlt, ← HC.out] at hf
          have hfb := World.block_lt_of_cell? _ _ hf
          have hg := HB'.out.cell (p := ⟨b2, o2 + k, none⟩) (World.block_lt_of_cell? w _ (rd_at H2.out hlt2))
          rw [rd_at H2.out hlt2] at hg
          have hgb := World.block_lt_of_cell? _ _ hg
          have hlen : (rowS (prodS xs ys i) i c ys k).length = L := by rw [rowS_len, prodS_len, HL.out]
          have hik : i + k < L := by have := HL.out; omega
          have hcl := HO'.out.cellAt (i + k) (by omega)
          rw [vI_at (by omega)] at hcl
          have hcb := World.block_lt_of_cell? _ _ hcl
          have hfr := HO'.out.frozenAt (i + k)
          have hcd := prods_of (by omega) Hc.out i k
          rw [← HC.out] at hcd
          obtain ⟨X, hX⟩ : ∃ X, X = (rowS (prodS xs ys i) i c ys k).getD (i + k) 0 := ⟨_, rfl⟩
          have hbd := round_bd (k := k) (by omega) Hc.out hlt
          rw [← HC.out, ← hX] at hbd
          rw [← hX] at hcl
          obtain ⟨d, hd⟩ : ∃ d, d = ys.getD k 0 := ⟨_, rfl⟩
          rw [← hd] at hg hcd
          have HX := hid hX
          have HD := hid hd
          have hikz : (i : Int) + k < (L : Int) := by omega
          clear hX hd hlen
          go_wp2_with fail
          refine wp_region_calm_tail 21 (by kernel_rfl) (by kernel_rfl) ?_
          simp only [List.take_succ_cons, List.take_zero, List.drop_succ_cons, List.drop_zero]
          repeat (go_big_quiet_step (fail))
          refine wpQuiet_nil ?_; intro uq zq; try simp at zq
          have hst := (rawAft HO'.out uq).stored (i + k) (.int .i64 (X + c * d))
          rw [HX.out, HD.out, addAt_set, ← rowS_succ, ← HX.out, ← HD.out] at hst
          have HS := hid hst
          have HBq : Hid (Below w.heap.size w (aft wr uq)) := hid (HB'.out.trans ((below_aft wr uq).mono HB'.out.size))
          clear hst
          go_wp2_with fail
          go_roundw
          case rel => exact ⟨k + 1, by omega, by go_num, hid HS.out.1, hid (Below.grown HBq.out HS.out.2 HBq.out.size (fun k hk => by injection hk with hk; omega))⟩
          case measure => simp only [intOf]; omega
        · obtain rfl : k = ys.length := by omega
          have hltz2 : ¬ (ys.length : Int) < (ys.length : Int) := by omega
          go_wp2_with fail
          go_roundw
          case rel => exact ⟨i + 1, by omega, by go_num, hid (by rw [prodS_succ, ← HC.out]; exact HO'.out), HB'⟩
          case measure => simp only [intOf]; omega
    · obtain rfl : i = xs.length := by omega
      have hltz : ¬ (xs.length : Int) < (xs.length : Int) := by omega
      have hown : ownR w.heap.size wo (.slice (some ⟨w.heap.size, 0, none⟩) L L) (prodS xs ys xs.length) := by
        unfold ownR; rw [prodS_len, ← HL.out]; exact HO.out
      have HW := hid hown
      clear hown HO
      go_wp2_with (go_at_call 55; refine viaI (g := id) (s_trim w.heap.size _ _ _ HW.out (by rw [prodS_len]; omega)) ?_; intro rr ur zr hown2; (try simp at zr))
      go_ret
      exact ⟨_, rfl, hown2.mono HB.out.size, HB.out.trans (Below.mono (by refine Ext.bel ?_; repeat (with_reducible first | exact Ext.refl _ | apply Ext.alloc | apply Ext.aft | apply Ext.drew | apply Ext.drewN | apply Ext.setCell | exact Nat.le_add_right _ _ | exact Nat.le_refl _ | (simp; done) | omega)) HB.out.size)⟩
end Go.Proofs.Ytflmoopiajhadaa

/- Products, monic polynomials, greatest common divisors by a prime: both texts. -/
namespace Go.Proofs.Ytflmoopiajhadaa
open Go Go.RowKit

theorem mod_prods {p : Int} (hp : 2 ≤ p ∧ p ≤ 97) {xs ys : List Int} (h1 : ∀ c ∈ xs, 0 ≤ c ∧ c ≤ p - 1) (h2 : ∀ c ∈ ys, 0 ≤ c ∧ c ≤ p - 1) : ∀ c ∈ xs, ∀ d ∈ ys, 0 ≤ c * d ∧ c * d ≤ 1000000000000000000 :=
  ring_prods (M := p) (by omega) h1 h2

set_option maxHeartbeats 2000000 in
theorem i_times (p : Int) (r1 r2 : Value) (xs ys : List Int) (w : World) (h1 : rdI w r1 xs) (h2 : rdI w r2 ys) (hp : 2 ≤ p ∧ p ≤ 97) (hx : ∀ c ∈ xs, 0 ≤ c ∧ c ≤ p - 1) (hy : ∀ c ∈ ys, 0 ≤ c ∧ c ≤ p - 1) (hl1 : xs.length ≤ 9) (hl2 : ys.length ≤ 1000) :
    Calls Try.prog 35 #[.int .i64 p, r1, r2] w fun e w' => ∃ v, e = .returned v ∧ ownR w.heap.size w' v (timesP p xs ys) ∧ Below w.heap.size w w' := by
  have Hc := hid (mod_prods hp hx hy)
  have hl3 : (prodF xs ys).length ≤ 1000000 := by have := prodF_len xs ys; omega
  have hp1 : 1 ≤ p ∧ p ≤ 1000000000 := by omega
  clear hx hy
  go_enter Try.func35, Try.ntmps35
  go_wp2_with (go_at_call 40; refine viaI (g := id) (i_product _ _ _ _ _ (by repeat (with_reducible first | assumption | apply rdI.aft | apply rdI.alloc | apply rdI.drew | apply rdI.drewN)) (by repeat (with_reducible first | assumption | apply rdI.aft | apply rdI.alloc | apply rdI.drew | apply rdI.drewN)) hl1 hl2 Hc.out) ?_; intro rr ur zr hown; (try simp at zr))
  refine viaI (g := id) (i_reduce _ _ _ _ hown.rd hp1 hl3) ?_
  intro rq uq zq hown2; (try simp at zq)
  go_wp2_with fail
  go_ret
  exact ⟨_, rfl, hown2.mono (by first | omega | (simp; omega)), (by refine Ext.bel ?_; repeat (with_reducible first | exact Ext.refl _ | apply Ext.alloc | apply Ext.aft | apply Ext.drew | apply Ext.drewN | apply Ext.setCell | exact Nat.le_add_right _ _ | exact Nat.le_refl _ | (simp; done) | omega))⟩
set_option maxHeartbeats 2000000 in
theorem s_times (p : Int) (r1 r2 : Value) (xs ys : List Int) (w : World) (h1 : rdI w r1 xs) (h2 : rdI w r2 ys) (hp : 2 ≤ p ∧ p ≤ 97) (hx : ∀ c ∈ xs, 0 ≤ c ∧ c ≤ p - 1) (hy : ∀ c ∈ ys, 0 ≤ c ∧ c ≤ p - 1) (hl1 : xs.length ≤ 9) (hl2 : ys.length ≤ 1000) :
    Calls Try.prog 48 #[.int .i64 p, r1, r2] w fun e w' => ∃ v, e = .returned v ∧ ownR w.heap.size w' v (timesP p xs ys) ∧ Below w.heap.size w w' := by
  have Hc := hid (mod_prods hp hx hy)
  have hl3 : (prodF xs ys).length ≤ 1000000 := by have := prodF_len xs ys; omega
  have hp1 : 1 ≤ p ∧ p ≤ 1000000000 := by omega
  clear hx hy
  go_enter Try.func48, Try.ntmps48
  go_wp2_with (go_at_call 79; refine viaI (g := id) (s_product _ _ _ _ _ (by repeat (with_reducible first | assumption | apply rdI.aft | apply rdI.alloc | apply rdI.drew | apply rdI.drewN)) (by repeat (with_reducible first | assumption | apply rdI.aft | apply rdI.alloc | apply rdI.drew | apply rdI.drewN)) hl1 hl2 Hc.out) ?_; intro rr ur zr hown; (try simp at zr))
  refine viaI (g := id) (s_reduce _ _ _ _ hown.rd hp1 hl3) ?_
  intro rq uq zq hown2; (try simp at zq)
  go_wp2_with fail
  go_ret
  exact ⟨_, rfl, hown2.mono (by first | omega | (simp; omega)), (by refine Ext.bel ?_; repeat (with_reducible first | exact Ext.refl _ | apply Ext.alloc | apply Ext.aft | apply Ext.drew | apply Ext.drewN | apply Ext.setCell | exact Nat.le_add_right _ _ | exact Nat.le_refl _ | (simp; done) | omega))⟩

theorem rd_one (w : World) (a : Int) : rdI (w.alloc (.cells #[.int .i64 a] 2)) (.slice (some ⟨w.heap.size, 0, none⟩) 1 1) [a] := by
  refine ⟨some ⟨w.heap.size, 0, none⟩, 1, rfl, by simp [maxLen], fun _ => ⟨w.heap.size, 0, rfl, fun i hi => ?_⟩⟩
  have h0 : i = 0 := by simp at hi; omega
  subst h0
  simp [go_sem]

set_option maxHeartbeats 2000000 in
theorem i_monic (p : Int) (r : Value) (xs : List Int) (w : World) (h : rdI w r xs) (hs : smallP p = true) (hx : ∀ c ∈ xs, 0 ≤ c ∧ c ≤ p - 1) (hl : xs.length ≤ 9) :
    Calls Try.prog 75 #[.int .i64 p, r] w fun e w' => ∃ v, e = .returned v ∧ ownR w.heap.size w' v (monicP p xs) ∧ Below w.heap.size w w' := by
  have hp := smallP_bd hs
  obtain ⟨a, cap, rfl, _, _⟩ := id h
  by_cases hne : xs = []
  · have e : monicP p xs = [] := by simp [monicP, hne]
    rw [e]; clear e
    subst hne
    simp only [List.length_nil]
    go_enter Try.func75, Try.ntmps75
    go_wp2_with fail
    go_ret
    exact ⟨.slice none 0 0, rfl, ownR.nil _ _, (by refine Ext.bel ?_; repeat (with_reducible first | exact Ext.refl _ | apply Ext.alloc | apply Ext.aft | apply Ext.drew | apply Ext.drewN | apply Ext.setCell | exact Nat.le_add_right _ _ | exact Nat.le_refl _ | (simp; done) | omega))⟩
  obtain ⟨b, o, rfl⟩ := rd_head h hne
  have h1 : 1 ≤ xs.length := by
    rcases Nat.eq_zero_or_pos xs.length with h0 | h0
    · exact absurd (List.eq_nil_of_length_eq_zero h0) hne
    · exact h0
  obtain ⟨k, hk⟩ : ∃ k, k = xs.length - 1 := ⟨_, rfl⟩
  have hkz : (xs.length : Int) - 1 = k := by omega
  have hc := rd_at h (j := k) (by omega)
  have hb := getD_bd (b := p - 1) (by omega) hx k
  have e : monicP p xs = timesP p xs [inv (xs.getD k 0) p] := by unfold monicP; rw [if_neg hne, ← hk]
  rw [e]; clear e
  obtain ⟨x, hxx⟩ : ∃ x, x = xs.getD k 0 := ⟨_, rfl⟩
  rw [← hxx] at hc hb ⊢
  have hi := inv_bd (a := x) (m := p) (by omega)
  have Hi : Hid (∀ c ∈ [inv x p], 0 ≤ c ∧ c ≤ p - 1) := hid (by intro c hc; simp at hc; subst hc; exact hi)
  have Hx := hid hx
  have hn0 : ((xs.length : Int) == 0) = false := by simp; omega
  have HR := hid h
  clear hx hk hxx h hne
  go_enter Try.func75, Try.ntmps75
  go_wp2_with (go_at_call 77; refine via (i_inverseBy _ _ _ hs hb) ?_; intro uu zz; try simp at zz)
  refine viaI (g := id) (i_times _ _ _ xs [inv x p] _ ((HR.out.aft _).alloc _) (rd_one _ _) hp Hx.out Hi.out hl (by simp)) ?_
  intro rr ur zr hown; (try simp at zr)
  go_wp2_with fail
  go_ret
  exact ⟨_, rfl, hown.mono (by first | omega | (simp; done) | (simp; omega)), (by refine Ext.bel ?_; repeat (with_reducible first | exact Ext.refl _ | apply Ext.alloc | apply Ext.aft | apply Ext.drew | apply Ext.drewN | apply Ext.setCell | exact Nat.le_add_right _ _ | exact Nat.le_refl _ | (simp; done) | omega))⟩

set_option maxHeartbeats 2000000 in
theorem s_monic (p : Int) (r : Value) (xs : List Int) (w : World) (h : rdI w r xs) (hs : smallP p = true) (hx : ∀ c ∈ xs, 0 ≤ c ∧ c ≤ p - 1) (hl : xs.length ≤ 9) :
    Calls Try.prog 70 #[.int .i64 p, r] w fun e w' => ∃ v, e = .returned v ∧ ownR w.heap.size w' v (monicP p xs) ∧ Below w.heap.size w w' := by
  have hp := smallP_bd hs
  obtain ⟨a, cap, rfl, _, _⟩ := id h
  by_cases hne : xs = []
  · have e : monicP p xs = [] := by simp [monicP, hne]
    rw [e]; clear e
    subst hne
    simp only [List.length_nil]
    go_enter Try.func70, Try.ntmps70
    go_wp2_with fail
    go_ret
    exact ⟨_, rfl, own_made w, (by refine Ext.bel ?_; repeat (with_reducible first | exact Ext.refl _ | apply Ext.alloc | apply Ext.aft | apply Ext.drew | apply Ext.drewN | apply Ext.setCell | exact Nat.le_add_right _ _ | exact Nat.le_refl _ | (simp; done) | omega))⟩
  obtain ⟨b, o, rfl⟩ := rd_head h hne
  have h1 : 1 ≤ xs.length := by
    rcases Nat.eq_zero_or_pos xs.length with h0 | h0
    · exact absurd (List.eq_nil_of_length_eq_zero h0) hne
    · exact h0
  obtain ⟨k, hk⟩ : ∃ k, k = xs.length - 1 := ⟨_, rfl⟩
  have hkz : (xs.length : Int) - 1 = k := by omega
  have hc := rd_at h (j := k) (by omega)
  have hb := getD_bd (b := p - 1) (by omega) hx k
  have e : monicP p xs = timesP p xs [inv (xs.getD k 0) p] := by unfold monicP; rw [if_neg hne, ← hk]
  rw [e]; clear e
  obtain ⟨x, hxx⟩ : ∃ x, x = xs.getD k 0 := ⟨_, rfl⟩
  rw [← hxx] at hc hb ⊢
  have hi := inv_bd (a := x) (m := p) (by omega)
  have Hi : Hid (∀ c ∈ [inv x p], 0 ≤ c ∧ c ≤ p - 1) := hid (by intro c hc; simp at hc; subst hc; exact hi)
  have Hx := hid hx
  have hn0 : ((xs.length : Int) == 0) = false := by simp; omega
  have hb9 : 0 ≤ x ∧ x ≤ 1000000000000 := by omega
  have hp9 : 1 ≤ p ∧ p ≤ 1000000000000 := by omega
  have HR := hid h
  clear hx hk hxx h hne
  go_enter Try.func70, Try.ntmps70
  go_wp2_with (go_at_call 71; refine pur (s_inverse _ _ _ hb9 hp9) ?_)
  refine viaI (g := id) (s_times _ _ _ xs [inv x p] _ (HR.out.alloc _) (rd_one _ _) hp Hx.out Hi.out hl (by simp)) ?_
  intro rr ur zr hown; (try simp at zr)
  go_wp2_with fail
  go_ret
  exact ⟨_, rfl, hown.mono (by first | omega | (simp; done) | (simp; omega)), (by refine Ext.bel ?_; repeat (with_reducible first | exact Ext.refl _ | apply Ext.alloc | apply Ext.aft | apply Ext.drew | apply Ext.drewN | apply Ext.setCell | exact Nat.le_add_right _ _ | exact Nat.le_refl _ | (simp; done) | omega))⟩

/-- A slice's length. -/
def slenV (v : Value) : Nat := match v with | .slice _ n _ => n | _ => 0
theorem rd_slen {w : World} {v : Value} {xs : List Int} (h : rdI w v xs) : slenV v = xs.length := by
  obtain ⟨a, cap, rfl, _, _⟩ := h; rfl

set_option maxRecDepth 20000 in
set_option maxHeartbeats 4000000 in
theorem i_common (p : Int) (r1 r2 : Value) (f g : List Int) (w : World) (h1 : rdI w r1 f) (h2 : rdI w r2 g) (hs : smallP p = true) (hf : isMod p f) (hg : isMod p g) (hlf : f.length ≤ 9) (hlg : g.length ≤ 9) :
    Calls Try.prog 36 #[.int .i64 p, r1, r2] w fun e w' => ∃ v, e = .returned v ∧ ownR w.heap.size w' v (commonP p f g) ∧ Below w.heap.size w w' := by
  obtain ⟨R, hR⟩ : ∃ R, R = commonP p f g := ⟨_, rfl⟩
  rw [← hR]
  have HR := hid hR
  have H1 := hid h1
  have H2 := hid h2
  have Hf := hid hf
  have Hg := hid hg
  have hp := smallP_bd hs
  clear hR h1 h2 hf hg
  go_enter Try.func36, Try.ntmps36
  go_wp2_with fail
  go_loopw [1, 2] (fun s1 s2 wr => ∃ (n : Nat) (F G : List Int) (uu : World), wr = aft w uu ∧ G.length ≤ n ∧ Hid (comF p n F G = R) ∧ Hid (rdI wr s1 F) ∧ Hid (rdI wr s2 G) ∧ Hid (isMod p F) ∧ Hid (isMod p G) ∧ F.length ≤ 9 ∧ G.length ≤ 9) (fun _ s2 _ => slenV s2)
  case atStart =>
    exact ⟨g.length, f, g, w, (aft_of (Below.refl _ _)).symm, Nat.le_refl _, hid HR.out.symm, hid H1.out, hid H2.out, Hf, Hg, hlf, hlg⟩
  case round =>
    obtain ⟨n, F, G, uu, rfl, hn, HC, HF, HG, MF, MG, lF, lG⟩ := hrel
    have zs := size_aft w uu
    obtain ⟨a2, c2, e2, _, _⟩ := HG.out
    subst e2
    by_cases hG : G = []
    · have hR : Hid (R = monicP p F) := hid (by rw [← HC.out, hG, comF_nil])
      have hz : ¬ (0 : Int) < (G.length : Int) := by rw [hG]; simp
      have hz2 : ¬ 0 < G.length := by rw [hG]; simp
      clear hG
      go_wp2_with (go_at_call 75; refine viaI (g := id) (i_monic _ _ _ _ HF.out hs MF.out.1 lF) ?_; intro rr ur zr hown; (try simp at zr))
      go_ret
      exact ⟨_, rfl, by rw [hR.out]; exact hown.mono zs, (by refine Ext.bel ?_; repeat (with_reducible first | exact Ext.refl _ | apply Ext.alloc | apply Ext.aft | apply Ext.drew | apply Ext.drewN | apply Ext.setCell | exact Nat.le_add_right _ _ | exact Nat.le_refl _ | (simp; done) | omega))⟩
    · have h1 : 1 ≤ G.length := by
        rcases Nat.eq_zero_or_pos G.length with h0 | h0
        · exact absurd (List.eq_nil_of_length_eq_zero h0) hG
        · exact h0
      obtain ⟨n, rfl⟩ : ∃ k, n = k + 1 := ⟨n - 1, by omega⟩
      have HC2 : Hid (comF p n G (remP p F G) = R) := hid (by rw [← HC.out, comF_step hG])
      have HL := hid (rem_len hs MF.out.1 MG.out h1)
      have MR := hid (isMod_rem (g := G) hs MF.out.1)
      have hz : (0 : Int) < (G.length : Int) := by omega
      have hz2 : 0 < G.length := h1
      have HG2 := HG
      clear hG
      go_wp2_with (go_at_call 42; refine viaI2 (g := fun r q => .tuple #[r, q]) (i_divide _ _ F G _ _ HF.out HG.out hs MF.out.1 MG.out.1 (by omega) (by omega)) ?_; intro v1 v2 ur zr o1 o2 n1 n2; (try simp at zr))
      have HO2 := hid o2.rd
      clear o1 o2 n1 n2
      go_roundw
      case rel => exact ⟨n, G, remP p F G, _, (aft_of ((below_aft w uu).trans ((below_aft _ _).mono (size_aft w uu)))).symm, by have := HL.out; omega, HC2, hid (HG2.out.aft _), HO2, MG, MR, lG, by have := HL.out; omega⟩
      case measure => rw [rd_slen HO2.out]; exact HL.out
set_option maxRecDepth 20000 in
set_option maxHeartbeats 4000000 in
theorem s_common (p : Int) (r1 r2 : Value) (f g : List Int) (w : World) (h1 : rdI w r1 f) (h2 : rdI w r2 g) (hs : smallP p = true) (hf : isMod p f) (hg : isMod p g) (hlf : f.length ≤ 9) (hlg : g.length ≤ 9) :
    Calls Try.prog 49 #[.int .i64 p, r1, r2] w fun e w' => ∃ v, e = .returned v ∧ ownR w.heap.size w' v (commonP p f g) ∧ Below w.heap.size w w' := by
  obtain ⟨R, hR⟩ : ∃ R, R = commonP p f g := ⟨_, rfl⟩
  rw [← hR]
  have HR := hid hR
  have H1 := hid h1
  have H2 := hid h2
  have Hf := hid hf
  have Hg := hid hg
  have hp := smallP_bd hs
  clear hR h1 h2 hf hg
  go_enter Try.func49, Try.ntmps49
  go_wp2_with fail
  go_loopw [1, 2] (fun s1 s2 wr => ∃ (n : Nat) (F G : List Int) (uu : World), wr = aft w uu ∧ G.length ≤ n ∧ Hid (comF p n F G = R) ∧ Hid (rdI wr s1 F) ∧ Hid (rdI wr s2 G) ∧ Hid (isMod p F) ∧ Hid (isMod p G) ∧ F.length ≤ 9 ∧ G.length ≤ 9) (fun _ s2 _ => slenV s2)
  case atStart =>
    exact ⟨g.length, f, g, w, (aft_of (Below.refl _ _)).symm, Nat.le_refl _, hid HR.out.symm, hid H1.out, hid H2.out, Hf, Hg, hlf, hlg⟩
  case round =>
    obtain ⟨n, F, G, uu, rfl, hn, HC, HF, HG, MF, MG, lF, lG⟩ := hrel
    have zs := size_aft w uu
    obtain ⟨a2, c2, e2, _, _⟩ := HG.out
    subst e2
    by_cases hG : G = []
    · have hR : Hid (R = monicP p F) := hid (by rw [← HC.out, hG, comF_nil])
      have hz : ¬ (0 : Int) < (G.length : Int) := by rw [hG]; simp
      have hz2 : ¬ 0 < G.length := by rw [hG]; simp
      clear hG
      go_wp2_with (go_at_call 70; refine viaI (g := id) (s_monic _ _ _ _ HF.out hs MF.out.1 lF) ?_; intro rr ur zr hown; (try simp at zr))
      go_ret
      exact ⟨_, rfl, by rw [hR.out]; exact hown.mono zs, (by refine Ext.bel ?_; repeat (with_reducible first | exact Ext.refl _ | apply Ext.alloc | apply Ext.aft | apply Ext.drew | apply Ext.drewN | apply Ext.setCell | exact Nat.le_add_right _ _ | exact Nat.le_refl _ | (simp; done) | omega))⟩
    · have h1 : 1 ≤ G.length := by
        rcases Nat.eq_zero_or_pos G.length with h0 | h0
        · exact absurd (List.eq_nil_of_length_eq_zero h0) hG
        · exact h0
      obtain ⟨n, rfl⟩ : ∃ k, n = k + 1 := ⟨n - 1, by omega⟩
      have HC2 : Hid (comF p n G (remP p F G) = R) := hid (by rw [← HC.out, comF_step hG])
      have HL := hid (rem_len hs MF.out.1 MG.out h1)
      have MR := hid (isMod_rem (g := G) hs MF.out.1)
      have hz : (0 : Int) < (G.length : Int) := by omega
      have hz2 : 0 < G.length := h1
      have HG2 := HG
      clear hG
      go_wp2_with (go_at_call 31; refine viaI2 (g := fun r q => .tuple #[r, q]) (s_divide _ _ F G _ _ HF.out HG.out hs MF.out.1 MG.out.1 (by omega) (by omega)) ?_; intro v1 v2 ur zr o1 o2 n1 n2; (try simp at zr))
      have HO2 := hid o2.rd
      clear o1 o2 n1 n2
      go_roundw
      case rel => exact ⟨n, G, remP p F G, _, (aft_of ((below_aft w uu).trans ((below_aft _ _).mono (size_aft w uu)))).symm, by have := HL.out; omega, HC2, hid (HG2.out.aft _), HO2, MG, MR, lG, by have := HL.out; omega⟩
      case measure => rw [rd_slen HO2.out]; exact HL.out
end Go.Proofs.Ytflmoopiajhadaa

/- Pairs: both texts. -/
namespace Go.Proofs.Ytflmoopiajhadaa
open Go Go.RowKit

/-- The first error of a monic polynomial and two by the prime. -/
def pairingF (p n : Int) (f g h : List Int) : Int := if inRingB p n f = true ∧ modB p g = true ∧ modB p h = true then (if monicB f = true then 0 else 5) else 1
/-- Whether polynomials by the prime are a pair for a monic one. -/
def isPairB (p : Int) (f g h : List Int) : Bool := monicB g && monicB h && decide (1 < g.length) && decide (1 < h.length) && decide (timesP p g h = redF p f) && decide ((commonP p g h).length = 1)

set_option maxHeartbeats 4000000 in
theorem i_pairing (p n : Int) (r1 r2 r3 : Value) (f g h : List Int) (w : World) (h1 : rdI w r1 f) (h2 : rdI w r2 g) (h3 : rdI w r3 h) :
    Calls Try.prog 14 #[(.agg #[.int .i64 p, .int .i64 n]), r1, r2, r3] w fun e w' => e = .returned (.int .i64 (pairingF p n f g h)) ∧ Below w.heap.size w w' := by
  cases hx : inRingB p n f
  · have e : pairingF p n f g h = 1 := by unfold pairingF; rw [if_neg (by simp [hx])]
    rw [e]; clear e
    go_enter Try.func14, Try.ntmps14
    go_wp2_with (first | (go_at_call 21; refine via (i_IsInRing _ _ _ _ _ (by repeat (with_reducible first | assumption | apply rdI.aft | apply rdI.alloc | apply rdI.drew | apply rdI.drewN))) ?_; intro uu zz; try simp at zz))
    go_ret
    exact ⟨rfl, (by refine Ext.bel ?_; repeat (with_reducible first | exact Ext.refl _ | apply Ext.alloc | apply Ext.aft | apply Ext.drew | apply Ext.drewN | apply Ext.setCell | exact Nat.le_add_right _ _ | exact Nat.le_refl _ | (simp; done) | omega))⟩
  cases hy : modB p g
  · have e : pairingF p n f g h = 1 := by unfold pairingF; rw [if_neg (by simp [hy])]
    rw [e]; clear e
    go_enter Try.func14, Try.ntmps14
    go_wp2_with (first | (go_at_call 21; refine via (i_IsInRing _ _ _ _ _ (by repeat (with_reducible first | assumption | apply rdI.aft | apply rdI.alloc | apply rdI.drew | apply rdI.drewN))) ?_; intro uu zz; try simp at zz))
    refine via (i_IsModular _ _ g _ (by repeat (with_reducible first | assumption | apply rdI.aft | apply rdI.alloc | apply rdI.drew | apply rdI.drewN))) ?_
    try (intro uu zz; try simp at zz)
    go_wp2_with fail
    go_ret
    exact ⟨rfl, (by refine Ext.bel ?_; repeat (with_reducible first | exact Ext.refl _ | apply Ext.alloc | apply Ext.aft | apply Ext.drew | apply Ext.drewN | apply Ext.setCell | exact Nat.le_add_right _ _ | exact Nat.le_refl _ | (simp; done) | omega))⟩
  cases hz : modB p h
  · have e : pairingF p n f g h = 1 := by unfold pairingF; rw [if_neg (by simp [hz])]
    rw [e]; clear e
    go_enter Try.func14, Try.ntmps14
    go_wp2_with (first | (go_at_call 21; refine via (i_IsInRing _ _ _ _ _ (by repeat (with_reducible first | assumption | apply rdI.aft | apply rdI.alloc | apply rdI.drew | apply rdI.drewN))) ?_; intro uu zz; try simp at zz))
    refine via (i_IsModular _ _ g _ (by repeat (with_reducible first | assumption | apply rdI.aft | apply rdI.alloc | apply rdI.drew | apply rdI.drewN))) ?_
    try (intro uu zz; try simp at zz)
    go_wp2_with fail
    refine via (i_IsModular _ _ h _ (by repeat (with_reducible first | assumption | apply rdI.aft | apply rdI.alloc | apply rdI.drew | apply rdI.drewN))) ?_
    try (intro uu zz; try simp at zz)
    go_wp2_with fail
    go_ret
    exact ⟨rfl, (by refine Ext.bel ?_; repeat (with_reducible first | exact Ext.refl _ | apply Ext.alloc | apply Ext.aft | apply Ext.drew | apply Ext.drewN | apply Ext.setCell | exact Nat.le_add_right _ _ | exact Nat.le_refl _ | (simp; done) | omega))⟩
  have e : pairingF p n f g h = if monicB f = true then 0 else 5 := by unfold pairingF; rw [if_pos ⟨hx, hy, hz⟩]
  rw [e]; clear e
  cases hm : monicB f
  all_goals
    go_enter Try.func14, Try.ntmps14
    go_wp2_with (first | (go_at_call 21; refine via (i_IsInRing _ _ _ _ _ (by repeat (with_reducible first | assumption | apply rdI.aft | apply rdI.alloc | apply rdI.drew | apply rdI.drewN))) ?_; intro uu zz; try simp at zz))
    refine via (i_IsModular _ _ g _ (by repeat (with_reducible first | assumption | apply rdI.aft | apply rdI.alloc | apply rdI.drew | apply rdI.drewN))) ?_
    try (intro uu zz; try simp at zz)
    go_wp2_with fail
    refine via (i_IsModular _ _ h _ (by repeat (with_reducible first | assumption | apply rdI.aft | apply rdI.alloc | apply rdI.drew | apply rdI.drewN))) ?_
    try (intro uu zz; try simp at zz)
    go_wp2_with (go_at_call 33; refine pur (i_isMonic _ f _ (by repeat (with_reducible first | assumption | apply rdI.aft | apply rdI.alloc | apply rdI.drew | apply rdI.drewN))) ?_)
    go_ret
    exact ⟨rfl, (by refine Ext.bel ?_; repeat (with_reducible first | exact Ext.refl _ | apply Ext.alloc | apply Ext.aft | apply Ext.drew | apply Ext.drewN | apply Ext.setCell | exact Nat.le_add_right _ _ | exact Nat.le_refl _ | (simp; done) | omega))⟩
set_option maxHeartbeats 4000000 in
theorem s_pairing (p n : Int) (r1 r2 r3 : Value) (f g h : List Int) (w : World) (h1 : rdI w r1 f) (h2 : rdI w r2 g) (h3 : rdI w r3 h) :
    Calls Try.prog 18 #[(.agg #[.int .i64 p, .int .i64 n]), r1, r2, r3] w fun e w' => e = .returned (.int .i64 (pairingF p n f g h)) ∧ Below w.heap.size w w' := by
  cases hx : inRingB p n f
  · have e : pairingF p n f g h = 1 := by unfold pairingF; rw [if_neg (by simp [hx])]
    rw [e]; clear e
    go_enter Try.func18, Try.ntmps18
    go_wp2_with (first | (go_at_call 26; refine via (s_IsInRing _ _ _ _ _ (by repeat (with_reducible first | assumption | apply rdI.aft | apply rdI.alloc | apply rdI.drew | apply rdI.drewN))) ?_; intro uu zz; try simp at zz))
    go_ret
    exact ⟨rfl, (by refine Ext.bel ?_; repeat (with_reducible first | exact Ext.refl _ | apply Ext.alloc | apply Ext.aft | apply Ext.drew | apply Ext.drewN | apply Ext.setCell | exact Nat.le_add_right _ _ | exact Nat.le_refl _ | (simp; done) | omega))⟩
  cases hy : modB p g
  · have e : pairingF p n f g h = 1 := by unfold pairingF; rw [if_neg (by simp [hy])]
    rw [e]; clear e
    go_enter Try.func18, Try.ntmps18
    go_wp2_with (first | (go_at_call 26; refine via (s_IsInRing _ _ _ _ _ (by repeat (with_reducible first | assumption | apply rdI.aft | apply rdI.alloc | apply rdI.drew | apply rdI.drewN))) ?_; intro uu zz; try simp at zz))
    refine pur (s_IsModular _ _ g _ (by repeat (with_reducible first | assumption | apply rdI.aft | apply rdI.alloc | apply rdI.drew | apply rdI.drewN))) ?_
    try (intro uu zz; try simp at zz)
    go_wp2_with fail
    go_ret
    exact ⟨rfl, (by refine Ext.bel ?_; repeat (with_reducible first | exact Ext.refl _ | apply Ext.alloc | apply Ext.aft | apply Ext.drew | apply Ext.drewN | apply Ext.setCell | exact Nat.le_add_right _ _ | exact Nat.le_refl _ | (simp; done) | omega))⟩
  cases hz : modB p h
  · have e : pairingF p n f g h = 1 := by unfold pairingF; rw [if_neg (by simp [hz])]
    rw [e]; clear e
    go_enter Try.func18, Try.ntmps18
    go_wp2_with (first | (go_at_call 26; refine via (s_IsInRing _ _ _ _ _ (by repeat (with_reducible first | assumption | apply rdI.aft | apply rdI.alloc | apply rdI.drew | apply rdI.drewN))) ?_; intro uu zz; try simp at zz))
    refine pur (s_IsModular _ _ g _ (by repeat (with_reducible first | assumption | apply rdI.aft | apply rdI.alloc | apply rdI.drew | apply rdI.drewN))) ?_
    try (intro uu zz; try simp at zz)
    go_wp2_with fail
    refine pur (s_IsModular _ _ h _ (by repeat (with_reducible first | assumption | apply rdI.aft | apply rdI.alloc | apply rdI.drew | apply rdI.drewN))) ?_
    try (intro uu zz; try simp at zz)
    go_wp2_with fail
    go_ret
    exact ⟨rfl, (by refine Ext.bel ?_; repeat (with_reducible first | exact Ext.refl _ | apply Ext.alloc | apply Ext.aft | apply Ext.drew | apply Ext.drewN | apply Ext.setCell | exact Nat.le_add_right _ _ | exact Nat.le_refl _ | (simp; done) | omega))⟩
  have e : pairingF p n f g h = if monicB f = true then 0 else 5 := by unfold pairingF; rw [if_pos ⟨hx, hy, hz⟩]
  rw [e]; clear e
  cases hm : monicB f
  all_goals
    go_enter Try.func18, Try.ntmps18
    go_wp2_with (first | (go_at_call 26; refine via (s_IsInRing _ _ _ _ _ (by repeat (with_reducible first | assumption | apply rdI.aft | apply rdI.alloc | apply rdI.drew | apply rdI.drewN))) ?_; intro uu zz; try simp at zz))
    refine pur (s_IsModular _ _ g _ (by repeat (with_reducible first | assumption | apply rdI.aft | apply rdI.alloc | apply rdI.drew | apply rdI.drewN))) ?_
    try (intro uu zz; try simp at zz)
    go_wp2_with fail
    refine pur (s_IsModular _ _ h _ (by repeat (with_reducible first | assumption | apply rdI.aft | apply rdI.alloc | apply rdI.drew | apply rdI.drewN))) ?_
    try (intro uu zz; try simp at zz)
    go_wp2_with (go_at_call 46; refine pur (s_isMonic _ f _ (by repeat (with_reducible first | assumption | apply rdI.aft | apply rdI.alloc | apply rdI.drew | apply rdI.drewN))) ?_)
    go_ret
    exact ⟨rfl, (by refine Ext.bel ?_; repeat (with_reducible first | exact Ext.refl _ | apply Ext.alloc | apply Ext.aft | apply Ext.drew | apply Ext.drewN | apply Ext.setCell | exact Nat.le_add_right _ _ | exact Nat.le_refl _ | (simp; done) | omega))⟩

theorem timesP_mod {p : Int} (hp : 1 ≤ p) (f g : List Int) : isMod p (timesP p f g) := isMod_red hp _
theorem timesP_len (p : Int) (f g : List Int) : (timesP p f g).length ≤ f.length + g.length := by
  have := redF_len p (prodF f g); have := prodF_len f g; unfold timesP; omega

theorem purB {P : Program} {f : FuncId} {args : Array Value} {w : World} {b c : Bool} {R : Ending → World → Prop}
    (h : Calls P f args w fun e w' => e = .returned (.bool b) ∧ w = w') (hb : b = c) (hR : R (.returned (.bool c)) w) : Calls P f args w R := by subst hb; exact pur h hR
theorem viaB {P : Program} {f : FuncId} {args : Array Value} {w : World} {b c : Bool} {R : Ending → World → Prop}
    (h : Calls P f args w fun e w' => e = .returned (.bool b) ∧ Below w.heap.size w w') (hb : b = c) (hR : ∀ u, w.heap.size ≤ (aft w u).heap.size → R (.returned (.bool c)) (aft w u)) : Calls P f args w R := by subst hb; exact via h hR

theorem i_isMonicE (r : Value) (xs : List Int) (b : Bool) (w : World) (h : rdI w r xs) (hb : monicB xs = b) :
    Calls Try.prog 33 #[r] w fun e w' => e = .returned (.bool b) ∧ w = w' := by subst hb; exact i_isMonic r xs w h
theorem s_isMonicE (r : Value) (xs : List Int) (b : Bool) (w : World) (h : rdI w r xs) (hb : monicB xs = b) :
    Calls Try.prog 46 #[r] w fun e w' => e = .returned (.bool b) ∧ w = w' := by subst hb; exact s_isMonic r xs w h
theorem i_sameE (r1 r2 : Value) (xs ys : List Int) (b : Bool) (w : World) (h1 : rdI w r1 xs) (h2 : rdI w r2 ys) (hb : decide (xs = ys) = b) :
    Calls Try.prog 34 #[r1, r2] w fun e w' => e = .returned (.bool b) ∧ Below w.heap.size w w' := by subst hb; exact i_same r1 r2 xs ys w h1 h2
theorem s_sameE (r1 r2 : Value) (xs ys : List Int) (b : Bool) (w : World) (h1 : rdI w r1 xs) (h2 : rdI w r2 ys) (hb : decide (xs = ys) = b) :
    Calls Try.prog 47 #[r1, r2] w fun e w' => e = .returned (.bool b) ∧ Below w.heap.size w w' := by subst hb; exact s_same r1 r2 xs ys w h1 h2

end Go.Proofs.Ytflmoopiajhadaa
