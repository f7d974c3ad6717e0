/- Polynomials by a prime: plain. -/
import Derived.Test.YtdhnpmjoajaeiaaH14
namespace Go.Proofs.Ytdhnpmjoajaeiaa

def invOk : Bool := (List.range 98).all fun p => !(smallP (p : Int)) || (List.range p).all fun a => a == 0 || inv (a : Int) (p : Int) * (a : Int) % (p : Int) == 1
theorem invOk_t : invOk = true := by decide +kernel
theorem inv_ok {p a : Int} (h : smallP p = true) (ha : 0 < a ∧ a ≤ p - 1) : inv a p * a % p = 1 := by
  have hp := smallP_bd h
  have h1 := List.all_eq_true.1 invOk_t p.toNat (List.mem_range.2 (by omega))
  have e : ((p.toNat : Nat) : Int) = p := by omega
  rw [e, h] at h1
  simp only [Bool.not_true, Bool.false_or] at h1
  have h2 := List.all_eq_true.1 h1 a.toNat (List.mem_range.2 (by omega))
  have e2 : ((a.toNat : Nat) : Int) = a := by omega
  rw [e2] at h2
  have h3 : (a.toNat == 0) = false := by simp; omega
  rw [h3] at h2
  simpa using h2

theorem subK_getD (m : Int) (A : List Int) (k : Nat) (c : Int) (g : List Int) (j : Nat) (hj : j < A.length) : ∀ t, (subK m A k c g t).getD j 0 = if k ≤ j ∧ j < k + t then (A.getD j 0 - c * g.getD (j - k) 0) % m else A.getD j 0 := by
  intro t
  induction t with
  | zero =>
    rw [if_neg (by omega)]; rfl
  | succ t ih =>
    rw [subK_succ, List.getD_eq_getElem?_getD, List.getElem?_set]
    by_cases h : k + t = j
    · rw [if_pos h, if_pos (by rw [subK_len]; omega), if_pos (by omega)]
      have e : (subK m A k c g t).getD (k + t) 0 = A.getD j 0 := by
        rw [h, ih, if_neg (by omega)]
      rw [e, show j - k = t by omega]
      rfl
    · rw [if_neg h, ← List.getD_eq_getElem?_getD, ih]
      by_cases h2 : k ≤ j ∧ j < k + t
      · rw [if_pos h2, if_pos (by omega)]
      · rw [if_neg h2, if_neg (by omega)]
/-- The numbers from the divisor's degree on are gone. -/
theorem div_top {m : Int} {lead : Int → Int} {f g : List Int} (hm : 1 ≤ m) (hlg : 1 ≤ g.length) (hl : ∀ x, 0 ≤ x ∧ x ≤ m - 1 → (x - lead x * g.getD (g.length - 1) 0) % m = 0) (hlb : ∀ x, 0 ≤ x ∧ x ≤ m - 1 → 0 ≤ lead x ∧ lead x ≤ m - 1) (hf : ∀ x ∈ f, 0 ≤ x ∧ x ≤ m - 1) :
    ∀ t, t ≤ divN f g → ∀ j, divN f g - t + g.length - 1 ≤ j → j < f.length → (divS m lead f g (divN f g) t).1.getD j 0 = 0 := by
  intro t
  induction t with
  | zero =>
    intro _ j h1 h2
    unfold divN at h1
    omega
  | succ t ih =>
    intro ht j h1 h2
    have hk : (divN f g - 1 - t) + t + 1 = divN f g := by omega
    rw [divS_succ m lead f g _ t (divN f g - 1 - t) hk]
    have hlen := (divS_len m lead f g (divN f g) t).1
    show (subK m _ _ _ g g.length).getD j 0 = 0
    rw [subK_getD _ _ _ _ _ _ (by omega)]
    by_cases h3 : j = divN f g - 1 - t + g.length - 1
    · rw [if_pos (by omega), ← h3, show j - (divN f g - 1 - t) = g.length - 1 by omega]
      exact hl _ (getD_bd (b := m - 1) (by omega) (divS_bd hm hlb hf t).1 j)
    · rw [if_neg (by omega)]
      exact ih (by omega) j (by omega) h2
theorem trimN_bd (a : List Int) (b : Nat) : ∀ n, (∀ j, b ≤ j → j < n → a.getD j 0 = 0) → trimN a n ≤ b := by
  intro n
  induction n with
  | zero => intro _; simp [trimN]
  | succ n ih =>
    intro h
    simp only [trimN]
    split
    · exact ih fun j h1 h2 => h j h1 (by omega)
    · rename_i h0
      rcases Nat.lt_or_ge n b with h1 | h1
      · omega
      · exact absurd (h n h1 (by omega)) h0
theorem lastNZ_trim (a : List Int) : lastNZ (trimF a) = true := by
  have key : ∀ n, n ≤ a.length → trimN a n = 0 ∨ (a.getD (trimN a n - 1) 0 ≠ 0 ∧ 1 ≤ trimN a n) := by
    intro n
    induction n with
    | zero => intro _; left; rfl
    | succ n ih =>
      intro hn
      simp only [trimN]
      split
      · exact ih (by omega)
      · rename_i h0; right; exact ⟨by simpa using h0, by omega⟩
  have hle := trimN_le a a.length
  rcases key a.length (Nat.le_refl _) with h | ⟨h, h1⟩
  · have : trimF a = [] := by unfold trimF; rw [h]; rfl
    rw [this]; rfl
  · have hl : (trimF a).length = trimN a a.length - 1 + 1 := by unfold trimF; rw [List.length_take]; omega
    rw [lastNZ_at hl]
    have e : (trimF a)[trimN a a.length - 1]'(by omega) = a.getD (trimN a a.length - 1) 0 := by
      rw [← getD_lt (by omega), trimF_getD]
    rw [e]
    simpa using h
theorem modL_mem {m : Int} (hm : 1 ≤ m) {xs : List Int} : ∀ x ∈ modL m xs, 0 ≤ x ∧ x ≤ m - 1 := by
  intro x hx
  simp only [modL, List.mem_map] at hx
  obtain ⟨y, _, rfl⟩ := hx
  exact ⟨Int.emod_nonneg _ (by omega), by have := Int.emod_lt_of_pos y (show 0 < m by omega); omega⟩

/-- A polynomial by a prime: in range, and the last one not 0. -/
def isMod (p : Int) (xs : List Int) : Prop := (∀ x ∈ xs, 0 ≤ x ∧ x ≤ p - 1) ∧ lastNZ xs = true
theorem isMod_red {p : Int} (hp : 1 ≤ p) (xs : List Int) : isMod p (redF p xs) :=
  ⟨fun x hx => modL_mem hp x (trimF_mem hx), lastNZ_trim _⟩
theorem isMod_last {p : Int} {xs : List Int} (h : isMod p xs) (hl : 1 ≤ xs.length) : 0 < xs.getD (xs.length - 1) 0 ∧ xs.getD (xs.length - 1) 0 ≤ p - 1 := by
  have h1 := lastNZ_at (xs := xs) (k := xs.length - 1) (by omega)
  rw [h.2] at h1
  have h2 := h.1 (xs[xs.length - 1]'(by omega)) (List.getElem_mem _)
  rw [getD_lt (by omega)]
  simp at h1
  omega
theorem lead_ok {p : Int} (h : smallP p = true) {g : List Int} (hg : isMod p g) (hl : 1 ≤ g.length) : ∀ x, 0 ≤ x ∧ x ≤ p - 1 → (x - leadF p (inv (g.getD (g.length - 1) 0) p) x * g.getD (g.length - 1) 0) % p = 0 := by
  intro x _
  have h1 := inv_ok h (isMod_last hg hl)
  obtain ⟨a, ha⟩ : ∃ a, a = g.getD (g.length - 1) 0 := ⟨_, rfl⟩
  rw [← ha] at h1 ⊢
  obtain ⟨L, hL⟩ : ∃ L, L = inv a p := ⟨_, rfl⟩
  rw [← hL] at h1 ⊢
  unfold leadF
  have e : x * L % p * a % p = x % p := by
    rw [Int.mul_emod, Int.emod_emod, ← Int.mul_emod, Int.mul_assoc, Int.mul_emod, h1]
    simp
  rw [Int.sub_emod, e, Int.sub_self]
  simp
theorem isMod_rem {p : Int} (h : smallP p = true) {f g : List Int} (hf : ∀ x ∈ f, 0 ≤ x ∧ x ≤ p - 1) : isMod p (remP p f g) := by
  have hp := smallP_bd h
  exact ⟨fun x hx => (divS_bd (by omega) (leadF_bd (by omega)) hf _).1 x (trimF_mem hx), lastNZ_trim _⟩
theorem isMod_quo {p : Int} (h : smallP p = true) {f g : List Int} (hf : ∀ x ∈ f, 0 ≤ x ∧ x ≤ p - 1) : isMod p (quoP p f g) := by
  have hp := smallP_bd h
  exact ⟨fun x hx => (divS_bd (by omega) (leadF_bd (by omega)) hf _).2 x (trimF_mem hx), lastNZ_trim _⟩
theorem rem_len {p : Int} (h : smallP p = true) {f g : List Int} (hf : ∀ x ∈ f, 0 ≤ x ∧ x ≤ p - 1) (hg : isMod p g) (hl : 1 ≤ g.length) : (remP p f g).length < g.length := by
  have hp := smallP_bd h
  have hs := divS_len p (leadF p (inv (g.getD (g.length - 1) 0) p)) f g (divN f g) (divN f g)
  unfold remP remF trimF
  rw [List.length_take]
  have h1 := trimN_bd (divS p (leadF p (inv (g.getD (g.length - 1) 0) p)) f g (divN f g) (divN f g)).1 (g.length - 1) (divS p (leadF p (inv (g.getD (g.length - 1) 0) p)) f g (divN f g) (divN f g)).1.length fun j h1 h2 =>
    div_top (by omega) hl (lead_ok h hg hl) (leadF_bd (by omega)) hf _ (Nat.le_refl _) j (by omega) (by omega)
  omega
theorem rem_len2 {p : Int} (f g : List Int) : (remP p f g).length ≤ f.length ∧ (quoP p f g).length ≤ f.length + 1 := by
  have hs := divS_len p (leadF p (inv (g.getD (g.length - 1) 0) p)) f g (divN f g) (divN f g)
  unfold remP quoP remF quoF
  have h1 := trimF_len (divS p (leadF p (inv (g.getD (g.length - 1) 0) p)) f g (divN f g) (divN f g)).1
  have h2 := trimF_len (divS p (leadF p (inv (g.getD (g.length - 1) 0) p)) f g (divN f g) (divN f g)).2
  have : divN f g ≤ f.length + 1 := by unfold divN; omega
  omega

/-- Products, monic ones and greatest common divisors by a prime. -/
def timesP (p : Int) (f g : List Int) : List Int := redF p (prodF f g)
def monicP (p : Int) (f : List Int) : List Int := if f = [] then [] else timesP p f [inv (f.getD (f.length - 1) 0) p]
def comF (p : Int) : Nat → List Int → List Int → List Int
  | 0, f, _ => monicP p f
  | n + 1, f, g => if g = [] then monicP p f else comF p n g (remP p f g)
def commonP (p : Int) (f g : List Int) : List Int := comF p g.length f g
theorem comF_nil (p : Int) (n : Nat) (f : List Int) : comF p n f [] = monicP p f := by cases n <;> simp [comF]
theorem comF_step {p : Int} {n : Nat} {f g : List Int} (h : g ≠ []) : comF p (n + 1) f g = comF p n g (remP p f g) := by simp [comF, h]
end Go.Proofs.Ytdhnpmjoajaeiaa
