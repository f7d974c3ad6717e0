/- Plain: all roots in a ring, by balls. -/
import Derived.Test.YtdhnpmjoajaeiaaZA
namespace Go.Proofs.Ytdhnpmjoajaeiaa
open Go Go.RowKit

/-- The content of a row of numbers. -/
def cntF (f : List Int) : Int := f.foldl (fun d c => (Int.gcd d c : Int)) 0
theorem cnt_dvd : ∀ (f : List Int) (d0 : Int), f.foldl (fun d c => (Int.gcd d c : Int)) d0 ∣ d0 ∧ ∀ c ∈ f, f.foldl (fun d c => (Int.gcd d c : Int)) d0 ∣ c := by
  intro f
  induction f with
  | nil => intro d0; exact ⟨Int.dvd_refl _, fun c hc => by simp at hc⟩
  | cons c r ih =>
    intro d0
    obtain ⟨h1, h2⟩ := ih (Int.gcd d0 c : Int)
    refine ⟨Int.dvd_trans h1 (Int.gcd_dvd_left _ _), fun x hx => ?_⟩
    rcases List.mem_cons.1 hx with rfl | hx
    · exact Int.dvd_trans h1 (Int.gcd_dvd_right _ _)
    · exact h2 x hx
theorem dvd_cnt {x : Int} : ∀ (f : List Int) (d0 : Int), x ∣ d0 → (∀ c ∈ f, x ∣ c) → x ∣ f.foldl (fun d c => (Int.gcd d c : Int)) d0 := by
  intro f
  induction f with
  | nil => intro d0 h _; exact h
  | cons c r ih =>
    intro d0 h h2
    exact ih _ (Int.dvd_coe_gcd h (h2 c (by simp))) (fun y hy => h2 y (by simp [hy]))
theorem cnt_mem {f : List Int} {c : Int} (h : c ∈ f) : cntF f ∣ c := (cnt_dvd f 0).2 c h
theorem cnt_of {x : Int} {f : List Int} (h : ∀ c ∈ f, x ∣ c) : x ∣ cntF f := dvd_cnt f 0 (Int.dvd_zero _) h
theorem ev_dvd {q : Int} : ∀ {f : List Int}, (∀ c ∈ f, q ∣ c) → ∀ y, q ∣ ev f y := by
  intro f
  induction f with
  | nil => intro _ y; exact Int.dvd_zero _
  | cons c r ih =>
    intro h y
    exact Int.dvd_add (Int.dvd_mul_of_dvd_left (ih (fun x hx => h x (by simp [hx])) y)) (h c (by simp))
theorem ev_div {q : Int} (hq : q ≠ 0) : ∀ {f : List Int}, (∀ c ∈ f, q ∣ c) → ∀ y, ev f y = q * ev (f.map (· / q)) y := by
  intro f
  induction f with
  | nil => intro _ y; simp [ev]
  | cons c r ih =>
    intro h y
    obtain ⟨t, ht⟩ := h c (by simp)
    show ev r y * y + c = q * (ev (r.map (· / q)) y * y + c / q)
    rw [ih (fun x hx => h x (by simp [hx])) y, ht, Int.mul_ediv_cancel_left _ hq]
    grind
/-- One step of the substitution: what there is times a + p y, and the coefficient. -/
def subR (m a p c : Int) (o : List Int) : List Int := (List.range (o.length + 1)).map fun k => if k = 0 then (o.getD 0 0 * a % m + c % m) % m else (o.getD k 0 * a % m + o.getD (k - 1) 0 * p) % m
def subF (m a p : Int) : List Int → List Int
  | [] => []
  | c :: r => subR m a p c (subF m a p r)
theorem subR_len (m a p c : Int) (o : List Int) : (subR m a p c o).length = o.length + 1 := by simp [subR]
theorem subF_len (m a p : Int) (f : List Int) : (subF m a p f).length = f.length := by
  induction f with
  | nil => rfl
  | cons c r ih => simp [subF, subR_len, ih]
/-- Sums of powers. -/
def evN (o : Nat → Int) (y : Int) : Nat → Int
  | 0 => 0
  | n + 1 => evN o y n + o n * y ^ n
theorem evN_head (o : Nat → Int) (y : Int) (n : Nat) : evN o y (n + 1) = o 0 + y * evN (fun i => o (i + 1)) y n := by
  induction n with
  | zero => simp [evN]
  | succ n ih =>
    rw [evN, ih, evN, Int.pow_succ]
    grind
theorem ev_evN (y : Int) : ∀ f : List Int, ev f y = evN (fun i => f.getD i 0) y f.length := by
  intro f
  induction f with
  | nil => rfl
  | cons c r ih =>
    rw [List.length_cons, evN_head]
    show ev r y * y + c = _
    rw [ih]
    have : (fun i => (c :: r).getD (i + 1) 0) = fun i => r.getD i 0 := by funext i; simp
    rw [this]
    simp
    grind
theorem evN_mod {m y : Int} {o o' : Nat → Int} : ∀ n : Nat, (∀ i, i < n → (o i - o' i) % m = 0) → (evN o y n - evN o' y n) % m = 0 := by
  intro n
  induction n with
  | zero => intro _; simp [evN]
  | succ n ih =>
    intro h
    have h1 := ih (fun i hi => h i (by omega))
    have h2 : (o n - o' n) * y ^ n % m = 0 := by rw [Int.mul_emod, h n (by omega)]; simp
    simp only [evN]
    rw [show evN o y n + o n * y ^ n - (evN o' y n + o' n * y ^ n) = evN o y n - evN o' y n + (o n - o' n) * y ^ n by grind, Int.add_emod, h1, h2]
    rfl
theorem evN_lin (a p y : Int) (o : Nat → Int) : ∀ n : Nat, o n = 0 → evN (fun k => o k * a + (if k = 0 then 0 else o (k - 1) * p)) y (n + 1) = evN o y n * (a + p * y) := by
  intro n hn
  have h1 : ∀ n : Nat, evN (fun k => o k * a + (if k = 0 then 0 else o (k - 1) * p)) y (n + 1) = evN o y n * (a + p * y) + o n * a * y ^ n := by
    intro n
    induction n with
    | zero => simp [evN]
    | succ n ih =>
      rw [evN, ih, if_neg (by omega), Nat.add_sub_cancel]
      simp only [evN]
      rw [Int.pow_succ]
      grind
  rw [h1, hn]; simp
theorem evN_const (e : Nat → Int) (c y : Int) : ∀ n : Nat, evN (fun k => e k + (if k = 0 then c else 0)) y (n + 1) = evN e y (n + 1) + c := by
  intro n
  induction n with
  | zero => simp [evN]
  | succ n ih =>
    rw [evN, ih]
    show _ + (e (n + 1) + (if n + 1 = 0 then c else 0)) * _ = evN e y (n + 1) + e (n + 1) * y ^ (n + 1) + c
    rw [if_neg (by omega)]
    grind
theorem sub_ev {m a p : Int} (y : Int) : ∀ f : List Int, (ev (subF m a p f) y - ev f (a + p * y)) % m = 0 := by
  intro f
  induction f with
  | nil => simp [subF, ev]
  | cons c r ih =>
    show (ev (subR m a p c (subF m a p r)) y - (ev r (a + p * y) * (a + p * y) + c)) % m = 0
    obtain ⟨o, ho⟩ : ∃ o, o = subF m a p r := ⟨_, rfl⟩
    rw [← ho] at ih ⊢
    rw [ev_evN y (subR m a p c o), subR_len]
    have e1 := evN_mod (m := m) (y := y) (o := fun i => (subR m a p c o).getD i 0) (o' := fun k => (o.getD k 0 * a + (if k = 0 then 0 else o.getD (k - 1) 0 * p)) + (if k = 0 then c else 0)) (o.length + 1) (fun i hi => by
      have e : (subR m a p c o).getD i 0 = if i = 0 then (o.getD 0 0 * a % m + c % m) % m else (o.getD i 0 * a % m + o.getD (i - 1) 0 * p) % m := by
        unfold subR
        simp only [List.getD_eq_getElem?_getD, List.getElem?_map]
        rw [List.getElem?_range hi]; rfl
      simp only [e]
      refine Int.emod_eq_emod_iff_emod_sub_eq_zero.1 ?_
      by_cases h0 : i = 0
      · subst h0
        simp only [if_true]
        rw [Int.emod_emod, ← Int.add_emod, Int.add_zero]
      · rw [if_neg h0, if_neg h0, if_neg h0, Int.emod_emod, Int.emod_add_emod, Int.add_zero])
    have e2 : evN (fun k => (o.getD k 0 * a + (if k = 0 then 0 else o.getD (k - 1) 0 * p)) + (if k = 0 then c else 0)) y (o.length + 1) = evN (fun k => o.getD k 0) y o.length * (a + p * y) + c := by
      rw [← evN_lin a p y (fun k => o.getD k 0) o.length (getD_out (Nat.le_refl _))]
      exact evN_const (fun k => o.getD k 0 * a + (if k = 0 then 0 else o.getD (k - 1) 0 * p)) c y _
    rw [e2, ← ev_evN] at e1
    have e3 : (ev o y - ev r (a + p * y)) * (a + p * y) % m = 0 := by rw [Int.mul_emod, ih]; simp
    have := Int.emod_eq_zero_of_dvd (Int.dvd_add (Int.dvd_of_emod_eq_zero e1) (Int.dvd_of_emod_eq_zero e3))
    rwa [show evN (fun i => (subR m a p c o).getD i 0) y (o.length + 1) - (ev o y * (a + p * y) + c) + (ev o y - ev r (a + p * y)) * (a + p * y) = evN (fun i => (subR m a p c o).getD i 0) y (o.length + 1) - (ev r (a + p * y) * (a + p * y) + c) by grind] at this
theorem sub_mem {m a p : Int} (hm : 1 ≤ m) : ∀ f : List Int, ∀ c ∈ subF m a p f, 0 ≤ c ∧ c ≤ m - 1 := by
  intro f
  cases f with
  | nil => intro c hc; simp [subF] at hc
  | cons b r =>
    intro c hc
    simp only [subF, subR, List.mem_map] at hc
    obtain ⟨k, _, rfl⟩ := hc
    split
    · exact ⟨Int.emod_nonneg _ (by omega), by have := Int.emod_lt_of_pos ((subF m a p r).getD 0 0 * a % m + b % m) (show 0 < m by omega); omega⟩
    · exact ⟨Int.emod_nonneg _ (by omega), by have := Int.emod_lt_of_pos ((subF m a p r).getD k 0 * a % m + (subF m a p r).getD (k - 1) 0 * p) (show 0 < m by omega); omega⟩
/-- Behind a root by p all numbers of the substitution are multiples of p. -/
theorem sub_dvd {m a p : Int} (hpm : p ∣ m) : ∀ f : List Int, ∀ k, (0 < k → p ∣ (subF m a p f).getD k 0) ∧ (p ∣ (subF m a p f).getD 0 0 - ev f a) := by
  intro f
  induction f with
  | nil => intro k; exact ⟨fun _ => by simp [subF], by simp [subF, ev]⟩
  | cons c r ih =>
    intro k
    obtain ⟨o, ho⟩ : ∃ o, o = subF m a p r := ⟨_, rfl⟩
    simp only [subF]
    rw [← ho] at ih ⊢
    have hat : ∀ i, i < o.length + 1 → (subR m a p c o).getD i 0 = if i = 0 then (o.getD 0 0 * a % m + c % m) % m else (o.getD i 0 * a % m + o.getD (i - 1) 0 * p) % m := by
      intro i hi
      unfold subR
      simp only [List.getD_eq_getElem?_getD, List.getElem?_map]
      rw [List.getElem?_range hi]; rfl
    have hmod : ∀ x : Int, p ∣ x % m - x := fun x => by
      have : x % m - x = -(m * (x / m)) := by have := Int.emod_add_mul_ediv x m; omega
      rw [this]
      exact Int.dvd_neg.2 (Int.dvd_mul_of_dvd_left hpm)
    refine ⟨fun hk => ?_, ?_⟩
    · rcases Nat.lt_or_ge k (o.length + 1) with h | h
      · rw [hat k h, if_neg (by omega)]
        have h1 := hmod (o.getD k 0 * a % m + o.getD (k - 1) 0 * p)
        have h2 := hmod (o.getD k 0 * a)
        have h3 : p ∣ o.getD k 0 * a := Int.dvd_mul_of_dvd_left ((ih k).1 hk)
        have h4 : p ∣ o.getD (k - 1) 0 * p := Int.dvd_mul_left _ _
        have := Int.dvd_add (Int.dvd_add (Int.dvd_add h1 h2) h3) h4
        rwa [show (o.getD k 0 * a % m + o.getD (k - 1) 0 * p) % m - (o.getD k 0 * a % m + o.getD (k - 1) 0 * p) + (o.getD k 0 * a % m - o.getD k 0 * a) + o.getD k 0 * a + o.getD (k - 1) 0 * p = (o.getD k 0 * a % m + o.getD (k - 1) 0 * p) % m by omega] at this
      · rw [getD_out (by rw [subR_len]; exact h)]
        exact Int.dvd_zero _
    · rw [hat 0 (by omega), if_pos rfl]
      have h1 := hmod (o.getD 0 0 * a % m + c % m)
      have h2 := hmod (o.getD 0 0 * a)
      have h3 := hmod c
      have h4 : p ∣ (o.getD 0 0 - ev r a) * a := Int.dvd_mul_of_dvd_left (ih 0).2
      have := Int.dvd_add (Int.dvd_add (Int.dvd_add h1 h2) h3) h4
      show p ∣ _ - (ev r a * a + c)
      rwa [show (o.getD 0 0 * a % m + c % m) % m - (o.getD 0 0 * a % m + c % m) + (o.getD 0 0 * a % m - o.getD 0 0 * a) + (c % m - c) + (o.getD 0 0 - ev r a) * a = (o.getD 0 0 * a % m + c % m) % m - (ev r a * a + c) by grind] at this
end Go.Proofs.Ytdhnpmjoajaeiaa
