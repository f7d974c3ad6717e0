/- Newton's method lifts simple roots: plain. -/
import Derived.Test.YtdhnpmjoajaeiaaZ1
import Derived.Test.YtdhnpmjoajaeiaaG6
import Derived.Test.YtdhnpmjoajaeiaaT27
namespace Go.Proofs.Ytdhnpmjoajaeiaa

/-- r and s have no common divisor. -/
def cop (r s : Int) : Prop := ∀ d : Int, d ∣ r → d ∣ s → d ∣ 1
theorem cop.step {r s : Int} (h : cop r s) : cop s (r % s) := fun d h1 h2 => h d (by
  have e := Int.emod_add_mul_ediv r s
  rw [← e]
  exact Int.dvd_add h2 (Int.dvd_mul_of_dvd_left h1)) h1
theorem bx_spec (a M : Int) : ∀ (f : Nat) (r x s u : Int), 0 ≤ r → 0 ≤ s → s.toNat < f → cop r s → M ∣ r - x * a → M ∣ s - u * a → M ∣ 1 - bx f r x s u * a := by
  intro f
  induction f with
  | zero => intro r x s u _ _ h; omega
  | succ f ih =>
    intro r x s u hr hs hf hc h1 h2
    by_cases h0 : s = 0
    · subst h0
      rw [bx_zero]
      have h3 : r ∣ 1 := hc r (Int.dvd_refl r) (Int.dvd_zero r)
      have h4 : r = 1 := by
        have := Int.le_of_dvd (by omega) h3
        rcases (show r = 0 ∨ r = 1 by omega) with h | h
        · subst h; have := Int.zero_dvd.1 h3; omega
        · exact h
      rw [h4] at h1
      exact h1
    · have q1 := Int.emod_nonneg r h0
      have q2 := Int.emod_lt_of_pos r (show 0 < s by omega)
      rw [bx_step _ _ _ _ _ h0]
      refine ih _ _ _ _ hs q1 (by omega) hc.step h2 ?_
      have e : r % s - (x - r / s * u) * a = (r - x * a) - (r / s) * (s - u * a) := by
        have e1 := Int.emod_add_mul_ediv r s
        have e2 : s * (r / s) = (r / s) * s := Int.mul_comm _ _
        rw [Int.sub_mul, Int.mul_sub, Int.mul_assoc (r / s) u a]
        omega
      rw [e]
      exact Int.dvd_sub h1 (Int.dvd_mul_of_dvd_right h2)
theorem inv_spec {a M : Int} (ha : 0 ≤ a) (hM : 0 < M) (hc : cop a M) : a * inv a M % M = 1 % M := by
  have h := bx_spec a M (M.toNat + 1) a 1 M 0 ha (by omega) (by omega) hc (by rw [Int.one_mul, Int.sub_self]; exact Int.dvd_zero _) (by rw [Int.zero_mul, Int.sub_zero]; exact Int.dvd_refl _)
  unfold inv
  rw [Int.mul_emod, Int.emod_emod, ← Int.mul_emod, Int.mul_comm]
  exact (Int.emod_eq_emod_iff_emod_sub_eq_zero.2 (Int.emod_eq_zero_of_dvd h)).symm

theorem prime_div : ∀ p : Fin 98, primeB (p.val : Int) = true → ∀ d : Fin 98, p.val % d.val = 0 → d.val = 1 ∨ d.val = p.val := by decide +kernel
theorem cop_pow {p u : Int} (hs : smallP p = true) (hu : ¬ u % p = 0) (n : Nat) : cop u (p ^ n) := by
  have hp := smallP_bd hs
  have hprime := smallP_prime hs
  have hc : Nat.Coprime u.natAbs p.natAbs := by
    have h1 : Nat.gcd u.natAbs p.natAbs ∣ p.natAbs := Nat.gcd_dvd_right _ _
    have h2 : Nat.gcd u.natAbs p.natAbs ≤ p.natAbs := Nat.le_of_dvd (by omega) h1
    have h3 := prime_div ⟨p.natAbs, by omega⟩ (by simp only; rw [show ((p.natAbs : Nat) : Int) = p by omega]; exact hprime) ⟨Nat.gcd u.natAbs p.natAbs, by omega⟩ (Nat.mod_eq_zero_of_dvd h1)
    rcases h3 with h3 | h3
    · exact h3
    · exfalso
      simp only at h3
      have h4 : p.natAbs ∣ u.natAbs := by
        have := Nat.gcd_dvd_left u.natAbs p.natAbs
        rw [h3] at this
        exact this
      exact hu (Int.emod_eq_zero_of_dvd (Int.natAbs_dvd_natAbs.1 h4))
  intro d h1 h2
  have h3 : d.natAbs ∣ u.natAbs := Int.natAbs_dvd_natAbs.2 h1
  have h4 : d.natAbs ∣ p.natAbs ^ n := by
    have := Int.natAbs_dvd_natAbs.2 h2
    rw [Int.natAbs_pow] at this
    exact this
  have h5 := Nat.dvd_gcd h3 h4
  rw [Nat.Coprime.pow_right n hc] at h5
  have := Int.natAbs_dvd_natAbs.1 (show d.natAbs ∣ (1 : Int).natAbs from h5)
  exact this


theorem pow_dvd' (p : Int) {a b : Nat} (h : a ≤ b) : p ^ a ∣ p ^ b := ⟨p ^ (b - a), by rw [← Int.pow_add]; congr 1; omega⟩
/-- A polynomial's value, and its derivative's. -/
def ev : List Int → Int → Int
  | [], _ => 0
  | c :: r, x => ev r x * x + c
def dv : List Int → Int → Int
  | [], _ => 0
  | _ :: r, x => dv r x * x + ev r x
theorem ev_mod (m x : Int) : ∀ xs : List Int, valF m x xs = ev xs x % m := by
  intro xs
  induction xs with
  | nil => simp [valF, ev]
  | cons c r ih =>
    simp only [valF, ev]
    rw [ih, Int.add_emod, Int.mul_emod, Int.emod_emod, ← Int.mul_emod, ← Int.add_emod]
theorem taylor (h x : Int) : ∀ xs : List Int, ∃ K, ev xs (x + h) = ev xs x + h * dv xs x + h * h * K := by
  intro xs
  induction xs with
  | nil => exact ⟨0, by simp [ev, dv]⟩
  | cons c r ih =>
    obtain ⟨K, hK⟩ := ih
    refine ⟨dv r x + K * (x + h), ?_⟩
    simp only [ev, dv]
    rw [hK]
    grind
/-- The numbers times s, s + 1 .. -/
def dl (s : Int) (r : List Int) : List Int := (List.range r.length).map fun (i : Nat) => (s + (i : Int)) * r.getD i 0
theorem dl_cons (s c : Int) (r : List Int) : dl s (c :: r) = s * c :: dl (s + 1) r := by
  unfold dl
  rw [List.length_cons, List.range_succ_eq_map, List.map_cons, List.map_map]
  congr 1
  · simp
  · refine List.map_congr_left fun i _ => ?_
    simp only [Function.comp, List.getD_cons_succ]
    push_cast
    grind
theorem ev_dl (x : Int) : ∀ (r : List Int) (s : Int), ev (dl s r) x = s * ev r x + x * dv r x := by
  intro r
  induction r with
  | nil => intro s; simp [dl, ev, dv]
  | cons c r ih =>
    intro s
    rw [dl_cons]
    simp only [ev, dv]
    rw [ih]
    grind
theorem derF_cons (c : Int) (r : List Int) : derF (c :: r) = dl 1 r := by
  unfold derF derK dl
  simp only [List.length_cons, Nat.add_sub_cancel]
  refine List.map_congr_left fun i _ => ?_
  rw [List.getD_cons_succ]
  grind
theorem ev_der (x : Int) (xs : List Int) : ev (derF xs) x = dv xs x := by
  cases xs with
  | nil => rfl
  | cons c r =>
    rw [derF_cons, ev_dl]
    simp only [dv]
    grind
theorem ev_congr {p h : Int} (x : Int) (g : List Int) (hp : p ∣ h) : ev g (x + h) % p = ev g x % p := by
  obtain ⟨K, hK⟩ := taylor h x g
  obtain ⟨t, rfl⟩ := hp
  rw [hK, show ev g x + p * t * dv g x + p * t * (p * t) * K = ev g x + p * (t * dv g x + t * (p * t) * K) by grind, Int.add_mul_emod_self_left]
theorem emod_zero_dvd {a b : Int} (h : a % b = 0) : b ∣ a := Int.dvd_of_emod_eq_zero h
/-- One step of Newton's method doubles the right digits. -/
theorem newton_good {p n x : Int} {f : List Int} {k e : Nat} (hr : ringB p n = true) (hk : 1 ≤ k) (hkn : k ≤ n.toNat) (he : e ≤ 2 * k) (hen : e ≤ n.toNat)
    (hf : p ^ k ∣ ev f x) (hd : ¬ ev (derF f) x % p = 0) :
    let y := stepF (p ^ n.toNat) f x
    0 ≤ y ∧ y ≤ p ^ n.toNat - 1 ∧ y % p = x % p ∧ p ^ e ∣ ev f y ∧ ¬ ev (derF f) y % p = 0 := by
  intro y
  have hrf := ringB_iff.1 hr
  have hp := smallP_bd hrf.1
  have hm := pow_pos' (show 1 ≤ p by omega) n.toNat
  have hpm : p ^ k ∣ p ^ n.toNat := pow_dvd' p hkn
  have hp1 : p ∣ p ^ k := by rw [show k = (k - 1) + 1 by omega, Int.pow_succ]; exact Int.dvd_mul_left _ _
  have hem : p ^ e ∣ p ^ n.toNat := pow_dvd' p hen
  obtain ⟨m, hmm⟩ : ∃ m, m = p ^ n.toNat := ⟨_, rfl⟩
  have hcop : cop (valF m x (derF f)) (p ^ n.toNat) := by
    refine cop_pow hrf.1 ?_ _
    rw [ev_mod, Int.emod_emod_of_dvd _ (by rw [hmm]; exact Int.dvd_trans hp1 hpm)]
    exact hd
  have hA0 := (valF_bd (m := m) (x := x) (by omega) (derF f)).1
  have hI := inv_spec hA0 (by omega) hcop
  have hy : y = (x - valF m x f * inv (valF m x (derF f)) m) % m := by rw [hmm]; rfl
  rw [← hmm] at hI hpm hem hm
  obtain ⟨I, hIe⟩ : ∃ I, I = inv (valF m x (derF f)) m := ⟨_, rfl⟩
  rw [← hIe] at hI hy
  rw [ev_mod] at hI
  obtain ⟨V, hV⟩ : ∃ V, V = valF m x f := ⟨_, rfl⟩
  rw [← hV] at hy
  have hVe : V = ev f x % m := by rw [hV, ev_mod]
  obtain ⟨s, hs⟩ : ∃ s, ev f x = V + m * s := ⟨ev f x / m, by rw [hVe]; have := Int.emod_add_mul_ediv (ev f x) m; omega⟩
  obtain ⟨t, ht⟩ : ∃ t, y = x - V * I - m * t := ⟨(x - V * I) / m, by rw [hy]; have := Int.emod_add_mul_ediv (x - V * I) m; omega⟩
  obtain ⟨u, hu⟩ : ∃ u, ev (derF f) x = ev (derF f) x % m + m * u := ⟨ev (derF f) x / m, by have := Int.emod_add_mul_ediv (ev (derF f) x) m; omega⟩
  obtain ⟨A, hA⟩ : ∃ A, A = ev (derF f) x % m := ⟨_, rfl⟩
  rw [← hA] at hI hu
  obtain ⟨q, hq⟩ : ∃ q, A * I = 1 + m * q := by
    have h1 := Int.emod_emod_of_dvd (A * I) (Int.dvd_refl m)
    have h2 : (A * I - 1) % m = 0 := Int.emod_eq_emod_iff_emod_sub_eq_zero.1 hI
    obtain ⟨q, hq⟩ := Int.dvd_of_emod_eq_zero h2
    exact ⟨q, by omega⟩
  have hVk : p ^ k ∣ V := by
    have : V = ev f x - m * s := by omega
    rw [this]
    exact Int.dvd_sub hf (Int.dvd_mul_of_dvd_left hpm)
  obtain ⟨h, hh⟩ : ∃ h, h = y - x := ⟨_, rfl⟩
  have hhk : p ^ k ∣ h := by
    have : h = -(V * I) - m * t := by omega
    rw [this]
    exact Int.dvd_sub (Int.dvd_neg.2 (Int.dvd_mul_of_dvd_left hVk)) (Int.dvd_mul_of_dvd_left hpm)
  have hph : p ∣ h := Int.dvd_trans hp1 hhk
  have hyx : y = x + h := by omega
  have hyb : 0 ≤ y ∧ y < m := by rw [hy]; exact ⟨Int.emod_nonneg _ (by omega), Int.emod_lt_of_pos _ (by omega)⟩
  refine ⟨hyb.1, by rw [← hmm]; omega, ?_, ?_, ?_⟩
  · obtain ⟨z, rfl⟩ := hph
    rw [hyx, Int.add_mul_emod_self_left]
  · obtain ⟨K, hK⟩ := taylor h x f
    rw [← ev_der] at hK
    have hhe : h = -(V * I) - m * t := by omega
    have e1 : ev f y = m * (s - V * (q + u * I) - t * ev (derF f) x) + h * h * K := by
      rw [hyx, hK, hs]
      have e2 : h * ev (derF f) x = -(V * (I * ev (derF f) x)) - m * (t * ev (derF f) x) := by rw [hhe]; grind
      have e3 : I * ev (derF f) x = 1 + m * (q + u * I) := by rw [hu]; grind
      rw [e2, e3]; grind
    rw [e1]
    refine Int.dvd_add (Int.dvd_mul_of_dvd_left hem) (Int.dvd_mul_of_dvd_left ?_)
    have e4 : p ^ (2 * k) ∣ h * h := by
      rw [show 2 * k = k + k by omega, Int.pow_add]
      exact Int.mul_dvd_mul hhk hhk
    exact Int.dvd_trans (pow_dvd' p he) e4
  · rw [hyx, ev_congr x (derF f) hph]; exact hd
/-- The steps, one after another. -/
def sq (m : Int) (f : List Int) (a : Int) : Nat → Int
  | 0 => a
  | j + 1 => stepF m f (sq m f a j)
/-- How many steps suffice. -/
def stepsN (n : Int) : Nat := if n ≤ 1 then 0 else if n ≤ 2 then 1 else if n ≤ 4 then 2 else if n ≤ 8 then 3 else if n ≤ 16 then 4 else if n ≤ 32 then 5 else 6
theorem steps_all : ∀ k : Fin 41, ∀ j : Fin 7, 1 ≤ k.val → j.val ≤ stepsN (k.val : Int) → (((2 : Int) ^ j.val < (k.val : Int) ↔ j.val < stepsN (k.val : Int)) ∧ (2 : Int) ^ j.val ≤ 64) ∧ stepsN (k.val : Int) ≤ 6 ∧ (k.val : Int) ≤ 2 ^ stepsN (k.val : Int) := by decide +kernel
theorem steps_iff {n : Int} (hn : 1 ≤ n ∧ n ≤ 40) {j : Nat} (hj : j ≤ stepsN n) : ((2 : Int) ^ j < n ↔ j < stepsN n) ∧ (2 : Int) ^ j ≤ 64 := by
  obtain ⟨k, rfl⟩ : ∃ k : Nat, n = (k : Int) := ⟨n.toNat, by omega⟩
  have h6 := (steps_all ⟨k, by omega⟩ ⟨0, by omega⟩ (by simp only; omega) (Nat.zero_le _)).2.1
  simp only at h6
  exact (steps_all ⟨k, by omega⟩ ⟨j, by omega⟩ (by simp only; omega) hj).1
theorem steps_end {n : Int} (hn : 1 ≤ n ∧ n ≤ 40) : n.toNat ≤ 2 ^ stepsN n := by
  obtain ⟨k, rfl⟩ : ∃ k : Nat, n = (k : Int) := ⟨n.toNat, by omega⟩
  have h6 := (steps_all ⟨k, by omega⟩ ⟨0, by omega⟩ (by simp only; omega) (Nat.zero_le _)).2.2
  simp only at h6
  have h7 : ((2 ^ stepsN (k : Int) : Nat) : Int) = (2 : Int) ^ stepsN (k : Int) := by simp
  omega
/-- A simple root by the prime. -/
def simpB (p : Int) (f : List Int) (a : Int) : Bool := valF p a f == 0 && valF p a (derF f) != 0
/-- What holds of each step's number. -/
theorem sq_good {p n a : Int} {f : List Int} (hr : ringB p n = true) (ha : 0 ≤ a ∧ a ≤ p - 1) (hs : simpB p f a = true) : ∀ j : Nat,
    (0 ≤ sq (p ^ n.toNat) f a j ∧ sq (p ^ n.toNat) f a j ≤ p ^ n.toNat - 1) ∧ sq (p ^ n.toNat) f a j % p = a ∧ p ^ (min (2 ^ j) n.toNat) ∣ ev f (sq (p ^ n.toNat) f a j) ∧ ¬ ev (derF f) (sq (p ^ n.toNat) f a j) % p = 0 := by
  have hrf := ringB_iff.1 hr
  have hp := smallP_bd hrf.1
  have hn : 1 ≤ n.toNat := by have := hrf.2.1; omega
  simp only [simpB, Bool.and_eq_true, beq_iff_eq, bne_iff_ne, ne_eq] at hs
  rw [ev_mod, ev_mod] at hs
  intro j
  induction j with
  | zero =>
    have h1 : p ≤ p ^ n.toNat := by
      have := Int.le_of_dvd (pow_pos' (show 1 ≤ p by omega) n.toNat) (dvd_pow hn)
      exact this
    have h2 : sq (p ^ n.toNat) f a 0 = a := rfl
    rw [h2]
    refine ⟨by omega, Int.emod_eq_of_lt ha.1 (by omega), ?_, hs.2⟩
    rw [show min (2 ^ 0) n.toNat = 1 by (have : (2 : Nat) ^ 0 = 1 := rfl); omega, Int.pow_succ, Int.pow_zero, Int.one_mul]
    exact Int.dvd_of_emod_eq_zero hs.1
  | succ j ih =>
    obtain ⟨hb, hm, hd, hu⟩ := ih
    have h2 : 1 ≤ 2 ^ j := Nat.one_le_two_pow
    have h3 : 2 ^ (j + 1) = 2 * 2 ^ j := by rw [Nat.pow_succ]; omega
    obtain ⟨y1, y2, y3, y4, y5⟩ := newton_good (k := min (2 ^ j) n.toNat) (e := min (2 ^ (j + 1)) n.toNat) hr (by omega) (by omega) (by omega) (by omega) hd hu
    have h4 : sq (p ^ n.toNat) f a (j + 1) = stepF (p ^ n.toNat) f (sq (p ^ n.toNat) f a j) := rfl
    rw [h4]
    exact ⟨⟨y1, y2⟩, by rw [y3, hm], y4, y5⟩
theorem sq_zero {p n a : Int} {f : List Int} (hr : ringB p n = true) (ha : 0 ≤ a ∧ a ≤ p - 1) (hs : simpB p f a = true) : valF (p ^ n.toNat) (sq (p ^ n.toNat) f a (stepsN n)) f = 0 := by
  have hrf := ringB_iff.1 hr
  obtain ⟨_, hn, _⟩ := ring_facts2 hr
  have h1 := steps_end hn
  have h2 := (sq_good hr ha hs (stepsN n)).2.2.1
  rw [show min (2 ^ stepsN n) n.toNat = n.toNat by omega] at h2
  rw [ev_mod]
  exact Int.emod_eq_zero_of_dvd h2
/-- At a root the step stands still. -/
theorem step_still {m x : Int} {f : List Int} (h : valF m x f = 0) (hx : 0 ≤ x ∧ x ≤ m - 1) : stepF m f x = x := by
  unfold stepF
  rw [h, Int.zero_mul, Int.sub_zero]
  exact Int.emod_eq_of_lt hx.1 (by omega)
theorem sq_still {p n a : Int} {f : List Int} (hr : ringB p n = true) (ha : 0 ≤ a ∧ a ≤ p - 1) (hs : simpB p f a = true) {j : Nat} (h : valF (p ^ n.toNat) (sq (p ^ n.toNat) f a j) f = 0) : ∀ k, sq (p ^ n.toNat) f a (j + k) = sq (p ^ n.toNat) f a j := by
  intro k
  induction k with
  | zero => rfl
  | succ k ih =>
    show stepF (p ^ n.toNat) f (sq (p ^ n.toNat) f a (j + k)) = _
    rw [ih]
    exact step_still h (sq_good hr ha hs j).1
/-- The lift. -/
def lifF (p n : Int) (f : List Int) (a : Int) : Int := sq (p ^ n.toNat) f a (stepsN n)
theorem lif_at {p n a : Int} {f : List Int} (hr : ringB p n = true) (ha : 0 ≤ a ∧ a ≤ p - 1) (hs : simpB p f a = true) {j : Nat} (hj : j ≤ stepsN n) (h : valF (p ^ n.toNat) (sq (p ^ n.toNat) f a j) f = 0) : sq (p ^ n.toNat) f a j = lifF p n f a := by
  have := sq_still hr ha hs h (stepsN n - j)
  rw [show j + (stepsN n - j) = stepsN n by omega] at this
  exact this.symm
theorem lif_facts {p n a : Int} {f : List Int} (hr : ringB p n = true) (ha : 0 ≤ a ∧ a ≤ p - 1) (hs : simpB p f a = true) : (0 ≤ lifF p n f a ∧ lifF p n f a ≤ p ^ n.toNat - 1) ∧ lifF p n f a % p = a ∧ valF (p ^ n.toNat) (lifF p n f a) f = 0 ∧ stepF (p ^ n.toNat) f (lifF p n f a) = lifF p n f a ∧ ¬ valF (p ^ n.toNat) (lifF p n f a) (derF f) % p = 0 := by
  obtain ⟨h1, h2, _, h4⟩ := sq_good hr ha hs (stepsN n)
  have h5 := sq_zero hr ha hs
  obtain ⟨_, hn, _⟩ := ring_facts2 hr
  refine ⟨h1, h2, h5, step_still h5 h1, ?_⟩
  rw [ev_mod, Int.emod_emod_of_dvd _ (dvd_pow (by omega))]
  exact h4
def liftRF (p n : Int) (f : List Int) (a : Int) : Int × Int :=
  if ringB p n = true ∧ polyB f = true then (if inB a 0 (p - 1) = true then (if simpB p f a = true then (lifF p n f a, 0) else (0, 5)) else (0, 2)) else (0, 1)
theorem lift_law {p n a x : Int} {f : List Int} (h : liftRF p n f a = (x, 0)) : virF p n f x = (0, 0) ∧ newtF p n f x = (x, 0) ∧ x % p = a ∧ ringB p n = true ∧ 0 ≤ x := by
  unfold liftRF at h
  split at h
  next hc =>
    split at h
    next ha =>
      split at h
      next hs =>
        simp only [Prod.mk.injEq, and_true] at h
        subst h
        obtain ⟨h1, h2, h3, h4, h5⟩ := lif_facts hc.1 (inB_iff.1 ha) hs
        have h0 : ringedF p n f (lifF p n f a) = 0 := by
          unfold ringedF
          rw [if_pos hc, if_pos (inB_iff.2 h1)]
        refine ⟨by unfold virF; rw [if_pos h0, h3], by unfold newtF; rw [if_pos h0, if_neg h5, h4], h2, hc.1, h1.1⟩
      next => simp at h
    next => simp at h
  next => simp at h
/-- The lifts of the simple roots below k. -/
def simL (p n : Int) (f : List Int) (k : Nat) : List Int := ((List.range k).filter fun (i : Nat) => simpB p f (i : Int)).map fun (i : Nat) => lifF p n f (i : Int)
theorem simL_succ (p n : Int) (f : List Int) (k : Nat) : simL p n f (k + 1) = simL p n f k ++ (if simpB p f (k : Int) = true then [lifF p n f (k : Int)] else []) := by
  unfold simL
  rw [List.range_succ, List.filter_append, List.map_append]
  congr 1
  by_cases h : simpB p f (k : Int) = true
  · rw [if_pos h]; simp [h]
  · rw [if_neg h]; simp [h]
theorem simL_len (p n : Int) (f : List Int) (k : Nat) : (simL p n f k).length ≤ k := by
  unfold simL
  rw [List.length_map]
  exact Nat.le_trans (List.length_filter_le _ _) (by simp)
def simF (p n : Int) (f : List Int) : List Int × Int := if ringB p n = true ∧ polyB f = true then (simL p n f p.toNat, 0) else ([], 1)
theorem sim_law {p n : Int} {f l : List Int} (h : simF p n f = (l, 0)) : ∀ x ∈ l, virF p n f x = (0, 0) := by
  unfold simF at h
  split at h
  next hc =>
    simp only [Prod.mk.injEq, and_true] at h
    subst h
    intro x hx
    have hp := smallP_bd (ringB_iff.1 hc.1).1
    simp only [simL, List.mem_map, List.mem_filter, List.mem_range] at hx
    obtain ⟨i, ⟨hi, hs⟩, rfl⟩ := hx
    obtain ⟨h1, _, h3, _, _⟩ := lif_facts (n := n) hc.1 (a := (i : Int)) (by omega) hs
    have h0 : ringedF p n f (lifF p n f (i : Int)) = 0 := by
      unfold ringedF
      rw [if_pos hc, if_pos (inB_iff.2 h1)]
    unfold virF; rw [if_pos h0, h3]
  next => simp at h
end Go.Proofs.Ytdhnpmjoajaeiaa
