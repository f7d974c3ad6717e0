/- Several small texts in one: M0 M1 M3 CA CB CC B0 A1 A2 A3. -/
import Derived.Test.YtdeehgcabnoclaaRows
import Derived.WalkKit
import Derived.WalkSpells
import Derived.WalkLawsBesides
import Derived.Deep.QuietTactic
import Derived.BigQuiet
import Derived.Deep.RegionWith
import Derived.Deep.DeepFit
import Derived.Deep.DeepMust
/- Plain arithmetic: primes. -/
namespace Go.Proofs.Ytdeehgcabnoclaa

def noDivB (n : Int) : Bool := (List.range 1001).all fun d => decide (d < 2) || decide (n < (d : Int) * d) || decide (n % (d : Int) ≠ 0)
/-- A prime number up to 1000000. -/
def primeB (n : Int) : Bool := decide (2 ≤ n) && decide (n ≤ 1000000) && noDivB n
/-- A prime number up to 97. -/
def smallP (n : Int) : Bool := decide (n ≤ 97) && primeB n

theorem noDiv_t {n : Int} {k : Nat} (h : ∀ j : Nat, 2 ≤ j → j < k → n % (j : Int) ≠ 0) (hk : n < (k : Int) * k) : noDivB n = true := by
  unfold noDivB
  rw [List.all_eq_true]
  intro d _
  by_cases h2 : d < 2
  · simp [h2]
  by_cases h3 : n < (d : Int) * d
  · simp [h3]
  have : d < k := by
    rcases Nat.lt_or_ge d k with h4 | h4
    · exact h4
    · have h6 : (k : Int) * k ≤ (d : Int) * d := Int.mul_le_mul (by omega) (by omega) (by omega) (by omega)
      omega
  have h7 := h d (by omega) this
  simp [h7]

theorem noDiv_f {n : Int} {k : Nat} (h2 : 2 ≤ k) (hk : (k : Int) * k ≤ n) (hn : n ≤ 1000000) (hm : n % (k : Int) = 0) : noDivB n = false := by
  unfold noDivB
  rw [List.all_eq_false]
  have hk1 : k < 1001 := by
    rcases Nat.lt_or_ge k 1001 with h | h
    · exact h
    · have h6 : (1001 : Int) * 1001 ≤ (k : Int) * k := Int.mul_le_mul (by omega) (by omega) (by omega) (by omega)
      omega
  refine ⟨k, List.mem_range.2 hk1, ?_⟩
  have a : ¬ k < 2 := by omega
  have b : ¬ n < (k : Int) * k := by omega
  simp [a, b, hm]

theorem sq_bd {k : Nat} (h : k ≤ 1001) : 0 ≤ (k : Int) * k ∧ (k : Int) * k ≤ 1002001 := by
  have h6 : (k : Int) * k ≤ (1001 : Int) * 1001 := Int.mul_le_mul (by omega) (by omega) (by omega) (by omega)
  have h7 : (0 : Int) ≤ (k : Int) * k := Int.mul_nonneg (by omega) (by omega)
  exact ⟨h7, by omega⟩

theorem sq_lt {n : Int} {k : Nat} (hn : n ≤ 1000000) (h : (k : Int) * k ≤ n) : k ≤ 1000 := by
  rcases Nat.lt_or_ge k 1001 with h' | h'
  · omega
  · have h6 : (1001 : Int) * 1001 ≤ (k : Int) * k := Int.mul_le_mul (by omega) (by omega) (by omega) (by omega)
    omega

theorem primeB_out {n : Int} (h : n < 2 ∨ 1000000 < n) : primeB n = false := by
  unfold primeB
  rcases h with h | h
  · have : ¬ 2 ≤ n := by omega
    simp [this]
  · have : ¬ n ≤ 1000000 := by omega
    simp [this]
theorem primeB_in {n : Int} (h1 : 2 ≤ n) (h2 : n ≤ 1000000) : primeB n = noDivB n := by simp [primeB, h1, h2]
theorem smallP_hi {n : Int} (h : 97 < n) : smallP n = false := by
  have : ¬ n ≤ 97 := by omega
  simp [smallP, this]
theorem smallP_lo {n : Int} (h : n ≤ 97) : smallP n = primeB n := by simp [smallP, h]
theorem smallP_bd {n : Int} (h : smallP n = true) : 2 ≤ n ∧ n ≤ 97 := by
  simp [smallP, primeB] at h
  omega
theorem smallP_prime {n : Int} (h : smallP n = true) : primeB n = true := by
  simp [smallP] at h
  exact h.2
theorem smallP_out {n : Int} (h : n < 2 ∨ 97 < n) : smallP n = false := by
  rcases h with h | h
  · by_cases h3 : n ≤ 97
    · rw [smallP_lo h3, primeB_out (.inl h)]
    · exact smallP_hi (by omega)
  · exact smallP_hi h
end Go.Proofs.Ytdeehgcabnoclaa

/- Plain arithmetic: powers, remainders, valuations, moduli. -/
namespace Go.Proofs.Ytdeehgcabnoclaa

theorem pow_pos' {n : Int} (h : 1 ≤ n) (k : Nat) : 1 ≤ n ^ k := by
  induction k with
  | zero => simp
  | succ k ih => rw [Int.pow_succ]; have := Int.mul_le_mul ih h (by omega) (by omega); omega
theorem pow_mono {n : Int} (h : 1 ≤ n) {a b : Nat} (hab : a ≤ b) : n ^ a ≤ n ^ b := by
  induction hab with
  | refl => exact Int.le_refl _
  | step _ ih =>
    rename_i m _
    rw [Int.pow_succ]
    have h1 := pow_pos' h m
    have := Int.mul_le_mul (Int.le_refl (n ^ m)) h (by omega) (by omega)
    omega
theorem pow_step {n B : Int} {e k : Nat} (h : 1 ≤ n) (hb : n ^ e ≤ B) (hk : k < e) : 1 ≤ n ^ k ∧ n ^ k ≤ B ∧ 1 ≤ n ^ k * n ∧ n ^ k * n ≤ B := by
  have h1 := pow_pos' h k
  have h2 := pow_pos' h (k + 1)
  have h3 := pow_mono h (show k + 1 ≤ e from hk)
  have h4 := pow_mono h (show k ≤ e by omega)
  rw [Int.pow_succ] at h2 h3
  omega

theorem tmod_emod {n m : Int} : (n.tmod m) % m = n % m := by
  rw [Int.tmod_def, show n - m * n.tdiv m = n + m * (-(n.tdiv m)) by rw [Int.mul_neg]; omega, Int.add_mul_emod_self_left]
theorem tmod_bd {n m : Int} (h : 0 < m) : -m < n.tmod m ∧ n.tmod m < m := by
  refine ⟨Int.lt_tmod_of_pos _ h, Int.tmod_lt_of_pos _ h⟩
theorem mod_fix {n m : Int} (_h : 0 < m) : (n.tmod m + m) % m = n % m := by
  rw [Int.add_emod_right, tmod_emod]
theorem tmod_zero_iff {n p : Int} : n.tmod p = 0 ↔ n % p = 0 := by
  rw [← Int.dvd_iff_tmod_eq_zero, Int.dvd_iff_emod_eq_zero]

/-! ### How often p divides n -/
def vlF : Nat → Int → Int → Nat
  | 0, _, _ => 0
  | f + 1, n, p => if n % p = 0 then vlF f (n / p) p + 1 else 0
def vl (n p : Int) : Nat := vlF n.natAbs n p

theorem vlF_eq {p c : Int} (hp : 2 ≤ p) (hc : ¬ c % p = 0) : ∀ (k f : Nat), k ≤ f → vlF f (c * p ^ k) p = k := by
  intro k
  induction k with
  | zero =>
    intro f _
    cases f with
    | zero => rfl
    | succ f => simp only [Int.pow_zero, Int.mul_one, vlF]; rw [if_neg hc]
  | succ k ih =>
    intro f hf
    cases f with
    | zero => omega
    | succ f =>
      have e : c * p ^ (k + 1) = c * p ^ k * p := by rw [Int.pow_succ, Int.mul_assoc]
      simp only [vlF]
      rw [if_pos (by rw [e]; exact Int.mul_emod_left _ _), e, Int.mul_ediv_cancel _ (by omega), ih f (by omega)]
theorem pow_gt (p : Int) (hp : 2 ≤ p) (k : Nat) : (k : Int) < p ^ k := by
  induction k with
  | zero => simp
  | succ k ih =>
    rw [Int.pow_succ]
    have := Int.mul_le_mul (show (k : Int) + 1 ≤ p ^ k by omega) hp (by omega) (by omega)
    omega
theorem vl_eq {n p c : Int} {k : Nat} (hp : 2 ≤ p) (hn : n = c * p ^ k) (hc : ¬ c % p = 0) : vl n p = k := by
  unfold vl
  have h0 : c ≠ 0 := fun h => hc (by rw [h]; simp)
  have h1 := pow_gt p hp k
  have h2 : n.natAbs = c.natAbs * (p ^ k).natAbs := by rw [hn, Int.natAbs_mul]
  have h3 : 1 ≤ c.natAbs := by omega
  have h4 := Nat.mul_le_mul h3 (Nat.le_refl (p ^ k).natAbs)
  have h5 : k ≤ n.natAbs := by omega
  rw [hn] at h5 ⊢
  exact vlF_eq hp hc k _ h5
/-- n is p to the power of vl times something that p does not divide. -/
theorem vl_ex {p : Int} (hp : 2 ≤ p) : ∀ (f : Nat) (n : Int), n ≠ 0 → n.natAbs ≤ f → ∃ (c : Int) (k : Nat), n = c * p ^ k ∧ ¬ c % p = 0 := by
  intro f
  induction f with
  | zero => intro n h0 h; omega
  | succ f ih =>
    intro n h0 hf
    by_cases h : n % p = 0
    · have hd : n = n / p * p := by have := Int.ediv_mul_cancel (Int.dvd_of_emod_eq_zero h); omega
      have h1 : n / p ≠ 0 := fun h' => h0 (by rw [hd, h']; simp)
      have h2 : n.natAbs = (n / p).natAbs * p.natAbs := by rw [← Int.natAbs_mul, ← hd]
      have h3 := Nat.mul_le_mul (Nat.le_refl (n / p).natAbs) (show 2 ≤ p.natAbs by omega)
      obtain ⟨c, k, e, hc⟩ := ih (n / p) h1 (by omega)
      exact ⟨c, k + 1, by rw [Int.pow_succ, ← Int.mul_assoc, ← e]; exact hd, hc⟩
    · exact ⟨n, 0, by simp, h⟩
theorem vl_spec {n p : Int} (hp : 2 ≤ p) (hn : n ≠ 0) : ∃ c, n = c * p ^ vl n p ∧ ¬ c % p = 0 ∧ n / p ^ vl n p = c := by
  obtain ⟨c, k, e, hc⟩ := vl_ex hp n.natAbs n hn (Nat.le_refl _)
  have hk := vl_eq hp e hc
  have h1 := pow_pos' (show 1 ≤ p by omega) k
  rw [hk]
  exact ⟨c, e, hc, by rw [e]; exact Int.mul_ediv_cancel _ (by omega)⟩

/-! ### Moduli -/
def modu (p n : Int) : Int := if p ^ n.toNat ≤ 1000000000 then p ^ n.toNat else 0
/-- A valid ring. -/
def ringB (p n : Int) : Bool := smallP p && (decide (1 ≤ n) && decide (n ≤ 40) && decide (p ^ n.toNat ≤ 1000000000))
theorem ringB_iff {p n : Int} : ringB p n = true ↔ smallP p = true ∧ 1 ≤ n ∧ n ≤ 40 ∧ p ^ n.toNat ≤ 1000000000 := by
  simp [ringB, and_assoc]
theorem modu_ring {p n : Int} (h : ringB p n = true) : modu p n = p ^ n.toNat := by
  unfold modu; rw [if_pos (ringB_iff.1 h).2.2.2]
theorem pow_large {p : Int} (hp : 2 ≤ p) {k : Nat} (hk : 30 ≤ k) : 1000000000 < p ^ k := by
  have h1 : p ^ 30 ≤ p ^ k := pow_mono (by omega) hk
  have h2 : (2 : Int) ^ 30 ≤ p ^ 30 := by
    have h : ∀ j : Nat, (2 : Int) ^ j ≤ p ^ j := by
      intro j
      induction j with
      | zero => simp
      | succ j ih => rw [Int.pow_succ, Int.pow_succ]; exact Int.mul_le_mul ih hp (by omega) (by have := pow_pos' (show 1 ≤ p by omega) j; omega)
    exact h 30
  have h3 : (2 : Int) ^ 30 = 1073741824 := by decide
  omega
end Go.Proofs.Ytdeehgcabnoclaa

/- Plain arithmetic: squares by a prime. -/
namespace Go.Proofs.Ytdeehgcabnoclaa

def hitB (p a : Int) (x : Nat) : Bool := decide (1 ≤ x) && (((x : Int) * x - a) % p == 0)
/-- 0, 1 or -1: p divides a, a is a square by p, or none. -/
def sqF (p a : Int) : Int := if a % p = 0 then 0 else if (List.range p.toNat).any (hitB p a) = true then 1 else -1
theorem sqF_0 {p a : Int} (h : a % p = 0) : sqF p a = 0 := by unfold sqF; rw [if_pos h]
theorem sqF_1 {p a : Int} {x : Nat} (h0 : ¬ a % p = 0) (hx : 1 ≤ x) (hxp : (x : Int) < p) (h : ((x : Int) * x - a) % p = 0) : sqF p a = 1 := by
  unfold sqF
  rw [if_neg h0, if_pos]
  rw [List.any_eq_true]
  exact ⟨x, List.mem_range.2 (by omega), by simp [hitB, hx, h]⟩
theorem sqF_m {p a : Int} (h0 : ¬ a % p = 0) (h : ∀ x : Nat, 1 ≤ x → (x : Int) < p → ¬ ((x : Int) * x - a) % p = 0) : sqF p a = -1 := by
  unfold sqF
  rw [if_neg h0, if_neg]
  intro hc
  rw [List.any_eq_true] at hc
  obtain ⟨x, hx, hh⟩ := hc
  have hx' := List.mem_range.1 hx
  simp [hitB] at hh
  exact h x hh.1 (by omega) hh.2
theorem mod_sub_iff {a b p : Int} : a % p = b % p ↔ (a - b) % p = 0 := Int.emod_eq_emod_iff_emod_sub_eq_zero
theorem sqF_mod {p a : Int} : sqF p (a % p) = sqF p a := by
  unfold sqF
  have e : ∀ x, hitB p (a % p) x = hitB p a x := by
    intro x
    unfold hitB
    rw [Int.sub_emod, Int.emod_emod_of_dvd _ (Int.dvd_refl p), ← Int.sub_emod]
  rw [Int.emod_emod_of_dvd _ (Int.dvd_refl p), funext e]
theorem sqF_bd (p a : Int) : sqF p a = 0 ∨ sqF p a = 1 ∨ sqF p a = -1 := by
  unfold sqF; split
  · simp
  · split <;> simp
/-- Whether n, other than 0, is a square of a p-adic number. -/
def sqrB (p n : Int) : Bool := decide (vl n p % 2 = 0) && (if p = 2 then n / p ^ vl n p % 8 == 1 else sqF p (n / p ^ vl n p) == 1)
theorem vl_unit {p n : Int} (hp : 2 ≤ p) (h : ¬ n % p = 0) : vl n p = 0 := vl_eq hp (k := 0) (c := n) (by simp) h
theorem sqrB_unit {p n : Int} (hp : 2 ≤ p) (h : ¬ n % p = 0) : sqrB p n = (if p = 2 then n % 8 == 1 else sqF p n == 1) := by
  unfold sqrB; rw [vl_unit hp h]; simp
theorem vl_pow_bd {p n : Int} (hp : 2 ≤ p) (hn : n ≠ 0) : p ^ vl n p ≤ n.natAbs ∧ (n / p ^ vl n p).natAbs ≤ n.natAbs ∧ n.tdiv (p ^ vl n p) = n / p ^ vl n p ∧ n / p ^ vl n p ≠ 0 ∧ ¬ (n / p ^ vl n p) % p = 0 := by
  obtain ⟨c, h1, h2, h3⟩ := vl_spec hp hn
  have h4 := pow_pos' (show 1 ≤ p by omega) (vl n p)
  have h5 : c ≠ 0 := fun h => h2 (by rw [h]; simp)
  have h6 : n.natAbs = c.natAbs * (p ^ vl n p).natAbs := by rw [← Int.natAbs_mul, ← h1]
  have h7 := Nat.mul_le_mul (show 1 ≤ c.natAbs by omega) (Nat.le_refl (p ^ vl n p).natAbs)
  have h8 := Nat.mul_le_mul (Nat.le_refl c.natAbs) (show 1 ≤ (p ^ vl n p).natAbs by omega)
  refine ⟨by omega, by rw [h3]; omega, ?_, by rw [h3]; exact h5, by rw [h3]; exact h2⟩
  exact Int.tdiv_eq_ediv_of_dvd ⟨c, by rw [Int.mul_comm]; exact h1⟩
end Go.Proofs.Ytdeehgcabnoclaa

/- Plain: Fermat and Euler for any prime. -/
namespace Go.Proofs.Ytdeehgcabnoclaa
open Go

def isP (p : Nat) : Prop := 2 ≤ p ∧ ∀ d, d ∣ p → d = 1 ∨ d = p
theorem isP.cop {p a : Nat} (hp : isP p) (h : ¬ p ∣ a) : Nat.Coprime p a := by
  rcases hp.2 (Nat.gcd p a) (Nat.gcd_dvd_left _ _) with e | e
  · exact e
  · exact absurd (e ▸ Nat.gcd_dvd_right p a) h
theorem isP.mul {p a b : Nat} (hp : isP p) (h : p ∣ a * b) : p ∣ a ∨ p ∣ b := by
  by_cases h1 : p ∣ a
  · exact .inl h1
  · exact .inr ((hp.cop h1).dvd_of_dvd_mul_left h)
theorem dvd_of_mod {p a b : Nat} (e : a % p = b % p) : p ∣ a - b := Nat.dvd_of_mod_eq_zero (Nat.sub_mod_eq_zero_of_mod_eq e)
theorem mod_of_dvd {p a b : Nat} (h : b ≤ a) (hd : p ∣ a - b) : a % p = b % p := by
  obtain ⟨c, hc⟩ := hd
  rw [show a = b + p * c by omega, Nat.add_mul_mod_self_left]
def prodL (l : List Nat) : Nat := l.foldr (· * ·) 1
theorem prodL_perm {l l' : List Nat} (h : l.Perm l') : prodL l = prodL l' := by
  induction h with
  | nil => rfl
  | cons x _ ih => simp only [prodL, List.foldr_cons] at ih ⊢; rw [ih]
  | swap x y l => simp only [prodL, List.foldr_cons]; rw [← Nat.mul_assoc, ← Nat.mul_assoc, Nat.mul_comm y x]
  | trans _ _ h1 h2 => exact h1.trans h2
theorem prodL_map (a p : Nat) : ∀ l : List Nat, prodL (l.map fun x => a * x % p) % p = a ^ l.length * prodL l % p
  | [] => by simp [prodL]
  | x :: l => by
    have ih := prodL_map a p l
    simp only [prodL, List.map_cons, List.foldr_cons, List.length_cons] at ih ⊢
    rw [Nat.mod_mul_mod, Nat.mul_mod, ih, ← Nat.mul_mod, Nat.pow_succ]
    congr 1
    have : ∀ A B C D : Nat, A * B * (C * D) = C * A * (B * D) := fun A B C D => by
      rw [Nat.mul_comm C A, Nat.mul_assoc, Nat.mul_assoc, ← Nat.mul_assoc B C D, Nat.mul_comm B C, Nat.mul_assoc]
    rw [this]
theorem prodL_not {p : Nat} (hp : isP p) : ∀ l : List Nat, (∀ x ∈ l, ¬ p ∣ x) → ¬ p ∣ prodL l
  | [], _, h => by have := Nat.le_of_dvd (by decide) h; have := hp.1; simp [prodL] at *; omega
  | x :: l, hx, h => by
    rcases hp.mul h with h | h
    · exact hx x (by simp) h
    · exact prodL_not hp l (fun y hy => hx y (by simp [hy])) h
theorem perm_of_sub : ∀ (l l' : List Nat), l.Nodup → (∀ x ∈ l, x ∈ l') → l.length = l'.length → l.Perm l'
  | [], l', _, _, h => by have := List.eq_nil_of_length_eq_zero (l := l') (by simpa using h.symm); subst this; exact List.Perm.refl _
  | x :: l, l', hn, hs, h => by
    have hx := hs x (by simp)
    have hn' := List.nodup_cons.1 hn
    refine (List.Perm.cons x (perm_of_sub l (l'.erase x) hn'.2 (fun y hy => ?_) ?_)).trans (List.perm_cons_erase hx).symm
    · exact (List.mem_erase_of_ne (fun e => hn'.1 (by rw [← e]; exact hy))).2 (hs y (by simp [hy]))
    · rw [List.length_erase_of_mem hx]; simp at h; omega
theorem fermatN {p a : Nat} (hp : isP p) (h : ¬ p ∣ a) : a ^ (p - 1) % p = 1 := by
  have h2 := hp.1
  obtain ⟨L, hL⟩ : ∃ L, L = (List.range (p - 1)).map (· + 1) := ⟨_, rfl⟩
  have hmem : ∀ x, x ∈ L ↔ 1 ≤ x ∧ x < p := fun x => by
    rw [hL, List.mem_map]
    constructor
    · rintro ⟨y, hy, rfl⟩; have := List.mem_range.1 hy; omega
    · rintro ⟨h3, h4⟩; exact ⟨x - 1, List.mem_range.2 (by omega), by omega⟩
  have hnd : ∀ x, 1 ≤ x ∧ x < p → ¬ p ∣ x := fun x hx hd => by have := Nat.le_of_dvd (by omega) hd; omega
  have hlen : L.length = p - 1 := by rw [hL]; simp
  have hno : L.Nodup := by
    rw [hL]; unfold List.Nodup; rw [List.pairwise_map]
    exact List.nodup_range.imp fun {a b} h e => h (by omega)
  have hno2 : (L.map fun x => a * x % p).Nodup := by
    unfold List.Nodup
    rw [List.pairwise_map]
    refine List.Pairwise.imp_of_mem ?_ hno
    intro x y hx hy hne e
    have k1 := (hmem x).1 hx
    have k2 := (hmem y).1 hy
    rcases Nat.lt_or_ge x y with hl | hl
    · have : p ∣ a * y - a * x := dvd_of_mod e.symm
      rw [← Nat.mul_sub] at this
      rcases hp.mul this with h3 | h3
      · exact h h3
      · exact hnd (y - x) (by omega) h3
    · have : p ∣ a * x - a * y := dvd_of_mod e
      rw [← Nat.mul_sub] at this
      rcases hp.mul this with h3 | h3
      · exact h h3
      · exact hnd (x - y) (by omega) h3
  have hper : (L.map fun x => a * x % p).Perm L := by
    refine perm_of_sub _ _ hno2 (fun x hx => ?_) (by simp)
    obtain ⟨y, hy, rfl⟩ := List.mem_map.1 hx
    have k1 := (hmem y).1 hy
    refine (hmem _).2 ⟨?_, Nat.mod_lt _ (by omega)⟩
    rcases Nat.eq_zero_or_pos (a * y % p) with h0 | h0
    · rcases hp.mul (Nat.dvd_of_mod_eq_zero h0) with h3 | h3
      · exact absurd h3 h
      · exact absurd h3 (hnd y k1)
    · exact h0
  have e1 := prodL_map a p L
  rw [prodL_perm hper, hlen] at e1
  have hP := prodL_not hp L (fun x hx => hnd x ((hmem x).1 hx))
  -- P (a^(p-1) - 1) is a multiple of p
  have hA : 1 ≤ a ^ (p - 1) := Nat.pow_pos (by rcases Nat.eq_zero_or_pos a with h0 | h0; (subst h0; exact absurd (Nat.dvd_zero p) h); exact h0)
  have e2 : p ∣ a ^ (p - 1) * prodL L - 1 * prodL L := dvd_of_mod (by rw [Nat.one_mul]; exact e1.symm)
  rw [← Nat.sub_mul] at e2
  rcases hp.mul e2 with h3 | h3
  · rw [mod_of_dvd hA h3, Nat.mod_eq_of_lt (by omega)]
  · exact absurd h3 hP
theorem eulerN {p a : Nat} (hp : isP p) (h2 : p % 2 = 1) : a ^ ((p - 1) / 2) % p = 0 ∨ a ^ ((p - 1) / 2) % p = 1 ∨ a ^ ((p - 1) / 2) % p = p - 1 := by
  have hp2 := hp.1
  by_cases h : p ∣ a
  · left
    rw [show (p - 1) / 2 = (p - 1) / 2 - 1 + 1 by omega, Nat.pow_succ]
    exact Nat.mod_eq_zero_of_dvd (Nat.dvd_trans h (Nat.dvd_mul_left _ _))
  · have h1 := fermatN hp h
    obtain ⟨x, hx⟩ : ∃ x, x = a ^ ((p - 1) / 2) % p := ⟨_, rfl⟩
    have hx2 : x * x % p = 1 := by
      rw [hx, ← Nat.mul_mod, ← Nat.pow_add]
      rw [show (p - 1) / 2 + (p - 1) / 2 = p - 1 by omega]; exact h1
    have hxl : x < p := by rw [hx]; exact Nat.mod_lt _ (by omega)
    rw [← hx]
    right
    have hx0 : 1 ≤ x := by
      rcases Nat.eq_zero_or_pos x with h0 | h0
      · subst h0; simp at hx2
      · exact h0
    have : p ∣ x * x - 1 := dvd_of_mod (by rw [hx2, Nat.mod_eq_of_lt (by omega)])
    rw [show x * x - 1 = (x - 1) * (x + 1) by rw [Nat.sub_mul, Nat.mul_add]; omega] at this
    rcases hp.mul this with h3 | h3
    · left
      rcases Nat.eq_zero_or_pos (x - 1) with h4 | h4
      · omega
      · have := Nat.le_of_dvd h4 h3; omega
    · right
      have := Nat.le_of_dvd (by omega) h3
      omega
end Go.Proofs.Ytdeehgcabnoclaa

/- Plain: squares by a small prime are multiplicative. -/
namespace Go.Proofs.Ytdeehgcabnoclaa
open Go

theorem small_isP {p : Int} (hs : smallP p = true) : isP p.toNat := by
  have hb := smallP_bd hs
  refine ⟨by omega, fun d hd => ?_⟩
  have hn : ∀ x : Fin 98, primeB (x.val : Int) = true → ∀ d : Fin 98, x.val % d.val = 0 → d.val = 1 ∨ d.val = x.val := by decide +kernel
  have hd2 := Nat.le_of_dvd (by omega) hd
  have h1 := hn ⟨p.toNat, by omega⟩ (by show primeB ((p.toNat : Nat) : Int) = true; rw [show ((p.toNat : Nat) : Int) = p by omega]; exact smallP_prime hs) ⟨d, by omega⟩ (Nat.mod_eq_zero_of_dvd hd)
  exact h1
theorem isP.mulZ {p a b : Int} (hp : isP p.toNat) (h0 : 0 ≤ p) (h : p ∣ a * b) : p ∣ a ∨ p ∣ b := by
  have e : p.natAbs = p.toNat := by omega
  have h1 : p.natAbs ∣ (a * b).natAbs := Int.natAbs_dvd_natAbs.2 h
  rw [Int.natAbs_mul, e] at h1
  rcases hp.mul h1 with h2 | h2
  · exact .inl (Int.natAbs_dvd_natAbs.1 (by rw [e]; exact h2))
  · exact .inr (Int.natAbs_dvd_natAbs.1 (by rw [e]; exact h2))
theorem inv_ex {p a : Int} (hp : isP p.toNat) (h0 : 0 ≤ p) (h : ¬ p ∣ a) : ∃ c, p ∣ c * a - 1 := by
  have h2 := hp.1
  obtain ⟨n, hn⟩ : ∃ n : Nat, a % p = (n : Int) := ⟨(a % p).toNat, by have := Int.emod_nonneg a (show p ≠ 0 by omega); omega⟩
  have hnp : ¬ p.toNat ∣ n := fun hd => h (by
    have : (p.toNat : Int) ∣ (n : Int) := Int.natCast_dvd_natCast.2 hd
    rw [show ((p.toNat : Nat) : Int) = p by omega, ← hn] at this
    exact Int.dvd_of_emod_eq_zero (by rw [← Int.emod_emod_of_dvd a (Int.dvd_refl p)]; exact Int.emod_eq_zero_of_dvd this))
  have hf := fermatN hp hnp
  refine ⟨((n ^ (p.toNat - 2) : Nat) : Int), ?_⟩
  apply Int.dvd_of_emod_eq_zero
  apply Int.emod_eq_emod_iff_emod_sub_eq_zero.1
  rw [Int.mul_emod, hn]
  have e : (((n ^ (p.toNat - 2) : Nat) : Int) % p * (n : Int)) % p = ((n ^ (p.toNat - 1) % p.toNat : Nat) : Int) := by
    rw [Int.mul_emod (((n ^ (p.toNat - 2) : Nat) : Int) % p) (n : Int) p, Int.emod_emod_of_dvd _ (Int.dvd_refl p), ← Int.mul_emod, Int.natCast_emod, show ((p.toNat : Nat) : Int) = p by omega]
    congr 1
    rw [← Int.natCast_mul, ← Nat.pow_succ, show (p.toNat - 2).succ = p.toNat - 1 by omega]
  rw [e, hf, Int.emod_eq_of_lt (by omega) (by omega)]
  rfl
/-- A square by p. -/
def isSq (p a : Int) : Prop := ∃ t : Int, p ∣ t * t - a
theorem sqF_iff {p a : Int} (hp : 2 ≤ p) (h0 : ¬ p ∣ a) : sqF p a = 1 ↔ isSq p a := by
  have h0' : ¬ a % p = 0 := fun h => h0 (Int.dvd_of_emod_eq_zero h)
  constructor
  · intro h
    rcases Classical.em (∀ x : Nat, 1 ≤ x → (x : Int) < p → ¬ ((x : Int) * x - a) % p = 0) with hc | hc
    · rw [sqF_m h0' hc] at h; omega
    · simp only [Classical.not_forall, Classical.not_not] at hc
      obtain ⟨x, _, _, hx⟩ := hc
      exact ⟨x, Int.dvd_of_emod_eq_zero hx⟩
  · rintro ⟨t, ht⟩
    have q1 := Int.emod_nonneg t (show p ≠ 0 by omega)
    have q2 := Int.emod_lt_of_pos t (show 0 < p by omega)
    have e : p ∣ (t % p) * (t % p) - a := by
      have h1 : p ∣ t % p - t := ⟨-(t / p), by have := Int.emod_add_mul_ediv t p; grind⟩
      have h2 := Int.dvd_add (Int.dvd_mul_of_dvd_left (c := t % p + t) h1) ht
      rwa [show (t % p - t) * (t % p + t) + (t * t - a) = (t % p) * (t % p) - a by grind] at h2
    have ht0 : t % p ≠ 0 := fun h => h0 (by rw [h] at e; simpa using e)
    exact sqF_1 (x := (t % p).toNat) h0' (by omega) (by omega) (by rw [show (((t % p).toNat : Nat) : Int) = t % p by omega]; exact Int.emod_eq_zero_of_dvd e)
theorem isSq.mul {p a b : Int} (ha : isSq p a) (hb : isSq p b) : isSq p (a * b) := by
  obtain ⟨s, hs⟩ := ha
  obtain ⟨t, ht⟩ := hb
  refine ⟨s * t, ?_⟩
  have := Int.dvd_add (Int.dvd_mul_of_dvd_left (c := t * t) hs) (Int.dvd_mul_of_dvd_left (c := a) ht)
  rwa [show (s * s - a) * (t * t) + (t * t - b) * a = s * t * (s * t) - a * b by grind] at this
theorem isSq.div {p c b : Int} (hp : isP p.toNat) (h0 : 0 ≤ p) (hc : ¬ p ∣ c) (h : isSq p (c * c * b)) : isSq p b := by
  obtain ⟨d, hd⟩ := inv_ex hp h0 hc
  obtain ⟨s, hs⟩ := h
  refine ⟨d * s, ?_⟩
  have := Int.dvd_add (Int.dvd_mul_of_dvd_left (c := d * d) hs) (Int.dvd_mul_of_dvd_left (c := (d * c + 1) * b) hd)
  rwa [show (s * s - c * c * b) * (d * d) + (d * c - 1) * ((d * c + 1) * b) = d * s * (d * s) - b by grind] at this
/-- A root among the first numbers. -/
def hasR (p a : Nat) : Nat → Bool
  | 0 => false
  | x + 1 => ((x + 1) * (x + 1) % p == a % p) || hasR p a x
theorem hasR_sq {p a : Nat} : ∀ n, hasR p a n = true → isSq (p : Int) (a : Int)
  | 0, h => by simp [hasR] at h
  | x + 1, h => by
    simp only [hasR, Bool.or_eq_true, beq_iff_eq] at h
    rcases h with h | h
    · refine ⟨((x + 1 : Nat) : Int), ?_⟩
      apply Int.dvd_of_emod_eq_zero
      apply Int.emod_eq_emod_iff_emod_sub_eq_zero.1
      rw [← Int.natCast_mul, ← Int.natCast_emod, ← Int.natCast_emod, h]
    · exact hasR_sq x h
theorem hasR_no {p a : Nat} : ∀ n, hasR p a n = false → ∀ x : Nat, 1 ≤ x → x ≤ n → ¬ ((x : Int) * x - a) % p = 0
  | 0, _, x, h1, h2 => by omega
  | n + 1, h, x, h1, h2 => by
    simp only [hasR, Bool.or_eq_false_iff, beq_eq_false_iff_ne] at h
    by_cases e : x = n + 1
    · subst e
      intro hz
      have := Int.emod_eq_emod_iff_emod_sub_eq_zero.2 hz
      rw [← Int.natCast_mul, ← Int.natCast_emod, ← Int.natCast_emod] at this
      exact h.1 (by exact_mod_cast this)
    · exact hasR_no n h.2 x h1 (by omega)
/-- The least number that is no square by p. -/
def nrN (p : Nat) : Nat := if p = 3 ∨ p = 5 ∨ p = 11 ∨ p = 13 ∨ p = 19 ∨ p = 29 ∨ p = 37 ∨ p = 43 ∨ p = 53 ∨ p = 59 ∨ p = 61 ∨ p = 67 ∨ p = 83 then 2 else if p = 7 ∨ p = 17 ∨ p = 31 ∨ p = 41 ∨ p = 79 ∨ p = 89 then 3 else if p = 71 then 7 else 5
theorem nr_all : ∀ p : Fin 98, primeB (p.val : Int) = true → p.val = 2 ∨ (hasR p.val (nrN p.val) (p.val - 1) = false ∧ nrN p.val % p.val ≠ 0 ∧ (hasR p.val (p.val - 1) (p.val - 1) = (((p.val - 1) / 2) % 2 == 0)) ∧ ∀ a : Fin 98, (decide (p.val ≤ a.val) || (a.val % p.val == 0) || hasR p.val a.val (p.val - 1) || hasR p.val (nrN p.val * a.val) (p.val - 1)) = true) := by decide +kernel
theorem nr_fact {p : Int} (hs : smallP p = true) (h2 : p ≠ 2) : ∃ n : Int, 1 ≤ n ∧ n ≤ 7 ∧ sqF p n = -1 ∧ (∀ a, ¬ p ∣ a → isSq p a ∨ isSq p (n * a)) ∧ sqF p (p - 1) = (if ((p - 1) / 2) % 2 = 0 then 1 else -1) := by
  have hb := smallP_bd hs
  obtain ⟨P, rfl⟩ : ∃ P : Nat, p = (P : Int) := ⟨p.toNat, by omega⟩
  rcases nr_all ⟨P, by omega⟩ (smallP_prime hs) with h | ⟨h1, h3, h4, h5⟩
  · exact absurd (show (P : Int) = 2 by simp at h; omega) h2
  · simp only at h1 h3 h4 h5
    have hn7 : 1 ≤ nrN P ∧ nrN P ≤ 7 := by unfold nrN; repeat (first | split | omega)
    have hnn : ¬ (nrN P : Int) % (P : Int) = 0 := fun e => h3 (by exact_mod_cast e)
    refine ⟨(nrN P : Int), by omega, by omega, ?_, fun a ha => ?_, ?_⟩
    · refine sqF_m hnn fun x hx1 hx2 => ?_
      exact hasR_no _ h1 x hx1 (by omega)
    · have q1 := Int.emod_nonneg a (show (P : Int) ≠ 0 by omega)
      have q2 := Int.emod_lt_of_pos a (show 0 < (P : Int) by omega)
      obtain ⟨A, hA⟩ : ∃ A : Nat, a % (P : Int) = (A : Int) := ⟨(a % (P : Int)).toNat, by omega⟩
      have hd : (P : Int) ∣ a - (A : Int) := by rw [← hA]; exact ⟨a / (P : Int), by have := Int.emod_add_mul_ediv a P; omega⟩
      have h6 := h5 ⟨A, by omega⟩
      simp only [Bool.or_eq_true, decide_eq_true_eq, beq_iff_eq] at h6
      have hmove : ∀ c b : Int, isSq (P : Int) (c * b) → (P : Int) ∣ a - b → isSq (P : Int) (c * a) := fun c b ⟨t, ht⟩ hd => ⟨t, by
        have := Int.dvd_sub ht (Int.dvd_trans hd (Int.dvd_mul_left c _))
        rwa [show t * t - c * b - c * (a - b) = t * t - c * a by grind] at this⟩
      rcases h6 with ((h6 | h6) | h6) | h6
      · omega
      · exact absurd (Int.dvd_of_emod_eq_zero (by
          rw [hA]
          have h9 := Nat.mod_eq_of_lt (show A < P by omega)
          omega)) ha
      · left
        have := hmove 1 (A : Int) (by rw [Int.one_mul]; exact hasR_sq _ h6) hd
        rwa [Int.one_mul] at this
      · right
        exact hmove _ (A : Int) (by have := hasR_sq _ h6; rwa [Int.natCast_mul] at this) hd
    · have hz : ¬ ((P : Int) - 1) % (P : Int) = 0 := by rw [Int.emod_eq_of_lt (by omega) (by omega)]; omega
      have e1 : ((P - 1 : Nat) : Int) = (P : Int) - 1 := by omega
      cases hh : hasR P (P - 1) (P - 1) with
      | true =>
        rw [hh] at h4
        have h7 : (P - 1) / 2 % 2 = 0 := by simpa using h4.symm
        rw [if_pos (by omega)]
        refine (sqF_iff (by omega) (fun h => hz (Int.emod_eq_zero_of_dvd h))).2 ?_
        have := hasR_sq _ hh
        rwa [e1] at this
      | false =>
        rw [hh] at h4
        have h7 : ¬ (P - 1) / 2 % 2 = 0 := by simpa using h4.symm
        rw [if_neg (by omega)]
        refine sqF_m hz fun x hx1 hx2 => ?_
        rw [← e1]
        exact hasR_no _ hh x hx1 (by omega)
theorem sqF_unit {p a : Int} (h : ¬ p ∣ a) : sqF p a = 1 ∨ sqF p a = -1 := by
  rcases sqF_bd p a with h1 | h1
  · unfold sqF at h1
    rw [if_neg (fun e => h (Int.dvd_of_emod_eq_zero e))] at h1
    split at h1 <;> omega
  · exact h1
theorem sqF_mul {p a b : Int} (hs : smallP p = true) (h2 : p ≠ 2) (ha : ¬ p ∣ a) (hb : ¬ p ∣ b) : sqF p (a * b) = sqF p a * sqF p b := by
  have hbd := smallP_bd hs
  have hp := small_isP hs
  have hab : ¬ p ∣ a * b := fun h => (hp.mulZ (by omega) h).elim ha hb
  obtain ⟨n, hn1, hn7, hn, hall, _⟩ := nr_fact hs h2
  have hnp : ¬ p ∣ n := fun h => by rw [sqF_0 (Int.emod_eq_zero_of_dvd h)] at hn; omega
  have key : ∀ x y, ¬ p ∣ x → ¬ p ∣ y → isSq p x → isSq p (x * y) → isSq p y := fun x y hx hy h3 h4 => by
    have := h3.mul h4
    rw [← Int.mul_assoc] at this
    exact isSq.div hp (by omega) hx this
  by_cases h3 : isSq p a
  · rw [(sqF_iff (by omega) ha).2 h3, Int.one_mul]
    by_cases h4 : isSq p b
    · rw [(sqF_iff (by omega) hb).2 h4, (sqF_iff (by omega) hab).2 (h3.mul h4)]
    · have h5 := (sqF_unit hb).resolve_left (fun h => h4 ((sqF_iff (by omega) hb).1 h))
      have h6 := (sqF_unit hab).resolve_left (fun h => h4 (key a b ha hb h3 ((sqF_iff (by omega) hab).1 h)))
      rw [h5, h6]
  · have h5 := (sqF_unit ha).resolve_left (fun h => h3 ((sqF_iff (by omega) ha).1 h))
    rw [h5]
    by_cases h4 : isSq p b
    · have h6 := (sqF_unit hab).resolve_left (fun h => h3 (key b a hb ha h4 (by rw [Int.mul_comm]; exact (sqF_iff (by omega) hab).1 h)))
      rw [(sqF_iff (by omega) hb).2 h4, h6]; rfl
    · have h7 := (sqF_unit hb).resolve_left (fun h => h4 ((sqF_iff (by omega) hb).1 h))
      have h8 := ((hall a ha).resolve_left h3).mul ((hall b hb).resolve_left h4)
      rw [show n * a * (n * b) = n * n * (a * b) by grind] at h8
      rw [h7, (sqF_iff (by omega) hab).2 (isSq.div hp (by omega) hnp h8)]; rfl
end Go.Proofs.Ytdeehgcabnoclaa

/- Plain: where a conic has a point, each symbol of Hilbert is 1. -/
namespace Go.Proofs.Ytdeehgcabnoclaa
open Go

def sgn (n : Int) : Int := if n % 2 = 0 then 1 else -1
def hil2 (k m : Nat) (u v : Int) : Int := sgn ((u - 1) / 2 * ((v - 1) / 2) + (k : Int) * ((v * v - 1) / 8) + (m : Int) * ((u * u - 1) / 8))
def hilO (p : Int) (k m : Nat) (u v : Int) : Int := sgn ((k : Int) * (m : Int) * ((p - 1) / 2)) * (if m % 2 = 1 then sqF p u else 1) * (if k % 2 = 1 then sqF p v else 1)
/-- The symbol of two numbers other than 0. -/
def hilF (p a b : Int) : Int :=
  if p = 0 then (if a < 0 ∧ b < 0 then -1 else 1)
  else if p = 2 then hil2 (vl a p) (vl b p) (a / p ^ vl a p % 8) (b / p ^ vl b p % 8)
  else hilO p (vl a p) (vl b p) (a / p ^ vl a p) (b / p ^ vl b p)
/-- A solution that p does not divide. -/
theorem prim {p A B : Int} (hp : 2 ≤ p) : ∀ (n : Nat) (X Y Z : Int), X.natAbs + Y.natAbs + Z.natAbs ≤ n → ¬ (X = 0 ∧ Y = 0 ∧ Z = 0) → A * (X * X) + B * (Y * Y) = Z * Z →
    ∃ X Y Z : Int, ¬ (p ∣ X ∧ p ∣ Y ∧ p ∣ Z) ∧ A * (X * X) + B * (Y * Y) = Z * Z := by
  intro n
  induction n with
  | zero => intro X Y Z h hn; omega
  | succ n ih =>
    intro X Y Z h hn he
    by_cases hd : p ∣ X ∧ p ∣ Y ∧ p ∣ Z
    · obtain ⟨⟨x, rfl⟩, ⟨y, rfl⟩, ⟨z, rfl⟩⟩ := hd
      have hlt : ∀ t : Int, t ≠ 0 → t.natAbs + 1 ≤ (p * t).natAbs := fun t ht => by
        rw [Int.natAbs_mul]
        have h1 : 2 * t.natAbs ≤ p.natAbs * t.natAbs := Nat.mul_le_mul_right _ (by omega)
        omega
      have hle : ∀ t : Int, t.natAbs ≤ (p * t).natAbs := fun t => by
        by_cases ht : t = 0
        · subst ht; simp
        · have := hlt t ht; omega
      refine ih x y z ?_ ?_ ?_
      · have h1 := hle x
        have h2 := hle y
        have h3 := hle z
        by_cases hx : x = 0
        · by_cases hy : y = 0
          · by_cases hz : z = 0
            · subst hx hy hz; exact absurd ⟨by simp, by simp, by simp⟩ hn
            · have := hlt z hz; omega
          · have := hlt y hy; omega
        · have := hlt x hx; omega
      · rintro ⟨rfl, rfl, rfl⟩; exact hn ⟨by simp, by simp, by simp⟩
      · have e : p * p * (A * (x * x) + B * (y * y)) = p * p * (z * z) := by grind
        exact Int.eq_of_mul_eq_mul_left (Int.mul_ne_zero (by omega) (by omega)) e
    · exact ⟨X, Y, Z, hd, he⟩
theorem sgn_odd_mul {p : Int} {k m : Nat} : sgn ((k : Int) * (m : Int) * ((p - 1) / 2)) = if k % 2 = 1 ∧ m % 2 = 1 then sgn ((p - 1) / 2) else 1 := by
  unfold sgn
  have h1 : (k : Int) % 2 = 0 ∨ (k : Int) % 2 = 1 := by omega
  have h2 : (m : Int) % 2 = 0 ∨ (m : Int) % 2 = 1 := by omega
  rcases h1 with h1 | h1
  · have e : (k : Int) * (m : Int) * ((p - 1) / 2) % 2 = 0 := by rw [Int.mul_assoc, Int.mul_emod, h1]; simp
    rw [if_pos e, if_neg (by omega)]
  · rcases h2 with h2 | h2
    · have e : (k : Int) * (m : Int) * ((p - 1) / 2) % 2 = 0 := by rw [Int.mul_comm (k : Int), Int.mul_assoc, Int.mul_emod, h2]; simp
      rw [if_pos e, if_neg (by omega)]
    · have e : (k : Int) * (m : Int) * ((p - 1) / 2) % 2 = ((p - 1) / 2) % 2 := by rw [Int.mul_emod, Int.mul_emod (k : Int), h1, h2]; simp
      rw [e, if_pos (show k % 2 = 1 ∧ m % 2 = 1 by omega)]
theorem hilO_one {p : Int} (hs : smallP p = true) (h2 : p ≠ 2) {k m : Nat} {u v X Y Z : Int} (hu : ¬ p ∣ u) (hv : ¬ p ∣ v) (hd : ¬ (p ∣ X ∧ p ∣ Y ∧ p ∣ Z)) (he : u * p ^ (k % 2) * (X * X) + v * p ^ (m % 2) * (Y * Y) = Z * Z) : hilO p k m u v = 1 := by
  have hb := smallP_bd hs
  have hp := small_isP hs
  have hsq : ∀ t, p ∣ t * t → p ∣ t := fun t h => (hp.mulZ (by omega) h).elim id id
  -- one is even, the other odd: the unit beside the odd one is a square
  have key : ∀ u v X Y Z : Int, ¬ p ∣ u → ¬ p ∣ v → ¬ (p ∣ X ∧ p ∣ Y ∧ p ∣ Z) → u * p * (X * X) + v * (Y * Y) = Z * Z → sqF p v = 1 := by
    intro u v X Y Z hu hv hd he
    have hY : ¬ p ∣ Y := fun hY => by
      have hZ : p ∣ Z := hsq Z (by rw [← he]; exact Int.dvd_add ⟨u * (X * X), by grind⟩ (Int.dvd_trans hY ⟨v * Y, by grind⟩))
      obtain ⟨y, rfl⟩ := hY
      obtain ⟨z, rfl⟩ := hZ
      have h3 : p * (u * (X * X)) = p * (p * (z * z - v * (y * y))) := by grind
      have h4 := Int.eq_of_mul_eq_mul_left (show p ≠ 0 by omega) h3
      have h5 : p ∣ u * (X * X) := ⟨_, h4⟩
      have hX := hsq X ((hp.mulZ (by omega) h5).resolve_left hu)
      exact hd ⟨hX, ⟨y, rfl⟩, ⟨z, rfl⟩⟩
    refine (sqF_iff (by omega) hv).2 (isSq.div hp (by omega) hY ⟨Z, ?_⟩)
    exact ⟨u * (X * X), by grind⟩
  unfold hilO
  rw [sgn_odd_mul]
  have hk : k % 2 = 0 ∨ k % 2 = 1 := by omega
  have hm : m % 2 = 0 ∨ m % 2 = 1 := by omega
  rcases hk with hk | hk <;> rcases hm with hm | hm
  · simp [hk, hm]
  · rw [hk, hm] at he
    rw [if_neg (by omega), if_pos hm, if_neg (by omega), key v u Y X Z hv hu (fun h => hd ⟨h.2.1, h.1, h.2.2⟩) (by rw [← he]; grind)]
    rfl
  · rw [hk, hm] at he
    rw [if_neg (by omega), if_neg (by omega), if_pos hk, key u v X Y Z hu hv hd (by rw [← he]; grind)]
    rfl
  · rw [hk, hm] at he
    rw [if_pos ⟨hk, hm⟩, if_pos hm, if_pos hk]
    -- Z is a multiple of p
    have hZ : p ∣ Z := hsq Z (by rw [← he]; exact ⟨u * (X * X) + v * (Y * Y), by grind⟩)
    obtain ⟨z, rfl⟩ := hZ
    have h3 : p * (u * (X * X) + v * (Y * Y)) = p * (p * (z * z)) := by grind
    have h4 := Int.eq_of_mul_eq_mul_left (show p ≠ 0 by omega) h3
    have hX : ¬ p ∣ X := fun hX => by
      have h5 : p ∣ v * (Y * Y) := by
        have := Int.dvd_sub (⟨z * z, h4⟩ : p ∣ u * (X * X) + v * (Y * Y)) (Int.dvd_trans hX ⟨u * X, by grind⟩ : p ∣ u * (X * X))
        rwa [show u * (X * X) + v * (Y * Y) - u * (X * X) = v * (Y * Y) by omega] at this
      have hY := hsq Y ((hp.mulZ (by omega) h5).resolve_left hv)
      obtain ⟨x, rfl⟩ := hX
      obtain ⟨y, rfl⟩ := hY
      have h6 : p * (p * (u * (x * x) + v * (y * y))) = p * (z * z) := by grind
      have h7 := Int.eq_of_mul_eq_mul_left (show p ≠ 0 by omega) h6
      exact hd ⟨⟨x, rfl⟩, ⟨y, rfl⟩, Int.dvd_mul_right _ _⟩
    have hm1 : ¬ p ∣ p - 1 := fun h => by have := Int.le_of_dvd (by omega) h; omega
    have huv : ¬ p ∣ u * v := fun h => (hp.mulZ (by omega) h).elim hu hv
    -- (p - 1) u v is a square
    have hS : sqF p ((p - 1) * (u * v)) = 1 := by
      have h8 : ¬ p ∣ (p - 1) * (u * v) := fun h => (hp.mulZ (by omega) h).elim hm1 huv
      refine (sqF_iff (by omega) h8).2 (isSq.div hp (by omega) hX ⟨v * Y, ?_⟩)
      refine ⟨v * z * z - X * X * (u * v), ?_⟩
      have h9 : v * (u * (X * X) + v * (Y * Y)) = v * (p * (z * z)) := by rw [h4]
      grind
    rw [sqF_mul hs h2 hm1 huv, sqF_mul hs h2 hu hv] at hS
    obtain ⟨_, _, _, _, _, h10⟩ := nr_fact hs h2
    rw [h10] at hS
    unfold sgn
    rw [Int.mul_assoc]
    exact hS
theorem hil2_dec : ∀ (u v : Fin 4) (X Y Z : Fin 8), (((2 * u.val + 1) * X.val * X.val + (2 * v.val + 1) * Y.val * Y.val) % 4 = Z.val * Z.val % 4 → (X.val % 2 = 0 ∧ Y.val % 2 = 0 ∧ Z.val % 2 = 0) ∨ (u.val * v.val) % 2 = 0) ∧
    ((2 * (2 * u.val + 1) * X.val * X.val + (2 * v.val + 1) * Y.val * Y.val) % 8 = Z.val * Z.val % 8 → (Y.val % 2 = 0 ∧ Z.val % 2 = 0) ∨ (u.val * v.val + ((2 * v.val + 1) * (2 * v.val + 1) - 1) / 8) % 2 = 0) ∧
    (((2 * u.val + 1) * X.val * X.val + (2 * v.val + 1) * Y.val * Y.val) % 8 = 2 * Z.val * Z.val % 8 → (X.val % 2 = 0 ∧ Y.val % 2 = 0) ∨ (u.val * v.val + ((2 * v.val + 1) * (2 * v.val + 1) - 1) / 8 + ((2 * u.val + 1) * (2 * u.val + 1) - 1) / 8) % 2 = 0) := by decide +kernel
theorem hil2_one {k m : Nat} {u v X Y Z : Int} (hu : u % 2 = 1) (hv : v % 2 = 1) (hd : ¬ (X % 2 = 0 ∧ Y % 2 = 0 ∧ Z % 2 = 0)) (he : u * 2 ^ (k % 2) * (X * X) + v * 2 ^ (m % 2) * (Y * Y) = Z * Z) : hil2 k m (u % 8) (v % 8) = 1 := by
  obtain ⟨U, hU⟩ : ∃ U : Nat, u % 8 = 2 * (U : Int) + 1 := ⟨((u % 8) / 2).toNat, by omega⟩
  obtain ⟨V, hV⟩ : ∃ V : Nat, v % 8 = 2 * (V : Int) + 1 := ⟨((v % 8) / 2).toNat, by omega⟩
  obtain ⟨x, hx⟩ : ∃ x : Nat, X % 8 = (x : Int) := ⟨(X % 8).toNat, by omega⟩
  obtain ⟨y, hy⟩ : ∃ y : Nat, Y % 8 = (y : Int) := ⟨(Y % 8).toNat, by omega⟩
  obtain ⟨z, hz⟩ : ∃ z : Nat, Z % 8 = (z : Int) := ⟨(Z % 8).toNat, by omega⟩
  have sq8 : ∀ c t X x : Int, c % 8 = t → X % 8 = x → (c * (X * X)) % 8 = (t * x * x) % 8 := fun c t X x h1 h2 => by
    have e1 : c = t + 8 * (c / 8) := by have := Int.emod_add_mul_ediv c 8; omega
    have e2 : X = x + 8 * (X / 8) := by have := Int.emod_add_mul_ediv X 8; omega
    obtain ⟨a, ha⟩ : ∃ a, a = c / 8 := ⟨_, rfl⟩
    obtain ⟨b, hb⟩ : ∃ b, b = X / 8 := ⟨_, rfl⟩
    rw [← ha] at e1
    rw [← hb] at e2
    clear h1 h2 ha hb
    subst e1 e2
    rw [show (t + 8 * a) * ((x + 8 * b) * (x + 8 * b)) = t * x * x + 8 * (a * ((x + 8 * b) * (x + 8 * b)) + t * (2 * x * b + 8 * b * b)) by grind, Int.add_mul_emod_self_left]
  have add8 : ∀ a b c d : Int, a % 8 = b % 8 → c % 8 = d % 8 → (a + c) % 8 = (b + d) % 8 := fun a b c d h1 h2 => by omega
  have hdec := hil2_dec ⟨U, by omega⟩ ⟨V, by omega⟩ ⟨x, by omega⟩ ⟨y, by omega⟩ ⟨z, by omega⟩
  simp only at hdec
  obtain ⟨d1, d2, d3⟩ := hdec
  have d2' := (hil2_dec ⟨V, by omega⟩ ⟨U, by omega⟩ ⟨y, by omega⟩ ⟨x, by omega⟩ ⟨z, by omega⟩).2.1
  simp only at d2'
  obtain ⟨A, hA⟩ : ∃ A, A = (u % 8 - 1) / 2 * ((v % 8 - 1) / 2) := ⟨_, rfl⟩
  obtain ⟨B, hB⟩ : ∃ B, B = (v % 8 * (v % 8) - 1) / 8 := ⟨_, rfl⟩
  obtain ⟨C, hC⟩ : ∃ C, C = (u % 8 * (u % 8) - 1) / 8 := ⟨_, rfl⟩
  have eA : A = ((U * V : Nat) : Int) := by rw [hA, hU, hV]; rw [show (2 * (U : Int) + 1 - 1) / 2 = (U : Int) by omega, show (2 * (V : Int) + 1 - 1) / 2 = (V : Int) by omega]; simp
  have eB : B = ((((2 * V + 1) * (2 * V + 1) - 1) / 8 : Nat) : Int) := by rw [hB, hV]; have : 1 ≤ (2 * V + 1) * (2 * V + 1) := Nat.mul_le_mul (show 1 ≤ 2 * V + 1 by omega) (show 1 ≤ 2 * V + 1 by omega); rw [Int.natCast_ediv, Int.natCast_sub this]; simp
  have eC : C = ((((2 * U + 1) * (2 * U + 1) - 1) / 8 : Nat) : Int) := by rw [hC, hU]; have : 1 ≤ (2 * U + 1) * (2 * U + 1) := Nat.mul_le_mul (show 1 ≤ 2 * U + 1 by omega) (show 1 ≤ 2 * U + 1 by omega); rw [Int.natCast_ediv, Int.natCast_sub this]; simp
  have goal2 : ((A + (k : Int) * B + (m : Int) * C) % 2 = 0) → hil2 k m (u % 8) (v % 8) = 1 := fun h => by
    unfold hil2 sgn
    rw [← hA, ← hB, ← hC, if_pos h]
  have evk : ∀ (k : Nat) (B : Int), k % 2 = 0 → ((k : Int) * B) % 2 = 0 := fun k B h => by rw [Int.mul_emod, show (k : Int) % 2 = 0 by omega]; simp
  have odk : ∀ (k : Nat) (B : Int), k % 2 = 1 → ((k : Int) * B) % 2 = B % 2 := fun k B h => by rw [Int.mul_emod, show (k : Int) % 2 = 1 by omega]; simp
  have toN : ∀ a b : Nat, (a : Int) % 8 = (b : Int) % 8 → a % 8 = b % 8 := fun a b h => by omega
  have toN4 : ∀ a b : Nat, (a : Int) % 8 = (b : Int) % 8 → a % 4 = b % 4 := fun a b h => by omega
  have ev : ∀ (X : Int) (x : Nat), X % 8 = (x : Int) → x % 2 = 0 → X % 2 = 0 := fun X x h1 h2 => by omega
  apply goal2
  rcases (show k % 2 = 0 ∨ k % 2 = 1 by omega) with hk | hk <;> rcases (show m % 2 = 0 ∨ m % 2 = 1 by omega) with hm | hm
  · have h1 := evk k B hk
    have h2 := evk m C hm
    rw [hk, hm, Int.pow_zero, Int.mul_one, Int.mul_one] at he
    have h3 := add8 _ _ _ _ (sq8 u _ X _ hU hx) (sq8 v _ Y _ hV hy)
    rw [he] at h3
    have h4 := sq8 1 1 Z _ (by decide) hz
    rw [Int.one_mul, Int.one_mul] at h4
    rcases d1 (toN4 _ _ (by push_cast; omega)) with h5 | h5
    · exact absurd ⟨ev X x hx h5.1, ev Y y hy h5.2.1, ev Z z hz h5.2.2⟩ hd
    · omega
  · have h1 := evk k B hk
    have h2 := odk m C hm
    rw [hk, hm, Int.pow_zero, Int.mul_one, Int.pow_succ, Int.pow_zero, Int.one_mul] at he
    have h3 := add8 _ _ _ _ (sq8 u _ X _ hU hx) (sq8 (v * 2) (2 * (2 * (V : Int) + 1) % 8) Y _ (by omega) hy)
    rw [he] at h3
    have h4 := sq8 1 1 Z _ (by decide) hz
    rw [Int.one_mul, Int.one_mul] at h4
    have h6 := sq8 (2 * (2 * (V : Int) + 1)) _ (y : Int) _ rfl (Int.emod_eq_of_lt (by omega) (by omega) : (y : Int) % 8 = y)
    rcases d2' (toN _ _ (by push_cast; rw [← Int.mul_assoc] at h6; omega)) with h5 | h5
    · have e1 := ev X x hx h5.1
      have e2 := ev Z z hz h5.2
      exfalso
      obtain ⟨a, rfl⟩ : ∃ a, X = 2 * a := ⟨X / 2, by omega⟩
      obtain ⟨b, rfl⟩ : ∃ b, Z = 2 * b := ⟨Z / 2, by omega⟩
      have h7 : 2 * (v * (Y * Y)) = 2 * (2 * (b * b - u * (a * a))) := by grind
      have h8 : (v * (Y * Y)) % 2 = 0 := by omega
      rw [Int.mul_emod, hv, Int.mul_emod Y] at h8
      rcases (show Y % 2 = 0 ∨ Y % 2 = 1 by omega) with h9 | h9
      · exact hd ⟨by omega, h9, by omega⟩
      · rw [h9] at h8; simp at h8
    · rw [Nat.mul_comm] at h5; omega
  · have h1 := odk k B hk
    have h2 := evk m C hm
    rw [hk, hm, Int.pow_zero, Int.mul_one, Int.pow_succ, Int.pow_zero, Int.one_mul] at he
    have h3 := add8 _ _ _ _ (sq8 (u * 2) (2 * (2 * (U : Int) + 1) % 8) X _ (by omega) hx) (sq8 v _ Y _ hV hy)
    rw [he] at h3
    have h4 := sq8 1 1 Z _ (by decide) hz
    rw [Int.one_mul, Int.one_mul] at h4
    have h6 := sq8 (2 * (2 * (U : Int) + 1)) _ (x : Int) _ rfl (Int.emod_eq_of_lt (by omega) (by omega) : (x : Int) % 8 = x)
    rcases d2 (toN _ _ (by push_cast; rw [← Int.mul_assoc] at h6; omega)) with h5 | h5
    · have e1 := ev Y y hy h5.1
      have e2 := ev Z z hz h5.2
      exfalso
      obtain ⟨a, rfl⟩ : ∃ a, Y = 2 * a := ⟨Y / 2, by omega⟩
      obtain ⟨b, rfl⟩ : ∃ b, Z = 2 * b := ⟨Z / 2, by omega⟩
      have h7 : 2 * (u * (X * X)) = 2 * (2 * (b * b - v * (a * a))) := by grind
      have h8 : (u * (X * X)) % 2 = 0 := by omega
      rw [Int.mul_emod, hu, Int.mul_emod X] at h8
      rcases (show X % 2 = 0 ∨ X % 2 = 1 by omega) with h9 | h9
      · exact hd ⟨h9, by omega, by omega⟩
      · rw [h9] at h8; simp at h8
    · omega
  · have h1 := odk k B hk
    have h2 := odk m C hm
    rw [hk, hm, Int.pow_succ, Int.pow_zero, Int.one_mul] at he
    have hZ : Z % 2 = 0 := by
      have h8 : (Z * Z) % 2 = 0 := by rw [← he, show u * 2 * (X * X) + v * 2 * (Y * Y) = 2 * (u * (X * X) + v * (Y * Y)) by grind]; omega
      rcases (show Z % 2 = 0 ∨ Z % 2 = 1 by omega) with h9 | h9
      · exact h9
      · rw [Int.mul_emod, h9] at h8; simp at h8
    obtain ⟨b, rfl⟩ : ∃ b, Z = 2 * b := ⟨Z / 2, by omega⟩
    have he2 : u * (X * X) + v * (Y * Y) = 2 * (b * b) := by
      have : 2 * (u * (X * X) + v * (Y * Y)) = 2 * (2 * (b * b)) := by grind
      omega
    obtain ⟨z', hz'⟩ : ∃ z : Nat, b % 8 = (z : Int) := ⟨(b % 8).toNat, by omega⟩
    have d3' := (hil2_dec ⟨U, by omega⟩ ⟨V, by omega⟩ ⟨x, by omega⟩ ⟨y, by omega⟩ ⟨z', by omega⟩).2.2
    simp only at d3'
    have h3 := add8 _ _ _ _ (sq8 u _ X _ hU hx) (sq8 v _ Y _ hV hy)
    rw [he2] at h3
    have h4 := sq8 2 2 b _ (by decide) hz'
    rcases d3' (toN _ _ (by push_cast; omega)) with h5 | h5
    · exact absurd ⟨ev X x hx h5.1, ev Y y hy h5.2, hZ⟩ hd
    · omega
end Go.Proofs.Ytdeehgcabnoclaa

/- Small laws on worlds: 'aft w u' is u where u is w with new blocks and draws, else w. They let a walk see through a call of which only 'Below' is known. -/
namespace Go.Proofs.Ytdeehgcabnoclaa
open Go Go.RowKit

theorem hid {p : Prop} (h : p) : Hid p := h

open Classical in
noncomputable def aft (w u : World) : World := if Below w.heap.size w u then u else w

theorem aft_of {w u : World} (h : Below w.heap.size w u) : aft w u = u := by unfold aft; rw [if_pos h]
theorem below_aft (w u : World) : Below w.heap.size w (aft w u) := by
  unfold aft; split
  · assumption
  · exact Below.refl _ _
theorem aft_ex {w w' : World} (h : Below w.heap.size w w') : ∃ u, w' = aft w u := ⟨w', (aft_of h).symm⟩
theorem size_aft (w u : World) : w.heap.size ≤ (aft w u).heap.size := (below_aft w u).size
theorem lt_aft {w u : World} {b : Nat} (h : b < w.heap.size) : b < (aft w u).heap.size := Nat.lt_of_lt_of_le h (size_aft w u)
theorem le_aft {w u : World} {b : Nat} (h : b ≤ w.heap.size) : b ≤ (aft w u).heap.size := Nat.le_trans h (size_aft w u)
/-- What a cell of a block that came later holds: never looked into. -/
noncomputable def nwC (w u : World) (b o : Nat) : Option Value := (aft w u).cell? ⟨b, o, none⟩
noncomputable def nwF (w u : World) (b o : Nat) : Bool := (aft w u).frozen? ⟨b, o, none⟩
theorem aft_cell (w u : World) (b o : Nat) : (aft w u).cell? ⟨b, o, none⟩ = if b < w.heap.size then w.cell? ⟨b, o, none⟩ else nwC w u b o := by
  split
  · exact (below_aft w u).cell (p := ⟨b, o, none⟩) ‹_›
  · rfl
theorem aft_frozen (w u : World) (b o : Nat) : (aft w u).frozen? ⟨b, o, none⟩ = if b < w.heap.size then w.frozen? ⟨b, o, none⟩ else nwF w u b o := by
  split
  · exact (below_aft w u).frozen (p := ⟨b, o, none⟩) ‹_›
  · rfl
theorem alloc_cell (w : World) (c : Array Value) (t : TypeId) (b o : Nat) : (w.alloc (.cells c t)).cell? ⟨b, o, none⟩ = if b = w.heap.size then c[o]? else w.cell? ⟨b, o, none⟩ := by
  split
  · rename_i h; subst h; exact World.cell?_alloc_new w c t o
  · exact World.cell?_alloc_old w _ ⟨b, o, none⟩ ‹_›
theorem alloc_frozen (w : World) (c : Array Value) (t : TypeId) (b o : Nat) : (w.alloc (.cells c t)).frozen? ⟨b, o, none⟩ = if b = w.heap.size then false else w.frozen? ⟨b, o, none⟩ := by
  split
  · rename_i h; subst h; exact World.frozen?_alloc_new w c t o
  · exact World.frozen?_alloc_old w _ ⟨b, o, none⟩ ‹_›
theorem set_cell (w : World) (b o b' o' : Nat) (v : Value) : (w.setCell ⟨b, o, none⟩ v).cell? ⟨b', o', none⟩ = if b = b' ∧ o = o' then (w.cell? ⟨b, o, none⟩).map (fun _ => v) else w.cell? ⟨b', o', none⟩ := by
  split
  · rename_i h
    obtain ⟨rfl, rfl⟩ := h
    cases hc : w.cell? ⟨b, o, none⟩ with
    | none =>
      have e : (w.setCell ⟨b, o, none⟩ v).cell? ⟨b, o, none⟩ = none := by
        unfold World.cell? at hc ⊢
        simp only [World.setCell, Array.getElem?_modify]
        cases hb : w.heap[b]? with
        | none => simp
        | some x => rw [hb] at hc; cases x <;> simp at hc ⊢ <;> omega
      rw [e]; rfl
    | some x => exact World.cell?_setCell_same w _ v hc
  · rename_i h
    refine World.cell?_setCell_other w _ _ v ?_
    intro e
    injection e with e1 e2
    exact h ⟨e1, e2⟩
attribute [go_sem] aft_cell aft_frozen alloc_cell alloc_frozen set_cell

/-- 'Below', and no block has gone: closed under each step of a walk. -/
def Ext (B : Nat) (w W : World) : Prop := Below B w W ∧ B ≤ W.heap.size
theorem Ext.refl (w : World) : Ext w.heap.size w w := ⟨Below.refl _ _, Nat.le_refl _⟩
theorem Ext.alloc {B : Nat} {w W : World} (h : Ext B w W) (o : Obj) : Ext B w (W.alloc o) := ⟨h.1.alloc h.2 o, by have := h.2; simp; omega⟩
theorem Ext.aft {B : Nat} {w W : World} (h : Ext B w W) (u : World) : Ext B w (aft W u) := ⟨h.1.trans ((below_aft W u).mono h.2), le_aft h.2⟩
theorem Ext.drew {B : Nat} {w W : World} (h : Ext B w W) : Ext B w W.drew := ⟨h.1.drew, h.2⟩
theorem Ext.drewN {B : Nat} {w W : World} (h : Ext B w W) (n : Nat) : Ext B w (W.drewN n) := ⟨below_drewN h.1 n, h.2⟩
theorem Ext.setCell {B : Nat} {w W : World} (h : Ext B w W) (b o : Nat) (k : Option Nat) (v : Value) (hb : B ≤ b) : Ext B w (W.setCell ⟨b, o, k⟩ v) := ⟨h.1.setCell (p := ⟨b, o, k⟩) hb v, by have := h.2; simp [World.setCell]; omega⟩
theorem Ext.bel {w W : World} (h : Ext w.heap.size w W) : Below w.heap.size w W := h.1
theorem Ext.below {w W W' : World} (h : Ext w.heap.size w W) (k : Below W.heap.size W W') : Ext w.heap.size w W' := ⟨h.1.trans (k.mono h.2), Nat.le_trans h.2 k.size⟩

/-- A call of which the value is known, and that the world has at most grown. -/
theorem via {P : Program} {f : FuncId} {args : Array Value} {w : World} {v : Value} {R : Ending → World → Prop}
    (h : Calls P f args w fun e w' => e = .returned v ∧ Below w.heap.size w w') (hR : ∀ u, w.heap.size ≤ (aft w u).heap.size → R (.returned v) (aft w u)) : Calls P f args w R :=
  h.mono fun e w' ⟨he, hb⟩ => by subst he; obtain ⟨u, rfl⟩ := aft_ex hb; exact hR u (size_aft w u)
/-- A call of which the value is known, and that the world is as it was. -/
theorem pur {P : Program} {f : FuncId} {args : Array Value} {w : World} {v : Value} {R : Ending → World → Prop}
    (h : Calls P f args w fun e w' => e = .returned v ∧ w = w') (hR : R (.returned v) w) : Calls P f args w R :=
  h.mono fun e w' ⟨he, hb⟩ => by subst he; subst hb; exact hR
/-- The first as the second's weaker form. -/
theorem weak {P : Program} {f : FuncId} {args : Array Value} {w : World} {v : Value}
    (h : Calls P f args w fun e w' => e = .returned v ∧ w = w') : Calls P f args w fun e w' => e = .returned v ∧ Below w.heap.size w w' :=
  h.mono fun e w' ⟨he, hb⟩ => ⟨he, by subst hb; exact Below.refl _ _⟩

/-- A region that draws its order, whose operations read what was there at its beginning, and whose calls at most make memory: ONE walk, in the order of the text. -/
theorem wp_region_calm {P : Program} {id : Nat} {Q : Exit → Act → World → Prop} {a : Act} {w : World} {l : List Oper} (hm : P.follows .mixedOrders = true) (hB : Region.lexB .any l.toArray = true)
    (h : wpQuiet P l.toArray (fun w' => ∃ u, w' = aft w u) (fun a' => ∀ u, w.heap.size ≤ (aft w u).heap.size → Q .normal a' (aft w u)) l a) : (Code.region id l.toArray true).wp P Q a w :=
  wp_region_quiet (C := fun w' => ∃ u, w' = aft w u) hm hB (aft_ex (Below.drew (Below.refl w.heap.size w))) (by
    have e : (fun a' => ∀ u, w.heap.size ≤ (aft w u).heap.size → Q .normal a' (aft w u)) = (fun a' => ∀ w', (∃ u, w' = aft w u) → Q .normal a' w') := by
      funext a'; refine propext ⟨fun k w' ⟨u, hu⟩ => ?_, fun k u _ => k _ ⟨u, rfl⟩⟩
      subst hu; exact k u (size_aft w u)
    rw [e] at h
    simpa using h)
theorem calm {P : Program} {f : FuncId} {args : Array Value} {w u : World} {v : Value}
    (h : Calls P f args (aft w u) fun e w' => e = .returned v ∧ Below (aft w u).heap.size (aft w u) w') : Calls P f args (aft w u) fun e w'' => e = .returned v ∧ ∃ u', w'' = aft w u' :=
  h.mono fun _ _ ⟨he, hb⟩ => ⟨he, aft_ex ((below_aft w u).trans (hb.mono (size_aft w u)))⟩
theorem calmb {P : Program} {f : FuncId} {args : Array Value} {w u : World} {b c : Bool}
    (h : Calls P f args (aft w u) fun e w' => e = .returned (.bool b) ∧ Below (aft w u).heap.size (aft w u) w') (hb : b = c) : Calls P f args (aft w u) fun e w'' => e = .returned (.bool c) ∧ ∃ u', w'' = aft w u' :=
  by subst hb; exact calm h
theorem calmp {P : Program} {f : FuncId} {args : Array Value} {w u : World} {v : Value}
    (h : Calls P f args (aft w u) fun e w' => e = .returned v ∧ aft w u = w') : Calls P f args (aft w u) fun e w'' => e = .returned v ∧ ∃ u', w'' = aft w u' := calm (weak h)
theorem calmpb {P : Program} {f : FuncId} {args : Array Value} {w u : World} {b c : Bool}
    (h : Calls P f args (aft w u) fun e w' => e = .returned (.bool b) ∧ aft w u = w') (hb : b = c) : Calls P f args (aft w u) fun e w'' => e = .returned (.bool c) ∧ ∃ u', w'' = aft w u' := calmb (weak h) hb
end Go.Proofs.Ytdeehgcabnoclaa

/- Contracts of the smallest number functions. -/
namespace Go.Proofs.Ytdeehgcabnoclaa
open Go Go.RowKit

def inB (n a b : Int) : Bool := decide (a ≤ n) && decide (n ≤ b)
theorem inB_t {n a b : Int} (h1 : a ≤ n) (h2 : n ≤ b) : inB n a b = true := by simp [inB, *]
theorem inB_l {n a b : Int} (h1 : n < a) : inB n a b = false := by simp [inB]; intro; omega
theorem inB_r {n a b : Int} (h1 : b < n) : inB n a b = false := by simp [inB]; intro; omega
theorem inB_iff {n a b : Int} : inB n a b = true ↔ a ≤ n ∧ n ≤ b := by simp [inB]

set_option maxHeartbeats 400000 in
theorem i_within (n a b : Int) (w : World) :
    Calls Try.prog 24 #[.int .i64 n, .int .i64 a, .int .i64 b] w fun e w' => e = .returned (.bool (inB n a b)) ∧ w = w' := by
  by_cases h1 : a ≤ n
  · by_cases h2 : n ≤ b
    · rw [inB_t h1 h2]; go_enter Try.func24, Try.ntmps24
      go_wp2
      go_ret
      exact ⟨rfl, rfl⟩
    · rw [inB_r (by omega)]; go_enter Try.func24, Try.ntmps24
      go_wp2
      go_ret
      exact ⟨rfl, rfl⟩
  · rw [inB_l (by omega)]; go_enter Try.func24, Try.ntmps24
    go_wp2
    go_ret
    exact ⟨rfl, rfl⟩

set_option maxHeartbeats 400000 in
theorem i_isPlace (n : Int) (w : World) :
    Calls Try.prog 49 #[.int .i64 n] w fun e w' => e = .returned (.bool (inB n (-60) 60)) ∧ w = w' := by
  go_enter Try.func49, Try.ntmps49
  go_wp2_with (go_at_call 24; refine (i_within _ _ _ _).mono ?_; rintro e w' ⟨rfl, rfl⟩)
  go_ret
  exact ⟨rfl, rfl⟩
end Go.Proofs.Ytdeehgcabnoclaa

/- Contracts: primes. -/
namespace Go.Proofs.Ytdeehgcabnoclaa
open Go Go.RowKit

set_option maxHeartbeats 400000 in
theorem i_IsPrime (n : Int) (w : World) :
    Calls Try.prog 68 #[.int .i64 n] w fun e w' => e = .returned (.bool (primeB n)) ∧ w = w' := by
  by_cases h1 : 2 ≤ n ∧ n ≤ 1000000
  · obtain ⟨h1, h2⟩ := h1
    rw [primeB_in h1 h2]
    have hin := inB_t h1 h2
    go_enter Try.func68, Try.ntmps68
    go_wp2_with (go_at_call 24; refine (i_within _ _ _ _).mono ?_; rintro e w' ⟨rfl, rfl⟩)
    go_loop [3] (fun d => ∃ k : Nat, 2 ≤ k ∧ k ≤ 1001 ∧ d = .int .i64 k ∧ ∀ j : Nat, 2 ≤ j → j < k → n % (j : Int) ≠ 0) (fun d => 1001 - (intOf d).toNat)
    case atStart => exact ⟨2, by omega, by omega, rfl, by omega⟩
    case round =>
      obtain ⟨k, hk2, hk, rfl, hj⟩ := hrel
      have hq := sq_bd hk
      by_cases hlt : (k : Int) * k ≤ n
      · have hk3 := sq_lt h2 hlt
        by_cases hm : n % (k : Int) = 0
        · have HF := hid (noDiv_f hk2 hlt h2 hm)
          have hm' : (n % (k : Int) == 0) = true := by simp [hm]
          clear hm hj
          go_wp2
          go_ret
          exact ⟨by rw [HF.out]; rfl, rfl⟩
        · have hm' : (n % (k : Int) == 0) = false := by simp [hm]
          have Hj := hid hj
          clear hj
          have Hm := hid hm
          clear hm
          go_wp2
          go_round
          case rel => exact ⟨k + 1, by omega, by omega, by go_num, fun j a b => by rcases Nat.lt_or_ge j k with h | h; (exact Hj.out j a h); (obtain rfl : j = k := by omega); exact Hm.out⟩
          case measure => simp [intOf]; omega
      · have HF := hid (noDiv_t hj (by omega))
        clear hj
        go_wp2
        go_ret
        exact ⟨by rw [HF.out]; rfl, rfl⟩
  · rw [primeB_out (by omega)]
    have hin : inB n 2 1000000 = false := by
      rcases Int.lt_or_le n 2 with h | h
      · exact inB_l h
      · exact inB_r (by omega)
    go_enter Try.func68, Try.ntmps68
    go_wp2_with (go_at_call 24; refine (i_within _ _ _ _).mono ?_; rintro e w' ⟨rfl, rfl⟩)
    go_ret
    exact ⟨rfl, rfl⟩
end Go.Proofs.Ytdeehgcabnoclaa

/- Contracts: remainders, powers, valuations, common divisors. -/
namespace Go.Proofs.Ytdeehgcabnoclaa
open Go Go.RowKit

theorem ret_i {a b : Int} (h : a = b) : Ending.returned (.int .i64 a) = .returned (.int .i64 b) := by rw [h]
theorem ret_b {a b : Bool} (h : a = b) : Ending.returned (.bool a) = .returned (.bool b) := by rw [h]

set_option maxHeartbeats 400000 in
theorem i_mod (n m : Int) (w : World) (h1 : 1 ≤ m) (h2 : m ≤ 4000000000000000000) :
    Calls Try.prog 65 #[.int .i64 n, .int .i64 m] w fun e w' => e = .returned (.int .i64 (n % m)) ∧ w = w' := by
  have hb := @tmod_bd n m (by omega)
  have HF := hid (@mod_fix n m (by omega))
  go_enter Try.func65, Try.ntmps65
  go_wp2
  go_ret
  exact ⟨ret_i HF.out, rfl⟩
set_option maxHeartbeats 400000 in
theorem s_mod (n m : Int) (w : World) (h1 : 1 ≤ m) (h2 : m ≤ 4000000000000000000) :
    Calls Try.prog 41 #[.int .i64 n, .int .i64 m] w fun e w' => e = .returned (.int .i64 (n % m)) ∧ w = w' := by
  have hb := @tmod_bd n m (by omega)
  have HF := hid (@mod_fix n m (by omega))
  go_enter Try.func41, Try.ntmps41
  go_wp2
  go_ret
  exact ⟨ret_i HF.out, rfl⟩

set_option maxHeartbeats 400000 in
theorem i_val (n p : Int) (w : World) (hp : 2 ≤ p) (hp2 : p ≤ 1000000) (hn : n ≠ 0) (hb : -4000000000000000000 ≤ n ∧ n ≤ 4000000000000000000) :
    Calls Try.prog 63 #[.int .i64 n, .int .i64 p] w fun e w' => e = .returned (.int .i64 (vl n p)) ∧ w = w' := by
  have Hn := hid hn
  clear hn
  go_enter Try.func63, Try.ntmps63
  go_wp2_with fail
  go_loop [0, 5] (fun s v => ∃ (c : Int) (k : Nat), s = .int .i64 c ∧ v = .int .i64 k ∧ n = c * p ^ k ∧ k + c.natAbs ≤ n.natAbs) (fun s _ => (intOf s).natAbs)
  case atStart => exact ⟨n, 0, rfl, rfl, by simp, by omega⟩
  case round =>
    obtain ⟨c, k, rfl, rfl, he, hk⟩ := hrel
    have h0 : c ≠ 0 := fun h => Hn.out (by rw [he, h]; simp)
    have hm1 := @tmod_bd c p (by omega)
    by_cases hm : c % p = 0
    · have hd : c / p * p = c := Int.ediv_mul_cancel (Int.dvd_of_emod_eq_zero hm)
      have ht : c.tdiv p = c / p := Int.tdiv_eq_ediv_of_dvd (Int.dvd_of_emod_eq_zero hm)
      have h1 : c / p ≠ 0 := fun h' => h0 (by rw [← hd, h']; simp)
      have h2 : c.natAbs = (c / p).natAbs * p.natAbs := by rw [← Int.natAbs_mul, hd]
      have h3 := Nat.mul_le_mul (Nat.le_refl (c / p).natAbs) (show 2 ≤ p.natAbs by omega)
      have hz : (c.tmod p == 0) = true := by rw [beq_iff_eq, tmod_zero_iff]; exact hm
      have He := hid he
      have Hd := hid hd
      have H4 : (c / p).natAbs < c.natAbs := by omega
      have hq : -4000000000000000000 ≤ c.tdiv p ∧ c.tdiv p ≤ 4000000000000000000 := by rw [ht]; omega
      have Ht := hid ht
      clear hm he hd h2 h3 ht h0 h1
      go_wp2
      go_round
      case rel => exact ⟨c / p, k + 1, by rw [Ht.out], by go_num, by rw [He.out, Int.pow_succ, ← Int.mul_assoc, Int.mul_right_comm, Hd.out], by omega⟩
      case measure => simp only [intOf]; rw [Ht.out]; omega
    · have hz : (c.tmod p == 0) = false := by rw [beq_eq_false_iff_ne]; exact fun h => hm (tmod_zero_iff.1 h)
      have HF := hid (vl_eq hp he hm)
      clear he hm h0
      go_wp2
      go_ret
      exact ⟨ret_i (by rw [HF.out]), rfl⟩
set_option maxHeartbeats 400000 in
theorem i_power (n e : Int) (w : World) (hn : 1 ≤ n) (he : e ≤ 4000000000000000000) (hb : n ^ e.toNat ≤ 4000000000000000000) :
    Calls Try.prog 64 #[.int .i64 n, .int .i64 e] w fun e1 w' => e1 = .returned (.int .i64 (n ^ e.toNat)) ∧ w = w' := by
  obtain ⟨P, hP⟩ : ∃ P, P = n ^ e.toNat := ⟨_, rfl⟩
  have hst := fun k (hk : k < e.toNat) => pow_step hn hb hk
  rw [← hP]
  have Hst := hid hst
  have HP := hid hP
  clear hst hP hb
  go_enter Try.func64, Try.ntmps64
  go_wp2_with fail
  go_loop [5, 7] (fun o i => ∃ k : Nat, k ≤ e.toNat ∧ i = .int .i64 k ∧ o = .int .i64 (n ^ k)) (fun _ i => e.toNat - (intOf i).toNat)
  case atStart => exact ⟨0, by omega, rfl, by simp⟩
  case round =>
    obtain ⟨k, hk, rfl, rfl⟩ := hrel
    by_cases hlt : (k : Int) < e
    · have hk2 : k < e.toNat := by omega
      have h := Hst.out k hk2
      go_wp2
      go_round
      case rel => exact ⟨k + 1, by omega, by go_num, by rw [Int.pow_succ]⟩
      case measure => simp [intOf]; omega
    · have e1 : k = e.toNat := by omega
      have He := hid e1
      clear e1
      go_wp2
      go_ret
      exact ⟨ret_i (by rw [HP.out, He.out]), rfl⟩
end Go.Proofs.Ytdeehgcabnoclaa
