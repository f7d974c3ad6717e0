/- Plain: all roots in a ring, by the statement's recursion; sorted. -/
import Derived.Test.YtdhnpmjoajaeiaaSB
namespace Go.Proofs.Ytdhnpmjoajaeiaa
open Go Go.RowKit

theorem fm_congr {α β : Type} {l : List α} {f g : α → List β} (h : ∀ x ∈ l, f x = g x) : l.flatMap f = l.flatMap g := by
  induction l with
  | nil => rfl
  | cons a l ih => rw [List.flatMap_cons, List.flatMap_cons, h a (by simp), ih (fun x hx => h x (by simp [hx]))]
def progB (p : Int) (N : Nat) (b : Int × Nat) : List Int := (List.range (p ^ (N - b.2)).toNat).map fun (i : Nat) => b.1 + (i : Int) * p ^ b.2
theorem mem_progB {p : Int} {N : Nat} {b : Int × Nat} (hp : 2 ≤ p) (hN : b.2 ≤ N) (hb : 0 ≤ b.1 ∧ b.1 < p ^ b.2) (x : Int) : x ∈ progB p N b ↔ (0 ≤ x ∧ x < p ^ N) ∧ p ^ b.2 ∣ x - b.1 := by
  have hq : 0 < p ^ b.2 := Int.pow_pos (by omega)
  have hr : 0 < p ^ (N - b.2) := Int.pow_pos (by omega)
  have e : p ^ N = p ^ (N - b.2) * p ^ b.2 := by rw [← Int.pow_add]; congr 1; omega
  simp only [progB, List.mem_map, List.mem_range]
  constructor
  · rintro ⟨i, hi, rfl⟩
    have h1 := Int.mul_nonneg (show (0 : Int) ≤ (i : Int) by omega) (show 0 ≤ p ^ b.2 by omega)
    have h2 := Int.mul_le_mul_of_nonneg_right (show (i : Int) ≤ p ^ (N - b.2) - 1 by omega) (show 0 ≤ p ^ b.2 by omega)
    have h3 : (p ^ (N - b.2) - 1) * p ^ b.2 = p ^ N - p ^ b.2 := by rw [e]; grind
    exact ⟨⟨by omega, by omega⟩, by rw [show b.1 + (i : Int) * p ^ b.2 - b.1 = (i : Int) * p ^ b.2 by omega]; exact Int.dvd_mul_left _ _⟩
  · rintro ⟨⟨h1, h2⟩, ⟨z, hz⟩⟩
    have hz0 : 0 ≤ z := by
      rcases Int.lt_or_le z 0 with h | h
      · have := Int.mul_le_mul_of_nonneg_left (show z ≤ -1 by omega) (show 0 ≤ p ^ b.2 by omega); omega
      · exact h
    have hz1 : z < p ^ (N - b.2) := by
      rcases Int.lt_or_le z (p ^ (N - b.2)) with h | h
      · exact h
      · have := Int.mul_le_mul_of_nonneg_left h (show 0 ≤ p ^ b.2 by omega)
        have e2 : p ^ b.2 * p ^ (N - b.2) = p ^ N := by rw [e]; grind
        omega
    exact ⟨z.toNat, by omega, by rw [show ((z.toNat : Nat) : Int) = z by omega, Int.mul_comm]; omega⟩
theorem progB_ne {p : Int} (hp : 2 ≤ p) (N : Nat) (b : Int × Nat) : (progB p N b).Pairwise (· ≠ ·) := by
  have hq : 0 < p ^ b.2 := Int.pow_pos (by omega)
  unfold progB
  rw [List.pairwise_map]
  refine List.nodup_range.imp fun {i j} h e => h ?_
  have e2 : (i : Int) * p ^ b.2 = (j : Int) * p ^ b.2 := by omega
  have := Int.eq_of_mul_eq_mul_right (show p ^ b.2 ≠ 0 by omega) e2
  omega
/-- All roots, ball by ball. -/
def rootsB (p : Int) (N : Nat) (f : List Int) : List Int := (ballsF p (N + 1) f N 0 0).flatMap (progB p N)
theorem balls_all {p : Int} {N : Nat} (hp : 2 ≤ p) (hN : 1 ≤ N) (f : List Int) :
    (∀ b ∈ ballsF p (N + 1) f N 0 0, b.2 ≤ N ∧ 0 ≤ b.1 ∧ b.1 < p ^ b.2) ∧ (∀ x, x ∈ rootsB p N f ↔ (0 ≤ x ∧ x < p ^ N) ∧ p ^ N ∣ ev f x) ∧ (rootsB p N f).Pairwise (· ≠ ·) := by
  obtain ⟨h1, h2, h3⟩ := balls_spec hp (N + 1) f N 0 0 hN (.inr (Nat.le_refl _)) ⟨by omega, by simp⟩
  have hb : ∀ b ∈ ballsF p (N + 1) f N 0 0, b.2 ≤ N ∧ 0 ≤ b.1 ∧ b.1 < p ^ b.2 := fun b hb => by
    obtain ⟨_, k2, _, k4, _⟩ := h1 b hb
    exact ⟨by omega, k4.1, k4.2⟩
  refine ⟨hb, fun x => ?_, ?_⟩
  · unfold rootsB
    rw [List.mem_flatMap]
    have h2x := h2 x
    rw [Int.pow_zero, Int.one_mul, Int.zero_add] at h2x
    constructor
    · rintro ⟨b, hbm, hx⟩
      obtain ⟨k1, k2⟩ := hb b hbm
      obtain ⟨hx1, hx2⟩ := (mem_progB hp k1 k2 x).1 hx
      exact ⟨hx1, h2x.2 ⟨b, hbm, hx2⟩⟩
    · rintro ⟨hx1, hx2⟩
      obtain ⟨b, hbm, hx⟩ := h2x.1 hx2
      obtain ⟨k1, k2⟩ := hb b hbm
      exact ⟨b, hbm, (mem_progB hp k1 k2 x).2 ⟨hx1, hx⟩⟩
  · unfold rootsB
    rw [List.pairwise_flatMap]
    refine ⟨fun b _ => progB_ne hp N b, ?_⟩
    refine List.Pairwise.imp_of_mem ?_ h3
    intro b b' hbm hbm' hd x hx y hy e
    subst e
    obtain ⟨k1, k2⟩ := hb b hbm
    obtain ⟨k3, k4⟩ := hb b' hbm'
    exact hd x ((mem_progB hp k1 k2 x).1 hx).2 ((mem_progB hp k3 k4 x).1 hy).2
/-- All roots, as the statement finds them. -/
def rootsD (p : Int) (N : Nat) (f : List Int) : Nat → Int → List Int
  | 0, x => if valF (p ^ N) x f = 0 then [x] else []
  | t + 1, x => (List.range p.toNat).flatMap fun (d : Nat) => if valF (p ^ (N - t)) (x + (d : Int) * p ^ (N - t - 1)) f = 0 then rootsD p N f t (x + (d : Int) * p ^ (N - t - 1)) else []
theorem rootsD_spec {p : Int} {N : Nat} (hp : 2 ≤ p) (f : List Int) : ∀ (t : Nat) (x : Int), t ≤ N → (0 ≤ x ∧ x < p ^ (N - t)) →
    (∀ z, z ∈ rootsD p N f t x ↔ ((0 ≤ z ∧ z < p ^ N) ∧ p ^ N ∣ ev f z) ∧ p ^ (N - t) ∣ z - x) ∧ (rootsD p N f t x).Pairwise (· ≠ ·) := by
  intro t
  induction t with
  | zero =>
    intro x _ hx
    rw [Nat.sub_zero] at hx ⊢
    unfold rootsD
    rw [ev_mod]
    have hsame : ∀ z, (0 ≤ z ∧ z < p ^ N) → p ^ N ∣ z - x → z = x := fun z hz hd => by
      have h1 := Int.emod_eq_emod_iff_emod_sub_eq_zero.2 (Int.emod_eq_zero_of_dvd hd)
      rwa [Int.emod_eq_of_lt hz.1 hz.2, Int.emod_eq_of_lt hx.1 hx.2] at h1
    split
    · rename_i h0
      refine ⟨fun z => ⟨fun hz => ?_, fun hz => ?_⟩, by simp⟩
      · obtain rfl : z = x := by simpa using hz
        exact ⟨⟨hx, Int.dvd_of_emod_eq_zero h0⟩, by rw [Int.sub_self]; exact Int.dvd_zero _⟩
      · simp [hsame z hz.1.1 hz.2]
    · rename_i h0
      refine ⟨fun z => ⟨fun hz => by simp at hz, fun hz => ?_⟩, by simp⟩
      have := hsame z hz.1.1 hz.2
      subst this
      exact absurd (Int.emod_eq_zero_of_dvd hz.1.2) h0
  | succ t ih =>
    intro x ht hx
    obtain ⟨n, hn⟩ : ∃ n, n = N - t - 1 := ⟨_, rfl⟩
    have hn1 : N - t = n + 1 := by omega
    have hn2 : N - (t + 1) = n := by omega
    rw [hn2] at hx ⊢
    unfold rootsD
    rw [hn1, Nat.add_sub_cancel]
    have hq : 0 < p ^ n := Int.pow_pos (by omega)
    have hqq : p ^ (n + 1) = p ^ n * p := Int.pow_succ _ _
    have hy : ∀ d : Nat, d < p.toNat → 0 ≤ x + (d : Int) * p ^ n ∧ x + (d : Int) * p ^ n < p ^ (N - t) := fun d hd => by
      have h1 := Int.mul_nonneg (show (0 : Int) ≤ (d : Int) by omega) (show 0 ≤ p ^ n by omega)
      have h2 := Int.mul_le_mul_of_nonneg_right (show (d : Int) ≤ p - 1 by omega) (show 0 ≤ p ^ n by omega)
      have h3 : (p - 1) * p ^ n = p ^ n * p - p ^ n := by grind
      rw [hn1, hqq]
      omega
    constructor
    · intro z
      rw [List.mem_flatMap]
      constructor
      · rintro ⟨d, hd, hz⟩
        have hd' := List.mem_range.1 hd
        split at hz
        · obtain ⟨h1, h2⟩ := ((ih _ (by omega) (hy d hd')).1 z).1 hz
          refine ⟨h1, ?_⟩
          rw [hn1] at h2
          have := Int.dvd_add (Int.dvd_trans (pow_dvd' p (show n ≤ n + 1 by omega)) h2) (Int.dvd_mul_left (d : Int) (p ^ n))
          rwa [show z - (x + (d : Int) * p ^ n) + (d : Int) * p ^ n = z - x by omega] at this
        · simp at hz
      · rintro ⟨h1, ⟨c, hc⟩⟩
        -- the next digit
        obtain ⟨d, hd⟩ : ∃ d, d = c % p := ⟨_, rfl⟩
        have hd0 : 0 ≤ d := by rw [hd]; exact Int.emod_nonneg _ (by omega)
        have hd1 : d < p := by rw [hd]; exact Int.emod_lt_of_pos _ (by omega)
        have hdn : ((d.toNat : Nat) : Int) = d := by omega
        have hnear : p ^ (n + 1) ∣ z - (x + d * p ^ n) := by
          refine ⟨c / p, ?_⟩
          have := Int.emod_add_mul_ediv c p
          rw [hqq]
          have e1 : z - x = p ^ n * c := hc
          have e2 : z - (x + d * p ^ n) = p ^ n * (c - d) := by rw [Int.mul_sub, ← e1, Int.mul_comm (p ^ n) d]; omega
          rw [e2, show c - d = p * (c / p) by omega]
          grind
        refine ⟨d.toNat, List.mem_range.2 (by omega), ?_⟩
        rw [hdn]
        have hval : valF (p ^ (n + 1)) (x + d * p ^ n) f = 0 := by
          rw [ev_mod]
          have e3 := ev_congr (p := p ^ (n + 1)) (h := z - (x + d * p ^ n)) (x + d * p ^ n) f hnear
          rw [show x + d * p ^ n + (z - (x + d * p ^ n)) = z by omega] at e3
          rw [← e3]
          exact Int.emod_eq_zero_of_dvd (Int.dvd_trans (pow_dvd' p (show n + 1 ≤ N by omega)) h1.2)
        rw [if_pos hval]
        have := hy d.toNat (by omega)
        rw [hdn] at this
        exact ((ih _ (by omega) this).1 z).2 ⟨h1, by rw [hn1]; exact hnear⟩
    · rw [List.pairwise_flatMap]
      refine ⟨fun d hd => ?_, ?_⟩
      · split
        · exact (ih _ (by omega) (hy d (List.mem_range.1 hd))).2
        · simp
      · refine List.Pairwise.imp_of_mem ?_ List.nodup_range
        intro d d' hd hd' hne z hz y hyy e
        subst e
        have h1 := List.mem_range.1 hd
        have h2 := List.mem_range.1 hd'
        split at hz
        · split at hyy
          · have k1 := (((ih _ (by omega) (hy d h1)).1 z).1 hz).2
            have k2 := (((ih _ (by omega) (hy d' h2)).1 z).1 hyy).2
            rw [hn1] at k1 k2
            have k3 := Int.dvd_sub k2 k1
            rw [show z - (x + (d' : Int) * p ^ n) - (z - (x + (d : Int) * p ^ n)) = p ^ n * ((d : Int) - d') by grind] at k3
            have k4 := (pow_cancel hp (show n ≤ n + 1 by omega)).1 k3
            rw [show n + 1 - n = 1 by omega, Int.pow_succ, Int.pow_zero, Int.one_mul] at k4
            obtain ⟨c, hc⟩ := k4
            have hc0 : c = 0 := by
              rcases Int.lt_trichotomy c 0 with h | h | h
              · have := Int.mul_le_mul_of_nonneg_left (show c ≤ -1 by omega) (show 0 ≤ p by omega); omega
              · exact h
              · have := Int.mul_le_mul_of_nonneg_left (show 1 ≤ c by omega) (show 0 ≤ p by omega); omega
            rw [hc0, Int.mul_zero] at hc
            exact hne (by omega)
          · simp at hyy
        · simp at hz
/-- The statement's loop: as many as remain, out so far. -/
def deepL (rec : Int → List Int × Bool) (test : Int → Bool) (y : Nat → Int) : Nat → Nat → List Int → List Int × Bool
  | 0, _, out => (out, true)
  | s + 1, d, out => if test (y d) then (if (rec (y d)).2 = false ∨ 60 < (out ++ (rec (y d)).1).length then (out ++ (rec (y d)).1, false) else deepL rec test y s (d + 1) (out ++ (rec (y d)).1)) else deepL rec test y s (d + 1) out
def deepF (p : Int) (N : Nat) (f : List Int) : Nat → Int → List Int × Bool
  | 0, x => (if valF (p ^ N) x f = 0 then [x] else [], true)
  | t + 1, x => deepL (deepF p N f t) (fun y => valF (p ^ (N - t)) y f == 0) (fun d => x + (d : Int) * p ^ (N - t - 1)) p.toNat 0 []
theorem deepL_spec {rec : Int → List Int × Bool} {R : Int → List Int} {test : Int → Bool} {y : Nat → Int} {B : Nat} (h : ∀ x, ((rec x).2 = true → (rec x).1 = R x) ∧ ((rec x).2 = false → 60 < (R x).length) ∧ (rec x).1.length ≤ B) :
    ∀ (s d : Nat) (out : List Int), out.length ≤ 60 →
      ((deepL rec test y s d out).2 = true → (deepL rec test y s d out).1 = out ++ (List.range s).flatMap (fun i => if test (y (d + i)) then R (y (d + i)) else []) ∧ (deepL rec test y s d out).1.length ≤ 60) ∧
      ((deepL rec test y s d out).2 = false → 60 < (out ++ (List.range s).flatMap (fun i => if test (y (d + i)) then R (y (d + i)) else [])).length) ∧ (deepL rec test y s d out).1.length ≤ 60 + B := by
  intro s
  induction s with
  | zero => intro d out ho; exact ⟨fun _ => ⟨by simp [deepL], ho⟩, fun hf => by simp [deepL] at hf, by simp only [deepL]; omega⟩
  | succ s ih =>
    intro d out ho
    have hsh : (List.range (s + 1)).flatMap (fun i => if test (y (d + i)) then R (y (d + i)) else []) = (if test (y d) then R (y d) else []) ++ (List.range s).flatMap (fun i => if test (y (d + 1 + i)) then R (y (d + 1 + i)) else []) := by
      rw [List.range_succ_eq_map, List.flatMap_cons, List.flatMap_map]
      congr 1
      refine fm_congr fun i _ => ?_
      rw [show d + (i + 1) = d + 1 + i by omega]
    rw [hsh, deepL]
    obtain ⟨h1, h2, h3⟩ := h (y d)
    by_cases ht : test (y d) = true
    · rw [if_pos ht, if_pos ht]
      split
      · rename_i hbad
        refine ⟨fun e => by simp at e, fun _ => ?_, by simp only [List.length_append]; omega⟩
        rcases hbad with hb | hb
        · have := h2 hb
          simp only [List.length_append]
          omega
        · cases hr : (rec (y d)).2
          · have := h2 hr
            simp only [List.length_append]
            omega
          · rw [h1 hr] at hb
            simp only [List.length_append] at hb ⊢
            omega
      · rename_i hgood
        have hr : (rec (y d)).2 = true := by
          cases hr : (rec (y d)).2
          · exact absurd (.inl hr) hgood
          · rfl
        have hl : (out ++ (rec (y d)).1).length ≤ 60 := by
          rcases Nat.lt_or_ge 60 (out ++ (rec (y d)).1).length with h | h
          · exact absurd (.inr h) hgood
          · exact h
        have := ih (d + 1) _ hl
        rw [h1 hr] at this ⊢
        rw [← List.append_assoc]
        exact this
    · rw [if_neg ht, if_neg ht]
      have := ih (d + 1) out ho
      rw [List.nil_append]
      exact this
theorem deep_spec {p : Int} {N : Nat} (f : List Int) : ∀ (t : Nat) (x : Int), ((deepF p N f t x).2 = true → (deepF p N f t x).1 = rootsD p N f t x ∧ (deepF p N f t x).1.length ≤ 60) ∧ ((deepF p N f t x).2 = false → 60 < (rootsD p N f t x).length) ∧ (deepF p N f t x).1.length ≤ 60 * (t + 1) := by
  intro t
  induction t with
  | zero =>
    intro x
    refine ⟨fun _ => ⟨rfl, ?_⟩, fun h => by simp [deepF] at h, ?_⟩
    · simp only [deepF]; split <;> simp
    · simp only [deepF]; split <;> simp
  | succ t ih =>
    intro x
    have h := deepL_spec (rec := deepF p N f t) (R := rootsD p N f t) (test := fun y => valF (p ^ (N - t)) y f == 0) (y := fun d => x + (d : Int) * p ^ (N - t - 1)) (B := 60 * (t + 1)) (fun x => ⟨fun h => ((ih x).1 h).1, (ih x).2.1, (ih x).2.2⟩) p.toNat 0 [] (by simp)
    have e : [] ++ (List.range p.toNat).flatMap (fun i => if (fun y => valF (p ^ (N - t)) y f == 0) ((fun (d : Nat) => x + (d : Int) * p ^ (N - t - 1)) (0 + i)) then rootsD p N f t ((fun (d : Nat) => x + (d : Int) * p ^ (N - t - 1)) (0 + i)) else []) = rootsD p N f (t + 1) x := by
      rw [List.nil_append, rootsD]
      refine fm_congr fun i _ => ?_
      simp only [Nat.zero_add, beq_iff_eq]
    rw [e] at h
    exact ⟨h.1, h.2.1, by have := h.2.2; simp only [deepF]; omega⟩
end Go.Proofs.Ytdhnpmjoajaeiaa
