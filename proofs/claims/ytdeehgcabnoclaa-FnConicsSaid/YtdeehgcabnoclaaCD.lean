/- Plain: a conic with a point has all symbols 1; classes of squares. -/
import Derived.Test.YtdeehgcabnoclaaMA
import Derived.Test.YtdeehgcabnoclaaD5
namespace Go.Proofs.Ytdeehgcabnoclaa
open Go

theorem mod_dvd {p u : Int} : ¬ u % p = 0 ↔ ¬ p ∣ u := ⟨fun h h2 => h (Int.emod_eq_zero_of_dvd h2), fun h h2 => h (Int.dvd_of_emod_eq_zero h2)⟩
theorem pow_half (p : Int) (k : Nat) : p ^ k = p ^ (k % 2) * (p ^ (k / 2) * p ^ (k / 2)) := by
  rw [← Int.pow_add, ← Int.pow_add]; congr 1; omega
theorem conic_hil {p a b X Y Z : Int} (hs : p = 0 ∨ smallP p = true) (ha : a ≠ 0) (hb : b ≠ 0) (hn : ¬ (X = 0 ∧ Y = 0 ∧ Z = 0)) (he : a * (X * X) + b * (Y * Y) = Z * Z) : hilF p a b = 1 := by
  have sq0 : ∀ t : Int, 0 ≤ t * t := fun t => by
    rcases Int.le_total 0 t with h | h
    · exact Int.mul_nonneg h h
    · exact Int.mul_nonneg_of_nonpos_of_nonpos h h
  have sqz : ∀ t : Int, t * t = 0 → t = 0 := fun t h => by rcases Int.mul_eq_zero.1 h with h | h <;> exact h
  unfold hilF
  by_cases h0 : p = 0
  · rw [if_pos h0]
    refine if_neg fun ⟨h1, h2⟩ => ?_
    have n1 : 0 ≤ (-a) * (X * X) := Int.mul_nonneg (by omega) (sq0 X)
    have n2 : 0 ≤ (-b) * (Y * Y) := Int.mul_nonneg (by omega) (sq0 Y)
    rw [Int.neg_mul] at n1 n2
    have n3 := sq0 Z
    have e1 : a * (X * X) = 0 := by omega
    have e2 : b * (Y * Y) = 0 := by omega
    have e3 : Z * Z = 0 := by omega
    exact hn ⟨sqz _ ((Int.mul_eq_zero.1 e1).resolve_left ha), sqz _ ((Int.mul_eq_zero.1 e2).resolve_left hb), sqz _ e3⟩
  have hs := hs.resolve_left h0
  have hbd := smallP_bd hs
  rw [if_neg h0]
  obtain ⟨u, e1, hu, q1⟩ := @vl_spec a p hbd.1 ha
  obtain ⟨v, e2, hv, q2⟩ := @vl_spec b p hbd.1 hb
  obtain ⟨k, hk⟩ : ∃ k, k = vl a p := ⟨_, rfl⟩
  obtain ⟨m, hm⟩ : ∃ m, m = vl b p := ⟨_, rfl⟩
  rw [← hk] at e1 q1
  rw [← hm] at e2 q2
  rw [← hk, ← hm, q1, q2]
  have pk := pow_pos' (show 1 ≤ p by omega) (k / 2)
  have pm := pow_pos' (show 1 ≤ p by omega) (m / 2)
  obtain ⟨X', Y', Z', hd, he'⟩ := prim (p := p) (A := u * p ^ (k % 2)) (B := v * p ^ (m % 2)) hbd.1 _ (p ^ (k / 2) * X) (p ^ (m / 2) * Y) Z (Nat.le_refl _)
    (fun ⟨z1, z2, z3⟩ => hn ⟨(Int.mul_eq_zero.1 z1).resolve_left (by omega), (Int.mul_eq_zero.1 z2).resolve_left (by omega), z3⟩) (by
      rw [pow_half p k] at e1
      rw [pow_half p m] at e2
      rw [← he, e1, e2]
      grind)
  by_cases h2 : p = 2
  · rw [if_pos h2]
    subst h2
    refine hil2_one (X := X') (Y := Y') (Z := Z') (by omega) (by omega) (fun ⟨z1, z2, z3⟩ => hd ⟨Int.dvd_of_emod_eq_zero z1, Int.dvd_of_emod_eq_zero z2, Int.dvd_of_emod_eq_zero z3⟩) he'
  · rw [if_neg h2]
    exact hilO_one hs h2 (mod_dvd.1 hu) (mod_dvd.1 hv) hd he'

/-- The unit of a square. -/
def usq (p u : Int) : Bool := if p = 2 then u % 8 == 1 else sqF p u == 1
theorem sqrB_of {p x u : Int} {k : Nat} (hp : 2 ≤ p) (he : x = u * p ^ k) (hu : ¬ u % p = 0) : sqrB p x = (decide (k % 2 = 0) && usq p u) := by
  have h1 := vl_eq hp he hu
  have h2 : x / p ^ vl x p = u := by
    rw [h1, he]
    have := pow_pos' (show 1 ≤ p by omega) k
    exact Int.mul_ediv_cancel _ (by omega)
  unfold sqrB usq
  rw [h2, h1]
theorem usq_mul {p u v : Int} (hs : smallP p = true) (hu : ¬ u % p = 0) (hv : ¬ v % p = 0) : (usq p u = true → usq p v = usq p (u * v)) := by
  have hp := small_isP hs
  have hbd := smallP_bd hs
  intro h
  unfold usq at h ⊢
  by_cases h2 : p = 2
  · rw [if_pos h2] at h ⊢
    rw [if_pos h2]
    have h' : u % 8 = 1 := by simpa using h
    rw [Int.mul_emod, h', Int.one_mul, Int.emod_emod_of_dvd v (by decide : (8 : Int) ∣ 8)]
  · rw [if_neg h2] at h ⊢
    rw [if_neg h2]
    have h' : sqF p u = 1 := by simpa using h
    rw [sqF_mul hs h2 (mod_dvd.1 hu) (mod_dvd.1 hv), h', Int.one_mul]
theorem usq_sq {p u : Int} (hs : smallP p = true) (hu : ¬ u % p = 0) : usq p (u * u) = true := by
  have hp := small_isP hs
  have hbd := smallP_bd hs
  unfold usq
  by_cases h2 : p = 2
  · rw [if_pos h2]
    subst h2
    have : u % 8 = 1 ∨ u % 8 = 3 ∨ u % 8 = 5 ∨ u % 8 = 7 := by omega
    rw [Int.mul_emod]
    rcases this with h | h | h | h <;> rw [h] <;> rfl
  · rw [if_neg h2]
    have huu : ¬ p ∣ u * u := fun h => (hp.mulZ (by omega) h).elim (mod_dvd.1 hu) (mod_dvd.1 hu)
    rw [(sqF_iff (by omega) huu).2 ⟨u, by rw [Int.sub_self]; exact Int.dvd_zero p⟩]
    rfl
theorem unit_mul {p u v : Int} (hs : smallP p = true) (hu : ¬ u % p = 0) (hv : ¬ v % p = 0) : ¬ (u * v) % p = 0 := by
  have hp := small_isP hs
  have hbd := smallP_bd hs
  exact mod_dvd.2 fun h => (hp.mulZ (by omega) h).elim (mod_dvd.1 hu) (mod_dvd.1 hv)
/-- The same class: what times a is a square is what times c is one. -/
theorem same_class {p a c x : Int} (hs : smallP p = true) (ha : a ≠ 0) (hc : c ≠ 0) (hx : x ≠ 0) (h : sqrB p (a * c) = true) : sqrB p (c * x) = sqrB p (a * x) := by
  have hbd := smallP_bd hs
  obtain ⟨u, e1, hu, _⟩ := @vl_spec a p hbd.1 ha
  obtain ⟨v, e2, hv, _⟩ := @vl_spec c p hbd.1 hc
  obtain ⟨t, e3, ht, _⟩ := @vl_spec x p hbd.1 hx
  obtain ⟨k, hk⟩ : ∃ k, k = vl a p := ⟨_, rfl⟩
  obtain ⟨m, hm⟩ : ∃ m, m = vl c p := ⟨_, rfl⟩
  obtain ⟨n, hn⟩ : ∃ n, n = vl x p := ⟨_, rfl⟩
  rw [← hk] at e1
  rw [← hm] at e2
  rw [← hn] at e3
  have uv := unit_mul hs hu hv
  have ut := unit_mul hs hu ht
  have vt := unit_mul hs hv ht
  rw [sqrB_of (u := u * v) (k := k + m) hbd.1 (by rw [e1, e2, Int.pow_add]; grind) uv] at h
  rw [sqrB_of (u := v * t) (k := m + n) hbd.1 (by rw [e2, e3, Int.pow_add]; grind) vt, sqrB_of (u := u * t) (k := k + n) hbd.1 (by rw [e1, e3, Int.pow_add]; grind) ut]
  simp only [Bool.and_eq_true, decide_eq_true_eq] at h
  have p1 : decide ((m + n) % 2 = 0) = decide ((k + n) % 2 = 0) := by
    have := h.1
    by_cases h3 : (k + n) % 2 = 0
    · rw [decide_eq_true h3, decide_eq_true (by omega)]
    · rw [decide_eq_false h3, decide_eq_false (by omega)]
  have p2 : usq p (v * t) = usq p (u * t) := by
    -- (u v) (v t) = v v (u t)
    have q1 := usq_mul hs uv vt h.2
    have q2 := usq_mul hs (unit_mul hs hv hv) ut (usq_sq hs hv)
    rw [q1, q2]
    congr 1
    grind
  rw [p1, p2]
theorem cls_ex {p a : Int} (hs : smallP p = true) (ha : a ≠ 0) : ∃ c : Nat, 1 ≤ c ∧ c ≤ 700 ∧ sqrB p (a * (c : Int)) = true := by
  have hbd := smallP_bd hs
  obtain ⟨u, e1, hu, _⟩ := @vl_spec a p hbd.1 ha
  obtain ⟨k, hk⟩ : ∃ k, k = vl a p := ⟨_, rfl⟩
  rw [← hk] at e1
  obtain ⟨t, t1, t7, t0, ht⟩ : ∃ t : Int, 1 ≤ t ∧ t ≤ 7 ∧ ¬ t % p = 0 ∧ usq p (u * t) = true := by
    by_cases h2 : p = 2
    · subst h2
      refine ⟨u % 8, by omega, by omega, by omega, ?_⟩
      unfold usq
      rw [if_pos rfl, Int.mul_emod, Int.emod_emod_of_dvd u (by decide : (8 : Int) ∣ 8)]
      have : u % 8 = 1 ∨ u % 8 = 3 ∨ u % 8 = 5 ∨ u % 8 = 7 := by omega
      rcases this with h | h | h | h <;> rw [h] <;> rfl
    · obtain ⟨n, n1, n7, hn, hall, _⟩ := nr_fact hs h2
      have hnz : ¬ n % p = 0 := fun h => by rw [sqF_0 h] at hn; omega
      unfold usq
      rcases hall u (mod_dvd.1 hu) with h3 | h3
      · refine ⟨1, by omega, by omega, by rw [Int.emod_eq_of_lt (by omega) (by omega)]; omega, ?_⟩
        rw [if_neg h2, Int.mul_one, (sqF_iff hbd.1 (mod_dvd.1 hu)).2 h3]; rfl
      · refine ⟨n, n1, n7, hnz, ?_⟩
        rw [if_neg h2, Int.mul_comm, (sqF_iff hbd.1 (mod_dvd.1 (unit_mul hs hnz hu))).2 h3]; rfl
  rcases (show k % 2 = 0 ∨ k % 2 = 1 by omega) with h | h
  · refine ⟨t.toNat, by omega, by omega, ?_⟩
    rw [show ((t.toNat : Nat) : Int) = t by omega, sqrB_of (u := u * t) (k := k) hbd.1 (by rw [e1]; grind) (unit_mul hs hu t0), ht, decide_eq_true h]; rfl
  · have ht1 : 1 * 1 ≤ t * p := Int.mul_le_mul t1 (by omega) (by omega) (by omega)
    have ht2 : t * p ≤ 7 * 97 := Int.mul_le_mul t7 hbd.2 (by omega) (by omega)
    refine ⟨(t * p).toNat, by omega, by omega, ?_⟩
    rw [show (((t * p).toNat : Nat) : Int) = t * p by omega, sqrB_of (u := u * t) (k := k + 1) hbd.1 (by rw [e1, Int.pow_succ]; grind) (unit_mul hs hu t0), ht, decide_eq_true (by omega)]; rfl
/-- The least number whose product with a is a square. -/
def clsF (p a : Int) : Int := (((List.range 701).find? fun c : Nat => decide (1 ≤ c) && sqrB p (a * (c : Int))).getD 0 : Nat)
theorem clsF_of {p a : Int} {c : Nat} (h1 : 1 ≤ c) (h7 : c ≤ 700) (hc : sqrB p (a * (c : Int)) = true) (hl : ∀ x : Nat, 1 ≤ x → x < c → sqrB p (a * (x : Int)) = false) : clsF p a = (c : Int) := by
  unfold clsF
  have : (List.range 701).find? (fun c : Nat => decide (1 ≤ c) && sqrB p (a * (c : Int))) = some c := by
    rw [List.find?_range_eq_some]
    refine ⟨by simp [h1, hc], List.mem_range.2 (by omega), fun j hj => ?_⟩
    by_cases hj1 : 1 ≤ j
    · simp [hl j hj1 hj]
    · simp [hj1]
  rw [this]; rfl
theorem clsF_spec {p a : Int} (hs : smallP p = true) (ha : a ≠ 0) : ∃ c : Nat, clsF p a = (c : Int) ∧ 1 ≤ c ∧ c ≤ 700 ∧ sqrB p (a * (c : Int)) = true ∧ ∀ x : Nat, 1 ≤ x → x < c → sqrB p (a * (x : Int)) = false := by
  obtain ⟨c0, h1, h2, h3⟩ := @cls_ex p a hs ha
  have key : ∀ n : Nat, ∀ c : Nat, c ≤ n → 1 ≤ c → sqrB p (a * (c : Int)) = true → ∃ c : Nat, c ≤ n ∧ 1 ≤ c ∧ sqrB p (a * (c : Int)) = true ∧ ∀ x : Nat, 1 ≤ x → x < c → sqrB p (a * (x : Int)) = false := by
    intro n
    induction n with
    | zero => intro c h h'; omega
    | succ n ih =>
      intro c hc hc1 hcs
      by_cases hh : ∃ x : Nat, 1 ≤ x ∧ x < c ∧ sqrB p (a * (x : Int)) = true
      · obtain ⟨x, x1, x2, x3⟩ := hh
        obtain ⟨c', q1, q2⟩ := ih x (by omega) x1 x3
        exact ⟨c', by omega, q2⟩
      · refine ⟨c, hc, hc1, hcs, fun x x1 x2 => ?_⟩
        cases hx : sqrB p (a * (x : Int)) with
        | false => rfl
        | true => exact absurd ⟨x, x1, x2, hx⟩ hh
  obtain ⟨c, q1, q2, q3, q4⟩ := key 700 c0 h2 h1 h3
  exact ⟨c, clsF_of q2 q1 q3 q4, q2, q1, q3, q4⟩
theorem clsF_twice {p a : Int} (hs : smallP p = true) (ha : a ≠ 0) : clsF p (clsF p a) = clsF p a ∧ 1 ≤ clsF p a ∧ clsF p a ≤ 700 := by
  obtain ⟨c, e, h1, h2, h3, h4⟩ := @clsF_spec p a hs ha
  rw [e]
  refine ⟨clsF_of h1 h2 ?_ fun x x1 x2 => ?_, by omega, by omega⟩
  · rw [same_class hs ha (by omega) (by omega) h3]; exact h3
  · rw [same_class hs ha (by omega) (by omega) h3]; exact h4 x x1 x2
/-- A square is a square. -/
theorem square_sq {p v u n : Int} (h : (mulpF p v u n p v u n).2 = 0) :
    (isqF (mulpF p v u n p v u n).1.p (mulpF p v u n p v u n).1.v (mulpF p v u n p v u n).1.u (mulpF p v u n p v u n).1.n = (true, 0)) ∨ isqF (mulpF p v u n p v u n).1.p (mulpF p v u n p v u n).1.v (mulpF p v u n p v u n).1.u (mulpF p v u n p v u n).1.n = (false, 4) := by
  have hp : pairF p v u n p v u n = 0 ∧ padicB p v u n = true := by
    rcases pairF_cases p v u n p v u n with h1 | h1 | ⟨h1, h2, _, _⟩
    · exfalso; unfold mulpF at h; rw [if_neg (by omega)] at h; simp only at h; omega
    · exfalso; unfold mulpF at h; rw [if_neg (by omega)] at h; simp only at h; omega
    · exact ⟨h1, h2⟩
  have e : mulpF p v u n p v u n = limF (mulF p v u n v u n) := by unfold mulpF; rw [if_pos hp.1]
  rw [e] at h ⊢
  have hv : padicB (mulF p v u n v u n).p (mulF p v u n v u n).v (mulF p v u n v u n).u (mulF p v u n v u n).n = true := by
    unfold limF at h
    split at h
    · assumption
    · simp at h
  have e2 : limF (mulF p v u n v u n) = (mulF p v u n v u n, 0) := by unfold limF; rw [if_pos hv]
  rw [e2]
  simp only
  unfold isqF
  rw [if_pos hv]
  have eP : (mulF p v u n v u n).p = p := rfl
  have eN : (mulF p v u n v u n).n = n := by show min n n = n; omega
  have eV : (mulF p v u n v u n).v = v + v := rfl
  rw [eP, eN, eV]
  by_cases h0 : n = 0 ∨ (p = 2 ∧ n < 3)
  · rw [if_pos h0]; exact .inr rfl
  rw [if_neg h0]
  left
  have hn0 : n ≠ 0 := fun h => h0 (.inl h)
  obtain ⟨hr, hu, hup⟩ := padic_unit hp.2 hn0
  obtain ⟨hs, hn1, _, _⟩ := ringB_iff.1 hr
  have hbd := smallP_bd hs
  have eU : (mulF p v u n v u n).u = u * u % p ^ n.toNat := by
    show (if min n n = 0 then 0 else u % p ^ (min n n).toNat * (u % p ^ (min n n).toNat) % p ^ (min n n).toNat) = _
    rw [show min n n = n by omega, if_neg hn0, ← Int.mul_emod]
  rw [eU]
  have hdv : p ∣ p ^ n.toNat := by
    obtain ⟨k, hk⟩ : ∃ k, n.toNat = k + 1 := ⟨n.toNat - 1, by omega⟩
    rw [hk, Int.pow_succ]; exact Int.dvd_mul_left _ _
  have huu := unit_mul hs hup hup
  have hmm : ¬ (u * u % p ^ n.toNat) % p = 0 := by rw [Int.emod_emod_of_dvd _ hdv]; exact huu
  rw [sqrB_of (u := u * u % p ^ n.toNat) (k := 0) hbd.1 (by simp) hmm]
  have hus := usq_sq hs hup
  have : usq p (u * u % p ^ n.toNat) = true := by
    unfold usq at hus ⊢
    by_cases h2 : p = 2
    · rw [if_pos h2] at hus ⊢
      subst h2
      have h8 : (8 : Int) ∣ 2 ^ n.toNat := by
        obtain ⟨k, hk⟩ : ∃ k, n.toNat = k + 3 := ⟨n.toNat - 3, by have := h0; omega⟩
        rw [hk, Int.pow_add]; exact Int.dvd_mul_left _ _
      rw [Int.emod_emod_of_dvd _ h8]; exact hus
    · rw [if_neg h2] at hus ⊢
      rw [← sqF_mod, Int.emod_emod_of_dvd _ hdv, sqF_mod]; exact hus
  rw [this, decide_eq_true (show (v + v) % 2 = 0 by omega)]
  rfl
end Go.Proofs.Ytdeehgcabnoclaa
