/- Plain: products of polynomials as functions, by a prime. -/
import Derived.Test.YtaninbfcoifedaaZ1
namespace Go.Proofs.Ytaninbfcoifedaa
open Go Go.RowKit

/-- The product of two rows of numbers. -/
def cv (a b : Nat → Int) (j : Nat) : Int := sumR (fun i => a i * b (j - i)) (j + 1)
theorem cv_comm (f g : Nat → Int) (j : Nat) : cv f g j = cv g f j := by
  unfold cv
  rw [← sumR_rev]
  refine sumR_congr _ fun i hi => ?_
  rw [show j + 1 - 1 - i = j - i by omega, show j - (j - i) = i by omega, Int.mul_comm]
theorem cv_add (a b c : Nat → Int) (j : Nat) : cv (fun i => a i + b i) c j = cv a c j + cv b c j := by
  unfold cv
  rw [← sumR_add]
  exact sumR_congr _ fun i _ => Int.add_mul _ _ _
theorem sumR_mul (k : Int) (f : Nat → Int) (n : Nat) : sumR (fun i => k * f i) n = k * sumR f n := by
  induction n with
  | zero => simp [sumR]
  | succ n ih => simp only [sumR]; rw [ih, Int.mul_add]
theorem cv_scale (k : Int) (a c : Nat → Int) (j : Nat) : cv (fun i => k * a i) c j = k * cv a c j := by
  unfold cv
  rw [← sumR_mul]
  exact sumR_congr _ fun i _ => Int.mul_assoc _ _ _
theorem cv_addR (a b c : Nat → Int) (j : Nat) : cv c (fun i => a i + b i) j = cv c a j + cv c b j := by
  rw [cv_comm, cv_add, cv_comm a, cv_comm b]
theorem cv_scaleR (k : Int) (a c : Nat → Int) (j : Nat) : cv c (fun i => k * a i) j = k * cv c a j := by
  rw [cv_comm, cv_scale, cv_comm]
theorem cv_sub (a b c : Nat → Int) (j : Nat) : cv (fun i => a i - b i) c j = cv a c j - cv b c j := by
  have h := cv_add a (fun i => (-1) * b i) c j
  rw [cv_scale] at h
  have e : cv (fun i => a i - b i) c j = cv (fun i => a i + (-1) * b i) c j := by
    unfold cv
    exact sumR_congr _ fun i _ => by show (a i - b i) * _ = (a i + (-1) * b i) * _; rw [show a i - b i = a i + (-1) * b i by omega]
  rw [e, h]; omega
theorem cv_subR (a b c : Nat → Int) (j : Nat) : cv c (fun i => a i - b i) j = cv c a j - cv c b j := by
  rw [cv_comm, cv_sub, cv_comm a, cv_comm b]
theorem cv_tail (a b : Nat → Int) (j : Nat) : cv a b (j + 1) = a 0 * b (j + 1) + cv (fun i => a (i + 1)) b j := by
  unfold cv
  rw [sumR_head]
  congr 1
  exact sumR_congr _ fun i hi => by rw [show j + 1 - (i + 1) = j - i by omega]
theorem cv_congr {a a' b b' : Nat → Int} (j : Nat) (ha : ∀ i, a i = a' i) (hb : ∀ i, b i = b' i) : cv a b j = cv a' b' j := by
  unfold cv
  exact sumR_congr _ fun i _ => by rw [ha, hb]
theorem cv_assoc (b c : Nat → Int) : ∀ (j : Nat) (a : Nat → Int), cv (cv a b) c j = cv a (cv b c) j := by
  intro j
  induction j with
  | zero =>
    intro a
    simp only [cv, sumR, Nat.zero_sub, Int.zero_add]
    rw [Int.mul_assoc]
  | succ j ih =>
    intro a
    rw [cv_tail (cv a b), cv_tail a]
    have e : cv (fun i => cv a b (i + 1)) c j = cv (fun i => a 0 * b (i + 1) + cv (fun i => a (i + 1)) b i) c j := cv_congr j (fun i => cv_tail a b i) (fun _ => rfl)
    rw [e, cv_add, cv_scale, ih (fun i => a (i + 1)), cv_tail b]
    have h0 : cv a b 0 = a 0 * b 0 := by simp [cv, sumR]
    rw [h0]
    grind
theorem sumR_dvd {p : Int} {f : Nat → Int} : ∀ n : Nat, (∀ i, i < n → f i % p = 0) → sumR f n % p = 0 := by
  intro n
  induction n with
  | zero => intro _; simp [sumR]
  | succ n ih =>
    intro h
    have h1 := ih (fun i hi => h i (by omega))
    have h2 := h n (by omega)
    simp only [sumR]
    rw [Int.add_emod, h1, h2]; rfl
theorem sumR_only {p : Int} {f : Nat → Int} {k : Nat} : ∀ n : Nat, k < n → (∀ i, i < n → i ≠ k → f i % p = 0) → sumR f n % p = f k % p := by
  intro n
  induction n with
  | zero => intro h; omega
  | succ n ih =>
    intro hk h
    simp only [sumR]
    by_cases e : k = n
    · subst e
      have h1 := sumR_dvd (p := p) k (fun i hi => h i (by omega) (by omega))
      rw [Int.add_emod, h1]; simp
    · have h1 := ih (by omega) (fun i hi hne => h i (by omega) hne)
      have h2 := h n (by omega) (by omega)
      rw [Int.add_emod, h1, h2]; simp
/-- Nothing by p from N on. -/
def dg (p : Int) (N : Nat) (a : Nat → Int) : Prop := ∀ j, N ≤ j → a j % p = 0
theorem dg.mono {p : Int} {N M : Nat} {a : Nat → Int} (h : dg p N a) (hM : N ≤ M) : dg p M a := fun j hj => h j (by omega)
theorem mod_mul0 {p a b : Int} (h : a % p = 0) : a * b % p = 0 := by rw [Int.mul_emod, h]; simp
theorem mod_mul0' {p a b : Int} (h : b % p = 0) : a * b % p = 0 := by rw [Int.mul_emod, h]; simp
theorem mod_add0 {p a b : Int} (h : a % p = 0) (h' : b % p = 0) : (a + b) % p = 0 := by rw [Int.add_emod, h, h']; rfl
theorem mod_sub0 {p a b : Int} (h : a % p = 0) (h' : b % p = 0) : (a - b) % p = 0 := by rw [Int.sub_emod, h, h']; rfl
theorem dg.add {p : Int} {N : Nat} {a b : Nat → Int} (h : dg p N a) (h' : dg p N b) : dg p N (fun i => a i + b i) := fun j hj => mod_add0 (h j hj) (h' j hj)
theorem dg.sub {p : Int} {N : Nat} {a b : Nat → Int} (h : dg p N a) (h' : dg p N b) : dg p N (fun i => a i - b i) := fun j hj => mod_sub0 (h j hj) (h' j hj)
theorem dg.scale {p : Int} {N : Nat} {a : Nat → Int} (k : Int) (h : dg p N a) : dg p N (fun i => k * a i) := fun j hj => mod_mul0' (h j hj)
theorem dg.cvL {p : Int} {N M : Nat} {a b : Nat → Int} (h : dg p N a) (h' : dg p M b) : dg p (N + M - 1) (cv a b) := fun j hj => by
  refine sumR_dvd _ fun i hi => ?_
  by_cases hN : N ≤ i
  · exact mod_mul0 (h i hN)
  · exact mod_mul0' (h' _ (by omega))
theorem cv_zp {p : Int} {a b : Nat → Int} (h : ∀ j, a j % p = 0) (j : Nat) : cv a b j % p = 0 := sumR_dvd _ fun i _ => mod_mul0 (h i)
/-- Nothing above k, and a unit at k. -/
def top (p : Int) (k : Nat) (g : Nat → Int) : Prop := dg p (k + 1) g ∧ ∃ e : Int, e * g k % p = 1
theorem top_deg {p : Int} {k M : Nat} {g o : Nat → Int} (hg : top p k g) : ∀ N, dg p N o → (∀ j, M + k ≤ j → cv o g j % p = 0) → dg p M o := by
  intro N
  induction N with
  | zero => intro h _; exact h.mono (by omega)
  | succ N ih =>
    intro h hz
    by_cases hM : N + 1 ≤ M
    · exact h.mono hM
    · refine ih (fun j hj => ?_) hz
      by_cases e : j = N
      · subst e
        have h1 := hz (j + k) (by omega)
        have h2 : cv o g (j + k) % p = o j * g k % p := by
          unfold cv
          rw [sumR_only (p := p) (k := j) _ (by omega), show j + k - j = k by omega]
          intro i hi hne
          by_cases hij : j < i
          · exact mod_mul0 (h i (by omega))
          · exact mod_mul0' (hg.1 _ (by omega))
        rw [h2] at h1
        obtain ⟨u, hu⟩ := hg.2
        have h3 : o j * (u * g k) % p = 0 := by
          rw [show o j * (u * g k) = u * (o j * g k) by grind]
          exact mod_mul0' h1
        rw [Int.mul_emod, hu] at h3
        simpa using h3
      · exact h j (by omega)
/-- A multiple of g by p. -/
def mg (p : Int) (g a : Nat → Int) : Prop := ∃ (o : Nat → Int) (N : Nat), dg p N o ∧ ∀ j, (a j - cv o g j) % p = 0
theorem mg.add {p : Int} {g a b : Nat → Int} (h : mg p g a) (h' : mg p g b) : mg p g (fun i => a i + b i) := by
  obtain ⟨o, N, h1, h2⟩ := h
  obtain ⟨o', N', h1', h2'⟩ := h'
  refine ⟨fun i => o i + o' i, max N N', (h1.mono (by omega)).add (h1'.mono (by omega)), fun j => ?_⟩
  rw [cv_add]
  have := mod_add0 (h2 j) (h2' j)
  rw [show a j + b j - (cv o g j + cv o' g j) = a j - cv o g j + (b j - cv o' g j) by omega]
  exact this
theorem mg.sub {p : Int} {g a b : Nat → Int} (h : mg p g a) (h' : mg p g b) : mg p g (fun i => a i - b i) := by
  obtain ⟨o, N, h1, h2⟩ := h
  obtain ⟨o', N', h1', h2'⟩ := h'
  refine ⟨fun i => o i - o' i, max N N', (h1.mono (by omega)).sub (h1'.mono (by omega)), fun j => ?_⟩
  rw [cv_sub]
  have := mod_sub0 (h2 j) (h2' j)
  rw [show a j - b j - (cv o g j - cv o' g j) = a j - cv o g j - (b j - cv o' g j) by omega]
  exact this
theorem mg.cvL {p : Int} {g a c : Nat → Int} {M : Nat} (h : mg p g a) (hc : dg p M c) : mg p g (cv c a) := by
  obtain ⟨o, N, h1, h2⟩ := h
  refine ⟨cv c o, M + N - 1, hc.cvL h1, fun j => ?_⟩
  rw [cv_assoc, ← cv_subR, cv_comm]
  exact cv_zp h2 j
theorem mg.of {p : Int} {g a b : Nat → Int} (h : mg p g a) (e : ∀ j, (a j - b j) % p = 0) : mg p g b := by
  obtain ⟨o, N, h1, h2⟩ := h
  refine ⟨o, N, h1, fun j => ?_⟩
  have := mod_sub0 (h2 j) (e j)
  rw [show b j - cv o g j = a j - cv o g j - (a j - b j) by omega]
  exact this
theorem mg.eq {p : Int} {g a b : Nat → Int} (h : mg p g a) (e : ∀ j, a j = b j) : mg p g b := h.of fun j => by rw [e, Int.sub_self]; rfl
theorem mg.self {p : Int} {g c : Nat → Int} {M : Nat} (hc : dg p M c) : mg p g (cv c g) := ⟨c, M, hc, fun j => by rw [Int.sub_self]; rfl⟩
theorem mg.zero {p : Int} {g a : Nat → Int} (h : ∀ j, a j % p = 0) : mg p g a := ⟨fun _ => 0, 0, fun j _ => by simp, fun j => by
  have : cv (fun _ => 0) g j = 0 := sumR_zero _ _ fun i _ => by simp
  rw [this]; simpa using h j⟩
theorem mg.trans {p : Int} {D g a : Nat → Int} (h : mg p g a) (hD : mg p D g) : mg p D a := by
  obtain ⟨o, N, h1, h2⟩ := h
  exact (hD.cvL h1).of fun j => by
    have := h2 j
    rw [show cv o g j - a j = -(a j - cv o g j) by omega]
    rw [Int.neg_emod_eq_sub_emod, Int.sub_emod, this]; simp
/-- A remainder that is a multiple is nothing. -/
theorem mg.small {p : Int} {k : Nat} {g a : Nat → Int} (hg : top p k g) (h : mg p g a) (ha : dg p k a) : ∀ j, a j % p = 0 := by
  obtain ⟨o, N, h1, h2⟩ := h
  have h3 : dg p 0 o := top_deg (M := 0) hg N h1 fun j hj => by
    have := mod_sub0 (ha j (by omega)) (h2 j)
    rw [show cv o g j = a j - (a j - cv o g j) by omega]
    exact this
  intro j
  have h4 := cv_zp (b := g) (fun j => h3 j (by omega)) j
  have := mod_add0 (h2 j) h4
  rwa [show a j - cv o g j + cv o g j = a j by omega] at this
end Go.Proofs.Ytaninbfcoifedaa
