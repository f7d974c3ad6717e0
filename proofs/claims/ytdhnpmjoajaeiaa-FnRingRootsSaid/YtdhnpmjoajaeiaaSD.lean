/- Plain: sorted roots; both texts find the same. -/
import Derived.Test.YtdhnpmjoajaeiaaSC
namespace Go.Proofs.Ytdhnpmjoajaeiaa
open Go Go.RowKit

/-- Where a number is put into numbers in order. -/
def insN (out : List Int) (x : Int) : Nat → Nat
  | 0 => 0
  | n + 1 => if x < out.getD n 0 then insN out x n else n + 1
def insF (out : List Int) (x : Int) : List Int := out.take (insN out x out.length) ++ [x] ++ out.drop (insN out x out.length)
def sortF (l : List Int) : List Int := l.foldl insF []
theorem insN_le (out : List Int) (x : Int) : ∀ n, insN out x n ≤ n := by
  intro n
  induction n with
  | zero => exact Nat.le_refl _
  | succ n ih => rw [insN]; split <;> omega
theorem insN_gt (out : List Int) (x : Int) : ∀ n i, insN out x n ≤ i → i < n → x < out.getD i 0 := by
  intro n
  induction n with
  | zero => intro i _ h; omega
  | succ n ih =>
    intro i h1 h2
    rw [insN] at h1
    split at h1
    · rename_i hx
      by_cases e : i = n
      · subst e; exact hx
      · exact ih i h1 (by omega)
    · omega
theorem insN_at (out : List Int) (x : Int) : ∀ n, 0 < insN out x n → out.getD (insN out x n - 1) 0 ≤ x := by
  intro n
  induction n with
  | zero => intro h; simp [insN] at h
  | succ n ih =>
    rw [insN]
    split
    · exact ih
    · intro _; rw [Nat.add_sub_cancel]; omega
theorem insF_perm (out : List Int) (x : Int) : (insF out x).Perm (x :: out) := by
  unfold insF
  have h1 : (out.take (insN out x out.length) ++ [x] ++ out.drop (insN out x out.length)).Perm (x :: (out.take (insN out x out.length) ++ out.drop (insN out x out.length))) := by
    rw [List.append_assoc]
    exact List.perm_middle
  rwa [List.take_append_drop] at h1
theorem insF_len (out : List Int) (x : Int) : (insF out x).length = out.length + 1 := (insF_perm out x).length_eq
theorem insF_sorted {out : List Int} {x : Int} (h : out.Pairwise (· ≤ ·)) : (insF out x).Pairwise (· ≤ ·) := by
  obtain ⟨n, hn⟩ : ∃ n, n = insN out x out.length := ⟨_, rfl⟩
  have hle := insN_le out x out.length
  have hgt := insN_gt out x out.length
  have hat := insN_at out x out.length
  unfold insF
  rw [← hn] at hle hgt hat ⊢
  have hg : ∀ i (hi : i < out.length), out.getD i 0 = out[i] := fun i hi => by rw [List.getD_eq_getElem?_getD, List.getElem?_eq_getElem hi]; rfl
  have hsorted : ∀ i j (hi : i < out.length) (hj : j < out.length), i < j → out[i] ≤ out[j] := List.pairwise_iff_getElem.1 h
  have htake : ∀ y ∈ out.take n, y ≤ x := fun y hy => by
    obtain ⟨i, hi, rfl⟩ := List.getElem_of_mem hy
    rw [List.length_take] at hi
    rw [List.getElem_take]
    have h1 := hat (by omega)
    rw [hg (n - 1) (by omega)] at h1
    by_cases e : i = n - 1
    · subst e; exact h1
    · exact Int.le_trans (hsorted i (n - 1) (by omega) (by omega) (by omega)) h1
  have hdrop : ∀ y ∈ out.drop n, x ≤ y := fun y hy => by
    obtain ⟨i, hi, rfl⟩ := List.getElem_of_mem hy
    rw [List.length_drop] at hi
    rw [List.getElem_drop]
    have h1 := hgt (n + i) (by omega) (by omega)
    rw [hg (n + i) (by omega)] at h1
    omega
  rw [List.append_assoc, List.pairwise_append]
  refine ⟨h.sublist (List.take_sublist _ _), ?_, fun y hy z hz => ?_⟩
  · rw [List.singleton_append, List.pairwise_cons]
    exact ⟨hdrop, h.sublist (List.drop_sublist _ _)⟩
  · rw [List.singleton_append, List.mem_cons] at hz
    rcases hz with rfl | hz
    · exact htake y hy
    · exact Int.le_trans (htake y hy) (hdrop z hz)
theorem sort_spec : ∀ (l out : List Int), out.Pairwise (· ≤ ·) → (l.foldl insF out).Perm (l ++ out) ∧ (l.foldl insF out).Pairwise (· ≤ ·) := by
  intro l
  induction l with
  | nil => intro out h; exact ⟨List.Perm.refl _, h⟩
  | cons x l ih =>
    intro out h
    obtain ⟨h1, h2⟩ := ih (insF out x) (insF_sorted h)
    refine ⟨?_, h2⟩
    refine h1.trans ?_
    refine (List.Perm.append_left l (insF_perm out x)).trans ?_
    exact List.perm_middle
theorem sort_eq {a l : List Int} (hp : a.Perm l) (hs : a.Pairwise (· ≤ ·)) : a = sortF l := by
  obtain ⟨h1, h2⟩ := sort_spec l [] List.Pairwise.nil
  rw [List.append_nil] at h1
  exact List.Perm.eq_of_pairwise (fun x y _ _ h h' => Int.le_antisymm h h') hs h2 (hp.trans h1.symm)
theorem sortF_len (l : List Int) : (sortF l).length = l.length := by
  obtain ⟨h1, _⟩ := sort_spec l [] List.Pairwise.nil
  rw [List.append_nil] at h1
  exact h1.length_eq
theorem ev_map (m x : Int) : ∀ f : List Int, (ev (f.map (· % m)) x - ev f x) % m = 0 := by
  intro f
  induction f with
  | nil => simp [ev]
  | cons c r ih =>
    show (ev (r.map (· % m)) x * x + c % m - (ev r x * x + c)) % m = 0
    have h1 := Int.dvd_of_emod_eq_zero ih
    have h2 : m ∣ c % m - c := ⟨-(c / m), by have := Int.emod_add_mul_ediv c m; grind⟩
    have := Int.dvd_add (Int.dvd_mul_of_dvd_left (c := x) h1) h2
    rw [show (ev (r.map (· % m)) x - ev r x) * x + (c % m - c) = ev (r.map (· % m)) x * x + c % m - (ev r x * x + c) by grind] at this
    exact Int.emod_eq_zero_of_dvd this
/-- What both texts find. -/
theorem roots_perm {p : Int} {N : Nat} (hp : 2 ≤ p) (hN : 1 ≤ N) (f : List Int) : (rootsB p N (f.map (· % p ^ N))).Perm (rootsD p N f N 0) := by
  obtain ⟨_, h1, h2⟩ := balls_all hp hN (f.map (· % p ^ N))
  obtain ⟨h3, h4⟩ := rootsD_spec hp f N 0 (Nat.le_refl _) ⟨by omega, by rw [Nat.sub_self, Int.pow_zero]; omega⟩
  refine (List.perm_ext_iff_of_nodup h2 h4).2 fun x => ?_
  rw [h1, h3, Nat.sub_self, Int.pow_zero]
  have e := ev_map (p ^ N) x f
  constructor
  · rintro ⟨k1, k2⟩
    refine ⟨⟨k1, ?_⟩, Int.one_dvd _⟩
    have := Int.dvd_sub k2 (Int.dvd_of_emod_eq_zero e)
    rwa [show ev (f.map (· % p ^ N)) x - (ev (f.map (· % p ^ N)) x - ev f x) = ev f x by omega] at this
  · rintro ⟨⟨k1, k2⟩, _⟩
    refine ⟨k1, ?_⟩
    have := Int.dvd_add (Int.dvd_of_emod_eq_zero e) k2
    rwa [show ev (f.map (· % p ^ N)) x - ev f x + ev f x = ev (f.map (· % p ^ N)) x by omega] at this
def rootsZ (p : Int) (N : Nat) (f : List Int) : List Int × Int := if 60 < (rootsD p N f N 0).length then ([], 3) else (sortF (rootsD p N f N 0), 0)
end Go.Proofs.Ytdhnpmjoajaeiaa
