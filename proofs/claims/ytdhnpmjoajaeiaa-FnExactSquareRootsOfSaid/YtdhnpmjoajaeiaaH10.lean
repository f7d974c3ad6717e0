/- Division by a polynomial, plain; rows of the call's own, cell by cell. -/
import Derived.Test.YtdhnpmjoajaeiaaH8
import Derived.Test.YtdhnpmjoajaeiaaH4
namespace Go.Proofs.Ytdhnpmjoajaeiaa
open Go Go.RowKit

theorem own_head {B n cap : Nat} {w : World} {a : Option Addr} {xs : List Int} (h : ownR B w (.slice a n cap) xs) (hne : 0 < xs.length) : ∃ g, a = some ⟨g, 0, none⟩ ∧ B ≤ g ∧ g < w.heap.size := by
  rcases h.2 with ⟨e, h1⟩ | ⟨g, c, cur, e, hg, hh, _⟩
  · omega
  · injection e with e1 e2 e3
    exact ⟨g, e1, hg, (Array.getElem?_eq_some_iff.1 hh).1⟩
theorem own_n {B n cap : Nat} {w : World} {a : Option Addr} {xs : List Int} (h : ownR B w (.slice a n cap) xs) : n = xs.length := by
  obtain ⟨a', cap', e, _, _⟩ := h.rd
  injection e
theorem own_cell {B n cap g : Nat} {w : World} {xs : List Int} (h : ownR B w (.slice (some ⟨g, 0, none⟩) n cap) xs) {j : Nat} (hj : j < xs.length) : w.cell? ⟨g, j, none⟩ = some (.int .i64 (xs.getD j 0)) ∧ w.frozen? ⟨g, j, none⟩ = false := by
  obtain rfl := own_n h
  have h' : w.ownsRow B 2 1 (.slice (some ⟨g, 0, none⟩) xs.length cap) xs.length (vI xs) := h
  have h1 := h'.cellAt j (by omega)
  rw [vI_at hj] at h1
  exact ⟨h1, h'.frozenAt j⟩
theorem own_set {B n cap g : Nat} {w : World} {xs : List Int} (h : ownR B w (.slice (some ⟨g, 0, none⟩) n cap) xs) (j : Nat) (x : Int) : ownR B (w.setCell ⟨g, j, none⟩ (.int .i64 x)) (.slice (some ⟨g, 0, none⟩) n cap) (xs.set j x) ∧ w.grownBy (w.setCell ⟨g, j, none⟩ (.int .i64 x)) (some g) := by
  obtain rfl := own_n h
  have h' : w.ownsRow B 2 1 (.slice (some ⟨g, 0, none⟩) xs.length cap) xs.length (vI xs) := h
  have h1 := h'.stored j (.int .i64 x)
  have e : (vI xs).set j (.int .i64 x) = vI (xs.set j x) := by simp [vI, List.map_set]
  rw [e] at h1
  refine ⟨?_, h1.2⟩
  unfold ownR
  rw [List.length_set]
  exact h1.1
theorem ownR.grown {B : Nat} {rb : Option Nat} {w w' : World} {v : Value} {xs : List Int} (h : ownR B w v xs) (hg : w.grownBy w' rb) (hn : rowNe v rb) : ownR B w' v xs :=
  h.kept fun k hk e => hg.block k hk (fun e2 => (hn k e) e2.symm)
theorem rowNe_block {a : Option Addr} {n cap g g2 : Nat} (h : a = some ⟨g, 0, none⟩) (hn : g ≠ g2) : rowNe (.slice a n cap) (some g2) := by
  subst h
  intro k hk e
  have h1 : g = k := by simpa [Value.ownBlock] using hk
  have h2 : g2 = k := by simpa using e
  omega

/-- A multiple of g, moved by k places, taken off, as far as the first t numbers. -/
def subK (m : Int) (A : List Int) (k : Nat) (c : Int) (g : List Int) (t : Nat) : List Int := (List.range t).foldl (fun o t => o.set (k + t) ((o.getD (k + t) 0 - c * g.getD t 0) % m)) A
theorem subK_succ (m : Int) (A : List Int) (k : Nat) (c : Int) (g : List Int) (t : Nat) : subK m A k c g (t + 1) = (subK m A k c g t).set (k + t) (((subK m A k c g t).getD (k + t) 0 - c * g.getD t 0) % m) := by
  simp [subK, List.range_succ]
theorem subK_len (m : Int) (A : List Int) (k : Nat) (c : Int) (g : List Int) (t : Nat) : (subK m A k c g t).length = A.length := by
  induction t with
  | zero => rfl
  | succ t ih => rw [subK_succ, List.length_set, ih]
theorem subK_bd {m : Int} (hm : 1 ≤ m) {A : List Int} {k : Nat} {c : Int} {g : List Int} (h : ∀ x ∈ A, 0 ≤ x ∧ x ≤ m - 1) : ∀ t, ∀ x ∈ subK m A k c g t, 0 ≤ x ∧ x ≤ m - 1 := by
  intro t
  induction t with
  | zero => exact h
  | succ t ih =>
    intro x hx
    rw [subK_succ] at hx
    rcases List.mem_or_eq_of_mem_set hx with hx | hx
    · exact ih x hx
    · rw [hx]
      exact ⟨Int.emod_nonneg _ (by omega), by have := Int.emod_lt_of_pos ((subK m A k c g t).getD (k + t) 0 - c * g.getD t 0) (show 0 < m by omega); omega⟩

/-- The rest and the quotient behind t rounds; lead gives a quotient's number of the rest's. -/
def divS (m : Int) (lead : Int → Int) (f g : List Int) (n : Nat) : Nat → List Int × List Int
  | 0 => (f, List.replicate n 0)
  | t + 1 =>
    let s := divS m lead f g n t
    let k := n - 1 - t
    let c := lead (s.1.getD (k + g.length - 1) 0)
    (subK m s.1 k c g g.length, s.2.set k c)
/-- How long a quotient is. -/
def divN (f g : List Int) : Nat := f.length + 1 - g.length
theorem divS_len (m : Int) (lead : Int → Int) (f g : List Int) (n t : Nat) : (divS m lead f g n t).1.length = f.length ∧ (divS m lead f g n t).2.length = n := by
  induction t with
  | zero => simp [divS]
  | succ t ih => simp [divS, subK_len, ih]
theorem divS_bd {m : Int} (hm : 1 ≤ m) {lead : Int → Int} (hl : ∀ x, 0 ≤ x ∧ x ≤ m - 1 → 0 ≤ lead x ∧ lead x ≤ m - 1) {f g : List Int} {n : Nat} (h : ∀ x ∈ f, 0 ≤ x ∧ x ≤ m - 1) :
    ∀ t, (∀ x ∈ (divS m lead f g n t).1, 0 ≤ x ∧ x ≤ m - 1) ∧ (∀ x ∈ (divS m lead f g n t).2, 0 ≤ x ∧ x ≤ m - 1) := by
  intro t
  induction t with
  | zero =>
    refine ⟨h, fun x hx => ?_⟩
    simp only [divS, List.mem_replicate] at hx
    rw [hx.2]; omega
  | succ t ih =>
    refine ⟨subK_bd hm ih.1 _, fun x hx => ?_⟩
    simp only [divS] at hx
    rcases List.mem_or_eq_of_mem_set hx with hx | hx
    · exact ih.2 x hx
    · rw [hx]; exact hl _ (getD_bd (b := m - 1) (by omega) ih.1 _)
/-- The quotient and the remainder. -/
def quoF (m : Int) (lead : Int → Int) (f g : List Int) : List Int := trimF (divS m lead f g (divN f g) (divN f g)).2
def remF (m : Int) (lead : Int → Int) (f g : List Int) : List Int := trimF (divS m lead f g (divN f g) (divN f g)).1
end Go.Proofs.Ytdhnpmjoajaeiaa
