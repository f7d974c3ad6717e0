/- Products of polynomials: plain, and both texts. -/
import Derived.Test.YtdhnpmjoajaeiaaH3
import Derived.Test.YtdhnpmjoajaeiaaB4
namespace Go.Proofs.Ytdhnpmjoajaeiaa
open Go Go.RowKit

theorem getD_lt {xs : List Int} {j : Nat} (h : j < xs.length) : xs.getD j 0 = xs[j] := by simp [List.getD, List.getElem?_eq_getElem h]
def addAt (o : List Int) (j : Nat) (v : Int) : List Int := o.set j (o.getD j 0 + v)
/-- A row of a product, as far as the first k numbers. -/
def rowS (o : List Int) (i : Nat) (c : Int) (g : List Int) (k : Nat) : List Int := (List.range k).foldl (fun o t => addAt o (i + t) (c * g.getD t 0)) o
/-- The first i rows of a product. -/
def prodS (f g : List Int) (i : Nat) : List Int := (List.range i).foldl (fun o t => rowS o t (f.getD t 0) g g.length) (List.replicate (f.length + g.length - 1) 0)
def prodF (f g : List Int) : List Int := if f = [] ∨ g = [] then [] else trimF (prodS f g f.length)

theorem rowS_succ (o : List Int) (i : Nat) (c : Int) (g : List Int) (k : Nat) : rowS o i c g (k + 1) = addAt (rowS o i c g k) (i + k) (c * g.getD k 0) := by
  simp [rowS, List.range_succ]
theorem rowS_zero (o : List Int) (i : Nat) (c : Int) (g : List Int) : rowS o i c g 0 = o := rfl
theorem prodS_succ (f g : List Int) (i : Nat) : prodS f g (i + 1) = rowS (prodS f g i) i (f.getD i 0) g g.length := by
  simp [prodS, List.range_succ]
theorem addAt_len (o : List Int) (j : Nat) (v : Int) : (addAt o j v).length = o.length := by simp [addAt]
theorem rowS_len (o : List Int) (i : Nat) (c : Int) (g : List Int) (k : Nat) : (rowS o i c g k).length = o.length := by
  induction k with
  | zero => rfl
  | succ k ih => rw [rowS_succ, addAt_len, ih]
theorem prodS_len (f g : List Int) (i : Nat) : (prodS f g i).length = f.length + g.length - 1 := by
  induction i with
  | zero => simp [prodS]
  | succ i ih => rw [prodS_succ, rowS_len, ih]
theorem addAt_other {o : List Int} {j t : Nat} {v : Int} (h : j ≠ t) : (addAt o j v).getD t 0 = o.getD t 0 := by
  unfold addAt
  simp [List.getElem?_set_ne h]
theorem rowS_after (o : List Int) (i : Nat) (c : Int) (g : List Int) (k t : Nat) (h : i + k ≤ t) : (rowS o i c g k).getD t 0 = o.getD t 0 := by
  induction k with
  | zero => rfl
  | succ k ih => rw [rowS_succ, addAt_other (by omega), ih (by omega)]
theorem getD_bd {o : List Int} {b : Int} (hb : 0 ≤ b) (h : ∀ x ∈ o, 0 ≤ x ∧ x ≤ b) (t : Nat) : 0 ≤ o.getD t 0 ∧ o.getD t 0 ≤ b := by
  rcases Nat.lt_or_ge t o.length with hl | hl
  · rw [getD_lt hl]; exact h _ (List.getElem_mem hl)
  · rw [List.getD_eq_getElem?_getD, List.getElem?_eq_none hl]; exact ⟨Int.le_refl _, hb⟩
theorem rowS_bd {o : List Int} {b P c : Int} {i : Nat} {g : List Int} (hb : 0 ≤ b) (hP : 0 ≤ P) (h : ∀ x ∈ o, 0 ≤ x ∧ x ≤ b) (hc : ∀ t, 0 ≤ c * g.getD t 0 ∧ c * g.getD t 0 ≤ P) :
    ∀ k, ∀ x ∈ rowS o i c g k, 0 ≤ x ∧ x ≤ b + P := by
  intro k
  induction k with
  | zero => intro x hx; have := h x hx; omega
  | succ k ih =>
    intro x hx
    rw [rowS_succ] at hx
    rcases List.mem_or_eq_of_mem_set hx with hx | hx
    · exact ih x hx
    · rw [hx, rowS_after _ _ _ _ _ _ (Nat.le_refl _)]
      have h1 := getD_bd hb h (i + k)
      have h2 := hc k
      omega
theorem prodS_bd {f g : List Int} {P : Int} (hP : 0 ≤ P) (hc : ∀ i t, 0 ≤ f.getD i 0 * g.getD t 0 ∧ f.getD i 0 * g.getD t 0 ≤ P) : ∀ i : Nat, ∀ x ∈ prodS f g i, 0 ≤ x ∧ x ≤ P * i := by
  intro i
  induction i with
  | zero =>
    intro x hx
    simp only [prodS, List.range_zero, List.foldl_nil, List.mem_replicate] at hx
    rw [hx.2]; simp
  | succ i ih =>
    intro x hx
    rw [prodS_succ] at hx
    have e : P * ((i + 1 : Nat) : Int) = P * i + P := by rw [Int.natCast_add, Int.mul_add]; simp
    rw [e]
    exact rowS_bd (Int.mul_nonneg hP (by omega)) hP ih (hc i) _ x hx
theorem prods_of {f g : List Int} {P : Int} (hP : 0 ≤ P) (h : ∀ c ∈ f, ∀ d ∈ g, 0 ≤ c * d ∧ c * d ≤ P) : ∀ i t, 0 ≤ f.getD i 0 * g.getD t 0 ∧ f.getD i 0 * g.getD t 0 ≤ P := by
  intro i t
  rcases Nat.lt_or_ge i f.length with h1 | h1
  · rcases Nat.lt_or_ge t g.length with h2 | h2
    · rw [getD_lt h1, getD_lt h2]; exact h _ (List.getElem_mem h1) _ (List.getElem_mem h2)
    · rw [List.getD_eq_getElem?_getD (l := g), List.getElem?_eq_none h2]; simp [hP]
  · rw [List.getD_eq_getElem?_getD (l := f), List.getElem?_eq_none h1]; simp [hP]
/-- What the round needs of bounds. -/
theorem round_bd {f g : List Int} (hl : f.length ≤ 9) (h : ∀ c ∈ f, ∀ d ∈ g, 0 ≤ c * d ∧ c * d ≤ 1000000000000000000) {i k : Nat} (hi : i < f.length) :
    0 ≤ (rowS (prodS f g i) i (f.getD i 0) g k).getD (i + k) 0 ∧ (rowS (prodS f g i) i (f.getD i 0) g k).getD (i + k) 0 ≤ 8000000000000000000 := by
  rw [rowS_after _ _ _ _ _ _ (Nat.le_refl _)]
  have h0 := prods_of (by omega) h
  have h1 := getD_bd (Int.mul_nonneg (by omega) (by omega)) (prodS_bd (by omega) h0 i) (i + k)
  have : (1000000000000000000 : Int) * i ≤ 1000000000000000000 * 8 := Int.mul_le_mul_of_nonneg_left (by omega) (by omega)
  omega
theorem addAt_set {o : List Int} {j : Nat} {v : Int} : (vI o).set j (.int .i64 (o.getD j 0 + v)) = vI (addAt o j v) := by
  unfold addAt; simp [vI, List.map_set]
theorem vI_at {o : List Int} {j : Nat} (h : j < o.length) : (vI o)[j]? = some (.int .i64 (o.getD j 0)) := by
  rw [getD_lt h]; simp [vI, h]
theorem rd_at {w : World} {b o cap n : Nat} {xs : List Int} (h : rdI w (.slice (some ⟨b, o, none⟩) n cap) xs) {j : Nat} (hj : j < xs.length) : w.cell? ⟨b, o + j, none⟩ = some (.int .i64 (xs.getD j 0)) := by
  obtain ⟨a, cap', he, hm, hc⟩ := h
  cases he
  obtain ⟨b', o', e, hcell⟩ := hc (by intro e; subst e; simp at hj)
  cases e
  rw [hcell j hj, getD_lt hj]
theorem rd_head {w : World} {a : Option Addr} {cap n : Nat} {xs : List Int} (h : rdI w (.slice a n cap) xs) (hne : xs ≠ []) : ∃ b o, a = some ⟨b, o, none⟩ := by
  obtain ⟨a', cap', he, hm, hc⟩ := h
  cases he
  obtain ⟨b, o, e, _⟩ := hc hne
  exact ⟨b, o, e⟩

theorem rawAft {B n : Nat} {w : World} {v : Value} {xs : List Value} (h : w.ownsRow B 2 1 v n xs) (u : World) : (aft w u).ownsRow B 2 1 v n xs := by
  refine ⟨h.1, ?_⟩
  rcases h.2 with hn | ⟨g, cap, cur, rfl, hg, hh, r⟩
  · exact .inl hn
  · have hlt : g < w.heap.size := (Array.getElem?_eq_some_iff.1 hh).1
    exact .inr ⟨g, cap, cur, rfl, hg, by rw [(below_aft w u).block g hlt]; exact hh, r⟩

/-- The state of the statement's product: the remainders of the program's. -/
def modL (m : Int) (xs : List Int) : List Int := xs.map (· % m)
theorem modL_len (m : Int) (xs : List Int) : (modL m xs).length = xs.length := by simp [modL]
theorem modL_getD {m : Int} {xs : List Int} (j : Nat) : (modL m xs).getD j 0 = xs.getD j 0 % m := by
  rcases Nat.lt_or_ge j xs.length with h | h
  · rw [getD_lt (by rw [modL_len]; exact h), getD_lt h]; simp [modL]
  · rw [List.getD_eq_getElem?_getD, List.getD_eq_getElem?_getD, List.getElem?_eq_none h, List.getElem?_eq_none (by rw [modL_len]; exact h)]; simp
theorem modL_add {m v : Int} {xs : List Int} {j : Nat} : (vI (modL m xs)).set j (.int .i64 ((xs.getD j 0 % m + v) % m)) = vI (modL m (addAt xs j v)) := by
  have e : (modL m xs).set j ((xs.getD j 0 % m + v) % m) = modL m (addAt xs j v) := by
    unfold addAt modL
    rw [List.map_set]
    congr 1
    rw [Int.emod_add_emod]
  rw [← e]
  simp [vI, List.map_set]

end Go.Proofs.Ytdhnpmjoajaeiaa
