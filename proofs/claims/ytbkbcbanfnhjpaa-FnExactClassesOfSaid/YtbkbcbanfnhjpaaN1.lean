/- Lists that rise; flags: plain. -/
import Derived.Test.YtbkbcbanfnhjpaaN0
namespace Go.Proofs.Ytbkbcbanfnhjpaa
open Go Go.RowKit

theorem asc_unique : ∀ {a b : List Int}, a.Pairwise (· < ·) → b.Pairwise (· < ·) → (∀ x, x ∈ a ↔ x ∈ b) → a = b := by
  intro a
  induction a with
  | nil =>
    intro b _ _ h
    rcases b with _ | ⟨y, s⟩
    · rfl
    · exact absurd ((h y).2 (by simp)) (by simp)
  | cons x r ih =>
    intro b ha hb h
    rcases b with _ | ⟨y, s⟩
    · exact absurd ((h x).1 (by simp)) (by simp)
    · rw [List.pairwise_cons] at ha hb
      have e : x = y := by
        rcases List.mem_cons.1 ((h x).1 (by simp)) with e | e
        · exact e
        · rcases List.mem_cons.1 ((h y).2 (by simp)) with e' | e'
          · exact e'.symm
          · have := hb.1 x e; have := ha.1 y e'; omega
      subst e
      congr 1
      refine ih ha.2 hb.2 fun z => ?_
      have hz := h z
      constructor
      · intro hm
        rcases List.mem_cons.1 (hz.1 (by simp [hm])) with e | e
        · have := ha.1 z hm; omega
        · exact e
      · intro hm
        rcases List.mem_cons.1 (hz.2 (by simp [hm])) with e | e
        · have := hb.1 z hm; omega
        · exact e

/-- Which of 0 .. F - 1 are in a list. -/
def flagsOf (F : Nat) (xs : List Int) : List Bool := (List.range F).map fun (i : Nat) => xs.contains (i : Int)
theorem flagsOf_len (F : Nat) (xs : List Int) : (flagsOf F xs).length = F := by simp [flagsOf]
theorem flagsOf_nil (F : Nat) : flagsOf F [] = List.replicate F false := by
  refine List.ext_getElem (by simp [flagsOf]) fun i h1 h2 => ?_
  simp [flagsOf]
theorem flagsOf_get {F : Nat} {xs : List Int} {i : Nat} (h : i < F) : (flagsOf F xs)[i]? = some (xs.contains (i : Int)) := by
  simp [flagsOf, h]
theorem flagsOf_set {F : Nat} {xs : List Int} {i : Nat} (h : i < F) : (flagsOf F xs).set i true = flagsOf F (xs ++ [(i : Int)]) := by
  refine List.ext_getElem (by simp [flagsOf]) fun k h1 h2 => ?_
  rw [List.getElem_set]
  simp only [flagsOf, List.getElem_map, List.getElem_range, List.contains_eq_mem, List.mem_append, List.mem_singleton]
  split
  · rename_i e; subst e; simp
  · rename_i e
    have : ¬ (k : Int) = (i : Int) := by omega
    simp [this]
theorem flagsOf_congr {F : Nat} {xs ys : List Int} (h : ∀ x, x ∈ xs ↔ x ∈ ys) : flagsOf F xs = flagsOf F ys := by
  refine List.map_congr_left fun i _ => ?_
  simp only [List.contains_eq_mem, h]
/-- The numbers that flags tell, as far as the first k. -/
def listedU (xs : List Int) (k : Nat) : List Int := ((List.range k).filter fun (i : Nat) => xs.contains (i : Int)).map fun (i : Nat) => (i : Int)
theorem listedU_zero (xs : List Int) : listedU xs 0 = [] := rfl
theorem listedU_succ (xs : List Int) (k : Nat) : listedU xs (k + 1) = if xs.contains (k : Int) then listedU xs k ++ [(k : Int)] else listedU xs k := by
  unfold listedU
  rw [List.range_succ, List.filter_append, List.map_append]
  cases h : xs.contains (k : Int) <;> simp only [List.filter_cons, h] <;> simp
theorem listedU_mem {xs : List Int} {k : Nat} {x : Int} : x ∈ listedU xs k ↔ 0 ≤ x ∧ x < k ∧ x ∈ xs := by
  unfold listedU
  simp only [List.mem_map, List.mem_filter, List.mem_range, List.contains_eq_mem, decide_eq_true_eq]
  constructor
  · rintro ⟨i, ⟨h1, h2⟩, rfl⟩; exact ⟨by omega, by omega, h2⟩
  · rintro ⟨h1, h2, h3⟩; exact ⟨x.toNat, ⟨by omega, by rwa [show ((x.toNat : Nat) : Int) = x by omega]⟩, by omega⟩
theorem listedU_asc (xs : List Int) (k : Nat) : (listedU xs k).Pairwise (· < ·) := by
  unfold listedU
  rw [List.pairwise_map]
  refine List.Pairwise.imp (R := fun (a b : Nat) => a < b) (fun h => by omega) ?_
  exact List.Pairwise.sublist List.filter_sublist (List.pairwise_lt_range)
theorem listedU_len (xs : List Int) (k : Nat) : (listedU xs k).length ≤ k := by
  unfold listedU
  rw [List.length_map]
  exact Nat.le_trans (List.length_filter_le _ _) (by simp)
/-- A list that rises is what the flags of its members tell. -/
theorem listedU_self {xs ys : List Int} {k : Nat} (ha : xs.Pairwise (· < ·)) (hr : ∀ x ∈ xs, 0 ≤ x ∧ x < k) (h : ∀ x, x ∈ xs ↔ x ∈ ys) : listedU ys k = xs :=
  asc_unique (listedU_asc _ _) ha fun x => by rw [listedU_mem, ← h]; exact ⟨fun h => h.2.2, fun h => ⟨(hr x h).1, (hr x h).2, h⟩⟩
/-- Sorted, each once. -/
def sortU (xs : List Int) : List Int := listedU xs 720
end Go.Proofs.Ytbkbcbanfnhjpaa
