/- The permutations that some generate: plain. -/
import Derived.Test.YtbkbcbanfnhjpaaN1
namespace Go.Proofs.Ytbkbcbanfnhjpaa
open Go Go.RowKit

/-- A row of n points. -/
def PermL (n : Nat) (x : List Int) : Prop := x.length = n ∧ ∀ y ∈ x, 0 ≤ y ∧ y < (n : Int)
theorem PermL.id (n : Nat) : PermL n (idP n) := ⟨idP_len n, fun y hy => by
  unfold idP at hy
  obtain ⟨i, hi, rfl⟩ := List.mem_map.1 hy
  rw [List.mem_range] at hi
  omega⟩
theorem PermL.prod {n : Nat} {a b : List Int} (ha : PermL n a) (hb : PermL n b) : PermL n (prodF a b) := ⟨by rw [prodF_len]; exact hb.1, fun y hy => by
  unfold prodF at hy
  obtain ⟨i, hi, rfl⟩ := List.mem_map.1 hy
  have hr := hb.2 i hi
  have hl : i.toNat < a.length := by rw [ha.1]; omega
  rw [List.getD_eq_getElem?_getD, List.getElem?_eq_getElem hl]
  exact ha.2 _ (List.getElem_mem hl)⟩
theorem PermL.rk {n : Nat} {a : List Int} (ha : PermL n a) : 0 ≤ rankF a ∧ rankF a < (facN n : Int) := by
  have := rankF_bd a
  rw [ha.1] at this
  exact this
/-- Numbers below F, each once, are at most F. -/
theorem nodup_len : ∀ (F : Nat) (xs : List Int), xs.Nodup → (∀ x ∈ xs, 0 ≤ x ∧ x < (F : Int)) → xs.length ≤ F := by
  intro F
  induction F with
  | zero =>
    intro xs _ h
    rcases xs with _ | ⟨x, r⟩
    · simp
    · have := h x (by simp); omega
  | succ F ih =>
    intro xs hn h
    by_cases hm : (F : Int) ∈ xs
    · have h1 := ih (xs.erase (F : Int)) (hn.erase _) (fun x hx => by
        have h2 := (hn.mem_erase_iff).1 hx
        have h3 := h x h2.2
        have := h2.1
        omega)
      rw [List.length_erase_of_mem hm] at h1
      omega
    · have h1 := ih xs hn (fun x hx => by
        have h3 := h x hx
        have : x ≠ (F : Int) := fun e => hm (by rw [← e]; exact hx)
        omega)
      omega

def addG (ms : List (List Int)) (b : List Int) : List (List Int) := if (ms.map rankF).contains (rankF b) = true then ms else ms ++ [b]
def expG (gs : List (List Int)) (x : List Int) (ms : List (List Int)) : List (List Int) := gs.foldl (fun ms a => addG ms (prodF a x)) ms
def bfsG (gs : List (List Int)) : Nat → Nat → List (List Int) → List (List Int)
  | 0, _, ms => ms
  | f + 1, k, ms => match ms[k]? with
    | none => ms
    | some x => bfsG gs f (k + 1) (expG gs x ms)
/-- All that some generate, in the order of the search. -/
def genM (n : Nat) (gs : List (List Int)) : List (List Int) := bfsG gs (facN n + 1) 0 [idP n]
def genR (n : Nat) (gs : List (List Int)) : List Int := listedU ((genM n gs).map rankF) (facN n)

/-- What the list of the search is at each step. -/
structure GoodM (n : Nat) (ms : List (List Int)) : Prop where
  perm : ∀ x ∈ ms, PermL n x
  nodup : (ms.map rankF).Nodup
theorem GoodM.len {n : Nat} {ms : List (List Int)} (h : GoodM n ms) : ms.length ≤ facN n := by
  have := nodup_len (facN n) (ms.map rankF) h.nodup (fun x hx => by
    obtain ⟨y, hy, rfl⟩ := List.mem_map.1 hx
    exact (h.perm y hy).rk)
  rwa [List.length_map] at this
theorem GoodM.one (n : Nat) : GoodM n [idP n] := ⟨fun x hx => by rw [List.mem_singleton.1 hx]; exact PermL.id n, by simp⟩
theorem addG_has {ms : List (List Int)} {b : List Int} (h : (ms.map rankF).contains (rankF b) = true) : addG ms b = ms := by unfold addG; rw [if_pos h]
theorem addG_new {ms : List (List Int)} {b : List Int} (h : (ms.map rankF).contains (rankF b) = false) : addG ms b = ms ++ [b] := by unfold addG; rw [if_neg (by rw [h]; decide)]
theorem GoodM.snoc {n : Nat} {ms : List (List Int)} {b : List Int} (h : GoodM n ms) (hb : PermL n b) (hc : (ms.map rankF).contains (rankF b) = false) : GoodM n (ms ++ [b]) := by
  refine ⟨fun x hx => ?_, ?_⟩
  · rcases List.mem_append.1 hx with hx | hx
    · exact h.perm x hx
    · rw [List.mem_singleton.1 hx]; exact hb
  · rw [List.map_append, List.nodup_append]
    refine ⟨h.nodup, by simp, ?_⟩
    intro a ha c hcc e
    simp at hcc
    subst hcc
    subst e
    rw [List.contains_eq_mem] at hc
    simp only [decide_eq_false_iff_not] at hc
    exact hc ha
theorem GoodM.add {n : Nat} {ms : List (List Int)} {b : List Int} (h : GoodM n ms) (hb : PermL n b) : GoodM n (addG ms b) := by
  cases hc : (ms.map rankF).contains (rankF b)
  · rw [addG_new hc]; exact h.snoc hb hc
  · rw [addG_has hc]; exact h
theorem addG_pre (ms : List (List Int)) (b : List Int) : ms <+: addG ms b := by
  unfold addG
  split
  · exact List.prefix_refl _
  · exact List.prefix_append _ _
theorem addG_get {ms : List (List Int)} {k : Nat} {x : List Int} (h : ms[k]? = some x) (b : List Int) : (addG ms b)[k]? = some x := by
  unfold addG
  split
  · exact h
  · rw [List.getElem?_append_left (List.getElem?_eq_some_iff.1 h).1]; exact h
theorem expG_nil (x : List Int) (ms : List (List Int)) : expG [] x ms = ms := rfl
theorem expG_cons (a : List Int) (gs : List (List Int)) (x : List Int) (ms : List (List Int)) : expG (a :: gs) x ms = expG gs x (addG ms (prodF a x)) := rfl
theorem expG_drop {gs : List (List Int)} {j : Nat} (h : j < gs.length) (x : List Int) (ms : List (List Int)) : expG (gs.drop j) x ms = expG (gs.drop (j + 1)) x (addG ms (prodF gs[j] x)) := by
  rw [List.drop_eq_getElem_cons h, expG_cons]
theorem bfsG_step {gs : List (List Int)} {f k : Nat} {ms : List (List Int)} {x : List Int} (h : ms[k]? = some x) : bfsG gs (f + 1) k ms = bfsG gs f (k + 1) (expG gs x ms) := by
  conv => lhs; unfold bfsG
  rw [h]
theorem bfsG_end (gs : List (List Int)) (f : Nat) (ms : List (List Int)) : bfsG gs f ms.length ms = ms := by
  cases f with
  | zero => rfl
  | succ f => unfold bfsG; rw [List.getElem?_eq_none (Nat.le_refl _)]
/-- The queue of the search, its head taken. -/
theorem drop_head {ms : List (List Int)} {k : Nat} {x : List Int} (h : ms[k]? = some x) : ms.drop k = x :: ms.drop (k + 1) := by
  obtain ⟨h1, h2⟩ := List.getElem?_eq_some_iff.1 h
  rw [List.drop_eq_getElem_cons h1, h2]
theorem genM_len {n : Nat} {gs : List (List Int)} : (genR n gs).length ≤ facN n := listedU_len _ _
end Go.Proofs.Ytbkbcbanfnhjpaa
