/- Draws: a ring and a polynomial. -/
import Derived.Test.YtflmoopiajhadaaZ3
import Derived.Test.YtflmoopiajhadaaMA
namespace Go.Proofs.Ytflmoopiajhadaa
open Go Go.RowKit

/-- A product of two monic polynomials has as many numbers as it should. -/
theorem mul_monic {m : Int} {f g : List Int} (hm : 2 ≤ m) {a b : Nat} (hf : f.length = a + 1) (hg : g.length = b + 1) (f1 : f.getD a 0 = 1) (g1 : g.getD b 0 = 1) : 1 ≤ (mulR m f g).length ∧ (mulR m f g).length ≤ a + b + 2 := by
  refine ⟨?_, by have := mulR_len m f g; omega⟩
  have e : (mulR m f g).getD (a + b) 0 = 1 := by
    rw [mulR_getD]
    have : conv f g (a + b) = 1 := by
      unfold conv
      rw [sumR_congr _ (g := fun i => if i = a then 1 else 0) ?_, sumR_single, if_pos (by omega)]
      intro i hi
      by_cases h : i = a
      · subst h; rw [if_pos rfl, f1, show i + b - i = b by omega, g1]; rfl
      · rw [if_neg h]
        rcases Nat.lt_or_ge i a with h1 | h1
        · rw [getD_out (l := g) (by omega)]; simp
        · rw [getD_out (l := f) (by omega)]; simp
    rw [this]
    exact Int.emod_eq_of_lt (by omega) (by omega)
  rcases Nat.eq_zero_or_pos (mulR m f g).length with h | h
  · rw [getD_out (by omega)] at e; omega
  · exact h
/-- What stays as draws go on: the ring's cells, the result's cells, the source. -/
structure stR (B b : Nat) (p n : Int) (K : Nat) (w X : World) : Prop where
  gr : Gr b w X
  srcw : src B b X
  ring : ∀ o, X.cell? ⟨K, o, none⟩ = #[Value.int .i64 p, .int .i64 n][o]?
  res : ∀ k, k < 2 → X.frozen? ⟨w.heap.size, k, none⟩ = false ∧ (X.cell? ⟨w.heap.size, k, none⟩).isSome = true
  wk : w.heap.size < K
  kx : K < X.heap.size
  bw : b < w.heap.size
theorem stR.next {B b K : Nat} {p n : Int} {w X Y : World} (h : stR B b p n K w X) (hg : Gr b X Y) (hs : src B b Y) : stR B b p n K w Y := by
  have h1 := h.wk
  have h2 := h.kx
  have h3 := h.bw
  have hbl := hg.block w.heap.size (by omega) (fun e => by injection e with e; omega)
  refine ⟨grownBy_trans h.gr hg, hs, fun o => (World.cell?_of_block (a := ⟨K, o, none⟩) (hg.block K h2 (fun e => by injection e with e; omega))).trans (h.ring o), fun k hk => ?_, h1, Nat.lt_of_lt_of_le h2 hg.size, h3⟩
  rw [World.cell?_of_block (a := ⟨w.heap.size, k, none⟩) hbl, World.frozen?_of_block (a := ⟨w.heap.size, k, none⟩) hbl]
  exact h.res k hk
theorem stR.grown {B b K : Nat} {p n : Int} {w X Y : World} {own : Option Nat} (h : stR B b p n K w X) (hg : X.grownBy Y own) (ho : ∀ k, own = some k → K < k) : stR B b p n K w Y := by
  have h1 := h.wk
  have h2 := h.kx
  have h3 := h.bw
  have hB := h.srcw.ge
  have hbl := hg.block w.heap.size (by omega) (fun e => by have := ho _ e.symm; omega)
  refine ⟨grown_newD h.gr hg (fun k hk => by have := ho k hk; omega), src.grown h.srcw hg (fun e => by have := ho b e.symm; omega) (fun k hk => by have := ho k hk; omega), fun o => (World.cell?_of_block (a := ⟨K, o, none⟩) (hg.block K h2 (fun e => by have := ho K e.symm; omega))).trans (h.ring o), fun k hk => ?_, h1, Nat.lt_of_lt_of_le h2 hg.size, h3⟩
  rw [World.cell?_of_block (a := ⟨w.heap.size, k, none⟩) hbl, World.frozen?_of_block (a := ⟨w.heap.size, k, none⟩) hbl]
  exact h.res k hk
theorem gr_at {b G : Nat} {V w' : World} {cs : Array Value} (h1 : G < V.heap.size) (h2 : G ≠ b) (hc : ∀ o, V.cell? ⟨G, o, none⟩ = cs[o]?) (h : Gr b V w') : (∀ o, w'.cell? ⟨G, o, none⟩ = cs[o]?) ∧ V.heap.size ≤ w'.heap.size :=
  ⟨fun o => (World.cell?_of_block (a := ⟨G, o, none⟩) (h.block G h1 (fun e => by injection e with e; omega))).trans (hc o), h.size⟩
/-- What a region keeps that draws and fills a result's block. -/
def heldD (b R : Nat) (V w' : World) : Prop := (∀ k o, k < V.heap.size → k ≠ b → k ≠ R → w'.cell? ⟨k, o, none⟩ = V.cell? ⟨k, o, none⟩) ∧ V.heap.size ≤ w'.heap.size
theorem heldD.refl (b R : Nat) (V : World) : heldD b R V V := ⟨fun _ _ _ _ _ => rfl, Nat.le_refl _⟩
theorem heldD.drew {b R : Nat} {V w' : World} (h : heldD b R V w') : heldD b R V w'.drew := h
theorem heldD.aft {b R : Nat} {V w' : World} (h : heldD b R V w') (u : World) : heldD b R V (Go.Proofs.Ytflmoopiajhadaa.aft w' u) :=
  ⟨fun k o hk h1 h2 => by have := h.2; rw [aft_cell, if_pos (by omega)]; exact h.1 k o hk h1 h2, le_aft h.2⟩
theorem heldD.aftD {b R : Nat} {V w' : World} (h : heldD b R V w') (u : World) : heldD b R V (Go.Proofs.Ytflmoopiajhadaa.aftD b w' u) :=
  ⟨fun k o hk h1 h2 => by have := h.2; rw [aftD_cell, if_pos ⟨by omega, h1⟩]; exact h.1 k o hk h1 h2, le_aftD h.2⟩
theorem heldD.alloc {b R : Nat} {V w' : World} (h : heldD b R V w') (zs : Array Value) (T : TypeId) : heldD b R V (w'.alloc (.cells zs T)) :=
  ⟨fun k o hk h1 h2 => by have := h.2; rw [alloc_cell, if_neg (by omega)]; exact h.1 k o hk h1 h2, by have := h.2; simp; omega⟩
theorem heldD.set {b R : Nat} {V w' : World} (h : heldD b R V w') (o' : Nat) (v : Value) : heldD b R V (w'.setCell ⟨R, o', none⟩ v) :=
  ⟨fun k o hk h1 h2 => by rw [set_cell, if_neg (fun e => h2 e.1.symm)]; exact h.1 k o hk h1 h2, by simpa using h.2⟩
theorem heldD.at {b R G : Nat} {V w' : World} {cs : Array Value} (h1 : G < V.heap.size) (h2 : G ≠ b) (h3 : G ≠ R) (hc : ∀ o, V.cell? ⟨G, o, none⟩ = cs[o]?) (h : heldD b R V w') : (∀ o, w'.cell? ⟨G, o, none⟩ = cs[o]?) ∧ V.heap.size ≤ w'.heap.size :=
  ⟨fun o => (h.1 G o h1 h2 h3).trans (hc o), h.2⟩
theorem own_cells (W : World) (k : Nat) (xs : List Int) (hk : W.heap.size = k) (hl : xs.length ≤ 1000) : ownR k (W.alloc (.cells (vI xs).toArray 2)) (.slice (some ⟨k, 0, none⟩) xs.length xs.length) xs := by
  subst hk
  exact ⟨by rw [vI_len, Nat.mul_one], .inr ⟨_, xs.length, _, rfl, Nat.le_refl _, heap_alloc_new _ _, Nat.le_refl _, by unfold maxLen; omega, by simp [vI_len], List.take_of_length_le (by simp [vI_len])⟩⟩
end Go.Proofs.Ytflmoopiajhadaa
