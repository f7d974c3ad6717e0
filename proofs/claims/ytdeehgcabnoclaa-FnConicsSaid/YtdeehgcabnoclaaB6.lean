/- What 'go_region_held3' holds: the cells of the blocks that were there at the region's beginning. -/
import Derived.Test.YtdeehgcabnoclaaB3
import Derived.Test.YtdeehgcabnoclaaB5
import Derived.Deep.DeepCutAuto
import Derived.Deep.RegionHeld3
namespace Go.Proofs.Ytdeehgcabnoclaa
open Go Go.RowKit

theorem held_aft {W w1 : World} (h : (∀ b o, b < W.heap.size → w1.cell? ⟨b, o, none⟩ = W.cell? ⟨b, o, none⟩) ∧ W.heap.size ≤ w1.heap.size) (u : World) : (∀ b o, b < W.heap.size → (aft w1 u).cell? ⟨b, o, none⟩ = W.cell? ⟨b, o, none⟩) ∧ W.heap.size ≤ (aft w1 u).heap.size :=
  ⟨fun b o hb => by rw [aft_cell, if_pos (by omega)]; exact h.1 b o hb, le_aft h.2⟩
theorem held_alloc {W w1 : World} (h : (∀ b o, b < W.heap.size → w1.cell? ⟨b, o, none⟩ = W.cell? ⟨b, o, none⟩) ∧ W.heap.size ≤ w1.heap.size) (zs : Array Value) (T : TypeId) : (∀ b o, b < W.heap.size → (w1.alloc (.cells zs T)).cell? ⟨b, o, none⟩ = W.cell? ⟨b, o, none⟩) ∧ W.heap.size ≤ (w1.alloc (.cells zs T)).heap.size :=
  ⟨fun b o hb => by rw [alloc_cell, if_neg (by omega)]; exact h.1 b o hb, by simp; omega⟩
theorem held_refl {W : World} : (∀ b o, b < W.heap.size → W.cell? ⟨b, o, none⟩ = W.cell? ⟨b, o, none⟩) ∧ W.heap.size ≤ W.heap.size := ⟨fun _ _ _ => rfl, Nat.le_refl _⟩
theorem held_drew {W w1 : World} (h : (∀ b o, b < W.heap.size → w1.cell? ⟨b, o, none⟩ = W.cell? ⟨b, o, none⟩) ∧ W.heap.size ≤ w1.heap.size) : (∀ b o, b < W.heap.size → w1.drew.cell? ⟨b, o, none⟩ = W.cell? ⟨b, o, none⟩) ∧ W.heap.size ≤ w1.drew.heap.size := h
theorem held_set {W w1 : World} (h : (∀ b o, b < W.heap.size → w1.cell? ⟨b, o, none⟩ = W.cell? ⟨b, o, none⟩) ∧ W.heap.size ≤ w1.heap.size) {b' o' : Nat} {v : Value} (hb : W.heap.size ≤ b') : (∀ b o, b < W.heap.size → (w1.setCell ⟨b', o', none⟩ v).cell? ⟨b, o, none⟩ = W.cell? ⟨b, o, none⟩) ∧ W.heap.size ≤ (w1.setCell ⟨b', o', none⟩ v).heap.size :=
  ⟨fun b o hlt => by rw [set_cell, if_neg (by omega)]; exact h.1 b o hlt, by simpa using h.2⟩
theorem le_drew {b : Nat} {w : World} (h : b ≤ w.heap.size) : b ≤ w.drew.heap.size := h
def blk (w : World) (b : Nat) : Option Obj := w.heap[b]?
noncomputable def nwB (w u : World) (b : Nat) : Option Obj := blk (aft w u) b
theorem aft_blk (w u : World) (b : Nat) : blk (aft w u) b = if b < w.heap.size then blk w b else nwB w u b := by
  split
  · exact (below_aft w u).block b ‹_›
  · rfl
theorem alloc_blk (w : World) (o : Obj) (b : Nat) : blk (w.alloc o) b = if b = w.heap.size then some o else blk w b := by
  show (w.heap.push o)[b]? = _
  rw [Array.getElem?_push]; rfl
theorem set_blk (w : World) (b o b' : Nat) (v : Value) : blk (w.setCell ⟨b, o, none⟩ v) b' = if b = b' then (blk w b').map (fun x => match x with | .cells c e f => .cells (c.setIfInBounds o v) e f | y => y) else blk w b' := by
  simp only [blk, World.setCell, Array.getElem?_modify]
  split <;> rfl
theorem drew_blk (w : World) (b : Nat) : blk w.drew b = blk w b := rfl
theorem okZ_mk {W w : World} {b : Nat} {Z : Obj} (h : Below W.heap.size W w) (hb : W.heap.size ≤ b) (hz : blk w b = some Z) : okZ W b Z w := ⟨h, hb, hz⟩
theorem okZ.keep {W w : World} {b b' : Nat} {Z : Obj} (h : okZ W b Z w) (hb : b' < W.heap.size) (o : Nat) : w.cell? ⟨b', o, none⟩ = W.cell? ⟨b', o, none⟩ := h.1.cell (p := ⟨b', o, none⟩) hb
theorem okZ.at {W w : World} {b : Nat} {zs : Array Value} {T : TypeId} (h : okZ W b (.cells zs T) w) (o : Nat) : w.cell? ⟨b, o, none⟩ = zs[o]? := by
  have := h.2.2
  simp [World.cell?, this]
theorem okZ.lt {W w : World} {b : Nat} {Z : Obj} (h : okZ W b Z w) : b < w.heap.size := (Array.getElem?_eq_some_iff.1 h.2.2).1
theorem okZ.ext {W w w0 : World} {b : Nat} {Z : Obj} (h : okZ W b Z w) (hE : Ext w0.heap.size w0 W) : Ext w0.heap.size w0 w := hE.below h.1
theorem Ext.of {w0 W w : World} (hE : Ext w0.heap.size w0 W) (h : Ext W.heap.size W w) : Ext w0.heap.size w0 w := hE.below h.1
end Go.Proofs.Ytdeehgcabnoclaa
