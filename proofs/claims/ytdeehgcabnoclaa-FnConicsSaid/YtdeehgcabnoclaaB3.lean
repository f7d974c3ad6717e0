/- Marks: slices of the call's own that are written and read again. -/
import Derived.Test.YtdeehgcabnoclaaB2
namespace Go.Proofs.Ytdeehgcabnoclaa
open Go Go.RowKit

open Classical in
noncomputable def aftB (B : Nat) (w u : World) : World := if Below B w u then u else w
theorem below_aftB (B : Nat) (w u : World) : Below B w (aftB B w u) := by
  unfold aftB; split
  · assumption
  · exact Below.refl _ _
theorem aftB_ex {B : Nat} {w w' : World} (h : Below B w w') : ∃ u, w' = aftB B w u := ⟨w', by unfold aftB; rw [if_pos h]⟩
theorem size_aftB (B : Nat) (w u : World) : w.heap.size ≤ (aftB B w u).heap.size := (below_aftB B w u).size
noncomputable def nwCB (B : Nat) (w u : World) (b o : Nat) : Option Value := (aftB B w u).cell? ⟨b, o, none⟩
noncomputable def nwFB (B : Nat) (w u : World) (b o : Nat) : Bool := (aftB B w u).frozen? ⟨b, o, none⟩
theorem aftB_cell (B : Nat) (w u : World) (b o : Nat) : (aftB B w u).cell? ⟨b, o, none⟩ = if b < B then w.cell? ⟨b, o, none⟩ else nwCB B w u b o := by
  split
  · exact (below_aftB B w u).cell (p := ⟨b, o, none⟩) ‹_›
  · rfl
theorem aftB_frozen (B : Nat) (w u : World) (b o : Nat) : (aftB B w u).frozen? ⟨b, o, none⟩ = if b < B then w.frozen? ⟨b, o, none⟩ else nwFB B w u b o := by
  split
  · exact (below_aftB B w u).frozen (p := ⟨b, o, none⟩) ‹_›
  · rfl
attribute [go_sem] aftB_cell aftB_frozen
theorem Ext.aftB {B : Nat} {w W : World} (h : Ext B w W) (B' : Nat) (u : World) (hB : B ≤ B') : Ext B w (aftB B' W u) := ⟨h.1.trans ((below_aftB B' W u).mono hB), Nat.le_trans h.2 (size_aftB _ _ _)⟩

/-- v's row lies below L. -/
def rowLt (L : Nat) (v : Value) : Prop := ∀ k, v.ownBlock = some k → k < L
theorem rowLt.mono {L L' : Nat} {v : Value} (h : rowLt L v) (hl : L ≤ L') : rowLt L' v := fun k hk => Nat.lt_of_lt_of_le (h k hk) hl
theorem ownR.rowLt {B : Nat} {w : World} {v : Value} {xs : List Int} (h : ownR B w v xs) : rowLt w.heap.size v := fun k hk => (World.ownsRow.lt h k hk).2
theorem ownR.aftB {B0 B : Nat} {w : World} {v : Value} {xs : List Int} (h : ownR B0 w v xs) (u : World) (hl : Go.Proofs.Ytdeehgcabnoclaa.rowLt B v) : ownR B0 (aftB B w u) v xs :=
  h.kept fun k _ hk => (below_aftB B w u).block k (hl k hk)
theorem rdI.aftB {B L : Nat} {w : World} {v : Value} {xs : List Int} (h : rdI w v xs) (u : World) (hl : rowLt L v) (hB : L ≤ B) : rdI (aftB B w u) v xs := by
  obtain ⟨a, cap, rfl, hm, hc⟩ := h
  refine ⟨a, cap, rfl, hm, fun hne => ?_⟩
  obtain ⟨b, o, rfl, hcell⟩ := hc hne
  refine ⟨b, o, rfl, fun i hi => ?_⟩
  have h1 := hcell i hi
  have h2 := hl b rfl
  rw [(below_aftB B w u).cell (p := ⟨b, o + i, none⟩) (show b < B by omega)]
  exact h1

theorem rdI.belowB {B L : Nat} {w w' : World} {v : Value} {xs : List Int} (hb : Below B w w') (h : rdI w v xs) (hl : Go.Proofs.Ytdeehgcabnoclaa.rowLt L v) (hB : L ≤ B) : rdI w' v xs := by
  obtain ⟨u, rfl⟩ := aftB_ex hb; exact h.aftB u hl hB
theorem le_aftB {B b : Nat} {w u : World} (h : b ≤ w.heap.size) : b ≤ (Go.Proofs.Ytdeehgcabnoclaa.aftB B w u).heap.size := Nat.le_trans h (size_aftB B w u)
theorem le_alloc {b : Nat} {w : World} {o : Obj} (h : b ≤ w.heap.size) : b ≤ (w.alloc o).heap.size := by simp; omega
theorem le_set {b : Nat} {w : World} {a : Addr} {v : Value} (h : b ≤ w.heap.size) : b ≤ (w.setCell a v).heap.size := by simpa using h

def marks (k : Int) (n : Nat) : List Int := (List.range n).map fun (i : Nat) => k + (i : Int)
theorem marks_len (k : Int) (n : Nat) : (marks k n).length = n := by simp [marks]
theorem marks_succ (k : Int) (n : Nat) : marks k (n + 1) = marks k n ++ [k + n] := by simp [marks, List.range_succ]

theorem mark_step {k : Int} {xs : List Int} {j : Nat} (h : j < xs.length) :
    (vI (marks k j ++ xs.drop j)).set j (.int .i64 (k + j)) = vI (marks k (j + 1) ++ xs.drop (j + 1)) := by
  have e : (marks k j ++ xs.drop j).set j (k + j) = marks k (j + 1) ++ xs.drop (j + 1) := by
    have hl := marks_len k j
    rw [List.set_append_right _ _ (by omega), hl, Nat.sub_self, List.drop_eq_getElem_cons h, List.set_cons_zero, marks_succ, List.append_assoc]
    rfl
  rw [← e]
  simp [vI, List.map_set]
theorem grownBy_refl (w : World) (row : Option Nat) : w.grownBy w row := ⟨rfl, rfl, rfl, Nat.le_refl _, fun _ _ _ => rfl⟩
theorem grownBy_trans {a b c : World} {row : Option Nat} (h : a.grownBy b row) (k : b.grownBy c row) : a.grownBy c row :=
  ⟨k.os.trans h.os, k.tape.trans h.tape, k.output.trans h.output, Nat.le_trans h.size k.size, fun i hi hn => (k.block i (Nat.lt_of_lt_of_le hi h.size) hn).trans (h.block i hi hn)⟩


end Go.Proofs.Ytdeehgcabnoclaa
