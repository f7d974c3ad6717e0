/- Slices of int64: what a slice reads as; what a call has made. -/
import Derived.Test.YtdeehgcabnoclaaMA
namespace Go.Proofs.Ytdeehgcabnoclaa
open Go Go.RowKit

def vI (xs : List Int) : List Value := xs.map (Value.int .i64)
theorem vI_len (xs : List Int) : (vI xs).length = xs.length := by simp [vI]

/-- v owns, from block B on, a row of just these numbers. -/
def ownR (B : Nat) (w : World) (v : Value) (xs : List Int) : Prop := w.ownsRow B 2 1 v xs.length (vI xs)
/-- v reads as these numbers. -/
def rdI (w : World) (v : Value) (xs : List Int) : Prop :=
  ∃ a cap, v = .slice a xs.length cap ∧ xs.length ≤ maxLen ∧ (xs ≠ [] → ∃ b o, a = some ⟨b, o, none⟩ ∧ ∀ i, (h : i < xs.length) → w.cell? ⟨b, o + i, none⟩ = some (.int .i64 xs[i]))

theorem ownR.nil (B : Nat) (w : World) : ownR B w (.slice none 0 0) [] := World.ownsRow_nil _ _ _ _
theorem ownR.kept {B : Nat} {w w' : World} {v : Value} {xs : List Int} (h : ownR B w v xs) (hb : ∀ k, k < w.heap.size → v.ownBlock = some k → w'.heap[k]? = w.heap[k]?) : ownR B w' v xs := by
  unfold ownR at *
  refine ⟨h.1, ?_⟩
  rcases h.2 with hn | ⟨g, cap, cur, rfl, hg, hh, r⟩
  · exact .inl hn
  · have hlt : g < w.heap.size := (Array.getElem?_eq_some_iff.1 hh).1
    exact .inr ⟨g, cap, cur, rfl, hg, by rw [hb g hlt rfl]; exact hh, r⟩
theorem ownR.below {B : Nat} {w w' : World} {v : Value} {xs : List Int} (h : ownR B w v xs) (hb : Below w.heap.size w w') : ownR B w' v xs := h.kept fun k hk _ => hb.block k hk
theorem ownR.alloc {B : Nat} {w : World} {v : Value} {xs : List Int} (h : ownR B w v xs) (o : Obj) : ownR B (w.alloc o) v xs := h.below (Below.alloc (Below.refl _ _) (Nat.le_refl _) o)
theorem ownR.aft {B : Nat} {w : World} {v : Value} {xs : List Int} (h : ownR B w v xs) (u : World) : ownR B (aft w u) v xs := h.below (below_aft w u)
theorem ownR.drew {B : Nat} {w : World} {v : Value} {xs : List Int} (h : ownR B w v xs) : ownR B w.drew v xs := h.below (Below.drew (Below.refl _ _))
theorem ownR.mono {B B' : Nat} {w : World} {v : Value} {xs : List Int} (h : ownR B w v xs) (hB : B' ≤ B) : ownR B' w v xs := by
  refine ⟨h.1, ?_⟩
  rcases h.2 with hn | ⟨g, cap, cur, rfl, hg, r⟩
  · exact .inl hn
  · exact .inr ⟨g, cap, cur, rfl, Nat.le_trans hB hg, r⟩
theorem ownR.setCell {B : Nat} {w : World} {v : Value} {xs : List Int} (h : ownR B w v xs) (b o : Nat) (k : Option Nat) (x : Value) (hb : b < B) : ownR B (w.setCell ⟨b, o, k⟩ x) v xs := by
  refine ownR.kept h fun j _ hj => ?_
  have h1 := World.ownsRow.lt h j hj
  simp only [World.setCell, Array.getElem?_modify]
  rw [if_neg (by show ¬ b = j; omega)]
theorem ownR.rd {B : Nat} {w : World} {v : Value} {xs : List Int} (h : ownR B w v xs) : rdI w v xs := by
  rcases h.2 with ⟨rfl, hn⟩ | ⟨g, cap, cur, rfl, hg, hh, h1, h2, h3⟩
  · have : xs = [] := List.eq_nil_of_length_eq_zero hn
    subst this
    exact ⟨none, 0, rfl, by simp [maxLen], fun h => absurd rfl h⟩
  · refine ⟨_, cap, rfl, by omega, fun _ => ⟨g, 0, rfl, fun i hi => ?_⟩⟩
    have hc := World.ownsRow.cells h (g := g) rfl i (.int .i64 xs[i]) (by simp [vI, hi])
    by_cases h0 : i = 0
    · subst h0; simpa [Addr.add] using hc
    · simpa [Addr.add, h0] using hc
theorem rdI.below {w w' : World} {v : Value} {xs : List Int} (h : rdI w v xs) (hb : Below w.heap.size w w') : rdI w' v xs := by
  obtain ⟨a, cap, rfl, hm, hc⟩ := h
  refine ⟨a, cap, rfl, hm, fun hne => ?_⟩
  obtain ⟨b, o, rfl, hcell⟩ := hc hne
  refine ⟨b, o, rfl, fun i hi => ?_⟩
  have h1 := hcell i hi
  rw [hb.cell (p := ⟨b, o + i, none⟩) (World.block_lt_of_cell? w _ h1)]
  exact h1
theorem rdI.alloc {w : World} {v : Value} {xs : List Int} (h : rdI w v xs) (o : Obj) : rdI (w.alloc o) v xs := h.below (Below.alloc (Below.refl _ _) (Nat.le_refl _) o)
theorem rdI.aft {w : World} {v : Value} {xs : List Int} (h : rdI w v xs) (u : World) : rdI (aft w u) v xs := h.below (below_aft w u)
theorem rdI.drew {w : World} {v : Value} {xs : List Int} (h : rdI w v xs) : rdI w.drew v xs := h.below (Below.drew (Below.refl _ _))
theorem rdI.drewN {w : World} {v : Value} {xs : List Int} (h : rdI w v xs) (n : Nat) : rdI (w.drewN n) v xs := h.below (below_drewN (Below.refl _ _) n)

/-- A call that hands back a new slice. -/
theorem viaI {P : Program} {f : FuncId} {args : Array Value} {w : World} {xs : List Int} {g : Value → Value} {R : Ending → World → Prop}
    (h : Calls P f args w fun e w' => ∃ v, e = .returned (g v) ∧ ownR w.heap.size w' v xs ∧ Below w.heap.size w w')
    (hR : ∀ v u, w.heap.size ≤ (aft w u).heap.size → ownR w.heap.size (aft w u) v xs → R (.returned (g v)) (aft w u)) : Calls P f args w R :=
  h.mono fun e w' ⟨v, he, ho, hb⟩ => by subst he; obtain ⟨u, rfl⟩ := aft_ex hb; exact hR v u (size_aft w u) ho

theorem viaE {P : Program} {f : FuncId} {args : Array Value} {w : World} {xs ys : List Int} {g : Value → Value} {R : Ending → World → Prop}
    (h : Calls P f args w fun e w' => ∃ v, e = .returned (g v) ∧ ownR w.heap.size w' v xs ∧ Below w.heap.size w w') (he : xs = ys)
    (hR : ∀ v u, w.heap.size ≤ (aft w u).heap.size → ownR w.heap.size (aft w u) v ys → R (.returned (g v)) (aft w u)) : Calls P f args w R := by
  subst he; exact viaI h hR

/-- Behind an append to a row of the call's own. -/
theorem grown_aft {W w1 w2 : World} {row : Option Nat} (h : Ext W.heap.size W w1) (hg : w1.grownBy w2 row) (hr : ∀ k, row = some k → W.heap.size ≤ k) : ∃ u, w2 = aft W u :=
  aft_ex (h.1.grown hg h.2 hr)
theorem own_row_ge {B : Nat} {w : World} {v : Value} {xs : List Int} (h : ownR B w v xs) : ∀ k, v.ownBlock = some k → B ≤ k := fun k hk => (World.ownsRow.lt h k hk).1
theorem infoI : (Try.prog.info? 2).map (fun i => (i.zero, i.size, i.bytes)) = some (some (.int .i64 0), 1, 8) := by kernel_rfl
theorem ownR.snoc {B : Nat} {w : World} {v : Value} {xs : List Int} {x : Int} (h : w.ownsRow B 2 1 v (xs.length + 1) (vI xs ++ [.int .i64 x])) : ownR B w v (xs ++ [x]) := by
  unfold ownR; simpa [vI] using h
end Go.Proofs.Ytdeehgcabnoclaa
