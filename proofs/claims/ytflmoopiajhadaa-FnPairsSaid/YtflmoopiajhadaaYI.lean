/- Draws for the law on pairs. -/
import Derived.Test.YtflmoopiajhadaaYH
import Derived.Test.YtflmoopiajhadaaZ5
namespace Go.Proofs.Ytflmoopiajhadaa
open Go Go.RowKit

structure stP (B b : Nat) (p n : Int) (K : Nat) (w X : World) : Prop where
  ext : Ext w.heap.size w X
  srcw : src B b X
  ring : ∀ o, X.cell? ⟨K, o, none⟩ = #[Value.int .i64 p, .int .i64 n][o]?
  res : ∀ k, k < 2 → X.frozen? ⟨w.heap.size, k, none⟩ = false ∧ (X.cell? ⟨w.heap.size, k, none⟩).isSome = true
  ty : ∃ zs, X.heap[w.heap.size]? = some (.cells zs 25)
  wb : w.heap.size < b
  bk : b < K
  kx : K < X.heap.size
theorem stP.next {B b K : Nat} {p n : Int} {w X Y : World} (h : stP B b p n K w X) (hg : Gr b X Y) (hs : src B b Y) : stP B b p n K w Y := by
  have h1 := h.wb
  have h2 := h.kx
  have h3 := h.bk
  have hbl := hg.block w.heap.size (by omega) (fun e => by injection e with e; omega)
  refine ⟨⟨h.ext.1.trans (Below.grown (Below.refl _ _) hg h.ext.2 (fun k hk => by injection hk with hk; omega)), Nat.le_trans h.ext.2 hg.size⟩, hs, fun o => (World.cell?_of_block (a := ⟨K, o, none⟩) (hg.block K h2 (fun e => by injection e with e; omega))).trans (h.ring o), fun k hk => ?_, by rw [hbl]; exact h.ty, h1, h3, Nat.lt_of_lt_of_le h2 hg.size⟩
  rw [World.cell?_of_block (a := ⟨w.heap.size, k, none⟩) hbl, World.frozen?_of_block (a := ⟨w.heap.size, k, none⟩) hbl]
  exact h.res k hk
def resP (n0 : Nat) (wr : World) : Prop := ∀ k, k < 2 → wr.frozen? ⟨n0, k, none⟩ = false ∧ (wr.cell? ⟨n0, k, none⟩).isSome = true
theorem cell_obj {w : World} {g : Nat} {cur : Array Value} {T : TypeId} (h : w.heap[g]? = some (.cells cur T)) (o : Nat) : w.cell? ⟨g, o, none⟩ = cur[o]? := by simp [World.cell?, h]
/-- A row of factors does not lie in the source. -/
theorem srcF_ne {B b : Nat} {w : World} {g n cap : Nat} {qs : List (Value × Int)} (hs : src B b w) (h : ownF 0 w (.slice (some ⟨g, 0, none⟩) n cap) qs) : g ≠ b := by
  intro e
  subst e
  obtain ⟨a, len, c, i, sd, _, _, hc, _⟩ := hs
  rcases h.1.2 with ⟨hv, _⟩ | ⟨g', cp, cur, hv, _, hh, _, _, hz, _⟩
  · cases hv
  · cases hv
    have c2 := hc 2
    have c3 := hc 3
    rw [cell_obj hh] at c2 c3
    simp at c2 c3
    obtain ⟨q2, _⟩ := Array.getElem?_eq_some_iff.1 c2
    omega
theorem srcR_ne {B b : Nat} {w : World} {v : Value} {xs : List Int} (hs : src B b w) (h : ownR 0 w v xs) (hl : 1 ≤ xs.length) : ∀ k, v.ownBlock = some k → k ≠ b := by
  intro k hk e
  subst e
  obtain ⟨a, len, c, i, sd, _, _, hc, _⟩ := hs
  obtain ⟨va, vc, rfl, _⟩ := h.rd
  obtain ⟨g, rfl, _, _⟩ := own_head h hl
  have h0 := (own_cell h (j := 0) hl).1
  have c0 := hc 0
  simp at c0
  have hg : g = k := by
    simp [Value.ownBlock] at hk
    exact hk
  subst hg
  rw [h0] at c0
  simp at c0
theorem ownF.keep {w w' : World} {v : Value} {qs : List (Value × Int)} (h : ownF 0 w v qs) (hb : ∀ k, k < w.heap.size → v.ownBlock = some k → w'.heap[k]? = w.heap[k]?) : ownF 0 w' v qs := by
  obtain ⟨h1, h2⟩ := h
  refine ⟨⟨h1.1, ?_⟩, h2⟩
  rcases h1.2 with hn | ⟨g, cap, cur, rfl, hg, hh, r⟩
  · exact .inl hn
  · have hlt : g < w.heap.size := (Array.getElem?_eq_some_iff.1 hh).1
    exact .inr ⟨g, cap, cur, rfl, hg, by rw [hb g hlt rfl]; exact hh, r⟩
theorem ownF.aftS {B b : Nat} {w : World} {v : Value} {qs : List (Value × Int)} (h : ownF 0 w v qs) (hs : src B b w) (u : World) : ownF 0 (Go.Proofs.Ytflmoopiajhadaa.aftD b w u) v qs := by
  obtain ⟨g, cap, rfl⟩ := h.2
  have hne := srcF_ne hs h
  refine h.keep fun k hk e => aftD_blk ⟨hk, ?_⟩
  have hg : g = k := by
    simp [Value.ownBlock] at e
    exact e
  omega
theorem ownR.aftS {B b : Nat} {w : World} {v : Value} {xs : List Int} (h : ownR 0 w v xs) (hs : src B b w) (hl : 1 ≤ xs.length) (u : World) : ownR 0 (Go.Proofs.Ytflmoopiajhadaa.aftD b w u) v xs :=
  h.kept fun k hk e => aftD_blk ⟨hk, srcR_ne hs h hl k e⟩
def ringT (k : Nat) (w : World) : Prop := ∃ zs, w.heap[k]? = some (.cells zs 25)
theorem ringT.set {k o : Nat} {w : World} {x : Value} (h : ringT k w) : ringT k (w.setCell ⟨k, o, none⟩ x) := by
  obtain ⟨zs, h⟩ := h
  exact ⟨zs.setIfInBounds o x, by simp [World.setCell, Array.getElem?_modify, h]⟩
theorem ringT.drew {k : Nat} {w : World} (h : ringT k w) : ringT k w.drew := h
theorem ringT.below {k : Nat} {w w' : World} (h : ringT k w) (hb : Below w.heap.size w w') : ringT k w' := by
  obtain ⟨zs, h⟩ := h
  exact ⟨zs, by rw [hb.block k (Array.getElem?_eq_some_iff.1 h).1]; exact h⟩
theorem ownR.setT {k o : Nat} {w : World} {v x : Value} {xs : List Int} (h : ownR 0 w v xs) (ht : ringT k w) : ownR 0 (w.setCell ⟨k, o, none⟩ x) v xs := by
  refine h.kept fun j hj e => (grown_set w k o x).block j hj fun e2 => ?_
  injection e2 with e2
  subst e2
  obtain ⟨zs, ht⟩ := ht
  rcases h.2 with ⟨hv, _⟩ | ⟨g, cp, cur, hv, _, hh, _⟩
  · rw [hv] at e; simp [Value.ownBlock] at e
  · rw [hv] at e
    have hg : g = j := by
      simp [Value.ownBlock] at e
      exact e
    subst hg
    rw [ht] at hh
    injection hh with hh
    injection hh with h1 h2
    exact absurd h2 (by decide)
theorem ringF_ne {k g n cap : Nat} {w : World} {qs : List (Value × Int)} (ht : ringT k w) (h : ownF 0 w (.slice (some ⟨g, 0, none⟩) n cap) qs) : g ≠ k := by
  intro e
  subst e
  obtain ⟨zs, ht⟩ := ht
  rcases h.1.2 with ⟨hv, _⟩ | ⟨g', cp, cur, hv, _, hh, _⟩
  · cases hv
  · cases hv
    rw [ht] at hh
    injection hh with hh
    injection hh with h1 h2
    exact absurd h2 (by decide)
theorem heldD.atE {b R G g c1 c2 : Nat} {V w' : World} {cs : Array Value} {v1 v2 : Value} (h1 : G < V.heap.size) (h2 : G ≠ b) (h3 : G ≠ R) (hc : ∀ o, V.cell? ⟨G, o, none⟩ = cs[o]?)
    (hr : V.cell? ⟨g, c1, none⟩ = some v1 ∧ V.cell? ⟨g, c2, none⟩ = some v2 ∧ g < V.heap.size ∧ g ≠ b ∧ g ≠ R) (h : heldD b R V w') : (∀ o, w'.cell? ⟨G, o, none⟩ = cs[o]?) ∧ (w'.cell? ⟨g, c1, none⟩ = some v1 ∧ w'.cell? ⟨g, c2, none⟩ = some v2) ∧ V.heap.size ≤ w'.heap.size :=
  ⟨fun o => (h.1 G o h1 h2 h3).trans (hc o), ⟨(h.1 g c1 hr.2.2.1 hr.2.2.2.1 hr.2.2.2.2).trans hr.1, (h.1 g c2 hr.2.2.1 hr.2.2.2.1 hr.2.2.2.2).trans hr.2.1⟩, h.2⟩
end Go.Proofs.Ytflmoopiajhadaa
