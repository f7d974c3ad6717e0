/- The order of a unit: the program's text walked. -/
import Derived.Test.YtdeehgcabnoclaaT36
namespace Go.Proofs.Ytdeehgcabnoclaa
open Go Go.RowKit

theorem viaPw {P : Program} {f : FuncId} {args : Array Value} {w : World} {xs : List (Int × Int)} {R : Ending → World → Prop}
    (h : Calls P f args w fun e w' => ∃ v, e = .returned v ∧ ownP w.heap.size w' v xs ∧ Below w.heap.size w w')
    (hR : ∀ v u, w.heap.size ≤ (aft w u).heap.size → ownP w.heap.size (aft w u) v xs → R (.returned v) (aft w u)) : Calls P f args w R :=
  h.mono fun e w' ⟨v, he, ho, hb⟩ => by subst he; obtain ⟨u, rfl⟩ := aft_ex hb; exact hR v u (size_aft w u) ho
theorem ownP.rd {B : Nat} {w : World} {v : Value} {xs : List (Int × Int)} (h : ownP B w v xs) : ∃ a cap, v = .slice a xs.length cap ∧ xs.length ≤ maxLen ∧ (xs ≠ [] → ∃ b, a = some ⟨b, 0, none⟩ ∧ b < w.heap.size ∧ ∀ i, (h : i < xs.length) → w.cell? ⟨b, 2 * i, none⟩ = some (.int .i64 xs[i].1) ∧ w.cell? ⟨b, 2 * i + 1, none⟩ = some (.int .i64 xs[i].2)) := by
  rcases h.2 with ⟨rfl, hn⟩ | ⟨g, cap, cur, rfl, hg, hh, h1, h2, h3⟩
  · have : xs = [] := List.eq_nil_of_length_eq_zero hn
    subst this
    exact ⟨none, 0, rfl, by simp [maxLen], fun h => absurd rfl h⟩
  · refine ⟨_, cap, rfl, by omega, fun _ => ⟨g, rfl, (Array.getElem?_eq_some_iff.1 hh).1, fun i hi => ?_⟩⟩
    obtain ⟨e1, e2⟩ := vP_at xs i hi
    have c1 := World.ownsRow.cells h (g := g) rfl (2 * i) _ e1
    have c2 := World.ownsRow.cells h (g := g) rfl (2 * i + 1) _ e2
    constructor
    · by_cases h0 : 2 * i = 0
      · rw [h0] at c1 ⊢; simpa [Addr.add] using c1
      · simpa [Addr.add, h0] using c1
    · simpa [Addr.add] using c2

end Go.Proofs.Ytdeehgcabnoclaa
