/- A call that hands back a group with new numbers. -/
import Derived.Test.YtbkbcbanfnhjpaaP1
namespace Go.Proofs.Ytbkbcbanfnhjpaa
open Go Go.RowKit

theorem viaG {P : Program} {f : FuncId} {args : Array Value} {w : World} {xs : List Int} {n : Int} {R : Ending → World → Prop}
    (h : Calls P f args w fun e w' => ∃ v, e = .returned (.agg #[.int .i64 n, v]) ∧ ownR w.heap.size w' v xs ∧ Below w.heap.size w w')
    (hR : ∀ v u, w.heap.size ≤ (aft w u).heap.size → ownR w.heap.size (aft w u) v xs → R (.returned (.agg #[.int .i64 n, v])) (aft w u)) : Calls P f args w R :=
  h.mono fun e w' ⟨v, he, ho, hb⟩ => by subst he; obtain ⟨u, rfl⟩ := aft_ex hb; exact hR v u (size_aft w u) ho
end Go.Proofs.Ytbkbcbanfnhjpaa
