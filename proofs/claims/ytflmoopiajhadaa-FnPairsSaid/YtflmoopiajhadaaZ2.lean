/- Draws of polynomials. -/
import Derived.Test.YtflmoopiajhadaaT29
import Derived.Test.YtflmoopiajhadaaMA
namespace Go.Proofs.Ytflmoopiajhadaa
open Go Go.RowKit

/-- A draw of something that lies in memory. -/
def DrawX (B b : Nat) (w : World) (Φ : World → Value → Prop) : Ending → World → Prop := fun e w' => ∃ v, e = .returned v ∧ Φ w' v ∧ w.grownBy w' (some b) ∧ src B b w'
theorem viaDX {P : Program} {f : FuncId} {args : Array Value} {B b : Nat} {w : World} {Φ : World → Value → Prop} {R : Ending → World → Prop}
    (h : Calls P f args w (DrawX B b w Φ)) (hR : ∀ v u, Φ (aftD b w u) v → src B b (aftD b w u) → w.heap.size ≤ (aftD b w u).heap.size → R (.returned v) (aftD b w u)) : Calls P f args w R :=
  h.mono fun e w' ⟨v, he, hp, hg, hs⟩ => by subst he; obtain ⟨u, rfl⟩ := aftD_ex hg; exact hR v u hp hs (size_aftD b w u)
theorem ownR.aftD {B b : Nat} {w : World} {v : Value} {xs : List Int} (h : ownR B w v xs) (u : World) (hb : b < B) : ownR B (Go.Proofs.Ytflmoopiajhadaa.aftD b w u) v xs :=
  h.kept fun k hk e => aftD_blk ⟨hk, by have := own_row_ge h k e; omega⟩
theorem grown_newD {b : Nat} {wo w w' : World} {own : Option Nat} (h : Gr b wo w) (h2 : w.grownBy w' own) (ho : ∀ k, own = some k → wo.heap.size ≤ k) : Gr b wo w' :=
  ⟨h2.os.trans h.os, h2.tape.trans h.tape, h2.output.trans h.output, Nat.le_trans h.size h2.size, fun k hk hne => (h2.block k (Nat.lt_of_lt_of_le hk h.size) (fun e => absurd (ho k e.symm) (by omega))).trans (h.block k hk hne)⟩
theorem src.grown {B b : Nat} {w w' : World} {own : Option Nat} (h : src B b w) (hg : w.grownBy w' own) (hne : some b ≠ own) (hB : ∀ k, own = some k → B ≤ k) : src B b w' := by
  obtain ⟨a, len, cap, i, sd, hB', hb, hc, hf, h0, h1, h2, h3, h4, h5⟩ := h
  have hbl := hg.block b hb hne
  exact ⟨a, len, cap, i, sd, hB', Nat.lt_of_lt_of_le hb hg.size, fun o => (World.cell?_of_block (a := ⟨b, o, none⟩) hbl).trans (hc o), fun o => (World.frozen?_of_block (a := ⟨b, o, none⟩) hbl).trans (hf o), h0, h1, h2, h3, h4, h5.of fun j o v hj hv => hg.cell hv fun e => by have := hB j e.symm; (try simp only at this); omega⟩
end Go.Proofs.Ytflmoopiajhadaa
