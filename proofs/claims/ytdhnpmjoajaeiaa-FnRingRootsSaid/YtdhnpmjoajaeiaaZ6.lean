/- Draws for the laws on rings: a ring and polynomials. -/
import Derived.Test.YtdhnpmjoajaeiaaZ5
namespace Go.Proofs.Ytdhnpmjoajaeiaa
open Go Go.RowKit

/-- What stays as a law's draw goes on: the ring's cells, the result's cells, the source. -/
structure stL (B b : Nat) (p n : Int) (K : Nat) (w X : World) : Prop where
  ext : Ext w.heap.size w X
  srcw : src B b X
  ring : ∀ o, X.cell? ⟨K, o, none⟩ = #[Value.int .i64 p, .int .i64 n][o]?
  res : ∀ k, k < 2 → X.frozen? ⟨w.heap.size, k, none⟩ = false ∧ (X.cell? ⟨w.heap.size, k, none⟩).isSome = true
  wb : w.heap.size < b
  bk : b < K
  kx : K < X.heap.size
theorem stL.next {B b K : Nat} {p n : Int} {w X Y : World} (h : stL B b p n K w X) (hg : Gr b X Y) (hs : src B b Y) : stL B b p n K w Y := by
  have h1 := h.wb
  have h2 := h.kx
  have h3 := h.bk
  have hbl := hg.block w.heap.size (by omega) (fun e => by injection e with e; omega)
  refine ⟨⟨h.ext.1.trans (Below.grown (Below.refl _ _) hg h.ext.2 (fun k hk => by injection hk with hk; omega)), Nat.le_trans h.ext.2 hg.size⟩, hs, fun o => (World.cell?_of_block (a := ⟨K, o, none⟩) (hg.block K h2 (fun e => by injection e with e; omega))).trans (h.ring o), fun k hk => ?_, h1, h3, Nat.lt_of_lt_of_le h2 hg.size⟩
  rw [World.cell?_of_block (a := ⟨w.heap.size, k, none⟩) hbl, World.frozen?_of_block (a := ⟨w.heap.size, k, none⟩) hbl]
  exact h.res k hk
def resR (n0 : Nat) (wr : World) : Prop := ∀ k, k < 2 → wr.frozen? ⟨n0, k, none⟩ = false ∧ (wr.cell? ⟨n0, k, none⟩).isSome = true
theorem sizeI (w : World) : (Go.sizeOf 2).run Try.prog w = .ok 1 w := by
  simp [Go.sizeOf, go_sem]
  rfl
theorem own_cut {B g cap : Nat} {w : World} {xs : List Int} {m : Nat} (h : ownR B w (.slice (some ⟨g, 0, none⟩) xs.length cap) xs) (hm : m ≤ xs.length) : ownR B w (.slice (some ⟨g, 0, none⟩) m cap) (xs.take m) := by
  rcases h.2 with ⟨e, h1⟩ | ⟨g', c, cur, e, hb, hh, h1, h2, h3, h4⟩
  · cases e
  · cases e
    have hl : (xs.take m).length = m := by rw [List.length_take]; omega
    unfold ownR
    rw [hl]
    refine ⟨by simp [vI]; omega, .inr ⟨g, cap, cur, rfl, hb, hh, by omega, h2, h3, ?_⟩⟩
    have e : cur.toList.take (m * 1) = (cur.toList.take (xs.length * 1)).take (m * 1) := by rw [List.take_take]; congr 1; omega
    rw [e, h4]
    simp [vI]
theorem own_cut2 {B g cap n : Nat} {w : World} {xs : List Int} {q : Nat} (h : ownR B w (.slice (some ⟨g, 0, none⟩) n cap) xs) (hq : q ≤ xs.length) :
    (∀ wx, (Instr.slice 24 (.slice (some ⟨g, 0, none⟩) n cap) none (some (.int .i64 (q : Int))) none).run Try.prog wx = .ok (.slice (some ⟨g, 0, none⟩) q cap) wx) ∧ ownR B w (.slice (some ⟨g, 0, none⟩) q cap) (xs.take q) := by
  have ht' : Try.prog.underlying 24 = some (.slice (Try.prog.elem 24)) := by kernel_rfl
  have hn : n = xs.length := by
    rcases h.2 with ⟨e, h1⟩ | ⟨g', c, cur, e, _⟩
    · cases e
    · cases e; rfl
  subst hn
  have hc := own_cap h
  refine ⟨fun wx => ?_, own_cut h hq⟩
  rw [run_slice_h wx _ _ _ _ ht' .i64 _ (by omega) (by omega)]
  have he : Try.prog.elem 24 = 2 := by kernel_rfl
  rw [he, sizeI]
  simp [sliced, Result.andThen, Addr.add]
end Go.Proofs.Ytdhnpmjoajaeiaa
