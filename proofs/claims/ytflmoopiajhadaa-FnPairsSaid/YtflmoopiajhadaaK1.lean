/- Slices of slices of numbers. -/
import Derived.Test.YtflmoopiajhadaaMA
namespace Go.Proofs.Ytflmoopiajhadaa
open Go Go.RowKit

theorem infoS : (Try.prog.info? 26).map (fun i => (i.zero, i.size, i.bytes)) = some (some (.slice none 0 0), 1, 24) := by kernel_rfl
theorem own_one {B : Nat} {w : World} {e : Value} {xs : List Int} (h : ownR B w e xs) : e.oneCell' = true := by
  rcases h.2 with ⟨rfl, _⟩ | ⟨g, cap, cur, rfl, _⟩ <;> rfl
/-- A row of slices is no row of numbers. -/
theorem own_apart {B B' n : Nat} {w : World} {v e : Value} {es : List Value} {xs : List Int} (h : w.ownsRow B 26 1 v n es) (he : ownR B' w e xs) : ∀ k, e.ownBlock = some k → v.ownBlock ≠ some k := by
  intro k hk hv
  rcases he.2 with ⟨rfl, _⟩ | ⟨g, cap, cur, rfl, _, hg, _⟩
  · simp [Value.ownBlock] at hk
  · rcases h.2 with ⟨rfl, _⟩ | ⟨g', cap', cur', rfl, _, hg', _⟩
    · simp [Value.ownBlock] at hv
    · simp [Value.ownBlock] at hk hv
      subst hk hv
      rw [hg] at hg'
      cases hg'
/-- v owns a row of just these slices, each of which owns just these numbers. -/
def ownE (B : Nat) (w : World) (v : Value) (es : List Value) (xss : List (List Int)) : Prop :=
  es.length = xss.length ∧ w.ownsRow B 26 1 v xss.length es ∧ ∀ i, (h : i < xss.length) → ∃ e, es[i]? = some e ∧ ownR B w e xss[i]
def ownRR (B : Nat) (w : World) (v : Value) (xss : List (List Int)) : Prop := ∃ es, ownE B w v es xss
/-- v reads as these lists. -/
def rdRR (w : World) (v : Value) (xss : List (List Int)) : Prop :=
  ∃ a cap, v = .slice a xss.length cap ∧ xss.length ≤ maxLen ∧ (xss ≠ [] → ∃ b o, a = some ⟨b, o, none⟩ ∧ ∀ i, (h : i < xss.length) → ∃ e, w.cell? ⟨b, o + i, none⟩ = some e ∧ ownR 0 w e xss[i])
theorem owns_kept {B T n : Nat} {w w' : World} {v : Value} {es : List Value} (h : w.ownsRow B T 1 v n es) (hb : ∀ k, k < w.heap.size → v.ownBlock = some k → w'.heap[k]? = w.heap[k]?) : w'.ownsRow B T 1 v n es := by
  refine ⟨h.1, ?_⟩
  rcases h.2 with hn | ⟨g, cap, cur, rfl, hg, hh, r⟩
  · exact .inl hn
  · exact .inr ⟨g, cap, cur, rfl, hg, by rw [hb g (Array.getElem?_eq_some_iff.1 hh).1 rfl]; exact hh, r⟩
theorem ownE.nil (B : Nat) (w : World) : ownE B w (.slice none 0 0) [] [] := ⟨rfl, World.ownsRow_nil _ _ _ _, fun i h => by simp at h⟩
theorem ownE.below {B : Nat} {w w' : World} {v : Value} {es : List Value} {xss : List (List Int)} (h : ownE B w v es xss) (hb : Below w.heap.size w w') : ownE B w' v es xss :=
  ⟨h.1, owns_kept h.2.1 fun k hk _ => hb.block k hk, fun i hi => by obtain ⟨e, h1, h2⟩ := h.2.2 i hi; exact ⟨e, h1, h2.below hb⟩⟩
theorem ownRR.below {B : Nat} {w w' : World} {v : Value} {xss : List (List Int)} (h : ownRR B w v xss) (hb : Below w.heap.size w w') : ownRR B w' v xss := by obtain ⟨es, h⟩ := h; exact ⟨es, h.below hb⟩
theorem ownRR.aft {B : Nat} {w : World} {v : Value} {xss : List (List Int)} (h : ownRR B w v xss) (u : World) : ownRR B (aft w u) v xss := h.below (below_aft w u)
theorem ownE.mono {B B' : Nat} {w : World} {v : Value} {es : List Value} {xss : List (List Int)} (h : ownE B w v es xss) (hB : B' ≤ B) : ownE B' w v es xss := by
  refine ⟨h.1, ⟨h.2.1.1, ?_⟩, fun i hi => by obtain ⟨e, h1, h2⟩ := h.2.2 i hi; exact ⟨e, h1, h2.mono hB⟩⟩
  rcases h.2.1.2 with hn | ⟨g, cap, cur, rfl, hg, r⟩
  · exact .inl hn
  · exact .inr ⟨g, cap, cur, rfl, Nat.le_trans hB hg, r⟩
theorem ownRR.mono {B B' : Nat} {w : World} {v : Value} {xss : List (List Int)} (h : ownRR B w v xss) (hB : B' ≤ B) : ownRR B' w v xss := by obtain ⟨es, h⟩ := h; exact ⟨es, h.mono hB⟩
theorem ownRR.rd {B : Nat} {w : World} {v : Value} {xss : List (List Int)} (h : ownRR B w v xss) : rdRR w v xss := by
  obtain ⟨es, hl, h, he⟩ := h
  rcases h.2 with ⟨rfl, hn⟩ | ⟨g, cap, cur, rfl, hg, hh, h1, h2, h3⟩
  · have : xss = [] := List.eq_nil_of_length_eq_zero hn
    subst this
    exact ⟨none, 0, rfl, by simp [maxLen], fun h => absurd rfl h⟩
  · refine ⟨_, cap, rfl, by omega, fun _ => ⟨g, 0, rfl, fun i hi => ?_⟩⟩
    obtain ⟨e, he1, he2⟩ := he i hi
    have hc := World.ownsRow.cells h (g := g) rfl i e he1
    refine ⟨e, ?_, he2.mono (Nat.zero_le _)⟩
    by_cases h0 : i = 0
    · subst h0; simpa [Addr.add] using hc
    · simpa [Addr.add, h0] using hc
theorem rdRR.below {w w' : World} {v : Value} {xss : List (List Int)} (h : rdRR w v xss) (hb : Below w.heap.size w w') : rdRR w' v xss := by
  obtain ⟨a, cap, rfl, hm, hc⟩ := h
  refine ⟨a, cap, rfl, hm, fun hne => ?_⟩
  obtain ⟨b, o, rfl, hcell⟩ := hc hne
  refine ⟨b, o, rfl, fun i hi => ?_⟩
  obtain ⟨e, h1, h2⟩ := hcell i hi
  exact ⟨e, by rw [hb.cell (p := ⟨b, o + i, none⟩) (World.block_lt_of_cell? w _ h1)]; exact h1, h2.below hb⟩
theorem rdRR.alloc {w : World} {v : Value} {xss : List (List Int)} (h : rdRR w v xss) (o : Obj) : rdRR (w.alloc o) v xss := h.below (Below.alloc (Below.refl _ _) (Nat.le_refl _) o)
theorem rdRR.aft {w : World} {v : Value} {xss : List (List Int)} (h : rdRR w v xss) (u : World) : rdRR (Go.Proofs.Ytflmoopiajhadaa.aft w u) v xss := h.below (below_aft w u)
theorem rdRR.drew {w : World} {v : Value} {xss : List (List Int)} (h : rdRR w v xss) : rdRR w.drew v xss := h.below (Below.drew (Below.refl _ _))
/-- Behind an append of a slice of the call's own. -/
theorem ownE.snoc {B : Nat} {w w1 : World} {v v' e : Value} {es : List Value} {xss : List (List Int)} {xs : List Int} (h : ownE B w v es xss) (he : ownR B w e xs)
    (hown : w1.ownsRow B 26 1 v' (xss.length + 1) (es ++ [e])) (hgr : w.grownBy w1 v.ownBlock) : ownE B w1 v' (es ++ [e]) (xss ++ [xs]) := by
  have keep : ∀ {e xs}, ownR B w e xs → ownR B w1 e xs := fun he => he.kept fun k hk hb => hgr.block k hk (fun x => own_apart h.2.1 he k hb x.symm)
  refine ⟨by simp [h.1], by simpa using hown, fun i hi => ?_⟩
  rcases Nat.lt_or_ge i xss.length with hlt | hge
  · obtain ⟨e', h1, h2⟩ := h.2.2 i hlt
    exact ⟨e', by rw [List.getElem?_append_left (by rw [h.1]; exact hlt)]; exact h1, by rw [List.getElem_append_left hlt]; exact keep h2⟩
  · obtain rfl : i = xss.length := by simp at hi; omega
    exact ⟨e, by rw [List.getElem?_append_right (by rw [h.1]; exact Nat.le_refl _), h.1]; simp, by simpa using keep he⟩
theorem ownE.row {B : Nat} {w : World} {v : Value} {es : List Value} {xss : List (List Int)} (h : ownE B w v es xss) : ∀ k, v.ownBlock = some k → B ≤ k := fun k hk => (World.ownsRow.lt h.2.1 k hk).1

/-- A call that hands back a new slice of slices. -/
theorem viaRR {P : Program} {f : FuncId} {args : Array Value} {w : World} {xss : List (List Int)} {g : Value → Value} {R : Ending → World → Prop}
    (h : Calls P f args w fun e w' => ∃ v, e = .returned (g v) ∧ ownRR w.heap.size w' v xss ∧ Below w.heap.size w w')
    (hR : ∀ v u, w.heap.size ≤ (aft w u).heap.size → ownRR w.heap.size (aft w u) v xss → R (.returned (g v)) (aft w u)) : Calls P f args w R :=
  h.mono fun e w' ⟨v, he, ho, hb⟩ => by subst he; obtain ⟨u, rfl⟩ := aft_ex hb; exact hR v u (size_aft w u) ho
end Go.Proofs.Ytflmoopiajhadaa
