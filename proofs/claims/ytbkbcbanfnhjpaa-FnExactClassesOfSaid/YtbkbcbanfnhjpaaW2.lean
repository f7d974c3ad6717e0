/- A queue of slices: a slice whose head is cut off, and appends to it. -/
import Derived.Test.YtbkbcbanfnhjpaaMA
import Derived.Test.YtbkbcbanfnhjpaaB6
import Derived.Test.YtbkbcbanfnhjpaaW1
import Derived.Deep.AppendSrc
import Derived.Maps.AppendAt
namespace Go.Proofs.Ytbkbcbanfnhjpaa
open Go Go.RowKit

/-- v reads as these values, and what lies behind them up to its room is the call's own. -/
def ownQ (B : Nat) (w : World) (v : Value) (es : List Value) : Prop :=
  ∃ g off cap, v = .slice (some ⟨g, off, none⟩) es.length cap ∧ B ≤ g ∧ es.length ≤ cap ∧ cap ≤ maxLen ∧ (∃ cur fz, w.heap[g]? = some (.cells cur 24 fz)) ∧ (∀ i, (h : i < es.length) → w.cell? ⟨g, off + i, none⟩ = some es[i]) ∧
    ∀ i, i < cap → (w.cell? ⟨g, off + i, none⟩).isSome = true ∧ w.frozen? ⟨g, off + i, none⟩ = false
theorem frozen_blk {w w' : World} {b o : Nat} (h : w'.heap[b]? = w.heap[b]?) : w'.frozen? ⟨b, o, none⟩ = w.frozen? ⟨b, o, none⟩ := World.frozen?_of_block (a := ⟨b, o, none⟩) h
theorem cell_blk {w w' : World} {b o : Nat} (h : w'.heap[b]? = w.heap[b]?) : w'.cell? ⟨b, o, none⟩ = w.cell? ⟨b, o, none⟩ := World.cell?_of_block (a := ⟨b, o, none⟩) h
theorem ownQ.kept {B : Nat} {w w' : World} {v : Value} {es : List Value} (h : ownQ B w v es) (hb : ∀ k, k < w.heap.size → v.ownBlock = some k → w'.heap[k]? = w.heap[k]?) : ownQ B w' v es := by
  obtain ⟨g, off, cap, rfl, hB, hc, hm, ⟨cur, fz, h0⟩, h1, h2⟩ := h
  have hg := (Array.getElem?_eq_some_iff.1 h0).1
  refine ⟨g, off, cap, rfl, hB, hc, hm, ⟨cur, fz, by rw [hb g hg rfl]; exact h0⟩, fun i hi => ?_, fun i hi => ?_⟩
  · have h3 := h1 i hi
    have hlt := World.block_lt_of_cell? w _ h3
    rw [cell_blk (hb g hlt rfl)]; exact h3
  · obtain ⟨h3, h4⟩ := h2 i hi
    obtain ⟨u, hu⟩ := Option.isSome_iff_exists.1 h3
    have hlt := World.block_lt_of_cell? w _ hu
    rw [cell_blk (hb g hlt rfl), frozen_blk (hb g hlt rfl)]; exact ⟨h3, h4⟩
theorem ownQ.below {B : Nat} {w w' : World} {v : Value} {es : List Value} (h : ownQ B w v es) (hb : Below w.heap.size w w') : ownQ B w' v es := h.kept fun k hk _ => hb.block k hk
theorem ownQ.row {B : Nat} {w : World} {v : Value} {es : List Value} (h : ownQ B w v es) : ∀ k, v.ownBlock = some k → B ≤ k := by
  obtain ⟨g, off, cap, rfl, hB, _⟩ := h
  intro k hk
  simp [Value.ownBlock] at hk
  omega
theorem ownQ.shape {B : Nat} {w : World} {v : Value} {es : List Value} (h : ownQ B w v es) : ∃ g off cap, v = .slice (some ⟨g, off, none⟩) es.length cap ∧ B ≤ g := by
  obtain ⟨g, off, cap, e, hB, _⟩ := h
  exact ⟨g, off, cap, e, hB⟩
/-- The head. -/
theorem ownQ.head {B : Nat} {w : World} {g off n cap : Nat} {e : Value} {es : List Value} (h : ownQ B w (.slice (some ⟨g, off, none⟩) n cap) (e :: es)) : w.cell? ⟨g, off, none⟩ = some e := by
  obtain ⟨g', off', cap', hv, _, _, _, _, h1, _⟩ := h
  injection hv with a b c
  injection a with a
  injection a with a1 a2
  subst a1 a2
  have := h1 0 (by simp)
  simpa using this
theorem sizeS (w : World) : (Go.sizeOf 24).run Try.prog w = .ok 1 w := by
  obtain ⟨i, hi, hz, hs, hb⟩ := info_parts infoS
  simp [sizeOf, typeInfo, hi, hs]
/-- x[1:] of a queue. -/
theorem ownQ.tail {B : Nat} {w : World} {v : Value} {e : Value} {es : List Value} (h : ownQ B w v (e :: es)) :
    ∃ v', (∀ wx, (Instr.slice 37 v (some (.int .i64 1)) none none).run Try.prog wx = .ok v' wx) ∧ ownQ B w v' es ∧ v'.ownBlock = v.ownBlock := by
  obtain ⟨g, off, cap, rfl, hB, hc, hm, h0, h1, h2⟩ := h
  have ht' : Try.prog.underlying 37 = some (.slice (Try.prog.elem 37)) := by kernel_rfl
  have he : Try.prog.elem 37 = 24 := by kernel_rfl
  simp only [List.length_cons] at hc
  refine ⟨.slice (some (if cap = 1 then ⟨g, off, none⟩ else (⟨g, off, none⟩ : Addr).add 1)) es.length (cap - 1), fun wx => ?_, ?_, ?_⟩
  · rw [run_slice_l wx _ _ _ _ ht' .i64 _ (by omega) (by simp; omega), he, sizeS]
    simp only [Result.andThen, sliced, Nat.mul_one, Int.toNat_one, List.length_cons]
    split <;> simp
  · by_cases h1c : cap = 1
    · rw [if_pos h1c]
      have hes : es = [] := List.eq_nil_of_length_eq_zero (by omega)
      subst hes
      exact ⟨g, off, cap - 1, rfl, hB, by simp, by omega, h0, fun i hi => by simp at hi, fun i hi => by omega⟩
    · rw [if_neg h1c]
      refine ⟨g, off + 1, cap - 1, by rw [Addr.add_lit], hB, by omega, by omega, h0, fun i hi => ?_, fun i hi => ?_⟩
      · have := h1 (i + 1) (by simp; omega)
        rw [show off + 1 + i = off + (i + 1) by omega, this]
        simp
      · have := h2 (i + 1) (by omega)
        rw [show off + 1 + i = off + (i + 1) by omega]
        exact this
  · split <;> rfl
/-- Rows of other things lie apart. -/
theorem rows_apart {B B' n n' T T' : Nat} {w : World} {v v' : Value} {es es' : List Value} (hT : T ≠ T') (h : w.ownsRow B T 1 v n es) (h' : w.ownsRow B' T' 1 v' n' es') : ∀ k, v.ownBlock = some k → v'.ownBlock ≠ some k := by
  intro k hk hv
  rcases h.2 with ⟨rfl, _⟩ | ⟨g, cap, cur, rfl, _, hg, _⟩
  · simp [Value.ownBlock] at hk
  · rcases h'.2 with ⟨rfl, _⟩ | ⟨g', cap', cur', rfl, _, hg', _⟩
    · simp [Value.ownBlock] at hv
    · simp [Value.ownBlock] at hk hv
      subst hk hv
      rw [hg] at hg'
      injection hg' with e
      injection e with e1 e2 e3
      exact hT e2
theorem queue_apart {B B' n' T' : Nat} {w : World} {v v' : Value} {es es' : List Value} (hT : 24 ≠ T') (h : ownQ B w v es) (h' : w.ownsRow B' T' 1 v' n' es') : ∀ k, v.ownBlock = some k → v'.ownBlock ≠ some k := by
  intro k hk hv
  obtain ⟨g, off, cap, rfl, _, _, _, ⟨cur, fz, hg⟩, _⟩ := h
  rcases h'.2 with ⟨rfl, _⟩ | ⟨g', cap', cur', rfl, _, hg', _⟩
  · simp [Value.ownBlock] at hv
  · simp [Value.ownBlock] at hk hv
    subst hk hv
    rw [hg] at hg'
    injection hg' with e
    injection e with e1 e2 e3
    exact hT e2
/-- A slice of slices and a row of flags behind a store into the flags; behind an append to the slice. -/
theorem ownE.seen {B BS n : Nat} {w w' : World} {v sv : Value} {es fs : List Value} {xss : List (List Int)} (h : ownE B w v es xss) (hs : w.ownsRow BS 4 1 sv n fs) (hg : w.grownBy w' sv.ownBlock) : ownE B w' v es xss := by
  refine ⟨h.1, owns_kept h.2.1 fun k hk hb => hg.block k hk fun e => rows_apart (by decide) h.2.1 hs k hb e.symm, fun i hi => ?_⟩
  obtain ⟨e, h1, h2⟩ := h.2.2 i hi
  exact ⟨e, h1, h2.kept fun k hk hb => hg.block k hk fun e => rows_apart (by decide) h2 hs k hb e.symm⟩
/-- A queue of slices, each of which owns its numbers. -/
def ownEQ (B : Nat) (w : World) (v : Value) (es : List Value) (xss : List (List Int)) : Prop :=
  es.length = xss.length ∧ ownQ B w v es ∧ ∀ i, (h : i < xss.length) → ∃ e, es[i]? = some e ∧ ownR B w e xss[i]
theorem ownEQ.below {B : Nat} {w w' : World} {v : Value} {es : List Value} {xss : List (List Int)} (h : ownEQ B w v es xss) (hb : Below w.heap.size w w') : ownEQ B w' v es xss :=
  ⟨h.1, h.2.1.below hb, fun i hi => by obtain ⟨e, h1, h2⟩ := h.2.2 i hi; exact ⟨e, h1, h2.below hb⟩⟩
theorem ownEQ.seen {B BS n : Nat} {w w' : World} {v sv : Value} {es fs : List Value} {xss : List (List Int)} (h : ownEQ B w v es xss) (hs : w.ownsRow BS 4 1 sv n fs) (hg : w.grownBy w' sv.ownBlock) : ownEQ B w' v es xss := by
  refine ⟨h.1, h.2.1.kept fun k hk hb => hg.block k hk fun e => queue_apart (by decide) h.2.1 hs k hb e.symm, fun i hi => ?_⟩
  obtain ⟨e, h1, h2⟩ := h.2.2 i hi
  exact ⟨e, h1, h2.kept fun k hk hb => hg.block k hk fun e => rows_apart (by decide) h2 hs k hb e.symm⟩
theorem ownEQ.snoc {B : Nat} {w w1 : World} {v v' e : Value} {es : List Value} {xss : List (List Int)} {xs : List Int} (h : ownEQ B w v es xss) (he : ownR B w e xs)
    (hown : ownQ B w1 v' (es ++ [e])) (hgr : w.grownBy w1 v.ownBlock) : ownEQ B w1 v' (es ++ [e]) (xss ++ [xs]) := by
  have keep : ∀ {e xs}, ownR B w e xs → ownR B w1 e xs := fun he => he.kept fun k hk hb => hgr.block k hk (fun x => queue_apart (by decide) h.2.1 he k x.symm hb)
  refine ⟨by simp [h.1], hown, fun i hi => ?_⟩
  rcases Nat.lt_or_ge i xss.length with hlt | hge
  · obtain ⟨e', h1, h2⟩ := h.2.2 i hlt
    exact ⟨e', by rw [List.getElem?_append_left (by rw [h.1]; exact hlt)]; exact h1, by rw [List.getElem_append_left hlt]; exact keep h2⟩
  · obtain rfl : i = xss.length := by simp at hi; omega
    exact ⟨e, by rw [List.getElem?_append_right (by rw [h.1]; exact Nat.le_refl _), h.1]; simp, by simpa using keep he⟩
theorem ownEQ.tail {B : Nat} {w : World} {v : Value} {es : List Value} {x : List Int} {xss : List (List Int)} (h : ownEQ B w v es (x :: xss)) :
    ∃ e es' v', es = e :: es' ∧ ownR B w e x ∧ (∀ wx, (Instr.slice 37 v (some (.int .i64 1)) none none).run Try.prog wx = .ok v' wx) ∧ ownEQ B w v' es' xss ∧ (∃ g off cap, v = .slice (some ⟨g, off, none⟩) (xss.length + 1) cap ∧ w.cell? ⟨g, off, none⟩ = some e) := by
  obtain ⟨hl, hq, hr⟩ := h
  rcases es with _ | ⟨e, es'⟩
  · simp at hl
  obtain ⟨v', h1, h2, h3⟩ := hq.tail
  obtain ⟨e0, h4, h5⟩ := hr 0 (by simp)
  simp at h4
  subst h4
  obtain ⟨g, off, cap, hv, hB⟩ := hq.shape
  have hl2 : es'.length = xss.length := by simpa using hl
  refine ⟨e, es', v', rfl, by simpa using h5, h1, ⟨hl2, h2, fun i hi => ?_⟩, g, off, cap, by rw [hv, List.length_cons, hl2], ?_⟩
  · obtain ⟨e1, h6, h7⟩ := hr (i + 1) (by simp; omega)
    exact ⟨e1, by simpa using h6, by simpa using h7⟩
  · subst hv
    exact hq.head
theorem ownQ_made (w : World) (u : Value) : ownQ w.heap.size (w.alloc (.cells #[u] 24)) (.slice (some ⟨w.heap.size, 0, none⟩) 1 1) [u] :=
  ⟨w.heap.size, 0, 1, rfl, Nat.le_refl _, by simp, by simp [maxLen], ⟨_, _, heap_alloc_new w _⟩, fun i hi => by
    simp at hi; subst hi; rw [alloc_cell, if_pos rfl]; rfl, fun i hi => by
    obtain rfl : i = 0 := by omega
    rw [alloc_cell, if_pos rfl, alloc_frozen, if_pos rfl]; exact ⟨rfl, rfl⟩⟩
theorem grownBy_set {w : World} {g o : Nat} {u : Value} : w.grownBy (w.setCell ⟨g, o, none⟩ u) (some g) := by
  refine ⟨rfl, rfl, rfl, by simp [World.setCell], fun k hk hne => ?_⟩
  have := set_blk w g o k u
  unfold blk at this
  rw [this, if_neg (fun e => hne (by rw [e]))]
/-- An append to a queue. -/
theorem run_append_q {w : World} (ty : TypeId) {B : Nat} {v : Value} {es : List Value} (h : ownQ B w v es) (u : Value) (hu : u.oneCell' = true) (ad : Addr) (c : Nat) (hn : ∀ j x, [u][j]? = some x → w.cell? (ad.add j) = some x)
    (hl : es.length ≤ 100000) (hB : B ≤ w.heap.size) :
    ∃ v' w', (Builtin.append_ #[37, 37] ty #[v, .slice (some ad) 1 c]).run Try.prog w = .ok v' w' ∧ ownQ B w' v' (es ++ [u]) ∧ w.grownBy w' v.ownBlock := by
  obtain ⟨i, hi, hz, hs, hb⟩ := info_parts infoS
  obtain ⟨g, off, cap, rfl, hBg, hc, hm, ⟨cur, fz, h0⟩, h1, h2⟩ := h
  have hsrc : Src Try.prog i.size 37 (.slice (some ad) 1 c) 1 [u] w := Src.ofSlice w Try.underlying37 ad 1 c [u] (by rw [hs]; rfl) hn (fun x hx => by rw [List.mem_singleton.1 hx]; exact hu)
  by_cases hr : es.length + 1 ≤ cap
  · have hq := h2 es.length (by omega)
    have hrun := run_append_room_src w 37 37 ty 24 i Try.underlying37 hi g off es.length cap (.slice (some ad) 1 c) 1 [u] hsrc hr
      (fun j hj => by simp at hj; subst hj; rw [hs, Nat.mul_one, Nat.add_zero]; exact hq.1) (fun j hj => by simp at hj; subst hj; rw [hs, Nat.mul_one, Nat.add_zero]; exact hq.2)
    rw [hs, Nat.mul_one] at hrun
    refine ⟨_, _, hrun, ⟨g, off, cap, by simp, hBg, by simp; omega, hm, ?_, fun k hk => ?_, fun k hk => ?_⟩, grownBy_set⟩
    · have := set_blk w g (off + es.length) g u
      rw [if_pos rfl] at this
      unfold blk at this
      rw [h0] at this
      exact ⟨_, _, this⟩
    · show (w.setCell ⟨g, off + es.length, none⟩ u).cell? ⟨g, off + k, none⟩ = _
      rw [set_cell]
      by_cases hke : k = es.length
      · subst hke
        rw [if_pos ⟨rfl, rfl⟩]
        obtain ⟨y, hy⟩ := Option.isSome_iff_exists.1 hq.1
        rw [hy]
        simp
      · simp at hk
        rw [if_neg (by omega), h1 k (by omega), List.getElem_append_left (by omega)]
    · show ((w.setCell ⟨g, off + es.length, none⟩ u).cell? ⟨g, off + k, none⟩).isSome = true ∧ (w.setCell ⟨g, off + es.length, none⟩ u).frozen? ⟨g, off + k, none⟩ = false
      obtain ⟨q1, q2⟩ := h2 k hk
      refine ⟨?_, by simpa using q2⟩
      rw [set_cell]
      split
      · obtain ⟨y, hy⟩ := Option.isSome_iff_exists.1 hq.1
        rw [hy]; rfl
      · exact q1
  · have hcap : cap = es.length := by omega
    have hold : (Builtin.firstCells i.size es.length (.slice (some ⟨g, off, none⟩) es.length cap)).run Try.prog w.drew = .ok es.toArray w.drew :=
      run_firstCells_some w.drew i.size es.length ⟨g, off, none⟩ es.length cap es (by rw [hs, Nat.mul_one]) (fun j x hx => by
        obtain ⟨hj, rfl⟩ := List.getElem?_eq_some_iff.1 hx
        rw [Addr.add_lit]
        exact h1 j hj)
    have hnc : Builtin.nextslicecap (es.length + 1) cap * i.bytes ≤ 281474976710656 := growslice_fits (by omega) (by rw [hb]; omega)
    have hrun := run_append_grow_src w 37 37 ty 24 i (.slice none 0 0) Try.underlying37 hi hz (some ⟨g, off, none⟩) es.length cap es hold (.slice (some ad) 1 c) 1 [u] hsrc (by omega) (by omega) hnc
    have hge := grownCap_ge w (es.length + 1) cap 24
    have hle := grownCap_le_maxLen w (es.length + 1) cap 24 (by unfold maxLen; omega)
    obtain ⟨K, hK⟩ : ∃ K, K = grownCap w (es.length + 1) cap 24 := ⟨_, rfl⟩
    rw [← hK] at hrun hge hle
    have hsize : ((es ++ [u]).toArray ++ Builtin.zeroCells (Value.slice none 0 0).cells (K - (es.length + 1))).size = K := by
      rw [Array.size_append, size_zeroCells]
      have : (Value.slice none 0 0).cells.size = 1 := rfl
      rw [this]
      simp
      omega
    refine ⟨_, _, hrun, ⟨w.heap.size, 0, K, by simp, hB, by simp; omega, hle, ⟨_, _, heap_alloc_new w.drew _⟩, fun k hk => ?_, fun k hk => ?_⟩, ⟨rfl, rfl, rfl, by simp, fun k hk _ => by
      have := alloc_blk w.drew (.cells ((es ++ [u]).toArray ++ Builtin.zeroCells (Value.slice none 0 0).cells (K - (es.length + 1))) 24) k
      rw [if_neg (by show ¬ k = w.heap.size; omega)] at this
      exact this⟩⟩
    · rw [alloc_cell, if_pos (show w.heap.size = w.drew.heap.size from rfl), Nat.zero_add, Array.getElem?_append_left (by simpa using hk)]
      simp [hk]
    · rw [alloc_cell, if_pos (show w.heap.size = w.drew.heap.size from rfl), alloc_frozen, if_pos (show w.heap.size = w.drew.heap.size from rfl), Nat.zero_add]
      refine ⟨?_, rfl⟩
      rw [Array.getElem?_eq_getElem (by rw [hsize]; exact hk)]
      rfl
theorem wpList_append_q {ops : Array Oper} {rest : List Oper} {o : Oper} {a : Act} {Q : Exit → Act → World → Prop} {w : World} (hgd : o.guard = none) (s x : Operand)
    (ho : o.op = .call { callee := .builtin .append, args := #[s, x], argTypes := #[37, 37] })
    {B : Nat} {v : Value} {es : List Value} (hs : a.eval s = v) (h : ownQ B w v es) (u : Value) (hu : u.oneCell' = true) (ad : Addr) (c : Nat) (hx : a.eval x = .slice (some ad) 1 c) (hn : ∀ j x, [u][j]? = some x → w.cell? (ad.add j) = some x)
    (hl : es.length ≤ 100000) (hB : B ≤ w.heap.size)
    (hK : ∀ v' w', ownQ B w' v' (es ++ [u]) → w.grownBy w' v.ownBlock → wpList Try.prog ops Q rest (a.put o.dst v') w') : wpList Try.prog ops Q (o :: rest) a w := by
  refine wpList_plain hgd fun K hK' => ?_
  obtain ⟨v', w', hr, h2, h3⟩ := run_append_q o.type h u hu ad c hn hl hB
  unfold Oper.wp execOp
  simp only [ho, resolve, invoke, builtin, Sem.run_bind, Sem.run_pure, Result.andThen_ok, List.map_toArray, List.map_cons, List.map_nil, hs, hx, hr]
  exact hK' _ _ (hK v' w' h2 h3)
theorem step_append_q {ops : Array Oper} {o : Oper} {a : Act} {K : Act → World → Prop} {Q : Exit → Act → World → Prop} {E : Prop} {w : World} (hgd : o.guard = none) (s x : Operand)
    (ho : o.op = .call { callee := .builtin .append, args := #[s, x], argTypes := #[37, 37] })
    {B : Nat} {v : Value} {es : List Value} (hs : a.eval s = v) (h : ownQ B w v es) (u : Value) (hu : u.oneCell' = true) (ad : Addr) (c : Nat) (hx : a.eval x = .slice (some ad) 1 c) (hn : ∀ j x, [u][j]? = some x → w.cell? (ad.add j) = some x)
    (hl : es.length ≤ 100000) (hB : B ≤ w.heap.size)
    (hK : ∀ v' w', ownQ B w' v' (es ++ [u]) → w.grownBy w' v.ownBlock → K (a.put o.dst v') w') :
    if Region.wanted o (yielded ops a.tmps) = true then Oper.wp Try.prog o a w K Q else E := by
  have hw : Region.wanted o (yielded ops a.tmps) = true := by simp [Region.wanted, hgd]
  rw [if_pos hw]
  obtain ⟨v', w', hr, h2, h3⟩ := run_append_q o.type h u hu ad c hn hl hB
  unfold Oper.wp execOp
  simp only [ho, resolve, invoke, builtin, Sem.run_bind, Sem.run_pure, Result.andThen_ok, List.map_toArray, List.map_cons, List.map_nil, hs, hx, hr]
  exact hK v' w' h2 h3
end Go.Proofs.Ytbkbcbanfnhjpaa
