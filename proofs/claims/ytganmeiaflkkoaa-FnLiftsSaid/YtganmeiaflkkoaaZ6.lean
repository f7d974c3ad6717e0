/- Draws for the laws on rings: a ring and polynomials. -/
import Derived.Test.YtganmeiaflkkoaaZ5
namespace Go.Proofs.Ytganmeiaflkkoaa
open Go Go.RowKit

/-- What stays as a law's draw goes on: the ring's cells, the result's cells, the source. -/
structure stL (B b : Nat) (p n : Int) (K : Nat) (w X : World) : Prop where
  ext : Ext w.heap.size w X
  srcw : src B b X
  ring : ∀ o, X.cell? ⟨K, o, none⟩ = #[Value.int .i64 p, .int .i64 n][o]?
  res : ∀ k, k < 2 → X.frozen? ⟨w.heap.size, k, none⟩ = false ∧ (X.cell? ⟨w.heap.size, k, none⟩).isSome = true
  wb : w.heap.size < b
  bk : b < K
  kx : K < X.heap.size
theorem stL.next {B b K : Nat} {p n : Int} {w X Y : World} (h : stL B b p n K w X) (hg : Gr b X Y) (hs : src B b Y) : stL B b p n K w Y := by
  have h1 := h.wb
  have h2 := h.kx
  have h3 := h.bk
  have hbl := hg.block w.heap.size (by omega) (fun e => by injection e with e; omega)
  refine ⟨⟨h.ext.1.trans (Below.grown (Below.refl _ _) hg h.ext.2 (fun k hk => by injection hk with hk; omega)), Nat.le_trans h.ext.2 hg.size⟩, hs, fun o => (World.cell?_of_block (a := ⟨K, o, none⟩) (hg.block K h2 (fun e => by injection e with e; omega))).trans (h.ring o), fun k hk => ?_, h1, h3, Nat.lt_of_lt_of_le h2 hg.size⟩
  rw [World.cell?_of_block (a := ⟨w.heap.size, k, none⟩) hbl, World.frozen?_of_block (a := ⟨w.heap.size, k, none⟩) hbl]
  exact h.res k hk
def resR (n0 : Nat) (wr : World) : Prop := ∀ k, k < 2 → wr.frozen? ⟨n0, k, none⟩ = false ∧ (wr.cell? ⟨n0, k, none⟩).isSome = true
theorem sizeI (w : World) : (Go.sizeOf 2).run Try.prog w = .ok 1 w := by
  simp [Go.sizeOf, go_sem]
  rfl
theorem own_cut {B g cap : Nat} {w : World} {xs : List Int} {m : Nat} (h : ownR B w (.slice (some ⟨g, 0, none⟩) xs.length cap) xs) (hm : m ≤ xs.length) : ownR B w (.slice (some ⟨g, 0, none⟩) m cap) (xs.take m) := by
  rcases h.2 with ⟨e, h1⟩ | ⟨g', c, cur, e, hb, hh, h1, h2, h3, h4⟩
  · cases e
  · cases e
    have hl : (xs.take m).length = m := by rw [List.length_take]; omega
    unfold ownR
    rw [hl]
    refine ⟨by simp [vI]; omega, .inr ⟨g, cap, cur, rfl, hb, hh, by omega, h2, h3, ?_⟩⟩
    have e : cur.toList.take (m * 1) = (cur.toList.take (xs.length * 1)).take (m * 1) := by rw [List.take_take]; congr 1; omega
    rw [e, h4]
    simp [vI]
theorem own_cut2 {B g cap n : Nat} {w : World} {xs : List Int} {q : Nat} (h : ownR B w (.slice (some ⟨g, 0, none⟩) n cap) xs) (hq : q ≤ xs.length) :
    (∀ wx, (Instr.slice 26 (.slice (some ⟨g, 0, none⟩) n cap) none (some (.int .i64 (q : Int))) none).run Try.prog wx = .ok (.slice (some ⟨g, 0, none⟩) q cap) wx) ∧ ownR B w (.slice (some ⟨g, 0, none⟩) q cap) (xs.take q) := by
  have ht' : Try.prog.underlying 26 = some (.slice (Try.prog.elem 26)) := by kernel_rfl
  have hn : n = xs.length := by
    rcases h.2 with ⟨e, h1⟩ | ⟨g', c, cur, e, _⟩
    · cases e
    · cases e; rfl
  subst hn
  have hc := own_cap h
  refine ⟨fun wx => ?_, own_cut h hq⟩
  rw [run_slice_h wx _ _ _ _ ht' .i64 _ (by omega) (by omega)]
  have he : Try.prog.elem 26 = 2 := by kernel_rfl
  rw [he, sizeI]
  simp [sliced, Result.andThen, Addr.add]
set_option maxRecDepth 20000 in
set_option maxHeartbeats 8000000 in
theorem s_DrawImageOf (B : Nat) (a : Option Addr) (len cap : Nat) (w : World) (h : rdB B w a len) (hl : len ≤ 4096) (hB : B ≤ w.heap.size) :
    Calls Try.prog 12 #[.slice a len cap] w fun e w' => ∃ (p n : Int) (s : Value) (xs : List Int), e = .returned (.tuple #[.agg #[.int .i64 p, .int .i64 n], s]) ∧ ownR w.heap.size w' s xs ∧ xs.length ≤ 11 ∧ Below w.heap.size w w' := by
  go_enter Try.func12, Try.ntmps12
  go_wp2_with fail
  refine viaF (s_from B a len cap _ (h.of fun j o v hj hv => by rw [alloc_cell, if_neg (by omega)]; exact hv) hl (by simp; omega)) ?_
  intro b u0 hs0 hb0 hl0 hl1
  simp at hb0 hl0
  go_wp2_with fail
  refine viaDX (s_draw12 B b _ hs0) ?_
  intro v u hv hs hl2
  obtain ⟨p, n, s, xs, rfl, own, hxl⟩ := hv
  obtain ⟨a5, c5, hsh, _, _⟩ := own.rd
  subst hsh
  have hres : resR w.heap.size (aftD b (aft (w.alloc (Obj.cells #[Value.int IntKind.i64 0, Value.int IntKind.i64 0] 25)) u0) u) := by
    intro j hj
    obtain rfl | rfl : j = 0 ∨ j = 1 := by omega
    all_goals (rw [aftD_frozen, aftD_cell, if_pos (by omega), if_pos (by omega), aft_cell, aft_frozen, if_pos (by simp), if_pos (by simp)]; simp [go_sem])
  have hE : Ext w.heap.size w (aftD b (aft (w.alloc (Obj.cells #[Value.int IntKind.i64 0, Value.int IntKind.i64 0] 25)) u0) u) := (((Ext.refl w).alloc _).aft _).aftD _ (by omega)
  obtain ⟨V, hV⟩ : ∃ V, V = aftD b (aft (w.alloc (Obj.cells #[Value.int IntKind.i64 0, Value.int IntKind.i64 0] 25)) u0) u := ⟨_, rfl⟩
  have own2 : ownR (w.heap.size + 1) V (.slice a5 xs.length c5) xs := by rw [hV]; exact own.mono (by omega)
  rw [← hV] at hres hE ⊢
  obtain ⟨e0, he0⟩ := Option.isSome_iff_exists.1 (hres 0 (by omega)).2
  obtain ⟨e1, he1⟩ := Option.isSome_iff_exists.1 (hres 1 (by omega)).2
  have hf0 := (hres 0 (by omega)).1
  have hf1 := (hres 1 (by omega)).1
  have HO := hid own2
  have HE := hid hE
  clear hV hs0 hs hres own own2 hE
  go_wp2_with fail
  exact bodyPost_ret (v := .tuple #[.agg #[Value.int IntKind.i64 p, Value.int IntKind.i64 n], .slice a5 xs.length c5]) (by first | (simp [results, go_sem, he0, he1]; done) | simp [results, go_sem, he0, he1, ↓IntWalk.iteOmega]) rfl ⟨p, n, _, xs, rfl, ((HO.out.setCell _ _ _ _ (by omega)).setCell _ _ _ _ (by omega)).mono (by omega), hxl, Ext.bel ((HE.out.setCell _ _ _ _ (by omega)).setCell _ _ _ _ (by omega))⟩

set_option maxRecDepth 20000 in
set_option maxHeartbeats 8000000 in
theorem s_DrawReduceToRing (B : Nat) (a : Option Addr) (len cap : Nat) (w : World) (h : rdB B w a len) (hl : len ≤ 4096) (hB : B ≤ w.heap.size) :
    Calls Try.prog 15 #[.slice a len cap] w fun e w' => ∃ (p n : Int) (s : Value) (xs : List Int), e = .returned (.tuple #[.agg #[.int .i64 p, .int .i64 n], s]) ∧ ownR w.heap.size w' s xs ∧ xs.length ≤ 11 ∧ Below w.heap.size w w' := by
  go_enter Try.func15, Try.ntmps15
  go_wp2_with fail
  refine viaF (s_from B a len cap _ (h.of fun j o v hj hv => by rw [alloc_cell, if_neg (by omega)]; exact hv) hl (by simp; omega)) ?_
  intro b u0 hs0 hb0 hl0 hl1
  simp at hb0 hl0
  go_wp2_with fail
  refine viaDr (s_draw2 B b _ hs0) ?_
  intro y u hy hs hl2
  obtain ⟨p, n⟩ := y
  clear hy
  dsimp only
  go_wp2_with fail
  obtain ⟨V, hV⟩ : ∃ V, V = aftD b (aft (w.alloc (Obj.cells #[Value.int IntKind.i64 0, Value.int IntKind.i64 0] 25)) u0) u := ⟨_, rfl⟩
  obtain ⟨K, hK⟩ : ∃ K, K = V.heap.size := ⟨_, rfl⟩
  have hres : resR w.heap.size V := by
    intro j hj
    obtain rfl | rfl : j = 0 ∨ j = 1 := by omega
    all_goals (rw [hV, aftD_frozen, aftD_cell, if_pos (by omega), if_pos (by omega), aft_cell, aft_frozen, if_pos (by simp), if_pos (by simp)]; simp [go_sem])
  have hE : Ext w.heap.size w V := by rw [hV]; exact (((Ext.refl w).alloc _).aft _).aftD _ (by omega)
  rw [← hV] at hs hl2 ⊢
  have hbK : b < K := by omega
  clear hV
  obtain ⟨X, hX⟩ : ∃ X, X = V.alloc (Obj.cells #[Value.int IntKind.i64 p, Value.int IntKind.i64 n] 25) := ⟨_, rfl⟩
  have hST9 : stL B b p n K w X := by
    refine ⟨by rw [hX]; exact hE.alloc _, by rw [hX]; exact hs.alloc _, fun o => by rw [hX, alloc_cell, if_pos hK], fun k hk => ?_, by omega, hbK, by rw [hX, hK]; simp⟩
    rw [hX, alloc_frozen, alloc_cell, if_neg (by omega), if_neg (by omega)]
    exact hres k hk
  rw [← hX, ← hK]
  clear hX hK hs hres hE hl2 hl1 hl0 hs0
  have hKb : K ≠ b := by omega
  have hKR : K ≠ w.heap.size := by omega
  obtain ⟨e0, he0⟩ := Option.isSome_iff_exists.1 (hST9.res 0 (by omega)).2
  obtain ⟨e1, he1⟩ := Option.isSome_iff_exists.1 (hST9.res 1 (by omega)).2
  have hf0 := (hST9.res 0 (by omega)).1
  have hf1 := (hST9.res 1 (by omega)).1
  have gX := hST9.ring
  have g0 := gX 0
  have g1 := gX 1
  simp at g0 g1
  have hKX := hST9.kx
  have HS := hid hST9.srcw
  have HST := hid hST9
  clear hST9
  (refine wp_region_held_drew (S := (fun w' => (∀ o, w'.cell? ⟨K, o, none⟩ = #[Value.int .i64 p, .int .i64 n][o]?) ∧ X.heap.size ≤ w'.heap.size)) (by kernel_rfl) ?_ (fun hHeld => ?_); focus ((try dsimp only); (refine heldD.at (b := b) (R := w.heap.size) hKX hKb hKR gX ?_; (repeat (with_reducible first | exact heldD.refl _ _ _ | apply heldD.drew | apply heldD.aftD | apply heldD.aft | apply heldD.alloc | apply heldD.set)))))
  (refine wpAnyH_take (i := 0) (oi := ?ho1) (v := ?hv1) ?hi1 (by kernel_rfl) (by kernel_rfl) (by kernel_rfl) ?hq1 ?hy1 (by assumption) ?hr1; (case hi1 => (simp only [List.getElem?_toArray, List.getElem?_cons_succ, List.getElem?_cons_zero]; first | done | rfl)); (case hq1 => exact fun _ _ _ h => h); (case hy1 => (refine Or.inl ⟨by rfl, ?_⟩; intro w hSw; (try dsimp only at hSw); go_simp; first | done | with_reducible rfl)); (try simp only [Act.put, List.setIfInBounds_toArray, List.set_cons_zero, List.set_cons_succ]))
  (refine wpAnyH_take (i := 1) (oi := ?ho2) (v := ?hv2) ?hi2 (by kernel_rfl) (by kernel_rfl) (by kernel_rfl) ?hq2 ?hy2 (by assumption) ?hr2; (case hi2 => (simp only [List.getElem?_toArray, List.getElem?_cons_succ, List.getElem?_cons_zero]; first | done | rfl)); (case hq2 => exact fun _ _ _ h => h); (case hy2 => (refine Or.inl ⟨by rfl, ?_⟩; intro w hSw; (try dsimp only at hSw); go_simp; first | done | with_reducible rfl)); (try simp only [Act.put, List.setIfInBounds_toArray, List.set_cons_zero, List.set_cons_succ]))
  (refine wpAnyH_ready (rs := [2]) (by decide +kernel) (by simp) ?_; refine AllReadyH.cons (o := ?ho4) ?hi4 (fun K hK => ?hr4) AllReadyH.nil; (case hi4 => (simp only [List.getElem?_toArray, List.getElem?_cons_succ, List.getElem?_cons_zero]; first | done | rfl)))
  (go_simp; go_at_call 50; refine viaDX (s_draw6 B b _ HS.out.drew) ?_; intro t9 u9 ht9 hs9 hl9; obtain ⟨xs, own9, hxl⟩ := ht9; obtain ⟨a9, c9, hsh9, _, _⟩ := own9.rd; subst hsh9; (try simp at hl9); have own8 : ownR (w.heap.size + 1) _ _ _ := own9.mono (by first | omega | (simp; omega)); clear own9; go_wp2_with fail)
  (refine hK.out _ _ ?_ (fun hHeld => ?_); focus ((try dsimp only); (refine heldD.at (b := b) (R := w.heap.size) hKX hKb hKR gX ?_; (repeat (with_reducible first | exact heldD.refl _ _ _ | apply heldD.drew | apply heldD.aftD | apply heldD.aft | apply heldD.alloc | apply heldD.set)))))
  (clear hK K; (try simp only [Act.put, List.setIfInBounds_toArray, List.set_cons_zero, List.set_cons_succ]))
  (refine wpAnyH_ready (rs := [3]) (by decide +kernel) (by simp) ?_; refine AllReadyH.cons (o := ?ho5) ?hi5 (fun K hK => ?hr5) AllReadyH.nil; (case hi5 => (simp only [List.getElem?_toArray, List.getElem?_cons_succ, List.getElem?_cons_zero]; first | done | rfl)))
  (rw [if_pos (by rfl)]; go_wp2_with fail)
  (refine hK.out _ _ ?_ (fun hHeld => ?_); focus ((try dsimp only); (refine heldD.at (b := b) (R := w.heap.size) hKX hKb hKR gX ?_; (repeat (with_reducible first | exact heldD.refl _ _ _ | apply heldD.drew | apply heldD.aftD | apply heldD.aft | apply heldD.alloc | apply heldD.set)))))
  (clear hK K; (try simp only [Act.put, List.setIfInBounds_toArray, List.set_cons_zero, List.set_cons_succ]))
  (refine wpAnyH_take (i := 4) (oi := ?ho3) (v := ?hv3) ?hi3 (by kernel_rfl) (by kernel_rfl) (by kernel_rfl) ?hq3 ?hy3 (by assumption) ?hr3; (case hi3 => (simp only [List.getElem?_toArray, List.getElem?_cons_succ, List.getElem?_cons_zero]; first | done | rfl)); (case hq3 => exact fun _ _ _ h => h); (case hy3 => (refine Or.inl ⟨by rfl, ?_⟩; intro w hSw; (try dsimp only at hSw); go_simp; first | done | with_reducible rfl)); (try simp only [Act.put, List.setIfInBounds_toArray, List.set_cons_zero, List.set_cons_succ]))
  (refine wpAnyH_done (by kernel_rfl) ?_ _)
  go_wp2_with fail
  exact bodyPost_ret (v := .tuple #[.agg #[Value.int IntKind.i64 p, Value.int IntKind.i64 n], .slice a9 xs.length c9]) (by first | (simp [results, go_sem, he0, he1]; done) | simp [results, go_sem, he0, he1, ↓IntWalk.iteOmega]) rfl ⟨p, n, _, xs, rfl, ownR.mono (show ownR (w.heap.size + 1) _ _ _ from (by repeat (with_reducible first | assumption | apply ownR.drew | apply ownR.aft | (refine ownR.aftD ?_ _ (by omega)) | apply ownR.alloc | (refine ownR.setCell ?_ _ _ _ _ (by omega))))) (by omega), hxl, (Ext.bel (by repeat (with_reducible first | exact HST.out.ext | apply Ext.drew | apply Ext.alloc | apply Ext.aft | (refine Ext.aftD ?_ _ (by omega)) | (refine Ext.setCell ?_ _ _ _ _ (by omega)))))⟩
end Go.Proofs.Ytganmeiaflkkoaa
