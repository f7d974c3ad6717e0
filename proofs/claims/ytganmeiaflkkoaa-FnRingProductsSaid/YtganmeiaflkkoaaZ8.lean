/- Draws for the laws on rings: a dividend and a divisor. -/
import Derived.Test.YtganmeiaflkkoaaZ7
namespace Go.Proofs.Ytganmeiaflkkoaa
open Go Go.RowKit

/-- A ring and two polynomials came back. -/
theorem viaMul {P : Program} {f : FuncId} {args : Array Value} {w : World} {R : Ending → World → Prop}
    (h : Calls P f args w fun e w' => ∃ (p n : Int) (s1 s2 : Value) (xs ys : List Int), e = .returned (.tuple #[.agg #[.int .i64 p, .int .i64 n], s1, s2]) ∧ ownR w.heap.size w' s1 xs ∧ ownR w.heap.size w' s2 ys ∧ xs.length ≤ 11 ∧ ys.length ≤ 11 ∧ Below w.heap.size w w')
    (hR : ∀ p n s1 s2 xs ys u, w.heap.size ≤ (aft w u).heap.size → ownR w.heap.size (aft w u) s1 xs → ownR w.heap.size (aft w u) s2 ys → xs.length ≤ 11 → ys.length ≤ 11 → R (.returned (.tuple #[.agg #[.int .i64 p, .int .i64 n], s1, s2])) (aft w u)) : Calls P f args w R :=
  h.mono fun e w' ⟨p, n, s1, s2, xs, ys, he, h1, h2, h3, h4, hb⟩ => by subst he; obtain ⟨u, rfl⟩ := aft_ex hb; exact hR p n s1 s2 xs ys u (size_aft w u) h1 h2 h3 h4
set_option maxRecDepth 20000 in
set_option maxHeartbeats 8000000 in
theorem s_DrawDivideInRing (B : Nat) (a : Option Addr) (len cap : Nat) (w : World) (h : rdB B w a len) (hl : len ≤ 4096) (hB : B ≤ w.heap.size) :
    Calls Try.prog 6 #[.slice a len cap] w fun e w' => ∃ (p n : Int) (s1 s2 : Value) (xs ys : List Int), e = .returned (.tuple #[.agg #[.int .i64 p, .int .i64 n], s1, s2]) ∧ ownR w.heap.size w' s1 xs ∧ ownR w.heap.size w' s2 ys ∧ xs.length ≤ 11 ∧ ys.length ≤ 11 ∧ Below w.heap.size w w' := by
  go_enter Try.func6, Try.ntmps6
  go_wp2_with fail
  refine viaF (s_from B a len cap _ (h.of fun j o v hj hv => by rw [alloc_cell, if_neg (by omega)]; exact hv) hl (by simp; omega)) ?_
  intro b u0 hs0 hb0 hl0 hl1
  simp at hb0 hl0
  go_wp2_with fail
  refine viaMul (s_DrawMultiplyInRing B a len cap _ (h.of fun j o v hj hv => by rw [aft_cell, if_pos (by simp; omega), alloc_cell, if_neg (by omega)]; exact hv) hl (by omega)) ?_
  intro p n s1 s2 xs ys u hl2 own1 own2 hxl hyl
  obtain ⟨a5, c5, hsh, _, _⟩ := own1.rd
  subst hsh
  obtain ⟨a6, c6, hsh6, _, _⟩ := own2.rd
  subst hsh6
  have HXL := hid hxl
  have HYL := hid hyl
  clear hxl hyl
  go_wp2_with fail
  obtain ⟨V, hV⟩ : ∃ V, V = aft (aft (w.alloc (Obj.cells #[Value.int IntKind.i64 0, Value.int IntKind.i64 0] 25)) u0) u := ⟨_, rfl⟩
  obtain ⟨K, hK⟩ : ∃ K, K = V.heap.size := ⟨_, rfl⟩
  have hres : resR w.heap.size V := by
    intro j hj
    obtain rfl | rfl : j = 0 ∨ j = 1 := by omega
    all_goals (rw [hV, aft_frozen, aft_cell, if_pos (by omega), if_pos (by omega), aft_cell, aft_frozen, if_pos (by simp), if_pos (by simp)]; simp [go_sem])
  have hE : Ext w.heap.size w V := by rw [hV]; exact (((Ext.refl w).alloc _).aft _).aft _
  have own3 : ownR (b + 1) V (.slice a5 xs.length c5) xs := by rw [hV]; exact own1.mono (by omega)
  have own4 : ownR (b + 1) V (.slice a6 ys.length c6) ys := by rw [hV]; exact own2.mono (by omega)
  have hs : src B b V := by rw [hV]; exact hs0.aft _
  rw [← hV] at hl2 ⊢
  have hbK : b < K := by omega
  clear hV own1 own2
  obtain ⟨X, hX⟩ : ∃ X, X = V.alloc (Obj.cells #[Value.int IntKind.i64 p, Value.int IntKind.i64 n] 25) := ⟨_, rfl⟩
  have hST9 : stL B b p n K w X := by
    refine ⟨by rw [hX]; exact hE.alloc _, by rw [hX]; exact hs.alloc _, fun o => by rw [hX, alloc_cell, if_pos hK], fun k hk => ?_, by omega, hbK, by rw [hX, hK]; simp⟩
    rw [hX, alloc_frozen, alloc_cell, if_neg (by omega), if_neg (by omega)]
    exact hres k hk
  have own5 : ownR (b + 1) X (.slice a5 xs.length c5) xs ∧ ownR (b + 1) X (.slice a6 ys.length c6) ys := by rw [hX]; exact ⟨own3.alloc _, own4.alloc _⟩
  rw [← hX, ← hK]
  have hwb : w.heap.size < b := by omega
  clear hX hK hs hres hE hl2 hl1 hl0 hs0 own3 own4 hb0
  have hKb : K ≠ b := by omega
  have hKR : K ≠ w.heap.size := by omega
  refine viaDr (s_next B b _ _ hST9.srcw (by omega)) ?_
  intro x v hx hs2 hl2
  (try dsimp only at hx)
  have hST8 := hST9.next ((Gr.refl b _).aftD v) hs2
  have own6 : ownR (b + 1) (aftD b X v) (.slice a5 xs.length c5) xs ∧ ownR (b + 1) (aftD b X v) (.slice a6 ys.length c6) ys := ⟨own5.1.aftD _ (by omega), own5.2.aftD _ (by omega)⟩
  obtain ⟨Y, hY⟩ : ∃ Y, Y = aftD b X v := ⟨_, rfl⟩
  rw [← hY] at hST8 own6 ⊢
  clear hY hST9 own5 hs2 hl2
  obtain ⟨X, hX9⟩ : ∃ X, X = Y := ⟨_, rfl⟩
  rw [← hX9] at hST8 own6 ⊢
  clear hX9
  have HF := hid own6
  obtain ⟨e0, he0⟩ := Option.isSome_iff_exists.1 (hST8.res 0 (by omega)).2
  obtain ⟨e1, he1⟩ := Option.isSome_iff_exists.1 (hST8.res 1 (by omega)).2
  have hf0 := (hST8.res 0 (by omega)).1
  have hf1 := (hST8.res 1 (by omega)).1
  have gX := hST8.ring
  have g0 := gX 0
  have g1 := gX 1
  simp at g0 g1
  have hKX := hST8.kx
  have HS := hid hST8.srcw
  have HST := hid hST8
  clear own6 hST8
  by_cases h0 : x = 0
  · subst h0
    go_wp2_with fail
    (refine wp_region_held_drew (S := (fun w' => (∀ o, w'.cell? ⟨K, o, none⟩ = #[Value.int .i64 p, .int .i64 n][o]?) ∧ X.heap.size ≤ w'.heap.size)) (by kernel_rfl) ?_ (fun hHeld => ?_); focus ((try dsimp only); (refine heldD.at (b := b) (R := w.heap.size) hKX hKb hKR gX ?_; (repeat (with_reducible first | exact heldD.refl _ _ _ | apply heldD.drew | apply heldD.aftD | apply heldD.aft | apply heldD.alloc | apply heldD.set)))))
    (refine wpAnyH_take (i := 0) (oi := ?ho1) (v := ?hv1) ?hi1 (by kernel_rfl) (by kernel_rfl) (by kernel_rfl) ?hq1 ?hy1 (by assumption) ?hr1; (case hi1 => (simp only [List.getElem?_toArray, List.getElem?_cons_succ, List.getElem?_cons_zero]; first | done | rfl)); (case hq1 => exact fun _ _ _ h => h); (case hy1 => (refine Or.inl ⟨by rfl, ?_⟩; intro w hSw; (try dsimp only at hSw); go_simp; first | done | with_reducible rfl)); (try simp only [Act.put, List.setIfInBounds_toArray, List.set_cons_zero, List.set_cons_succ]))
    (refine wpAnyH_take (i := 1) (oi := ?ho2) (v := ?hv2) ?hi2 (by kernel_rfl) (by kernel_rfl) (by kernel_rfl) ?hq2 ?hy2 (by assumption) ?hr2; (case hi2 => (simp only [List.getElem?_toArray, List.getElem?_cons_succ, List.getElem?_cons_zero]; first | done | rfl)); (case hq2 => exact fun _ _ _ h => h); (case hy2 => (refine Or.inl ⟨by rfl, ?_⟩; intro w hSw; (try dsimp only at hSw); go_simp; first | done | with_reducible rfl)); (try simp only [Act.put, List.setIfInBounds_toArray, List.set_cons_zero, List.set_cons_succ]))
    (refine wpAnyH_take (i := 3) (oi := ?ho3) (v := ?hv3) ?hi3 (by kernel_rfl) (by kernel_rfl) (by kernel_rfl) ?hq3 ?hy3 (by assumption) ?hr3; (case hi3 => (simp only [List.getElem?_toArray, List.getElem?_cons_succ, List.getElem?_cons_zero]; first | done | rfl)); (case hq3 => exact fun _ _ _ h => h); (case hy3 => (refine Or.inl ⟨by rfl, ?_⟩; intro w hSw; (try dsimp only at hSw); go_simp; first | done | with_reducible rfl)); (try simp only [Act.put, List.setIfInBounds_toArray, List.set_cons_zero, List.set_cons_succ]))
    (refine wpAnyH_ready (rs := [2, 4]) (by decide +kernel) (by simp) ?_; refine AllReadyH.cons (o := ?oa) ?ha (fun K hK => ?ra) (AllReadyH.cons (o := ?ob) ?hb (fun K hK => ?rb) AllReadyH.nil); (case ha => (simp only [List.getElem?_toArray, List.getElem?_cons_succ, List.getElem?_cons_zero]; first | done | rfl)); (case hb => (simp only [List.getElem?_toArray, List.getElem?_cons_succ, List.getElem?_cons_zero]; first | done | rfl)))
    case ra =>
      (rw [if_pos (by rfl)]; go_wp2_with fail)
      (refine hK.out _ _ ?_ (fun hHeld => ?_); focus ((try dsimp only); (refine heldD.at (b := b) (R := w.heap.size) hKX hKb hKR gX ?_; (repeat (with_reducible first | exact heldD.refl _ _ _ | apply heldD.drew | apply heldD.aftD | apply heldD.aft | apply heldD.alloc | apply heldD.set)))))
      (clear hK K; (try simp only [Act.put, List.setIfInBounds_toArray, List.set_cons_zero, List.set_cons_succ]))
      (refine wpAnyH_ready (rs := [4]) (by decide +kernel) (by simp) ?_; refine AllReadyH.cons (o := ?ho13) ?hi13 (fun K hK => ?hr13) AllReadyH.nil; (case hi13 => (simp only [List.getElem?_toArray, List.getElem?_cons_succ, List.getElem?_cons_zero]; first | done | rfl)))
      (go_simp; go_at_call 33; refine viaDr (s_next B b _ _ (by repeat (with_reducible first | exact HS.out | apply src.drew | apply src.alloc)) (by omega)) ?_; intro d5 u5 hd5 hs5 hl5; (try dsimp only at hd5); (try simp at hl5); obtain ⟨q, hq⟩ : ∃ q : Nat, d5 = (q : Int) := (⟨d5.toNat, by omega⟩); subst hq; have hq2 : q ≤ 2 := (by omega); have hq3 : (q : Int) ≤ 2 := (by omega); go_wp2_with fail)
      (refine hK.out _ _ ?_ (fun hHeld => ?_); focus ((try dsimp only); (refine heldD.at (b := b) (R := w.heap.size) hKX hKb hKR gX ?_; (repeat (with_reducible first | exact heldD.refl _ _ _ | apply heldD.drew | apply heldD.aftD | apply heldD.aft | apply heldD.alloc | apply heldD.set)))))
      (clear hK K; (try simp only [Act.put, List.setIfInBounds_toArray, List.set_cons_zero, List.set_cons_succ]))
      (refine wpAnyH_take (i := 5) (oi := ?ho4) (v := ?hv4) ?hi4 (by kernel_rfl) (by kernel_rfl) (by kernel_rfl) ?hq4 ?hy4 (by assumption) ?hr4; (case hi4 => (simp only [List.getElem?_toArray, List.getElem?_cons_succ, List.getElem?_cons_zero]; first | done | rfl)); (case hq4 => exact fun _ _ _ h => h); (case hy4 => (refine Or.inl ⟨by rfl, ?_⟩; intro w hSw; (try dsimp only at hSw); go_simp; first | done | with_reducible rfl)); (try simp only [Act.put, List.setIfInBounds_toArray, List.set_cons_zero, List.set_cons_succ]))
      (refine wpAnyH_ready (rs := [6]) (by decide +kernel) (by simp) ?_; refine AllReadyH.cons (o := ?ho14) ?hi14 (fun K hK => ?hr14) AllReadyH.nil; (case hi14 => (simp only [List.getElem?_toArray, List.getElem?_cons_succ, List.getElem?_cons_zero]; first | done | rfl)))
      (rw [if_pos (by rfl)]; go_wp2_with fail)
      (refine hK.out _ _ ?_ (fun hHeld => ?_); focus ((try dsimp only); (refine heldD.at (b := b) (R := w.heap.size) hKX hKb hKR gX ?_; (repeat (with_reducible first | exact heldD.refl _ _ _ | apply heldD.drew | apply heldD.aftD | apply heldD.aft | apply heldD.alloc | apply heldD.set)))))
      (clear hK K; (try simp only [Act.put, List.setIfInBounds_toArray, List.set_cons_zero, List.set_cons_succ]))
      (refine wpAnyH_take (i := 7) (oi := ?ho5) (v := ?hv5) ?hi5 (by kernel_rfl) (by kernel_rfl) (by kernel_rfl) ?hq5 ?hy5 (by assumption) ?hr5; (case hi5 => (simp only [List.getElem?_toArray, List.getElem?_cons_succ, List.getElem?_cons_zero]; first | done | rfl)); (case hq5 => exact fun _ _ _ h => h); (case hy5 => (refine Or.inl ⟨by rfl, ?_⟩; intro w hSw; (try dsimp only at hSw); go_simp; first | done | with_reducible rfl)); (try simp only [Act.put, List.setIfInBounds_toArray, List.set_cons_zero, List.set_cons_succ]))
      (refine wpAnyH_take (i := 8) (oi := ?ho6) (v := ?hv6) ?hi6 (by kernel_rfl) (by kernel_rfl) (by kernel_rfl) ?hq6 ?hy6 (by assumption) ?hr6; (case hi6 => (simp only [List.getElem?_toArray, List.getElem?_cons_succ, List.getElem?_cons_zero]; first | done | rfl)); (case hq6 => exact fun _ _ _ h => h); (case hy6 => (refine Or.inl ⟨by rfl, ?_⟩; intro w hSw; (try dsimp only at hSw); go_simp; first | done | with_reducible rfl)); (try simp only [Act.put, List.setIfInBounds_toArray, List.set_cons_zero, List.set_cons_succ]))
      (refine wpAnyH_done (by kernel_rfl) ?_ _)
      have HL : Hid (ownR (b + 1) (X.alloc (Obj.cells #[.int .i64 1, .int .i64 2] 2)) (.slice (some ⟨X.heap.size, 0, none⟩) q 2) ([1, 2].take q)) := hid ((own_cut2 (q := q) (own_cells X _ [1, 2] rfl (by simp)) (by simp; omega)).2.mono (by first | omega | (simp; omega)))
      go_wp2_with fail
      exact bodyPost_ret (v := .tuple #[.agg #[Value.int IntKind.i64 p, Value.int IntKind.i64 n], .slice a5 xs.length c5, .slice (some ⟨X.heap.size, 0, none⟩) q 2]) (by first | (simp [results, go_sem, he0, he1]; done) | simp [results, go_sem, he0, he1, ↓IntWalk.iteOmega]) rfl ⟨p, n, _, _, xs, [1, 2].take q, rfl, ownR.mono (show ownR (b + 1) _ _ _ from (by repeat (with_reducible first | exact HF.out.1 | exact HF.out.2 | apply ownR.drew | apply ownR.aft | (refine ownR.aftD ?_ _ (by omega)) | apply ownR.alloc | (refine ownR.setCell ?_ _ _ _ _ (by omega))))) (by omega), ownR.mono (show ownR (b + 1) _ _ _ from by repeat (with_reducible first | exact HL.out | apply ownR.drew | apply ownR.aft | (refine ownR.setCell ?_ _ _ _ _ (by omega)) | (refine ownR.aftD ?_ _ (by omega)))) (by omega), HXL.out, by rw [List.length_take]; simp; omega, (Ext.bel (by repeat (with_reducible first | exact HST.out.ext | apply Ext.drew | apply Ext.alloc | apply Ext.aft | (refine Ext.aftD ?_ _ (by omega)) | (refine Ext.setCell ?_ _ _ _ _ (by omega)))))⟩
    case rb =>
      (go_simp; go_at_call 33; refine viaDr (s_next B b _ _ (by repeat (with_reducible first | exact HS.out | apply src.drew | apply src.alloc)) (by omega)) ?_; intro d5 u5 hd5 hs5 hl5; (try dsimp only at hd5); (try simp at hl5); obtain ⟨q, hq⟩ : ∃ q : Nat, d5 = (q : Int) := (⟨d5.toNat, by omega⟩); subst hq; have hq2 : q ≤ 2 := (by omega); have hq3 : (q : Int) ≤ 2 := (by omega); go_wp2_with fail)
      (refine hK.out _ _ ?_ (fun hHeld => ?_); focus ((try dsimp only); (refine heldD.at (b := b) (R := w.heap.size) hKX hKb hKR gX ?_; (repeat (with_reducible first | exact heldD.refl _ _ _ | apply heldD.drew | apply heldD.aftD | apply heldD.aft | apply heldD.alloc | apply heldD.set)))))
      (clear hK K; (try simp only [Act.put, List.setIfInBounds_toArray, List.set_cons_zero, List.set_cons_succ]))
      (refine wpAnyH_ready (rs := [2, 6]) (by decide +kernel) (by simp) ?_; refine AllReadyH.cons (o := ?oc) ?hc (fun K hK => ?rc) (AllReadyH.cons (o := ?od) ?hd (fun K hK => ?rd) AllReadyH.nil); (case hc => (simp only [List.getElem?_toArray, List.getElem?_cons_succ, List.getElem?_cons_zero]; first | done | rfl)); (case hd => (simp only [List.getElem?_toArray, List.getElem?_cons_succ, List.getElem?_cons_zero]; first | done | rfl)))
      case rc =>
        (rw [if_pos (by rfl)]; go_wp2_with fail)
        (refine hK.out _ _ ?_ (fun hHeld => ?_); focus ((try dsimp only); (refine heldD.at (b := b) (R := w.heap.size) hKX hKb hKR gX ?_; (repeat (with_reducible first | exact heldD.refl _ _ _ | apply heldD.drew | apply heldD.aftD | apply heldD.aft | apply heldD.alloc | apply heldD.set)))))
        (clear hK K; (try simp only [Act.put, List.setIfInBounds_toArray, List.set_cons_zero, List.set_cons_succ]))
        (refine wpAnyH_take (i := 5) (oi := ?ho7) (v := ?hv7) ?hi7 (by kernel_rfl) (by kernel_rfl) (by kernel_rfl) ?hq7 ?hy7 (by assumption) ?hr7; (case hi7 => (simp only [List.getElem?_toArray, List.getElem?_cons_succ, List.getElem?_cons_zero]; first | done | rfl)); (case hq7 => exact fun _ _ _ h => h); (case hy7 => (refine Or.inl ⟨by rfl, ?_⟩; intro w hSw; (try dsimp only at hSw); go_simp; first | done | with_reducible rfl)); (try simp only [Act.put, List.setIfInBounds_toArray, List.set_cons_zero, List.set_cons_succ]))
        (refine wpAnyH_ready (rs := [6]) (by decide +kernel) (by simp) ?_; refine AllReadyH.cons (o := ?ho15) ?hi15 (fun K hK => ?hr15) AllReadyH.nil; (case hi15 => (simp only [List.getElem?_toArray, List.getElem?_cons_succ, List.getElem?_cons_zero]; first | done | rfl)))
        (rw [if_pos (by rfl)]; go_wp2_with fail)
        (refine hK.out _ _ ?_ (fun hHeld => ?_); focus ((try dsimp only); (refine heldD.at (b := b) (R := w.heap.size) hKX hKb hKR gX ?_; (repeat (with_reducible first | exact heldD.refl _ _ _ | apply heldD.drew | apply heldD.aftD | apply heldD.aft | apply heldD.alloc | apply heldD.set)))))
        (clear hK K; (try simp only [Act.put, List.setIfInBounds_toArray, List.set_cons_zero, List.set_cons_succ]))
        (refine wpAnyH_take (i := 7) (oi := ?ho8) (v := ?hv8) ?hi8 (by kernel_rfl) (by kernel_rfl) (by kernel_rfl) ?hq8 ?hy8 (by assumption) ?hr8; (case hi8 => (simp only [List.getElem?_toArray, List.getElem?_cons_succ, List.getElem?_cons_zero]; first | done | rfl)); (case hq8 => exact fun _ _ _ h => h); (case hy8 => (refine Or.inl ⟨by rfl, ?_⟩; intro w hSw; (try dsimp only at hSw); go_simp; first | done | with_reducible rfl)); (try simp only [Act.put, List.setIfInBounds_toArray, List.set_cons_zero, List.set_cons_succ]))
        (refine wpAnyH_take (i := 8) (oi := ?ho9) (v := ?hv9) ?hi9 (by kernel_rfl) (by kernel_rfl) (by kernel_rfl) ?hq9 ?hy9 (by assumption) ?hr9; (case hi9 => (simp only [List.getElem?_toArray, List.getElem?_cons_succ, List.getElem?_cons_zero]; first | done | rfl)); (case hq9 => exact fun _ _ _ h => h); (case hy9 => (refine Or.inl ⟨by rfl, ?_⟩; intro w hSw; (try dsimp only at hSw); go_simp; first | done | with_reducible rfl)); (try simp only [Act.put, List.setIfInBounds_toArray, List.set_cons_zero, List.set_cons_succ]))
        (refine wpAnyH_done (by kernel_rfl) ?_ _)
        have HL : Hid (ownR (b + 1) ((aftD b X.drew u5).alloc (Obj.cells #[.int .i64 1, .int .i64 2] 2)) (.slice (some ⟨(aftD b X.drew u5).heap.size, 0, none⟩) q 2) ([1, 2].take q)) := hid ((own_cut2 (q := q) (own_cells (aftD b X.drew u5) _ [1, 2] rfl (by simp)) (by simp; omega)).2.mono (by first | omega | (simp; omega)))
        go_wp2_with fail
        exact bodyPost_ret (v := .tuple #[.agg #[Value.int IntKind.i64 p, Value.int IntKind.i64 n], .slice a5 xs.length c5, .slice (some ⟨(aftD b X.drew u5).heap.size, 0, none⟩) q 2]) (by first | (simp [results, go_sem, he0, he1]; done) | simp [results, go_sem, he0, he1, ↓IntWalk.iteOmega]) rfl ⟨p, n, _, _, xs, [1, 2].take q, rfl, ownR.mono (show ownR (b + 1) _ _ _ from (by repeat (with_reducible first | exact HF.out.1 | exact HF.out.2 | apply ownR.drew | apply ownR.aft | (refine ownR.aftD ?_ _ (by omega)) | apply ownR.alloc | (refine ownR.setCell ?_ _ _ _ _ (by omega))))) (by omega), ownR.mono (show ownR (b + 1) _ _ _ from by repeat (with_reducible first | exact HL.out | apply ownR.drew | apply ownR.aft | (refine ownR.setCell ?_ _ _ _ _ (by omega)) | (refine ownR.aftD ?_ _ (by omega)))) (by omega), HXL.out, by rw [List.length_take]; simp; omega, (Ext.bel (by repeat (with_reducible first | exact HST.out.ext | apply Ext.drew | apply Ext.alloc | apply Ext.aft | (refine Ext.aftD ?_ _ (by omega)) | (refine Ext.setCell ?_ _ _ _ _ (by omega)))))⟩
      case rd =>
        (rw [if_pos (by rfl)]; go_wp2_with fail)
        (refine hK.out _ _ ?_ (fun hHeld => ?_); focus ((try dsimp only); (refine heldD.at (b := b) (R := w.heap.size) hKX hKb hKR gX ?_; (repeat (with_reducible first | exact heldD.refl _ _ _ | apply heldD.drew | apply heldD.aftD | apply heldD.aft | apply heldD.alloc | apply heldD.set)))))
        (clear hK K; (try simp only [Act.put, List.setIfInBounds_toArray, List.set_cons_zero, List.set_cons_succ]))
        (refine wpAnyH_take (i := 7) (oi := ?ho10) (v := ?hv10) ?hi10 (by kernel_rfl) (by kernel_rfl) (by kernel_rfl) ?hq10 ?hy10 (by assumption) ?hr10; (case hi10 => (simp only [List.getElem?_toArray, List.getElem?_cons_succ, List.getElem?_cons_zero]; first | done | rfl)); (case hq10 => exact fun _ _ _ h => h); (case hy10 => (refine Or.inl ⟨by rfl, ?_⟩; intro w hSw; (try dsimp only at hSw); go_simp; first | done | with_reducible rfl)); (try simp only [Act.put, List.setIfInBounds_toArray, List.set_cons_zero, List.set_cons_succ]))
        (refine wpAnyH_ready (rs := [2]) (by decide +kernel) (by simp) ?_; refine AllReadyH.cons (o := ?ho16) ?hi16 (fun K hK => ?hr16) AllReadyH.nil; (case hi16 => (simp only [List.getElem?_toArray, List.getElem?_cons_succ, List.getElem?_cons_zero]; first | done | rfl)))
        (rw [if_pos (by rfl)]; go_wp2_with fail)
        (refine hK.out _ _ ?_ (fun hHeld => ?_); focus ((try dsimp only); (refine heldD.at (b := b) (R := w.heap.size) hKX hKb hKR gX ?_; (repeat (with_reducible first | exact heldD.refl _ _ _ | apply heldD.drew | apply heldD.aftD | apply heldD.aft | apply heldD.alloc | apply heldD.set)))))
        (clear hK K; (try simp only [Act.put, List.setIfInBounds_toArray, List.set_cons_zero, List.set_cons_succ]))
        (refine wpAnyH_take (i := 5) (oi := ?ho11) (v := ?hv11) ?hi11 (by kernel_rfl) (by kernel_rfl) (by kernel_rfl) ?hq11 ?hy11 (by assumption) ?hr11; (case hi11 => (simp only [List.getElem?_toArray, List.getElem?_cons_succ, List.getElem?_cons_zero]; first | done | rfl)); (case hq11 => exact fun _ _ _ h => h); (case hy11 => (refine Or.inl ⟨by rfl, ?_⟩; intro w hSw; (try dsimp only at hSw); go_simp; first | done | with_reducible rfl)); (try simp only [Act.put, List.setIfInBounds_toArray, List.set_cons_zero, List.set_cons_succ]))
        (refine wpAnyH_take (i := 8) (oi := ?ho12) (v := ?hv12) ?hi12 (by kernel_rfl) (by kernel_rfl) (by kernel_rfl) ?hq12 ?hy12 (by assumption) ?hr12; (case hi12 => (simp only [List.getElem?_toArray, List.getElem?_cons_succ, List.getElem?_cons_zero]; first | done | rfl)); (case hq12 => exact fun _ _ _ h => h); (case hy12 => (refine Or.inl ⟨by rfl, ?_⟩; intro w hSw; (try dsimp only at hSw); go_simp; first | done | with_reducible rfl)); (try simp only [Act.put, List.setIfInBounds_toArray, List.set_cons_zero, List.set_cons_succ]))
        (refine wpAnyH_done (by kernel_rfl) ?_ _)
        have HL : Hid (ownR (b + 1) ((((aftD b X.drew u5).setCell ⟨w.heap.size, 0, none⟩ (.int .i64 p)).setCell ⟨w.heap.size, 1, none⟩ (.int .i64 n)).alloc (Obj.cells #[.int .i64 1, .int .i64 2] 2)) (.slice (some ⟨(aftD b X.drew u5).heap.size, 0, none⟩) q 2) ([1, 2].take q)) := hid ((own_cut2 (q := q) (own_cells (((aftD b X.drew u5).setCell ⟨w.heap.size, 0, none⟩ (.int .i64 p)).setCell ⟨w.heap.size, 1, none⟩ (.int .i64 n)) (aftD b X.drew u5).heap.size [1, 2] (by simp) (by simp)) (by simp; omega)).2.mono (by first | omega | (simp; omega)))
        go_wp2_with fail
        exact bodyPost_ret (v := .tuple #[.agg #[Value.int IntKind.i64 p, Value.int IntKind.i64 n], .slice a5 xs.length c5, .slice (some ⟨(aftD b X.drew u5).heap.size, 0, none⟩) q 2]) (by first | (simp [results, go_sem, he0, he1]; done) | simp [results, go_sem, he0, he1, ↓IntWalk.iteOmega]) rfl ⟨p, n, _, _, xs, [1, 2].take q, rfl, ownR.mono (show ownR (b + 1) _ _ _ from (by repeat (with_reducible first | exact HF.out.1 | exact HF.out.2 | apply ownR.drew | apply ownR.aft | (refine ownR.aftD ?_ _ (by omega)) | apply ownR.alloc | (refine ownR.setCell ?_ _ _ _ _ (by omega))))) (by omega), ownR.mono (show ownR (b + 1) _ _ _ from by repeat (with_reducible first | exact HL.out | apply ownR.drew | apply ownR.aft | (refine ownR.setCell ?_ _ _ _ _ (by omega)) | (refine ownR.aftD ?_ _ (by omega)))) (by omega), HXL.out, by rw [List.length_take]; simp; omega, (Ext.bel (by repeat (with_reducible first | exact HST.out.ext | apply Ext.drew | apply Ext.alloc | apply Ext.aft | (refine Ext.aftD ?_ _ (by omega)) | (refine Ext.setCell ?_ _ _ _ _ (by omega)))))⟩
  · have h0' : (x == 0) = false := by simpa using h0
    go_wp2_with fail
    exact bodyPost_ret (v := .tuple #[.agg #[Value.int IntKind.i64 p, Value.int IntKind.i64 n], .slice a5 xs.length c5, .slice a6 ys.length c6]) (by first | (simp [results, go_sem, he0, he1]; done) | simp [results, go_sem, he0, he1, ↓IntWalk.iteOmega]) rfl ⟨p, n, _, _, xs, ys, rfl, ownR.mono (show ownR (b + 1) _ _ _ from (by repeat (with_reducible first | exact HF.out.1 | exact HF.out.2 | apply ownR.drew | apply ownR.aft | (refine ownR.aftD ?_ _ (by omega)) | apply ownR.alloc | (refine ownR.setCell ?_ _ _ _ _ (by omega))))) (by omega), ownR.mono (show ownR (b + 1) _ _ _ from (by repeat (with_reducible first | exact HF.out.1 | exact HF.out.2 | apply ownR.drew | apply ownR.aft | (refine ownR.aftD ?_ _ (by omega)) | apply ownR.alloc | (refine ownR.setCell ?_ _ _ _ _ (by omega))))) (by omega), HXL.out, HYL.out, (Ext.bel (by repeat (with_reducible first | exact HST.out.ext | apply Ext.drew | apply Ext.alloc | apply Ext.aft | (refine Ext.aftD ?_ _ (by omega)) | (refine Ext.setCell ?_ _ _ _ _ (by omega)))))⟩
end Go.Proofs.Ytganmeiaflkkoaa
