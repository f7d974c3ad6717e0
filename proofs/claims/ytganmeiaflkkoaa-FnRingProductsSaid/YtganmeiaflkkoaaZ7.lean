/- Draws for the laws on rings: a ring and two polynomials. -/
import Derived.Test.YtganmeiaflkkoaaZ6
namespace Go.Proofs.Ytganmeiaflkkoaa
open Go Go.RowKit

set_option maxRecDepth 20000 in
set_option maxHeartbeats 8000000 in
theorem s_DrawMultiplyInRing (B : Nat) (a : Option Addr) (len cap : Nat) (w : World) (h : rdB B w a len) (hl : len ≤ 4096) (hB : B ≤ w.heap.size) :
    Calls Try.prog 9 #[.slice a len cap] w fun e w' => ∃ (p n : Int) (s1 s2 : Value) (xs ys : List Int), e = .returned (.tuple #[.agg #[.int .i64 p, .int .i64 n], s1, s2]) ∧ ownR w.heap.size w' s1 xs ∧ ownR w.heap.size w' s2 ys ∧ xs.length ≤ 11 ∧ ys.length ≤ 11 ∧ Below w.heap.size w w' := by
  go_enter Try.func9, Try.ntmps9
  go_wp2_with fail
  refine viaF (s_from B a len cap _ (h.of fun j o v hj hv => by rw [alloc_cell, if_neg (by omega)]; exact hv) hl (by simp; omega)) ?_
  intro b u0 hs0 hb0 hl0 hl1
  simp at hb0 hl0
  go_wp2_with fail
  refine viaDX (s_draw12 B b _ hs0) ?_
  intro v u hv hs hl2
  obtain ⟨p, n, s, xs, rfl, own, hxl⟩ := hv
  obtain ⟨a5, c5, hsh, _, _⟩ := own.rd
  subst hsh
  have HXL := hid hxl
  clear hxl
  go_wp2_with fail
  obtain ⟨V, hV⟩ : ∃ V, V = aftD b (aft (w.alloc (Obj.cells #[Value.int IntKind.i64 0, Value.int IntKind.i64 0] 25)) u0) u := ⟨_, rfl⟩
  obtain ⟨K, hK⟩ : ∃ K, K = V.heap.size := ⟨_, rfl⟩
  have hres : resR w.heap.size V := by
    intro j hj
    obtain rfl | rfl : j = 0 ∨ j = 1 := by omega
    all_goals (rw [hV, aftD_frozen, aftD_cell, if_pos (by omega), if_pos (by omega), aft_cell, aft_frozen, if_pos (by simp), if_pos (by simp)]; simp [go_sem])
  have hE : Ext w.heap.size w V := by rw [hV]; exact (((Ext.refl w).alloc _).aft _).aftD _ (by omega)
  have own2 : ownR (b + 1) V (.slice a5 xs.length c5) xs := by rw [hV]; exact own.mono (by omega)
  rw [← hV] at hs hl2 ⊢
  have hbK : b < K := by omega
  clear hV own
  obtain ⟨X, hX⟩ : ∃ X, X = V.alloc (Obj.cells #[Value.int IntKind.i64 p, Value.int IntKind.i64 n] 25) := ⟨_, rfl⟩
  have hST9 : stL B b p n K w X := by
    refine ⟨by rw [hX]; exact hE.alloc _, by rw [hX]; exact hs.alloc _, fun o => by rw [hX, alloc_cell, if_pos hK], fun k hk => ?_, by omega, hbK, by rw [hX, hK]; simp⟩
    rw [hX, alloc_frozen, alloc_cell, if_neg (by omega), if_neg (by omega)]
    exact hres k hk
  have own3 : ownR (b + 1) X (.slice a5 xs.length c5) xs := by rw [hX]; exact own2.alloc _
  rw [← hX, ← hK]
  have hwb : w.heap.size < b := by omega
  clear hX hK hs hres hE hl2 hl1 hl0 hs0 own2 hb0
  have hKb : K ≠ b := by omega
  have hKR : K ≠ w.heap.size := by omega
  have HST := hid hST9
  have HF := hid own3
  clear hST9 own3
  cases hr : ringB p n
  all_goals (
    refine via (s_IsRing _ _ _) ?_
    intro uu zz
    try simp at zz
    obtain ⟨Y, hY⟩ : ∃ Y, Y = aft X uu := ⟨_, rfl⟩
    have hST9 : stL B b p n K w Y := by rw [hY]; exact HST.out.next ((Gr.refl b _).aft _) (HST.out.srcw.aft _)
    have own9 : ownR (b + 1) Y (.slice a5 xs.length c5) xs := by rw [hY]; exact HF.out.aft _
    rw [← hY]
    clear hY HST HF zz
    have HST := hid hST9
    have HF := hid own9
    clear hST9 own9)
  · obtain ⟨e0, he0⟩ := Option.isSome_iff_exists.1 (HST.out.res 0 (by omega)).2
    obtain ⟨e1, he1⟩ := Option.isSome_iff_exists.1 (HST.out.res 1 (by omega)).2
    have hf0 := (HST.out.res 0 (by omega)).1
    have hf1 := (HST.out.res 1 (by omega)).1
    have gX := HST.out.ring
    have g0 := gX 0
    have g1 := gX 1
    simp at g0 g1
    have hKX := HST.out.kx
    go_wp2_with fail
    exact bodyPost_ret (v := .tuple #[.agg #[Value.int IntKind.i64 p, Value.int IntKind.i64 n], .slice a5 xs.length c5, .slice (some ⟨Y.heap.size, 0, none⟩) 1 1]) (by first | (simp [results, go_sem, he0, he1]; done) | simp [results, go_sem, he0, he1, ↓IntWalk.iteOmega]) rfl ⟨p, n, _, _, xs, [1], rfl, (((HF.out.alloc _).setCell _ _ _ _ (by omega)).setCell _ _ _ _ (by omega)).mono (by omega), (((own_cells Y _ [1] rfl (by simp)).setCell _ _ _ _ (by omega)).setCell _ _ _ _ (by omega)).mono (by omega), HXL.out, by simp, (Ext.bel (by repeat (with_reducible first | exact HST.out.ext | apply Ext.drew | apply Ext.alloc | apply Ext.aft | (refine Ext.aftD ?_ _ (by omega)) | (refine Ext.setCell ?_ _ _ _ _ (by omega)))))⟩
  · obtain ⟨X, hX9⟩ : ∃ X, X = Y := ⟨_, rfl⟩
    rw [← hX9] at HST HF ⊢
    clear hX9
    obtain ⟨e0, he0⟩ := Option.isSome_iff_exists.1 (HST.out.res 0 (by omega)).2
    obtain ⟨e1, he1⟩ := Option.isSome_iff_exists.1 (HST.out.res 1 (by omega)).2
    have hf0 := (HST.out.res 0 (by omega)).1
    have hf1 := (HST.out.res 1 (by omega)).1
    have gX := HST.out.ring
    have g0 := gX 0
    have g1 := gX 1
    simp at g0 g1
    have hKX := HST.out.kx
    have HS := hid HST.out.srcw
    go_wp2_with fail
    (refine wp_region_held_drew (S := (fun w' => (∀ o, w'.cell? ⟨K, o, none⟩ = #[Value.int .i64 p, .int .i64 n][o]?) ∧ X.heap.size ≤ w'.heap.size)) (by kernel_rfl) ?_ (fun hHeld => ?_); focus ((try dsimp only); (refine heldD.at (b := b) (R := w.heap.size) hKX hKb hKR gX ?_; (repeat (with_reducible first | exact heldD.refl _ _ _ | apply heldD.drew | apply heldD.aftD | apply heldD.aft | apply heldD.alloc | apply heldD.set)))))
    (refine wpAnyH_take (i := 0) (oi := ?ho1) (v := ?hv1) ?hi1 (by kernel_rfl) (by kernel_rfl) (by kernel_rfl) ?hq1 ?hy1 (by assumption) ?hr1; (case hi1 => (simp only [List.getElem?_toArray, List.getElem?_cons_succ, List.getElem?_cons_zero]; first | done | rfl)); (case hq1 => exact fun _ _ _ h => h); (case hy1 => (refine Or.inl ⟨by rfl, ?_⟩; intro w hSw; (try dsimp only at hSw); go_simp; first | done | with_reducible rfl)); (try simp only [Act.put, List.setIfInBounds_toArray, List.set_cons_zero, List.set_cons_succ]))
    (refine wpAnyH_take (i := 1) (oi := ?ho2) (v := ?hv2) ?hi2 (by kernel_rfl) (by kernel_rfl) (by kernel_rfl) ?hq2 ?hy2 (by assumption) ?hr2; (case hi2 => (simp only [List.getElem?_toArray, List.getElem?_cons_succ, List.getElem?_cons_zero]; first | done | rfl)); (case hq2 => exact fun _ _ _ h => h); (case hy2 => (refine Or.inl ⟨by rfl, ?_⟩; intro w hSw; (try dsimp only at hSw); go_simp; first | done | with_reducible rfl)); (try simp only [Act.put, List.setIfInBounds_toArray, List.set_cons_zero, List.set_cons_succ]))
    (refine wpAnyH_take (i := 2) (oi := ?ho3) (v := ?hv3) ?hi3 (by kernel_rfl) (by kernel_rfl) (by kernel_rfl) ?hq3 ?hy3 (by assumption) ?hr3; (case hi3 => (simp only [List.getElem?_toArray, List.getElem?_cons_succ, List.getElem?_cons_zero]; first | done | rfl)); (case hq3 => exact fun _ _ _ h => h); (case hy3 => (refine Or.inl ⟨by rfl, ?_⟩; intro w hSw; (try dsimp only at hSw); go_simp; first | done | with_reducible rfl)); (try simp only [Act.put, List.setIfInBounds_toArray, List.set_cons_zero, List.set_cons_succ]))
    (refine wpAnyH_take (i := 3) (oi := ?ho4) (v := ?hv4) ?hi4 (by kernel_rfl) (by kernel_rfl) (by kernel_rfl) ?hq4 ?hy4 (by assumption) ?hr4; (case hi4 => (simp only [List.getElem?_toArray, List.getElem?_cons_succ, List.getElem?_cons_zero]; first | done | rfl)); (case hq4 => exact fun _ _ _ h => h); (case hy4 => (refine Or.inl ⟨by rfl, ?_⟩; intro w hSw; (try dsimp only at hSw); go_simp; first | done | with_reducible rfl)); (try simp only [Act.put, List.setIfInBounds_toArray, List.set_cons_zero, List.set_cons_succ]))
    (refine wpAnyH_take (i := 4) (oi := ?ho5) (v := ?hv5) ?hi5 (by kernel_rfl) (by kernel_rfl) (by kernel_rfl) ?hq5 ?hy5 (by assumption) ?hr5; (case hi5 => (simp only [List.getElem?_toArray, List.getElem?_cons_succ, List.getElem?_cons_zero]; first | done | rfl)); (case hq5 => exact fun _ _ _ h => h); (case hy5 => (refine Or.inl ⟨by rfl, ?_⟩; intro w hSw; (try dsimp only at hSw); go_simp; first | done | with_reducible rfl)); (try simp only [Act.put, List.setIfInBounds_toArray, List.set_cons_zero, List.set_cons_succ]))
    (refine wpAnyH_ready (rs := [5]) (by decide +kernel) (by simp) ?_; refine AllReadyH.cons (o := ?ho8) ?hi8 (fun K hK => ?hr8) AllReadyH.nil; (case hi8 => (simp only [List.getElem?_toArray, List.getElem?_cons_succ, List.getElem?_cons_zero]; first | done | rfl)))
    (go_simp; go_at_call 33; refine viaDr (s_next B b _ _ HS.out.drew (by omega)) ?_; intro d5 u5 hd5 hs5 hl5; (try dsimp only at hd5); (try simp at hl5); go_wp2_with fail)
    (refine hK.out _ _ ?_ (fun hHeld => ?_); focus ((try dsimp only); (refine heldD.at (b := b) (R := w.heap.size) hKX hKb hKR gX ?_; (repeat (with_reducible first | exact heldD.refl _ _ _ | apply heldD.drew | apply heldD.aftD | apply heldD.aft | apply heldD.alloc | apply heldD.set)))))
    (clear hK K; (try simp only [Act.put, List.setIfInBounds_toArray, List.set_cons_zero, List.set_cons_succ]))
    (refine wpAnyH_ready (rs := [6]) (by decide +kernel) (by simp) ?_; refine AllReadyH.cons (o := ?ho9) ?hi9 (fun K hK => ?hr9) AllReadyH.nil; (case hi9 => (simp only [List.getElem?_toArray, List.getElem?_cons_succ, List.getElem?_cons_zero]; first | done | rfl)))
    (go_simp; go_at_call 44; refine viaDX (s_valid12 B b p n _ _ hs5 hr (by omega)) ?_; intro t6 u6 ht6 hs6 hl6; obtain ⟨ys, own6, hyl, hyb, hy1⟩ := ht6; obtain ⟨a6, c6, hsh6, _, _⟩ := own6.rd; subst hsh6; (try simp at hl6); have hyl2 : ys.length ≤ 11 := (by omega); have HYL := hid hyl2; clear hyl hyl2 hyb hy1; go_wp2_with fail)
    (refine hK.out _ _ ?_ (fun hHeld => ?_); focus ((try dsimp only); (refine heldD.at (b := b) (R := w.heap.size) hKX hKb hKR gX ?_; (repeat (with_reducible first | exact heldD.refl _ _ _ | apply heldD.drew | apply heldD.aftD | apply heldD.aft | apply heldD.alloc | apply heldD.set)))))
    (clear hK K; (try simp only [Act.put, List.setIfInBounds_toArray, List.set_cons_zero, List.set_cons_succ]))
    (refine wpAnyH_ready (rs := [7]) (by decide +kernel) (by simp) ?_; refine AllReadyH.cons (o := ?ho10) ?hi10 (fun K hK => ?hr10) AllReadyH.nil; (case hi10 => (simp only [List.getElem?_toArray, List.getElem?_cons_succ, List.getElem?_cons_zero]; first | done | rfl)))
    (rw [if_pos (by rfl)]; go_wp2_with fail)
    (refine hK.out _ _ ?_ (fun hHeld => ?_); focus ((try dsimp only); (refine heldD.at (b := b) (R := w.heap.size) hKX hKb hKR gX ?_; (repeat (with_reducible first | exact heldD.refl _ _ _ | apply heldD.drew | apply heldD.aftD | apply heldD.aft | apply heldD.alloc | apply heldD.set)))))
    (clear hK K; (try simp only [Act.put, List.setIfInBounds_toArray, List.set_cons_zero, List.set_cons_succ]))
    (refine wpAnyH_take (i := 8) (oi := ?ho6) (v := ?hv6) ?hi6 (by kernel_rfl) (by kernel_rfl) (by kernel_rfl) ?hq6 ?hy6 (by assumption) ?hr6; (case hi6 => (simp only [List.getElem?_toArray, List.getElem?_cons_succ, List.getElem?_cons_zero]; first | done | rfl)); (case hq6 => exact fun _ _ _ h => h); (case hy6 => (refine Or.inl ⟨by rfl, ?_⟩; intro w hSw; (try dsimp only at hSw); go_simp; first | done | with_reducible rfl)); (try simp only [Act.put, List.setIfInBounds_toArray, List.set_cons_zero, List.set_cons_succ]))
    (refine wpAnyH_take (i := 9) (oi := ?ho7) (v := ?hv7) ?hi7 (by kernel_rfl) (by kernel_rfl) (by kernel_rfl) ?hq7 ?hy7 (by assumption) ?hr7; (case hi7 => (simp only [List.getElem?_toArray, List.getElem?_cons_succ, List.getElem?_cons_zero]; first | done | rfl)); (case hq7 => exact fun _ _ _ h => h); (case hy7 => (refine Or.inl ⟨by rfl, ?_⟩; intro w hSw; (try dsimp only at hSw); go_simp; first | done | with_reducible rfl)); (try simp only [Act.put, List.setIfInBounds_toArray, List.set_cons_zero, List.set_cons_succ]))
    (refine wpAnyH_done (by kernel_rfl) ?_ _)
    go_wp2_with fail
    exact bodyPost_ret (v := .tuple #[.agg #[Value.int IntKind.i64 p, Value.int IntKind.i64 n], .slice a5 xs.length c5, .slice a6 ys.length c6]) (by first | (simp [results, go_sem, he0, he1]; done) | simp [results, go_sem, he0, he1, ↓IntWalk.iteOmega]) rfl ⟨p, n, _, _, xs, ys, rfl, ownR.mono (show ownR (b + 1) _ _ _ from (by repeat (with_reducible first | exact HF.out | apply ownR.drew | apply ownR.aft | (refine ownR.aftD ?_ _ (by omega)) | apply ownR.alloc | (refine ownR.setCell ?_ _ _ _ _ (by omega))))) (by omega), (((own6.mono (show w.heap.size + 1 ≤ _ by omega)).setCell _ _ _ _ (by omega)).setCell _ _ _ _ (by omega)).mono (by omega), HXL.out, HYL.out, (Ext.bel (by repeat (with_reducible first | exact HST.out.ext | apply Ext.drew | apply Ext.alloc | apply Ext.aft | (refine Ext.aftD ?_ _ (by omega)) | (refine Ext.setCell ?_ _ _ _ _ (by omega)))))⟩
end Go.Proofs.Ytganmeiaflkkoaa
