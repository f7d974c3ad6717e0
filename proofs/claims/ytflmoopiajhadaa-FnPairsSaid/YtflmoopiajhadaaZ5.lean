/- Draws: a ring and a polynomial in it, rarely one that is none. (Printed by mkZ5.py.) -/
import Derived.Test.YtflmoopiajhadaaZ4
namespace Go.Proofs.Ytflmoopiajhadaa
open Go Go.RowKit

set_option maxRecDepth 20000 in
set_option maxHeartbeats 32000000 in
theorem s_draw12 (B b : Nat) (w : World) (h : src B b w) :
    Calls Try.prog 25 #[.pointer (some ⟨b, 0, none⟩)] w (DrawX B b w (fun w' v => ∃ (p n : Int) (s : Value) (xs : List Int), v = .tuple #[.agg #[.int .i64 p, .int .i64 n], s] ∧ ownR w.heap.size w' s xs ∧ xs.length ≤ 11)) := by
  obtain ⟨i0, hi, hz0, hz1, hz2⟩ := info_parts infoI
  have hb := h.lt
  have hB := h.ge
  go_enter Try.func25, Try.ntmps25
  go_wp2_with fail
  refine viaDr (s_draw2 B b _ (h.alloc _)) ?_
  intro y u hy hs hl
  (try simp at hl)
  obtain ⟨p, n⟩ := y
  clear hy
  dsimp only
  go_wp2_with fail
  obtain ⟨V, hV⟩ : ∃ V, V = aftD b (w.alloc (Obj.cells #[Value.int IntKind.i64 0, Value.int IntKind.i64 0] 25)) u := ⟨_, rfl⟩
  have lV : w.heap.size + 1 ≤ V.heap.size := by rw [hV]; omega
  have hgV : Gr b w V := by rw [hV]; exact ((Gr.refl b w).alloc _).aftD _
  have hrV : ∀ k, k < 2 → V.frozen? ⟨w.heap.size, k, none⟩ = false ∧ (V.cell? ⟨w.heap.size, k, none⟩).isSome = true := by
    intro j hj
    obtain rfl | rfl : j = 0 ∨ j = 1 := by omega
    all_goals (rw [hV, aftD_frozen, aftD_cell, if_pos (by simp; omega), if_pos (by simp; omega)]; simp [go_sem])
  rw [← hV] at hs ⊢
  clear hV hl
  obtain ⟨K, hK⟩ : ∃ K, K = V.heap.size := ⟨_, rfl⟩
  obtain ⟨X, hX⟩ : ∃ X, X = V.alloc (Obj.cells #[Value.int IntKind.i64 p, Value.int IntKind.i64 n] 25) := ⟨_, rfl⟩
  have hST9 : stR B b p n K w X := by
    refine ⟨by rw [hX]; exact hgV.alloc _, by rw [hX]; exact hs.alloc _, fun o => by rw [hX, alloc_cell, if_pos hK], fun k hk => ?_, by omega, by rw [hX, hK]; simp, hb⟩
    rw [hX, alloc_frozen, alloc_cell, if_neg (by omega), if_neg (by omega)]
    exact hrV k hk
  rw [← hX, ← hK]
  have hwK : w.heap.size < K := by omega
  have hKb : K ≠ b := by omega
  have hKR : K ≠ w.heap.size := by omega
  have hKbl : b < K := by omega
  clear hX hK hs hgV hrV lV h
  have HST := hid hST9
  clear hST9
  cases hr : ringB p n
  · obtain ⟨e0, he0⟩ := Option.isSome_iff_exists.1 (HST.out.res 0 (by omega)).2
    obtain ⟨e1, he1⟩ := Option.isSome_iff_exists.1 (HST.out.res 1 (by omega)).2
    have hf0 := (HST.out.res 0 (by omega)).1
    have hf1 := (HST.out.res 1 (by omega)).1
    have gX := HST.out.ring
    have g0 := gX 0
    have g1 := gX 1
    simp at g0 g1
    have hKX := HST.out.kx
    have HS := hid HST.out.srcw
    go_wp2_with fail
    refine via (s_IsRing _ _ _) ?_
    intro uu zz
    try simp at zz
    obtain ⟨X, hX⟩ : ∃ Y, Y = aft X uu := ⟨_, rfl⟩
    have hST9 : stR B b p n K w X := by rw [hX]; exact HST.out.next ((Gr.refl b _).aft _) (HST.out.srcw.aft _)
    rw [← hX]
    clear hX
    have HST := hid hST9
    clear hST9 zz
    clear he0 he1 hf0 hf1 gX g0 g1 hKX HS
    obtain ⟨e0, he0⟩ := Option.isSome_iff_exists.1 (HST.out.res 0 (by omega)).2
    obtain ⟨e1, he1⟩ := Option.isSome_iff_exists.1 (HST.out.res 1 (by omega)).2
    have hf0 := (HST.out.res 0 (by omega)).1
    have hf1 := (HST.out.res 1 (by omega)).1
    have gX := HST.out.ring
    have g0 := gX 0
    have g1 := gX 1
    simp at g0 g1
    have hKX := HST.out.kx
    have HS := hid HST.out.srcw
    go_wp2_with fail
    exact bodyPost_ret (v := .tuple #[.agg #[Value.int IntKind.i64 p, Value.int IntKind.i64 n], .slice (some ⟨X.heap.size, 0, none⟩) 2 2]) (by first | (simp [results, go_sem, he0, he1]; done) | simp [results, go_sem, he0, he1, ↓IntWalk.iteOmega]) rfl ⟨_, rfl, ⟨p, n, _, [1, 1], rfl, ((ownR.setCell (ownR.setCell ((own_cells X _ [1, 1] rfl (by simp)).mono (show K + 1 ≤ X.heap.size by omega)) _ _ _ _ (by omega)) _ _ _ _ (by omega))).mono (by omega), by simp⟩, Gr.set (Gr.set (HST.out.gr.alloc _) (by omega)) (by omega), ((HS.out.alloc _).set (by omega) (by omega) _).set (by omega) (by omega) _⟩
  · obtain ⟨r1, r2, r3, r4, _, _, _⟩ := ring_facts2 hr
    have HM : Hid (∀ W : World, Calls Try.prog 50 #[.int .i64 p, .int .i64 n] W fun e w' => e = .returned (.int .i64 (p ^ n.toNat)) ∧ W = w') := hid fun W => by
      have := s_modulus p n W (by omega) (by omega) (by omega)
      rw [modu_ring hr] at this
      exact this
    obtain ⟨M, hM⟩ : ∃ M, M = p ^ n.toNat := ⟨_, rfl⟩
    rw [← hM] at HM r3 r4
    have HME := hid hM
    clear hM
    obtain ⟨e0, he0⟩ := Option.isSome_iff_exists.1 (HST.out.res 0 (by omega)).2
    obtain ⟨e1, he1⟩ := Option.isSome_iff_exists.1 (HST.out.res 1 (by omega)).2
    have hf0 := (HST.out.res 0 (by omega)).1
    have hf1 := (HST.out.res 1 (by omega)).1
    have gX := HST.out.ring
    have g0 := gX 0
    have g1 := gX 1
    simp at g0 g1
    have hKX := HST.out.kx
    have HS := hid HST.out.srcw
    go_wp2_with fail
    refine via (s_IsRing _ _ _) ?_
    intro uu zz
    try simp at zz
    obtain ⟨X, hX⟩ : ∃ Y, Y = aft X uu := ⟨_, rfl⟩
    have hST9 : stR B b p n K w X := by rw [hX]; exact HST.out.next ((Gr.refl b _).aft _) (HST.out.srcw.aft _)
    rw [← hX]
    clear hX
    have HST := hid hST9
    clear hST9 zz
    clear he0 he1 hf0 hf1 gX g0 g1 hKX HS
    obtain ⟨e0, he0⟩ := Option.isSome_iff_exists.1 (HST.out.res 0 (by omega)).2
    obtain ⟨e1, he1⟩ := Option.isSome_iff_exists.1 (HST.out.res 1 (by omega)).2
    have hf0 := (HST.out.res 0 (by omega)).1
    have hf1 := (HST.out.res 1 (by omega)).1
    have gX := HST.out.ring
    have g0 := gX 0
    have g1 := gX 1
    simp at g0 g1
    have hKX := HST.out.kx
    have HS := hid HST.out.srcw
    go_wp2_with (go_at_call 50; refine pur (HM.out _) ?_)
    (refine wp_region_held_drew (S := (fun w' => (∀ o, w'.cell? ⟨K, o, none⟩ = #[Value.int .i64 p, .int .i64 n][o]?) ∧ X.heap.size ≤ w'.heap.size)) (by kernel_rfl) ?_ (fun hHeld => ?_); focus ((try dsimp only); (refine heldD.at (b := b) (R := w.heap.size) hKX hKb hKR gX ?_; (repeat (with_reducible first | exact heldD.refl _ _ _ | apply heldD.drew | apply heldD.aftD | apply heldD.aft | apply heldD.alloc | apply heldD.set)))))
    (refine wpAnyH_take (i := 0) (oi := ?ho1) (v := ?hv1) ?hi1 (by kernel_rfl) (by kernel_rfl) (by kernel_rfl) ?hq1 ?hy1 (by assumption) ?hr1; (case hi1 => (simp only [List.getElem?_toArray, List.getElem?_cons_zero]; first | done | rfl)); (case hq1 => exact fun _ _ _ h => h); (case hy1 => (refine Or.inl ⟨by rfl, ?_⟩; intro w hSw; (try dsimp only at hSw); go_simp; first | done | with_reducible rfl)); (try simp only [Act.put, List.setIfInBounds_toArray, List.set_cons_zero, List.set_cons_succ]))
    (refine wpAnyH_take (i := 1) (oi := ?ho2) (v := ?hv2) ?hi2 (by kernel_rfl) (by kernel_rfl) (by kernel_rfl) ?hq2 ?hy2 (by assumption) ?hr2; (case hi2 => (simp only [List.getElem?_toArray, List.getElem?_cons_succ, List.getElem?_cons_zero]; first | done | rfl)); (case hq2 => exact fun _ _ _ h => h); (case hy2 => (refine Or.inl ⟨by rfl, ?_⟩; intro w hSw; (try dsimp only at hSw); go_simp; first | done | with_reducible rfl)); (try simp only [Act.put, List.setIfInBounds_toArray, List.set_cons_zero, List.set_cons_succ]))
    (refine wpAnyH_take (i := 2) (oi := ?ho3) (v := ?hv3) ?hi3 (by kernel_rfl) (by kernel_rfl) (by kernel_rfl) ?hq3 ?hy3 (by assumption) ?hr3; (case hi3 => (simp only [List.getElem?_toArray, List.getElem?_cons_succ, List.getElem?_cons_zero]; first | done | rfl)); (case hq3 => exact fun _ _ _ h => h); (case hy3 => (refine Or.inl ⟨by rfl, ?_⟩; intro w hSw; (try dsimp only at hSw); go_simp; first | done | with_reducible rfl)); (try simp only [Act.put, List.setIfInBounds_toArray, List.set_cons_zero, List.set_cons_succ]))
    (refine wpAnyH_ready (rs := [3]) (by decide +kernel) (by simp) ?_; refine AllReadyH.cons (o := ?ho27) ?hi27 (fun K hK => ?hr27) AllReadyH.nil; (case hi27 => (simp only [List.getElem?_toArray, List.getElem?_cons_succ, List.getElem?_cons_zero]; first | done | rfl)))
    (go_simp; go_at_call 29; refine viaDr (s_next B b _ _ HS.out.drew (by omega)) ?_; intro d5 u5 hd5 hs5 hl5; (try dsimp only at hd5); (try simp at hl5); go_wp2_with fail)
    (refine hK.out _ _ ?_ (fun hHeld => ?_); focus ((try dsimp only); (refine heldD.at (b := b) (R := w.heap.size) hKX hKb hKR gX ?_; (repeat (with_reducible first | exact heldD.refl _ _ _ | apply heldD.drew | apply heldD.aftD | apply heldD.aft | apply heldD.alloc | apply heldD.set)))))
    (clear hK K; (try simp only [Act.put, List.setIfInBounds_toArray, List.set_cons_zero, List.set_cons_succ]))
    (refine wpAnyH_ready (rs := [4]) (by decide +kernel) (by simp) ?_; refine AllReadyH.cons (o := ?ho28) ?hi28 (fun K hK => ?hr28) AllReadyH.nil; (case hi28 => (simp only [List.getElem?_toArray, List.getElem?_cons_succ, List.getElem?_cons_zero]; first | done | rfl)))
    (go_simp; (try rw [IntWalk.i64_in _ (by omega)]); go_at_call 65; refine viaDX (s_valid12 B b p n _ _ hs5 hr (by omega)) ?_; intro t6 u6 ht6 hs6 hl6; obtain ⟨ys6, own6, hxl6, hxb6, hlast6⟩ := ht6; obtain ⟨a6, c6, hsh6, _, _⟩ := own6.rd; subst hsh6; (try simp at hl6); have HXL6 := hid hxl6; clear hxl6; go_wp2_with fail)
    (refine hK.out _ _ ?_ (fun hHeld => ?_); focus ((try dsimp only); (refine heldD.at (b := b) (R := w.heap.size) hKX hKb hKR gX ?_; (repeat (with_reducible first | exact heldD.refl _ _ _ | apply heldD.drew | apply heldD.aftD | apply heldD.aft | apply heldD.alloc | apply heldD.set)))))
    (clear hK K; (try simp only [Act.put, List.setIfInBounds_toArray, List.set_cons_zero, List.set_cons_succ]))
    (refine wpAnyH_take (i := 5) (oi := ?ho4) (v := ?hv4) ?hi4 (by kernel_rfl) (by kernel_rfl) (by kernel_rfl) ?hq4 ?hy4 (by assumption) ?hr4; (case hi4 => (simp only [List.getElem?_toArray, List.getElem?_cons_succ, List.getElem?_cons_zero]; first | done | rfl)); (case hq4 => exact fun _ _ _ h => h); (case hy4 => (refine Or.inl ⟨by rfl, ?_⟩; intro w hSw; (try dsimp only at hSw); go_simp; first | done | with_reducible rfl)); (try simp only [Act.put, List.setIfInBounds_toArray, List.set_cons_zero, List.set_cons_succ]))
    (refine wpAnyH_done (by kernel_rfl) ?_ _)
    go_wp2_with fail
    obtain ⟨xs, hxs⟩ : ∃ z, z = ys6 := ⟨_, rfl⟩
    have hxl6 := HXL6.out
    rw [← hxs] at own6 hxl6 ⊢
    clear hxs hlast6 hxb6 HXL6
    have hx10 : 1 ≤ xs.length ∧ xs.length ≤ 10 := by omega
    obtain ⟨X, hX⟩ : ∃ Y, Y = aftD b (aftD b X.drew u5) u6 := ⟨_, rfl⟩
    have hST9 : stR B b p n K w X := by rw [hX]; exact HST.out.next (((Gr.refl b _).drew.aftD _).aftD _) (hs6)
    have own9 : ownR (K + 1) X (.slice a6 xs.length c6) xs := by rw [hX]; exact own6.mono (show K + 1 ≤ _ by omega)
    rw [← hX]
    clear hX
    have HST := hid hST9
    clear hST9 own6 hs5 hs6 hxl6 hd5
    have HO := hid own9
    clear own9
    clear hl5 hl6 he0 he1 hf0 hf1 gX g0 g1 hKX HS
    refine viaDr (s_next B b _ _ HST.out.srcw (by omega)) ?_
    intro x7 v7 hx7 hs7 hl7
    (try dsimp only at hx7)
    have hKX := HST.out.kx
    obtain ⟨X, hX⟩ : ∃ Y, Y = aftD b X v7 := ⟨_, rfl⟩
    have hST9 : stR B b p n K w X := by rw [hX]; exact HST.out.next ((Gr.refl b _).aftD _) (hs7)
    have own9 : ownR (K + 1) X (.slice a6 xs.length c6) xs := by rw [hX]; exact HO.out.aftD v7 (by omega)
    rw [← hX]
    clear hX
    have HST := hid hST9
    clear hST9 hs7 hl7 hKX
    have HO := hid own9
    clear own9
    by_cases h7 : x7 = 0
    · subst h7
      clear HO hx10
      obtain ⟨e0, he0⟩ := Option.isSome_iff_exists.1 (HST.out.res 0 (by omega)).2
      obtain ⟨e1, he1⟩ := Option.isSome_iff_exists.1 (HST.out.res 1 (by omega)).2
      have hf0 := (HST.out.res 0 (by omega)).1
      have hf1 := (HST.out.res 1 (by omega)).1
      have gX := HST.out.ring
      have g0 := gX 0
      have g1 := gX 1
      simp at g0 g1
      have hKX := HST.out.kx
      have HS := hid HST.out.srcw
      go_wp2_with fail
      (refine wp_region_held_drew (S := (fun w' => (∀ o, w'.cell? ⟨K, o, none⟩ = #[Value.int .i64 p, .int .i64 n][o]?) ∧ X.heap.size ≤ w'.heap.size)) (by kernel_rfl) ?_ (fun hHeld => ?_); focus ((try dsimp only); (refine heldD.at (b := b) (R := w.heap.size) hKX hKb hKR gX ?_; (repeat (with_reducible first | exact heldD.refl _ _ _ | apply heldD.drew | apply heldD.aftD | apply heldD.aft | apply heldD.alloc | apply heldD.set)))))
      (refine wpAnyH_take (i := 0) (oi := ?ho5) (v := ?hv5) ?hi5 (by kernel_rfl) (by kernel_rfl) (by kernel_rfl) ?hq5 ?hy5 (by assumption) ?hr5; (case hi5 => (simp only [List.getElem?_toArray, List.getElem?_cons_zero]; first | done | rfl)); (case hq5 => exact fun _ _ _ h => h); (case hy5 => (refine Or.inl ⟨by rfl, ?_⟩; intro w hSw; (try dsimp only at hSw); go_simp; first | done | with_reducible rfl)); (try simp only [Act.put, List.setIfInBounds_toArray, List.set_cons_zero, List.set_cons_succ]))
      (refine wpAnyH_take (i := 1) (oi := ?ho6) (v := ?hv6) ?hi6 (by kernel_rfl) (by kernel_rfl) (by kernel_rfl) ?hq6 ?hy6 (by assumption) ?hr6; (case hi6 => (simp only [List.getElem?_toArray, List.getElem?_cons_succ, List.getElem?_cons_zero]; first | done | rfl)); (case hq6 => exact fun _ _ _ h => h); (case hy6 => (refine Or.inl ⟨by rfl, ?_⟩; intro w hSw; (try dsimp only at hSw); go_simp; first | done | with_reducible rfl)); (try simp only [Act.put, List.setIfInBounds_toArray, List.set_cons_zero, List.set_cons_succ]))
      (refine wpAnyH_take (i := 2) (oi := ?ho7) (v := ?hv7) ?hi7 (by kernel_rfl) (by kernel_rfl) (by kernel_rfl) ?hq7 ?hy7 (by assumption) ?hr7; (case hi7 => (simp only [List.getElem?_toArray, List.getElem?_cons_succ, List.getElem?_cons_zero]; first | done | rfl)); (case hq7 => exact fun _ _ _ h => h); (case hy7 => (refine Or.inl ⟨by rfl, ?_⟩; intro w hSw; (try dsimp only at hSw); go_simp; first | done | with_reducible rfl)); (try simp only [Act.put, List.setIfInBounds_toArray, List.set_cons_zero, List.set_cons_succ]))
      (refine wpAnyH_take (i := 6) (oi := ?ho8) (v := ?hv8) ?hi8 (by kernel_rfl) (by kernel_rfl) (by kernel_rfl) ?hq8 ?hy8 (by assumption) ?hr8; (case hi8 => (simp only [List.getElem?_toArray, List.getElem?_cons_succ, List.getElem?_cons_zero]; first | done | rfl)); (case hq8 => exact fun _ _ _ h => h); (case hy8 => (refine Or.inl ⟨by rfl, ?_⟩; intro w hSw; (try dsimp only at hSw); go_simp; first | done | with_reducible rfl)); (try simp only [Act.put, List.setIfInBounds_toArray, List.set_cons_zero, List.set_cons_succ]))
      (refine wpAnyH_take (i := 7) (oi := ?ho9) (v := ?hv9) ?hi9 (by kernel_rfl) (by kernel_rfl) (by kernel_rfl) ?hq9 ?hy9 (by assumption) ?hr9; (case hi9 => (simp only [List.getElem?_toArray, List.getElem?_cons_succ, List.getElem?_cons_zero]; first | done | rfl)); (case hq9 => exact fun _ _ _ h => h); (case hy9 => (refine Or.inl ⟨by rfl, ?_⟩; intro w hSw; (try dsimp only at hSw); go_simp; first | done | with_reducible rfl)); (try simp only [Act.put, List.setIfInBounds_toArray, List.set_cons_zero, List.set_cons_succ]))
      (refine wpAnyH_take (i := 8) (oi := ?ho10) (v := ?hv10) ?hi10 (by kernel_rfl) (by kernel_rfl) (by kernel_rfl) ?hq10 ?hy10 (by assumption) ?hr10; (case hi10 => (simp only [List.getElem?_toArray, List.getElem?_cons_succ, List.getElem?_cons_zero]; first | done | rfl)); (case hq10 => exact fun _ _ _ h => h); (case hy10 => (refine Or.inl ⟨by rfl, ?_⟩; intro w hSw; (try dsimp only at hSw); go_simp; first | done | with_reducible rfl)); (try simp only [Act.put, List.setIfInBounds_toArray, List.set_cons_zero, List.set_cons_succ]))
      (refine wpAnyH_take (i := 12) (oi := ?ho11) (v := ?hv11) ?hi11 (by kernel_rfl) (by kernel_rfl) (by kernel_rfl) ?hq11 ?hy11 (by assumption) ?hr11; (case hi11 => (simp only [List.getElem?_toArray, List.getElem?_cons_succ, List.getElem?_cons_zero]; first | done | rfl)); (case hq11 => exact fun _ _ _ h => h); (case hy11 => (refine Or.inl ⟨by rfl, ?_⟩; intro w hSw; (try dsimp only at hSw); go_simp; first | done | with_reducible rfl)); (try simp only [Act.put, List.setIfInBounds_toArray, List.set_cons_zero, List.set_cons_succ]))
      (refine wpAnyH_ready (rs := [3]) (by decide +kernel) (by simp) ?_; refine AllReadyH.cons (o := ?ho29) ?hi29 (fun K hK => ?hr29) AllReadyH.nil; (case hi29 => (simp only [List.getElem?_toArray, List.getElem?_cons_succ, List.getElem?_cons_zero]; first | done | rfl)))
      (go_simp; go_at_call 29; refine viaDr (s_next B b _ _ HS.out.drew (by omega)) ?_; intro d8 u8 hd8 hs8 hl8; (try dsimp only at hd8); (try simp at hl8); go_wp2_with fail)
      (refine hK.out _ _ ?_ (fun hHeld => ?_); focus ((try dsimp only); (refine heldD.at (b := b) (R := w.heap.size) hKX hKb hKR gX ?_; (repeat (with_reducible first | exact heldD.refl _ _ _ | apply heldD.drew | apply heldD.aftD | apply heldD.aft | apply heldD.alloc | apply heldD.set)))))
      (clear hK K; (try simp only [Act.put, List.setIfInBounds_toArray, List.set_cons_zero, List.set_cons_succ]))
      (refine wpAnyH_take (i := 4) (oi := ?ho12) (v := ?hv12) ?hi12 (by kernel_rfl) (by kernel_rfl) (by kernel_rfl) ?hq12 ?hy12 (by assumption) ?hr12; (case hi12 => (simp only [List.getElem?_toArray, List.getElem?_cons_succ, List.getElem?_cons_zero]; first | done | rfl)); (case hq12 => exact fun _ _ _ h => h); (case hy12 => (refine Or.inl ⟨by rfl, ?_⟩; intro w hSw; (try dsimp only at hSw); go_simp; first | done | with_reducible rfl)); (try simp only [Act.put, List.setIfInBounds_toArray, List.set_cons_zero, List.set_cons_succ]))
      (refine wpAnyH_ready (rs := [5]) (by decide +kernel) (by simp) ?_; refine AllReadyH.cons (o := ?ho30) ?hi30 (fun K hK => ?hr30) AllReadyH.nil; (case hi30 => (simp only [List.getElem?_toArray, List.getElem?_cons_succ, List.getElem?_cons_zero]; first | done | rfl)))
      (go_simp; (try rw [IntWalk.i64_in _ (by omega)]); go_at_call 65; refine viaDX (s_valid12 B b p n _ _ hs8 hr (by omega)) ?_; intro tp1 up1 htp1 hsp1 hlp1; obtain ⟨ysp1, ownp1, hxlp1, hxbp1, hlastp1⟩ := htp1; obtain ⟨ap1, cp1, hshp1, _, _⟩ := ownp1.rd; subst hshp1; (try simp at hlp1); have HXLp1 := hid hxlp1; clear hxlp1; go_wp2_with fail)
      (refine hK.out _ _ ?_ (fun hHeld => ?_); focus ((try dsimp only); (refine heldD.at (b := b) (R := w.heap.size) hKX hKb hKR gX ?_; (repeat (with_reducible first | exact heldD.refl _ _ _ | apply heldD.drew | apply heldD.aftD | apply heldD.aft | apply heldD.alloc | apply heldD.set)))))
      (clear hK K; (try simp only [Act.put, List.setIfInBounds_toArray, List.set_cons_zero, List.set_cons_succ]))
      (refine wpAnyH_ready (rs := [9]) (by decide +kernel) (by simp) ?_; refine AllReadyH.cons (o := ?ho31) ?hi31 (fun K hK => ?hr31) AllReadyH.nil; (case hi31 => (simp only [List.getElem?_toArray, List.getElem?_cons_succ, List.getElem?_cons_zero]; first | done | rfl)))
      (go_simp; go_at_call 29; refine viaDr (s_next B b _ _ hsp1 (by omega)) ?_; intro d10 u10 hd10 hs10 hl10; (try dsimp only at hd10); (try simp at hl10); go_wp2_with fail)
      (refine hK.out _ _ ?_ (fun hHeld => ?_); focus ((try dsimp only); (refine heldD.at (b := b) (R := w.heap.size) hKX hKb hKR gX ?_; (repeat (with_reducible first | exact heldD.refl _ _ _ | apply heldD.drew | apply heldD.aftD | apply heldD.aft | apply heldD.alloc | apply heldD.set)))))
      (clear hK K; (try simp only [Act.put, List.setIfInBounds_toArray, List.set_cons_zero, List.set_cons_succ]))
      (refine wpAnyH_take (i := 10) (oi := ?ho13) (v := ?hv13) ?hi13 (by kernel_rfl) (by kernel_rfl) (by kernel_rfl) ?hq13 ?hy13 (by assumption) ?hr13; (case hi13 => (simp only [List.getElem?_toArray, List.getElem?_cons_succ, List.getElem?_cons_zero]; first | done | rfl)); (case hq13 => exact fun _ _ _ h => h); (case hy13 => (refine Or.inl ⟨by rfl, ?_⟩; intro w hSw; (try dsimp only at hSw); go_simp; first | done | with_reducible rfl)); (try simp only [Act.put, List.setIfInBounds_toArray, List.set_cons_zero, List.set_cons_succ]))
      (refine wpAnyH_ready (rs := [11]) (by decide +kernel) (by simp) ?_; refine AllReadyH.cons (o := ?ho32) ?hi32 (fun K hK => ?hr32) AllReadyH.nil; (case hi32 => (simp only [List.getElem?_toArray, List.getElem?_cons_succ, List.getElem?_cons_zero]; first | done | rfl)))
      (go_simp; (try rw [IntWalk.i64_in _ (by omega)]); go_at_call 65; refine viaDX (s_valid12 B b p n _ _ hs10 hr (by omega)) ?_; intro tp2 up2 htp2 hsp2 hlp2; obtain ⟨ysp2, ownp2, hxlp2, hxbp2, hlastp2⟩ := htp2; obtain ⟨ap2, cp2, hshp2, _, _⟩ := ownp2.rd; subst hshp2; (try simp at hlp2); have HXLp2 := hid hxlp2; clear hxlp2; go_wp2_with fail)
      (refine hK.out _ _ ?_ (fun hHeld => ?_); focus ((try dsimp only); (refine heldD.at (b := b) (R := w.heap.size) hKX hKb hKR gX ?_; (repeat (with_reducible first | exact heldD.refl _ _ _ | apply heldD.drew | apply heldD.aftD | apply heldD.aft | apply heldD.alloc | apply heldD.set)))))
      (clear hK K; (try simp only [Act.put, List.setIfInBounds_toArray, List.set_cons_zero, List.set_cons_succ]))
      (refine wpAnyH_ready (rs := [13]) (by decide +kernel) (by simp) ?_; refine AllReadyH.cons (o := ?ho33) ?hi33 (fun K hK => ?hr33) AllReadyH.nil; (case hi33 => (simp only [List.getElem?_toArray, List.getElem?_cons_succ, List.getElem?_cons_zero]; first | done | rfl)))
      (go_simp; go_at_call 54; refine viaI (g := id) (s_mulRing _ _ ysp1 ysp2 M _ ((ownp1.aftD _ (by omega)).aftD _ (by omega)).rd ownp2.rd (by have := HXLp1.out; omega) (by have := HXLp2.out; omega) (by omega) (ring_prods (M := p ^ n.toNat) (by rw [← HME.out]; omega) hxbp1 hxbp2)) ?_; intro t12 u12 hl12 own12; (try simp at hl12); obtain ⟨xs, hxs, own13⟩ : ∃ z, z = mulR M ysp1 ysp2 ∧ ownR _ _ t12 z := ⟨_, rfl, own12⟩; clear own12; have HXS := hid hxs; clear hxs; obtain ⟨a6, c6, hsh12, _, _⟩ := own13.rd; subst hsh12; go_wp2_with fail)
      (refine hK.out _ _ ?_ (fun hHeld => ?_); focus ((try dsimp only); (refine heldD.at (b := b) (R := w.heap.size) hKX hKb hKR gX ?_; (repeat (with_reducible first | exact heldD.refl _ _ _ | apply heldD.drew | apply heldD.aftD | apply heldD.aft | apply heldD.alloc | apply heldD.set)))))
      (clear hK K; (try simp only [Act.put, List.setIfInBounds_toArray, List.set_cons_zero, List.set_cons_succ]))
      (refine wpAnyH_take (i := 14) (oi := ?ho14) (v := ?hv14) ?hi14 (by kernel_rfl) (by kernel_rfl) (by kernel_rfl) ?hq14 ?hy14 (by assumption) ?hr14; (case hi14 => (simp only [List.getElem?_toArray, List.getElem?_cons_succ, List.getElem?_cons_zero]; first | done | rfl)); (case hq14 => exact fun _ _ _ h => h); (case hy14 => (refine Or.inl ⟨by rfl, ?_⟩; intro w hSw; (try dsimp only at hSw); go_simp; first | done | with_reducible rfl)); (try simp only [Act.put, List.setIfInBounds_toArray, List.set_cons_zero, List.set_cons_succ]))
      (refine wpAnyH_done (by kernel_rfl) ?_ _)
      go_wp2_with fail
      have hxlp1 := HXLp1.out
      have hxlp2 := HXLp2.out
      have hml := mul_monic (m := M) (f := ysp1) (g := ysp2) (by omega) hxlp1 hxlp2 hlastp1 hlastp2
      have hml2 := mulR_len M ysp1 ysp2
      rw [← HXS.out] at hml hml2
      clear HXS hlastp1 hlastp2 hxbp1 hxbp2
      have hx10 : 1 ≤ xs.length ∧ xs.length ≤ 10 := by omega
      obtain ⟨X, hX⟩ : ∃ Y, Y = aft (aftD b (aftD b (aftD b (aftD b X.drew u8) up1) u10) up2) u12 := ⟨_, rfl⟩
      have hST9 : stR B b p n K w X := by rw [hX]; exact HST.out.next (((((Gr.refl b _).drew.aftD _).aftD _).aftD _).aftD _ |>.aft _) (hsp2.aft _)
      have own9 : ownR (K + 1) X (.slice a6 xs.length c6) xs := by rw [hX]; exact own13.mono (show K + 1 ≤ _ by omega)
      rw [← hX]
      clear hX
      have HST := hid hST9
      clear hST9 own13 ownp1 ownp2 hs8 hsp1 hs10 hsp2
      have HO := hid own9
      clear own9
      clear hl8 hlp1 hl10 hlp2 hl12 hml hml2 hxlp1 hxlp2 HXLp1 HXLp2 hd8 hd10 he0 he1 hf0 hf1 gX g0 g1 hKX HS
      have hKX := HST.out.kx
      refine viaDr (s_next B b _ _ HST.out.srcw (by omega)) ?_
      intro x v hx hs hl
      (try dsimp only at hx)
      obtain ⟨g, hga, hg1, hg2⟩ := own_head HO.out (by omega)
      subst hga
      obtain ⟨X, hX⟩ : ∃ Y, Y = aftD b X v := ⟨_, rfl⟩
      have hST9 : stR B b p n K w X := by rw [hX]; exact HST.out.next ((Gr.refl b _).aftD _) (hs)
      have own9 : ownR (K + 1) X (.slice (some ⟨g, 0, none⟩) xs.length c6) xs := by rw [hX]; exact HO.out.aftD v (by omega)
      rw [← hX]
      clear hX
      have HST := hid hST9
      clear hST9 hs hl hg2
      have HO := hid own9
      clear own9
      have hgK : g ≠ K := by omega
      have hgw : g ≠ w.heap.size := by omega
      have hgb : g ≠ b := by omega
      by_cases h0 : x = 0
      · subst h0
        go_wp2_with fail
        refine viaDr (s_next B b _ _ HST.out.srcw (by omega)) ?_
        intro y v2 hy hs hl
        clear hy
        obtain ⟨X, hX⟩ : ∃ Y, Y = aftD b X v2 := ⟨_, rfl⟩
        have hST9 : stR B b p n K w X := by rw [hX]; exact HST.out.next ((Gr.refl b _).aftD _) (hs)
        have own9 : ownR (K + 1) X (.slice (some ⟨g, 0, none⟩) xs.length c6) xs := by rw [hX]; exact HO.out.aftD v2 (by omega)
        rw [← hX]
        clear hX
        have HST := hid hST9
        clear hST9 hs hl
        have HO := hid own9
        clear own9
        obtain ⟨L, hL⟩ : ∃ L, xs.length = L + 1 := ⟨xs.length - 1, by omega⟩
        have hc := own_cell HO.out (j := L) (by omega)
        obtain ⟨hc1, hc2⟩ := hc
        have HST2 := hid (own_set HO.out L y).1
        have hsz9 := HST.out.kx
        obtain ⟨e0, he0⟩ := Option.isSome_iff_exists.1 (HST.out.res 0 (by omega)).2
        obtain ⟨e1, he1⟩ := Option.isSome_iff_exists.1 (HST.out.res 1 (by omega)).2
        have hf0 := (HST.out.res 0 (by omega)).1
        have hf1 := (HST.out.res 1 (by omega)).1
        have gX := HST.out.ring
        have g0 := gX 0
        have g1 := gX 1
        simp at g0 g1
        have hKX := HST.out.kx
        have HS := hid HST.out.srcw
        have hi9 : (0 : Int) ≤ (xs.length : Int) - 1 := by omega
        have hj9 : (xs.length : Int) - 1 < (xs.length : Int) := by omega
        have hn9 : ((xs.length : Int) - 1).toNat = L := by omega
        have hsl : (xs.set L y).length = xs.length := List.length_set
        have HSL := hid hsl
        clear hsl hL
        go_wp2_with fail
        exact bodyPost_ret (v := .tuple #[.agg #[Value.int IntKind.i64 p, Value.int IntKind.i64 n], .slice (some ⟨g, 0, none⟩) xs.length c6]) (by first | (simp [results, go_sem, he0, he1]; done) | simp [results, go_sem, he0, he1, ↓IntWalk.iteOmega]) rfl ⟨_, rfl, ⟨p, n, _, xs.set L y, rfl, ((ownR.setCell (ownR.setCell (HST2.out) _ _ _ _ (by omega)) _ _ _ _ (by omega))).mono (by omega), by rw [HSL.out]; omega⟩, Gr.set (Gr.set (Gr.set HST.out.gr (by omega)) (by omega)) (by omega), ((HS.out.set hgb (by omega) _).set (by omega) (by omega) _).set (by omega) (by omega) _⟩
      have h0' : (x == 0) = false := by simpa using h0
      by_cases h1 : x = 1
      · subst h1
        go_wp2_with fail
        refine viaDr (s_pickA B b _ _ _ [0, M, -1] _ _ _ (by simp) rfl rfl HST.out.srcw (by decide) (by decide)) ?_
        intro y v2 hy hs hl
        clear hy
        (try simp at hl)
        obtain ⟨X, hX⟩ : ∃ Y, Y = aftD b (X.alloc (Obj.cells #[.int .i64 0, .int .i64 M, .int .i64 (-1)] 2)) v2 := ⟨_, rfl⟩
        have hST9 : stR B b p n K w X := by rw [hX]; exact HST.out.next (((Gr.refl b _).alloc _).aftD _) (hs)
        have own9 : ownR (K + 1) X (.slice (some ⟨g, 0, none⟩) xs.length c6) xs := by rw [hX]; exact (HO.out.alloc _).aftD v2 (by omega)
        rw [← hX]
        clear hX
        have HST := hid hST9
        clear hST9 hs hl
        have HO := hid own9
        clear own9
        have hge := own_row_ge HO.out
        have HGE := hid hge
        clear hge
        have hsz9 := HST.out.kx
        go_wp2_with (at_builtin; refine wpList_append_own _ rfl _ _ 26 rfl (K + 1) 2 i0 (.int .i64 0) 1 8 Try.underlying26 hi hz0 hz1 hz2 rfl (by decide) _ _ _ rfl (HO.out.alloc _) ⟨_, 0, none⟩ 1 1 [.int .i64 (y)] rfl rfl ?c1 ?c2 ?c3 ?c4 ?c5 ?_)
        try case c1 => exact cell_one_new _ _ _
        case c2 => first | rfl | (intro u hu; simp at hu; subst hu; rfl)
        case c3 => unfold maxLen; omega
        case c4 => omega
        case c5 => first | omega | (simp; omega)
        intro v' w1 hown' hgrow _
        have hST9 := (HST.out.next ((Gr.refl b _).alloc _) (HST.out.srcw.alloc _)).grown hgrow (fun k hk => by have := HGE.out k hk; omega)
        have own9 : ownR (K + 1) w1 v' (xs ++ [y]) := ownR.snocK (xs := xs) rfl hown'
        obtain ⟨a9, c9, hsh9, _, _⟩ := own9.rd
        subst hsh9
        have HST := hid hST9
        have HO9 := hid own9
        clear hown' hgrow hST9 own9 hsz9
        have hsl : (xs ++ [y]).length = xs.length + 1 := by simp
        have HSL := hid hsl
        clear hsl
        obtain ⟨e0, he0⟩ := Option.isSome_iff_exists.1 (HST.out.res 0 (by omega)).2
        obtain ⟨e1, he1⟩ := Option.isSome_iff_exists.1 (HST.out.res 1 (by omega)).2
        have hf0 := (HST.out.res 0 (by omega)).1
        have hf1 := (HST.out.res 1 (by omega)).1
        have gX := HST.out.ring
        have g0 := gX 0
        have g1 := gX 1
        simp at g0 g1
        have hKX := HST.out.kx
        have HS := hid HST.out.srcw
        go_wp2_with fail
        exact bodyPost_ret (v := .tuple #[.agg #[Value.int IntKind.i64 p, Value.int IntKind.i64 n], .slice a9 (xs ++ [y]).length c9]) (by first | (simp [results, go_sem, he0, he1]; done) | simp [results, go_sem, he0, he1, ↓IntWalk.iteOmega]) rfl ⟨_, rfl, ⟨p, n, _, xs ++ [y], rfl, ((ownR.setCell (ownR.setCell (HO9.out) _ _ _ _ (by omega)) _ _ _ _ (by omega))).mono (by omega), by rw [HSL.out]; omega⟩, Gr.set (Gr.set (HST.out.gr) (by omega)) (by omega), ((HS.out).set (by omega) (by omega) _).set (by omega) (by omega) _⟩
      have h1' : (x == 1) = false := by simpa using h1
      by_cases h2 : x = 2
      · subst h2
        obtain ⟨e0, he0⟩ := Option.isSome_iff_exists.1 (HST.out.res 0 (by omega)).2
        obtain ⟨e1, he1⟩ := Option.isSome_iff_exists.1 (HST.out.res 1 (by omega)).2
        have hf0 := (HST.out.res 0 (by omega)).1
        have hf1 := (HST.out.res 1 (by omega)).1
        have gX := HST.out.ring
        have g0 := gX 0
        have g1 := gX 1
        simp at g0 g1
        have hKX := HST.out.kx
        have HS := hid HST.out.srcw
        go_wp2_with fail
        exact bodyPost_ret (v := .tuple #[.agg #[Value.int IntKind.i64 p, Value.int IntKind.i64 n], .slice (some ⟨X.heap.size, 0, none⟩) 0 0]) (by first | (simp [results, go_sem, he0, he1]; done) | simp [results, go_sem, he0, he1, ↓IntWalk.iteOmega]) rfl ⟨_, rfl, ⟨p, n, _, [], rfl, ((ownR.setCell (ownR.setCell ((own_made X).mono (show K + 1 ≤ X.heap.size by omega)) _ _ _ _ (by omega)) _ _ _ _ (by omega))).mono (by omega), by simp⟩, Gr.set (Gr.set (HST.out.gr.alloc _) (by omega)) (by omega), ((HS.out.alloc _).set (by omega) (by omega) _).set (by omega) (by omega) _⟩
      have h2' : (x == 2) = false := by simpa using h2
      by_cases h3 : x = 3
      · subst h3
        obtain ⟨e0, he0⟩ := Option.isSome_iff_exists.1 (HST.out.res 0 (by omega)).2
        obtain ⟨e1, he1⟩ := Option.isSome_iff_exists.1 (HST.out.res 1 (by omega)).2
        have hf0 := (HST.out.res 0 (by omega)).1
        have hf1 := (HST.out.res 1 (by omega)).1
        have gX := HST.out.ring
        have g0 := gX 0
        have g1 := gX 1
        simp at g0 g1
        have hKX := HST.out.kx
        have HS := hid HST.out.srcw
        go_wp2_with fail
        (refine wp_region_held_drew (S := (fun w' => (∀ o, w'.cell? ⟨K, o, none⟩ = #[Value.int .i64 p, .int .i64 n][o]?) ∧ X.heap.size ≤ w'.heap.size)) (by kernel_rfl) ?_ (fun hHeld => ?_); focus ((try dsimp only); (refine heldD.at (b := b) (R := w.heap.size) hKX hKb hKR gX ?_; (repeat (with_reducible first | exact heldD.refl _ _ _ | apply heldD.drew | apply heldD.aftD | apply heldD.aft | apply heldD.alloc | apply heldD.set)))))
        (refine wpAnyH_take (i := 0) (oi := ?ho15) (v := ?hv15) ?hi15 (by kernel_rfl) (by kernel_rfl) (by kernel_rfl) ?hq15 ?hy15 (by assumption) ?hr15; (case hi15 => (simp only [List.getElem?_toArray, List.getElem?_cons_zero]; first | done | rfl)); (case hq15 => exact fun _ _ _ h => h); (case hy15 => (refine Or.inl ⟨by rfl, ?_⟩; intro w hSw; (try dsimp only at hSw); go_simp; first | done | with_reducible rfl)); (try simp only [Act.put, List.setIfInBounds_toArray, List.set_cons_zero, List.set_cons_succ]))
        (refine wpAnyH_take (i := 1) (oi := ?ho16) (v := ?hv16) ?hi16 (by kernel_rfl) (by kernel_rfl) (by kernel_rfl) ?hq16 ?hy16 (by assumption) ?hr16; (case hi16 => (simp only [List.getElem?_toArray, List.getElem?_cons_succ, List.getElem?_cons_zero]; first | done | rfl)); (case hq16 => exact fun _ _ _ h => h); (case hy16 => (refine Or.inl ⟨by rfl, ?_⟩; intro w hSw; (try dsimp only at hSw); go_simp; first | done | with_reducible rfl)); (try simp only [Act.put, List.setIfInBounds_toArray, List.set_cons_zero, List.set_cons_succ]))
        (refine wpAnyH_take (i := 2) (oi := ?ho17) (v := ?hv17) ?hi17 (by kernel_rfl) (by kernel_rfl) (by kernel_rfl) ?hq17 ?hy17 (by assumption) ?hr17; (case hi17 => (simp only [List.getElem?_toArray, List.getElem?_cons_succ, List.getElem?_cons_zero]; first | done | rfl)); (case hq17 => exact fun _ _ _ h => h); (case hy17 => (refine Or.inl ⟨by rfl, ?_⟩; intro w hSw; (try dsimp only at hSw); go_simp; first | done | with_reducible rfl)); (try simp only [Act.put, List.setIfInBounds_toArray, List.set_cons_zero, List.set_cons_succ]))
        (refine wpAnyH_take (i := 3) (oi := ?ho18) (v := ?hv18) ?hi18 (by kernel_rfl) (by kernel_rfl) (by kernel_rfl) ?hq18 ?hy18 (by assumption) ?hr18; (case hi18 => (simp only [List.getElem?_toArray, List.getElem?_cons_succ, List.getElem?_cons_zero]; first | done | rfl)); (case hq18 => exact fun _ _ _ h => h); (case hy18 => (refine Or.inl ⟨by rfl, ?_⟩; intro w hSw; (try dsimp only at hSw); go_simp; first | done | with_reducible rfl)); (try simp only [Act.put, List.setIfInBounds_toArray, List.set_cons_zero, List.set_cons_succ]))
        (refine wpAnyH_ready (rs := [4]) (by decide +kernel) (by simp) ?_; refine AllReadyH.cons (o := ?ho34) ?hi34 (fun K hK => ?hr34) AllReadyH.nil; (case hi34 => (simp only [List.getElem?_toArray, List.getElem?_cons_succ, List.getElem?_cons_zero]; first | done | rfl)))
        (go_simp; go_at_call 29; refine viaDr (s_next B b _ _ HS.out.drew (by omega)) ?_; intro dq uq hdq hsq hlq; (try dsimp only at hdq); (try simp at hlq); go_wp2_with fail)
        (refine hK.out _ _ ?_ (fun hHeld => ?_); focus ((try dsimp only); (refine heldD.at (b := b) (R := w.heap.size) hKX hKb hKR gX ?_; (repeat (with_reducible first | exact heldD.refl _ _ _ | apply heldD.drew | apply heldD.aftD | apply heldD.aft | apply heldD.alloc | apply heldD.set)))))
        (clear hK K; (try simp only [Act.put, List.setIfInBounds_toArray, List.set_cons_zero, List.set_cons_succ]))
        (refine wpAnyH_take (i := 5) (oi := ?ho19) (v := ?hv19) ?hi19 (by kernel_rfl) (by kernel_rfl) (by kernel_rfl) ?hq19 ?hy19 (by assumption) ?hr19; (case hi19 => (simp only [List.getElem?_toArray, List.getElem?_cons_succ, List.getElem?_cons_zero]; first | done | rfl)); (case hq19 => exact fun _ _ _ h => h); (case hy19 => (refine Or.inl ⟨by rfl, ?_⟩; intro w hSw; (try dsimp only at hSw); go_simp; first | done | with_reducible rfl)); (try simp only [Act.put, List.setIfInBounds_toArray, List.set_cons_zero, List.set_cons_succ]))
        (refine wpAnyH_ready (rs := [6]) (by decide +kernel) (by simp) ?_; refine AllReadyH.cons (o := ?ho35) ?hi35 (fun K hK => ?hr35) AllReadyH.nil; (case hi35 => (simp only [List.getElem?_toArray, List.getElem?_cons_succ, List.getElem?_cons_zero]; first | done | rfl)))
        (go_simp; (try rw [IntWalk.i64_in _ (by omega)]); go_at_call 65; refine viaDX (s_valid12 B b p n _ _ hsq hr (by omega)) ?_; intro tr ur htr hsr hlr; obtain ⟨ysr, ownr, hxlr, hxbr, hlastr⟩ := htr; obtain ⟨ar, cr, hshr, _, _⟩ := ownr.rd; subst hshr; (try simp at hlr); have HXLr := hid hxlr; clear hxlr; go_wp2_with fail)
        (refine hK.out _ _ ?_ (fun hHeld => ?_); focus ((try dsimp only); (refine heldD.at (b := b) (R := w.heap.size) hKX hKb hKR gX ?_; (repeat (with_reducible first | exact heldD.refl _ _ _ | apply heldD.drew | apply heldD.aftD | apply heldD.aft | apply heldD.alloc | apply heldD.set)))))
        (clear hK K; (try simp only [Act.put, List.setIfInBounds_toArray, List.set_cons_zero, List.set_cons_succ]))
        (refine wpAnyH_ready (rs := [7]) (by decide +kernel) (by simp) ?_; refine AllReadyH.cons (o := ?ho36) ?hi36 (fun K hK => ?hr36) AllReadyH.nil; (case hi36 => (simp only [List.getElem?_toArray, List.getElem?_cons_succ, List.getElem?_cons_zero]; first | done | rfl)))
        (rw [if_pos (by rfl)]; go_wp2_with fail)
        (refine hK.out _ _ ?_ (fun hHeld => ?_); focus ((try dsimp only); (refine heldD.at (b := b) (R := w.heap.size) hKX hKb hKR gX ?_; (repeat (with_reducible first | exact heldD.refl _ _ _ | apply heldD.drew | apply heldD.aftD | apply heldD.aft | apply heldD.alloc | apply heldD.set)))))
        (clear hK K; (try simp only [Act.put, List.setIfInBounds_toArray, List.set_cons_zero, List.set_cons_succ]))
        (refine wpAnyH_take (i := 8) (oi := ?ho20) (v := ?hv20) ?hi20 (by kernel_rfl) (by kernel_rfl) (by kernel_rfl) ?hq20 ?hy20 (by assumption) ?hr20; (case hi20 => (simp only [List.getElem?_toArray, List.getElem?_cons_succ, List.getElem?_cons_zero]; first | done | rfl)); (case hq20 => exact fun _ _ _ h => h); (case hy20 => (refine Or.inl ⟨by rfl, ?_⟩; intro w hSw; (try dsimp only at hSw); go_simp; first | done | with_reducible rfl)); (try simp only [Act.put, List.setIfInBounds_toArray, List.set_cons_zero, List.set_cons_succ]))
        (refine wpAnyH_done (by kernel_rfl) ?_ _)
        go_wp2_with fail
        exact bodyPost_ret (v := .tuple #[.agg #[Value.int IntKind.i64 p, Value.int IntKind.i64 n], .slice ar ysr.length cr]) (by first | (simp [results, go_sem, he0, he1]; done) | simp [results, go_sem, he0, he1, ↓IntWalk.iteOmega]) rfl ⟨_, rfl, ⟨p, n, _, ysr, rfl, ((ownR.setCell (ownR.setCell (ownR.mono ownr (show K + 1 ≤ _ by omega)) _ _ _ _ (by omega)) _ _ _ _ (by omega))).mono (by omega), by have := HXLr.out; omega⟩, Gr.set (Gr.set ((HST.out.gr.drew.aftD _).aftD _) (by omega)) (by omega), ((hsr).set (by omega) (by omega) _).set (by omega) (by omega) _⟩
      have h3' : (x == 3) = false := by simpa using h3
      obtain ⟨e0, he0⟩ := Option.isSome_iff_exists.1 (HST.out.res 0 (by omega)).2
      obtain ⟨e1, he1⟩ := Option.isSome_iff_exists.1 (HST.out.res 1 (by omega)).2
      have hf0 := (HST.out.res 0 (by omega)).1
      have hf1 := (HST.out.res 1 (by omega)).1
      have gX := HST.out.ring
      have g0 := gX 0
      have g1 := gX 1
      simp at g0 g1
      have hKX := HST.out.kx
      have HS := hid HST.out.srcw
      go_wp2_with fail
      exact bodyPost_ret (v := .tuple #[.agg #[Value.int IntKind.i64 p, Value.int IntKind.i64 n], .slice (some ⟨g, 0, none⟩) xs.length c6]) (by first | (simp [results, go_sem, he0, he1]; done) | simp [results, go_sem, he0, he1, ↓IntWalk.iteOmega]) rfl ⟨_, rfl, ⟨p, n, _, xs, rfl, ((ownR.setCell (ownR.setCell (HO.out) _ _ _ _ (by omega)) _ _ _ _ (by omega))).mono (by omega), by omega⟩, Gr.set (Gr.set (HST.out.gr) (by omega)) (by omega), ((HS.out).set (by omega) (by omega) _).set (by omega) (by omega) _⟩
    · have h7' : (x7 == 0) = false := by simpa using h7
      clear h7 hx7
      have hKX := HST.out.kx
      go_wp2_with fail
      refine viaDr (s_next B b _ _ HST.out.srcw (by omega)) ?_
      intro x v hx hs hl
      (try dsimp only at hx)
      obtain ⟨g, hga, hg1, hg2⟩ := own_head HO.out (by omega)
      subst hga
      obtain ⟨X, hX⟩ : ∃ Y, Y = aftD b X v := ⟨_, rfl⟩
      have hST9 : stR B b p n K w X := by rw [hX]; exact HST.out.next ((Gr.refl b _).aftD _) (hs)
      have own9 : ownR (K + 1) X (.slice (some ⟨g, 0, none⟩) xs.length c6) xs := by rw [hX]; exact HO.out.aftD v (by omega)
      rw [← hX]
      clear hX
      have HST := hid hST9
      clear hST9 hs hl hg2
      have HO := hid own9
      clear own9
      have hgK : g ≠ K := by omega
      have hgw : g ≠ w.heap.size := by omega
      have hgb : g ≠ b := by omega
      by_cases h0 : x = 0
      · subst h0
        go_wp2_with fail
        refine viaDr (s_next B b _ _ HST.out.srcw (by omega)) ?_
        intro y v2 hy hs hl
        clear hy
        obtain ⟨X, hX⟩ : ∃ Y, Y = aftD b X v2 := ⟨_, rfl⟩
        have hST9 : stR B b p n K w X := by rw [hX]; exact HST.out.next ((Gr.refl b _).aftD _) (hs)
        have own9 : ownR (K + 1) X (.slice (some ⟨g, 0, none⟩) xs.length c6) xs := by rw [hX]; exact HO.out.aftD v2 (by omega)
        rw [← hX]
        clear hX
        have HST := hid hST9
        clear hST9 hs hl
        have HO := hid own9
        clear own9
        obtain ⟨L, hL⟩ : ∃ L, xs.length = L + 1 := ⟨xs.length - 1, by omega⟩
        have hc := own_cell HO.out (j := L) (by omega)
        obtain ⟨hc1, hc2⟩ := hc
        have HST2 := hid (own_set HO.out L y).1
        have hsz9 := HST.out.kx
        obtain ⟨e0, he0⟩ := Option.isSome_iff_exists.1 (HST.out.res 0 (by omega)).2
        obtain ⟨e1, he1⟩ := Option.isSome_iff_exists.1 (HST.out.res 1 (by omega)).2
        have hf0 := (HST.out.res 0 (by omega)).1
        have hf1 := (HST.out.res 1 (by omega)).1
        have gX := HST.out.ring
        have g0 := gX 0
        have g1 := gX 1
        simp at g0 g1
        have hKX := HST.out.kx
        have HS := hid HST.out.srcw
        have hi9 : (0 : Int) ≤ (xs.length : Int) - 1 := by omega
        have hj9 : (xs.length : Int) - 1 < (xs.length : Int) := by omega
        have hn9 : ((xs.length : Int) - 1).toNat = L := by omega
        have hsl : (xs.set L y).length = xs.length := List.length_set
        have HSL := hid hsl
        clear hsl hL
        go_wp2_with fail
        exact bodyPost_ret (v := .tuple #[.agg #[Value.int IntKind.i64 p, Value.int IntKind.i64 n], .slice (some ⟨g, 0, none⟩) xs.length c6]) (by first | (simp [results, go_sem, he0, he1]; done) | simp [results, go_sem, he0, he1, ↓IntWalk.iteOmega]) rfl ⟨_, rfl, ⟨p, n, _, xs.set L y, rfl, ((ownR.setCell (ownR.setCell (HST2.out) _ _ _ _ (by omega)) _ _ _ _ (by omega))).mono (by omega), by rw [HSL.out]; omega⟩, Gr.set (Gr.set (Gr.set HST.out.gr (by omega)) (by omega)) (by omega), ((HS.out.set hgb (by omega) _).set (by omega) (by omega) _).set (by omega) (by omega) _⟩
      have h0' : (x == 0) = false := by simpa using h0
      by_cases h1 : x = 1
      · subst h1
        go_wp2_with fail
        refine viaDr (s_pickA B b _ _ _ [0, M, -1] _ _ _ (by simp) rfl rfl HST.out.srcw (by decide) (by decide)) ?_
        intro y v2 hy hs hl
        clear hy
        (try simp at hl)
        obtain ⟨X, hX⟩ : ∃ Y, Y = aftD b (X.alloc (Obj.cells #[.int .i64 0, .int .i64 M, .int .i64 (-1)] 2)) v2 := ⟨_, rfl⟩
        have hST9 : stR B b p n K w X := by rw [hX]; exact HST.out.next (((Gr.refl b _).alloc _).aftD _) (hs)
        have own9 : ownR (K + 1) X (.slice (some ⟨g, 0, none⟩) xs.length c6) xs := by rw [hX]; exact (HO.out.alloc _).aftD v2 (by omega)
        rw [← hX]
        clear hX
        have HST := hid hST9
        clear hST9 hs hl
        have HO := hid own9
        clear own9
        have hge := own_row_ge HO.out
        have HGE := hid hge
        clear hge
        have hsz9 := HST.out.kx
        go_wp2_with (at_builtin; refine wpList_append_own _ rfl _ _ 26 rfl (K + 1) 2 i0 (.int .i64 0) 1 8 Try.underlying26 hi hz0 hz1 hz2 rfl (by decide) _ _ _ rfl (HO.out.alloc _) ⟨_, 0, none⟩ 1 1 [.int .i64 (y)] rfl rfl ?c1 ?c2 ?c3 ?c4 ?c5 ?_)
        try case c1 => exact cell_one_new _ _ _
        case c2 => first | rfl | (intro u hu; simp at hu; subst hu; rfl)
        case c3 => unfold maxLen; omega
        case c4 => omega
        case c5 => first | omega | (simp; omega)
        intro v' w1 hown' hgrow _
        have hST9 := (HST.out.next ((Gr.refl b _).alloc _) (HST.out.srcw.alloc _)).grown hgrow (fun k hk => by have := HGE.out k hk; omega)
        have own9 : ownR (K + 1) w1 v' (xs ++ [y]) := ownR.snocK (xs := xs) rfl hown'
        obtain ⟨a9, c9, hsh9, _, _⟩ := own9.rd
        subst hsh9
        have HST := hid hST9
        have HO9 := hid own9
        clear hown' hgrow hST9 own9 hsz9
        have hsl : (xs ++ [y]).length = xs.length + 1 := by simp
        have HSL := hid hsl
        clear hsl
        obtain ⟨e0, he0⟩ := Option.isSome_iff_exists.1 (HST.out.res 0 (by omega)).2
        obtain ⟨e1, he1⟩ := Option.isSome_iff_exists.1 (HST.out.res 1 (by omega)).2
        have hf0 := (HST.out.res 0 (by omega)).1
        have hf1 := (HST.out.res 1 (by omega)).1
        have gX := HST.out.ring
        have g0 := gX 0
        have g1 := gX 1
        simp at g0 g1
        have hKX := HST.out.kx
        have HS := hid HST.out.srcw
        go_wp2_with fail
        exact bodyPost_ret (v := .tuple #[.agg #[Value.int IntKind.i64 p, Value.int IntKind.i64 n], .slice a9 (xs ++ [y]).length c9]) (by first | (simp [results, go_sem, he0, he1]; done) | simp [results, go_sem, he0, he1, ↓IntWalk.iteOmega]) rfl ⟨_, rfl, ⟨p, n, _, xs ++ [y], rfl, ((ownR.setCell (ownR.setCell (HO9.out) _ _ _ _ (by omega)) _ _ _ _ (by omega))).mono (by omega), by rw [HSL.out]; omega⟩, Gr.set (Gr.set (HST.out.gr) (by omega)) (by omega), ((HS.out).set (by omega) (by omega) _).set (by omega) (by omega) _⟩
      have h1' : (x == 1) = false := by simpa using h1
      by_cases h2 : x = 2
      · subst h2
        obtain ⟨e0, he0⟩ := Option.isSome_iff_exists.1 (HST.out.res 0 (by omega)).2
        obtain ⟨e1, he1⟩ := Option.isSome_iff_exists.1 (HST.out.res 1 (by omega)).2
        have hf0 := (HST.out.res 0 (by omega)).1
        have hf1 := (HST.out.res 1 (by omega)).1
        have gX := HST.out.ring
        have g0 := gX 0
        have g1 := gX 1
        simp at g0 g1
        have hKX := HST.out.kx
        have HS := hid HST.out.srcw
        go_wp2_with fail
        exact bodyPost_ret (v := .tuple #[.agg #[Value.int IntKind.i64 p, Value.int IntKind.i64 n], .slice (some ⟨X.heap.size, 0, none⟩) 0 0]) (by first | (simp [results, go_sem, he0, he1]; done) | simp [results, go_sem, he0, he1, ↓IntWalk.iteOmega]) rfl ⟨_, rfl, ⟨p, n, _, [], rfl, ((ownR.setCell (ownR.setCell ((own_made X).mono (show K + 1 ≤ X.heap.size by omega)) _ _ _ _ (by omega)) _ _ _ _ (by omega))).mono (by omega), by simp⟩, Gr.set (Gr.set (HST.out.gr.alloc _) (by omega)) (by omega), ((HS.out.alloc _).set (by omega) (by omega) _).set (by omega) (by omega) _⟩
      have h2' : (x == 2) = false := by simpa using h2
      by_cases h3 : x = 3
      · subst h3
        obtain ⟨e0, he0⟩ := Option.isSome_iff_exists.1 (HST.out.res 0 (by omega)).2
        obtain ⟨e1, he1⟩ := Option.isSome_iff_exists.1 (HST.out.res 1 (by omega)).2
        have hf0 := (HST.out.res 0 (by omega)).1
        have hf1 := (HST.out.res 1 (by omega)).1
        have gX := HST.out.ring
        have g0 := gX 0
        have g1 := gX 1
        simp at g0 g1
        have hKX := HST.out.kx
        have HS := hid HST.out.srcw
        go_wp2_with fail
        (refine wp_region_held_drew (S := (fun w' => (∀ o, w'.cell? ⟨K, o, none⟩ = #[Value.int .i64 p, .int .i64 n][o]?) ∧ X.heap.size ≤ w'.heap.size)) (by kernel_rfl) ?_ (fun hHeld => ?_); focus ((try dsimp only); (refine heldD.at (b := b) (R := w.heap.size) hKX hKb hKR gX ?_; (repeat (with_reducible first | exact heldD.refl _ _ _ | apply heldD.drew | apply heldD.aftD | apply heldD.aft | apply heldD.alloc | apply heldD.set)))))
        (refine wpAnyH_take (i := 0) (oi := ?ho21) (v := ?hv21) ?hi21 (by kernel_rfl) (by kernel_rfl) (by kernel_rfl) ?hq21 ?hy21 (by assumption) ?hr21; (case hi21 => (simp only [List.getElem?_toArray, List.getElem?_cons_zero]; first | done | rfl)); (case hq21 => exact fun _ _ _ h => h); (case hy21 => (refine Or.inl ⟨by rfl, ?_⟩; intro w hSw; (try dsimp only at hSw); go_simp; first | done | with_reducible rfl)); (try simp only [Act.put, List.setIfInBounds_toArray, List.set_cons_zero, List.set_cons_succ]))
        (refine wpAnyH_take (i := 1) (oi := ?ho22) (v := ?hv22) ?hi22 (by kernel_rfl) (by kernel_rfl) (by kernel_rfl) ?hq22 ?hy22 (by assumption) ?hr22; (case hi22 => (simp only [List.getElem?_toArray, List.getElem?_cons_succ, List.getElem?_cons_zero]; first | done | rfl)); (case hq22 => exact fun _ _ _ h => h); (case hy22 => (refine Or.inl ⟨by rfl, ?_⟩; intro w hSw; (try dsimp only at hSw); go_simp; first | done | with_reducible rfl)); (try simp only [Act.put, List.setIfInBounds_toArray, List.set_cons_zero, List.set_cons_succ]))
        (refine wpAnyH_take (i := 2) (oi := ?ho23) (v := ?hv23) ?hi23 (by kernel_rfl) (by kernel_rfl) (by kernel_rfl) ?hq23 ?hy23 (by assumption) ?hr23; (case hi23 => (simp only [List.getElem?_toArray, List.getElem?_cons_succ, List.getElem?_cons_zero]; first | done | rfl)); (case hq23 => exact fun _ _ _ h => h); (case hy23 => (refine Or.inl ⟨by rfl, ?_⟩; intro w hSw; (try dsimp only at hSw); go_simp; first | done | with_reducible rfl)); (try simp only [Act.put, List.setIfInBounds_toArray, List.set_cons_zero, List.set_cons_succ]))
        (refine wpAnyH_take (i := 3) (oi := ?ho24) (v := ?hv24) ?hi24 (by kernel_rfl) (by kernel_rfl) (by kernel_rfl) ?hq24 ?hy24 (by assumption) ?hr24; (case hi24 => (simp only [List.getElem?_toArray, List.getElem?_cons_succ, List.getElem?_cons_zero]; first | done | rfl)); (case hq24 => exact fun _ _ _ h => h); (case hy24 => (refine Or.inl ⟨by rfl, ?_⟩; intro w hSw; (try dsimp only at hSw); go_simp; first | done | with_reducible rfl)); (try simp only [Act.put, List.setIfInBounds_toArray, List.set_cons_zero, List.set_cons_succ]))
        (refine wpAnyH_ready (rs := [4]) (by decide +kernel) (by simp) ?_; refine AllReadyH.cons (o := ?ho37) ?hi37 (fun K hK => ?hr37) AllReadyH.nil; (case hi37 => (simp only [List.getElem?_toArray, List.getElem?_cons_succ, List.getElem?_cons_zero]; first | done | rfl)))
        (go_simp; go_at_call 29; refine viaDr (s_next B b _ _ HS.out.drew (by omega)) ?_; intro dq uq hdq hsq hlq; (try dsimp only at hdq); (try simp at hlq); go_wp2_with fail)
        (refine hK.out _ _ ?_ (fun hHeld => ?_); focus ((try dsimp only); (refine heldD.at (b := b) (R := w.heap.size) hKX hKb hKR gX ?_; (repeat (with_reducible first | exact heldD.refl _ _ _ | apply heldD.drew | apply heldD.aftD | apply heldD.aft | apply heldD.alloc | apply heldD.set)))))
        (clear hK K; (try simp only [Act.put, List.setIfInBounds_toArray, List.set_cons_zero, List.set_cons_succ]))
        (refine wpAnyH_take (i := 5) (oi := ?ho25) (v := ?hv25) ?hi25 (by kernel_rfl) (by kernel_rfl) (by kernel_rfl) ?hq25 ?hy25 (by assumption) ?hr25; (case hi25 => (simp only [List.getElem?_toArray, List.getElem?_cons_succ, List.getElem?_cons_zero]; first | done | rfl)); (case hq25 => exact fun _ _ _ h => h); (case hy25 => (refine Or.inl ⟨by rfl, ?_⟩; intro w hSw; (try dsimp only at hSw); go_simp; first | done | with_reducible rfl)); (try simp only [Act.put, List.setIfInBounds_toArray, List.set_cons_zero, List.set_cons_succ]))
        (refine wpAnyH_ready (rs := [6]) (by decide +kernel) (by simp) ?_; refine AllReadyH.cons (o := ?ho38) ?hi38 (fun K hK => ?hr38) AllReadyH.nil; (case hi38 => (simp only [List.getElem?_toArray, List.getElem?_cons_succ, List.getElem?_cons_zero]; first | done | rfl)))
        (go_simp; (try rw [IntWalk.i64_in _ (by omega)]); go_at_call 65; refine viaDX (s_valid12 B b p n _ _ hsq hr (by omega)) ?_; intro tr ur htr hsr hlr; obtain ⟨ysr, ownr, hxlr, hxbr, hlastr⟩ := htr; obtain ⟨ar, cr, hshr, _, _⟩ := ownr.rd; subst hshr; (try simp at hlr); have HXLr := hid hxlr; clear hxlr; go_wp2_with fail)
        (refine hK.out _ _ ?_ (fun hHeld => ?_); focus ((try dsimp only); (refine heldD.at (b := b) (R := w.heap.size) hKX hKb hKR gX ?_; (repeat (with_reducible first | exact heldD.refl _ _ _ | apply heldD.drew | apply heldD.aftD | apply heldD.aft | apply heldD.alloc | apply heldD.set)))))
        (clear hK K; (try simp only [Act.put, List.setIfInBounds_toArray, List.set_cons_zero, List.set_cons_succ]))
        (refine wpAnyH_ready (rs := [7]) (by decide +kernel) (by simp) ?_; refine AllReadyH.cons (o := ?ho39) ?hi39 (fun K hK => ?hr39) AllReadyH.nil; (case hi39 => (simp only [List.getElem?_toArray, List.getElem?_cons_succ, List.getElem?_cons_zero]; first | done | rfl)))
        (rw [if_pos (by rfl)]; go_wp2_with fail)
        (refine hK.out _ _ ?_ (fun hHeld => ?_); focus ((try dsimp only); (refine heldD.at (b := b) (R := w.heap.size) hKX hKb hKR gX ?_; (repeat (with_reducible first | exact heldD.refl _ _ _ | apply heldD.drew | apply heldD.aftD | apply heldD.aft | apply heldD.alloc | apply heldD.set)))))
        (clear hK K; (try simp only [Act.put, List.setIfInBounds_toArray, List.set_cons_zero, List.set_cons_succ]))
        (refine wpAnyH_take (i := 8) (oi := ?ho26) (v := ?hv26) ?hi26 (by kernel_rfl) (by kernel_rfl) (by kernel_rfl) ?hq26 ?hy26 (by assumption) ?hr26; (case hi26 => (simp only [List.getElem?_toArray, List.getElem?_cons_succ, List.getElem?_cons_zero]; first | done | rfl)); (case hq26 => exact fun _ _ _ h => h); (case hy26 => (refine Or.inl ⟨by rfl, ?_⟩; intro w hSw; (try dsimp only at hSw); go_simp; first | done | with_reducible rfl)); (try simp only [Act.put, List.setIfInBounds_toArray, List.set_cons_zero, List.set_cons_succ]))
        (refine wpAnyH_done (by kernel_rfl) ?_ _)
        go_wp2_with fail
        exact bodyPost_ret (v := .tuple #[.agg #[Value.int IntKind.i64 p, Value.int IntKind.i64 n], .slice ar ysr.length cr]) (by first | (simp [results, go_sem, he0, he1]; done) | simp [results, go_sem, he0, he1, ↓IntWalk.iteOmega]) rfl ⟨_, rfl, ⟨p, n, _, ysr, rfl, ((ownR.setCell (ownR.setCell (ownR.mono ownr (show K + 1 ≤ _ by omega)) _ _ _ _ (by omega)) _ _ _ _ (by omega))).mono (by omega), by have := HXLr.out; omega⟩, Gr.set (Gr.set ((HST.out.gr.drew.aftD _).aftD _) (by omega)) (by omega), ((hsr).set (by omega) (by omega) _).set (by omega) (by omega) _⟩
      have h3' : (x == 3) = false := by simpa using h3
      obtain ⟨e0, he0⟩ := Option.isSome_iff_exists.1 (HST.out.res 0 (by omega)).2
      obtain ⟨e1, he1⟩ := Option.isSome_iff_exists.1 (HST.out.res 1 (by omega)).2
      have hf0 := (HST.out.res 0 (by omega)).1
      have hf1 := (HST.out.res 1 (by omega)).1
      have gX := HST.out.ring
      have g0 := gX 0
      have g1 := gX 1
      simp at g0 g1
      have hKX := HST.out.kx
      have HS := hid HST.out.srcw
      go_wp2_with fail
      exact bodyPost_ret (v := .tuple #[.agg #[Value.int IntKind.i64 p, Value.int IntKind.i64 n], .slice (some ⟨g, 0, none⟩) xs.length c6]) (by first | (simp [results, go_sem, he0, he1]; done) | simp [results, go_sem, he0, he1, ↓IntWalk.iteOmega]) rfl ⟨_, rfl, ⟨p, n, _, xs, rfl, ((ownR.setCell (ownR.setCell (HO.out) _ _ _ _ (by omega)) _ _ _ _ (by omega))).mono (by omega), by omega⟩, Gr.set (Gr.set (HST.out.gr) (by omega)) (by omega), ((HS.out).set (by omega) (by omega) _).set (by omega) (by omega) _⟩
end Go.Proofs.Ytflmoopiajhadaa
