/- Draws: two numbers to compare. -/
import Derived.Test.YtfbpkbnepojlnaaT7
namespace Go.Proofs.Ytfbpkbnepojlnaa
open Go Go.RowKit

set_option maxRecDepth 20000 in
set_option maxHeartbeats 4000000 in
theorem s_DrawAreEqualTo (B : Nat) (a : Option Addr) (len cap : Nat) (w : World) (h : rdB B w a len) (hl : len ≤ 4096) (hB : B ≤ w.heap.size) :
    Calls Try.prog 23 #[.slice a len cap] w fun e w' => ∃ z : Pd × Pd, e = .returned ((fun z : Pd × Pd => .tuple #[(fun x : Pd => .agg #[.int .i64 x.p, .int .i64 x.v, .int .i64 x.u, .int .i64 x.n]) z.1, (fun x : Pd => .agg #[.int .i64 x.p, .int .i64 x.v, .int .i64 x.u, .int .i64 x.n]) z.2]) z) ∧ Below w.heap.size w w' := by
  go_enter Try.func23, Try.ntmps23
  go_wp2_with fail
  refine viaV (α := Pd × Pd) (g := (fun z : Pd × Pd => .tuple #[(fun x : Pd => .agg #[.int .i64 x.p, .int .i64 x.v, .int .i64 x.u, .int .i64 x.n]) z.1, (fun x : Pd => .agg #[.int .i64 x.p, .int .i64 x.v, .int .i64 x.u, .int .i64 x.n]) z.2])) ((s_drawTwo B a len cap _ (h.of fun j o v hj hv => by rw [alloc_cell, if_neg (by simp; omega), alloc_cell, if_neg (by omega)]; exact hv) hl (by simp; omega)).mono fun e w' ⟨x, y, he, hb⟩ => ⟨(x, y), he, hb⟩) ?_
  intro z u hz
  obtain ⟨⟨x1, x2, x3, x4⟩, ⟨y1, y2, y3, y4⟩⟩ := z
  (try simp at hz)
  dsimp only
  go_wp2_with fail
  obtain ⟨V, hV⟩ : ∃ V, V = aft ((w.alloc (Obj.cells #[Value.int IntKind.i64 0, Value.int IntKind.i64 0, Value.int IntKind.i64 0, Value.int IntKind.i64 0] 27)).alloc (Obj.cells #[Value.int IntKind.i64 0, Value.int IntKind.i64 0, Value.int IntKind.i64 0, Value.int IntKind.i64 0] 27)) u := ⟨_, rfl⟩
  have lV : w.heap.size + 2 ≤ V.heap.size := by rw [hV]; omega
  have c1 : ∀ o, V.cell? ⟨w.heap.size, o, none⟩ = #[Value.int IntKind.i64 0, Value.int IntKind.i64 0, Value.int IntKind.i64 0, Value.int IntKind.i64 0][o]? := fun o => by rw [hV, aft_cell, if_pos (by simp; omega), alloc_cell, if_neg (by simp), alloc_cell, if_pos rfl]
  have f1 : ∀ o, V.frozen? ⟨w.heap.size, o, none⟩ = false := fun o => by rw [hV, aft_frozen, if_pos (by simp; omega), alloc_frozen, if_neg (by simp), alloc_frozen, if_pos rfl]
  have c2 : ∀ o, V.cell? ⟨w.heap.size + 1, o, none⟩ = #[Value.int IntKind.i64 0, Value.int IntKind.i64 0, Value.int IntKind.i64 0, Value.int IntKind.i64 0][o]? := fun o => by rw [hV, aft_cell, if_pos (by simp), alloc_cell, if_pos (by simp)]
  have f2 : ∀ o, V.frozen? ⟨w.heap.size + 1, o, none⟩ = false := fun o => by rw [hV, aft_frozen, if_pos (by simp), alloc_frozen, if_pos (by simp)]
  have hE : Hid (Ext w.heap.size w V) := hid (by rw [hV]; exact (((Ext.refl w).alloc _).alloc _).aft _)
  rw [← hV]
  clear hV hz h hl hB
  obtain ⟨k, hk⟩ : ∃ k, k = V.heap.size := ⟨_, rfl⟩
  obtain ⟨W, hW⟩ : ∃ W, W = (V.alloc (Obj.cells #[Value.int IntKind.i64 x1, Value.int IntKind.i64 x2, Value.int IntKind.i64 x3, Value.int IntKind.i64 x4] 27)).alloc (Obj.cells #[Value.int IntKind.i64 y1, Value.int IntKind.i64 y2, Value.int IntKind.i64 y3, Value.int IntKind.i64 y4] 27) := ⟨_, rfl⟩
  have c1 : ∀ o, W.cell? ⟨w.heap.size, o, none⟩ = #[Value.int IntKind.i64 0, Value.int IntKind.i64 0, Value.int IntKind.i64 0, Value.int IntKind.i64 0][o]? := fun o => by rw [hW, alloc_cell, if_neg (by simp; omega), alloc_cell, if_neg (by omega)]; exact c1 o
  have f1 : ∀ o, W.frozen? ⟨w.heap.size, o, none⟩ = false := fun o => by rw [hW, alloc_frozen, if_neg (by simp; omega), alloc_frozen, if_neg (by omega)]; exact f1 o
  have c2 : ∀ o, W.cell? ⟨w.heap.size + 1, o, none⟩ = #[Value.int IntKind.i64 0, Value.int IntKind.i64 0, Value.int IntKind.i64 0, Value.int IntKind.i64 0][o]? := fun o => by rw [hW, alloc_cell, if_neg (by simp; omega), alloc_cell, if_neg (by omega)]; exact c2 o
  have f2 : ∀ o, W.frozen? ⟨w.heap.size + 1, o, none⟩ = false := fun o => by rw [hW, alloc_frozen, if_neg (by simp; omega), alloc_frozen, if_neg (by omega)]; exact f2 o
  have cX : ∀ o, W.cell? ⟨k, o, none⟩ = #[Value.int IntKind.i64 x1, Value.int IntKind.i64 x2, Value.int IntKind.i64 x3, Value.int IntKind.i64 x4][o]? := fun o => by rw [hW, alloc_cell, if_neg (by simp; omega), alloc_cell, if_pos hk]
  have cY : ∀ o, W.cell? ⟨k + 1, o, none⟩ = #[Value.int IntKind.i64 y1, Value.int IntKind.i64 y2, Value.int IntKind.i64 y3, Value.int IntKind.i64 y4][o]? := fun o => by rw [hW, alloc_cell, if_pos (by simp; omega)]
  have hG : Hid (Ext w.heap.size w W) := hid (by rw [hW]; exact (hE.out.alloc _).alloc _)
  have lW : k + 1 < W.heap.size := by rw [hW]; simp; omega
  rw [← hW, ← hk]
  have lk : w.heap.size + 1 < k := by omega
  clear hW hk hE lV
  refine via (s_IsPadic _ _ _ _ _) ?_
  intro u2 z2
  obtain ⟨W2, hW2⟩ : ∃ X, X = aft W u2 := ⟨_, rfl⟩
  have c1 : ∀ o, W2.cell? ⟨w.heap.size, o, none⟩ = #[Value.int IntKind.i64 0, Value.int IntKind.i64 0, Value.int IntKind.i64 0, Value.int IntKind.i64 0][o]? := fun o => by rw [hW2, aft_cell, if_pos (by omega)]; exact c1 o
  have f1 : ∀ o, W2.frozen? ⟨w.heap.size, o, none⟩ = false := fun o => by rw [hW2, aft_frozen, if_pos (by omega)]; exact f1 o
  have c2 : ∀ o, W2.cell? ⟨w.heap.size + 1, o, none⟩ = #[Value.int IntKind.i64 0, Value.int IntKind.i64 0, Value.int IntKind.i64 0, Value.int IntKind.i64 0][o]? := fun o => by rw [hW2, aft_cell, if_pos (by omega)]; exact c2 o
  have f2 : ∀ o, W2.frozen? ⟨w.heap.size + 1, o, none⟩ = false := fun o => by rw [hW2, aft_frozen, if_pos (by omega)]; exact f2 o
  have hE1 : ∀ o, W2.cell? ⟨k, o, none⟩ = #[Value.int IntKind.i64 x1, Value.int IntKind.i64 x2, Value.int IntKind.i64 x3, Value.int IntKind.i64 x4][o]? := fun o => by rw [hW2, aft_cell, if_pos (by omega)]; exact cX o
  have hE2 : ∀ o, W2.cell? ⟨k + 1, o, none⟩ = #[Value.int IntKind.i64 y1, Value.int IntKind.i64 y2, Value.int IntKind.i64 y3, Value.int IntKind.i64 y4][o]? := fun o => by rw [hW2, aft_cell, if_pos (by omega)]; exact cY o
  have hGW : Hid (Ext w.heap.size w W2) := hid (by rw [hW2]; exact hG.out.aft _)
  have lW2 : k + 1 < W2.heap.size := by rw [hW2]; omega
  rw [← hW2]
  clear hW2 z2 cX cY hG lW
  cases hy : padicB y1 y2 y3 y4
  · go_wp2_with fail
    (refine wp_region_held_drew (S := (fun w' => (∀ o, w'.cell? ⟨k, o, none⟩ = #[Value.int IntKind.i64 x1, Value.int IntKind.i64 x2, Value.int IntKind.i64 x3, Value.int IntKind.i64 x4][o]?) ∧ (∀ o, w'.cell? ⟨k + 1, o, none⟩ = #[Value.int IntKind.i64 y1, Value.int IntKind.i64 y2, Value.int IntKind.i64 y3, Value.int IntKind.i64 y4][o]?))) (by kernel_rfl) ?_ (fun hHeld => ?_); focus ((try dsimp only); (refine ⟨fun o => ?_, fun o => ?_⟩ <;> (repeat (with_reducible first | exact hE1 o | exact hE2 o | exact hHeld.1 o | exact hHeld.2 o | rw [drewC_cell] | (rw [aft_cell, if_pos (by simp; omega)]) | (rw [set_cell, if_neg (by omega)]))))))
    (refine wpAnyH_take (i := 0) (oi := ?ho1) (v := ?hv1) ?hi1 (by kernel_rfl) (by kernel_rfl) (by kernel_rfl) ?hq1 ?hy1 (by assumption) ?hr1; (case hi1 => (simp only [List.getElem?_toArray, List.getElem?_cons_succ, List.getElem?_cons_zero]; first | done | rfl)); (case hq1 => exact fun _ _ _ h => h); (case hy1 => (refine Or.inl ⟨by rfl, ?_⟩; intro w hSw; (try dsimp only at hSw); go_simp; first | done | with_reducible rfl)); (try simp only [Act.put, List.setIfInBounds_toArray, List.set_cons_zero, List.set_cons_succ]))
    (refine wpAnyH_take (i := 1) (oi := ?ho2) (v := ?hv2) ?hi2 (by kernel_rfl) (by kernel_rfl) (by kernel_rfl) ?hq2 ?hy2 (by assumption) ?hr2; (case hi2 => (simp only [List.getElem?_toArray, List.getElem?_cons_succ, List.getElem?_cons_zero]; first | done | rfl)); (case hq2 => exact fun _ _ _ h => h); (case hy2 => (refine Or.inl ⟨by rfl, ?_⟩; intro w hSw; (try dsimp only at hSw); go_simp; first | done | with_reducible rfl)); (try simp only [Act.put, List.setIfInBounds_toArray, List.set_cons_zero, List.set_cons_succ]))
    (refine wpAnyH_ready (rs := [2]) (by decide +kernel) (by simp) ?_; refine AllReadyH.cons (o := ?ho5) ?hi5 (fun K hK => ?hr5) AllReadyH.nil; (case hi5 => (simp only [List.getElem?_toArray, List.getElem?_cons_succ, List.getElem?_cons_zero]; first | done | rfl)))
    (rw [if_pos (by rfl)]; go_wp2_with fail)
    (refine hK.out _ _ ?_ (fun hHeld => ?_); focus ((try dsimp only); (refine ⟨fun o => ?_, fun o => ?_⟩ <;> (repeat (with_reducible first | exact hE1 o | exact hE2 o | exact hHeld.1 o | exact hHeld.2 o | rw [drewC_cell] | (rw [aft_cell, if_pos (by simp; omega)]) | (rw [set_cell, if_neg (by omega)]))))))
    (clear hK K; (try simp only [Act.put, List.setIfInBounds_toArray, List.set_cons_zero, List.set_cons_succ]))
    (refine wpAnyH_ready (rs := [3]) (by decide +kernel) (by simp) ?_; refine AllReadyH.cons (o := ?ho6) ?hi6 (fun K hK => ?hr6) AllReadyH.nil; (case hi6 => (simp only [List.getElem?_toArray, List.getElem?_cons_succ, List.getElem?_cons_zero]; first | done | rfl)))
    (rw [if_pos (by rfl)]; go_wp2_with fail)
    (refine hK.out _ _ ?_ (fun hHeld => ?_); focus ((try dsimp only); (refine ⟨fun o => ?_, fun o => ?_⟩ <;> (repeat (with_reducible first | exact hE1 o | exact hE2 o | exact hHeld.1 o | exact hHeld.2 o | rw [drewC_cell] | (rw [aft_cell, if_pos (by simp; omega)]) | (rw [set_cell, if_neg (by omega)]))))))
    (clear hK K; (try simp only [Act.put, List.setIfInBounds_toArray, List.set_cons_zero, List.set_cons_succ]))
    (refine wpAnyH_done (by kernel_rfl) ?_ _)
    go_wp2_with fail
    exact bodyPost_ret (v := .tuple #[.agg #[Value.int IntKind.i64 x1, Value.int IntKind.i64 x2, Value.int IntKind.i64 x3, Value.int IntKind.i64 x4], .agg #[Value.int IntKind.i64 y1, Value.int IntKind.i64 y2, Value.int IntKind.i64 y3, Value.int IntKind.i64 y4]]) (by simp [results, go_sem, ↓IntWalk.iteOmega, c1, c2]) rfl ⟨(⟨x1, x2, x3, x4⟩, ⟨y1, y2, y3, y4⟩), rfl, (by refine Ext.bel ?_; repeat (with_reducible first | exact hGW.out | apply Ext.aft | apply Ext.drew | apply Ext.setCell | exact Nat.le_add_right _ _ | exact Nat.le_refl _ | omega))⟩
  · have H := hid hy
    clear hy
    go_wp2_with fail
    (refine wp_region_held_drew (S := (fun w' => (∀ o, w'.cell? ⟨k, o, none⟩ = #[Value.int IntKind.i64 x1, Value.int IntKind.i64 x2, Value.int IntKind.i64 x3, Value.int IntKind.i64 x4][o]?) ∧ (∀ o, w'.cell? ⟨k + 1, o, none⟩ = #[Value.int IntKind.i64 y1, Value.int IntKind.i64 y2, Value.int IntKind.i64 y3, Value.int IntKind.i64 y4][o]?))) (by kernel_rfl) ?_ (fun hHeld => ?_); focus ((try dsimp only); (refine ⟨fun o => ?_, fun o => ?_⟩ <;> (repeat (with_reducible first | exact hE1 o | exact hE2 o | exact hHeld.1 o | exact hHeld.2 o | rw [drewC_cell] | (rw [aft_cell, if_pos (by simp; omega)]) | (rw [set_cell, if_neg (by omega)]))))))
    (refine wpAnyH_take (i := 0) (oi := ?ho3) (v := ?hv3) ?hi3 (by kernel_rfl) (by kernel_rfl) (by kernel_rfl) ?hq3 ?hy3 (by assumption) ?hr3; (case hi3 => (simp only [List.getElem?_toArray, List.getElem?_cons_succ, List.getElem?_cons_zero]; first | done | rfl)); (case hq3 => exact fun _ _ _ h => h); (case hy3 => (refine Or.inl ⟨by rfl, ?_⟩; intro w hSw; (try dsimp only at hSw); go_simp; first | done | with_reducible rfl)); (try simp only [Act.put, List.setIfInBounds_toArray, List.set_cons_zero, List.set_cons_succ]))
    (refine wpAnyH_take (i := 1) (oi := ?ho4) (v := ?hv4) ?hi4 (by kernel_rfl) (by kernel_rfl) (by kernel_rfl) ?hq4 ?hy4 (by assumption) ?hr4; (case hi4 => (simp only [List.getElem?_toArray, List.getElem?_cons_succ, List.getElem?_cons_zero]; first | done | rfl)); (case hq4 => exact fun _ _ _ h => h); (case hy4 => (refine Or.inl ⟨by rfl, ?_⟩; intro w hSw; (try dsimp only at hSw); go_simp; first | done | with_reducible rfl)); (try simp only [Act.put, List.setIfInBounds_toArray, List.set_cons_zero, List.set_cons_succ]))
    (refine wpAnyH_ready (rs := [2]) (by decide +kernel) (by simp) ?_; refine AllReadyH.cons (o := ?ho7) ?hi7 (fun K hK => ?hr7) AllReadyH.nil; (case hi7 => (simp only [List.getElem?_toArray, List.getElem?_cons_succ, List.getElem?_cons_zero]; first | done | rfl)))
    (go_simp; go_at_call 70; refine via (s_negate _ _ _ _ _ H.out) ?_; intro u3 z3; (try simp at z3); go_wp2_with fail)
    (refine hK.out _ _ ?_ (fun hHeld => ?_); focus ((try dsimp only); (refine ⟨fun o => ?_, fun o => ?_⟩ <;> (repeat (with_reducible first | exact hE1 o | exact hE2 o | exact hHeld.1 o | exact hHeld.2 o | rw [drewC_cell] | (rw [aft_cell, if_pos (by simp; omega)]) | (rw [set_cell, if_neg (by omega)]))))))
    (clear hK K; (try simp only [Act.put, List.setIfInBounds_toArray, List.set_cons_zero, List.set_cons_succ]))
    (refine wpAnyH_ready (rs := [3]) (by decide +kernel) (by simp) ?_; refine AllReadyH.cons (o := ?ho8) ?hi8 (fun K hK => ?hr8) AllReadyH.nil; (case hi8 => (simp only [List.getElem?_toArray, List.getElem?_cons_succ, List.getElem?_cons_zero]; first | done | rfl)))
    (rw [if_pos (by rfl)]; go_wp2_with fail)
    (refine hK.out _ _ ?_ (fun hHeld => ?_); focus ((try dsimp only); (refine ⟨fun o => ?_, fun o => ?_⟩ <;> (repeat (with_reducible first | exact hE1 o | exact hE2 o | exact hHeld.1 o | exact hHeld.2 o | rw [drewC_cell] | (rw [aft_cell, if_pos (by simp; omega)]) | (rw [set_cell, if_neg (by omega)]))))))
    (clear hK K; (try simp only [Act.put, List.setIfInBounds_toArray, List.set_cons_zero, List.set_cons_succ]))
    (refine wpAnyH_ready (rs := [4]) (by decide +kernel) (by simp) ?_; refine AllReadyH.cons (o := ?ho9) ?hi9 (fun K hK => ?hr9) AllReadyH.nil; (case hi9 => (simp only [List.getElem?_toArray, List.getElem?_cons_succ, List.getElem?_cons_zero]; first | done | rfl)))
    (rw [if_pos (by rfl)]; go_wp2_with fail)
    (refine hK.out _ _ ?_ (fun hHeld => ?_); focus ((try dsimp only); (refine ⟨fun o => ?_, fun o => ?_⟩ <;> (repeat (with_reducible first | exact hE1 o | exact hE2 o | exact hHeld.1 o | exact hHeld.2 o | rw [drewC_cell] | (rw [aft_cell, if_pos (by simp; omega)]) | (rw [set_cell, if_neg (by omega)]))))))
    (clear hK K; (try simp only [Act.put, List.setIfInBounds_toArray, List.set_cons_zero, List.set_cons_succ]))
    (refine wpAnyH_done (by kernel_rfl) ?_ _)
    go_wp2_with fail
    exact bodyPost_ret (v := .tuple #[.agg #[Value.int IntKind.i64 x1, Value.int IntKind.i64 x2, Value.int IntKind.i64 x3, Value.int IntKind.i64 x4], .agg #[.int .i64 y1, .int .i64 y2, .int .i64 (ngF y1 y3 y4), .int .i64 y4]]) (by simp [results, go_sem, ↓IntWalk.iteOmega, c1, c2]) rfl ⟨(⟨x1, x2, x3, x4⟩, ⟨y1, y2, ngF y1 y3 y4, y4⟩), rfl, (by refine Ext.bel ?_; repeat (with_reducible first | exact hGW.out | apply Ext.aft | apply Ext.drew | apply Ext.setCell | exact Nat.le_add_right _ _ | exact Nat.le_refl _ | omega))⟩
end Go.Proofs.Ytfbpkbnepojlnaa
