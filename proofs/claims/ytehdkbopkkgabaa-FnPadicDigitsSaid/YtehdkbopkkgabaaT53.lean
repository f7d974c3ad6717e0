/- Draws: a number and places. -/
import Derived.Test.YtehdkbopkkgabaaT52
import Derived.Test.YtehdkbopkkgabaaB6
namespace Go.Proofs.Ytehdkbopkkgabaa
open Go Go.RowKit

set_option maxRecDepth 20000 in
set_option maxHeartbeats 4000000 in
theorem s_DrawShiftPadic (B : Nat) (a : Option Addr) (len cap : Nat) (w : World) (h : rdB B w a len) (hl : len ≤ 4096) (hB : B ≤ w.heap.size) :
    Calls Try.prog 26 #[.slice a len cap] w fun e w' => ∃ z : Pd × Int, e = .returned (.tuple #[(fun x : Pd => .agg #[.int .i64 x.p, .int .i64 x.v, .int .i64 x.u, .int .i64 x.n]) z.1, .int .i64 z.2]) ∧ Below w.heap.size w w' := by
  go_enter Try.func26, Try.ntmps26
  go_wp2_with fail
  refine viaF (s_from B a len cap _ (h.of fun j o v hj hv => by rw [alloc_cell, if_neg (by omega)]; exact hv) hl (by simp; omega)) ?_
  intro b u0 hs0 hb0 hl0 hl1
  simp at hb0 hl0
  go_wp2_with fail
  refine viaDr (s_draw3 B b _ hs0) ?_
  intro x u1 hpr hs1 hl2
  obtain ⟨x1, x2, x3, x4⟩ := x
  clear hpr
  dsimp only
  go_wp2_with fail
  obtain ⟨V, hV⟩ : ∃ V, V = aftD b (aft (w.alloc (Obj.cells #[Value.int IntKind.i64 0, Value.int IntKind.i64 0, Value.int IntKind.i64 0, Value.int IntKind.i64 0] 38)) u0) u1 := ⟨_, rfl⟩
  have lV : w.heap.size + 1 ≤ V.heap.size := by rw [hV]; omega
  have hbV : b < V.heap.size := by rw [hV]; omega
  have c1 : ∀ o, V.cell? ⟨w.heap.size, o, none⟩ = #[Value.int IntKind.i64 0, Value.int IntKind.i64 0, Value.int IntKind.i64 0, Value.int IntKind.i64 0][o]? := fun o => by rw [hV, aftD_cell, if_pos (by omega), aft_cell, if_pos (by simp), alloc_cell, if_pos rfl]
  have f1 : ∀ o, V.frozen? ⟨w.heap.size, o, none⟩ = false := fun o => by rw [hV, aftD_frozen, if_pos (by omega), aft_frozen, if_pos (by simp), alloc_frozen, if_pos rfl]
  have hE : Hid (Ext w.heap.size w V) := hid (by rw [hV]; exact (((Ext.refl w).alloc _).aft _).aftD _ (by omega))
  rw [← hV] at hs1 ⊢
  clear hV hs0 hl0 hl1 hl2 h hl
  obtain ⟨k, hk⟩ : ∃ k, k = V.heap.size := ⟨_, rfl⟩
  obtain ⟨W, hW⟩ : ∃ W, W = V.alloc (Obj.cells #[Value.int IntKind.i64 x1, Value.int IntKind.i64 x2, Value.int IntKind.i64 x3, Value.int IntKind.i64 x4] 38) := ⟨_, rfl⟩
  have c1 : ∀ o, W.cell? ⟨w.heap.size, o, none⟩ = #[Value.int IntKind.i64 0, Value.int IntKind.i64 0, Value.int IntKind.i64 0, Value.int IntKind.i64 0][o]? := fun o => by rw [hW, alloc_cell, if_neg (by omega)]; exact c1 o
  have f1 : ∀ o, W.frozen? ⟨w.heap.size, o, none⟩ = false := fun o => by rw [hW, alloc_frozen, if_neg (by omega)]; exact f1 o
  have hE1 : ∀ o, W.cell? ⟨k, o, none⟩ = #[Value.int IntKind.i64 x1, Value.int IntKind.i64 x2, Value.int IntKind.i64 x3, Value.int IntKind.i64 x4][o]? := fun o => by rw [hW, alloc_cell, if_pos hk]
  have hG : Hid (Ext w.heap.size w W) := hid (by rw [hW]; exact hE.out.alloc _)
  have hsW : src B b W := by rw [hW]; exact hs1.alloc _
  have lW : k < W.heap.size := by rw [hW]; simp; omega
  rw [← hW, ← hk]
  have hbk : b < k := by omega
  have hb1 : w.heap.size < b := by omega
  clear hW hk hs1 hE lV hbV hb0
  (refine wp_region_held_drew (S := (fun w' => ∀ o, w'.cell? ⟨k, o, none⟩ = #[Value.int IntKind.i64 x1, Value.int IntKind.i64 x2, Value.int IntKind.i64 x3, Value.int IntKind.i64 x4][o]?)) (by kernel_rfl) ?_ (fun hHeld => ?_); focus ((try dsimp only); (intro o; repeat (with_reducible first | exact hE1 o | exact hHeld o | rw [drewC_cell] | (rw [aftD_cell, if_pos (by first | omega | (simp; omega))]) | (rw [alloc_cell, if_neg (by first | omega | (simp; omega))]) | (rw [set_cell, if_neg (by omega)])))))
  (refine wpAnyH_take (i := 0) (oi := ?ho1) (v := ?hv1) ?hi1 (by kernel_rfl) (by kernel_rfl) (by kernel_rfl) ?hq1 ?hy1 (by assumption) ?hr1; (case hi1 => (simp only [List.getElem?_toArray, List.getElem?_cons_succ, List.getElem?_cons_zero]; first | done | rfl)); (case hq1 => exact fun _ _ _ h => h); (case hy1 => (refine Or.inl ⟨by rfl, ?_⟩; intro w hSw; (try dsimp only at hSw); go_simp; first | done | with_reducible rfl)); (try simp only [Act.put, List.setIfInBounds_toArray, List.set_cons_zero, List.set_cons_succ]))
  (refine wpAnyH_take (i := 1) (oi := ?ho2) (v := ?hv2) ?hi2 (by kernel_rfl) (by kernel_rfl) (by kernel_rfl) ?hq2 ?hy2 (by assumption) ?hr2; (case hi2 => (simp only [List.getElem?_toArray, List.getElem?_cons_succ, List.getElem?_cons_zero]; first | done | rfl)); (case hq2 => exact fun _ _ _ h => h); (case hy2 => (refine Or.inl ⟨by rfl, ?_⟩; intro w hSw; (try dsimp only at hSw); go_simp; first | done | with_reducible rfl)); (try simp only [Act.put, List.setIfInBounds_toArray, List.set_cons_zero, List.set_cons_succ]))
  (refine wpAnyH_take (i := 2) (oi := ?ho3) (v := ?hv3) ?hi3 (by kernel_rfl) (by kernel_rfl) (by kernel_rfl) ?hq3 ?hy3 (by assumption) ?hr3; (case hi3 => (simp only [List.getElem?_toArray, List.getElem?_cons_succ, List.getElem?_cons_zero]; first | done | rfl)); (case hq3 => exact fun _ _ _ h => h); (case hy3 => (refine Or.inl ⟨by rfl, ?_⟩; intro w hSw; (try dsimp only at hSw); go_simp; first | done | with_reducible rfl)); (try simp only [Act.put, List.setIfInBounds_toArray, List.set_cons_zero, List.set_cons_succ]))
  (refine wpAnyH_ready (rs := [3]) (by decide +kernel) (by simp) ?_; refine AllReadyH.cons (o := ?ho6) ?hi6 (fun K hK => ?hr6) AllReadyH.nil; (case hi6 => (simp only [List.getElem?_toArray, List.getElem?_cons_succ, List.getElem?_cons_zero]; first | done | rfl)))
  (go_simp; go_at_call 74; refine viaDr (s_next B b _ _ hsW.drew (by omega)) ?_; intro y v3 hy hs4 hl4; (try simp at hl4); (try dsimp only at hy); go_wp2_with fail)
  (refine hK.out _ _ ?_ (fun hHeld => ?_); focus ((try dsimp only); (intro o; repeat (with_reducible first | exact hE1 o | exact hHeld o | rw [drewC_cell] | (rw [aftD_cell, if_pos (by first | omega | (simp; omega))]) | (rw [alloc_cell, if_neg (by first | omega | (simp; omega))]) | (rw [set_cell, if_neg (by omega)])))))
  (clear hK K; (try simp only [Act.put, List.setIfInBounds_toArray, List.set_cons_zero, List.set_cons_succ]))
  (refine wpAnyH_take (i := 4) (oi := ?ho4) (v := ?hv4) ?hi4 (by kernel_rfl) (by kernel_rfl) (by kernel_rfl) ?hq4 ?hy4 (by assumption) ?hr4; (case hi4 => (simp only [List.getElem?_toArray, List.getElem?_cons_succ, List.getElem?_cons_zero]; first | done | rfl)); (case hq4 => exact fun _ _ _ h => h); (case hy4 => (refine Or.inl ⟨by rfl, ?_⟩; intro w hSw; (try dsimp only at hSw); go_simp; first | done | with_reducible rfl)); (try simp only [Act.put, List.setIfInBounds_toArray, List.set_cons_zero, List.set_cons_succ]))
  (refine wpAnyH_ready (rs := [5]) (by decide +kernel) (by simp) ?_; refine AllReadyH.cons (o := ?ho7) ?hi7 (fun K hK => ?hr7) AllReadyH.nil; (case hi7 => (simp only [List.getElem?_toArray, List.getElem?_cons_succ, List.getElem?_cons_zero]; first | done | rfl)))
  (rw [if_pos (by rfl)]; go_wp2_with fail)
  (refine hK.out _ _ ?_ (fun hHeld => ?_); focus ((try dsimp only); (intro o; repeat (with_reducible first | exact hE1 o | exact hHeld o | rw [drewC_cell] | (rw [aftD_cell, if_pos (by first | omega | (simp; omega))]) | (rw [alloc_cell, if_neg (by first | omega | (simp; omega))]) | (rw [set_cell, if_neg (by omega)])))))
  (clear hK K; (try simp only [Act.put, List.setIfInBounds_toArray, List.set_cons_zero, List.set_cons_succ]))
  (refine wpAnyH_ready (rs := [6]) (by decide +kernel) (by simp) ?_; refine AllReadyH.cons (o := ?ho8) ?hi8 (fun K hK => ?hr8) AllReadyH.nil; (case hi8 => (simp only [List.getElem?_toArray, List.getElem?_cons_succ, List.getElem?_cons_zero]; first | done | rfl)))
  (go_simp; go_at_call 73; refine viaDr (s_pickA B b _ _ _ [y - 10, 58, -58, 60, 61] _ _ _ (by simp) rfl rfl hs4 (by decide) (by decide)) ?_; intro q v5 hq hs6 hl6; (try simp at hl6); clear hq; go_wp2_with fail)
  (refine hK.out _ _ ?_ (fun hHeld => ?_); focus ((try dsimp only); (intro o; repeat (with_reducible first | exact hE1 o | exact hHeld o | rw [drewC_cell] | (rw [aftD_cell, if_pos (by first | omega | (simp; omega))]) | (rw [alloc_cell, if_neg (by first | omega | (simp; omega))]) | (rw [set_cell, if_neg (by omega)])))))
  (clear hK K; (try simp only [Act.put, List.setIfInBounds_toArray, List.set_cons_zero, List.set_cons_succ]))
  (refine wpAnyH_ready (rs := [7]) (by decide +kernel) (by simp) ?_; refine AllReadyH.cons (o := ?ho9) ?hi9 (fun K hK => ?hr9) AllReadyH.nil; (case hi9 => (simp only [List.getElem?_toArray, List.getElem?_cons_succ, List.getElem?_cons_zero]; first | done | rfl)))
  (rw [if_pos (by rfl)]; go_wp2_with fail)
  (refine hK.out _ _ ?_ (fun hHeld => ?_); focus ((try dsimp only); (intro o; repeat (with_reducible first | exact hE1 o | exact hHeld o | rw [drewC_cell] | (rw [aftD_cell, if_pos (by first | omega | (simp; omega))]) | (rw [alloc_cell, if_neg (by first | omega | (simp; omega))]) | (rw [set_cell, if_neg (by omega)])))))
  (clear hK K; (try simp only [Act.put, List.setIfInBounds_toArray, List.set_cons_zero, List.set_cons_succ]))
  (refine wpAnyH_take (i := 8) (oi := ?ho5) (v := ?hv5) ?hi5 (by kernel_rfl) (by kernel_rfl) (by kernel_rfl) ?hq5 ?hy5 (by assumption) ?hr5; (case hi5 => (simp only [List.getElem?_toArray, List.getElem?_cons_succ, List.getElem?_cons_zero]; first | done | rfl)); (case hq5 => exact fun _ _ _ h => h); (case hy5 => (refine Or.inl ⟨by rfl, ?_⟩; intro w hSw; (try dsimp only at hSw); go_simp; first | done | with_reducible rfl)); (try simp only [Act.put, List.setIfInBounds_toArray, List.set_cons_zero, List.set_cons_succ]))
  (refine wpAnyH_done (by kernel_rfl) ?_ _)
  go_wp2_with fail
  exact bodyPost_ret (v := .tuple #[.agg #[Value.int IntKind.i64 x1, Value.int IntKind.i64 x2, Value.int IntKind.i64 x3, Value.int IntKind.i64 x4], .int .i64 q]) (by simp [results, go_sem, ↓IntWalk.iteOmega, c1]) rfl ⟨(⟨x1, x2, x3, x4⟩, q), rfl, (by refine Ext.bel ?_; repeat (with_reducible first | exact hG.out | apply Ext.aftD | apply Ext.drew | apply Ext.alloc | apply Ext.setCell | exact Nat.le_refl _ | omega))⟩
end Go.Proofs.Ytehdkbopkkgabaa
