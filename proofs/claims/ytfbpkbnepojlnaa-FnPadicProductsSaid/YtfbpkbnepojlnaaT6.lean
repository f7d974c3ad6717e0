/- Draws: two p-adic numbers. (Printed by mkT6.py.) -/
import Derived.Test.YtfbpkbnepojlnaaT5
import Derived.Test.YtfbpkbnepojlnaaE3
import Derived.Test.YtfbpkbnepojlnaaB6
namespace Go.Proofs.Ytfbpkbnepojlnaa
open Go Go.RowKit

theorem modu_leD {p n m : Int} (hp : 2 ≤ p) (hm : 0 ≤ m ∧ m ≤ n) (h : p ^ n.toNat ≤ 1000000000) : 1 ≤ modu p m ∧ modu p m ≤ 1000000000 := by
  have h1 := pow_pos' (show 1 ≤ p by omega) m.toNat
  have h2 : p ^ m.toNat ≤ p ^ n.toNat := by
    obtain ⟨k, hk⟩ : ∃ k, n.toNat = m.toNat + k := ⟨n.toNat - m.toNat, by omega⟩
    rw [hk, Int.pow_add]
    have h3 := pow_pos' (show 1 ≤ p by omega) k
    have := Int.mul_le_mul_of_nonneg_left h3 (show 0 ≤ p ^ m.toNat by omega)
    omega
  unfold modu
  rw [if_pos (by omega)]
  omega
theorem drewC_cell (w : World) (a : Addr) : w.drew.cell? a = w.cell? a := rfl
theorem setj_cell {w : World} {k j : Nat} {v : Value} {zs : Array Value} (h : ∀ o, w.cell? ⟨k, o, none⟩ = zs[o]?) (o : Nat) : (w.setCell ⟨k, j, none⟩ v).cell? ⟨k, o, none⟩ = (zs.setIfInBounds j v)[o]? := by
  rw [set_cell, Array.getElem?_setIfInBounds]
  split
  · rename_i e
    obtain ⟨_, rfl⟩ := e
    rw [h, if_pos rfl]
    split
    · rename_i hj; rw [Array.getElem?_eq_getElem hj]; rfl
    · rename_i hj; rw [Array.getElem?_eq_none (by omega)]; rfl
  · rename_i e
    rw [h, if_neg (fun e2 => e ⟨rfl, e2⟩)]

set_option maxRecDepth 20000 in
set_option maxHeartbeats 16000000 in
theorem s_drawTwo (B : Nat) (a : Option Addr) (len cap : Nat) (w : World) (h : rdB B w a len) (hl : len ≤ 4096) (hB : B ≤ w.heap.size) :
    Calls Try.prog 62 #[.slice a len cap] w fun e w' => ∃ x y : Pd, e = .returned (.tuple #[(fun x : Pd => .agg #[.int .i64 x.p, .int .i64 x.v, .int .i64 x.u, .int .i64 x.n]) x, (fun x : Pd => .agg #[.int .i64 x.p, .int .i64 x.v, .int .i64 x.u, .int .i64 x.n]) y]) ∧ Below w.heap.size w w' := by
  go_enter Try.func62, Try.ntmps62
  go_wp2_with fail
  refine viaF (s_from B a len cap _ (h.of fun j o v hj hv => by rw [alloc_cell, if_neg (by simp; omega), alloc_cell, if_neg (by omega)]; exact hv) hl (by simp; omega)) ?_
  intro b u0 hs0 hb0 hl0 hl1
  simp at hb0 hl0
  go_wp2_with fail
  refine viaDr (s_draw3 B b _ hs0) ?_
  intro x u1 htr hs1 hl2
  clear htr
  obtain ⟨x1, x2, x3, x4⟩ := x
  dsimp only
  go_wp2_with fail
  obtain ⟨V, hV⟩ : ∃ V, V = aftD b (aft ((w.alloc (Obj.cells #[Value.int IntKind.i64 0, Value.int IntKind.i64 0, Value.int IntKind.i64 0, Value.int IntKind.i64 0] 27)).alloc (Obj.cells #[Value.int IntKind.i64 0, Value.int IntKind.i64 0, Value.int IntKind.i64 0, Value.int IntKind.i64 0] 27)) u0) u1 := ⟨_, rfl⟩
  have lV : w.heap.size + 2 ≤ V.heap.size := by rw [hV]; omega
  have hbV : b < V.heap.size := by rw [hV]; omega
  have hBb := hs0.ge
  have c1 : ∀ o, V.cell? ⟨w.heap.size, o, none⟩ = #[Value.int IntKind.i64 0, Value.int IntKind.i64 0, Value.int IntKind.i64 0, Value.int IntKind.i64 0][o]? := fun o => by rw [hV, aftD_cell, if_pos (by omega), aft_cell, if_pos (by simp; omega), alloc_cell, if_neg (by simp), alloc_cell, if_pos rfl]
  have f1 : ∀ o, V.frozen? ⟨w.heap.size, o, none⟩ = false := fun o => by rw [hV, aftD_frozen, if_pos (by omega), aft_frozen, if_pos (by simp; omega), alloc_frozen, if_neg (by simp), alloc_frozen, if_pos rfl]
  have c2 : ∀ o, V.cell? ⟨w.heap.size + 1, o, none⟩ = #[Value.int IntKind.i64 0, Value.int IntKind.i64 0, Value.int IntKind.i64 0, Value.int IntKind.i64 0][o]? := fun o => by rw [hV, aftD_cell, if_pos (by omega), aft_cell, if_pos (by simp), alloc_cell, if_pos (by simp)]
  have f2 : ∀ o, V.frozen? ⟨w.heap.size + 1, o, none⟩ = false := fun o => by rw [hV, aftD_frozen, if_pos (by omega), aft_frozen, if_pos (by simp), alloc_frozen, if_pos (by simp)]
  have hE : Hid (Ext w.heap.size w V) := hid (by rw [hV]; exact ((((Ext.refl w).alloc _).alloc _).aft _).aftD _ (by omega))
  rw [← hV] at hs1 ⊢
  clear hV hs0 hl0 hl1 hl2 hl h
  obtain ⟨k, hk⟩ : ∃ k, k = V.heap.size := ⟨_, rfl⟩
  obtain ⟨W0, hW⟩ : ∃ W, W = V.alloc (Obj.cells #[Value.int IntKind.i64 x1, Value.int IntKind.i64 x2, Value.int IntKind.i64 x3, Value.int IntKind.i64 x4] 27) := ⟨_, rfl⟩
  have c1_0 : ∀ o, W0.cell? ⟨w.heap.size, o, none⟩ = #[Value.int IntKind.i64 0, Value.int IntKind.i64 0, Value.int IntKind.i64 0, Value.int IntKind.i64 0][o]? := fun o => by rw [hW, alloc_cell, if_neg (by omega)]; exact c1 o
  have f1_0 : ∀ o, W0.frozen? ⟨w.heap.size, o, none⟩ = false := fun o => by rw [hW, alloc_frozen, if_neg (by omega)]; exact f1 o
  have c2_0 : ∀ o, W0.cell? ⟨w.heap.size + 1, o, none⟩ = #[Value.int IntKind.i64 0, Value.int IntKind.i64 0, Value.int IntKind.i64 0, Value.int IntKind.i64 0][o]? := fun o => by rw [hW, alloc_cell, if_neg (by omega)]; exact c2 o
  have f2_0 : ∀ o, W0.frozen? ⟨w.heap.size + 1, o, none⟩ = false := fun o => by rw [hW, alloc_frozen, if_neg (by omega)]; exact f2 o
  have cX_0 : ∀ o, W0.cell? ⟨k, o, none⟩ = #[Value.int IntKind.i64 x1, Value.int IntKind.i64 x2, Value.int IntKind.i64 x3, Value.int IntKind.i64 x4][o]? := fun o => by rw [hW, alloc_cell, if_pos hk]
  have fX_0 : ∀ o, W0.frozen? ⟨k, o, none⟩ = false := fun o => by rw [hW, alloc_frozen, if_pos hk]
  have hG_0 : Hid (Ext w.heap.size w W0) := hid (by rw [hW]; exact hE.out.alloc _)
  have hs_0 : src B b W0 := by rw [hW]; exact hs1.alloc _
  have l_0 : k < W0.heap.size := by rw [hW]; simp; omega
  rw [← hW, ← hk]
  have hbk : b < k := by omega
  have hb1 : w.heap.size + 1 < b := by omega
  clear c1 f1 c2 f2 hW hk hs1 hE lV hbV hb0
  go_wp2_with fail
  refine pur (s_small x1 _) ?_
  cases hsm : smallP x1
  · go_wp2_with fail
    have hD : ∀ o, W0.drew.cell? ⟨k, o, none⟩ = #[Value.int IntKind.i64 x1, Value.int IntKind.i64 x2, Value.int IntKind.i64 x3, Value.int IntKind.i64 x4][o]? := cX_0
    (refine wp_region_held_drew (S := (fun w' => ∀ o, w'.cell? ⟨k, o, none⟩ = #[Value.int IntKind.i64 x1, Value.int IntKind.i64 x2, Value.int IntKind.i64 x3, Value.int IntKind.i64 x4][o]?)) (by kernel_rfl) ?_ (fun hHeld => ?_); focus ((try dsimp only); (first | (refine ⟨fun o => ?_, fun o => ?_⟩ <;> (repeat (with_reducible first | exact hD o | exact hD2 o | exact hE1 o | exact hE2 o | rw [drewC_cell] | exact hHeld.1 o | exact hHeld.2 o | (rw [set_cell, if_neg (by omega)])))) | (intro o; repeat (with_reducible first | exact hD o | exact hHeld o | (rw [aftD_cell, if_pos (by simp; omega)]) | (rw [set_cell, if_neg (by omega)]))))))
    (refine wpAnyH_take (i := 0) (oi := ?ho1) (v := ?hv1) ?hi1 (by kernel_rfl) (by kernel_rfl) (by kernel_rfl) ?hq1 ?hy1 (by assumption) ?hr1; (case hi1 => (simp only [List.getElem?_toArray, List.getElem?_cons_succ, List.getElem?_cons_zero]; first | done | rfl)); (case hq1 => exact fun _ _ _ h => h); (case hy1 => (refine Or.inl ⟨by rfl, ?_⟩; intro w hSw; (try dsimp only at hSw); go_simp; first | done | with_reducible rfl)); (try simp only [Act.put, List.setIfInBounds_toArray, List.set_cons_zero, List.set_cons_succ]))
    (refine wpAnyH_take (i := 1) (oi := ?ho2) (v := ?hv2) ?hi2 (by kernel_rfl) (by kernel_rfl) (by kernel_rfl) ?hq2 ?hy2 (by assumption) ?hr2; (case hi2 => (simp only [List.getElem?_toArray, List.getElem?_cons_succ, List.getElem?_cons_zero]; first | done | rfl)); (case hq2 => exact fun _ _ _ h => h); (case hy2 => (refine Or.inl ⟨by rfl, ?_⟩; intro w hSw; (try dsimp only at hSw); go_simp; first | done | with_reducible rfl)); (try simp only [Act.put, List.setIfInBounds_toArray, List.set_cons_zero, List.set_cons_succ]))
    (refine wpAnyH_ready (rs := [2]) (by decide +kernel) (by simp) ?_; refine AllReadyH.cons (o := ?ho21) ?hi21 (fun K hK => ?hr21) AllReadyH.nil; (case hi21 => (simp only [List.getElem?_toArray, List.getElem?_cons_succ, List.getElem?_cons_zero]; first | done | rfl)))
    (go_simp; go_at_call 51; refine viaDr (s_draw3 B b _ hs_0.drew) ?_; intro y v3 htt hs4 hl4; (try simp at hl4); obtain ⟨y1, y2, y3, y4⟩ := y; dsimp only; go_wp2_with fail)
    (refine hK.out _ _ ?_ (fun hHeld => ?_); focus ((try dsimp only); (first | (refine ⟨fun o => ?_, fun o => ?_⟩ <;> (repeat (with_reducible first | exact hD o | exact hD2 o | exact hE1 o | exact hE2 o | rw [drewC_cell] | exact hHeld.1 o | exact hHeld.2 o | (rw [set_cell, if_neg (by omega)])))) | (intro o; repeat (with_reducible first | exact hD o | exact hHeld o | (rw [aftD_cell, if_pos (by simp; omega)]) | (rw [set_cell, if_neg (by omega)]))))))
    (clear hK K; (try simp only [Act.put, List.setIfInBounds_toArray, List.set_cons_zero, List.set_cons_succ]))
    (refine wpAnyH_ready (rs := [3]) (by decide +kernel) (by simp) ?_; refine AllReadyH.cons (o := ?ho22) ?hi22 (fun K hK => ?hr22) AllReadyH.nil; (case hi22 => (simp only [List.getElem?_toArray, List.getElem?_cons_succ, List.getElem?_cons_zero]; first | done | rfl)))
    (rw [if_pos (by rfl)]; go_wp2_with fail)
    (refine hK.out _ _ ?_ (fun hHeld => ?_); focus ((try dsimp only); (first | (refine ⟨fun o => ?_, fun o => ?_⟩ <;> (repeat (with_reducible first | exact hD o | exact hD2 o | exact hE1 o | exact hE2 o | rw [drewC_cell] | exact hHeld.1 o | exact hHeld.2 o | (rw [set_cell, if_neg (by omega)])))) | (intro o; repeat (with_reducible first | exact hD o | exact hHeld o | (rw [aftD_cell, if_pos (by simp; omega)]) | (rw [set_cell, if_neg (by omega)]))))))
    (clear hK K; (try simp only [Act.put, List.setIfInBounds_toArray, List.set_cons_zero, List.set_cons_succ]))
    (refine wpAnyH_ready (rs := [4]) (by decide +kernel) (by simp) ?_; refine AllReadyH.cons (o := ?ho23) ?hi23 (fun K hK => ?hr23) AllReadyH.nil; (case hi23 => (simp only [List.getElem?_toArray, List.getElem?_cons_succ, List.getElem?_cons_zero]; first | done | rfl)))
    (rw [if_pos (by rfl)]; go_wp2_with fail)
    (refine hK.out _ _ ?_ (fun hHeld => ?_); focus ((try dsimp only); (first | (refine ⟨fun o => ?_, fun o => ?_⟩ <;> (repeat (with_reducible first | exact hD o | exact hD2 o | exact hE1 o | exact hE2 o | rw [drewC_cell] | exact hHeld.1 o | exact hHeld.2 o | (rw [set_cell, if_neg (by omega)])))) | (intro o; repeat (with_reducible first | exact hD o | exact hHeld o | (rw [aftD_cell, if_pos (by simp; omega)]) | (rw [set_cell, if_neg (by omega)]))))))
    (clear hK K; (try simp only [Act.put, List.setIfInBounds_toArray, List.set_cons_zero, List.set_cons_succ]))
    (refine wpAnyH_done (by kernel_rfl) ?_ _)
    go_wp2_with fail
    exact bodyPost_ret (v := .tuple #[.agg #[Value.int IntKind.i64 x1, Value.int IntKind.i64 x2, Value.int IntKind.i64 x3, Value.int IntKind.i64 x4], .agg #[.int .i64 y1, .int .i64 y2, .int .i64 y3, .int .i64 y4]]) (by simp [results, go_sem, ↓IntWalk.iteOmega, c1_0, c2_0]) rfl ⟨⟨x1, x2, x3, x4⟩, ⟨y1, y2, y3, y4⟩, rfl, (by refine Ext.bel ?_; repeat (with_reducible first | exact hG_0.out | apply Ext.aftD | apply Ext.aft | apply Ext.alloc | apply Ext.drew | apply Ext.setCell | exact Nat.le_add_right _ _ | exact Nat.le_refl _ | (simp; done) | (simp; omega) | omega))⟩
  have hp := smallP_bd hsm
  clear hsm
  go_wp2_with fail
  refine viaDr (s_next B b _ _ hs_0 (by omega)) ?_
  intro z u2 hz hq hlq
  (try dsimp only at hz)
  clear hlq
  obtain ⟨W1, hW1⟩ : ∃ X, X = aftD b W0 u2 := ⟨_, rfl⟩
  have c1_1 : ∀ o, W1.cell? ⟨w.heap.size, o, none⟩ = #[Value.int IntKind.i64 0, Value.int IntKind.i64 0, Value.int IntKind.i64 0, Value.int IntKind.i64 0][o]? := fun o => by rw [hW1, aftD_cell, if_pos (by omega)]; exact c1_0 o
  have f1_1 : ∀ o, W1.frozen? ⟨w.heap.size, o, none⟩ = false := fun o => by rw [hW1, aftD_frozen, if_pos (by omega)]; exact f1_0 o
  have c2_1 : ∀ o, W1.cell? ⟨(w.heap.size + 1), o, none⟩ = #[Value.int IntKind.i64 0, Value.int IntKind.i64 0, Value.int IntKind.i64 0, Value.int IntKind.i64 0][o]? := fun o => by rw [hW1, aftD_cell, if_pos (by omega)]; exact c2_0 o
  have f2_1 : ∀ o, W1.frozen? ⟨(w.heap.size + 1), o, none⟩ = false := fun o => by rw [hW1, aftD_frozen, if_pos (by omega)]; exact f2_0 o
  have cX_1 : ∀ o, W1.cell? ⟨k, o, none⟩ = #[Value.int IntKind.i64 x1, Value.int IntKind.i64 x2, Value.int IntKind.i64 x3, Value.int IntKind.i64 x4][o]? := fun o => by rw [hW1, aftD_cell, if_pos (by omega)]; exact cX_0 o
  have fX_1 : ∀ o, W1.frozen? ⟨k, o, none⟩ = false := fun o => by rw [hW1, aftD_frozen, if_pos (by omega)]; exact fX_0 o
  have hG_1 : Hid (Ext w.heap.size w W1) := hid (by rw [hW1]; exact hG_0.out.aftD _ (by omega))
  have hs_1 : src B b W1 := by rw [hW1]; exact hq
  have l_1 : k < W1.heap.size := by rw [hW1]; have := size_aftD b W0 u2; omega
  rw [← hW1]
  clear hq hW1 c1_0 f1_0 c2_0 f2_0 cX_0 fX_0 hG_0 hs_0 l_0
  by_cases z0 : z = 0
  · subst z0
    go_wp2_with fail
    have hD : ∀ o, W1.drew.cell? ⟨k, o, none⟩ = #[Value.int IntKind.i64 x1, Value.int IntKind.i64 x2, Value.int IntKind.i64 x3, Value.int IntKind.i64 x4][o]? := cX_1
    (refine wp_region_held_drew (S := (fun w' => ∀ o, w'.cell? ⟨k, o, none⟩ = #[Value.int IntKind.i64 x1, Value.int IntKind.i64 x2, Value.int IntKind.i64 x3, Value.int IntKind.i64 x4][o]?)) (by kernel_rfl) ?_ (fun hHeld => ?_); focus ((try dsimp only); (first | (refine ⟨fun o => ?_, fun o => ?_⟩ <;> (repeat (with_reducible first | exact hD o | exact hD2 o | exact hE1 o | exact hE2 o | rw [drewC_cell] | exact hHeld.1 o | exact hHeld.2 o | (rw [set_cell, if_neg (by omega)])))) | (intro o; repeat (with_reducible first | exact hD o | exact hHeld o | (rw [aftD_cell, if_pos (by simp; omega)]) | (rw [set_cell, if_neg (by omega)]))))))
    (refine wpAnyH_take (i := 0) (oi := ?ho3) (v := ?hv3) ?hi3 (by kernel_rfl) (by kernel_rfl) (by kernel_rfl) ?hq3 ?hy3 (by assumption) ?hr3; (case hi3 => (simp only [List.getElem?_toArray, List.getElem?_cons_succ, List.getElem?_cons_zero]; first | done | rfl)); (case hq3 => exact fun _ _ _ h => h); (case hy3 => (refine Or.inl ⟨by rfl, ?_⟩; intro w hSw; (try dsimp only at hSw); go_simp; first | done | with_reducible rfl)); (try simp only [Act.put, List.setIfInBounds_toArray, List.set_cons_zero, List.set_cons_succ]))
    (refine wpAnyH_take (i := 1) (oi := ?ho4) (v := ?hv4) ?hi4 (by kernel_rfl) (by kernel_rfl) (by kernel_rfl) ?hq4 ?hy4 (by assumption) ?hr4; (case hi4 => (simp only [List.getElem?_toArray, List.getElem?_cons_succ, List.getElem?_cons_zero]; first | done | rfl)); (case hq4 => exact fun _ _ _ h => h); (case hy4 => (refine Or.inl ⟨by rfl, ?_⟩; intro w hSw; (try dsimp only at hSw); go_simp; first | done | with_reducible rfl)); (try simp only [Act.put, List.setIfInBounds_toArray, List.set_cons_zero, List.set_cons_succ]))
    (refine wpAnyH_ready (rs := [2]) (by decide +kernel) (by simp) ?_; refine AllReadyH.cons (o := ?ho24) ?hi24 (fun K hK => ?hr24) AllReadyH.nil; (case hi24 => (simp only [List.getElem?_toArray, List.getElem?_cons_succ, List.getElem?_cons_zero]; first | done | rfl)))
    (go_simp; go_at_call 51; refine viaDr (s_draw3 B b _ hs_1.drew) ?_; intro y v3 htt hs4 hl4; (try simp at hl4); obtain ⟨y1, y2, y3, y4⟩ := y; dsimp only; go_wp2_with fail)
    (refine hK.out _ _ ?_ (fun hHeld => ?_); focus ((try dsimp only); (first | (refine ⟨fun o => ?_, fun o => ?_⟩ <;> (repeat (with_reducible first | exact hD o | exact hD2 o | exact hE1 o | exact hE2 o | rw [drewC_cell] | exact hHeld.1 o | exact hHeld.2 o | (rw [set_cell, if_neg (by omega)])))) | (intro o; repeat (with_reducible first | exact hD o | exact hHeld o | (rw [aftD_cell, if_pos (by simp; omega)]) | (rw [set_cell, if_neg (by omega)]))))))
    (clear hK K; (try simp only [Act.put, List.setIfInBounds_toArray, List.set_cons_zero, List.set_cons_succ]))
    (refine wpAnyH_ready (rs := [3]) (by decide +kernel) (by simp) ?_; refine AllReadyH.cons (o := ?ho25) ?hi25 (fun K hK => ?hr25) AllReadyH.nil; (case hi25 => (simp only [List.getElem?_toArray, List.getElem?_cons_succ, List.getElem?_cons_zero]; first | done | rfl)))
    (rw [if_pos (by rfl)]; go_wp2_with fail)
    (refine hK.out _ _ ?_ (fun hHeld => ?_); focus ((try dsimp only); (first | (refine ⟨fun o => ?_, fun o => ?_⟩ <;> (repeat (with_reducible first | exact hD o | exact hD2 o | exact hE1 o | exact hE2 o | rw [drewC_cell] | exact hHeld.1 o | exact hHeld.2 o | (rw [set_cell, if_neg (by omega)])))) | (intro o; repeat (with_reducible first | exact hD o | exact hHeld o | (rw [aftD_cell, if_pos (by simp; omega)]) | (rw [set_cell, if_neg (by omega)]))))))
    (clear hK K; (try simp only [Act.put, List.setIfInBounds_toArray, List.set_cons_zero, List.set_cons_succ]))
    (refine wpAnyH_ready (rs := [4]) (by decide +kernel) (by simp) ?_; refine AllReadyH.cons (o := ?ho26) ?hi26 (fun K hK => ?hr26) AllReadyH.nil; (case hi26 => (simp only [List.getElem?_toArray, List.getElem?_cons_succ, List.getElem?_cons_zero]; first | done | rfl)))
    (rw [if_pos (by rfl)]; go_wp2_with fail)
    (refine hK.out _ _ ?_ (fun hHeld => ?_); focus ((try dsimp only); (first | (refine ⟨fun o => ?_, fun o => ?_⟩ <;> (repeat (with_reducible first | exact hD o | exact hD2 o | exact hE1 o | exact hE2 o | rw [drewC_cell] | exact hHeld.1 o | exact hHeld.2 o | (rw [set_cell, if_neg (by omega)])))) | (intro o; repeat (with_reducible first | exact hD o | exact hHeld o | (rw [aftD_cell, if_pos (by simp; omega)]) | (rw [set_cell, if_neg (by omega)]))))))
    (clear hK K; (try simp only [Act.put, List.setIfInBounds_toArray, List.set_cons_zero, List.set_cons_succ]))
    (refine wpAnyH_done (by kernel_rfl) ?_ _)
    go_wp2_with fail
    exact bodyPost_ret (v := .tuple #[.agg #[Value.int IntKind.i64 x1, Value.int IntKind.i64 x2, Value.int IntKind.i64 x3, Value.int IntKind.i64 x4], .agg #[.int .i64 y1, .int .i64 y2, .int .i64 y3, .int .i64 y4]]) (by simp [results, go_sem, ↓IntWalk.iteOmega, c1_1, c2_1]) rfl ⟨⟨x1, x2, x3, x4⟩, ⟨y1, y2, y3, y4⟩, rfl, (by refine Ext.bel ?_; repeat (with_reducible first | exact hG_1.out | apply Ext.aftD | apply Ext.aft | apply Ext.alloc | apply Ext.drew | apply Ext.setCell | exact Nat.le_add_right _ _ | exact Nat.le_refl _ | (simp; done) | (simp; omega) | omega))⟩
  have z0' : (z == 0) = false := by simpa using z0
  clear z0 hz
  go_wp2_with fail
  refine viaDr (s_valid3 B b _ _ hs_1 hp) ?_
  intro y u3 hy hq hlq
  (try dsimp only at hy)
  obtain ⟨y1, y2, y3, y4⟩ := y
  dsimp only at hy ⊢
  have hy' := hy.1.symm
  clear hy
  subst hy' 
  go_wp2_with fail
  clear hlq
  obtain ⟨W2, hW2⟩ : ∃ X, X = aftD b W1 u3 := ⟨_, rfl⟩
  have c1_2 : ∀ o, W2.cell? ⟨w.heap.size, o, none⟩ = #[Value.int IntKind.i64 0, Value.int IntKind.i64 0, Value.int IntKind.i64 0, Value.int IntKind.i64 0][o]? := fun o => by rw [hW2, aftD_cell, if_pos (by omega)]; exact c1_1 o
  have f1_2 : ∀ o, W2.frozen? ⟨w.heap.size, o, none⟩ = false := fun o => by rw [hW2, aftD_frozen, if_pos (by omega)]; exact f1_1 o
  have c2_2 : ∀ o, W2.cell? ⟨(w.heap.size + 1), o, none⟩ = #[Value.int IntKind.i64 0, Value.int IntKind.i64 0, Value.int IntKind.i64 0, Value.int IntKind.i64 0][o]? := fun o => by rw [hW2, aftD_cell, if_pos (by omega)]; exact c2_1 o
  have f2_2 : ∀ o, W2.frozen? ⟨(w.heap.size + 1), o, none⟩ = false := fun o => by rw [hW2, aftD_frozen, if_pos (by omega)]; exact f2_1 o
  have cX_2 : ∀ o, W2.cell? ⟨k, o, none⟩ = #[Value.int IntKind.i64 x1, Value.int IntKind.i64 x2, Value.int IntKind.i64 x3, Value.int IntKind.i64 x4][o]? := fun o => by rw [hW2, aftD_cell, if_pos (by omega)]; exact cX_1 o
  have fX_2 : ∀ o, W2.frozen? ⟨k, o, none⟩ = false := fun o => by rw [hW2, aftD_frozen, if_pos (by omega)]; exact fX_1 o
  have hG_2 : Hid (Ext w.heap.size w W2) := hid (by rw [hW2]; exact hG_1.out.aftD _ (by omega))
  have hs_2 : src B b W2 := by rw [hW2]; exact hq
  have l_2 : k < W2.heap.size := by rw [hW2]; have := size_aftD b W1 u3; omega
  rw [← hW2]
  clear hq hW2 c1_1 f1_1 c2_1 f2_1 cX_1 fX_1 hG_1 hs_1 l_1
  obtain ⟨k2, hk2⟩ : ∃ k, k = W2.heap.size := ⟨_, rfl⟩
  obtain ⟨W3, hW3⟩ : ∃ X, X = W2.alloc (Obj.cells #[Value.int IntKind.i64 x1, Value.int IntKind.i64 y2, Value.int IntKind.i64 y3, Value.int IntKind.i64 y4] 27) := ⟨_, rfl⟩
  have c1_3 : ∀ o, W3.cell? ⟨w.heap.size, o, none⟩ = #[Value.int IntKind.i64 0, Value.int IntKind.i64 0, Value.int IntKind.i64 0, Value.int IntKind.i64 0][o]? := fun o => by rw [hW3, alloc_cell, if_neg (by omega)]; exact c1_2 o
  have f1_3 : ∀ o, W3.frozen? ⟨w.heap.size, o, none⟩ = false := fun o => by rw [hW3, alloc_frozen, if_neg (by omega)]; exact f1_2 o
  have c2_3 : ∀ o, W3.cell? ⟨(w.heap.size + 1), o, none⟩ = #[Value.int IntKind.i64 0, Value.int IntKind.i64 0, Value.int IntKind.i64 0, Value.int IntKind.i64 0][o]? := fun o => by rw [hW3, alloc_cell, if_neg (by omega)]; exact c2_2 o
  have f2_3 : ∀ o, W3.frozen? ⟨(w.heap.size + 1), o, none⟩ = false := fun o => by rw [hW3, alloc_frozen, if_neg (by omega)]; exact f2_2 o
  have cX_3 : ∀ o, W3.cell? ⟨k, o, none⟩ = #[Value.int IntKind.i64 x1, Value.int IntKind.i64 x2, Value.int IntKind.i64 x3, Value.int IntKind.i64 x4][o]? := fun o => by rw [hW3, alloc_cell, if_neg (by omega)]; exact cX_2 o
  have fX_3 : ∀ o, W3.frozen? ⟨k, o, none⟩ = false := fun o => by rw [hW3, alloc_frozen, if_neg (by omega)]; exact fX_2 o
  have cY_3 : ∀ o, W3.cell? ⟨k2, o, none⟩ = #[Value.int IntKind.i64 x1, Value.int IntKind.i64 y2, Value.int IntKind.i64 y3, Value.int IntKind.i64 y4][o]? := fun o => by rw [hW3, alloc_cell, if_pos hk2]
  have fY_3 : ∀ o, W3.frozen? ⟨k2, o, none⟩ = false := fun o => by rw [hW3, alloc_frozen, if_pos hk2]
  have hG_3 : Hid (Ext w.heap.size w W3) := hid (by rw [hW3]; exact hG_2.out.alloc _)
  have hs_3 : src B b W3 := by rw [hW3]; exact hs_2.alloc _
  have l_3 : k2 < W3.heap.size := by rw [hW3]; simp; omega
  rw [← hW3, ← hk2]
  have hkk : k < k2 := by omega
  clear hW3 c1_2 f1_2 c2_2 f2_2 cX_2 fX_2 hG_2 hs_2 l_2 hk2
  refine via (s_IsPadic _ _ _ _ _) ?_
  intro u4 z4
  clear z4
  obtain ⟨W4, hW4⟩ : ∃ X, X = aft W3 u4 := ⟨_, rfl⟩
  have c1_4 : ∀ o, W4.cell? ⟨w.heap.size, o, none⟩ = #[Value.int IntKind.i64 0, Value.int IntKind.i64 0, Value.int IntKind.i64 0, Value.int IntKind.i64 0][o]? := fun o => by rw [hW4, aft_cell, if_pos (by omega)]; exact c1_3 o
  have f1_4 : ∀ o, W4.frozen? ⟨w.heap.size, o, none⟩ = false := fun o => by rw [hW4, aft_frozen, if_pos (by omega)]; exact f1_3 o
  have c2_4 : ∀ o, W4.cell? ⟨(w.heap.size + 1), o, none⟩ = #[Value.int IntKind.i64 0, Value.int IntKind.i64 0, Value.int IntKind.i64 0, Value.int IntKind.i64 0][o]? := fun o => by rw [hW4, aft_cell, if_pos (by omega)]; exact c2_3 o
  have f2_4 : ∀ o, W4.frozen? ⟨(w.heap.size + 1), o, none⟩ = false := fun o => by rw [hW4, aft_frozen, if_pos (by omega)]; exact f2_3 o
  have cX_4 : ∀ o, W4.cell? ⟨k, o, none⟩ = #[Value.int IntKind.i64 x1, Value.int IntKind.i64 x2, Value.int IntKind.i64 x3, Value.int IntKind.i64 x4][o]? := fun o => by rw [hW4, aft_cell, if_pos (by omega)]; exact cX_3 o
  have fX_4 : ∀ o, W4.frozen? ⟨k, o, none⟩ = false := fun o => by rw [hW4, aft_frozen, if_pos (by omega)]; exact fX_3 o
  have cY_4 : ∀ o, W4.cell? ⟨k2, o, none⟩ = #[Value.int IntKind.i64 x1, Value.int IntKind.i64 y2, Value.int IntKind.i64 y3, Value.int IntKind.i64 y4][o]? := fun o => by rw [hW4, aft_cell, if_pos (by omega)]; exact cY_3 o
  have fY_4 : ∀ o, W4.frozen? ⟨k2, o, none⟩ = false := fun o => by rw [hW4, aft_frozen, if_pos (by omega)]; exact fY_3 o
  have hG_4 : Hid (Ext w.heap.size w W4) := hid (by rw [hW4]; exact hG_3.out.aft _)
  have hs_4 : src B b W4 := by rw [hW4]; exact hs_3.aft _
  have l_4 : k2 < W4.heap.size := by rw [hW4]; have := size_aft W3 u4; omega
  rw [← hW4]
  clear hW4 c1_3 f1_3 c2_3 f2_3 cX_3 fX_3 cY_3 fY_3 hG_3 hs_3 l_3
  cases hpx : padicB x1 x2 x3 x4
  · go_wp2_with fail
    refine viaDr (s_next B b _ _ hs_4 (by omega)) ?_
    intro t u7 ht hq hlq
    (try dsimp only at ht)
    clear hlq
    obtain ⟨W5, hW5⟩ : ∃ X, X = aftD b W4 u7 := ⟨_, rfl⟩
    have c1_5 : ∀ o, W5.cell? ⟨w.heap.size, o, none⟩ = #[Value.int IntKind.i64 0, Value.int IntKind.i64 0, Value.int IntKind.i64 0, Value.int IntKind.i64 0][o]? := fun o => by rw [hW5, aftD_cell, if_pos (by omega)]; exact c1_4 o
    have f1_5 : ∀ o, W5.frozen? ⟨w.heap.size, o, none⟩ = false := fun o => by rw [hW5, aftD_frozen, if_pos (by omega)]; exact f1_4 o
    have c2_5 : ∀ o, W5.cell? ⟨(w.heap.size + 1), o, none⟩ = #[Value.int IntKind.i64 0, Value.int IntKind.i64 0, Value.int IntKind.i64 0, Value.int IntKind.i64 0][o]? := fun o => by rw [hW5, aftD_cell, if_pos (by omega)]; exact c2_4 o
    have f2_5 : ∀ o, W5.frozen? ⟨(w.heap.size + 1), o, none⟩ = false := fun o => by rw [hW5, aftD_frozen, if_pos (by omega)]; exact f2_4 o
    have cX_5 : ∀ o, W5.cell? ⟨k, o, none⟩ = #[Value.int IntKind.i64 x1, Value.int IntKind.i64 x2, Value.int IntKind.i64 x3, Value.int IntKind.i64 x4][o]? := fun o => by rw [hW5, aftD_cell, if_pos (by omega)]; exact cX_4 o
    have fX_5 : ∀ o, W5.frozen? ⟨k, o, none⟩ = false := fun o => by rw [hW5, aftD_frozen, if_pos (by omega)]; exact fX_4 o
    have cY_5 : ∀ o, W5.cell? ⟨k2, o, none⟩ = #[Value.int IntKind.i64 x1, Value.int IntKind.i64 y2, Value.int IntKind.i64 y3, Value.int IntKind.i64 y4][o]? := fun o => by rw [hW5, aftD_cell, if_pos (by omega)]; exact cY_4 o
    have fY_5 : ∀ o, W5.frozen? ⟨k2, o, none⟩ = false := fun o => by rw [hW5, aftD_frozen, if_pos (by omega)]; exact fY_4 o
    have hG_5 : Hid (Ext w.heap.size w W5) := hid (by rw [hW5]; exact hG_4.out.aftD _ (by omega))
    have hs_5 : src B b W5 := by rw [hW5]; exact hq
    have l_5 : k2 < W5.heap.size := by rw [hW5]; have := size_aftD b W4 u7; omega
    rw [← hW5]
    clear hq hW5 c1_4 f1_4 c2_4 f2_4 cX_4 fX_4 cY_4 fY_4 hG_4 hs_4 l_4
    by_cases t0 : t = 0
    · subst t0
      clear ht
      go_wp2_with fail
      refine viaDr (s_pickA B b _ _ _ [58, -58, 60] _ _ _ (by simp) rfl rfl hs_5 (by decide) (by decide)) ?_
      intro qq u8 hq hq2 hlq
      clear hq hlq
      obtain ⟨W6, hW6⟩ : ∃ X, X = W5.alloc (Obj.cells #[Value.int IntKind.i64 58, Value.int IntKind.i64 (-58), Value.int IntKind.i64 60] 2) := ⟨_, rfl⟩
      have c1_6 : ∀ o, W6.cell? ⟨w.heap.size, o, none⟩ = #[Value.int IntKind.i64 0, Value.int IntKind.i64 0, Value.int IntKind.i64 0, Value.int IntKind.i64 0][o]? := fun o => by rw [hW6, alloc_cell, if_neg (by omega)]; exact c1_5 o
      have f1_6 : ∀ o, W6.frozen? ⟨w.heap.size, o, none⟩ = false := fun o => by rw [hW6, alloc_frozen, if_neg (by omega)]; exact f1_5 o
      have c2_6 : ∀ o, W6.cell? ⟨(w.heap.size + 1), o, none⟩ = #[Value.int IntKind.i64 0, Value.int IntKind.i64 0, Value.int IntKind.i64 0, Value.int IntKind.i64 0][o]? := fun o => by rw [hW6, alloc_cell, if_neg (by omega)]; exact c2_5 o
      have f2_6 : ∀ o, W6.frozen? ⟨(w.heap.size + 1), o, none⟩ = false := fun o => by rw [hW6, alloc_frozen, if_neg (by omega)]; exact f2_5 o
      have cX_6 : ∀ o, W6.cell? ⟨k, o, none⟩ = #[Value.int IntKind.i64 x1, Value.int IntKind.i64 x2, Value.int IntKind.i64 x3, Value.int IntKind.i64 x4][o]? := fun o => by rw [hW6, alloc_cell, if_neg (by omega)]; exact cX_5 o
      have fX_6 : ∀ o, W6.frozen? ⟨k, o, none⟩ = false := fun o => by rw [hW6, alloc_frozen, if_neg (by omega)]; exact fX_5 o
      have cY_6 : ∀ o, W6.cell? ⟨k2, o, none⟩ = #[Value.int IntKind.i64 x1, Value.int IntKind.i64 y2, Value.int IntKind.i64 y3, Value.int IntKind.i64 y4][o]? := fun o => by rw [hW6, alloc_cell, if_neg (by omega)]; exact cY_5 o
      have fY_6 : ∀ o, W6.frozen? ⟨k2, o, none⟩ = false := fun o => by rw [hW6, alloc_frozen, if_neg (by omega)]; exact fY_5 o
      have hG_6 : Hid (Ext w.heap.size w W6) := hid (by rw [hW6]; exact hG_5.out.alloc _)
      have hs_6 : src B b W6 := by rw [hW6]; exact hs_5.alloc _
      have l_6 : k2 < W6.heap.size := by rw [hW6]; simp; omega
      rw [← hW6] at hq2 ⊢
      clear hW6 c1_5 f1_5 c2_5 f2_5 cX_5 fX_5 cY_5 fY_5 hG_5 hs_5 l_5
      obtain ⟨W7, hW7⟩ : ∃ X, X = aftD b W6 u8 := ⟨_, rfl⟩
      have c1_7 : ∀ o, W7.cell? ⟨w.heap.size, o, none⟩ = #[Value.int IntKind.i64 0, Value.int IntKind.i64 0, Value.int IntKind.i64 0, Value.int IntKind.i64 0][o]? := fun o => by rw [hW7, aftD_cell, if_pos (by omega)]; exact c1_6 o
      have f1_7 : ∀ o, W7.frozen? ⟨w.heap.size, o, none⟩ = false := fun o => by rw [hW7, aftD_frozen, if_pos (by omega)]; exact f1_6 o
      have c2_7 : ∀ o, W7.cell? ⟨(w.heap.size + 1), o, none⟩ = #[Value.int IntKind.i64 0, Value.int IntKind.i64 0, Value.int IntKind.i64 0, Value.int IntKind.i64 0][o]? := fun o => by rw [hW7, aftD_cell, if_pos (by omega)]; exact c2_6 o
      have f2_7 : ∀ o, W7.frozen? ⟨(w.heap.size + 1), o, none⟩ = false := fun o => by rw [hW7, aftD_frozen, if_pos (by omega)]; exact f2_6 o
      have cX_7 : ∀ o, W7.cell? ⟨k, o, none⟩ = #[Value.int IntKind.i64 x1, Value.int IntKind.i64 x2, Value.int IntKind.i64 x3, Value.int IntKind.i64 x4][o]? := fun o => by rw [hW7, aftD_cell, if_pos (by omega)]; exact cX_6 o
      have fX_7 : ∀ o, W7.frozen? ⟨k, o, none⟩ = false := fun o => by rw [hW7, aftD_frozen, if_pos (by omega)]; exact fX_6 o
      have cY_7 : ∀ o, W7.cell? ⟨k2, o, none⟩ = #[Value.int IntKind.i64 x1, Value.int IntKind.i64 y2, Value.int IntKind.i64 y3, Value.int IntKind.i64 y4][o]? := fun o => by rw [hW7, aftD_cell, if_pos (by omega)]; exact cY_6 o
      have fY_7 : ∀ o, W7.frozen? ⟨k2, o, none⟩ = false := fun o => by rw [hW7, aftD_frozen, if_pos (by omega)]; exact fY_6 o
      have hG_7 : Hid (Ext w.heap.size w W7) := hid (by rw [hW7]; exact hG_6.out.aftD _ (by omega))
      have hs_7 : src B b W7 := by rw [hW7]; exact hq2
      have l_7 : k2 < W7.heap.size := by rw [hW7]; have := size_aftD b W6 u8; omega
      rw [← hW7]
      clear hq2 hW7 c1_6 f1_6 c2_6 f2_6 cX_6 fX_6 cY_6 fY_6 hG_6 hs_6 l_6
      go_wp2_with fail
      obtain ⟨W8, hW8⟩ : ∃ X, X = W7.setCell ⟨k2, 1, none⟩ (.int .i64 qq) := ⟨_, rfl⟩
      have c1_8 : ∀ o, W8.cell? ⟨w.heap.size, o, none⟩ = #[Value.int IntKind.i64 0, Value.int IntKind.i64 0, Value.int IntKind.i64 0, Value.int IntKind.i64 0][o]? := fun o => by rw [hW8, set_cell, if_neg (by omega)]; exact c1_7 o
      have f1_8 : ∀ o, W8.frozen? ⟨w.heap.size, o, none⟩ = false := fun o => by rw [hW8, World.frozen?_setCell]; exact f1_7 o
      have c2_8 : ∀ o, W8.cell? ⟨(w.heap.size + 1), o, none⟩ = #[Value.int IntKind.i64 0, Value.int IntKind.i64 0, Value.int IntKind.i64 0, Value.int IntKind.i64 0][o]? := fun o => by rw [hW8, set_cell, if_neg (by omega)]; exact c2_7 o
      have f2_8 : ∀ o, W8.frozen? ⟨(w.heap.size + 1), o, none⟩ = false := fun o => by rw [hW8, World.frozen?_setCell]; exact f2_7 o
      have cX_8 : ∀ o, W8.cell? ⟨k, o, none⟩ = #[Value.int IntKind.i64 x1, Value.int IntKind.i64 x2, Value.int IntKind.i64 x3, Value.int IntKind.i64 x4][o]? := fun o => by rw [hW8, set_cell, if_neg (by omega)]; exact cX_7 o
      have fX_8 : ∀ o, W8.frozen? ⟨k, o, none⟩ = false := fun o => by rw [hW8, World.frozen?_setCell]; exact fX_7 o
      have cY_8 : ∀ o, W8.cell? ⟨k2, o, none⟩ = #[Value.int IntKind.i64 x1, Value.int IntKind.i64 qq, Value.int IntKind.i64 y3, Value.int IntKind.i64 y4][o]? := fun o => by rw [hW8]; exact setj_cell cY_7 o
      have fY_8 : ∀ o, W8.frozen? ⟨k2, o, none⟩ = false := fun o => by rw [hW8, World.frozen?_setCell]; exact fY_7 o
      have hG_8 : Hid (Ext w.heap.size w W8) := hid (by rw [hW8]; exact hG_7.out.setCell _ _ _ _ (by omega))
      have hs_8 : src B b W8 := by rw [hW8]; exact src.set hs_7 (by omega) (by omega) _
      have l_8 : k2 < W8.heap.size := by rw [hW8]; simp; omega
      rw [← hW8]
      clear hW8 c1_7 f1_7 c2_7 f2_7 cX_7 fX_7 cY_7 fY_7 hG_7 hs_7 l_7
      have hD : ∀ o, W8.drew.cell? ⟨k, o, none⟩ = #[Value.int IntKind.i64 x1, Value.int IntKind.i64 x2, Value.int IntKind.i64 x3, Value.int IntKind.i64 x4][o]? := cX_8
      have hD2 : ∀ o, W8.drew.cell? ⟨k2, o, none⟩ = #[Value.int IntKind.i64 x1, Value.int IntKind.i64 qq, Value.int IntKind.i64 y3, Value.int IntKind.i64 y4][o]? := cY_8
      have hE1 := cX_8
      have hE2 := cY_8
      (refine wp_region_held_drew (S := (fun w' => (∀ o, w'.cell? ⟨k, o, none⟩ = #[Value.int IntKind.i64 x1, Value.int IntKind.i64 x2, Value.int IntKind.i64 x3, Value.int IntKind.i64 x4][o]?) ∧ (∀ o, w'.cell? ⟨k2, o, none⟩ = #[Value.int IntKind.i64 x1, Value.int IntKind.i64 qq, Value.int IntKind.i64 y3, Value.int IntKind.i64 y4][o]?))) (by kernel_rfl) ?_ (fun hHeld => ?_); focus ((try dsimp only); (first | (refine ⟨fun o => ?_, fun o => ?_⟩ <;> (repeat (with_reducible first | exact hD o | exact hD2 o | exact hE1 o | exact hE2 o | rw [drewC_cell] | exact hHeld.1 o | exact hHeld.2 o | (rw [set_cell, if_neg (by omega)])))) | (intro o; repeat (with_reducible first | exact hD o | exact hHeld o | (rw [aftD_cell, if_pos (by simp; omega)]) | (rw [set_cell, if_neg (by omega)]))))))
      (refine wpAnyH_take (i := 0) (oi := ?ho5) (v := ?hv5) ?hi5 (by kernel_rfl) (by kernel_rfl) (by kernel_rfl) ?hq5 ?hy5 (by assumption) ?hr5; (case hi5 => (simp only [List.getElem?_toArray, List.getElem?_cons_succ, List.getElem?_cons_zero]; first | done | rfl)); (case hq5 => exact fun _ _ _ h => h); (case hy5 => (refine Or.inl ⟨by rfl, ?_⟩; intro w hSw; (try dsimp only at hSw); go_simp; first | done | with_reducible rfl)); (try simp only [Act.put, List.setIfInBounds_toArray, List.set_cons_zero, List.set_cons_succ]))
      (refine wpAnyH_take (i := 1) (oi := ?ho6) (v := ?hv6) ?hi6 (by kernel_rfl) (by kernel_rfl) (by kernel_rfl) ?hq6 ?hy6 (by assumption) ?hr6; (case hi6 => (simp only [List.getElem?_toArray, List.getElem?_cons_succ, List.getElem?_cons_zero]; first | done | rfl)); (case hq6 => exact fun _ _ _ h => h); (case hy6 => (refine Or.inl ⟨by rfl, ?_⟩; intro w hSw; (try dsimp only at hSw); go_simp; first | done | with_reducible rfl)); (try simp only [Act.put, List.setIfInBounds_toArray, List.set_cons_zero, List.set_cons_succ]))
      (refine wpAnyH_ready (rs := [2]) (by decide +kernel) (by simp) ?_; refine AllReadyH.cons (o := ?ho27) ?hi27 (fun K hK => ?hr27) AllReadyH.nil; (case hi27 => (simp only [List.getElem?_toArray, List.getElem?_cons_succ, List.getElem?_cons_zero]; first | done | rfl)))
      (rw [if_pos (by rfl)]; go_wp2_with fail)
      (refine hK.out _ _ ?_ (fun hHeld => ?_); focus ((try dsimp only); (first | (refine ⟨fun o => ?_, fun o => ?_⟩ <;> (repeat (with_reducible first | exact hD o | exact hD2 o | exact hE1 o | exact hE2 o | rw [drewC_cell] | exact hHeld.1 o | exact hHeld.2 o | (rw [set_cell, if_neg (by omega)])))) | (intro o; repeat (with_reducible first | exact hD o | exact hHeld o | (rw [aftD_cell, if_pos (by simp; omega)]) | (rw [set_cell, if_neg (by omega)]))))))
      (clear hK K; (try simp only [Act.put, List.setIfInBounds_toArray, List.set_cons_zero, List.set_cons_succ]))
      (refine wpAnyH_ready (rs := [3]) (by decide +kernel) (by simp) ?_; refine AllReadyH.cons (o := ?ho28) ?hi28 (fun K hK => ?hr28) AllReadyH.nil; (case hi28 => (simp only [List.getElem?_toArray, List.getElem?_cons_succ, List.getElem?_cons_zero]; first | done | rfl)))
      (rw [if_pos (by rfl)]; go_wp2_with fail)
      (refine hK.out _ _ ?_ (fun hHeld => ?_); focus ((try dsimp only); (first | (refine ⟨fun o => ?_, fun o => ?_⟩ <;> (repeat (with_reducible first | exact hD o | exact hD2 o | exact hE1 o | exact hE2 o | rw [drewC_cell] | exact hHeld.1 o | exact hHeld.2 o | (rw [set_cell, if_neg (by omega)])))) | (intro o; repeat (with_reducible first | exact hD o | exact hHeld o | (rw [aftD_cell, if_pos (by simp; omega)]) | (rw [set_cell, if_neg (by omega)]))))))
      (clear hK K; (try simp only [Act.put, List.setIfInBounds_toArray, List.set_cons_zero, List.set_cons_succ]))
      (refine wpAnyH_done (by kernel_rfl) ?_ _)
      go_wp2_with fail
      exact bodyPost_ret (v := .tuple #[.agg #[Value.int IntKind.i64 x1, Value.int IntKind.i64 x2, Value.int IntKind.i64 x3, Value.int IntKind.i64 x4], .agg #[Value.int IntKind.i64 x1, Value.int IntKind.i64 qq, Value.int IntKind.i64 y3, Value.int IntKind.i64 y4]]) (by simp [results, go_sem, ↓IntWalk.iteOmega, c1_8, c2_8]) rfl ⟨⟨x1, x2, x3, x4⟩, ⟨x1, qq, y3, y4⟩, rfl, (by refine Ext.bel ?_; repeat (with_reducible first | exact hG_8.out | apply Ext.aftD | apply Ext.aft | apply Ext.alloc | apply Ext.drew | apply Ext.setCell | exact Nat.le_add_right _ _ | exact Nat.le_refl _ | (simp; done) | (simp; omega) | omega))⟩
    · have t0' : (t == 0) = false := by simpa using t0
      clear t0 ht
      go_wp2_with fail
      have hD : ∀ o, W5.drew.cell? ⟨k, o, none⟩ = #[Value.int IntKind.i64 x1, Value.int IntKind.i64 x2, Value.int IntKind.i64 x3, Value.int IntKind.i64 x4][o]? := cX_5
      have hD2 : ∀ o, W5.drew.cell? ⟨k2, o, none⟩ = #[Value.int IntKind.i64 x1, Value.int IntKind.i64 y2, Value.int IntKind.i64 y3, Value.int IntKind.i64 y4][o]? := cY_5
      have hE1 := cX_5
      have hE2 := cY_5
      (refine wp_region_held_drew (S := (fun w' => (∀ o, w'.cell? ⟨k, o, none⟩ = #[Value.int IntKind.i64 x1, Value.int IntKind.i64 x2, Value.int IntKind.i64 x3, Value.int IntKind.i64 x4][o]?) ∧ (∀ o, w'.cell? ⟨k2, o, none⟩ = #[Value.int IntKind.i64 x1, Value.int IntKind.i64 y2, Value.int IntKind.i64 y3, Value.int IntKind.i64 y4][o]?))) (by kernel_rfl) ?_ (fun hHeld => ?_); focus ((try dsimp only); (first | (refine ⟨fun o => ?_, fun o => ?_⟩ <;> (repeat (with_reducible first | exact hD o | exact hD2 o | exact hE1 o | exact hE2 o | rw [drewC_cell] | exact hHeld.1 o | exact hHeld.2 o | (rw [set_cell, if_neg (by omega)])))) | (intro o; repeat (with_reducible first | exact hD o | exact hHeld o | (rw [aftD_cell, if_pos (by simp; omega)]) | (rw [set_cell, if_neg (by omega)]))))))
      (refine wpAnyH_take (i := 0) (oi := ?ho7) (v := ?hv7) ?hi7 (by kernel_rfl) (by kernel_rfl) (by kernel_rfl) ?hq7 ?hy7 (by assumption) ?hr7; (case hi7 => (simp only [List.getElem?_toArray, List.getElem?_cons_succ, List.getElem?_cons_zero]; first | done | rfl)); (case hq7 => exact fun _ _ _ h => h); (case hy7 => (refine Or.inl ⟨by rfl, ?_⟩; intro w hSw; (try dsimp only at hSw); go_simp; first | done | with_reducible rfl)); (try simp only [Act.put, List.setIfInBounds_toArray, List.set_cons_zero, List.set_cons_succ]))
      (refine wpAnyH_take (i := 1) (oi := ?ho8) (v := ?hv8) ?hi8 (by kernel_rfl) (by kernel_rfl) (by kernel_rfl) ?hq8 ?hy8 (by assumption) ?hr8; (case hi8 => (simp only [List.getElem?_toArray, List.getElem?_cons_succ, List.getElem?_cons_zero]; first | done | rfl)); (case hq8 => exact fun _ _ _ h => h); (case hy8 => (refine Or.inl ⟨by rfl, ?_⟩; intro w hSw; (try dsimp only at hSw); go_simp; first | done | with_reducible rfl)); (try simp only [Act.put, List.setIfInBounds_toArray, List.set_cons_zero, List.set_cons_succ]))
      (refine wpAnyH_ready (rs := [2]) (by decide +kernel) (by simp) ?_; refine AllReadyH.cons (o := ?ho29) ?hi29 (fun K hK => ?hr29) AllReadyH.nil; (case hi29 => (simp only [List.getElem?_toArray, List.getElem?_cons_succ, List.getElem?_cons_zero]; first | done | rfl)))
      (rw [if_pos (by rfl)]; go_wp2_with fail)
      (refine hK.out _ _ ?_ (fun hHeld => ?_); focus ((try dsimp only); (first | (refine ⟨fun o => ?_, fun o => ?_⟩ <;> (repeat (with_reducible first | exact hD o | exact hD2 o | exact hE1 o | exact hE2 o | rw [drewC_cell] | exact hHeld.1 o | exact hHeld.2 o | (rw [set_cell, if_neg (by omega)])))) | (intro o; repeat (with_reducible first | exact hD o | exact hHeld o | (rw [aftD_cell, if_pos (by simp; omega)]) | (rw [set_cell, if_neg (by omega)]))))))
      (clear hK K; (try simp only [Act.put, List.setIfInBounds_toArray, List.set_cons_zero, List.set_cons_succ]))
      (refine wpAnyH_ready (rs := [3]) (by decide +kernel) (by simp) ?_; refine AllReadyH.cons (o := ?ho30) ?hi30 (fun K hK => ?hr30) AllReadyH.nil; (case hi30 => (simp only [List.getElem?_toArray, List.getElem?_cons_succ, List.getElem?_cons_zero]; first | done | rfl)))
      (rw [if_pos (by rfl)]; go_wp2_with fail)
      (refine hK.out _ _ ?_ (fun hHeld => ?_); focus ((try dsimp only); (first | (refine ⟨fun o => ?_, fun o => ?_⟩ <;> (repeat (with_reducible first | exact hD o | exact hD2 o | exact hE1 o | exact hE2 o | rw [drewC_cell] | exact hHeld.1 o | exact hHeld.2 o | (rw [set_cell, if_neg (by omega)])))) | (intro o; repeat (with_reducible first | exact hD o | exact hHeld o | (rw [aftD_cell, if_pos (by simp; omega)]) | (rw [set_cell, if_neg (by omega)]))))))
      (clear hK K; (try simp only [Act.put, List.setIfInBounds_toArray, List.set_cons_zero, List.set_cons_succ]))
      (refine wpAnyH_done (by kernel_rfl) ?_ _)
      go_wp2_with fail
      exact bodyPost_ret (v := .tuple #[.agg #[Value.int IntKind.i64 x1, Value.int IntKind.i64 x2, Value.int IntKind.i64 x3, Value.int IntKind.i64 x4], .agg #[Value.int IntKind.i64 x1, Value.int IntKind.i64 y2, Value.int IntKind.i64 y3, Value.int IntKind.i64 y4]]) (by simp [results, go_sem, ↓IntWalk.iteOmega, c1_5, c2_5]) rfl ⟨⟨x1, x2, x3, x4⟩, ⟨x1, y2, y3, y4⟩, rfl, (by refine Ext.bel ?_; repeat (with_reducible first | exact hG_5.out | apply Ext.aftD | apply Ext.aft | apply Ext.alloc | apply Ext.drew | apply Ext.setCell | exact Nat.le_add_right _ _ | exact Nat.le_refl _ | (simp; done) | (simp; omega) | omega))⟩
  obtain ⟨hp2, hv, hu, hn, hbd⟩ := padic_facts hpx
  by_cases h4 : 1 < x4
  case neg =>
    have h4' : decide (1 < x4) = false := by simpa using h4
    clear h4 hbd
    go_wp2_with fail
    refine viaDr (s_next B b _ _ hs_4 (by omega)) ?_
    intro t u7 ht hq hlq
    (try dsimp only at ht)
    clear hlq
    obtain ⟨W5, hW5⟩ : ∃ X, X = aftD b W4 u7 := ⟨_, rfl⟩
    have c1_5 : ∀ o, W5.cell? ⟨w.heap.size, o, none⟩ = #[Value.int IntKind.i64 0, Value.int IntKind.i64 0, Value.int IntKind.i64 0, Value.int IntKind.i64 0][o]? := fun o => by rw [hW5, aftD_cell, if_pos (by omega)]; exact c1_4 o
    have f1_5 : ∀ o, W5.frozen? ⟨w.heap.size, o, none⟩ = false := fun o => by rw [hW5, aftD_frozen, if_pos (by omega)]; exact f1_4 o
    have c2_5 : ∀ o, W5.cell? ⟨(w.heap.size + 1), o, none⟩ = #[Value.int IntKind.i64 0, Value.int IntKind.i64 0, Value.int IntKind.i64 0, Value.int IntKind.i64 0][o]? := fun o => by rw [hW5, aftD_cell, if_pos (by omega)]; exact c2_4 o
    have f2_5 : ∀ o, W5.frozen? ⟨(w.heap.size + 1), o, none⟩ = false := fun o => by rw [hW5, aftD_frozen, if_pos (by omega)]; exact f2_4 o
    have cX_5 : ∀ o, W5.cell? ⟨k, o, none⟩ = #[Value.int IntKind.i64 x1, Value.int IntKind.i64 x2, Value.int IntKind.i64 x3, Value.int IntKind.i64 x4][o]? := fun o => by rw [hW5, aftD_cell, if_pos (by omega)]; exact cX_4 o
    have fX_5 : ∀ o, W5.frozen? ⟨k, o, none⟩ = false := fun o => by rw [hW5, aftD_frozen, if_pos (by omega)]; exact fX_4 o
    have cY_5 : ∀ o, W5.cell? ⟨k2, o, none⟩ = #[Value.int IntKind.i64 x1, Value.int IntKind.i64 y2, Value.int IntKind.i64 y3, Value.int IntKind.i64 y4][o]? := fun o => by rw [hW5, aftD_cell, if_pos (by omega)]; exact cY_4 o
    have fY_5 : ∀ o, W5.frozen? ⟨k2, o, none⟩ = false := fun o => by rw [hW5, aftD_frozen, if_pos (by omega)]; exact fY_4 o
    have hG_5 : Hid (Ext w.heap.size w W5) := hid (by rw [hW5]; exact hG_4.out.aftD _ (by omega))
    have hs_5 : src B b W5 := by rw [hW5]; exact hq
    have l_5 : k2 < W5.heap.size := by rw [hW5]; have := size_aftD b W4 u7; omega
    rw [← hW5]
    clear hq hW5 c1_4 f1_4 c2_4 f2_4 cX_4 fX_4 cY_4 fY_4 hG_4 hs_4 l_4
    by_cases t0 : t = 0
    · subst t0
      clear ht
      go_wp2_with fail
      refine viaDr (s_pickA B b _ _ _ [58, -58, 60] _ _ _ (by simp) rfl rfl hs_5 (by decide) (by decide)) ?_
      intro qq u8 hq hq2 hlq
      clear hq hlq
      obtain ⟨W6, hW6⟩ : ∃ X, X = W5.alloc (Obj.cells #[Value.int IntKind.i64 58, Value.int IntKind.i64 (-58), Value.int IntKind.i64 60] 2) := ⟨_, rfl⟩
      have c1_6 : ∀ o, W6.cell? ⟨w.heap.size, o, none⟩ = #[Value.int IntKind.i64 0, Value.int IntKind.i64 0, Value.int IntKind.i64 0, Value.int IntKind.i64 0][o]? := fun o => by rw [hW6, alloc_cell, if_neg (by omega)]; exact c1_5 o
      have f1_6 : ∀ o, W6.frozen? ⟨w.heap.size, o, none⟩ = false := fun o => by rw [hW6, alloc_frozen, if_neg (by omega)]; exact f1_5 o
      have c2_6 : ∀ o, W6.cell? ⟨(w.heap.size + 1), o, none⟩ = #[Value.int IntKind.i64 0, Value.int IntKind.i64 0, Value.int IntKind.i64 0, Value.int IntKind.i64 0][o]? := fun o => by rw [hW6, alloc_cell, if_neg (by omega)]; exact c2_5 o
      have f2_6 : ∀ o, W6.frozen? ⟨(w.heap.size + 1), o, none⟩ = false := fun o => by rw [hW6, alloc_frozen, if_neg (by omega)]; exact f2_5 o
      have cX_6 : ∀ o, W6.cell? ⟨k, o, none⟩ = #[Value.int IntKind.i64 x1, Value.int IntKind.i64 x2, Value.int IntKind.i64 x3, Value.int IntKind.i64 x4][o]? := fun o => by rw [hW6, alloc_cell, if_neg (by omega)]; exact cX_5 o
      have fX_6 : ∀ o, W6.frozen? ⟨k, o, none⟩ = false := fun o => by rw [hW6, alloc_frozen, if_neg (by omega)]; exact fX_5 o
      have cY_6 : ∀ o, W6.cell? ⟨k2, o, none⟩ = #[Value.int IntKind.i64 x1, Value.int IntKind.i64 y2, Value.int IntKind.i64 y3, Value.int IntKind.i64 y4][o]? := fun o => by rw [hW6, alloc_cell, if_neg (by omega)]; exact cY_5 o
      have fY_6 : ∀ o, W6.frozen? ⟨k2, o, none⟩ = false := fun o => by rw [hW6, alloc_frozen, if_neg (by omega)]; exact fY_5 o
      have hG_6 : Hid (Ext w.heap.size w W6) := hid (by rw [hW6]; exact hG_5.out.alloc _)
      have hs_6 : src B b W6 := by rw [hW6]; exact hs_5.alloc _
      have l_6 : k2 < W6.heap.size := by rw [hW6]; simp; omega
      rw [← hW6] at hq2 ⊢
      clear hW6 c1_5 f1_5 c2_5 f2_5 cX_5 fX_5 cY_5 fY_5 hG_5 hs_5 l_5
      obtain ⟨W7, hW7⟩ : ∃ X, X = aftD b W6 u8 := ⟨_, rfl⟩
      have c1_7 : ∀ o, W7.cell? ⟨w.heap.size, o, none⟩ = #[Value.int IntKind.i64 0, Value.int IntKind.i64 0, Value.int IntKind.i64 0, Value.int IntKind.i64 0][o]? := fun o => by rw [hW7, aftD_cell, if_pos (by omega)]; exact c1_6 o
      have f1_7 : ∀ o, W7.frozen? ⟨w.heap.size, o, none⟩ = false := fun o => by rw [hW7, aftD_frozen, if_pos (by omega)]; exact f1_6 o
      have c2_7 : ∀ o, W7.cell? ⟨(w.heap.size + 1), o, none⟩ = #[Value.int IntKind.i64 0, Value.int IntKind.i64 0, Value.int IntKind.i64 0, Value.int IntKind.i64 0][o]? := fun o => by rw [hW7, aftD_cell, if_pos (by omega)]; exact c2_6 o
      have f2_7 : ∀ o, W7.frozen? ⟨(w.heap.size + 1), o, none⟩ = false := fun o => by rw [hW7, aftD_frozen, if_pos (by omega)]; exact f2_6 o
      have cX_7 : ∀ o, W7.cell? ⟨k, o, none⟩ = #[Value.int IntKind.i64 x1, Value.int IntKind.i64 x2, Value.int IntKind.i64 x3, Value.int IntKind.i64 x4][o]? := fun o => by rw [hW7, aftD_cell, if_pos (by omega)]; exact cX_6 o
      have fX_7 : ∀ o, W7.frozen? ⟨k, o, none⟩ = false := fun o => by rw [hW7, aftD_frozen, if_pos (by omega)]; exact fX_6 o
      have cY_7 : ∀ o, W7.cell? ⟨k2, o, none⟩ = #[Value.int IntKind.i64 x1, Value.int IntKind.i64 y2, Value.int IntKind.i64 y3, Value.int IntKind.i64 y4][o]? := fun o => by rw [hW7, aftD_cell, if_pos (by omega)]; exact cY_6 o
      have fY_7 : ∀ o, W7.frozen? ⟨k2, o, none⟩ = false := fun o => by rw [hW7, aftD_frozen, if_pos (by omega)]; exact fY_6 o
      have hG_7 : Hid (Ext w.heap.size w W7) := hid (by rw [hW7]; exact hG_6.out.aftD _ (by omega))
      have hs_7 : src B b W7 := by rw [hW7]; exact hq2
      have l_7 : k2 < W7.heap.size := by rw [hW7]; have := size_aftD b W6 u8; omega
      rw [← hW7]
      clear hq2 hW7 c1_6 f1_6 c2_6 f2_6 cX_6 fX_6 cY_6 fY_6 hG_6 hs_6 l_6
      go_wp2_with fail
      obtain ⟨W8, hW8⟩ : ∃ X, X = W7.setCell ⟨k2, 1, none⟩ (.int .i64 qq) := ⟨_, rfl⟩
      have c1_8 : ∀ o, W8.cell? ⟨w.heap.size, o, none⟩ = #[Value.int IntKind.i64 0, Value.int IntKind.i64 0, Value.int IntKind.i64 0, Value.int IntKind.i64 0][o]? := fun o => by rw [hW8, set_cell, if_neg (by omega)]; exact c1_7 o
      have f1_8 : ∀ o, W8.frozen? ⟨w.heap.size, o, none⟩ = false := fun o => by rw [hW8, World.frozen?_setCell]; exact f1_7 o
      have c2_8 : ∀ o, W8.cell? ⟨(w.heap.size + 1), o, none⟩ = #[Value.int IntKind.i64 0, Value.int IntKind.i64 0, Value.int IntKind.i64 0, Value.int IntKind.i64 0][o]? := fun o => by rw [hW8, set_cell, if_neg (by omega)]; exact c2_7 o
      have f2_8 : ∀ o, W8.frozen? ⟨(w.heap.size + 1), o, none⟩ = false := fun o => by rw [hW8, World.frozen?_setCell]; exact f2_7 o
      have cX_8 : ∀ o, W8.cell? ⟨k, o, none⟩ = #[Value.int IntKind.i64 x1, Value.int IntKind.i64 x2, Value.int IntKind.i64 x3, Value.int IntKind.i64 x4][o]? := fun o => by rw [hW8, set_cell, if_neg (by omega)]; exact cX_7 o
      have fX_8 : ∀ o, W8.frozen? ⟨k, o, none⟩ = false := fun o => by rw [hW8, World.frozen?_setCell]; exact fX_7 o
      have cY_8 : ∀ o, W8.cell? ⟨k2, o, none⟩ = #[Value.int IntKind.i64 x1, Value.int IntKind.i64 qq, Value.int IntKind.i64 y3, Value.int IntKind.i64 y4][o]? := fun o => by rw [hW8]; exact setj_cell cY_7 o
      have fY_8 : ∀ o, W8.frozen? ⟨k2, o, none⟩ = false := fun o => by rw [hW8, World.frozen?_setCell]; exact fY_7 o
      have hG_8 : Hid (Ext w.heap.size w W8) := hid (by rw [hW8]; exact hG_7.out.setCell _ _ _ _ (by omega))
      have hs_8 : src B b W8 := by rw [hW8]; exact src.set hs_7 (by omega) (by omega) _
      have l_8 : k2 < W8.heap.size := by rw [hW8]; simp; omega
      rw [← hW8]
      clear hW8 c1_7 f1_7 c2_7 f2_7 cX_7 fX_7 cY_7 fY_7 hG_7 hs_7 l_7
      have hD : ∀ o, W8.drew.cell? ⟨k, o, none⟩ = #[Value.int IntKind.i64 x1, Value.int IntKind.i64 x2, Value.int IntKind.i64 x3, Value.int IntKind.i64 x4][o]? := cX_8
      have hD2 : ∀ o, W8.drew.cell? ⟨k2, o, none⟩ = #[Value.int IntKind.i64 x1, Value.int IntKind.i64 qq, Value.int IntKind.i64 y3, Value.int IntKind.i64 y4][o]? := cY_8
      have hE1 := cX_8
      have hE2 := cY_8
      (refine wp_region_held_drew (S := (fun w' => (∀ o, w'.cell? ⟨k, o, none⟩ = #[Value.int IntKind.i64 x1, Value.int IntKind.i64 x2, Value.int IntKind.i64 x3, Value.int IntKind.i64 x4][o]?) ∧ (∀ o, w'.cell? ⟨k2, o, none⟩ = #[Value.int IntKind.i64 x1, Value.int IntKind.i64 qq, Value.int IntKind.i64 y3, Value.int IntKind.i64 y4][o]?))) (by kernel_rfl) ?_ (fun hHeld => ?_); focus ((try dsimp only); (first | (refine ⟨fun o => ?_, fun o => ?_⟩ <;> (repeat (with_reducible first | exact hD o | exact hD2 o | exact hE1 o | exact hE2 o | rw [drewC_cell] | exact hHeld.1 o | exact hHeld.2 o | (rw [set_cell, if_neg (by omega)])))) | (intro o; repeat (with_reducible first | exact hD o | exact hHeld o | (rw [aftD_cell, if_pos (by simp; omega)]) | (rw [set_cell, if_neg (by omega)]))))))
      (refine wpAnyH_take (i := 0) (oi := ?ho9) (v := ?hv9) ?hi9 (by kernel_rfl) (by kernel_rfl) (by kernel_rfl) ?hq9 ?hy9 (by assumption) ?hr9; (case hi9 => (simp only [List.getElem?_toArray, List.getElem?_cons_succ, List.getElem?_cons_zero]; first | done | rfl)); (case hq9 => exact fun _ _ _ h => h); (case hy9 => (refine Or.inl ⟨by rfl, ?_⟩; intro w hSw; (try dsimp only at hSw); go_simp; first | done | with_reducible rfl)); (try simp only [Act.put, List.setIfInBounds_toArray, List.set_cons_zero, List.set_cons_succ]))
      (refine wpAnyH_take (i := 1) (oi := ?ho10) (v := ?hv10) ?hi10 (by kernel_rfl) (by kernel_rfl) (by kernel_rfl) ?hq10 ?hy10 (by assumption) ?hr10; (case hi10 => (simp only [List.getElem?_toArray, List.getElem?_cons_succ, List.getElem?_cons_zero]; first | done | rfl)); (case hq10 => exact fun _ _ _ h => h); (case hy10 => (refine Or.inl ⟨by rfl, ?_⟩; intro w hSw; (try dsimp only at hSw); go_simp; first | done | with_reducible rfl)); (try simp only [Act.put, List.setIfInBounds_toArray, List.set_cons_zero, List.set_cons_succ]))
      (refine wpAnyH_ready (rs := [2]) (by decide +kernel) (by simp) ?_; refine AllReadyH.cons (o := ?ho31) ?hi31 (fun K hK => ?hr31) AllReadyH.nil; (case hi31 => (simp only [List.getElem?_toArray, List.getElem?_cons_succ, List.getElem?_cons_zero]; first | done | rfl)))
      (rw [if_pos (by rfl)]; go_wp2_with fail)
      (refine hK.out _ _ ?_ (fun hHeld => ?_); focus ((try dsimp only); (first | (refine ⟨fun o => ?_, fun o => ?_⟩ <;> (repeat (with_reducible first | exact hD o | exact hD2 o | exact hE1 o | exact hE2 o | rw [drewC_cell] | exact hHeld.1 o | exact hHeld.2 o | (rw [set_cell, if_neg (by omega)])))) | (intro o; repeat (with_reducible first | exact hD o | exact hHeld o | (rw [aftD_cell, if_pos (by simp; omega)]) | (rw [set_cell, if_neg (by omega)]))))))
      (clear hK K; (try simp only [Act.put, List.setIfInBounds_toArray, List.set_cons_zero, List.set_cons_succ]))
      (refine wpAnyH_ready (rs := [3]) (by decide +kernel) (by simp) ?_; refine AllReadyH.cons (o := ?ho32) ?hi32 (fun K hK => ?hr32) AllReadyH.nil; (case hi32 => (simp only [List.getElem?_toArray, List.getElem?_cons_succ, List.getElem?_cons_zero]; first | done | rfl)))
      (rw [if_pos (by rfl)]; go_wp2_with fail)
      (refine hK.out _ _ ?_ (fun hHeld => ?_); focus ((try dsimp only); (first | (refine ⟨fun o => ?_, fun o => ?_⟩ <;> (repeat (with_reducible first | exact hD o | exact hD2 o | exact hE1 o | exact hE2 o | rw [drewC_cell] | exact hHeld.1 o | exact hHeld.2 o | (rw [set_cell, if_neg (by omega)])))) | (intro o; repeat (with_reducible first | exact hD o | exact hHeld o | (rw [aftD_cell, if_pos (by simp; omega)]) | (rw [set_cell, if_neg (by omega)]))))))
      (clear hK K; (try simp only [Act.put, List.setIfInBounds_toArray, List.set_cons_zero, List.set_cons_succ]))
      (refine wpAnyH_done (by kernel_rfl) ?_ _)
      go_wp2_with fail
      exact bodyPost_ret (v := .tuple #[.agg #[Value.int IntKind.i64 x1, Value.int IntKind.i64 x2, Value.int IntKind.i64 x3, Value.int IntKind.i64 x4], .agg #[Value.int IntKind.i64 x1, Value.int IntKind.i64 qq, Value.int IntKind.i64 y3, Value.int IntKind.i64 y4]]) (by simp [results, go_sem, ↓IntWalk.iteOmega, c1_8, c2_8]) rfl ⟨⟨x1, x2, x3, x4⟩, ⟨x1, qq, y3, y4⟩, rfl, (by refine Ext.bel ?_; repeat (with_reducible first | exact hG_8.out | apply Ext.aftD | apply Ext.aft | apply Ext.alloc | apply Ext.drew | apply Ext.setCell | exact Nat.le_add_right _ _ | exact Nat.le_refl _ | (simp; done) | (simp; omega) | omega))⟩
    · have t0' : (t == 0) = false := by simpa using t0
      clear t0 ht
      go_wp2_with fail
      have hD : ∀ o, W5.drew.cell? ⟨k, o, none⟩ = #[Value.int IntKind.i64 x1, Value.int IntKind.i64 x2, Value.int IntKind.i64 x3, Value.int IntKind.i64 x4][o]? := cX_5
      have hD2 : ∀ o, W5.drew.cell? ⟨k2, o, none⟩ = #[Value.int IntKind.i64 x1, Value.int IntKind.i64 y2, Value.int IntKind.i64 y3, Value.int IntKind.i64 y4][o]? := cY_5
      have hE1 := cX_5
      have hE2 := cY_5
      (refine wp_region_held_drew (S := (fun w' => (∀ o, w'.cell? ⟨k, o, none⟩ = #[Value.int IntKind.i64 x1, Value.int IntKind.i64 x2, Value.int IntKind.i64 x3, Value.int IntKind.i64 x4][o]?) ∧ (∀ o, w'.cell? ⟨k2, o, none⟩ = #[Value.int IntKind.i64 x1, Value.int IntKind.i64 y2, Value.int IntKind.i64 y3, Value.int IntKind.i64 y4][o]?))) (by kernel_rfl) ?_ (fun hHeld => ?_); focus ((try dsimp only); (first | (refine ⟨fun o => ?_, fun o => ?_⟩ <;> (repeat (with_reducible first | exact hD o | exact hD2 o | exact hE1 o | exact hE2 o | rw [drewC_cell] | exact hHeld.1 o | exact hHeld.2 o | (rw [set_cell, if_neg (by omega)])))) | (intro o; repeat (with_reducible first | exact hD o | exact hHeld o | (rw [aftD_cell, if_pos (by simp; omega)]) | (rw [set_cell, if_neg (by omega)]))))))
      (refine wpAnyH_take (i := 0) (oi := ?ho11) (v := ?hv11) ?hi11 (by kernel_rfl) (by kernel_rfl) (by kernel_rfl) ?hq11 ?hy11 (by assumption) ?hr11; (case hi11 => (simp only [List.getElem?_toArray, List.getElem?_cons_succ, List.getElem?_cons_zero]; first | done | rfl)); (case hq11 => exact fun _ _ _ h => h); (case hy11 => (refine Or.inl ⟨by rfl, ?_⟩; intro w hSw; (try dsimp only at hSw); go_simp; first | done | with_reducible rfl)); (try simp only [Act.put, List.setIfInBounds_toArray, List.set_cons_zero, List.set_cons_succ]))
      (refine wpAnyH_take (i := 1) (oi := ?ho12) (v := ?hv12) ?hi12 (by kernel_rfl) (by kernel_rfl) (by kernel_rfl) ?hq12 ?hy12 (by assumption) ?hr12; (case hi12 => (simp only [List.getElem?_toArray, List.getElem?_cons_succ, List.getElem?_cons_zero]; first | done | rfl)); (case hq12 => exact fun _ _ _ h => h); (case hy12 => (refine Or.inl ⟨by rfl, ?_⟩; intro w hSw; (try dsimp only at hSw); go_simp; first | done | with_reducible rfl)); (try simp only [Act.put, List.setIfInBounds_toArray, List.set_cons_zero, List.set_cons_succ]))
      (refine wpAnyH_ready (rs := [2]) (by decide +kernel) (by simp) ?_; refine AllReadyH.cons (o := ?ho33) ?hi33 (fun K hK => ?hr33) AllReadyH.nil; (case hi33 => (simp only [List.getElem?_toArray, List.getElem?_cons_succ, List.getElem?_cons_zero]; first | done | rfl)))
      (rw [if_pos (by rfl)]; go_wp2_with fail)
      (refine hK.out _ _ ?_ (fun hHeld => ?_); focus ((try dsimp only); (first | (refine ⟨fun o => ?_, fun o => ?_⟩ <;> (repeat (with_reducible first | exact hD o | exact hD2 o | exact hE1 o | exact hE2 o | rw [drewC_cell] | exact hHeld.1 o | exact hHeld.2 o | (rw [set_cell, if_neg (by omega)])))) | (intro o; repeat (with_reducible first | exact hD o | exact hHeld o | (rw [aftD_cell, if_pos (by simp; omega)]) | (rw [set_cell, if_neg (by omega)]))))))
      (clear hK K; (try simp only [Act.put, List.setIfInBounds_toArray, List.set_cons_zero, List.set_cons_succ]))
      (refine wpAnyH_ready (rs := [3]) (by decide +kernel) (by simp) ?_; refine AllReadyH.cons (o := ?ho34) ?hi34 (fun K hK => ?hr34) AllReadyH.nil; (case hi34 => (simp only [List.getElem?_toArray, List.getElem?_cons_succ, List.getElem?_cons_zero]; first | done | rfl)))
      (rw [if_pos (by rfl)]; go_wp2_with fail)
      (refine hK.out _ _ ?_ (fun hHeld => ?_); focus ((try dsimp only); (first | (refine ⟨fun o => ?_, fun o => ?_⟩ <;> (repeat (with_reducible first | exact hD o | exact hD2 o | exact hE1 o | exact hE2 o | rw [drewC_cell] | exact hHeld.1 o | exact hHeld.2 o | (rw [set_cell, if_neg (by omega)])))) | (intro o; repeat (with_reducible first | exact hD o | exact hHeld o | (rw [aftD_cell, if_pos (by simp; omega)]) | (rw [set_cell, if_neg (by omega)]))))))
      (clear hK K; (try simp only [Act.put, List.setIfInBounds_toArray, List.set_cons_zero, List.set_cons_succ]))
      (refine wpAnyH_done (by kernel_rfl) ?_ _)
      go_wp2_with fail
      exact bodyPost_ret (v := .tuple #[.agg #[Value.int IntKind.i64 x1, Value.int IntKind.i64 x2, Value.int IntKind.i64 x3, Value.int IntKind.i64 x4], .agg #[Value.int IntKind.i64 x1, Value.int IntKind.i64 y2, Value.int IntKind.i64 y3, Value.int IntKind.i64 y4]]) (by simp [results, go_sem, ↓IntWalk.iteOmega, c1_5, c2_5]) rfl ⟨⟨x1, x2, x3, x4⟩, ⟨x1, y2, y3, y4⟩, rfl, (by refine Ext.bel ?_; repeat (with_reducible first | exact hG_5.out | apply Ext.aftD | apply Ext.aft | apply Ext.alloc | apply Ext.drew | apply Ext.setCell | exact Nat.le_add_right _ _ | exact Nat.le_refl _ | (simp; done) | (simp; omega) | omega))⟩
  have h4' : decide (1 < x4) = true := by simpa using h4
  go_wp2_with fail
  refine viaDr (s_next B b _ _ hs_4 (by omega)) ?_
  intro z u5 hz hq hlq
  (try dsimp only at hz)
  clear hlq
  obtain ⟨W5, hW5⟩ : ∃ X, X = aftD b W4 u5 := ⟨_, rfl⟩
  have c1_5 : ∀ o, W5.cell? ⟨w.heap.size, o, none⟩ = #[Value.int IntKind.i64 0, Value.int IntKind.i64 0, Value.int IntKind.i64 0, Value.int IntKind.i64 0][o]? := fun o => by rw [hW5, aftD_cell, if_pos (by omega)]; exact c1_4 o
  have f1_5 : ∀ o, W5.frozen? ⟨w.heap.size, o, none⟩ = false := fun o => by rw [hW5, aftD_frozen, if_pos (by omega)]; exact f1_4 o
  have c2_5 : ∀ o, W5.cell? ⟨(w.heap.size + 1), o, none⟩ = #[Value.int IntKind.i64 0, Value.int IntKind.i64 0, Value.int IntKind.i64 0, Value.int IntKind.i64 0][o]? := fun o => by rw [hW5, aftD_cell, if_pos (by omega)]; exact c2_4 o
  have f2_5 : ∀ o, W5.frozen? ⟨(w.heap.size + 1), o, none⟩ = false := fun o => by rw [hW5, aftD_frozen, if_pos (by omega)]; exact f2_4 o
  have cX_5 : ∀ o, W5.cell? ⟨k, o, none⟩ = #[Value.int IntKind.i64 x1, Value.int IntKind.i64 x2, Value.int IntKind.i64 x3, Value.int IntKind.i64 x4][o]? := fun o => by rw [hW5, aftD_cell, if_pos (by omega)]; exact cX_4 o
  have fX_5 : ∀ o, W5.frozen? ⟨k, o, none⟩ = false := fun o => by rw [hW5, aftD_frozen, if_pos (by omega)]; exact fX_4 o
  have cY_5 : ∀ o, W5.cell? ⟨k2, o, none⟩ = #[Value.int IntKind.i64 x1, Value.int IntKind.i64 y2, Value.int IntKind.i64 y3, Value.int IntKind.i64 y4][o]? := fun o => by rw [hW5, aftD_cell, if_pos (by omega)]; exact cY_4 o
  have fY_5 : ∀ o, W5.frozen? ⟨k2, o, none⟩ = false := fun o => by rw [hW5, aftD_frozen, if_pos (by omega)]; exact fY_4 o
  have hG_5 : Hid (Ext w.heap.size w W5) := hid (by rw [hW5]; exact hG_4.out.aftD _ (by omega))
  have hs_5 : src B b W5 := by rw [hW5]; exact hq
  have l_5 : k2 < W5.heap.size := by rw [hW5]; have := size_aftD b W4 u5; omega
  rw [← hW5]
  clear hq hW5 c1_4 f1_4 c2_4 f2_4 cX_4 fX_4 cY_4 fY_4 hG_4 hs_4 l_4
  by_cases z0 : z = 0
  case neg =>
    have z0' : (z == 0) = false := by simpa using z0
    clear z0 hz hbd
    go_wp2_with fail
    refine viaDr (s_next B b _ _ hs_5 (by omega)) ?_
    intro t u7 ht hq hlq
    (try dsimp only at ht)
    clear hlq
    obtain ⟨W6, hW6⟩ : ∃ X, X = aftD b W5 u7 := ⟨_, rfl⟩
    have c1_6 : ∀ o, W6.cell? ⟨w.heap.size, o, none⟩ = #[Value.int IntKind.i64 0, Value.int IntKind.i64 0, Value.int IntKind.i64 0, Value.int IntKind.i64 0][o]? := fun o => by rw [hW6, aftD_cell, if_pos (by omega)]; exact c1_5 o
    have f1_6 : ∀ o, W6.frozen? ⟨w.heap.size, o, none⟩ = false := fun o => by rw [hW6, aftD_frozen, if_pos (by omega)]; exact f1_5 o
    have c2_6 : ∀ o, W6.cell? ⟨(w.heap.size + 1), o, none⟩ = #[Value.int IntKind.i64 0, Value.int IntKind.i64 0, Value.int IntKind.i64 0, Value.int IntKind.i64 0][o]? := fun o => by rw [hW6, aftD_cell, if_pos (by omega)]; exact c2_5 o
    have f2_6 : ∀ o, W6.frozen? ⟨(w.heap.size + 1), o, none⟩ = false := fun o => by rw [hW6, aftD_frozen, if_pos (by omega)]; exact f2_5 o
    have cX_6 : ∀ o, W6.cell? ⟨k, o, none⟩ = #[Value.int IntKind.i64 x1, Value.int IntKind.i64 x2, Value.int IntKind.i64 x3, Value.int IntKind.i64 x4][o]? := fun o => by rw [hW6, aftD_cell, if_pos (by omega)]; exact cX_5 o
    have fX_6 : ∀ o, W6.frozen? ⟨k, o, none⟩ = false := fun o => by rw [hW6, aftD_frozen, if_pos (by omega)]; exact fX_5 o
    have cY_6 : ∀ o, W6.cell? ⟨k2, o, none⟩ = #[Value.int IntKind.i64 x1, Value.int IntKind.i64 y2, Value.int IntKind.i64 y3, Value.int IntKind.i64 y4][o]? := fun o => by rw [hW6, aftD_cell, if_pos (by omega)]; exact cY_5 o
    have fY_6 : ∀ o, W6.frozen? ⟨k2, o, none⟩ = false := fun o => by rw [hW6, aftD_frozen, if_pos (by omega)]; exact fY_5 o
    have hG_6 : Hid (Ext w.heap.size w W6) := hid (by rw [hW6]; exact hG_5.out.aftD _ (by omega))
    have hs_6 : src B b W6 := by rw [hW6]; exact hq
    have l_6 : k2 < W6.heap.size := by rw [hW6]; have := size_aftD b W5 u7; omega
    rw [← hW6]
    clear hq hW6 c1_5 f1_5 c2_5 f2_5 cX_5 fX_5 cY_5 fY_5 hG_5 hs_5 l_5
    by_cases t0 : t = 0
    · subst t0
      clear ht
      go_wp2_with fail
      refine viaDr (s_pickA B b _ _ _ [58, -58, 60] _ _ _ (by simp) rfl rfl hs_6 (by decide) (by decide)) ?_
      intro qq u8 hq hq2 hlq
      clear hq hlq
      obtain ⟨W7, hW7⟩ : ∃ X, X = W6.alloc (Obj.cells #[Value.int IntKind.i64 58, Value.int IntKind.i64 (-58), Value.int IntKind.i64 60] 2) := ⟨_, rfl⟩
      have c1_7 : ∀ o, W7.cell? ⟨w.heap.size, o, none⟩ = #[Value.int IntKind.i64 0, Value.int IntKind.i64 0, Value.int IntKind.i64 0, Value.int IntKind.i64 0][o]? := fun o => by rw [hW7, alloc_cell, if_neg (by omega)]; exact c1_6 o
      have f1_7 : ∀ o, W7.frozen? ⟨w.heap.size, o, none⟩ = false := fun o => by rw [hW7, alloc_frozen, if_neg (by omega)]; exact f1_6 o
      have c2_7 : ∀ o, W7.cell? ⟨(w.heap.size + 1), o, none⟩ = #[Value.int IntKind.i64 0, Value.int IntKind.i64 0, Value.int IntKind.i64 0, Value.int IntKind.i64 0][o]? := fun o => by rw [hW7, alloc_cell, if_neg (by omega)]; exact c2_6 o
      have f2_7 : ∀ o, W7.frozen? ⟨(w.heap.size + 1), o, none⟩ = false := fun o => by rw [hW7, alloc_frozen, if_neg (by omega)]; exact f2_6 o
      have cX_7 : ∀ o, W7.cell? ⟨k, o, none⟩ = #[Value.int IntKind.i64 x1, Value.int IntKind.i64 x2, Value.int IntKind.i64 x3, Value.int IntKind.i64 x4][o]? := fun o => by rw [hW7, alloc_cell, if_neg (by omega)]; exact cX_6 o
      have fX_7 : ∀ o, W7.frozen? ⟨k, o, none⟩ = false := fun o => by rw [hW7, alloc_frozen, if_neg (by omega)]; exact fX_6 o
      have cY_7 : ∀ o, W7.cell? ⟨k2, o, none⟩ = #[Value.int IntKind.i64 x1, Value.int IntKind.i64 y2, Value.int IntKind.i64 y3, Value.int IntKind.i64 y4][o]? := fun o => by rw [hW7, alloc_cell, if_neg (by omega)]; exact cY_6 o
      have fY_7 : ∀ o, W7.frozen? ⟨k2, o, none⟩ = false := fun o => by rw [hW7, alloc_frozen, if_neg (by omega)]; exact fY_6 o
      have hG_7 : Hid (Ext w.heap.size w W7) := hid (by rw [hW7]; exact hG_6.out.alloc _)
      have hs_7 : src B b W7 := by rw [hW7]; exact hs_6.alloc _
      have l_7 : k2 < W7.heap.size := by rw [hW7]; simp; omega
      rw [← hW7] at hq2 ⊢
      clear hW7 c1_6 f1_6 c2_6 f2_6 cX_6 fX_6 cY_6 fY_6 hG_6 hs_6 l_6
      obtain ⟨W8, hW8⟩ : ∃ X, X = aftD b W7 u8 := ⟨_, rfl⟩
      have c1_8 : ∀ o, W8.cell? ⟨w.heap.size, o, none⟩ = #[Value.int IntKind.i64 0, Value.int IntKind.i64 0, Value.int IntKind.i64 0, Value.int IntKind.i64 0][o]? := fun o => by rw [hW8, aftD_cell, if_pos (by omega)]; exact c1_7 o
      have f1_8 : ∀ o, W8.frozen? ⟨w.heap.size, o, none⟩ = false := fun o => by rw [hW8, aftD_frozen, if_pos (by omega)]; exact f1_7 o
      have c2_8 : ∀ o, W8.cell? ⟨(w.heap.size + 1), o, none⟩ = #[Value.int IntKind.i64 0, Value.int IntKind.i64 0, Value.int IntKind.i64 0, Value.int IntKind.i64 0][o]? := fun o => by rw [hW8, aftD_cell, if_pos (by omega)]; exact c2_7 o
      have f2_8 : ∀ o, W8.frozen? ⟨(w.heap.size + 1), o, none⟩ = false := fun o => by rw [hW8, aftD_frozen, if_pos (by omega)]; exact f2_7 o
      have cX_8 : ∀ o, W8.cell? ⟨k, o, none⟩ = #[Value.int IntKind.i64 x1, Value.int IntKind.i64 x2, Value.int IntKind.i64 x3, Value.int IntKind.i64 x4][o]? := fun o => by rw [hW8, aftD_cell, if_pos (by omega)]; exact cX_7 o
      have fX_8 : ∀ o, W8.frozen? ⟨k, o, none⟩ = false := fun o => by rw [hW8, aftD_frozen, if_pos (by omega)]; exact fX_7 o
      have cY_8 : ∀ o, W8.cell? ⟨k2, o, none⟩ = #[Value.int IntKind.i64 x1, Value.int IntKind.i64 y2, Value.int IntKind.i64 y3, Value.int IntKind.i64 y4][o]? := fun o => by rw [hW8, aftD_cell, if_pos (by omega)]; exact cY_7 o
      have fY_8 : ∀ o, W8.frozen? ⟨k2, o, none⟩ = false := fun o => by rw [hW8, aftD_frozen, if_pos (by omega)]; exact fY_7 o
      have hG_8 : Hid (Ext w.heap.size w W8) := hid (by rw [hW8]; exact hG_7.out.aftD _ (by omega))
      have hs_8 : src B b W8 := by rw [hW8]; exact hq2
      have l_8 : k2 < W8.heap.size := by rw [hW8]; have := size_aftD b W7 u8; omega
      rw [← hW8]
      clear hq2 hW8 c1_7 f1_7 c2_7 f2_7 cX_7 fX_7 cY_7 fY_7 hG_7 hs_7 l_7
      go_wp2_with fail
      obtain ⟨W9, hW9⟩ : ∃ X, X = W8.setCell ⟨k2, 1, none⟩ (.int .i64 qq) := ⟨_, rfl⟩
      have c1_9 : ∀ o, W9.cell? ⟨w.heap.size, o, none⟩ = #[Value.int IntKind.i64 0, Value.int IntKind.i64 0, Value.int IntKind.i64 0, Value.int IntKind.i64 0][o]? := fun o => by rw [hW9, set_cell, if_neg (by omega)]; exact c1_8 o
      have f1_9 : ∀ o, W9.frozen? ⟨w.heap.size, o, none⟩ = false := fun o => by rw [hW9, World.frozen?_setCell]; exact f1_8 o
      have c2_9 : ∀ o, W9.cell? ⟨(w.heap.size + 1), o, none⟩ = #[Value.int IntKind.i64 0, Value.int IntKind.i64 0, Value.int IntKind.i64 0, Value.int IntKind.i64 0][o]? := fun o => by rw [hW9, set_cell, if_neg (by omega)]; exact c2_8 o
      have f2_9 : ∀ o, W9.frozen? ⟨(w.heap.size + 1), o, none⟩ = false := fun o => by rw [hW9, World.frozen?_setCell]; exact f2_8 o
      have cX_9 : ∀ o, W9.cell? ⟨k, o, none⟩ = #[Value.int IntKind.i64 x1, Value.int IntKind.i64 x2, Value.int IntKind.i64 x3, Value.int IntKind.i64 x4][o]? := fun o => by rw [hW9, set_cell, if_neg (by omega)]; exact cX_8 o
      have fX_9 : ∀ o, W9.frozen? ⟨k, o, none⟩ = false := fun o => by rw [hW9, World.frozen?_setCell]; exact fX_8 o
      have cY_9 : ∀ o, W9.cell? ⟨k2, o, none⟩ = #[Value.int IntKind.i64 x1, Value.int IntKind.i64 qq, Value.int IntKind.i64 y3, Value.int IntKind.i64 y4][o]? := fun o => by rw [hW9]; exact setj_cell cY_8 o
      have fY_9 : ∀ o, W9.frozen? ⟨k2, o, none⟩ = false := fun o => by rw [hW9, World.frozen?_setCell]; exact fY_8 o
      have hG_9 : Hid (Ext w.heap.size w W9) := hid (by rw [hW9]; exact hG_8.out.setCell _ _ _ _ (by omega))
      have hs_9 : src B b W9 := by rw [hW9]; exact src.set hs_8 (by omega) (by omega) _
      have l_9 : k2 < W9.heap.size := by rw [hW9]; simp; omega
      rw [← hW9]
      clear hW9 c1_8 f1_8 c2_8 f2_8 cX_8 fX_8 cY_8 fY_8 hG_8 hs_8 l_8
      have hD : ∀ o, W9.drew.cell? ⟨k, o, none⟩ = #[Value.int IntKind.i64 x1, Value.int IntKind.i64 x2, Value.int IntKind.i64 x3, Value.int IntKind.i64 x4][o]? := cX_9
      have hD2 : ∀ o, W9.drew.cell? ⟨k2, o, none⟩ = #[Value.int IntKind.i64 x1, Value.int IntKind.i64 qq, Value.int IntKind.i64 y3, Value.int IntKind.i64 y4][o]? := cY_9
      have hE1 := cX_9
      have hE2 := cY_9
      (refine wp_region_held_drew (S := (fun w' => (∀ o, w'.cell? ⟨k, o, none⟩ = #[Value.int IntKind.i64 x1, Value.int IntKind.i64 x2, Value.int IntKind.i64 x3, Value.int IntKind.i64 x4][o]?) ∧ (∀ o, w'.cell? ⟨k2, o, none⟩ = #[Value.int IntKind.i64 x1, Value.int IntKind.i64 qq, Value.int IntKind.i64 y3, Value.int IntKind.i64 y4][o]?))) (by kernel_rfl) ?_ (fun hHeld => ?_); focus ((try dsimp only); (first | (refine ⟨fun o => ?_, fun o => ?_⟩ <;> (repeat (with_reducible first | exact hD o | exact hD2 o | exact hE1 o | exact hE2 o | rw [drewC_cell] | exact hHeld.1 o | exact hHeld.2 o | (rw [set_cell, if_neg (by omega)])))) | (intro o; repeat (with_reducible first | exact hD o | exact hHeld o | (rw [aftD_cell, if_pos (by simp; omega)]) | (rw [set_cell, if_neg (by omega)]))))))
      (refine wpAnyH_take (i := 0) (oi := ?ho13) (v := ?hv13) ?hi13 (by kernel_rfl) (by kernel_rfl) (by kernel_rfl) ?hq13 ?hy13 (by assumption) ?hr13; (case hi13 => (simp only [List.getElem?_toArray, List.getElem?_cons_succ, List.getElem?_cons_zero]; first | done | rfl)); (case hq13 => exact fun _ _ _ h => h); (case hy13 => (refine Or.inl ⟨by rfl, ?_⟩; intro w hSw; (try dsimp only at hSw); go_simp; first | done | with_reducible rfl)); (try simp only [Act.put, List.setIfInBounds_toArray, List.set_cons_zero, List.set_cons_succ]))
      (refine wpAnyH_take (i := 1) (oi := ?ho14) (v := ?hv14) ?hi14 (by kernel_rfl) (by kernel_rfl) (by kernel_rfl) ?hq14 ?hy14 (by assumption) ?hr14; (case hi14 => (simp only [List.getElem?_toArray, List.getElem?_cons_succ, List.getElem?_cons_zero]; first | done | rfl)); (case hq14 => exact fun _ _ _ h => h); (case hy14 => (refine Or.inl ⟨by rfl, ?_⟩; intro w hSw; (try dsimp only at hSw); go_simp; first | done | with_reducible rfl)); (try simp only [Act.put, List.setIfInBounds_toArray, List.set_cons_zero, List.set_cons_succ]))
      (refine wpAnyH_ready (rs := [2]) (by decide +kernel) (by simp) ?_; refine AllReadyH.cons (o := ?ho35) ?hi35 (fun K hK => ?hr35) AllReadyH.nil; (case hi35 => (simp only [List.getElem?_toArray, List.getElem?_cons_succ, List.getElem?_cons_zero]; first | done | rfl)))
      (rw [if_pos (by rfl)]; go_wp2_with fail)
      (refine hK.out _ _ ?_ (fun hHeld => ?_); focus ((try dsimp only); (first | (refine ⟨fun o => ?_, fun o => ?_⟩ <;> (repeat (with_reducible first | exact hD o | exact hD2 o | exact hE1 o | exact hE2 o | rw [drewC_cell] | exact hHeld.1 o | exact hHeld.2 o | (rw [set_cell, if_neg (by omega)])))) | (intro o; repeat (with_reducible first | exact hD o | exact hHeld o | (rw [aftD_cell, if_pos (by simp; omega)]) | (rw [set_cell, if_neg (by omega)]))))))
      (clear hK K; (try simp only [Act.put, List.setIfInBounds_toArray, List.set_cons_zero, List.set_cons_succ]))
      (refine wpAnyH_ready (rs := [3]) (by decide +kernel) (by simp) ?_; refine AllReadyH.cons (o := ?ho36) ?hi36 (fun K hK => ?hr36) AllReadyH.nil; (case hi36 => (simp only [List.getElem?_toArray, List.getElem?_cons_succ, List.getElem?_cons_zero]; first | done | rfl)))
      (rw [if_pos (by rfl)]; go_wp2_with fail)
      (refine hK.out _ _ ?_ (fun hHeld => ?_); focus ((try dsimp only); (first | (refine ⟨fun o => ?_, fun o => ?_⟩ <;> (repeat (with_reducible first | exact hD o | exact hD2 o | exact hE1 o | exact hE2 o | rw [drewC_cell] | exact hHeld.1 o | exact hHeld.2 o | (rw [set_cell, if_neg (by omega)])))) | (intro o; repeat (with_reducible first | exact hD o | exact hHeld o | (rw [aftD_cell, if_pos (by simp; omega)]) | (rw [set_cell, if_neg (by omega)]))))))
      (clear hK K; (try simp only [Act.put, List.setIfInBounds_toArray, List.set_cons_zero, List.set_cons_succ]))
      (refine wpAnyH_done (by kernel_rfl) ?_ _)
      go_wp2_with fail
      exact bodyPost_ret (v := .tuple #[.agg #[Value.int IntKind.i64 x1, Value.int IntKind.i64 x2, Value.int IntKind.i64 x3, Value.int IntKind.i64 x4], .agg #[Value.int IntKind.i64 x1, Value.int IntKind.i64 qq, Value.int IntKind.i64 y3, Value.int IntKind.i64 y4]]) (by simp [results, go_sem, ↓IntWalk.iteOmega, c1_9, c2_9]) rfl ⟨⟨x1, x2, x3, x4⟩, ⟨x1, qq, y3, y4⟩, rfl, (by refine Ext.bel ?_; repeat (with_reducible first | exact hG_9.out | apply Ext.aftD | apply Ext.aft | apply Ext.alloc | apply Ext.drew | apply Ext.setCell | exact Nat.le_add_right _ _ | exact Nat.le_refl _ | (simp; done) | (simp; omega) | omega))⟩
    · have t0' : (t == 0) = false := by simpa using t0
      clear t0 ht
      go_wp2_with fail
      have hD : ∀ o, W6.drew.cell? ⟨k, o, none⟩ = #[Value.int IntKind.i64 x1, Value.int IntKind.i64 x2, Value.int IntKind.i64 x3, Value.int IntKind.i64 x4][o]? := cX_6
      have hD2 : ∀ o, W6.drew.cell? ⟨k2, o, none⟩ = #[Value.int IntKind.i64 x1, Value.int IntKind.i64 y2, Value.int IntKind.i64 y3, Value.int IntKind.i64 y4][o]? := cY_6
      have hE1 := cX_6
      have hE2 := cY_6
      (refine wp_region_held_drew (S := (fun w' => (∀ o, w'.cell? ⟨k, o, none⟩ = #[Value.int IntKind.i64 x1, Value.int IntKind.i64 x2, Value.int IntKind.i64 x3, Value.int IntKind.i64 x4][o]?) ∧ (∀ o, w'.cell? ⟨k2, o, none⟩ = #[Value.int IntKind.i64 x1, Value.int IntKind.i64 y2, Value.int IntKind.i64 y3, Value.int IntKind.i64 y4][o]?))) (by kernel_rfl) ?_ (fun hHeld => ?_); focus ((try dsimp only); (first | (refine ⟨fun o => ?_, fun o => ?_⟩ <;> (repeat (with_reducible first | exact hD o | exact hD2 o | exact hE1 o | exact hE2 o | rw [drewC_cell] | exact hHeld.1 o | exact hHeld.2 o | (rw [set_cell, if_neg (by omega)])))) | (intro o; repeat (with_reducible first | exact hD o | exact hHeld o | (rw [aftD_cell, if_pos (by simp; omega)]) | (rw [set_cell, if_neg (by omega)]))))))
      (refine wpAnyH_take (i := 0) (oi := ?ho15) (v := ?hv15) ?hi15 (by kernel_rfl) (by kernel_rfl) (by kernel_rfl) ?hq15 ?hy15 (by assumption) ?hr15; (case hi15 => (simp only [List.getElem?_toArray, List.getElem?_cons_succ, List.getElem?_cons_zero]; first | done | rfl)); (case hq15 => exact fun _ _ _ h => h); (case hy15 => (refine Or.inl ⟨by rfl, ?_⟩; intro w hSw; (try dsimp only at hSw); go_simp; first | done | with_reducible rfl)); (try simp only [Act.put, List.setIfInBounds_toArray, List.set_cons_zero, List.set_cons_succ]))
      (refine wpAnyH_take (i := 1) (oi := ?ho16) (v := ?hv16) ?hi16 (by kernel_rfl) (by kernel_rfl) (by kernel_rfl) ?hq16 ?hy16 (by assumption) ?hr16; (case hi16 => (simp only [List.getElem?_toArray, List.getElem?_cons_succ, List.getElem?_cons_zero]; first | done | rfl)); (case hq16 => exact fun _ _ _ h => h); (case hy16 => (refine Or.inl ⟨by rfl, ?_⟩; intro w hSw; (try dsimp only at hSw); go_simp; first | done | with_reducible rfl)); (try simp only [Act.put, List.setIfInBounds_toArray, List.set_cons_zero, List.set_cons_succ]))
      (refine wpAnyH_ready (rs := [2]) (by decide +kernel) (by simp) ?_; refine AllReadyH.cons (o := ?ho37) ?hi37 (fun K hK => ?hr37) AllReadyH.nil; (case hi37 => (simp only [List.getElem?_toArray, List.getElem?_cons_succ, List.getElem?_cons_zero]; first | done | rfl)))
      (rw [if_pos (by rfl)]; go_wp2_with fail)
      (refine hK.out _ _ ?_ (fun hHeld => ?_); focus ((try dsimp only); (first | (refine ⟨fun o => ?_, fun o => ?_⟩ <;> (repeat (with_reducible first | exact hD o | exact hD2 o | exact hE1 o | exact hE2 o | rw [drewC_cell] | exact hHeld.1 o | exact hHeld.2 o | (rw [set_cell, if_neg (by omega)])))) | (intro o; repeat (with_reducible first | exact hD o | exact hHeld o | (rw [aftD_cell, if_pos (by simp; omega)]) | (rw [set_cell, if_neg (by omega)]))))))
      (clear hK K; (try simp only [Act.put, List.setIfInBounds_toArray, List.set_cons_zero, List.set_cons_succ]))
      (refine wpAnyH_ready (rs := [3]) (by decide +kernel) (by simp) ?_; refine AllReadyH.cons (o := ?ho38) ?hi38 (fun K hK => ?hr38) AllReadyH.nil; (case hi38 => (simp only [List.getElem?_toArray, List.getElem?_cons_succ, List.getElem?_cons_zero]; first | done | rfl)))
      (rw [if_pos (by rfl)]; go_wp2_with fail)
      (refine hK.out _ _ ?_ (fun hHeld => ?_); focus ((try dsimp only); (first | (refine ⟨fun o => ?_, fun o => ?_⟩ <;> (repeat (with_reducible first | exact hD o | exact hD2 o | exact hE1 o | exact hE2 o | rw [drewC_cell] | exact hHeld.1 o | exact hHeld.2 o | (rw [set_cell, if_neg (by omega)])))) | (intro o; repeat (with_reducible first | exact hD o | exact hHeld o | (rw [aftD_cell, if_pos (by simp; omega)]) | (rw [set_cell, if_neg (by omega)]))))))
      (clear hK K; (try simp only [Act.put, List.setIfInBounds_toArray, List.set_cons_zero, List.set_cons_succ]))
      (refine wpAnyH_done (by kernel_rfl) ?_ _)
      go_wp2_with fail
      exact bodyPost_ret (v := .tuple #[.agg #[Value.int IntKind.i64 x1, Value.int IntKind.i64 x2, Value.int IntKind.i64 x3, Value.int IntKind.i64 x4], .agg #[Value.int IntKind.i64 x1, Value.int IntKind.i64 y2, Value.int IntKind.i64 y3, Value.int IntKind.i64 y4]]) (by simp [results, go_sem, ↓IntWalk.iteOmega, c1_6, c2_6]) rfl ⟨⟨x1, x2, x3, x4⟩, ⟨x1, y2, y3, y4⟩, rfl, (by refine Ext.bel ?_; repeat (with_reducible first | exact hG_6.out | apply Ext.aftD | apply Ext.aft | apply Ext.alloc | apply Ext.drew | apply Ext.setCell | exact Nat.le_add_right _ _ | exact Nat.le_refl _ | (simp; done) | (simp; omega) | omega))⟩
  subst z0
  clear hz
  go_wp2_with fail
  refine via (s_negate _ _ _ _ _ hpx) ?_
  intro u6 z6
  clear z6
  obtain ⟨W6, hW6⟩ : ∃ X, X = aft W5 u6 := ⟨_, rfl⟩
  have c1_6 : ∀ o, W6.cell? ⟨w.heap.size, o, none⟩ = #[Value.int IntKind.i64 0, Value.int IntKind.i64 0, Value.int IntKind.i64 0, Value.int IntKind.i64 0][o]? := fun o => by rw [hW6, aft_cell, if_pos (by omega)]; exact c1_5 o
  have f1_6 : ∀ o, W6.frozen? ⟨w.heap.size, o, none⟩ = false := fun o => by rw [hW6, aft_frozen, if_pos (by omega)]; exact f1_5 o
  have c2_6 : ∀ o, W6.cell? ⟨(w.heap.size + 1), o, none⟩ = #[Value.int IntKind.i64 0, Value.int IntKind.i64 0, Value.int IntKind.i64 0, Value.int IntKind.i64 0][o]? := fun o => by rw [hW6, aft_cell, if_pos (by omega)]; exact c2_5 o
  have f2_6 : ∀ o, W6.frozen? ⟨(w.heap.size + 1), o, none⟩ = false := fun o => by rw [hW6, aft_frozen, if_pos (by omega)]; exact f2_5 o
  have cX_6 : ∀ o, W6.cell? ⟨k, o, none⟩ = #[Value.int IntKind.i64 x1, Value.int IntKind.i64 x2, Value.int IntKind.i64 x3, Value.int IntKind.i64 x4][o]? := fun o => by rw [hW6, aft_cell, if_pos (by omega)]; exact cX_5 o
  have fX_6 : ∀ o, W6.frozen? ⟨k, o, none⟩ = false := fun o => by rw [hW6, aft_frozen, if_pos (by omega)]; exact fX_5 o
  have cY_6 : ∀ o, W6.cell? ⟨k2, o, none⟩ = #[Value.int IntKind.i64 x1, Value.int IntKind.i64 y2, Value.int IntKind.i64 y3, Value.int IntKind.i64 y4][o]? := fun o => by rw [hW6, aft_cell, if_pos (by omega)]; exact cY_5 o
  have fY_6 : ∀ o, W6.frozen? ⟨k2, o, none⟩ = false := fun o => by rw [hW6, aft_frozen, if_pos (by omega)]; exact fY_5 o
  have hG_6 : Hid (Ext w.heap.size w W6) := hid (by rw [hW6]; exact hG_5.out.aft _)
  have hs_6 : src B b W6 := by rw [hW6]; exact hs_5.aft _
  have l_6 : k2 < W6.heap.size := by rw [hW6]; have := size_aft W5 u6; omega
  rw [← hW6]
  clear hW6 c1_5 f1_5 c2_5 f2_5 cX_5 fX_5 cY_5 fY_5 hG_5 hs_5 l_5
  obtain ⟨g, hg⟩ : ∃ g, g = ngF x1 x3 x4 := ⟨_, rfl⟩
  rw [← hg]
  clear hg hpx hp2
  go_wp2_with fail
  obtain ⟨W7, hW7⟩ : ∃ X, X = W6.setCell ⟨k2, 0, none⟩ (.int .i64 x1) := ⟨_, rfl⟩
  have c1_7 : ∀ o, W7.cell? ⟨w.heap.size, o, none⟩ = #[Value.int IntKind.i64 0, Value.int IntKind.i64 0, Value.int IntKind.i64 0, Value.int IntKind.i64 0][o]? := fun o => by rw [hW7, set_cell, if_neg (by omega)]; exact c1_6 o
  have f1_7 : ∀ o, W7.frozen? ⟨w.heap.size, o, none⟩ = false := fun o => by rw [hW7, World.frozen?_setCell]; exact f1_6 o
  have c2_7 : ∀ o, W7.cell? ⟨(w.heap.size + 1), o, none⟩ = #[Value.int IntKind.i64 0, Value.int IntKind.i64 0, Value.int IntKind.i64 0, Value.int IntKind.i64 0][o]? := fun o => by rw [hW7, set_cell, if_neg (by omega)]; exact c2_6 o
  have f2_7 : ∀ o, W7.frozen? ⟨(w.heap.size + 1), o, none⟩ = false := fun o => by rw [hW7, World.frozen?_setCell]; exact f2_6 o
  have cX_7 : ∀ o, W7.cell? ⟨k, o, none⟩ = #[Value.int IntKind.i64 x1, Value.int IntKind.i64 x2, Value.int IntKind.i64 x3, Value.int IntKind.i64 x4][o]? := fun o => by rw [hW7, set_cell, if_neg (by omega)]; exact cX_6 o
  have fX_7 : ∀ o, W7.frozen? ⟨k, o, none⟩ = false := fun o => by rw [hW7, World.frozen?_setCell]; exact fX_6 o
  have cY_7 : ∀ o, W7.cell? ⟨k2, o, none⟩ = #[Value.int IntKind.i64 x1, Value.int IntKind.i64 y2, Value.int IntKind.i64 y3, Value.int IntKind.i64 y4][o]? := fun o => by rw [hW7]; exact setj_cell cY_6 o
  have fY_7 : ∀ o, W7.frozen? ⟨k2, o, none⟩ = false := fun o => by rw [hW7, World.frozen?_setCell]; exact fY_6 o
  have hG_7 : Hid (Ext w.heap.size w W7) := hid (by rw [hW7]; exact hG_6.out.setCell _ _ _ _ (by omega))
  have hs_7 : src B b W7 := by rw [hW7]; exact src.set hs_6 (by omega) (by omega) _
  have l_7 : k2 < W7.heap.size := by rw [hW7]; simp; omega
  rw [← hW7]
  clear hW7 c1_6 f1_6 c2_6 f2_6 cX_6 fX_6 cY_6 fY_6 hG_6 hs_6 l_6
  obtain ⟨W8, hW8⟩ : ∃ X, X = W7.setCell ⟨k2, 1, none⟩ (.int .i64 x2) := ⟨_, rfl⟩
  have c1_8 : ∀ o, W8.cell? ⟨w.heap.size, o, none⟩ = #[Value.int IntKind.i64 0, Value.int IntKind.i64 0, Value.int IntKind.i64 0, Value.int IntKind.i64 0][o]? := fun o => by rw [hW8, set_cell, if_neg (by omega)]; exact c1_7 o
  have f1_8 : ∀ o, W8.frozen? ⟨w.heap.size, o, none⟩ = false := fun o => by rw [hW8, World.frozen?_setCell]; exact f1_7 o
  have c2_8 : ∀ o, W8.cell? ⟨(w.heap.size + 1), o, none⟩ = #[Value.int IntKind.i64 0, Value.int IntKind.i64 0, Value.int IntKind.i64 0, Value.int IntKind.i64 0][o]? := fun o => by rw [hW8, set_cell, if_neg (by omega)]; exact c2_7 o
  have f2_8 : ∀ o, W8.frozen? ⟨(w.heap.size + 1), o, none⟩ = false := fun o => by rw [hW8, World.frozen?_setCell]; exact f2_7 o
  have cX_8 : ∀ o, W8.cell? ⟨k, o, none⟩ = #[Value.int IntKind.i64 x1, Value.int IntKind.i64 x2, Value.int IntKind.i64 x3, Value.int IntKind.i64 x4][o]? := fun o => by rw [hW8, set_cell, if_neg (by omega)]; exact cX_7 o
  have fX_8 : ∀ o, W8.frozen? ⟨k, o, none⟩ = false := fun o => by rw [hW8, World.frozen?_setCell]; exact fX_7 o
  have cY_8 : ∀ o, W8.cell? ⟨k2, o, none⟩ = #[Value.int IntKind.i64 x1, Value.int IntKind.i64 x2, Value.int IntKind.i64 y3, Value.int IntKind.i64 y4][o]? := fun o => by rw [hW8]; exact setj_cell cY_7 o
  have fY_8 : ∀ o, W8.frozen? ⟨k2, o, none⟩ = false := fun o => by rw [hW8, World.frozen?_setCell]; exact fY_7 o
  have hG_8 : Hid (Ext w.heap.size w W8) := hid (by rw [hW8]; exact hG_7.out.setCell _ _ _ _ (by omega))
  have hs_8 : src B b W8 := by rw [hW8]; exact src.set hs_7 (by omega) (by omega) _
  have l_8 : k2 < W8.heap.size := by rw [hW8]; simp; omega
  rw [← hW8]
  clear hW8 c1_7 f1_7 c2_7 f2_7 cX_7 fX_7 cY_7 fY_7 hG_7 hs_7 l_7
  obtain ⟨W9, hW9⟩ : ∃ X, X = W8.setCell ⟨k2, 2, none⟩ (.int .i64 g) := ⟨_, rfl⟩
  have c1_9 : ∀ o, W9.cell? ⟨w.heap.size, o, none⟩ = #[Value.int IntKind.i64 0, Value.int IntKind.i64 0, Value.int IntKind.i64 0, Value.int IntKind.i64 0][o]? := fun o => by rw [hW9, set_cell, if_neg (by omega)]; exact c1_8 o
  have f1_9 : ∀ o, W9.frozen? ⟨w.heap.size, o, none⟩ = false := fun o => by rw [hW9, World.frozen?_setCell]; exact f1_8 o
  have c2_9 : ∀ o, W9.cell? ⟨(w.heap.size + 1), o, none⟩ = #[Value.int IntKind.i64 0, Value.int IntKind.i64 0, Value.int IntKind.i64 0, Value.int IntKind.i64 0][o]? := fun o => by rw [hW9, set_cell, if_neg (by omega)]; exact c2_8 o
  have f2_9 : ∀ o, W9.frozen? ⟨(w.heap.size + 1), o, none⟩ = false := fun o => by rw [hW9, World.frozen?_setCell]; exact f2_8 o
  have cX_9 : ∀ o, W9.cell? ⟨k, o, none⟩ = #[Value.int IntKind.i64 x1, Value.int IntKind.i64 x2, Value.int IntKind.i64 x3, Value.int IntKind.i64 x4][o]? := fun o => by rw [hW9, set_cell, if_neg (by omega)]; exact cX_8 o
  have fX_9 : ∀ o, W9.frozen? ⟨k, o, none⟩ = false := fun o => by rw [hW9, World.frozen?_setCell]; exact fX_8 o
  have cY_9 : ∀ o, W9.cell? ⟨k2, o, none⟩ = #[Value.int IntKind.i64 x1, Value.int IntKind.i64 x2, Value.int IntKind.i64 g, Value.int IntKind.i64 y4][o]? := fun o => by rw [hW9]; exact setj_cell cY_8 o
  have fY_9 : ∀ o, W9.frozen? ⟨k2, o, none⟩ = false := fun o => by rw [hW9, World.frozen?_setCell]; exact fY_8 o
  have hG_9 : Hid (Ext w.heap.size w W9) := hid (by rw [hW9]; exact hG_8.out.setCell _ _ _ _ (by omega))
  have hs_9 : src B b W9 := by rw [hW9]; exact src.set hs_8 (by omega) (by omega) _
  have l_9 : k2 < W9.heap.size := by rw [hW9]; simp; omega
  rw [← hW9]
  clear hW9 c1_8 f1_8 c2_8 f2_8 cX_8 fX_8 cY_8 fY_8 hG_8 hs_8 l_8
  obtain ⟨W10, hW10⟩ : ∃ X, X = W9.setCell ⟨k2, 3, none⟩ (.int .i64 x4) := ⟨_, rfl⟩
  have c1_10 : ∀ o, W10.cell? ⟨w.heap.size, o, none⟩ = #[Value.int IntKind.i64 0, Value.int IntKind.i64 0, Value.int IntKind.i64 0, Value.int IntKind.i64 0][o]? := fun o => by rw [hW10, set_cell, if_neg (by omega)]; exact c1_9 o
  have f1_10 : ∀ o, W10.frozen? ⟨w.heap.size, o, none⟩ = false := fun o => by rw [hW10, World.frozen?_setCell]; exact f1_9 o
  have c2_10 : ∀ o, W10.cell? ⟨(w.heap.size + 1), o, none⟩ = #[Value.int IntKind.i64 0, Value.int IntKind.i64 0, Value.int IntKind.i64 0, Value.int IntKind.i64 0][o]? := fun o => by rw [hW10, set_cell, if_neg (by omega)]; exact c2_9 o
  have f2_10 : ∀ o, W10.frozen? ⟨(w.heap.size + 1), o, none⟩ = false := fun o => by rw [hW10, World.frozen?_setCell]; exact f2_9 o
  have cX_10 : ∀ o, W10.cell? ⟨k, o, none⟩ = #[Value.int IntKind.i64 x1, Value.int IntKind.i64 x2, Value.int IntKind.i64 x3, Value.int IntKind.i64 x4][o]? := fun o => by rw [hW10, set_cell, if_neg (by omega)]; exact cX_9 o
  have fX_10 : ∀ o, W10.frozen? ⟨k, o, none⟩ = false := fun o => by rw [hW10, World.frozen?_setCell]; exact fX_9 o
  have cY_10 : ∀ o, W10.cell? ⟨k2, o, none⟩ = #[Value.int IntKind.i64 x1, Value.int IntKind.i64 x2, Value.int IntKind.i64 g, Value.int IntKind.i64 x4][o]? := fun o => by rw [hW10]; exact setj_cell cY_9 o
  have fY_10 : ∀ o, W10.frozen? ⟨k2, o, none⟩ = false := fun o => by rw [hW10, World.frozen?_setCell]; exact fY_9 o
  have hG_10 : Hid (Ext w.heap.size w W10) := hid (by rw [hW10]; exact hG_9.out.setCell _ _ _ _ (by omega))
  have hs_10 : src B b W10 := by rw [hW10]; exact src.set hs_9 (by omega) (by omega) _
  have l_10 : k2 < W10.heap.size := by rw [hW10]; simp; omega
  rw [← hW10]
  clear hW10 c1_9 f1_9 c2_9 f2_9 cX_9 fX_9 cY_9 fY_9 hG_9 hs_9 l_9
  refine viaDr (s_next B b _ _ hs_10 (by omega)) ?_
  intro q u9 hq hq hlq
  (try dsimp only at hq)
  clear hlq
  obtain ⟨W11, hW11⟩ : ∃ X, X = aftD b W10 u9 := ⟨_, rfl⟩
  have c1_11 : ∀ o, W11.cell? ⟨w.heap.size, o, none⟩ = #[Value.int IntKind.i64 0, Value.int IntKind.i64 0, Value.int IntKind.i64 0, Value.int IntKind.i64 0][o]? := fun o => by rw [hW11, aftD_cell, if_pos (by omega)]; exact c1_10 o
  have f1_11 : ∀ o, W11.frozen? ⟨w.heap.size, o, none⟩ = false := fun o => by rw [hW11, aftD_frozen, if_pos (by omega)]; exact f1_10 o
  have c2_11 : ∀ o, W11.cell? ⟨(w.heap.size + 1), o, none⟩ = #[Value.int IntKind.i64 0, Value.int IntKind.i64 0, Value.int IntKind.i64 0, Value.int IntKind.i64 0][o]? := fun o => by rw [hW11, aftD_cell, if_pos (by omega)]; exact c2_10 o
  have f2_11 : ∀ o, W11.frozen? ⟨(w.heap.size + 1), o, none⟩ = false := fun o => by rw [hW11, aftD_frozen, if_pos (by omega)]; exact f2_10 o
  have cX_11 : ∀ o, W11.cell? ⟨k, o, none⟩ = #[Value.int IntKind.i64 x1, Value.int IntKind.i64 x2, Value.int IntKind.i64 x3, Value.int IntKind.i64 x4][o]? := fun o => by rw [hW11, aftD_cell, if_pos (by omega)]; exact cX_10 o
  have fX_11 : ∀ o, W11.frozen? ⟨k, o, none⟩ = false := fun o => by rw [hW11, aftD_frozen, if_pos (by omega)]; exact fX_10 o
  have cY_11 : ∀ o, W11.cell? ⟨k2, o, none⟩ = #[Value.int IntKind.i64 x1, Value.int IntKind.i64 x2, Value.int IntKind.i64 g, Value.int IntKind.i64 x4][o]? := fun o => by rw [hW11, aftD_cell, if_pos (by omega)]; exact cY_10 o
  have fY_11 : ∀ o, W11.frozen? ⟨k2, o, none⟩ = false := fun o => by rw [hW11, aftD_frozen, if_pos (by omega)]; exact fY_10 o
  have hG_11 : Hid (Ext w.heap.size w W11) := hid (by rw [hW11]; exact hG_10.out.aftD _ (by omega))
  have hs_11 : src B b W11 := by rw [hW11]; exact hq
  have l_11 : k2 < W11.heap.size := by rw [hW11]; have := size_aftD b W10 u9; omega
  rw [← hW11]
  clear hq hW11 c1_10 f1_10 c2_10 f2_10 cX_10 fX_10 cY_10 fY_10 hG_10 hs_10 l_10
  obtain ⟨hm1, hm2⟩ := modu_leD (p := x1) (n := x4) (m := 1 + q) (by omega) (by omega) hbd
  clear hbd
  have gq : 1 + q ≤ 100 ∧ 1 ≤ 1 + q := by omega
  go_wp2_with fail
  obtain ⟨W12, hW12⟩ : ∃ X, X = W11.setCell ⟨k2, 3, none⟩ (.int .i64 (1 + q)) := ⟨_, rfl⟩
  have c1_12 : ∀ o, W12.cell? ⟨w.heap.size, o, none⟩ = #[Value.int IntKind.i64 0, Value.int IntKind.i64 0, Value.int IntKind.i64 0, Value.int IntKind.i64 0][o]? := fun o => by rw [hW12, set_cell, if_neg (by omega)]; exact c1_11 o
  have f1_12 : ∀ o, W12.frozen? ⟨w.heap.size, o, none⟩ = false := fun o => by rw [hW12, World.frozen?_setCell]; exact f1_11 o
  have c2_12 : ∀ o, W12.cell? ⟨(w.heap.size + 1), o, none⟩ = #[Value.int IntKind.i64 0, Value.int IntKind.i64 0, Value.int IntKind.i64 0, Value.int IntKind.i64 0][o]? := fun o => by rw [hW12, set_cell, if_neg (by omega)]; exact c2_11 o
  have f2_12 : ∀ o, W12.frozen? ⟨(w.heap.size + 1), o, none⟩ = false := fun o => by rw [hW12, World.frozen?_setCell]; exact f2_11 o
  have cX_12 : ∀ o, W12.cell? ⟨k, o, none⟩ = #[Value.int IntKind.i64 x1, Value.int IntKind.i64 x2, Value.int IntKind.i64 x3, Value.int IntKind.i64 x4][o]? := fun o => by rw [hW12, set_cell, if_neg (by omega)]; exact cX_11 o
  have fX_12 : ∀ o, W12.frozen? ⟨k, o, none⟩ = false := fun o => by rw [hW12, World.frozen?_setCell]; exact fX_11 o
  have cY_12 : ∀ o, W12.cell? ⟨k2, o, none⟩ = #[Value.int IntKind.i64 x1, Value.int IntKind.i64 x2, Value.int IntKind.i64 g, Value.int IntKind.i64 (1 + q)][o]? := fun o => by rw [hW12]; exact setj_cell cY_11 o
  have fY_12 : ∀ o, W12.frozen? ⟨k2, o, none⟩ = false := fun o => by rw [hW12, World.frozen?_setCell]; exact fY_11 o
  have hG_12 : Hid (Ext w.heap.size w W12) := hid (by rw [hW12]; exact hG_11.out.setCell _ _ _ _ (by omega))
  have hs_12 : src B b W12 := by rw [hW12]; exact src.set hs_11 (by omega) (by omega) _
  have l_12 : k2 < W12.heap.size := by rw [hW12]; simp; omega
  rw [← hW12]
  clear hW12 c1_11 f1_11 c2_11 f2_11 cX_11 fX_11 cY_11 fY_11 hG_11 hs_11 l_11
  refine wp_region_calm_tail 9 (by kernel_rfl) (by kernel_rfl) ?_
  simp only [List.take_succ_cons, List.take_zero, List.drop_succ_cons, List.drop_zero]
  repeat (go_big_quiet_step (first | (go_at_call 50; exact calmp (s_modulus _ _ _ (by omega) (by omega) (by omega)))))
  refine wpQuiet_nil ?_; intro uq zq; try simp at zq
  go_wp2_with fail
  obtain ⟨g2, hg2⟩ : ∃ y, y = g.tmod (modu x1 (1 + q)) := ⟨_, rfl⟩
  rw [← hg2]
  clear hg2 hm1 hm2
  obtain ⟨W13, hW13⟩ : ∃ X, X = aft W12 uq := ⟨_, rfl⟩
  have c1_13 : ∀ o, W13.cell? ⟨w.heap.size, o, none⟩ = #[Value.int IntKind.i64 0, Value.int IntKind.i64 0, Value.int IntKind.i64 0, Value.int IntKind.i64 0][o]? := fun o => by rw [hW13, aft_cell, if_pos (by omega)]; exact c1_12 o
  have f1_13 : ∀ o, W13.frozen? ⟨w.heap.size, o, none⟩ = false := fun o => by rw [hW13, aft_frozen, if_pos (by omega)]; exact f1_12 o
  have c2_13 : ∀ o, W13.cell? ⟨(w.heap.size + 1), o, none⟩ = #[Value.int IntKind.i64 0, Value.int IntKind.i64 0, Value.int IntKind.i64 0, Value.int IntKind.i64 0][o]? := fun o => by rw [hW13, aft_cell, if_pos (by omega)]; exact c2_12 o
  have f2_13 : ∀ o, W13.frozen? ⟨(w.heap.size + 1), o, none⟩ = false := fun o => by rw [hW13, aft_frozen, if_pos (by omega)]; exact f2_12 o
  have cX_13 : ∀ o, W13.cell? ⟨k, o, none⟩ = #[Value.int IntKind.i64 x1, Value.int IntKind.i64 x2, Value.int IntKind.i64 x3, Value.int IntKind.i64 x4][o]? := fun o => by rw [hW13, aft_cell, if_pos (by omega)]; exact cX_12 o
  have fX_13 : ∀ o, W13.frozen? ⟨k, o, none⟩ = false := fun o => by rw [hW13, aft_frozen, if_pos (by omega)]; exact fX_12 o
  have cY_13 : ∀ o, W13.cell? ⟨k2, o, none⟩ = #[Value.int IntKind.i64 x1, Value.int IntKind.i64 x2, Value.int IntKind.i64 g, Value.int IntKind.i64 (1 + q)][o]? := fun o => by rw [hW13, aft_cell, if_pos (by omega)]; exact cY_12 o
  have fY_13 : ∀ o, W13.frozen? ⟨k2, o, none⟩ = false := fun o => by rw [hW13, aft_frozen, if_pos (by omega)]; exact fY_12 o
  have hG_13 : Hid (Ext w.heap.size w W13) := hid (by rw [hW13]; exact hG_12.out.aft _)
  have hs_13 : src B b W13 := by rw [hW13]; exact hs_12.aft _
  have l_13 : k2 < W13.heap.size := by rw [hW13]; have := size_aft W12 uq; omega
  rw [← hW13]
  clear hW13 c1_12 f1_12 c2_12 f2_12 cX_12 fX_12 cY_12 fY_12 hG_12 hs_12 l_12
  obtain ⟨W14, hW14⟩ : ∃ X, X = W13.setCell ⟨k2, 2, none⟩ (.int .i64 g2) := ⟨_, rfl⟩
  have c1_14 : ∀ o, W14.cell? ⟨w.heap.size, o, none⟩ = #[Value.int IntKind.i64 0, Value.int IntKind.i64 0, Value.int IntKind.i64 0, Value.int IntKind.i64 0][o]? := fun o => by rw [hW14, set_cell, if_neg (by omega)]; exact c1_13 o
  have f1_14 : ∀ o, W14.frozen? ⟨w.heap.size, o, none⟩ = false := fun o => by rw [hW14, World.frozen?_setCell]; exact f1_13 o
  have c2_14 : ∀ o, W14.cell? ⟨(w.heap.size + 1), o, none⟩ = #[Value.int IntKind.i64 0, Value.int IntKind.i64 0, Value.int IntKind.i64 0, Value.int IntKind.i64 0][o]? := fun o => by rw [hW14, set_cell, if_neg (by omega)]; exact c2_13 o
  have f2_14 : ∀ o, W14.frozen? ⟨(w.heap.size + 1), o, none⟩ = false := fun o => by rw [hW14, World.frozen?_setCell]; exact f2_13 o
  have cX_14 : ∀ o, W14.cell? ⟨k, o, none⟩ = #[Value.int IntKind.i64 x1, Value.int IntKind.i64 x2, Value.int IntKind.i64 x3, Value.int IntKind.i64 x4][o]? := fun o => by rw [hW14, set_cell, if_neg (by omega)]; exact cX_13 o
  have fX_14 : ∀ o, W14.frozen? ⟨k, o, none⟩ = false := fun o => by rw [hW14, World.frozen?_setCell]; exact fX_13 o
  have cY_14 : ∀ o, W14.cell? ⟨k2, o, none⟩ = #[Value.int IntKind.i64 x1, Value.int IntKind.i64 x2, Value.int IntKind.i64 g2, Value.int IntKind.i64 (1 + q)][o]? := fun o => by rw [hW14]; exact setj_cell cY_13 o
  have fY_14 : ∀ o, W14.frozen? ⟨k2, o, none⟩ = false := fun o => by rw [hW14, World.frozen?_setCell]; exact fY_13 o
  have hG_14 : Hid (Ext w.heap.size w W14) := hid (by rw [hW14]; exact hG_13.out.setCell _ _ _ _ (by omega))
  have hs_14 : src B b W14 := by rw [hW14]; exact src.set hs_13 (by omega) (by omega) _
  have l_14 : k2 < W14.heap.size := by rw [hW14]; simp; omega
  rw [← hW14]
  clear hW14 c1_13 f1_13 c2_13 f2_13 cX_13 fX_13 cY_13 fY_13 hG_13 hs_13 l_13
  refine viaDr (s_next B b _ _ hs_14 (by omega)) ?_
  intro t u7 ht hq hlq
  (try dsimp only at ht)
  clear hlq
  obtain ⟨W15, hW15⟩ : ∃ X, X = aftD b W14 u7 := ⟨_, rfl⟩
  have c1_15 : ∀ o, W15.cell? ⟨w.heap.size, o, none⟩ = #[Value.int IntKind.i64 0, Value.int IntKind.i64 0, Value.int IntKind.i64 0, Value.int IntKind.i64 0][o]? := fun o => by rw [hW15, aftD_cell, if_pos (by omega)]; exact c1_14 o
  have f1_15 : ∀ o, W15.frozen? ⟨w.heap.size, o, none⟩ = false := fun o => by rw [hW15, aftD_frozen, if_pos (by omega)]; exact f1_14 o
  have c2_15 : ∀ o, W15.cell? ⟨(w.heap.size + 1), o, none⟩ = #[Value.int IntKind.i64 0, Value.int IntKind.i64 0, Value.int IntKind.i64 0, Value.int IntKind.i64 0][o]? := fun o => by rw [hW15, aftD_cell, if_pos (by omega)]; exact c2_14 o
  have f2_15 : ∀ o, W15.frozen? ⟨(w.heap.size + 1), o, none⟩ = false := fun o => by rw [hW15, aftD_frozen, if_pos (by omega)]; exact f2_14 o
  have cX_15 : ∀ o, W15.cell? ⟨k, o, none⟩ = #[Value.int IntKind.i64 x1, Value.int IntKind.i64 x2, Value.int IntKind.i64 x3, Value.int IntKind.i64 x4][o]? := fun o => by rw [hW15, aftD_cell, if_pos (by omega)]; exact cX_14 o
  have fX_15 : ∀ o, W15.frozen? ⟨k, o, none⟩ = false := fun o => by rw [hW15, aftD_frozen, if_pos (by omega)]; exact fX_14 o
  have cY_15 : ∀ o, W15.cell? ⟨k2, o, none⟩ = #[Value.int IntKind.i64 x1, Value.int IntKind.i64 x2, Value.int IntKind.i64 g2, Value.int IntKind.i64 (1 + q)][o]? := fun o => by rw [hW15, aftD_cell, if_pos (by omega)]; exact cY_14 o
  have fY_15 : ∀ o, W15.frozen? ⟨k2, o, none⟩ = false := fun o => by rw [hW15, aftD_frozen, if_pos (by omega)]; exact fY_14 o
  have hG_15 : Hid (Ext w.heap.size w W15) := hid (by rw [hW15]; exact hG_14.out.aftD _ (by omega))
  have hs_15 : src B b W15 := by rw [hW15]; exact hq
  have l_15 : k2 < W15.heap.size := by rw [hW15]; have := size_aftD b W14 u7; omega
  rw [← hW15]
  clear hq hW15 c1_14 f1_14 c2_14 f2_14 cX_14 fX_14 cY_14 fY_14 hG_14 hs_14 l_14
  by_cases t0 : t = 0
  · subst t0
    clear ht
    go_wp2_with fail
    refine viaDr (s_pickA B b _ _ _ [58, -58, 60] _ _ _ (by simp) rfl rfl hs_15 (by decide) (by decide)) ?_
    intro qq u8 hq hq2 hlq
    clear hq hlq
    obtain ⟨W16, hW16⟩ : ∃ X, X = W15.alloc (Obj.cells #[Value.int IntKind.i64 58, Value.int IntKind.i64 (-58), Value.int IntKind.i64 60] 2) := ⟨_, rfl⟩
    have c1_16 : ∀ o, W16.cell? ⟨w.heap.size, o, none⟩ = #[Value.int IntKind.i64 0, Value.int IntKind.i64 0, Value.int IntKind.i64 0, Value.int IntKind.i64 0][o]? := fun o => by rw [hW16, alloc_cell, if_neg (by omega)]; exact c1_15 o
    have f1_16 : ∀ o, W16.frozen? ⟨w.heap.size, o, none⟩ = false := fun o => by rw [hW16, alloc_frozen, if_neg (by omega)]; exact f1_15 o
    have c2_16 : ∀ o, W16.cell? ⟨(w.heap.size + 1), o, none⟩ = #[Value.int IntKind.i64 0, Value.int IntKind.i64 0, Value.int IntKind.i64 0, Value.int IntKind.i64 0][o]? := fun o => by rw [hW16, alloc_cell, if_neg (by omega)]; exact c2_15 o
    have f2_16 : ∀ o, W16.frozen? ⟨(w.heap.size + 1), o, none⟩ = false := fun o => by rw [hW16, alloc_frozen, if_neg (by omega)]; exact f2_15 o
    have cX_16 : ∀ o, W16.cell? ⟨k, o, none⟩ = #[Value.int IntKind.i64 x1, Value.int IntKind.i64 x2, Value.int IntKind.i64 x3, Value.int IntKind.i64 x4][o]? := fun o => by rw [hW16, alloc_cell, if_neg (by omega)]; exact cX_15 o
    have fX_16 : ∀ o, W16.frozen? ⟨k, o, none⟩ = false := fun o => by rw [hW16, alloc_frozen, if_neg (by omega)]; exact fX_15 o
    have cY_16 : ∀ o, W16.cell? ⟨k2, o, none⟩ = #[Value.int IntKind.i64 x1, Value.int IntKind.i64 x2, Value.int IntKind.i64 g2, Value.int IntKind.i64 (1 + q)][o]? := fun o => by rw [hW16, alloc_cell, if_neg (by omega)]; exact cY_15 o
    have fY_16 : ∀ o, W16.frozen? ⟨k2, o, none⟩ = false := fun o => by rw [hW16, alloc_frozen, if_neg (by omega)]; exact fY_15 o
    have hG_16 : Hid (Ext w.heap.size w W16) := hid (by rw [hW16]; exact hG_15.out.alloc _)
    have hs_16 : src B b W16 := by rw [hW16]; exact hs_15.alloc _
    have l_16 : k2 < W16.heap.size := by rw [hW16]; simp; omega
    rw [← hW16] at hq2 ⊢
    clear hW16 c1_15 f1_15 c2_15 f2_15 cX_15 fX_15 cY_15 fY_15 hG_15 hs_15 l_15
    obtain ⟨W17, hW17⟩ : ∃ X, X = aftD b W16 u8 := ⟨_, rfl⟩
    have c1_17 : ∀ o, W17.cell? ⟨w.heap.size, o, none⟩ = #[Value.int IntKind.i64 0, Value.int IntKind.i64 0, Value.int IntKind.i64 0, Value.int IntKind.i64 0][o]? := fun o => by rw [hW17, aftD_cell, if_pos (by omega)]; exact c1_16 o
    have f1_17 : ∀ o, W17.frozen? ⟨w.heap.size, o, none⟩ = false := fun o => by rw [hW17, aftD_frozen, if_pos (by omega)]; exact f1_16 o
    have c2_17 : ∀ o, W17.cell? ⟨(w.heap.size + 1), o, none⟩ = #[Value.int IntKind.i64 0, Value.int IntKind.i64 0, Value.int IntKind.i64 0, Value.int IntKind.i64 0][o]? := fun o => by rw [hW17, aftD_cell, if_pos (by omega)]; exact c2_16 o
    have f2_17 : ∀ o, W17.frozen? ⟨(w.heap.size + 1), o, none⟩ = false := fun o => by rw [hW17, aftD_frozen, if_pos (by omega)]; exact f2_16 o
    have cX_17 : ∀ o, W17.cell? ⟨k, o, none⟩ = #[Value.int IntKind.i64 x1, Value.int IntKind.i64 x2, Value.int IntKind.i64 x3, Value.int IntKind.i64 x4][o]? := fun o => by rw [hW17, aftD_cell, if_pos (by omega)]; exact cX_16 o
    have fX_17 : ∀ o, W17.frozen? ⟨k, o, none⟩ = false := fun o => by rw [hW17, aftD_frozen, if_pos (by omega)]; exact fX_16 o
    have cY_17 : ∀ o, W17.cell? ⟨k2, o, none⟩ = #[Value.int IntKind.i64 x1, Value.int IntKind.i64 x2, Value.int IntKind.i64 g2, Value.int IntKind.i64 (1 + q)][o]? := fun o => by rw [hW17, aftD_cell, if_pos (by omega)]; exact cY_16 o
    have fY_17 : ∀ o, W17.frozen? ⟨k2, o, none⟩ = false := fun o => by rw [hW17, aftD_frozen, if_pos (by omega)]; exact fY_16 o
    have hG_17 : Hid (Ext w.heap.size w W17) := hid (by rw [hW17]; exact hG_16.out.aftD _ (by omega))
    have hs_17 : src B b W17 := by rw [hW17]; exact hq2
    have l_17 : k2 < W17.heap.size := by rw [hW17]; have := size_aftD b W16 u8; omega
    rw [← hW17]
    clear hq2 hW17 c1_16 f1_16 c2_16 f2_16 cX_16 fX_16 cY_16 fY_16 hG_16 hs_16 l_16
    go_wp2_with fail
    obtain ⟨W18, hW18⟩ : ∃ X, X = W17.setCell ⟨k2, 1, none⟩ (.int .i64 qq) := ⟨_, rfl⟩
    have c1_18 : ∀ o, W18.cell? ⟨w.heap.size, o, none⟩ = #[Value.int IntKind.i64 0, Value.int IntKind.i64 0, Value.int IntKind.i64 0, Value.int IntKind.i64 0][o]? := fun o => by rw [hW18, set_cell, if_neg (by omega)]; exact c1_17 o
    have f1_18 : ∀ o, W18.frozen? ⟨w.heap.size, o, none⟩ = false := fun o => by rw [hW18, World.frozen?_setCell]; exact f1_17 o
    have c2_18 : ∀ o, W18.cell? ⟨(w.heap.size + 1), o, none⟩ = #[Value.int IntKind.i64 0, Value.int IntKind.i64 0, Value.int IntKind.i64 0, Value.int IntKind.i64 0][o]? := fun o => by rw [hW18, set_cell, if_neg (by omega)]; exact c2_17 o
    have f2_18 : ∀ o, W18.frozen? ⟨(w.heap.size + 1), o, none⟩ = false := fun o => by rw [hW18, World.frozen?_setCell]; exact f2_17 o
    have cX_18 : ∀ o, W18.cell? ⟨k, o, none⟩ = #[Value.int IntKind.i64 x1, Value.int IntKind.i64 x2, Value.int IntKind.i64 x3, Value.int IntKind.i64 x4][o]? := fun o => by rw [hW18, set_cell, if_neg (by omega)]; exact cX_17 o
    have fX_18 : ∀ o, W18.frozen? ⟨k, o, none⟩ = false := fun o => by rw [hW18, World.frozen?_setCell]; exact fX_17 o
    have cY_18 : ∀ o, W18.cell? ⟨k2, o, none⟩ = #[Value.int IntKind.i64 x1, Value.int IntKind.i64 qq, Value.int IntKind.i64 g2, Value.int IntKind.i64 (1 + q)][o]? := fun o => by rw [hW18]; exact setj_cell cY_17 o
    have fY_18 : ∀ o, W18.frozen? ⟨k2, o, none⟩ = false := fun o => by rw [hW18, World.frozen?_setCell]; exact fY_17 o
    have hG_18 : Hid (Ext w.heap.size w W18) := hid (by rw [hW18]; exact hG_17.out.setCell _ _ _ _ (by omega))
    have hs_18 : src B b W18 := by rw [hW18]; exact src.set hs_17 (by omega) (by omega) _
    have l_18 : k2 < W18.heap.size := by rw [hW18]; simp; omega
    rw [← hW18]
    clear hW18 c1_17 f1_17 c2_17 f2_17 cX_17 fX_17 cY_17 fY_17 hG_17 hs_17 l_17
    have hD : ∀ o, W18.drew.cell? ⟨k, o, none⟩ = #[Value.int IntKind.i64 x1, Value.int IntKind.i64 x2, Value.int IntKind.i64 x3, Value.int IntKind.i64 x4][o]? := cX_18
    have hD2 : ∀ o, W18.drew.cell? ⟨k2, o, none⟩ = #[Value.int IntKind.i64 x1, Value.int IntKind.i64 qq, Value.int IntKind.i64 g2, Value.int IntKind.i64 (1 + q)][o]? := cY_18
    have hE1 := cX_18
    have hE2 := cY_18
    (refine wp_region_held_drew (S := (fun w' => (∀ o, w'.cell? ⟨k, o, none⟩ = #[Value.int IntKind.i64 x1, Value.int IntKind.i64 x2, Value.int IntKind.i64 x3, Value.int IntKind.i64 x4][o]?) ∧ (∀ o, w'.cell? ⟨k2, o, none⟩ = #[Value.int IntKind.i64 x1, Value.int IntKind.i64 qq, Value.int IntKind.i64 g2, Value.int IntKind.i64 (1 + q)][o]?))) (by kernel_rfl) ?_ (fun hHeld => ?_); focus ((try dsimp only); (first | (refine ⟨fun o => ?_, fun o => ?_⟩ <;> (repeat (with_reducible first | exact hD o | exact hD2 o | exact hE1 o | exact hE2 o | rw [drewC_cell] | exact hHeld.1 o | exact hHeld.2 o | (rw [set_cell, if_neg (by omega)])))) | (intro o; repeat (with_reducible first | exact hD o | exact hHeld o | (rw [aftD_cell, if_pos (by simp; omega)]) | (rw [set_cell, if_neg (by omega)]))))))
    (refine wpAnyH_take (i := 0) (oi := ?ho17) (v := ?hv17) ?hi17 (by kernel_rfl) (by kernel_rfl) (by kernel_rfl) ?hq17 ?hy17 (by assumption) ?hr17; (case hi17 => (simp only [List.getElem?_toArray, List.getElem?_cons_succ, List.getElem?_cons_zero]; first | done | rfl)); (case hq17 => exact fun _ _ _ h => h); (case hy17 => (refine Or.inl ⟨by rfl, ?_⟩; intro w hSw; (try dsimp only at hSw); go_simp; first | done | with_reducible rfl)); (try simp only [Act.put, List.setIfInBounds_toArray, List.set_cons_zero, List.set_cons_succ]))
    (refine wpAnyH_take (i := 1) (oi := ?ho18) (v := ?hv18) ?hi18 (by kernel_rfl) (by kernel_rfl) (by kernel_rfl) ?hq18 ?hy18 (by assumption) ?hr18; (case hi18 => (simp only [List.getElem?_toArray, List.getElem?_cons_succ, List.getElem?_cons_zero]; first | done | rfl)); (case hq18 => exact fun _ _ _ h => h); (case hy18 => (refine Or.inl ⟨by rfl, ?_⟩; intro w hSw; (try dsimp only at hSw); go_simp; first | done | with_reducible rfl)); (try simp only [Act.put, List.setIfInBounds_toArray, List.set_cons_zero, List.set_cons_succ]))
    (refine wpAnyH_ready (rs := [2]) (by decide +kernel) (by simp) ?_; refine AllReadyH.cons (o := ?ho39) ?hi39 (fun K hK => ?hr39) AllReadyH.nil; (case hi39 => (simp only [List.getElem?_toArray, List.getElem?_cons_succ, List.getElem?_cons_zero]; first | done | rfl)))
    (rw [if_pos (by rfl)]; go_wp2_with fail)
    (refine hK.out _ _ ?_ (fun hHeld => ?_); focus ((try dsimp only); (first | (refine ⟨fun o => ?_, fun o => ?_⟩ <;> (repeat (with_reducible first | exact hD o | exact hD2 o | exact hE1 o | exact hE2 o | rw [drewC_cell] | exact hHeld.1 o | exact hHeld.2 o | (rw [set_cell, if_neg (by omega)])))) | (intro o; repeat (with_reducible first | exact hD o | exact hHeld o | (rw [aftD_cell, if_pos (by simp; omega)]) | (rw [set_cell, if_neg (by omega)]))))))
    (clear hK K; (try simp only [Act.put, List.setIfInBounds_toArray, List.set_cons_zero, List.set_cons_succ]))
    (refine wpAnyH_ready (rs := [3]) (by decide +kernel) (by simp) ?_; refine AllReadyH.cons (o := ?ho40) ?hi40 (fun K hK => ?hr40) AllReadyH.nil; (case hi40 => (simp only [List.getElem?_toArray, List.getElem?_cons_succ, List.getElem?_cons_zero]; first | done | rfl)))
    (rw [if_pos (by rfl)]; go_wp2_with fail)
    (refine hK.out _ _ ?_ (fun hHeld => ?_); focus ((try dsimp only); (first | (refine ⟨fun o => ?_, fun o => ?_⟩ <;> (repeat (with_reducible first | exact hD o | exact hD2 o | exact hE1 o | exact hE2 o | rw [drewC_cell] | exact hHeld.1 o | exact hHeld.2 o | (rw [set_cell, if_neg (by omega)])))) | (intro o; repeat (with_reducible first | exact hD o | exact hHeld o | (rw [aftD_cell, if_pos (by simp; omega)]) | (rw [set_cell, if_neg (by omega)]))))))
    (clear hK K; (try simp only [Act.put, List.setIfInBounds_toArray, List.set_cons_zero, List.set_cons_succ]))
    (refine wpAnyH_done (by kernel_rfl) ?_ _)
    go_wp2_with fail
    exact bodyPost_ret (v := .tuple #[.agg #[Value.int IntKind.i64 x1, Value.int IntKind.i64 x2, Value.int IntKind.i64 x3, Value.int IntKind.i64 x4], .agg #[Value.int IntKind.i64 x1, Value.int IntKind.i64 qq, Value.int IntKind.i64 g2, Value.int IntKind.i64 (1 + q)]]) (by simp [results, go_sem, ↓IntWalk.iteOmega, c1_18, c2_18]) rfl ⟨⟨x1, x2, x3, x4⟩, ⟨x1, qq, g2, 1 + q⟩, rfl, (by refine Ext.bel ?_; repeat (with_reducible first | exact hG_18.out | apply Ext.aftD | apply Ext.aft | apply Ext.alloc | apply Ext.drew | apply Ext.setCell | exact Nat.le_add_right _ _ | exact Nat.le_refl _ | (simp; done) | (simp; omega) | omega))⟩
  · have t0' : (t == 0) = false := by simpa using t0
    clear t0 ht
    go_wp2_with fail
    have hD : ∀ o, W15.drew.cell? ⟨k, o, none⟩ = #[Value.int IntKind.i64 x1, Value.int IntKind.i64 x2, Value.int IntKind.i64 x3, Value.int IntKind.i64 x4][o]? := cX_15
    have hD2 : ∀ o, W15.drew.cell? ⟨k2, o, none⟩ = #[Value.int IntKind.i64 x1, Value.int IntKind.i64 x2, Value.int IntKind.i64 g2, Value.int IntKind.i64 (1 + q)][o]? := cY_15
    have hE1 := cX_15
    have hE2 := cY_15
    (refine wp_region_held_drew (S := (fun w' => (∀ o, w'.cell? ⟨k, o, none⟩ = #[Value.int IntKind.i64 x1, Value.int IntKind.i64 x2, Value.int IntKind.i64 x3, Value.int IntKind.i64 x4][o]?) ∧ (∀ o, w'.cell? ⟨k2, o, none⟩ = #[Value.int IntKind.i64 x1, Value.int IntKind.i64 x2, Value.int IntKind.i64 g2, Value.int IntKind.i64 (1 + q)][o]?))) (by kernel_rfl) ?_ (fun hHeld => ?_); focus ((try dsimp only); (first | (refine ⟨fun o => ?_, fun o => ?_⟩ <;> (repeat (with_reducible first | exact hD o | exact hD2 o | exact hE1 o | exact hE2 o | rw [drewC_cell] | exact hHeld.1 o | exact hHeld.2 o | (rw [set_cell, if_neg (by omega)])))) | (intro o; repeat (with_reducible first | exact hD o | exact hHeld o | (rw [aftD_cell, if_pos (by simp; omega)]) | (rw [set_cell, if_neg (by omega)]))))))
    (refine wpAnyH_take (i := 0) (oi := ?ho19) (v := ?hv19) ?hi19 (by kernel_rfl) (by kernel_rfl) (by kernel_rfl) ?hq19 ?hy19 (by assumption) ?hr19; (case hi19 => (simp only [List.getElem?_toArray, List.getElem?_cons_succ, List.getElem?_cons_zero]; first | done | rfl)); (case hq19 => exact fun _ _ _ h => h); (case hy19 => (refine Or.inl ⟨by rfl, ?_⟩; intro w hSw; (try dsimp only at hSw); go_simp; first | done | with_reducible rfl)); (try simp only [Act.put, List.setIfInBounds_toArray, List.set_cons_zero, List.set_cons_succ]))
    (refine wpAnyH_take (i := 1) (oi := ?ho20) (v := ?hv20) ?hi20 (by kernel_rfl) (by kernel_rfl) (by kernel_rfl) ?hq20 ?hy20 (by assumption) ?hr20; (case hi20 => (simp only [List.getElem?_toArray, List.getElem?_cons_succ, List.getElem?_cons_zero]; first | done | rfl)); (case hq20 => exact fun _ _ _ h => h); (case hy20 => (refine Or.inl ⟨by rfl, ?_⟩; intro w hSw; (try dsimp only at hSw); go_simp; first | done | with_reducible rfl)); (try simp only [Act.put, List.setIfInBounds_toArray, List.set_cons_zero, List.set_cons_succ]))
    (refine wpAnyH_ready (rs := [2]) (by decide +kernel) (by simp) ?_; refine AllReadyH.cons (o := ?ho41) ?hi41 (fun K hK => ?hr41) AllReadyH.nil; (case hi41 => (simp only [List.getElem?_toArray, List.getElem?_cons_succ, List.getElem?_cons_zero]; first | done | rfl)))
    (rw [if_pos (by rfl)]; go_wp2_with fail)
    (refine hK.out _ _ ?_ (fun hHeld => ?_); focus ((try dsimp only); (first | (refine ⟨fun o => ?_, fun o => ?_⟩ <;> (repeat (with_reducible first | exact hD o | exact hD2 o | exact hE1 o | exact hE2 o | rw [drewC_cell] | exact hHeld.1 o | exact hHeld.2 o | (rw [set_cell, if_neg (by omega)])))) | (intro o; repeat (with_reducible first | exact hD o | exact hHeld o | (rw [aftD_cell, if_pos (by simp; omega)]) | (rw [set_cell, if_neg (by omega)]))))))
    (clear hK K; (try simp only [Act.put, List.setIfInBounds_toArray, List.set_cons_zero, List.set_cons_succ]))
    (refine wpAnyH_ready (rs := [3]) (by decide +kernel) (by simp) ?_; refine AllReadyH.cons (o := ?ho42) ?hi42 (fun K hK => ?hr42) AllReadyH.nil; (case hi42 => (simp only [List.getElem?_toArray, List.getElem?_cons_succ, List.getElem?_cons_zero]; first | done | rfl)))
    (rw [if_pos (by rfl)]; go_wp2_with fail)
    (refine hK.out _ _ ?_ (fun hHeld => ?_); focus ((try dsimp only); (first | (refine ⟨fun o => ?_, fun o => ?_⟩ <;> (repeat (with_reducible first | exact hD o | exact hD2 o | exact hE1 o | exact hE2 o | rw [drewC_cell] | exact hHeld.1 o | exact hHeld.2 o | (rw [set_cell, if_neg (by omega)])))) | (intro o; repeat (with_reducible first | exact hD o | exact hHeld o | (rw [aftD_cell, if_pos (by simp; omega)]) | (rw [set_cell, if_neg (by omega)]))))))
    (clear hK K; (try simp only [Act.put, List.setIfInBounds_toArray, List.set_cons_zero, List.set_cons_succ]))
    (refine wpAnyH_done (by kernel_rfl) ?_ _)
    go_wp2_with fail
    exact bodyPost_ret (v := .tuple #[.agg #[Value.int IntKind.i64 x1, Value.int IntKind.i64 x2, Value.int IntKind.i64 x3, Value.int IntKind.i64 x4], .agg #[Value.int IntKind.i64 x1, Value.int IntKind.i64 x2, Value.int IntKind.i64 g2, Value.int IntKind.i64 (1 + q)]]) (by simp [results, go_sem, ↓IntWalk.iteOmega, c1_15, c2_15]) rfl ⟨⟨x1, x2, x3, x4⟩, ⟨x1, x2, g2, 1 + q⟩, rfl, (by refine Ext.bel ?_; repeat (with_reducible first | exact hG_15.out | apply Ext.aftD | apply Ext.aft | apply Ext.alloc | apply Ext.drew | apply Ext.setCell | exact Nat.le_add_right _ _ | exact Nat.le_refl _ | (simp; done) | (simp; omega) | omega))⟩
end Go.Proofs.Ytfbpkbnepojlnaa
