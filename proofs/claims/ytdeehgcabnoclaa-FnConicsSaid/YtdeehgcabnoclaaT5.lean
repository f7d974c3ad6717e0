/- Draws: a p-adic number, rarely no valid one. -/
import Derived.Test.YtdeehgcabnoclaaT4
namespace Go.Proofs.Ytdeehgcabnoclaa
open Go Go.RowKit

set_option maxRecDepth 20000 in
set_option maxHeartbeats 4000000 in
theorem s_draw3 (B b : Nat) (w : World) (h : src B b w) :
    Calls Try.prog 28 #[.pointer (some ⟨b, 0, none⟩)] w (Draws B b w (fun x : Pd => .agg #[.int .i64 x.p, .int .i64 x.v, .int .i64 x.u, .int .i64 x.n]) (fun x => (-3 ≤ x.p ∧ x.p ≤ 101) ∧ (-61 ≤ x.v ∧ x.v ≤ 61) ∧ (-1 ≤ x.u ∧ x.u ≤ 1000000000) ∧ (-1 ≤ x.n ∧ x.n ≤ 30))) := by
  have hb := h.lt
  have hB := h.ge
  go_enter Try.func28, Try.ntmps28
  go_wp2_with fail
  refine viaDr (s_pickA B b _ _ _ [2, 3, 5, 7, 13] _ _ _ (by simp) rfl rfl (by repeat (with_reducible first | assumption | apply src.aft | apply src.alloc | apply src.drew | (refine src.set ?_ ?_ ?_ _) | (simp; done) | (simp; omega) | omega)) (by decide) (by decide)) ?_
  intro p u hx hs hl
  (try simp at hl)
  have hp : 2 ≤ p ∧ p ≤ 97 := by simp at hx; omega
  clear hx
  go_wp2_with fail
  refine viaDr (s_valid3 B b _ _ (by repeat (with_reducible first | assumption | apply src.aft | apply src.alloc | apply src.drew | (refine src.set ?_ ?_ ?_ _) | (simp; done) | (simp; omega) | omega)) hp) ?_
  intro y v hy hs2 hl2
  (try simp at hl2)
  (try dsimp only at hy)
  obtain ⟨hy, hy2⟩ := hy
  go_wp2_with fail
  obtain ⟨V, hV⟩ : ∃ V, V = (aftD b (aftD b ((w.alloc (Obj.cells #[Value.int IntKind.i64 0, Value.int IntKind.i64 0, Value.int IntKind.i64 0, Value.int IntKind.i64 0] 29)).alloc (Obj.cells #[Value.int IntKind.i64 2, Value.int IntKind.i64 3, Value.int IntKind.i64 5, Value.int IntKind.i64 7, Value.int IntKind.i64 13] 2)) u) v) := ⟨_, rfl⟩
  have lV : w.heap.size + 2 ≤ V.heap.size := by rw [hV]; omega
  have cR : ∀ o, V.cell? ⟨w.heap.size, o, none⟩ = #[Value.int IntKind.i64 0, Value.int IntKind.i64 0, Value.int IntKind.i64 0, Value.int IntKind.i64 0][o]? := fun o => by rw [hV, aftD_cell, if_pos (by omega), aftD_cell, if_pos (by simp; omega), alloc_cell, if_neg (by simp), alloc_cell, if_pos rfl]
  have fR : ∀ o, V.frozen? ⟨w.heap.size, o, none⟩ = false := fun o => by rw [hV, aftD_frozen, if_pos (by omega), aftD_frozen, if_pos (by simp; omega), alloc_frozen, if_neg (by simp), alloc_frozen, if_pos rfl]
  have hG : Hid (Gr b w V) := hid (by rw [hV]; exact (by show Gr _ _ _; repeat (with_reducible first | exact Gr.refl _ _ | apply Gr.aftD | apply Gr.aft | apply Gr.alloc | apply Gr.drew | apply Gr.set | (simp; done) | (simp; omega) | omega)))
  rw [← hV] at hs2 ⊢
  clear hV hs hl hl2 
  obtain ⟨k, hk⟩ : ∃ k, k = V.heap.size := ⟨_, rfl⟩
  have hkb : b < k := by rw [hk]; omega
  obtain ⟨W, hW⟩ : ∃ W, W = V.alloc (Obj.cells #[Value.int IntKind.i64 p, Value.int IntKind.i64 y.v, Value.int IntKind.i64 y.u, Value.int IntKind.i64 y.n] 29) := ⟨_, rfl⟩
  have cR : ∀ o, W.cell? ⟨w.heap.size, o, none⟩ = #[Value.int IntKind.i64 0, Value.int IntKind.i64 0, Value.int IntKind.i64 0, Value.int IntKind.i64 0][o]? := fun o => by rw [hW, alloc_cell, if_neg (by omega)]; exact cR o
  have fR : ∀ o, W.frozen? ⟨w.heap.size, o, none⟩ = false := fun o => by rw [hW, alloc_frozen, if_neg (by omega)]; exact fR o
  have cX : ∀ o, W.cell? ⟨k, o, none⟩ = #[Value.int IntKind.i64 p, Value.int IntKind.i64 y.v, Value.int IntKind.i64 y.u, Value.int IntKind.i64 y.n][o]? := fun o => by rw [hW, alloc_cell, if_pos hk]
  have fX : ∀ o, W.frozen? ⟨k, o, none⟩ = false := fun o => by rw [hW, alloc_frozen, if_pos hk]
  have hGW : Hid (Gr b w W) := hid (by rw [hW]; exact hG.out.alloc _)
  have hsW : src B b W := by rw [hW]; exact hs2.alloc _
  have lW : k < W.heap.size := by rw [hW]; simp; omega
  rw [← hW, ← hk]
  have lk : w.heap.size < k := by omega
  clear hW hk hs2 hG lV
  obtain ⟨y1, y2, y3, y4⟩ := y
  dsimp only at hy hy2 ⊢
  go_wp2_with fail
  refine viaDr (s_next B b _ _ hsW (by omega)) ?_
  intro x u2 hx hs3 hl3
  (try dsimp only at hx)
  by_cases x0 : x = 0
  · subst x0
    go_wp2_with fail
    refine viaDr (s_drawPrime B b _ hs3) ?_
    intro z u3 hz hs4 hl4
    go_wp2_with fail
    exact bodyPost_ret (v := .agg #[.int .i64 z, .int .i64 y2, .int .i64 y3, .int .i64 y4]) (by simp [results, go_sem, ↓IntWalk.iteOmega, cX, cR]) rfl ⟨⟨z, y2, y3, y4⟩, rfl, (by simp only; omega), (show Gr _ _ _ by repeat (with_reducible first | exact hGW.out | apply Gr.aftD | apply Gr.set | (simp; done) | (simp; omega) | omega)), (by repeat (with_reducible first | assumption | apply src.aft | apply src.alloc | apply src.drew | (refine src.set ?_ ?_ ?_ _) | (simp; done) | (simp; omega) | omega))⟩
  by_cases x1 : x = 1
  · obtain ⟨c, hc⟩ : ∃ c : Int, c = 1 := ⟨_, rfl⟩
    subst x1
    go_wp2_with fail
    refine viaDr (s_pickA B b _ _ _ [0, p, -1, 1000000000] _ _ _ (by simp) rfl rfl (by repeat (with_reducible first | assumption | apply src.aft | apply src.alloc | apply src.drew | (refine src.set ?_ ?_ ?_ _) | (simp; done) | (simp; omega) | omega)) (by decide) (by decide)) ?_
    intro z u3 hz hs4 hl4
    (try simp at hl4)
    have hz2 : -61 ≤ z ∧ z ≤ 1000000000 ∧ (c ≤ 1 ∨ z ≤ 61) ∧ (c ≤ 2 ∨ (-1 ≤ z ∧ z ≤ 30)) ∧ (c ≠ 1 ∨ -1 ≤ z) := by simp at hz; omega
    clear hz
    go_wp2_with fail
    exact bodyPost_ret (v := .agg #[.int .i64 p, .int .i64 y2, .int .i64 z, .int .i64 y4]) (by simp [results, go_sem, ↓IntWalk.iteOmega, cR, cX]) rfl ⟨⟨p, y2, z, y4⟩, rfl, (by simp only; omega), (show Gr _ _ _ by repeat (with_reducible first | exact hGW.out | apply Gr.aftD | apply Gr.alloc | apply Gr.set | (simp; done) | (simp; omega) | omega)), (by repeat (with_reducible first | assumption | apply src.aft | apply src.alloc | apply src.drew | (refine src.set ?_ ?_ ?_ _) | (simp; done) | (simp; omega) | omega))⟩
  by_cases x2 : x = 2
  · obtain ⟨c, hc⟩ : ∃ c : Int, c = 2 := ⟨_, rfl⟩
    subst x2
    go_wp2_with fail
    refine viaDr (s_pickA B b _ _ _ [60, 61, -60, -61] _ _ _ (by simp) rfl rfl (by repeat (with_reducible first | assumption | apply src.aft | apply src.alloc | apply src.drew | (refine src.set ?_ ?_ ?_ _) | (simp; done) | (simp; omega) | omega)) (by decide) (by decide)) ?_
    intro z u3 hz hs4 hl4
    (try simp at hl4)
    have hz2 : -61 ≤ z ∧ z ≤ 1000000000 ∧ (c ≤ 1 ∨ z ≤ 61) ∧ (c ≤ 2 ∨ (-1 ≤ z ∧ z ≤ 30)) ∧ (c ≠ 1 ∨ -1 ≤ z) := by simp at hz; omega
    clear hz
    go_wp2_with fail
    exact bodyPost_ret (v := .agg #[.int .i64 p, .int .i64 z, .int .i64 y3, .int .i64 y4]) (by simp [results, go_sem, ↓IntWalk.iteOmega, cR, cX]) rfl ⟨⟨p, z, y3, y4⟩, rfl, (by simp only; omega), (show Gr _ _ _ by repeat (with_reducible first | exact hGW.out | apply Gr.aftD | apply Gr.alloc | apply Gr.set | (simp; done) | (simp; omega) | omega)), (by repeat (with_reducible first | assumption | apply src.aft | apply src.alloc | apply src.drew | (refine src.set ?_ ?_ ?_ _) | (simp; done) | (simp; omega) | omega))⟩
  by_cases x3 : x = 3
  · obtain ⟨c, hc⟩ : ∃ c : Int, c = 3 := ⟨_, rfl⟩
    subst x3
    go_wp2_with fail
    refine viaDr (s_pickA B b _ _ _ [0, 30, -1] _ _ _ (by simp) rfl rfl (by repeat (with_reducible first | assumption | apply src.aft | apply src.alloc | apply src.drew | (refine src.set ?_ ?_ ?_ _) | (simp; done) | (simp; omega) | omega)) (by decide) (by decide)) ?_
    intro z u3 hz hs4 hl4
    (try simp at hl4)
    have hz2 : -61 ≤ z ∧ z ≤ 1000000000 ∧ (c ≤ 1 ∨ z ≤ 61) ∧ (c ≤ 2 ∨ (-1 ≤ z ∧ z ≤ 30)) ∧ (c ≠ 1 ∨ -1 ≤ z) := by simp at hz; omega
    clear hz
    go_wp2_with fail
    exact bodyPost_ret (v := .agg #[.int .i64 p, .int .i64 y2, .int .i64 y3, .int .i64 z]) (by simp [results, go_sem, ↓IntWalk.iteOmega, cR, cX]) rfl ⟨⟨p, y2, y3, z⟩, rfl, (by simp only; omega), (show Gr _ _ _ by repeat (with_reducible first | exact hGW.out | apply Gr.aftD | apply Gr.alloc | apply Gr.set | (simp; done) | (simp; omega) | omega)), (by repeat (with_reducible first | assumption | apply src.aft | apply src.alloc | apply src.drew | (refine src.set ?_ ?_ ?_ _) | (simp; done) | (simp; omega) | omega))⟩
  have x0' : (x == 0) = false := by simpa using x0
  have x1' : (x == 1) = false := by simpa using x1
  have x2' : (x == 2) = false := by simpa using x2
  have x3' : (x == 3) = false := by simpa using x3
  go_wp2_with fail
  exact bodyPost_ret (v := .agg #[.int .i64 p, .int .i64 y2, .int .i64 y3, .int .i64 y4]) (by simp [results, go_sem, ↓IntWalk.iteOmega, cR, cX]) rfl ⟨⟨p, y2, y3, y4⟩, rfl, (by simp only; omega), (show Gr _ _ _ by repeat (with_reducible first | exact hGW.out | apply Gr.aftD | apply Gr.alloc | apply Gr.set | (simp; done) | (simp; omega) | omega)), (by repeat (with_reducible first | assumption | apply src.aft | apply src.alloc | apply src.drew | (refine src.set ?_ ?_ ?_ _) | (simp; done) | (simp; omega) | omega))⟩
end Go.Proofs.Ytdeehgcabnoclaa
