/- Draws: rings, rarely one that is not valid; residues. -/
import Derived.Test.YtflmoopiajhadaaT28
namespace Go.Proofs.Ytflmoopiajhadaa
open Go Go.RowKit

set_option maxRecDepth 20000 in
set_option maxHeartbeats 4000000 in
theorem s_draw2 (B b : Nat) (w : World) (h : src B b w) :
    Calls Try.prog 63 #[.pointer (some ⟨b, 0, none⟩)] w (Draws B b w (fun x : Int × Int => .agg #[.int .i64 x.1, .int .i64 x.2]) (fun _ => True)) := by
  have hb := h.lt
  have hB := h.ge
  go_enter Try.func63, Try.ntmps63
  go_wp2_with fail
  refine viaDr (s_valid2 B b _ (by repeat (with_reducible first | assumption | apply src.aft | apply src.alloc | apply src.drew | (refine src.set ?_ ?_ ?_ _) | (simp; done) | (simp; omega) | omega))) ?_
  intro y u hy hs hl
  (try simp at hl)
  obtain ⟨p, n⟩ := y
  (try dsimp only at hy)
  dsimp only
  go_wp2_with fail
  obtain ⟨V, hV⟩ : ∃ V, V = aftD b (w.alloc (Obj.cells #[Value.int IntKind.i64 0, Value.int IntKind.i64 0] 25)) u := ⟨_, rfl⟩
  have lV : w.heap.size + 1 ≤ V.heap.size := by rw [hV]; omega
  have cR : ∀ o, V.cell? ⟨w.heap.size, o, none⟩ = #[Value.int IntKind.i64 0, Value.int IntKind.i64 0][o]? := fun o => by rw [hV, aftD_cell, if_pos (by simp; omega), alloc_cell, if_pos rfl]
  have fR : ∀ o, V.frozen? ⟨w.heap.size, o, none⟩ = false := fun o => by rw [hV, aftD_frozen, if_pos (by simp; omega), alloc_frozen, if_pos rfl]
  have hG : Hid (Gr b w V) := hid (by rw [hV]; exact (by show Gr _ _ _; repeat (with_reducible first | exact Gr.refl _ _ | apply Gr.aftD | apply Gr.aft | apply Gr.alloc | apply Gr.drew | apply Gr.set | (simp; done) | (simp; omega) | omega)))
  rw [← hV] at hs ⊢
  clear hV hl
  obtain ⟨k, hk⟩ : ∃ k, k = V.heap.size := ⟨_, rfl⟩
  have hkb : b < k := by rw [hk]; omega
  obtain ⟨W, hW⟩ : ∃ W, W = V.alloc (Obj.cells #[Value.int IntKind.i64 p, Value.int IntKind.i64 n] 25) := ⟨_, rfl⟩
  have cR : ∀ o, W.cell? ⟨w.heap.size, o, none⟩ = #[Value.int IntKind.i64 0, Value.int IntKind.i64 0][o]? := fun o => by rw [hW, alloc_cell, if_neg (by omega)]; exact cR o
  have fR : ∀ o, W.frozen? ⟨w.heap.size, o, none⟩ = false := fun o => by rw [hW, alloc_frozen, if_neg (by omega)]; exact fR o
  have cX : ∀ o, W.cell? ⟨k, o, none⟩ = #[Value.int IntKind.i64 p, Value.int IntKind.i64 n][o]? := fun o => by rw [hW, alloc_cell, if_pos hk]
  have fX : ∀ o, W.frozen? ⟨k, o, none⟩ = false := fun o => by rw [hW, alloc_frozen, if_pos hk]
  have hGW : Hid (Gr b w W) := hid (by rw [hW]; exact hG.out.alloc _)
  have hsW : src B b W := by rw [hW]; exact hs.alloc _
  have lW : k < W.heap.size := by rw [hW]; simp; omega
  rw [← hW, ← hk]
  have lk : w.heap.size < k := by omega
  clear hW hk hs hG lV hy
  refine viaDr (s_next B b _ _ hsW (by omega)) ?_
  intro x u2 hx hs3 hl3
  (try dsimp only at hx)
  by_cases x0 : x = 0
  · subst x0
    go_wp2_with fail
    refine viaDr (s_drawPrime B b _ hs3) ?_
    intro z u3 hz hs4 hl4
    go_wp2_with fail
    exact bodyPost_ret (v := .agg #[.int .i64 z, .int .i64 n]) (by simp [results, go_sem, ↓IntWalk.iteOmega, cX, cR]) rfl ⟨(z, n), rfl, trivial, (show Gr _ _ _ by repeat (with_reducible first | exact hGW.out | apply Gr.aftD | apply Gr.alloc | apply Gr.set | (simp; done) | (simp; omega) | omega)), (by repeat (with_reducible first | assumption | apply src.aft | apply src.alloc | apply src.drew | (refine src.set ?_ ?_ ?_ _) | (simp; done) | (simp; omega) | omega))⟩
  by_cases x1 : x = 1
  · subst x1
    go_wp2_with fail
    refine viaDr (s_pickA B b _ _ _ [0, 1, 29, 30, 12, -1] _ _ _ (by simp) rfl rfl (by repeat (with_reducible first | assumption | apply src.aft | apply src.alloc | apply src.drew | (refine src.set ?_ ?_ ?_ _) | (simp; done) | (simp; omega) | omega)) (by decide) (by decide)) ?_
    intro z u3 hz hs4 hl4
    (try simp at hl4)
    clear hz
    go_wp2_with fail
    exact bodyPost_ret (v := .agg #[.int .i64 p, .int .i64 z]) (by simp [results, go_sem, ↓IntWalk.iteOmega, cX, cR]) rfl ⟨(p, z), rfl, trivial, (show Gr _ _ _ by repeat (with_reducible first | exact hGW.out | apply Gr.aftD | apply Gr.alloc | apply Gr.set | (simp; done) | (simp; omega) | omega)), (by repeat (with_reducible first | assumption | apply src.aft | apply src.alloc | apply src.drew | (refine src.set ?_ ?_ ?_ _) | (simp; done) | (simp; omega) | omega))⟩
  have x0' : (x == 0) = false := by simpa using x0
  have x1' : (x == 1) = false := by simpa using x1
  go_wp2_with fail
  exact bodyPost_ret (v := .agg #[Value.int IntKind.i64 p, Value.int IntKind.i64 n]) (by simp [results, go_sem, ↓IntWalk.iteOmega, cX, cR]) rfl ⟨(p, n), rfl, trivial, (show Gr _ _ _ by repeat (with_reducible first | exact hGW.out | apply Gr.aftD | apply Gr.alloc | apply Gr.set | (simp; done) | (simp; omega) | omega)), (by repeat (with_reducible first | assumption | apply src.aft | apply src.alloc | apply src.drew | (refine src.set ?_ ?_ ?_ _) | (simp; done) | (simp; omega) | omega))⟩

end Go.Proofs.Ytflmoopiajhadaa
