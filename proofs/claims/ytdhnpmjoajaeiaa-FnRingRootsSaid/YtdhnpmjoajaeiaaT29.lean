/- Draws: rings, rarely one that is not valid; residues. -/
import Derived.Test.YtdhnpmjoajaeiaaT28
namespace Go.Proofs.Ytdhnpmjoajaeiaa
open Go Go.RowKit

set_option maxRecDepth 20000 in
set_option maxHeartbeats 4000000 in
theorem s_draw2 (B b : Nat) (w : World) (h : src B b w) :
    Calls Try.prog 43 #[.pointer (some ⟨b, 0, none⟩)] w (Draws B b w (fun x : Int × Int => .agg #[.int .i64 x.1, .int .i64 x.2]) (fun _ => True)) := by
  have hb := h.lt
  have hB := h.ge
  go_enter Try.func43, Try.ntmps43
  go_wp2_with fail
  refine viaDr (s_valid2 B b _ (by repeat (with_reducible first | assumption | apply src.aft | apply src.alloc | apply src.drew | (refine src.set ?_ ?_ ?_ _) | (simp; done) | (simp; omega) | omega))) ?_
  intro y u hy hs hl
  (try simp at hl)
  obtain ⟨p, n⟩ := y
  (try dsimp only at hy)
  dsimp only
  go_wp2_with fail
  obtain ⟨V, hV⟩ : ∃ V, V = aftD b (w.alloc (Obj.cells #[Value.int IntKind.i64 0, Value.int IntKind.i64 0] 27)) u := ⟨_, rfl⟩
  have lV : w.heap.size + 1 ≤ V.heap.size := by rw [hV]; omega
  have cR : ∀ o, V.cell? ⟨w.heap.size, o, none⟩ = #[Value.int IntKind.i64 0, Value.int IntKind.i64 0][o]? := fun o => by rw [hV, aftD_cell, if_pos (by simp; omega), alloc_cell, if_pos rfl]
  have fR : ∀ o, V.frozen? ⟨w.heap.size, o, none⟩ = false := fun o => by rw [hV, aftD_frozen, if_pos (by simp; omega), alloc_frozen, if_pos rfl]
  have hG : Hid (Gr b w V) := hid (by rw [hV]; exact (by show Gr _ _ _; repeat (with_reducible first | exact Gr.refl _ _ | apply Gr.aftD | apply Gr.aft | apply Gr.alloc | apply Gr.drew | apply Gr.set | (simp; done) | (simp; omega) | omega)))
  rw [← hV] at hs ⊢
  clear hV hl
  obtain ⟨k, hk⟩ : ∃ k, k = V.heap.size := ⟨_, rfl⟩
  have hkb : b < k := by rw [hk]; omega
  obtain ⟨W, hW⟩ : ∃ W, W = V.alloc (Obj.cells #[Value.int IntKind.i64 p, Value.int IntKind.i64 n] 27) := ⟨_, rfl⟩
  have cR : ∀ o, W.cell? ⟨w.heap.size, o, none⟩ = #[Value.int IntKind.i64 0, Value.int IntKind.i64 0][o]? := fun o => by rw [hW, alloc_cell, if_neg (by omega)]; exact cR o
  have fR : ∀ o, W.frozen? ⟨w.heap.size, o, none⟩ = false := fun o => by rw [hW, alloc_frozen, if_neg (by omega)]; exact fR o
  have cX : ∀ o, W.cell? ⟨k, o, none⟩ = #[Value.int IntKind.i64 p, Value.int IntKind.i64 n][o]? := fun o => by rw [hW, alloc_cell, if_pos hk]
  have fX : ∀ o, W.frozen? ⟨k, o, none⟩ = false := fun o => by rw [hW, alloc_frozen, if_pos hk]
  have hGW : Hid (Gr b w W) := hid (by rw [hW]; exact hG.out.alloc _)
  have hsW : src B b W := by rw [hW]; exact hs.alloc _
  have lW : k < W.heap.size := by rw [hW]; simp; omega
  rw [← hW, ← hk]
  have lk : w.heap.size < k := by omega
  clear hW hk hs hG lV hy
  refine viaDr (s_next B b _ _ hsW (by omega)) ?_
  intro x u2 hx hs3 hl3
  (try dsimp only at hx)
  by_cases x0 : x = 0
  · subst x0
    go_wp2_with fail
    refine viaDr (s_drawPrime B b _ hs3) ?_
    intro z u3 hz hs4 hl4
    go_wp2_with fail
    exact bodyPost_ret (v := .agg #[.int .i64 z, .int .i64 n]) (by simp [results, go_sem, ↓IntWalk.iteOmega, cX, cR]) rfl ⟨(z, n), rfl, trivial, (show Gr _ _ _ by repeat (with_reducible first | exact hGW.out | apply Gr.aftD | apply Gr.alloc | apply Gr.set | (simp; done) | (simp; omega) | omega)), (by repeat (with_reducible first | assumption | apply src.aft | apply src.alloc | apply src.drew | (refine src.set ?_ ?_ ?_ _) | (simp; done) | (simp; omega) | omega))⟩
  by_cases x1 : x = 1
  · subst x1
    go_wp2_with fail
    refine viaDr (s_pickA B b _ _ _ [0, 1, 29, 30, 12, -1] _ _ _ (by simp) rfl rfl (by repeat (with_reducible first | assumption | apply src.aft | apply src.alloc | apply src.drew | (refine src.set ?_ ?_ ?_ _) | (simp; done) | (simp; omega) | omega)) (by decide) (by decide)) ?_
    intro z u3 hz hs4 hl4
    (try simp at hl4)
    clear hz
    go_wp2_with fail
    exact bodyPost_ret (v := .agg #[.int .i64 p, .int .i64 z]) (by simp [results, go_sem, ↓IntWalk.iteOmega, cX, cR]) rfl ⟨(p, z), rfl, trivial, (show Gr _ _ _ by repeat (with_reducible first | exact hGW.out | apply Gr.aftD | apply Gr.alloc | apply Gr.set | (simp; done) | (simp; omega) | omega)), (by repeat (with_reducible first | assumption | apply src.aft | apply src.alloc | apply src.drew | (refine src.set ?_ ?_ ?_ _) | (simp; done) | (simp; omega) | omega))⟩
  have x0' : (x == 0) = false := by simpa using x0
  have x1' : (x == 1) = false := by simpa using x1
  go_wp2_with fail
  exact bodyPost_ret (v := .agg #[Value.int IntKind.i64 p, Value.int IntKind.i64 n]) (by simp [results, go_sem, ↓IntWalk.iteOmega, cX, cR]) rfl ⟨(p, n), rfl, trivial, (show Gr _ _ _ by repeat (with_reducible first | exact hGW.out | apply Gr.aftD | apply Gr.alloc | apply Gr.set | (simp; done) | (simp; omega) | omega)), (by repeat (with_reducible first | assumption | apply src.aft | apply src.alloc | apply src.drew | (refine src.set ?_ ?_ ?_ _) | (simp; done) | (simp; omega) | omega))⟩

set_option maxHeartbeats 4000000 in
theorem s_residue (B b : Nat) (p n : Int) (w : World) (h : src B b w) :
    Calls Try.prog 44 #[.pointer (some ⟨b, 0, none⟩), (.agg #[.int .i64 p, .int .i64 n])] w (Draws B b w (fun x => .int .i64 x) (fun _ => True)) := by
  have hb := h.lt
  have hB := h.ge
  cases hr : ringB p n
  · go_enter Try.func44, Try.ntmps44
    go_wp2_with (go_at_call 36; refine via (s_IsRing _ _ _) ?_; intro uu zz; try simp at zz)
    refine viaDr (s_next B b _ _ (by repeat (with_reducible first | assumption | apply src.aft | apply src.alloc | apply src.drew | (refine src.set ?_ ?_ ?_ _) | (simp; done) | (simp; omega) | omega)) (by omega)) ?_
    intro x u hx hs hl
    go_wp2_with fail
    go_ret
    exact ⟨x, rfl, trivial, (by show Gr _ _ _; repeat (with_reducible first | exact Gr.refl _ _ | apply Gr.aftD | apply Gr.aft | apply Gr.alloc | apply Gr.drew | apply Gr.set | (simp; done) | (simp; omega) | omega)), hs⟩
  obtain ⟨r1, r2, r3, r4, _, _, _⟩ := ring_facts2 hr
  have HM : Hid (∀ W : World, Calls Try.prog 38 #[.int .i64 p, .int .i64 n] W fun e w' => e = .returned (.int .i64 (p ^ n.toNat)) ∧ W = w') := hid fun W => by
    have := s_modulus p n W (by omega) (by omega) (by omega)
    rw [modu_ring hr] at this
    exact this
  obtain ⟨M, hM⟩ : ∃ M, M = p ^ n.toNat := ⟨_, rfl⟩
  rw [← hM] at HM r3 r4
  clear hM
  go_enter Try.func44, Try.ntmps44
  go_wp2_with (first | (go_at_call 36; refine via (s_IsRing _ _ _) ?_; intro uu zz; try simp at zz) | (go_at_call 38; refine pur (HM.out _) ?_))
  refine viaDr (s_next B b _ _ (by repeat (with_reducible first | assumption | apply src.aft | apply src.alloc | apply src.drew | (refine src.set ?_ ?_ ?_ _) | (simp; done) | (simp; omega) | omega)) (by omega)) ?_
  intro x1 u1 hx1 hs1 hl1
  (try dsimp only at hx1)
  go_wp2_with fail
  refine viaDr (s_next B b _ _ hs1 (by omega)) ?_
  intro x2 u2 hx2 hs2 hl2
  (try dsimp only at hx2)
  go_wp2_with fail
  refine viaDr (s_next B b _ _ hs2 (by omega)) ?_
  intro x3 u3 hx3 hs3 hl3
  (try dsimp only at hx3)
  go_wp2_with fail
  refine viaDr (s_next B b _ _ hs3 (by omega)) ?_
  intro x4 u4 hx4 hs4 hl4
  (try dsimp only at hx4)
  go_wp2_with fail
  refine viaDr (s_next B b _ _ hs4 (by omega)) ?_
  intro x5 u5 hx5 hs5 hl5
  (try dsimp only at hx5)
  go_wp2_with fail
  refine viaDr (s_pickA B b _ _ _ [x1, x2, x3, 0, 1, M - 1, M, -1, x4, x5] _ _ _ (by simp) rfl rfl (by repeat (with_reducible first | assumption | apply src.aft | apply src.alloc | apply src.drew | (refine src.set ?_ ?_ ?_ _) | (simp; done) | (simp; omega) | omega)) (by decide) (by decide)) ?_
  intro y v hy hs6 hl6
  clear hy
  go_wp2_with fail
  go_ret
  exact ⟨y, rfl, trivial, (by show Gr _ _ _; repeat (with_reducible first | exact Gr.refl _ _ | apply Gr.aftD | apply Gr.aft | apply Gr.alloc | apply Gr.drew | apply Gr.set | (simp; done) | (simp; omega) | omega)), hs6⟩
end Go.Proofs.Ytdhnpmjoajaeiaa
