/- Draws: rings and residues. -/
import Derived.Test.YtflmoopiajhadaaT27
import Derived.Test.YtflmoopiajhadaaT4
import Derived.Test.YtflmoopiajhadaaMA
namespace Go.Proofs.Ytflmoopiajhadaa
open Go Go.RowKit

theorem drewC_cell (w : World) (a : Addr) : w.drew.cell? a = w.cell? a := rfl

set_option maxRecDepth 20000 in
set_option maxHeartbeats 4000000 in
theorem s_valid2 (B b : Nat) (w : World) (h : src B b w) :
    Calls Try.prog 82 #[.pointer (some ⟨b, 0, none⟩)] w (Draws B b w (fun x : Int × Int => .agg #[.int .i64 x.1, .int .i64 x.2]) (fun x => (2 ≤ x.1 ∧ x.1 ≤ 13) ∧ 1 ≤ x.2 ∧ x.2 ≤ 6)) := by
  have hb := h.lt
  have hB := h.ge
  go_enter Try.func82, Try.ntmps82
  go_wp2_with fail
  refine viaDr (s_pickA B b _ _ _ [2, 3, 5, 7, 2, 3, 5, 11, 13] _ _ _ (by simp) rfl rfl (by repeat (with_reducible first | assumption | apply src.aft | apply src.alloc | apply src.drew | (refine src.set ?_ ?_ ?_ _) | (simp; done) | (simp; omega) | omega)) (by decide) (by decide)) ?_
  intro p u hx hs hl
  (try simp at hl)
  have hp : 2 ≤ p ∧ p ≤ 13 := by simp at hx; omega
  clear hx
  go_wp2_with fail
  refine viaDr (s_next B b _ _ (by repeat (with_reducible first | assumption | apply src.aft | apply src.alloc | apply src.drew | (refine src.set ?_ ?_ ?_ _) | (simp; done) | (simp; omega) | omega)) (by omega)) ?_
  intro y v hy hs2 hl2
  (try simp at hl2)
  (try dsimp only at hy)
  go_wp2_with fail
  obtain ⟨W, hW⟩ : ∃ W, W = aftD b (aftD b ((w.alloc (Obj.cells #[Value.int IntKind.i64 0, Value.int IntKind.i64 0] 25)).alloc (Obj.cells #[Value.int IntKind.i64 2, Value.int IntKind.i64 3, Value.int IntKind.i64 5, Value.int IntKind.i64 7, Value.int IntKind.i64 2, Value.int IntKind.i64 3, Value.int IntKind.i64 5, Value.int IntKind.i64 11, Value.int IntKind.i64 13] 2)) u) v := ⟨_, rfl⟩
  have hne : w.heap.size ≠ b := by omega
  have c0 : ∀ o, W.cell? ⟨w.heap.size, o, none⟩ = #[Value.int IntKind.i64 0, Value.int IntKind.i64 0][o]? := fun o => by rw [hW, aftD_cell, if_pos (by omega), aftD_cell, if_pos (by simp; omega), alloc_cell, if_neg (by simp), alloc_cell, if_pos rfl]
  have f0 : ∀ o, W.frozen? ⟨w.heap.size, o, none⟩ = false := fun o => by rw [hW, aftD_frozen, if_pos (by omega), aftD_frozen, if_pos (by simp; omega), alloc_frozen, if_neg (by simp), alloc_frozen, if_pos rfl]
  have hG : Hid (Gr b w W) := hid (by rw [hW]; exact (by show Gr _ _ _; repeat (with_reducible first | exact Gr.refl _ _ | apply Gr.aftD | apply Gr.aft | apply Gr.alloc | apply Gr.drew | apply Gr.set | (simp; done) | (simp; omega) | omega)))
  have lW : w.heap.size < W.heap.size := by rw [hW]; omega
  rw [← hW] at hs2 ⊢
  clear hW hs hl hl2
  go_loop [4] (fun k => ∃ m : Int, k = .int .i64 m ∧ 1 ≤ m ∧ m ≤ 6) (fun k => (intOf k).toNat)
  case atStart => exact ⟨_, rfl, by omega, by omega⟩
  case round =>
    obtain ⟨m, rfl, hm1, hm2⟩ := hrel
    by_cases hz : modu p m = 0
    · have hz' : (modu p m == 0) = true := by simpa using hz
      have hm3 : m ≠ 1 := by intro e; rw [e, modu_1 (by omega)] at hz; omega
      clear hz
      go_wp2_with (go_at_call 50; refine pur (s_modulus _ _ _ (by omega) (by omega) (by omega)) ?_)
      go_round
      case rel => exact ⟨_, rfl, by omega, by omega⟩
      case measure => simp [intOf]; omega
    · have hz' : (modu p m == 0) = false := by simpa using hz
      clear hz
      go_wp2_with (go_at_call 50; refine pur (s_modulus _ _ _ (by omega) (by omega) (by omega)) ?_)
      exact bodyPost_ret (v := .agg #[.int .i64 p, .int .i64 m]) (by simp [results, go_sem, ↓IntWalk.iteOmega, c0]) rfl ⟨(p, m), rfl, by simp only; omega, (show Gr _ _ _ by repeat (with_reducible first | exact hG.out | apply Gr.aftD | apply Gr.set | (simp; done) | (simp; omega) | omega)), (by repeat (with_reducible first | assumption | apply src.aft | apply src.alloc | apply src.drew | (refine src.set ?_ ?_ ?_ _) | (simp; done) | (simp; omega) | omega))⟩
end Go.Proofs.Ytflmoopiajhadaa
