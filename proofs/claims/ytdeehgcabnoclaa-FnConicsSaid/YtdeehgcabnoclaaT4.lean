/- Draws: a p-adic number of a prime. -/
import Derived.Test.YtdeehgcabnoclaaT3
import Derived.Test.YtdeehgcabnoclaaA9
namespace Go.Proofs.Ytdeehgcabnoclaa
open Go Go.RowKit

theorem modu_1 {p : Int} (hp : 2 ≤ p ∧ p ≤ 97) : modu p 1 = p := by
  unfold modu
  have e : p ^ (1 : Int).toNat = p := by show p ^ (0 + 1) = p; rw [Int.pow_succ]; simp
  rw [e, if_pos (by omega)]
theorem modu_bd {p n : Int} (hp : 2 ≤ p ∧ p ≤ 97) (h : modu p n ≠ 0) : 1 ≤ modu p n ∧ modu p n ≤ 1000000000 := by
  unfold modu at h ⊢
  split
  · have := pow_pos' (show 1 ≤ p by omega) n.toNat
    omega
  · rename_i h1
    rw [if_neg h1] at h
    exact absurd rfl h

set_option maxRecDepth 20000 in
set_option maxHeartbeats 4000000 in
theorem s_valid3 (B b : Nat) (p : Int) (w : World) (h : src B b w) (hp : 2 ≤ p ∧ p ≤ 97) :
    Calls Try.prog 59 #[.pointer (some ⟨b, 0, none⟩), .int .i64 p] w (Draws B b w (fun x : Pd => .agg #[.int .i64 x.p, .int .i64 x.v, .int .i64 x.u, .int .i64 x.n]) (fun x => x.p = p ∧ (-10 ≤ x.v ∧ x.v ≤ 10) ∧ (0 ≤ x.u ∧ x.u ≤ 1000000000) ∧ (0 ≤ x.n ∧ x.n ≤ 8))) := by
  have hb := h.lt
  have hB := h.ge
  go_enter Try.func59, Try.ntmps59
  go_wp2_with fail
  refine viaDr (s_next B b _ _ (by repeat (with_reducible first | assumption | apply src.aft | apply src.alloc | apply src.drew | (refine src.set ?_ ?_ ?_ _) | (simp; done) | (simp; omega) | omega)) (by omega)) ?_
  intro x u hx hs hl
  (try simp at hl)
  (try dsimp only at hx)
  by_cases h0 : x = 0
  · subst h0
    go_wp2_with fail
    refine viaDr (s_next B b _ _ (by repeat (with_reducible first | assumption | apply src.aft | apply src.alloc | apply src.drew | (refine src.set ?_ ?_ ?_ _) | (simp; done) | (simp; omega) | omega)) (by omega)) ?_
    intro y v hy hs2 hl2
    (try simp at hl2)
    (try dsimp only at hy)
    go_wp2_with fail
    exact bodyPost_ret (v := .agg #[.int .i64 p, .int .i64 (y - 6), .int .i64 0, .int .i64 0]) (by first | (simp [results, go_sem]; done) | simp [results, go_sem, ↓IntWalk.iteOmega]) rfl ⟨⟨p, y - 6, 0, 0⟩, rfl, ⟨rfl, by simp only; omega⟩, (by show Gr _ _ _; repeat (with_reducible first | exact Gr.refl _ _ | apply Gr.aftD | apply Gr.aft | apply Gr.alloc | apply Gr.drew | apply Gr.set | (simp; done) | (simp; omega) | omega)), (by repeat (with_reducible first | assumption | apply src.aft | apply src.alloc | apply src.drew | (refine src.set ?_ ?_ ?_ _) | (simp; done) | (simp; omega) | omega))⟩
  have h0' : (x == 0) = false := by simpa using h0
  go_wp2_with fail
  refine viaDr (s_next B b _ _ (by repeat (with_reducible first | assumption | apply src.aft | apply src.alloc | apply src.drew | (refine src.set ?_ ?_ ?_ _) | (simp; done) | (simp; omega) | omega)) (by omega)) ?_
  intro y v hy hs2 hl2
  (try simp at hl2)
  (try dsimp only at hy)
  go_wp2_with fail
  obtain ⟨W, hW⟩ : ∃ W, W = aftD b (aftD b (w.alloc (Obj.cells #[Value.int IntKind.i64 0, Value.int IntKind.i64 0, Value.int IntKind.i64 0, Value.int IntKind.i64 0] 29)) u) v := ⟨_, rfl⟩
  have hne : w.heap.size ≠ b := by omega
  have c0 : ∀ o, W.cell? ⟨w.heap.size, o, none⟩ = #[Value.int IntKind.i64 0, Value.int IntKind.i64 0, Value.int IntKind.i64 0, Value.int IntKind.i64 0][o]? := fun o => by rw [hW, aftD_cell, if_pos (by omega), aftD_cell, if_pos (by simp; omega), alloc_cell, if_pos rfl]
  have f0 : ∀ o, W.frozen? ⟨w.heap.size, o, none⟩ = false := fun o => by rw [hW, aftD_frozen, if_pos (by omega), aftD_frozen, if_pos (by simp; omega), alloc_frozen, if_pos rfl]
  have hG : Hid (Gr b w W) := hid (by rw [hW]; exact (by show Gr _ _ _; repeat (with_reducible first | exact Gr.refl _ _ | apply Gr.aftD | apply Gr.aft | apply Gr.alloc | apply Gr.drew | apply Gr.set | (simp; done) | (simp; omega) | omega)))
  have lW : w.heap.size < W.heap.size := by rw [hW]; omega
  rw [← hW] at hs2 ⊢
  clear hW hs hl hl2 hx h0 h0'
  go_loop [5] (fun k => ∃ m : Int, k = .int .i64 m ∧ 1 ≤ m ∧ m ≤ 8) (fun k => (intOf k).toNat)
  case atStart => exact ⟨_, rfl, by omega, by omega⟩
  case round =>
    obtain ⟨m, rfl, hm1, hm2⟩ := hrel
    by_cases hz : modu p m = 0
    · have hz' : (modu p m == 0) = true := by simpa using hz
      have hm3 : m ≠ 1 := by intro e; rw [e, modu_1 hp] at hz; omega
      clear hz
      go_wp2_with (go_at_call 62; refine pur (s_modulus _ _ _ (by omega) (by omega) (by omega)) ?_)
      go_round
      case rel => exact ⟨_, rfl, by omega, by omega⟩
      case measure => simp [intOf]; omega
    · have hz' : (modu p m == 0) = false := by simpa using hz
      obtain ⟨hM1, hM2⟩ := modu_bd hp hz
      clear hz
      go_wp2_with (go_at_call 62; refine pur (s_modulus _ _ _ (by omega) (by omega) (by omega)) ?_)
      refine viaDr (s_next B b _ _ (by repeat (with_reducible first | assumption | apply src.aft | apply src.alloc | apply src.drew | (refine src.set ?_ ?_ ?_ _) | (simp; done) | (simp; omega) | omega)) (by omega)) ?_
      intro z v2 hz hs3 hl3
      (try dsimp only at hz)
      go_wp2_with fail
      go_loop [6] (fun k => ∃ m : Int, k = .int .i64 m ∧ 1 ≤ m ∧ m ≤ 1000000000) (fun k => (intOf k).toNat)
      case atStart => exact ⟨_, rfl, by omega, by omega⟩
      case round =>
        obtain ⟨q, rfl, hq1, hq2⟩ := hrel
        have hqt : q.tmod p = q % p := Int.tmod_eq_emod_of_nonneg (by omega)
        have hqd : q.tdiv p = q / p := Int.tdiv_eq_ediv_of_nonneg (by omega)
        by_cases hr : q % p = 0
        · have hr' : (q % p == 0) = true := by simpa using hr
          have hd := Int.mul_ediv_add_emod q p
          rw [hr] at hd
          have hq3 : 1 ≤ q / p := by
            rcases Int.lt_or_le 0 (q / p) with h1 | h1
            · omega
            · have := Int.mul_nonpos_of_nonneg_of_nonpos (show 0 ≤ p by omega) h1; omega
          have hq4 : q / p < q := Int.ediv_lt_self_of_pos_of_ne_one (by omega) (by omega) 
          clear hr hd
          go_wp2_with fail
          go_round
          case rel => exact ⟨_, rfl, by omega, by omega⟩
          case measure => simp [intOf]; omega
        · have hr' : (q % p == 0) = false := by simpa using hr
          clear hr
          go_wp2_with fail
          refine viaDr (s_next B b _ _ (by repeat (with_reducible first | assumption | apply src.aft | apply src.alloc | apply src.drew | (refine src.set ?_ ?_ ?_ _) | (simp; done) | (simp; omega) | omega)) (by omega)) ?_
          intro t v3 ht hs4 hl4
          (try dsimp only at ht)
          go_wp2_with fail
          exact bodyPost_ret (v := .agg #[.int .i64 p, .int .i64 (t - 4), .int .i64 q, .int .i64 m]) (by simp [results, go_sem, ↓IntWalk.iteOmega, c0]) rfl ⟨⟨p, t - 4, q, m⟩, rfl, ⟨rfl, by simp only; omega⟩, (show Gr _ _ _ by repeat (with_reducible first | exact hG.out | apply Gr.aftD | apply Gr.set | (simp; done) | (simp; omega) | omega)), (by repeat (with_reducible first | assumption | apply src.aft | apply src.alloc | apply src.drew | (refine src.set ?_ ?_ ?_ _) | (simp; done) | (simp; omega) | omega))⟩
end Go.Proofs.Ytdeehgcabnoclaa
