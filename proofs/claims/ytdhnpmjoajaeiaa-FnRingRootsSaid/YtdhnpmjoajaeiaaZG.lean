/- Draws: a ring and a polynomial, often with roots. -/
import Derived.Test.YtdhnpmjoajaeiaaZF
import Derived.Test.YtdhnpmjoajaeiaaZ6
namespace Go.Proofs.Ytdhnpmjoajaeiaa
open Go Go.RowKit

set_option maxRecDepth 20000 in
set_option maxHeartbeats 16000000 in
theorem s_draw11 (B b : Nat) (w : World) (h : src B b w) :
    Calls Try.prog 33 #[.pointer (some ⟨b, 0, none⟩)] w (DrawX B b w (fun w' v => ∃ (p n : Int) (s : Value) (xs : List Int), v = .tuple #[.agg #[.int .i64 p, .int .i64 n], s] ∧ ownR w.heap.size w' s xs ∧ xs.length ≤ 11)) := by
  obtain ⟨i0, hi, hz0, hz1, hz2⟩ := info_parts infoI
  have hb := h.lt
  have hB := h.ge
  go_enter Try.func33, Try.ntmps33
  go_wp2_with fail
  refine viaDr (s_draw2 B b _ (h.alloc _)) ?_
  intro y u hy hs hl
  (try simp at hl)
  obtain ⟨p, n⟩ := y
  clear hy
  dsimp only
  go_wp2_with fail
  obtain ⟨V, hV⟩ : ∃ V, V = aftD b (w.alloc (Obj.cells #[Value.int IntKind.i64 0, Value.int IntKind.i64 0] 27)) u := ⟨_, rfl⟩
  have lV : w.heap.size + 1 ≤ V.heap.size := by rw [hV]; omega
  have hgV : Gr b w V := by rw [hV]; exact ((Gr.refl b w).alloc _).aftD _
  have hrV : ∀ k, k < 2 → V.frozen? ⟨w.heap.size, k, none⟩ = false ∧ (V.cell? ⟨w.heap.size, k, none⟩).isSome = true := by
    intro j hj
    obtain rfl | rfl : j = 0 ∨ j = 1 := by omega
    all_goals (rw [hV, aftD_frozen, aftD_cell, if_pos (by simp; omega), if_pos (by simp; omega)]; simp [go_sem])
  rw [← hV] at hs ⊢
  clear hV hl
  obtain ⟨K, hK⟩ : ∃ K, K = V.heap.size := ⟨_, rfl⟩
  obtain ⟨X, hX⟩ : ∃ X, X = V.alloc (Obj.cells #[Value.int IntKind.i64 p, Value.int IntKind.i64 n] 27) := ⟨_, rfl⟩
  have hST9 : stR B b p n K w X := by
    refine ⟨by rw [hX]; exact hgV.alloc _, by rw [hX]; exact hs.alloc _, fun o => by rw [hX, alloc_cell, if_pos hK], fun k hk => ?_, by omega, by rw [hX, hK]; simp, hb⟩
    rw [hX, alloc_frozen, alloc_cell, if_neg (by omega), if_neg (by omega)]
    exact hrV k hk
  rw [← hX, ← hK]
  have hwK : w.heap.size < K := by omega
  have hKb : K ≠ b := by omega
  have hKR : K ≠ w.heap.size := by omega
  clear hX hK hs hgV hrV lV h
  refine viaDX (s_draw6 B b _ hST9.srcw) ?_
  intro t u1 ht hs1 hl1
  obtain ⟨xs, own1, hxl⟩ := ht
  obtain ⟨a5, c5, hsh, _, _⟩ := own1.rd
  subst hsh
  have hkx := hST9.kx
  have HXL := hid hxl
  clear hxl
  go_wp2_with fail
  refine viaDr (s_next B b _ _ hs1 (by omega)) ?_
  intro x v hx hs2 hl2
  (try dsimp only at hx)
  have hST8 := hST9.next (((Gr.refl b _).aftD u1).aftD v) hs2
  have own2 : ownR (K + 1) (aftD b (aftD b X u1) v) (.slice a5 xs.length c5) xs := (own1.aftD v (by omega)).mono (by omega)
  obtain ⟨X', hX'⟩ : ∃ Y, Y = aftD b (aftD b X u1) v := ⟨_, rfl⟩
  rw [← hX'] at hST8 own2 ⊢
  clear hX' hST9 own1 hs1 hs2 hl1 hl2 hkx
  obtain ⟨X, hX9⟩ : ∃ X, X = X' := ⟨_, rfl⟩
  rw [← hX9] at hST8 own2 ⊢
  clear hX9
  have HST := hid hST8
  have HO := hid own2
  clear hST8 own2
  by_cases h0 : x = 0
  · subst h0
    have hkx := HST.out.kx
    go_wp2_with fail
    refine viaDr (s_next B b _ _ HST.out.srcw (by omega)) ?_
    intro d1 w1 hd1 hs1 hl1
    (try dsimp only at hd1)
    go_wp2_with fail
    refine viaDr (s_next B b _ _ (hs1.alloc _) (by omega)) ?_
    intro d2 w2 hd2 hs2 hl2
    (try dsimp only at hd2)
    (try simp at hl2)
    go_wp2_with fail
    refine viaDr (s_next B b _ _ hs2 (by omega)) ?_
    intro d3 w3 hd3 hs3 hl3
    (try dsimp only at hd3)
    go_wp2_with fail
    have o0 : ownR (aftD b X w1).heap.size ((aftD b X w1).alloc (Obj.cells #[.int .i64 (d1 - 6), .int .i64 1] 2)) (.slice (some ⟨(aftD b X w1).heap.size, 0, none⟩) 2 2) [d1 - 6, 1] := own_cells (aftD b X w1) _ [d1 - 6, 1] rfl (by simp)
    have o1 := (o0.aftD (b := b) w2 (by omega)).aftD (b := b) w3 (by omega)
    obtain ⟨Y3, hY3⟩ : ∃ Y, Y = aftD b (aftD b ((aftD b X w1).alloc (Obj.cells #[.int .i64 (d1 - 6), .int .i64 1] 2)) w2) w3 := ⟨_, rfl⟩
    have hG3 : Gr b X Y3 := by rw [hY3]; exact ((((Gr.refl b _).aftD w1).alloc _).aftD w2).aftD w3
    rw [← hY3] at o1 hs3 hl3 ⊢
    have hK3 : K + 1 ≤ Y3.heap.size := by have := hG3.size; omega
    clear hY3 o0
    have o3 : ownR Y3.heap.size (Y3.alloc (Obj.cells #[.int .i64 (d2 - 6), .int .i64 (d3 - 2), .int .i64 1] 2)) (.slice (some ⟨Y3.heap.size, 0, none⟩) 3 3) [d2 - 6, d3 - 2, 1] := own_cells Y3 _ [d2 - 6, d3 - 2, 1] rfl (by simp)
    refine (s_productW _ _ [d1 - 6, 1] [d2 - 6, d3 - 2, 1] _ (o1.alloc _).rd o3.rd (by simp) (by simp) (by intro c hc; simp at hc; omega) (by intro c hc; simp at hc; omega)).mono ?_
    rintro e W4 ⟨v4, zs, rfl, ho, hzl, hb4⟩
    obtain ⟨u4, rfl⟩ := aft_ex hb4
    obtain ⟨a6, c6, hsh6, _, _⟩ := ho.rd
    subst hsh6
    have hST7 := HST.out.next ((hG3.alloc (Obj.cells #[.int .i64 (d2 - 6), .int .i64 (d3 - 2), .int .i64 1] 2)).aft u4) ((hs3.alloc _).aft u4)
    obtain ⟨X9, hX9⟩ : ∃ Y, Y = aft (Y3.alloc (Obj.cells #[.int .i64 (d2 - 6), .int .i64 (d3 - 2), .int .i64 1] 2)) u4 := ⟨_, rfl⟩
    have own7 : ownR (K + 1) X9 (.slice a6 zs.length c6) zs := by rw [hX9]; exact ho.mono (by simp; omega)
    have hzl9 : zs.length ≤ 11 := by simp at hzl; omega
    rw [← hX9] at hST7 ⊢
    clear hX9 ho hb4 o1 o3 hs1 hs2 hs3 hl1 hl2 hl3 HO HST hkx hzl hG3 hK3
    obtain ⟨X, hX9⟩ : ∃ X, X = X9 := ⟨_, rfl⟩
    rw [← hX9] at hST7 own7 ⊢
    clear hX9
    have HST := hid hST7
    have HO := hid own7
    have HZL := hid hzl9
    clear hST7 own7 hzl9
    obtain ⟨e0, he0, e1, he1, hf0, hf1, gX, hKX⟩ : ∃ e0, X.cell? ⟨w.heap.size, 0, none⟩ = some e0 ∧ ∃ e1, X.cell? ⟨w.heap.size, 1, none⟩ = some e1 ∧ X.frozen? ⟨w.heap.size, 0, none⟩ = false ∧ X.frozen? ⟨w.heap.size, 1, none⟩ = false ∧ (∀ o, X.cell? ⟨K, o, none⟩ = #[Value.int .i64 p, .int .i64 n][o]?) ∧ K < X.heap.size := by obtain ⟨q1, q2⟩ := HST.out.res 0 (by omega); obtain ⟨q3, q4⟩ := HST.out.res 1 (by omega); obtain ⟨e0, h0⟩ := Option.isSome_iff_exists.1 q2; obtain ⟨e1, h1⟩ := Option.isSome_iff_exists.1 q4; exact ⟨e0, h0, e1, h1, q1, q3, HST.out.ring, HST.out.kx⟩
    have g0 := gX 0
    have g1 := gX 1
    simp at g0 g1
    go_wp2_with fail
    exact bodyPost_ret (v := .tuple #[.agg #[Value.int IntKind.i64 p, Value.int IntKind.i64 n], .slice a6 zs.length c6]) (by first | (simp [results, go_sem, he0, he1]; done) | simp [results, go_sem, he0, he1, ↓IntWalk.iteOmega]) rfl ⟨_, rfl, ⟨p, n, _, zs, rfl, ((HO.out.setCell _ _ _ _ (by omega)).setCell _ _ _ _ (by omega)).mono (by omega), HZL.out⟩, Gr.set (Gr.set HST.out.gr (by omega)) (by omega), (HST.out.srcw.set (by omega) (by omega) _).set (by omega) (by omega) _⟩
  · have h0' : (x == 0) = false := by simpa using h0
    obtain ⟨e0, he0, e1, he1, hf0, hf1, gX, hKX⟩ : ∃ e0, X.cell? ⟨w.heap.size, 0, none⟩ = some e0 ∧ ∃ e1, X.cell? ⟨w.heap.size, 1, none⟩ = some e1 ∧ X.frozen? ⟨w.heap.size, 0, none⟩ = false ∧ X.frozen? ⟨w.heap.size, 1, none⟩ = false ∧ (∀ o, X.cell? ⟨K, o, none⟩ = #[Value.int .i64 p, .int .i64 n][o]?) ∧ K < X.heap.size := by obtain ⟨q1, q2⟩ := HST.out.res 0 (by omega); obtain ⟨q3, q4⟩ := HST.out.res 1 (by omega); obtain ⟨e0, h0⟩ := Option.isSome_iff_exists.1 q2; obtain ⟨e1, h1⟩ := Option.isSome_iff_exists.1 q4; exact ⟨e0, h0, e1, h1, q1, q3, HST.out.ring, HST.out.kx⟩
    have g0 := gX 0
    have g1 := gX 1
    simp at g0 g1
    go_wp2_with fail
    exact bodyPost_ret (v := .tuple #[.agg #[Value.int IntKind.i64 p, Value.int IntKind.i64 n], .slice a5 xs.length c5]) (by first | (simp [results, go_sem, he0, he1]; done) | simp [results, go_sem, he0, he1, ↓IntWalk.iteOmega]) rfl ⟨_, rfl, ⟨p, n, _, xs, rfl, ((HO.out.setCell _ _ _ _ (by omega)).setCell _ _ _ _ (by omega)).mono (by omega), HXL.out⟩, Gr.set (Gr.set HST.out.gr (by omega)) (by omega), (HST.out.srcw.set (by omega) (by omega) _).set (by omega) (by omega) _⟩
end Go.Proofs.Ytdhnpmjoajaeiaa
