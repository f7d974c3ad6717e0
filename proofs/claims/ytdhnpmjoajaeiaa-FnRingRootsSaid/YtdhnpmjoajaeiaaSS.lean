/- The draw of the law on roots: a ring and a residue, often a square. -/
import Derived.Test.YtdhnpmjoajaeiaaSR
namespace Go.Proofs.Ytdhnpmjoajaeiaa
open Go Go.RowKit

set_option maxRecDepth 20000 in
set_option maxHeartbeats 16000000 in
theorem s_DrawSquareRootsOf (B : Nat) (a : Option Addr) (len cap : Nat) (w : World) (h : rdB B w a len) (hl : len ≤ 4096) (hB : B ≤ w.heap.size) :
    Calls Try.prog 18 #[.slice a len cap] w fun e w' => ∃ (p n x : Int), e = .returned (.tuple #[.agg #[.int .i64 p, .int .i64 n], .int .i64 x]) ∧ Below w.heap.size w w' := by
  go_enter Try.func18, Try.ntmps18
  go_wp2_with fail
  refine viaF (s_from B a len cap _ (h.of fun j o v hj hv => by rw [alloc_cell, if_neg (by omega)]; exact hv) hl (by simp; omega)) ?_
  intro b u0 hs0 hb0 hl0 hl1
  simp at hb0 hl0
  go_wp2_with fail
  refine viaDr (s_draw2 B b _ hs0) ?_
  intro y u hy hs hl2
  clear hy
  obtain ⟨p, n⟩ := y
  dsimp only
  go_wp2_with fail
  obtain ⟨V, hV⟩ : ∃ V, V = aftD b (aft (w.alloc (Obj.cells #[Value.int IntKind.i64 0, Value.int IntKind.i64 0] 27)) u0) u := ⟨_, rfl⟩
  obtain ⟨K, hK⟩ : ∃ K, K = V.heap.size := ⟨_, rfl⟩
  have hres : resR w.heap.size V := by
    intro j hj
    obtain rfl | rfl : j = 0 ∨ j = 1 := by omega
    all_goals (rw [hV, aftD_frozen, aftD_cell, if_pos (by omega), if_pos (by omega), aft_cell, aft_frozen, if_pos (by simp), if_pos (by simp)]; simp [go_sem])
  have hE : Ext w.heap.size w V := by rw [hV]; exact (((Ext.refl w).alloc _).aft _).aftD _ (by omega)
  rw [← hV] at hs hl2 ⊢
  have hbK : b < K := by omega
  clear hV
  obtain ⟨X, hX⟩ : ∃ X, X = V.alloc (Obj.cells #[Value.int IntKind.i64 p, Value.int IntKind.i64 n] 27) := ⟨_, rfl⟩
  have hST9 : stL B b p n K w X := by
    refine ⟨by rw [hX]; exact hE.alloc _, by rw [hX]; exact hs.alloc _, fun o => by rw [hX, alloc_cell, if_pos hK], fun k hk => ?_, by omega, hbK, by rw [hX, hK]; simp⟩
    rw [hX, alloc_frozen, alloc_cell, if_neg (by omega), if_neg (by omega)]
    exact hres k hk
  rw [← hX, ← hK]
  have hwb : w.heap.size < b := by omega
  clear hX hK hs hres hE hl2 hl1 hl0 hs0 hb0
  have hKb : K ≠ b := by omega
  have hKR : K ≠ w.heap.size := by omega
  have HST := hid hST9
  clear hST9
  (obtain ⟨e0, he0, e1, he1, hf0, hf1, gX, hKX⟩ : ∃ e0, X.cell? ⟨w.heap.size, 0, none⟩ = some e0 ∧ ∃ e1, X.cell? ⟨w.heap.size, 1, none⟩ = some e1 ∧ X.frozen? ⟨w.heap.size, 0, none⟩ = false ∧ X.frozen? ⟨w.heap.size, 1, none⟩ = false ∧ (∀ o, X.cell? ⟨K, o, none⟩ = #[Value.int .i64 p, .int .i64 n][o]?) ∧ K < X.heap.size := (by obtain ⟨q1, q2⟩ := HST.out.res 0 (by omega); obtain ⟨q3, q4⟩ := HST.out.res 1 (by omega); obtain ⟨e0, h0⟩ := Option.isSome_iff_exists.1 q2; obtain ⟨e1, h1⟩ := Option.isSome_iff_exists.1 q4; exact ⟨e0, h0, e1, h1, q1, q3, HST.out.ring, HST.out.kx⟩)); have g0 := gX 0; have g1 := gX 1; simp at g0 g1
  go_wp2_with fail
  refine viaDr (s_residue B b p n _ HST.out.srcw) ?_
  intro x9 u9 hx9 hs9 hl9
  clear hx9 he0 he1 hf0 hf1 gX g0 g1 hKX e0 e1
  (obtain ⟨X9, hX9⟩ : ∃ Y, Y = aftD b X u9 := ⟨_, rfl⟩); have hST9 : stL B b p n K w X9 := (by rw [hX9]; exact HST.out.next ((Gr.refl b _).aftD _) hs9); rw [← hX9]; clear hX9 HST hs9 hl9; (obtain ⟨X, hX9⟩ : ∃ X, X = X9 := ⟨_, rfl⟩); rw [← hX9] at hST9 ⊢; clear hX9; have HST := hid hST9; clear hST9
  cases hr : ringB p n
  · (obtain ⟨e0, he0, e1, he1, hf0, hf1, gX, hKX⟩ : ∃ e0, X.cell? ⟨w.heap.size, 0, none⟩ = some e0 ∧ ∃ e1, X.cell? ⟨w.heap.size, 1, none⟩ = some e1 ∧ X.frozen? ⟨w.heap.size, 0, none⟩ = false ∧ X.frozen? ⟨w.heap.size, 1, none⟩ = false ∧ (∀ o, X.cell? ⟨K, o, none⟩ = #[Value.int .i64 p, .int .i64 n][o]?) ∧ K < X.heap.size := (by obtain ⟨q1, q2⟩ := HST.out.res 0 (by omega); obtain ⟨q3, q4⟩ := HST.out.res 1 (by omega); obtain ⟨e0, h0⟩ := Option.isSome_iff_exists.1 q2; obtain ⟨e1, h1⟩ := Option.isSome_iff_exists.1 q4; exact ⟨e0, h0, e1, h1, q1, q3, HST.out.ring, HST.out.kx⟩)); have g0 := gX 0; have g1 := gX 1; simp at g0 g1
    go_wp2_with fail
    refine via (s_IsRing _ _ _) ?_
    rw [hr]
    intro uu zz
    try simp at zz
    clear he0 he1 hf0 hf1 gX g0 g1 hKX e0 e1
    (obtain ⟨X9, hX9⟩ : ∃ Y, Y = aft X uu := ⟨_, rfl⟩); have hST9 : stL B b p n K w X9 := (by rw [hX9]; exact HST.out.next ((Gr.refl b _).aft _) (HST.out.srcw.aft _)); rw [← hX9]; clear hX9 HST zz; (obtain ⟨X, hX9⟩ : ∃ X, X = X9 := ⟨_, rfl⟩); rw [← hX9] at hST9 ⊢; clear hX9; have HST := hid hST9; clear hST9
    (obtain ⟨e0, he0, e1, he1, hf0, hf1, gX, hKX⟩ : ∃ e0, X.cell? ⟨w.heap.size, 0, none⟩ = some e0 ∧ ∃ e1, X.cell? ⟨w.heap.size, 1, none⟩ = some e1 ∧ X.frozen? ⟨w.heap.size, 0, none⟩ = false ∧ X.frozen? ⟨w.heap.size, 1, none⟩ = false ∧ (∀ o, X.cell? ⟨K, o, none⟩ = #[Value.int .i64 p, .int .i64 n][o]?) ∧ K < X.heap.size := (by obtain ⟨q1, q2⟩ := HST.out.res 0 (by omega); obtain ⟨q3, q4⟩ := HST.out.res 1 (by omega); obtain ⟨e0, h0⟩ := Option.isSome_iff_exists.1 q2; obtain ⟨e1, h1⟩ := Option.isSome_iff_exists.1 q4; exact ⟨e0, h0, e1, h1, q1, q3, HST.out.ring, HST.out.kx⟩)); have g0 := gX 0; have g1 := gX 1; simp at g0 g1
    go_wp2_with fail
    exact bodyPost_ret (v := .tuple #[.agg #[Value.int IntKind.i64 p, Value.int IntKind.i64 n], .int .i64 x9]) (by first | (simp [results, go_sem, he0, he1]; done) | simp [results, go_sem, he0, he1, ↓IntWalk.iteOmega]) rfl ⟨p, n, x9, rfl, (Ext.bel (by repeat (with_reducible first | exact HST.out.ext | apply Ext.drew | apply Ext.alloc | apply Ext.aft | (refine Ext.aftD ?_ _ (by omega)) | (refine Ext.setCell ?_ _ _ _ _ (by omega)))))⟩
  · obtain ⟨r1, r2, r3, r4, _, _, _⟩ := ring_facts2 hr
    have HM : Hid (∀ W : World, Calls Try.prog 38 #[.int .i64 p, .int .i64 n] W fun e w' => e = .returned (.int .i64 (p ^ n.toNat)) ∧ W = w') := hid fun W => by
      have := s_modulus p n W (by omega) (by omega) (by omega)
      rw [modu_ring hr] at this
      exact this
    obtain ⟨M, hM⟩ : ∃ M, M = p ^ n.toNat := ⟨_, rfl⟩
    rw [← hM] at HM r3 r4
    clear hM
    have HRB := hid hr
    clear hr
    (obtain ⟨e0, he0, e1, he1, hf0, hf1, gX, hKX⟩ : ∃ e0, X.cell? ⟨w.heap.size, 0, none⟩ = some e0 ∧ ∃ e1, X.cell? ⟨w.heap.size, 1, none⟩ = some e1 ∧ X.frozen? ⟨w.heap.size, 0, none⟩ = false ∧ X.frozen? ⟨w.heap.size, 1, none⟩ = false ∧ (∀ o, X.cell? ⟨K, o, none⟩ = #[Value.int .i64 p, .int .i64 n][o]?) ∧ K < X.heap.size := (by obtain ⟨q1, q2⟩ := HST.out.res 0 (by omega); obtain ⟨q3, q4⟩ := HST.out.res 1 (by omega); obtain ⟨e0, h0⟩ := Option.isSome_iff_exists.1 q2; obtain ⟨e1, h1⟩ := Option.isSome_iff_exists.1 q4; exact ⟨e0, h0, e1, h1, q1, q3, HST.out.ring, HST.out.kx⟩)); have g0 := gX 0; have g1 := gX 1; simp at g0 g1
    go_wp2_with fail
    refine via (s_IsRing _ _ _) ?_
    rw [HRB.out]
    intro uu zz
    try simp at zz
    clear he0 he1 hf0 hf1 gX g0 g1 hKX e0 e1
    (obtain ⟨X9, hX9⟩ : ∃ Y, Y = aft X uu := ⟨_, rfl⟩); have hST9 : stL B b p n K w X9 := (by rw [hX9]; exact HST.out.next ((Gr.refl b _).aft _) (HST.out.srcw.aft _)); rw [← hX9]; clear hX9 HST zz; (obtain ⟨X, hX9⟩ : ∃ X, X = X9 := ⟨_, rfl⟩); rw [← hX9] at hST9 ⊢; clear hX9; have HST := hid hST9; clear hST9
    go_wp2_with fail
    refine viaDr (s_next B b _ _ HST.out.srcw (by omega)) ?_
    intro x7 v7 hx7 hs7 hl7
    (try dsimp only at hx7)
    (obtain ⟨X9, hX9⟩ : ∃ Y, Y = aftD b X v7 := ⟨_, rfl⟩); have hST9 : stL B b p n K w X9 := (by rw [hX9]; exact HST.out.next ((Gr.refl b _).aftD _) hs7); rw [← hX9]; clear hX9 HST hs7 hl7; (obtain ⟨X, hX9⟩ : ∃ X, X = X9 := ⟨_, rfl⟩); rw [← hX9] at hST9 ⊢; clear hX9; have HST := hid hST9; clear hST9
    by_cases h7 : x7 = 0
    case neg =>
      have h7' : (x7 == 0) = false := by simpa using h7
      (obtain ⟨e0, he0, e1, he1, hf0, hf1, gX, hKX⟩ : ∃ e0, X.cell? ⟨w.heap.size, 0, none⟩ = some e0 ∧ ∃ e1, X.cell? ⟨w.heap.size, 1, none⟩ = some e1 ∧ X.frozen? ⟨w.heap.size, 0, none⟩ = false ∧ X.frozen? ⟨w.heap.size, 1, none⟩ = false ∧ (∀ o, X.cell? ⟨K, o, none⟩ = #[Value.int .i64 p, .int .i64 n][o]?) ∧ K < X.heap.size := (by obtain ⟨q1, q2⟩ := HST.out.res 0 (by omega); obtain ⟨q3, q4⟩ := HST.out.res 1 (by omega); obtain ⟨e0, h0⟩ := Option.isSome_iff_exists.1 q2; obtain ⟨e1, h1⟩ := Option.isSome_iff_exists.1 q4; exact ⟨e0, h0, e1, h1, q1, q3, HST.out.ring, HST.out.kx⟩)); have g0 := gX 0; have g1 := gX 1; simp at g0 g1
      go_wp2_with fail
      exact bodyPost_ret (v := .tuple #[.agg #[Value.int IntKind.i64 p, Value.int IntKind.i64 n], .int .i64 x9]) (by first | (simp [results, go_sem, he0, he1]; done) | simp [results, go_sem, he0, he1, ↓IntWalk.iteOmega]) rfl ⟨p, n, x9, rfl, (Ext.bel (by repeat (with_reducible first | exact HST.out.ext | apply Ext.drew | apply Ext.alloc | apply Ext.aft | (refine Ext.aftD ?_ _ (by omega)) | (refine Ext.setCell ?_ _ _ _ _ (by omega)))))⟩
    have h7' : (x7 == 0) = true := by simpa using h7
    subst h7
    clear h7'
    (obtain ⟨e0, he0, e1, he1, hf0, hf1, gX, hKX⟩ : ∃ e0, X.cell? ⟨w.heap.size, 0, none⟩ = some e0 ∧ ∃ e1, X.cell? ⟨w.heap.size, 1, none⟩ = some e1 ∧ X.frozen? ⟨w.heap.size, 0, none⟩ = false ∧ X.frozen? ⟨w.heap.size, 1, none⟩ = false ∧ (∀ o, X.cell? ⟨K, o, none⟩ = #[Value.int .i64 p, .int .i64 n][o]?) ∧ K < X.heap.size := (by obtain ⟨q1, q2⟩ := HST.out.res 0 (by omega); obtain ⟨q3, q4⟩ := HST.out.res 1 (by omega); obtain ⟨e0, h0⟩ := Option.isSome_iff_exists.1 q2; obtain ⟨e1, h1⟩ := Option.isSome_iff_exists.1 q4; exact ⟨e0, h0, e1, h1, q1, q3, HST.out.ring, HST.out.kx⟩)); have g0 := gX 0; have g1 := gX 1; simp at g0 g1
    go_wp2_with (go_at_call 38; refine pur (HM.out _) ?_)
    refine viaDr (s_next B b _ _ HST.out.srcw (by omega)) ?_
    intro x8 v8 hx8 hs8 hl8
    (try dsimp only at hx8)
    clear he0 he1 hf0 hf1 gX g0 g1 hKX e0 e1
    (obtain ⟨X9, hX9⟩ : ∃ Y, Y = aftD b X v8 := ⟨_, rfl⟩); have hST9 : stL B b p n K w X9 := (by rw [hX9]; exact HST.out.next ((Gr.refl b _).aftD _) hs8); rw [← hX9]; clear hX9 HST hs8 hl8; (obtain ⟨X, hX9⟩ : ∃ X, X = X9 := ⟨_, rfl⟩); rw [← hX9] at hST9 ⊢; clear hX9; have HST := hid hST9; clear hST9
    have hx80 : 0 ≤ x8 ∧ x8 ≤ 1000000000 := by omega
    have hsq : 0 ≤ x8 * x8 ∧ x8 * x8 ≤ 1000000000000000000 := ⟨Int.mul_nonneg hx80.1 hx80.1, by have := Int.mul_le_mul hx80.2 hx80.2 hx80.1 (by omega); omega⟩
    (obtain ⟨e0, he0, e1, he1, hf0, hf1, gX, hKX⟩ : ∃ e0, X.cell? ⟨w.heap.size, 0, none⟩ = some e0 ∧ ∃ e1, X.cell? ⟨w.heap.size, 1, none⟩ = some e1 ∧ X.frozen? ⟨w.heap.size, 0, none⟩ = false ∧ X.frozen? ⟨w.heap.size, 1, none⟩ = false ∧ (∀ o, X.cell? ⟨K, o, none⟩ = #[Value.int .i64 p, .int .i64 n][o]?) ∧ K < X.heap.size := (by obtain ⟨q1, q2⟩ := HST.out.res 0 (by omega); obtain ⟨q3, q4⟩ := HST.out.res 1 (by omega); obtain ⟨e0, h0⟩ := Option.isSome_iff_exists.1 q2; obtain ⟨e1, h1⟩ := Option.isSome_iff_exists.1 q4; exact ⟨e0, h0, e1, h1, q1, q3, HST.out.ring, HST.out.kx⟩)); have g0 := gX 0; have g1 := gX 1; simp at g0 g1
    go_wp2_with fail
    go_region
    all_goals (go_wp2_with fail; exact bodyPost_ret (v := .tuple #[.agg #[Value.int IntKind.i64 p, Value.int IntKind.i64 n], .int .i64 ((x8 * x8) % M)]) (by first | (simp [results, go_sem, he0, he1]; done) | simp [results, go_sem, he0, he1, ↓IntWalk.iteOmega]) rfl ⟨p, n, _, rfl, (Ext.bel (by repeat (with_reducible first | exact HST.out.ext | apply Ext.drew | apply Ext.alloc | apply Ext.aft | (refine Ext.aftD ?_ _ (by omega)) | (refine Ext.setCell ?_ _ _ _ _ (by omega)))))⟩)
end Go.Proofs.Ytdhnpmjoajaeiaa
