/- Draws for the law on pairs: the statement's text. -/
import Derived.Test.YtflmoopiajhadaaYI
namespace Go.Proofs.Ytflmoopiajhadaa
open Go Go.RowKit

def PairD (w : World) : Ending → World → Prop := fun e w' => ∃ (p n : Int) (s1 s2 s3 : Value) (f g h : List Int), e = .returned (.tuple #[.agg #[.int .i64 p, .int .i64 n], s1, s2, s3]) ∧ (ownR 0 w' s1 f ∧ ownR 0 w' s2 g ∧ ownR 0 w' s3 h) ∧ (f.length ≤ 11 ∧ g.length ≤ 11 ∧ h.length ≤ 11) ∧ Below w.heap.size w w'
theorem own_11 {B : Nat} (W : World) (k : Nat) (hk : W.heap.size = k) (hB : B ≤ k) : ownR B (W.alloc (.cells #[.int .i64 1, .int .i64 1] 2)) (.slice (some ⟨k, 0, none⟩) 2 2) [1, 1] := (own_cells W k [1, 1] hk (by simp)).mono hB
theorem own_01 {B : Nat} (W : World) (k : Nat) (hk : W.heap.size = k) (hB : B ≤ k) : ownR B (W.alloc (.cells #[.int .i64 0, .int .i64 1] 2)) (.slice (some ⟨k, 0, none⟩) 2 2) [0, 1] := (own_cells W k [0, 1] hk (by simp)).mono hB
set_option maxRecDepth 20000 in
set_option maxHeartbeats 16000000 in
theorem s_pair12 (B : Nat) (a : Option Addr) (len cap : Nat) (w : World) (h : rdB B w a len) (hl : len ≤ 4096) (hB : B ≤ w.heap.size) :
    Calls Try.prog 13 #[.slice a len cap] w (PairD w) := by
  go_enter Try.func13, Try.ntmps13
  go_wp2_with fail
  refine viaF (s_from B a len cap _ (h.of fun j o v hj hv => by rw [alloc_cell, if_neg (by omega)]; exact hv) hl (by simp; omega)) ?_
  intro b u0 hs0 hb0 hl0 hl1
  simp at hb0 hl0
  go_wp2_with fail
  refine viaDX (s_draw12 B b _ hs0) ?_
  intro v u hv hs hl2
  obtain ⟨p, n, s, f, rfl, own, hxl⟩ := hv
  obtain ⟨a5, c5, hsh, _, _⟩ := own.rd
  subst hsh
  have HXL := hid hxl
  clear hxl
  go_wp2_with fail
  obtain ⟨V, hV⟩ : ∃ V, V = aftD b (aft (w.alloc (Obj.cells #[Value.int IntKind.i64 0, Value.int IntKind.i64 0] 25)) u0) u := ⟨_, rfl⟩
  obtain ⟨K, hK⟩ : ∃ K, K = V.heap.size := ⟨_, rfl⟩
  have hres : resP w.heap.size V := by
    intro j hj
    obtain rfl | rfl : j = 0 ∨ j = 1 := by omega
    all_goals (rw [hV, aftD_frozen, aftD_cell, if_pos (by omega), if_pos (by omega), aft_cell, aft_frozen, if_pos (by simp), if_pos (by simp)]; simp [go_sem])
  have hT : ∃ zs, V.heap[w.heap.size]? = some (.cells zs 25) := by
    refine ⟨#[Value.int IntKind.i64 0, Value.int IntKind.i64 0], ?_⟩
    rw [hV, aftD_blk ⟨by omega, by omega⟩, (below_aft _ u0).block _ (by simp)]
    exact heap_alloc_new w _
  have hE : Ext w.heap.size w V := by rw [hV]; exact (((Ext.refl w).alloc _).aft _).aftD _ (by omega)
  have own2 : ownR (b + 1) V (.slice a5 f.length c5) f := by rw [hV]; exact own.mono (by omega)
  rw [← hV] at hs hl2 ⊢
  have hbK : b < K := by omega
  clear hV own
  obtain ⟨X, hX⟩ : ∃ X, X = V.alloc (Obj.cells #[Value.int IntKind.i64 p, Value.int IntKind.i64 n] 25) := ⟨_, rfl⟩
  have hST9 : stP B b p n K w X := by
    refine ⟨by rw [hX]; exact hE.alloc _, by rw [hX]; exact hs.alloc _, fun o => by rw [hX, alloc_cell, if_pos hK], fun k hk => ?_, ?_, by omega, hbK, by rw [hX, hK]; simp⟩
    · rw [hX, alloc_frozen, alloc_cell, if_neg (by omega), if_neg (by omega)]
      exact hres k hk
    · rw [hX]
      exact ringT.below hT ((Below.refl _ _).alloc (Nat.le_refl _) _)
  have own3 : ownR (b + 1) X (.slice a5 f.length c5) f := by rw [hX]; exact own2.alloc _
  rw [← hX, ← hK]
  have hwb : w.heap.size < b := by omega
  clear hX hK hs hres hE hl2 hl1 hl0 hs0 own2 hb0 hT
  have hKb : K ≠ b := by omega
  have hKR : K ≠ w.heap.size := by omega
  have HST := hid hST9
  have HF := hid own3
  clear hST9 own3
  obtain ⟨e0, he0, e1, he1, hf0, hf1, gX, hKX⟩ : ∃ e0, X.cell? ⟨w.heap.size, 0, none⟩ = some e0 ∧ ∃ e1, X.cell? ⟨w.heap.size, 1, none⟩ = some e1 ∧ X.frozen? ⟨w.heap.size, 0, none⟩ = false ∧ X.frozen? ⟨w.heap.size, 1, none⟩ = false ∧ (∀ o, X.cell? ⟨K, o, none⟩ = #[Value.int .i64 p, .int .i64 n][o]?) ∧ K < X.heap.size := by obtain ⟨q1, q2⟩ := HST.out.res 0 (by omega); obtain ⟨q3, q4⟩ := HST.out.res 1 (by omega); obtain ⟨e0, h0⟩ := Option.isSome_iff_exists.1 q2; obtain ⟨e1, h1⟩ := Option.isSome_iff_exists.1 q4; exact ⟨e0, h0, e1, h1, q1, q3, HST.out.ring, HST.out.kx⟩
  have g0 := gX 0
  have g1 := gX 1
  simp at g0 g1
  have HI := hid (s_IsInRing p n _ f X HF.out.rd)
  cases hir : inRingB p n f
  · rw [hir] at HI
    go_wp2_with fail
    refine via HI.out ?_
    intro uu zz
    obtain ⟨Y, hY⟩ : ∃ Y, Y = aft X uu := ⟨_, rfl⟩
    have hST9 : stP B b p n K w Y := by rw [hY]; exact HST.out.next ((Gr.refl b _).aft _) (HST.out.srcw.aft _)
    have own9 : ownR (b + 1) Y (.slice a5 f.length c5) f := by rw [hY]; exact HF.out.aft uu
    rw [← hY]
    clear hY HST HF zz he0 he1 hf0 hf1 gX g0 g1 hKX
    obtain ⟨X, hX⟩ : ∃ X, X = Y := ⟨_, rfl⟩
    rw [← hX] at hST9 own9 ⊢
    clear hX
    have HST := hid hST9
    have HF := hid own9
    clear hST9 own9
    obtain ⟨e0, he0, e1, he1, hf0, hf1, gX, hKX⟩ : ∃ e0, X.cell? ⟨w.heap.size, 0, none⟩ = some e0 ∧ ∃ e1, X.cell? ⟨w.heap.size, 1, none⟩ = some e1 ∧ X.frozen? ⟨w.heap.size, 0, none⟩ = false ∧ X.frozen? ⟨w.heap.size, 1, none⟩ = false ∧ (∀ o, X.cell? ⟨K, o, none⟩ = #[Value.int .i64 p, .int .i64 n][o]?) ∧ K < X.heap.size := by obtain ⟨q1, q2⟩ := HST.out.res 0 (by omega); obtain ⟨q3, q4⟩ := HST.out.res 1 (by omega); obtain ⟨e0, h0⟩ := Option.isSome_iff_exists.1 q2; obtain ⟨e1, h1⟩ := Option.isSome_iff_exists.1 q4; exact ⟨e0, h0, e1, h1, q1, q3, HST.out.ring, HST.out.kx⟩
    have g0 := gX 0
    have g1 := gX 1
    simp at g0 g1
    go_wp2_with fail
    exact bodyPost_ret (v := .tuple #[.agg #[Value.int IntKind.i64 p, Value.int IntKind.i64 n], .slice a5 f.length c5, .slice (some ⟨X.heap.size, 0, none⟩) 2 2, .slice (some ⟨X.heap.size + 1, 0, none⟩) 2 2]) (by first | (simp [results, go_sem, he0, he1]; done) | simp [results, go_sem, he0, he1, ↓IntWalk.iteOmega]) rfl ⟨p, n, _, _, _, f, [1, 1], [0, 1], rfl, ⟨ownR.mono (show ownR (b + 1) _ _ _ from (by repeat (with_reducible first | exact HF.out | exact HL.out | exact HP.out | exact HD.out | exact own_11 _ _ (by first | rfl | simp) (by omega) | exact own_01 _ _ (by first | rfl | simp) (by omega) | apply ownR.drew | apply ownR.aft | (refine ownR.aftD ?_ _ (by omega)) | apply ownR.alloc | (refine ownR.setCell ?_ _ _ _ _ (by omega))))) (Nat.zero_le _), ownR.mono (show ownR (b + 1) _ _ _ from (by repeat (with_reducible first | exact HF.out | exact HL.out | exact HP.out | exact HD.out | exact own_11 _ _ (by first | rfl | simp) (by omega) | exact own_01 _ _ (by first | rfl | simp) (by omega) | apply ownR.drew | apply ownR.aft | (refine ownR.aftD ?_ _ (by omega)) | apply ownR.alloc | (refine ownR.setCell ?_ _ _ _ _ (by omega))))) (Nat.zero_le _), ownR.mono (show ownR (b + 1) _ _ _ from (by repeat (with_reducible first | exact HF.out | exact HL.out | exact HP.out | exact HD.out | exact own_11 _ _ (by first | rfl | simp) (by omega) | exact own_01 _ _ (by first | rfl | simp) (by omega) | apply ownR.drew | apply ownR.aft | (refine ownR.aftD ?_ _ (by omega)) | apply ownR.alloc | (refine ownR.setCell ?_ _ _ _ _ (by omega))))) (Nat.zero_le _)⟩, ⟨HXL.out, by decide, by decide⟩, (Ext.bel (by repeat (with_reducible first | exact HST.out.ext | apply Ext.drew | apply Ext.alloc | apply Ext.aft | (refine Ext.aftD ?_ _ (by omega)) | (refine Ext.setCell ?_ _ _ _ _ (by omega)))))⟩
  have hring : ringB p n = true ∧ f.length ≤ 9 := by
    unfold inRingB at hir
    simp only [Bool.and_eq_true, decide_eq_true_eq] at hir
    exact ⟨hir.1.1.1, hir.1.1.2⟩
  obtain ⟨hrg, hf9⟩ := hring
  obtain ⟨hs, _, _, _⟩ := ringB_iff.1 hrg
  have hp := smallP_bd hs
  rw [hir] at HI
  clear hir hrg
  by_cases hf2 : f.length < 2
  · have hd2 : decide ((f.length : Int) < 2) = true := by simp; omega
    go_wp2_with fail
    refine via HI.out ?_
    intro uu zz
    obtain ⟨Y, hY⟩ : ∃ Y, Y = aft X uu := ⟨_, rfl⟩
    have hST9 : stP B b p n K w Y := by rw [hY]; exact HST.out.next ((Gr.refl b _).aft _) (HST.out.srcw.aft _)
    have own9 : ownR (b + 1) Y (.slice a5 f.length c5) f := by rw [hY]; exact HF.out.aft uu
    rw [← hY]
    clear hY HST HF zz he0 he1 hf0 hf1 gX g0 g1 hKX
    obtain ⟨X, hX⟩ : ∃ X, X = Y := ⟨_, rfl⟩
    rw [← hX] at hST9 own9 ⊢
    clear hX
    have HST := hid hST9
    have HF := hid own9
    clear hST9 own9
    obtain ⟨e0, he0, e1, he1, hf0, hf1, gX, hKX⟩ : ∃ e0, X.cell? ⟨w.heap.size, 0, none⟩ = some e0 ∧ ∃ e1, X.cell? ⟨w.heap.size, 1, none⟩ = some e1 ∧ X.frozen? ⟨w.heap.size, 0, none⟩ = false ∧ X.frozen? ⟨w.heap.size, 1, none⟩ = false ∧ (∀ o, X.cell? ⟨K, o, none⟩ = #[Value.int .i64 p, .int .i64 n][o]?) ∧ K < X.heap.size := by obtain ⟨q1, q2⟩ := HST.out.res 0 (by omega); obtain ⟨q3, q4⟩ := HST.out.res 1 (by omega); obtain ⟨e0, h0⟩ := Option.isSome_iff_exists.1 q2; obtain ⟨e1, h1⟩ := Option.isSome_iff_exists.1 q4; exact ⟨e0, h0, e1, h1, q1, q3, HST.out.ring, HST.out.kx⟩
    have g0 := gX 0
    have g1 := gX 1
    simp at g0 g1
    go_wp2_with fail
    exact bodyPost_ret (v := .tuple #[.agg #[Value.int IntKind.i64 p, Value.int IntKind.i64 n], .slice a5 f.length c5, .slice (some ⟨X.heap.size, 0, none⟩) 2 2, .slice (some ⟨X.heap.size + 1, 0, none⟩) 2 2]) (by first | (simp [results, go_sem, he0, he1]; done) | simp [results, go_sem, he0, he1, ↓IntWalk.iteOmega]) rfl ⟨p, n, _, _, _, f, [1, 1], [0, 1], rfl, ⟨ownR.mono (show ownR (b + 1) _ _ _ from (by repeat (with_reducible first | exact HF.out | exact HL.out | exact HP.out | exact HD.out | exact own_11 _ _ (by first | rfl | simp) (by omega) | exact own_01 _ _ (by first | rfl | simp) (by omega) | apply ownR.drew | apply ownR.aft | (refine ownR.aftD ?_ _ (by omega)) | apply ownR.alloc | (refine ownR.setCell ?_ _ _ _ _ (by omega))))) (Nat.zero_le _), ownR.mono (show ownR (b + 1) _ _ _ from (by repeat (with_reducible first | exact HF.out | exact HL.out | exact HP.out | exact HD.out | exact own_11 _ _ (by first | rfl | simp) (by omega) | exact own_01 _ _ (by first | rfl | simp) (by omega) | apply ownR.drew | apply ownR.aft | (refine ownR.aftD ?_ _ (by omega)) | apply ownR.alloc | (refine ownR.setCell ?_ _ _ _ _ (by omega))))) (Nat.zero_le _), ownR.mono (show ownR (b + 1) _ _ _ from (by repeat (with_reducible first | exact HF.out | exact HL.out | exact HP.out | exact HD.out | exact own_11 _ _ (by first | rfl | simp) (by omega) | exact own_01 _ _ (by first | rfl | simp) (by omega) | apply ownR.drew | apply ownR.aft | (refine ownR.aftD ?_ _ (by omega)) | apply ownR.alloc | (refine ownR.setCell ?_ _ _ _ _ (by omega))))) (Nat.zero_le _)⟩, ⟨HXL.out, by decide, by decide⟩, (Ext.bel (by repeat (with_reducible first | exact HST.out.ext | apply Ext.drew | apply Ext.alloc | apply Ext.aft | (refine Ext.aftD ?_ _ (by omega)) | (refine Ext.setCell ?_ _ _ _ _ (by omega)))))⟩
  have hd2 : decide ((f.length : Int) < 2) = false := by simp; omega
  go_wp2_with fail
  refine via HI.out ?_
  intro uu zz
  obtain ⟨Y, hY⟩ : ∃ Y, Y = aft X uu := ⟨_, rfl⟩
  have hST9 : stP B b p n K w Y := by rw [hY]; exact HST.out.next ((Gr.refl b _).aft _) (HST.out.srcw.aft _)
  have own9 : ownR (b + 1) Y (.slice a5 f.length c5) f := by rw [hY]; exact HF.out.aft uu
  rw [← hY]
  clear hY HST HF zz he0 he1 hf0 hf1 gX g0 g1 hKX
  obtain ⟨X, hX⟩ : ∃ X, X = Y := ⟨_, rfl⟩
  rw [← hX] at hST9 own9 ⊢
  clear hX
  have HST := hid hST9
  have HF := hid own9
  clear hST9 own9
  obtain ⟨e0, he0, e1, he1, hf0, hf1, gX, hKX⟩ : ∃ e0, X.cell? ⟨w.heap.size, 0, none⟩ = some e0 ∧ ∃ e1, X.cell? ⟨w.heap.size, 1, none⟩ = some e1 ∧ X.frozen? ⟨w.heap.size, 0, none⟩ = false ∧ X.frozen? ⟨w.heap.size, 1, none⟩ = false ∧ (∀ o, X.cell? ⟨K, o, none⟩ = #[Value.int .i64 p, .int .i64 n][o]?) ∧ K < X.heap.size := by obtain ⟨q1, q2⟩ := HST.out.res 0 (by omega); obtain ⟨q3, q4⟩ := HST.out.res 1 (by omega); obtain ⟨e0, h0⟩ := Option.isSome_iff_exists.1 q2; obtain ⟨e1, h1⟩ := Option.isSome_iff_exists.1 q4; exact ⟨e0, h0, e1, h1, q1, q3, HST.out.ring, HST.out.kx⟩
  have g0 := gX 0
  have g1 := gX 1
  simp at g0 g1
  clear HI
  have HR := hid (s_reduce p _ f X HF.out.rd (by omega) (by omega))
  have hrl := redF_len p f
  have HGM := hid (isMod_red (p := p) (by omega) f)
  obtain ⟨G, hG⟩ : ∃ G, G = redF p f := ⟨_, rfl⟩
  rw [← hG] at HR hrl HGM
  clear hG
  go_wp2_with fail
  refine viaI (g := id) HR.out ?_
  intro rv uu zz own1
  obtain ⟨a6, c6, rfl⟩ := own_len own1
  have own8 : ownR (b + 1) (aft X uu) (.slice a6 G.length c6) G := own1.mono (by omega)
  clear own1 HR
  have HL := hid own8
  clear own8
  obtain ⟨Y, hY⟩ : ∃ Y, Y = aft X uu := ⟨_, rfl⟩
  have hST9 : stP B b p n K w Y := by rw [hY]; exact HST.out.next ((Gr.refl b _).aft _) (HST.out.srcw.aft _)
  have n90 : ownR (b + 1) Y (.slice a5 f.length c5) f := by rw [hY]; exact HF.out.aft uu
  have n91 : ownR (b + 1) Y (.slice a6 G.length c6) G := by rw [hY]; exact HL.out
  rw [← hY]
  clear hY HST HF HL zz he0 he1 hf0 hf1 gX g0 g1 hKX
  obtain ⟨X, hX⟩ : ∃ X, X = Y := ⟨_, rfl⟩
  rw [← hX] at hST9 n90 n91 ⊢
  clear hX
  have HST := hid hST9
  have HF := hid n90
  have HL := hid n91
  clear hST9 n90 n91
  obtain ⟨e0, he0, e1, he1, hf0, hf1, gX, hKX⟩ : ∃ e0, X.cell? ⟨w.heap.size, 0, none⟩ = some e0 ∧ ∃ e1, X.cell? ⟨w.heap.size, 1, none⟩ = some e1 ∧ X.frozen? ⟨w.heap.size, 0, none⟩ = false ∧ X.frozen? ⟨w.heap.size, 1, none⟩ = false ∧ (∀ o, X.cell? ⟨K, o, none⟩ = #[Value.int .i64 p, .int .i64 n][o]?) ∧ K < X.heap.size := by obtain ⟨q1, q2⟩ := HST.out.res 0 (by omega); obtain ⟨q3, q4⟩ := HST.out.res 1 (by omega); obtain ⟨e0, h0⟩ := Option.isSome_iff_exists.1 q2; obtain ⟨e1, h1⟩ := Option.isSome_iff_exists.1 q4; exact ⟨e0, h0, e1, h1, q1, q3, HST.out.ring, HST.out.kx⟩
  have g0 := gX 0
  have g1 := gX 1
  simp at g0 g1
  by_cases hg2 : G.length < 2
  · have hdg : decide ((G.length : Int) < 2) = true := by simp; omega
    go_wp2_with fail
    exact bodyPost_ret (v := .tuple #[.agg #[Value.int IntKind.i64 p, Value.int IntKind.i64 n], .slice a5 f.length c5, .slice (some ⟨X.heap.size, 0, none⟩) 2 2, .slice (some ⟨X.heap.size + 1, 0, none⟩) 2 2]) (by first | (simp [results, go_sem, he0, he1]; done) | simp [results, go_sem, he0, he1, ↓IntWalk.iteOmega]) rfl ⟨p, n, _, _, _, f, [1, 1], [0, 1], rfl, ⟨ownR.mono (show ownR (b + 1) _ _ _ from (by repeat (with_reducible first | exact HF.out | exact HL.out | exact HP.out | exact HD.out | exact own_11 _ _ (by first | rfl | simp) (by omega) | exact own_01 _ _ (by first | rfl | simp) (by omega) | apply ownR.drew | apply ownR.aft | (refine ownR.aftD ?_ _ (by omega)) | apply ownR.alloc | (refine ownR.setCell ?_ _ _ _ _ (by omega))))) (Nat.zero_le _), ownR.mono (show ownR (b + 1) _ _ _ from (by repeat (with_reducible first | exact HF.out | exact HL.out | exact HP.out | exact HD.out | exact own_11 _ _ (by first | rfl | simp) (by omega) | exact own_01 _ _ (by first | rfl | simp) (by omega) | apply ownR.drew | apply ownR.aft | (refine ownR.aftD ?_ _ (by omega)) | apply ownR.alloc | (refine ownR.setCell ?_ _ _ _ _ (by omega))))) (Nat.zero_le _), ownR.mono (show ownR (b + 1) _ _ _ from (by repeat (with_reducible first | exact HF.out | exact HL.out | exact HP.out | exact HD.out | exact own_11 _ _ (by first | rfl | simp) (by omega) | exact own_01 _ _ (by first | rfl | simp) (by omega) | apply ownR.drew | apply ownR.aft | (refine ownR.aftD ?_ _ (by omega)) | apply ownR.alloc | (refine ownR.setCell ?_ _ _ _ _ (by omega))))) (Nat.zero_le _)⟩, ⟨HXL.out, by decide, by decide⟩, (Ext.bel (by repeat (with_reducible first | exact HST.out.ext | apply Ext.drew | apply Ext.alloc | apply Ext.aft | (refine Ext.aftD ?_ _ (by omega)) | (refine Ext.setCell ?_ _ _ _ _ (by omega)))))⟩
  have hdg : decide ((G.length : Int) < 2) = false := by simp; omega
  have HA := hid (s_all p hs _ G X HL.out.rd HGM.out (by omega) (by omega))
  go_wp2_with fail
  refine viaFz (φ := fun w' qs => (∀ x ∈ qs, okF p w' x) ∧ 1 ≤ qs.length ∧ qs.length ≤ 150) HA.out ?_
  intro lv qs uu zz own2 hφ
  obtain ⟨q1, q2, q3⟩ := hφ
  obtain ⟨lg, lc, rfl⟩ := own2.2
  obtain ⟨N, hN⟩ : ∃ N, N = qs.length := ⟨_, rfl⟩
  rw [← hN] at own2 q2 q3 ⊢
  have HN := hid hN
  have HQ := hid own2
  have HOK := hid q1
  clear hN own2 q1 HA
  obtain ⟨Y, hY⟩ : ∃ Y, Y = aft X uu := ⟨_, rfl⟩
  have hST9 : stP B b p n K w Y := by rw [hY]; exact HST.out.next ((Gr.refl b _).aft _) (HST.out.srcw.aft _)
  have n90 : ownR (b + 1) Y (.slice a5 f.length c5) f := by rw [hY]; exact HF.out.aft uu
  have n91 : ownR (b + 1) Y (.slice a6 G.length c6) G := by rw [hY]; exact HL.out.aft uu
  have n92 : ownF 0 Y (.slice (some ⟨lg, 0, none⟩) N lc) qs := by rw [hY]; exact HQ.out
  have n93 : ∀ x ∈ qs, okF p Y x := by rw [hY]; exact HOK.out
  rw [← hY]
  clear hY HST HF HL HQ HOK zz he0 he1 hf0 hf1 gX g0 g1 hKX
  obtain ⟨X, hX⟩ : ∃ X, X = Y := ⟨_, rfl⟩
  rw [← hX] at hST9 n90 n91 n92 n93 ⊢
  clear hX
  have HST := hid hST9
  have HF := hid n90
  have HL := hid n91
  have HQ := hid n92
  have HOK := hid n93
  clear hST9 n90 n91 n92 n93
  obtain ⟨e0, he0, e1, he1, hf0, hf1, gX, hKX⟩ : ∃ e0, X.cell? ⟨w.heap.size, 0, none⟩ = some e0 ∧ ∃ e1, X.cell? ⟨w.heap.size, 1, none⟩ = some e1 ∧ X.frozen? ⟨w.heap.size, 0, none⟩ = false ∧ X.frozen? ⟨w.heap.size, 1, none⟩ = false ∧ (∀ o, X.cell? ⟨K, o, none⟩ = #[Value.int .i64 p, .int .i64 n][o]?) ∧ K < X.heap.size := by obtain ⟨q1, q2⟩ := HST.out.res 0 (by omega); obtain ⟨q3, q4⟩ := HST.out.res 1 (by omega); obtain ⟨e0, h0⟩ := Option.isSome_iff_exists.1 q2; obtain ⟨e1, h1⟩ := Option.isSome_iff_exists.1 q4; exact ⟨e0, h0, e1, h1, q1, q3, HST.out.ring, HST.out.kx⟩
  have g0 := gX 0
  have g1 := gX 1
  simp at g0 g1
  have HSR := hid HST.out.srcw
  go_wp2_with fail
  refine viaDr (s_next B b _ _ HSR.out (by omega)) ?_
  intro x9 u9 hx9 hs9 hl9
  (try dsimp only at hx9)
  obtain ⟨x, rfl⟩ : ∃ x : Nat, x9 = (x : Int) := ⟨x9.toNat, by omega⟩
  have hxN : x < N := by omega
  have hxq : x < qs.length := by have := HN.out; omega
  obtain ⟨⟨qe, qt⟩, hqx⟩ : ∃ q, q = qs[x] := ⟨_, rfl⟩
  have hok := HOK.out (qe, qt) (by rw [hqx]; exact List.getElem_mem hxq)
  obtain ⟨g, k1, k2, k3, k4, k5, k6⟩ := hok
  simp only at k1 k5 k6
  have HE := hid (k1.aftS HSR.out (by omega) u9)
  have HEO := hid (show mon p g ∧ 2 ≤ g.length ∧ g.length ≤ 9 ∧ 0 ≤ qt ∧ qt * ((g.length : Int) - 1) ≤ 8 from ⟨k2, k3, k4, k5, k6⟩)
  have HQ2 := hid (HQ.out.aftS HSR.out u9)
  obtain ⟨cc1, cc2⟩ := HQ2.out.cells hxq
  rw [← hqx, Nat.mul_comm] at cc1 cc2
  have CX := hid (show _ ∧ _ from ⟨cc1, cc2⟩)
  clear k1 k2 k3 k4 k5 k6 cc1 cc2 hqx HOK hx9 HQ HSR
  obtain ⟨Y, hY⟩ : ∃ Y, Y = aftD b X u9 := ⟨_, rfl⟩
  have hST9 : stP B b p n K w Y := by rw [hY]; exact HST.out.next ((Gr.refl b _).aftD _) (hs9)
  have n90 : ownR (b + 1) Y (.slice a5 f.length c5) f := by rw [hY]; exact HF.out.aftD u9 (by omega)
  have n91 : ownR (b + 1) Y (.slice a6 G.length c6) G := by rw [hY]; exact HL.out.aftD u9 (by omega)
  have n92 : ownF 0 Y (.slice (some ⟨lg, 0, none⟩) N lc) qs := by rw [hY]; exact HQ2.out
  have n93 : ownR 0 Y qe g := by rw [hY]; exact HE.out
  have n94 : Y.cell? ⟨lg, x * 2, none⟩ = some qe ∧ Y.cell? ⟨lg, x * 2 + 1, none⟩ = some (.int .i64 qt) := by rw [hY]; exact CX.out
  rw [← hY]
  clear hY HST HF HL HQ2 HE CX hs9 hl9 he0 he1 hf0 hf1 gX g0 g1 hKX
  obtain ⟨X, hX⟩ : ∃ X, X = Y := ⟨_, rfl⟩
  rw [← hX] at hST9 n90 n91 n92 n93 n94 ⊢
  clear hX
  have HST := hid hST9
  have HF := hid n90
  have HL := hid n91
  have HQ2 := hid n92
  have HE := hid n93
  have CX := hid n94
  clear hST9 n90 n91 n92 n93 n94
  obtain ⟨e0, he0, e1, he1, hf0, hf1, gX, hKX⟩ : ∃ e0, X.cell? ⟨w.heap.size, 0, none⟩ = some e0 ∧ ∃ e1, X.cell? ⟨w.heap.size, 1, none⟩ = some e1 ∧ X.frozen? ⟨w.heap.size, 0, none⟩ = false ∧ X.frozen? ⟨w.heap.size, 1, none⟩ = false ∧ (∀ o, X.cell? ⟨K, o, none⟩ = #[Value.int .i64 p, .int .i64 n][o]?) ∧ K < X.heap.size := by obtain ⟨q1, q2⟩ := HST.out.res 0 (by omega); obtain ⟨q3, q4⟩ := HST.out.res 1 (by omega); obtain ⟨e0, h0⟩ := Option.isSome_iff_exists.1 q2; obtain ⟨e1, h1⟩ := Option.isSome_iff_exists.1 q4; exact ⟨e0, h0, e1, h1, q1, q3, HST.out.ring, HST.out.kx⟩
  have g0 := gX 0
  have g1 := gX 1
  simp at g0 g1
  have cX : X.cell? ⟨lg, x * 2, none⟩ = some qe ∧ X.cell? ⟨lg, x * 2 + 1, none⟩ = some (.int .i64 qt) ∧ lg < X.heap.size ∧ lg ≠ b ∧ lg ≠ w.heap.size := ⟨CX.out.1, CX.out.2, World.block_lt_of_cell? _ _ CX.out.1, srcF_ne HST.out.srcw HQ2.out, ringF_ne HST.out.ty HQ2.out⟩
  have hxz : (x : Int) < (N : Int) := by omega
  have hx0 : (0 : Int) ≤ (x : Int) := by omega
  have HPW := hid (s_power12 p hs qe qt X.drew ⟨g, HE.out.drew, HEO.out.1, HEO.out.2.1, HEO.out.2.2.1, HEO.out.2.2.2.1, HEO.out.2.2.2.2⟩)
  go_wp2_with fail
  (refine wp_region_held_drew (S := (fun w' => (∀ o, w'.cell? ⟨K, o, none⟩ = #[Value.int .i64 p, .int .i64 n][o]?) ∧ (w'.cell? ⟨lg, x * 2, none⟩ = some qe ∧ w'.cell? ⟨lg, x * 2 + 1, none⟩ = some (.int .i64 qt)) ∧ X.heap.size ≤ w'.heap.size)) (by kernel_rfl) ?_ (fun hHeld => ?_); focus ((try dsimp only); (refine heldD.atE (b := b) (R := w.heap.size) hKX hKb hKR gX cX ?_; (repeat (with_reducible first | exact heldD.refl _ _ _ | apply heldD.drew | apply heldD.aftD | apply heldD.aft | apply heldD.alloc | apply heldD.set)))))
  (refine wpAnyH_take (i := 0) (oi := ?ho1) (v := ?hv1) ?hi1 (by kernel_rfl) (by kernel_rfl) (by kernel_rfl) ?hq1 ?hy1 (by assumption) ?hr1; (case hi1 => (simp only [List.getElem?_toArray, List.getElem?_cons_zero]; first | done | rfl)); (case hq1 => exact fun _ _ _ h => h); (case hy1 => (refine Or.inl ⟨by rfl, ?_⟩; intro w hSw; (try dsimp only at hSw); go_simp; first | done | with_reducible rfl)); (try simp only [Act.put, List.setIfInBounds_toArray, List.set_cons_zero, List.set_cons_succ]))
  (refine wpAnyH_take (i := 1) (oi := ?ho2) (v := ?hv2) ?hi2 (by kernel_rfl) (by kernel_rfl) (by kernel_rfl) ?hq2 ?hy2 (by assumption) ?hr2; (case hi2 => (simp only [List.getElem?_toArray, List.getElem?_cons_succ, List.getElem?_cons_zero]; first | done | rfl)); (case hq2 => exact fun _ _ _ h => h); (case hy2 => (refine Or.inl ⟨by rfl, ?_⟩; intro w hSw; (try dsimp only at hSw); go_simp; first | done | with_reducible rfl)); (try simp only [Act.put, List.setIfInBounds_toArray, List.set_cons_zero, List.set_cons_succ]))
  (refine wpAnyH_take (i := 2) (oi := ?ho3) (v := ?hv3) ?hi3 (by kernel_rfl) (by kernel_rfl) (by kernel_rfl) ?hq3 ?hy3 (by assumption) ?hr3; (case hi3 => (simp only [List.getElem?_toArray, List.getElem?_cons_succ, List.getElem?_cons_zero]; first | done | rfl)); (case hq3 => exact fun _ _ _ h => h); (case hy3 => (refine Or.inl ⟨by rfl, ?_⟩; intro w hSw; (try dsimp only at hSw); go_simp; first | done | with_reducible rfl)); (try simp only [Act.put, List.setIfInBounds_toArray, List.set_cons_zero, List.set_cons_succ]))
  (refine wpAnyH_take (i := 3) (oi := ?ho4) (v := ?hv4) ?hi4 (by kernel_rfl) (by kernel_rfl) (by kernel_rfl) ?hq4 ?hy4 (by assumption) ?hr4; (case hi4 => (simp only [List.getElem?_toArray, List.getElem?_cons_succ, List.getElem?_cons_zero]; first | done | rfl)); (case hq4 => exact fun _ _ _ h => h); (case hy4 => (refine Or.inl ⟨by rfl, ?_⟩; intro w hSw; (try dsimp only at hSw); go_simp; first | done | with_reducible rfl)); (try simp only [Act.put, List.setIfInBounds_toArray, List.set_cons_zero, List.set_cons_succ]))
  (refine wpAnyH_take (i := 4) (oi := ?ho5) (v := ?hv5) ?hi5 (by kernel_rfl) (by kernel_rfl) (by kernel_rfl) ?hq5 ?hy5 (by assumption) ?hr5; (case hi5 => (simp only [List.getElem?_toArray, List.getElem?_cons_succ, List.getElem?_cons_zero]; first | done | rfl)); (case hq5 => exact fun _ _ _ h => h); (case hy5 => (refine Or.inl ⟨by rfl, ?_⟩; intro w hSw; (try dsimp only at hSw); go_simp; first | done | with_reducible rfl)); (try simp only [Act.put, List.setIfInBounds_toArray, List.set_cons_zero, List.set_cons_succ]))
  (refine wpAnyH_take (i := 5) (oi := ?ho6) (v := ?hv6) ?hi6 (by kernel_rfl) (by kernel_rfl) (by kernel_rfl) ?hq6 ?hy6 (by assumption) ?hr6; (case hi6 => (simp only [List.getElem?_toArray, List.getElem?_cons_succ, List.getElem?_cons_zero]; first | done | rfl)); (case hq6 => exact fun _ _ _ h => h); (case hy6 => (refine Or.inl ⟨by rfl, ?_⟩; intro w hSw; (try dsimp only at hSw); go_simp; first | done | with_reducible rfl)); (try simp only [Act.put, List.setIfInBounds_toArray, List.set_cons_zero, List.set_cons_succ]))
  (refine wpAnyH_ready (rs := [6]) (by decide +kernel) (by simp) ?_; refine AllReadyH.cons (o := ?ho19) ?hi19 (fun K hK => ?hr19) AllReadyH.nil; (case hi19 => (simp only [List.getElem?_toArray, List.getElem?_cons_succ, List.getElem?_cons_zero]; first | done | rfl)))
  (go_simp; go_at_call 30; refine viaR (φ := fun xs => mon p xs ∧ xs.length ≤ 9) HPW.out ?_; intro pv P uu zz own3 hφ; obtain ⟨a7, c7, hsh⟩ := own_len own3; subst hsh; (try simp at zz); go_wp2_with fail)
  (refine hK.out _ _ ?_ (fun hHeld => ?_); focus ((try dsimp only); (refine heldD.atE (b := b) (R := w.heap.size) hKX hKb hKR gX cX ?_; (repeat (with_reducible first | exact heldD.refl _ _ _ | apply heldD.drew | apply heldD.aftD | apply heldD.aft | apply heldD.alloc | apply heldD.set)))))
  (clear hK K; (try simp only [Act.put, List.setIfInBounds_toArray, List.set_cons_zero, List.set_cons_succ]))
  (refine wpAnyH_take (i := 7) (oi := ?ho7) (v := ?hv7) ?hi7 (by kernel_rfl) (by kernel_rfl) (by kernel_rfl) ?hq7 ?hy7 (by assumption) ?hr7; (case hi7 => (simp only [List.getElem?_toArray, List.getElem?_cons_succ, List.getElem?_cons_zero]; first | done | rfl)); (case hq7 => exact fun _ _ _ h => h); (case hy7 => (refine Or.inl ⟨by rfl, ?_⟩; intro w hSw; (try dsimp only at hSw); go_simp; first | done | with_reducible rfl)); (try simp only [Act.put, List.setIfInBounds_toArray, List.set_cons_zero, List.set_cons_succ]))
  (refine wpAnyH_done (by kernel_rfl) ?_ _)
  have hp3 : ownR (b + 1) (aft X.drew uu) (.slice a7 P.length c7) P := own3.mono (by simp; omega)
  have HMP := hid hφ
  have hcx : (aft X.drew uu).cell? ⟨lg, x * 2, none⟩ = some qe ∧ (aft X.drew uu).cell? ⟨lg, x * 2 + 1, none⟩ = some (.int .i64 qt) := ⟨by rw [aft_cell, if_pos (show lg < X.drew.heap.size from cX.2.2.1)]; exact cX.1, by rw [aft_cell, if_pos (show lg < X.drew.heap.size from cX.2.2.1)]; exact cX.2.1⟩
  have HP := hid hp3
  clear own3 hp3 hφ CX HPW
  obtain ⟨Y, hY⟩ : ∃ Y, Y = aft X.drew uu := ⟨_, rfl⟩
  have hST9 : stP B b p n K w Y := by rw [hY]; exact HST.out.next ((Gr.refl b _).drew.aft _) (HST.out.srcw.drew.aft _)
  have n90 : ownR (b + 1) Y (.slice a5 f.length c5) f := by rw [hY]; exact HF.out.drew.aft uu
  have n91 : ownR (b + 1) Y (.slice a6 G.length c6) G := by rw [hY]; exact HL.out.drew.aft uu
  have n92 : ownF 0 Y (.slice (some ⟨lg, 0, none⟩) N lc) qs := by rw [hY]; exact ownF.aft (show ownF 0 X.drew _ qs from HQ2.out) uu
  have n93 : ownR 0 Y qe g := by rw [hY]; exact HE.out.drew.aft uu
  have n94 : Y.cell? ⟨lg, x * 2, none⟩ = some qe ∧ Y.cell? ⟨lg, x * 2 + 1, none⟩ = some (.int .i64 qt) := by rw [hY]; exact hcx
  have n95 : ownR (b + 1) Y (.slice a7 P.length c7) P := by rw [hY]; exact HP.out
  rw [← hY]
  clear hY HST HF HL HQ2 HE hcx HP zz cX hHeld he0 he1 hf0 hf1 gX g0 g1 hKX
  obtain ⟨X, hX⟩ : ∃ X, X = Y := ⟨_, rfl⟩
  rw [← hX] at hST9 n90 n91 n92 n93 n94 n95 ⊢
  clear hX
  have HST := hid hST9
  have HF := hid n90
  have HL := hid n91
  have HQ2 := hid n92
  have HE := hid n93
  have CX := hid n94
  have HP := hid n95
  clear hST9 n90 n91 n92 n93 n94 n95
  obtain ⟨e0, he0, e1, he1, hf0, hf1, gX, hKX⟩ : ∃ e0, X.cell? ⟨w.heap.size, 0, none⟩ = some e0 ∧ ∃ e1, X.cell? ⟨w.heap.size, 1, none⟩ = some e1 ∧ X.frozen? ⟨w.heap.size, 0, none⟩ = false ∧ X.frozen? ⟨w.heap.size, 1, none⟩ = false ∧ (∀ o, X.cell? ⟨K, o, none⟩ = #[Value.int .i64 p, .int .i64 n][o]?) ∧ K < X.heap.size := by obtain ⟨q1, q2⟩ := HST.out.res 0 (by omega); obtain ⟨q3, q4⟩ := HST.out.res 1 (by omega); obtain ⟨e0, h0⟩ := Option.isSome_iff_exists.1 q2; obtain ⟨e1, h1⟩ := Option.isSome_iff_exists.1 q4; exact ⟨e0, h0, e1, h1, q1, q3, HST.out.ring, HST.out.kx⟩
  have g0 := gX 0
  have g1 := gX 1
  simp at g0 g1
  have hP1 := HMP.out.1.2.1
  have hP9 := HMP.out.2
  have HDV := hid (s_divide _ _ G P p X HL.out.rd HP.out.rd hs HGM.out.1 HMP.out.1.1.1 (by omega) (by omega))
  have hql := quo_len (p := p) G P
  obtain ⟨Q, hQ⟩ : ∃ Q, Q = quoP p G P := ⟨_, rfl⟩
  rw [← hQ] at HDV hql
  clear hQ
  go_wp2_with fail
  refine viaI2 (g := fun r q => .tuple #[r, q]) HDV.out ?_
  intro v1 v2 uu zz o1 o2 n1 n2
  obtain ⟨a8, c8, rfl⟩ := own_len o1
  have HD := hid (o1.mono (show b + 1 ≤ _ by omega))
  clear o1 o2 n1 n2 HDV
  go_wp2_with fail
  obtain ⟨Y, hY⟩ : ∃ Y, Y = aft X uu := ⟨_, rfl⟩
  have hST9 : stP B b p n K w Y := by rw [hY]; exact HST.out.next ((Gr.refl b _).aft _) (HST.out.srcw.aft _)
  have n90 : ownR (b + 1) Y (.slice a5 f.length c5) f := by rw [hY]; exact HF.out.aft uu
  have n91 : ownR (b + 1) Y (.slice a6 G.length c6) G := by rw [hY]; exact HL.out.aft uu
  have n92 : ownF 0 Y (.slice (some ⟨lg, 0, none⟩) N lc) qs := by rw [hY]; exact HQ2.out.aft uu
  have n93 : ownR 0 Y qe g := by rw [hY]; exact HE.out.aft uu
  have n94 : Y.cell? ⟨lg, x * 2, none⟩ = some qe ∧ Y.cell? ⟨lg, x * 2 + 1, none⟩ = some (.int .i64 qt) := by rw [hY]; exact ⟨by rw [aft_cell, if_pos (World.block_lt_of_cell? _ _ CX.out.1)]; exact CX.out.1, by rw [aft_cell, if_pos (World.block_lt_of_cell? _ _ CX.out.2)]; exact CX.out.2⟩
  have n95 : ownR (b + 1) Y (.slice a7 P.length c7) P := by rw [hY]; exact HP.out.aft uu
  have n96 : ownR (b + 1) Y (.slice a8 Q.length c8) Q := by rw [hY]; exact HD.out
  rw [← hY]
  clear hY HST HF HL HQ2 HE CX HP HD zz he0 he1 hf0 hf1 gX g0 g1 hKX
  obtain ⟨X, hX⟩ : ∃ X, X = Y := ⟨_, rfl⟩
  rw [← hX] at hST9 n90 n91 n92 n93 n94 n95 n96 ⊢
  clear hX
  have HST := hid hST9
  have HF := hid n90
  have HL := hid n91
  have HQ2 := hid n92
  have HE := hid n93
  have CX := hid n94
  have HP := hid n95
  have HD := hid n96
  clear hST9 n90 n91 n92 n93 n94 n95 n96
  obtain ⟨e0, he0, e1, he1, hf0, hf1, gX, hKX⟩ : ∃ e0, X.cell? ⟨w.heap.size, 0, none⟩ = some e0 ∧ ∃ e1, X.cell? ⟨w.heap.size, 1, none⟩ = some e1 ∧ X.frozen? ⟨w.heap.size, 0, none⟩ = false ∧ X.frozen? ⟨w.heap.size, 1, none⟩ = false ∧ (∀ o, X.cell? ⟨K, o, none⟩ = #[Value.int .i64 p, .int .i64 n][o]?) ∧ K < X.heap.size := by obtain ⟨q1, q2⟩ := HST.out.res 0 (by omega); obtain ⟨q3, q4⟩ := HST.out.res 1 (by omega); obtain ⟨e0, h0⟩ := Option.isSome_iff_exists.1 q2; obtain ⟨e1, h1⟩ := Option.isSome_iff_exists.1 q4; exact ⟨e0, h0, e1, h1, q1, q3, HST.out.ring, HST.out.kx⟩
  have g0 := gX 0
  have g1 := gX 1
  simp at g0 g1
  have HSR := hid HST.out.srcw
  refine viaDr (s_next B b _ _ HSR.out (by decide)) ?_
  intro x8 u9 hx8 hs9 hl9
  clear hx8
  have HE2 := hid (HE.out.aftS HSR.out (by have := HEO.out.2.1; omega) u9)
  have HQ3 := hid (HQ2.out.aftS HSR.out u9)
  have hlg := srcF_ne HSR.out HQ2.out
  have hcx : (aftD b X u9).cell? ⟨lg, x * 2, none⟩ = some qe ∧ (aftD b X u9).cell? ⟨lg, x * 2 + 1, none⟩ = some (.int .i64 qt) := ⟨by rw [aftD_cell, if_pos ⟨World.block_lt_of_cell? _ _ CX.out.1, hlg⟩]; exact CX.out.1, by rw [aftD_cell, if_pos ⟨World.block_lt_of_cell? _ _ CX.out.1, hlg⟩]; exact CX.out.2⟩
  clear hlg HSR HE HQ2 CX
  obtain ⟨Y, hY⟩ : ∃ Y, Y = aftD b X u9 := ⟨_, rfl⟩
  have hST9 : stP B b p n K w Y := by rw [hY]; exact HST.out.next ((Gr.refl b _).aftD _) (hs9)
  have n90 : ownR (b + 1) Y (.slice a5 f.length c5) f := by rw [hY]; exact HF.out.aftD u9 (by omega)
  have n91 : ownR (b + 1) Y (.slice a6 G.length c6) G := by rw [hY]; exact HL.out.aftD u9 (by omega)
  have n92 : ownF 0 Y (.slice (some ⟨lg, 0, none⟩) N lc) qs := by rw [hY]; exact HQ3.out
  have n93 : ownR 0 Y qe g := by rw [hY]; exact HE2.out
  have n94 : Y.cell? ⟨lg, x * 2, none⟩ = some qe ∧ Y.cell? ⟨lg, x * 2 + 1, none⟩ = some (.int .i64 qt) := by rw [hY]; exact hcx
  have n95 : ownR (b + 1) Y (.slice a7 P.length c7) P := by rw [hY]; exact HP.out.aftD u9 (by omega)
  have n96 : ownR (b + 1) Y (.slice a8 Q.length c8) Q := by rw [hY]; exact HD.out.aftD u9 (by omega)
  rw [← hY]
  clear hY HST HF HL HQ3 HE2 hcx HP HD hs9 hl9 he0 he1 hf0 hf1 gX g0 g1 hKX
  obtain ⟨X, hX⟩ : ∃ X, X = Y := ⟨_, rfl⟩
  rw [← hX] at hST9 n90 n91 n92 n93 n94 n95 n96 ⊢
  clear hX
  have HST := hid hST9
  have HF := hid n90
  have HL := hid n91
  have HQ2 := hid n92
  have HE := hid n93
  have CX := hid n94
  have HP := hid n95
  have HD := hid n96
  clear hST9 n90 n91 n92 n93 n94 n95 n96
  obtain ⟨e0, he0, e1, he1, hf0, hf1, gX, hKX⟩ : ∃ e0, X.cell? ⟨w.heap.size, 0, none⟩ = some e0 ∧ ∃ e1, X.cell? ⟨w.heap.size, 1, none⟩ = some e1 ∧ X.frozen? ⟨w.heap.size, 0, none⟩ = false ∧ X.frozen? ⟨w.heap.size, 1, none⟩ = false ∧ (∀ o, X.cell? ⟨K, o, none⟩ = #[Value.int .i64 p, .int .i64 n][o]?) ∧ K < X.heap.size := by obtain ⟨q1, q2⟩ := HST.out.res 0 (by omega); obtain ⟨q3, q4⟩ := HST.out.res 1 (by omega); obtain ⟨e0, h0⟩ := Option.isSome_iff_exists.1 q2; obtain ⟨e1, h1⟩ := Option.isSome_iff_exists.1 q4; exact ⟨e0, h0, e1, h1, q1, q3, HST.out.ring, HST.out.kx⟩
  have g0 := gX 0
  have g1 := gX 1
  simp at g0 g1
  have cX : X.cell? ⟨lg, x * 2, none⟩ = some qe ∧ X.cell? ⟨lg, x * 2 + 1, none⟩ = some (.int .i64 qt) ∧ lg < X.heap.size ∧ lg ≠ b ∧ lg ≠ w.heap.size := ⟨CX.out.1, CX.out.2, World.block_lt_of_cell? _ _ CX.out.1, srcF_ne HST.out.srcw HQ2.out, ringF_ne HST.out.ty HQ2.out⟩
  have HTY : ringT w.heap.size X := HST.out.ty
  by_cases h8 : x8 = 0
  · subst h8
    go_wp2_with fail
    (refine wp_region_held_drew (S := (fun w' => (∀ o, w'.cell? ⟨K, o, none⟩ = #[Value.int .i64 p, .int .i64 n][o]?) ∧ (w'.cell? ⟨lg, x * 2, none⟩ = some qe ∧ w'.cell? ⟨lg, x * 2 + 1, none⟩ = some (.int .i64 qt)) ∧ X.heap.size ≤ w'.heap.size)) (by kernel_rfl) ?_ (fun hHeld => ?_); focus ((try dsimp only); (refine heldD.atE (b := b) (R := w.heap.size) hKX hKb hKR gX cX ?_; (repeat (with_reducible first | exact heldD.refl _ _ _ | apply heldD.drew | apply heldD.aftD | apply heldD.aft | apply heldD.alloc | apply heldD.set)))))
    (refine wpAnyH_take (i := 0) (oi := ?ho8) (v := ?hv8) ?hi8 (by kernel_rfl) (by kernel_rfl) (by kernel_rfl) ?hq8 ?hy8 (by assumption) ?hr8; (case hi8 => (simp only [List.getElem?_toArray, List.getElem?_cons_zero]; first | done | rfl)); (case hq8 => exact fun _ _ _ h => h); (case hy8 => (refine Or.inl ⟨by rfl, ?_⟩; intro w hSw; (try dsimp only at hSw); go_simp; first | done | with_reducible rfl)); (try simp only [Act.put, List.setIfInBounds_toArray, List.set_cons_zero, List.set_cons_succ]))
    (refine wpAnyH_take (i := 1) (oi := ?ho9) (v := ?hv9) ?hi9 (by kernel_rfl) (by kernel_rfl) (by kernel_rfl) ?hq9 ?hy9 (by assumption) ?hr9; (case hi9 => (simp only [List.getElem?_toArray, List.getElem?_cons_succ, List.getElem?_cons_zero]; first | done | rfl)); (case hq9 => exact fun _ _ _ h => h); (case hy9 => (refine Or.inl ⟨by rfl, ?_⟩; intro w hSw; (try dsimp only at hSw); go_simp; first | done | with_reducible rfl)); (try simp only [Act.put, List.setIfInBounds_toArray, List.set_cons_zero, List.set_cons_succ]))
    (refine wpAnyH_take (i := 2) (oi := ?ho10) (v := ?hv10) ?hi10 (by kernel_rfl) (by kernel_rfl) (by kernel_rfl) ?hq10 ?hy10 (by assumption) ?hr10; (case hi10 => (simp only [List.getElem?_toArray, List.getElem?_cons_succ, List.getElem?_cons_zero]; first | done | rfl)); (case hq10 => exact fun _ _ _ h => h); (case hy10 => (refine Or.inl ⟨by rfl, ?_⟩; intro w hSw; (try dsimp only at hSw); go_simp; first | done | with_reducible rfl)); (try simp only [Act.put, List.setIfInBounds_toArray, List.set_cons_zero, List.set_cons_succ]))
    (refine wpAnyH_take (i := 3) (oi := ?ho11) (v := ?hv11) ?hi11 (by kernel_rfl) (by kernel_rfl) (by kernel_rfl) ?hq11 ?hy11 (by assumption) ?hr11; (case hi11 => (simp only [List.getElem?_toArray, List.getElem?_cons_succ, List.getElem?_cons_zero]; first | done | rfl)); (case hq11 => exact fun _ _ _ h => h); (case hy11 => (refine Or.inl ⟨by rfl, ?_⟩; intro w hSw; (try dsimp only at hSw); go_simp; first | done | with_reducible rfl)); (try simp only [Act.put, List.setIfInBounds_toArray, List.set_cons_zero, List.set_cons_succ]))
    (refine wpAnyH_take (i := 4) (oi := ?ho12) (v := ?hv12) ?hi12 (by kernel_rfl) (by kernel_rfl) (by kernel_rfl) ?hq12 ?hy12 (by assumption) ?hr12; (case hi12 => (simp only [List.getElem?_toArray, List.getElem?_cons_succ, List.getElem?_cons_zero]; first | done | rfl)); (case hq12 => exact fun _ _ _ h => h); (case hy12 => (refine Or.inl ⟨by rfl, ?_⟩; intro w hSw; (try dsimp only at hSw); go_simp; first | done | with_reducible rfl)); (try simp only [Act.put, List.setIfInBounds_toArray, List.set_cons_zero, List.set_cons_succ]))
    (refine wpAnyH_take (i := 5) (oi := ?ho13) (v := ?hv13) ?hi13 (by kernel_rfl) (by kernel_rfl) (by kernel_rfl) ?hq13 ?hy13 (by assumption) ?hr13; (case hi13 => (simp only [List.getElem?_toArray, List.getElem?_cons_succ, List.getElem?_cons_zero]; first | done | rfl)); (case hq13 => exact fun _ _ _ h => h); (case hy13 => (refine Or.inl ⟨by rfl, ?_⟩; intro w hSw; (try dsimp only at hSw); go_simp; first | done | with_reducible rfl)); (try simp only [Act.put, List.setIfInBounds_toArray, List.set_cons_zero, List.set_cons_succ]))
    (refine wpAnyH_take (i := 6) (oi := ?ho14) (v := ?hv14) ?hi14 (by kernel_rfl) (by kernel_rfl) (by kernel_rfl) ?hq14 ?hy14 (by assumption) ?hr14; (case hi14 => (simp only [List.getElem?_toArray, List.getElem?_cons_succ, List.getElem?_cons_zero]; first | done | rfl)); (case hq14 => exact fun _ _ _ h => h); (case hy14 => (refine Or.inl ⟨by rfl, ?_⟩; intro w hSw; (try dsimp only at hSw); go_simp; first | done | with_reducible rfl)); (try simp only [Act.put, List.setIfInBounds_toArray, List.set_cons_zero, List.set_cons_succ]))
    (refine wpAnyH_take (i := 7) (oi := ?ho15) (v := ?hv15) ?hi15 (by kernel_rfl) (by kernel_rfl) (by kernel_rfl) ?hq15 ?hy15 (by assumption) ?hr15; (case hi15 => (simp only [List.getElem?_toArray, List.getElem?_cons_succ, List.getElem?_cons_zero]; first | done | rfl)); (case hq15 => exact fun _ _ _ h => h); (case hy15 => (refine Or.inl ⟨by rfl, ?_⟩; intro w hSw; (try dsimp only at hSw); go_simp; first | done | with_reducible rfl)); (try simp only [Act.put, List.setIfInBounds_toArray, List.set_cons_zero, List.set_cons_succ]))
    (refine wpAnyH_ready (rs := [8]) (by decide +kernel) (by simp) ?_; refine AllReadyH.cons (o := ?ho20) ?hi20 (fun K hK => ?hr20) AllReadyH.nil; (case hi20 => (simp only [List.getElem?_toArray, List.getElem?_cons_succ, List.getElem?_cons_zero]; first | done | rfl)))
    (rw [if_pos (by rfl)]; go_wp2_with fail)
    (refine hK.out _ _ ?_ (fun hHeld => ?_); focus ((try dsimp only); (refine heldD.atE (b := b) (R := w.heap.size) hKX hKb hKR gX cX ?_; (repeat (with_reducible first | exact heldD.refl _ _ _ | apply heldD.drew | apply heldD.aftD | apply heldD.aft | apply heldD.alloc | apply heldD.set)))))
    (clear hK K; (try simp only [Act.put, List.setIfInBounds_toArray, List.set_cons_zero, List.set_cons_succ]))
    (refine wpAnyH_take (i := 9) (oi := ?ho16) (v := ?hv16) ?hi16 (by kernel_rfl) (by kernel_rfl) (by kernel_rfl) ?hq16 ?hy16 (by assumption) ?hr16; (case hi16 => (simp only [List.getElem?_toArray, List.getElem?_cons_succ, List.getElem?_cons_zero]; first | done | rfl)); (case hq16 => exact fun _ _ _ h => h); (case hy16 => (refine Or.inl ⟨by rfl, ?_⟩; intro w hSw; (try dsimp only at hSw); go_simp; first | done | with_reducible rfl)); (try simp only [Act.put, List.setIfInBounds_toArray, List.set_cons_zero, List.set_cons_succ]))
    (refine wpAnyH_take (i := 10) (oi := ?ho17) (v := ?hv17) ?hi17 (by kernel_rfl) (by kernel_rfl) (by kernel_rfl) ?hq17 ?hy17 (by assumption) ?hr17; (case hi17 => (simp only [List.getElem?_toArray, List.getElem?_cons_succ, List.getElem?_cons_zero]; first | done | rfl)); (case hq17 => exact fun _ _ _ h => h); (case hy17 => (refine Or.inl ⟨by rfl, ?_⟩; intro w hSw; (try dsimp only at hSw); go_simp; first | done | with_reducible rfl)); (try simp only [Act.put, List.setIfInBounds_toArray, List.set_cons_zero, List.set_cons_succ]))
    (refine wpAnyH_take (i := 11) (oi := ?ho18) (v := ?hv18) ?hi18 (by kernel_rfl) (by kernel_rfl) (by kernel_rfl) ?hq18 ?hy18 (by assumption) ?hr18; (case hi18 => (simp only [List.getElem?_toArray, List.getElem?_cons_succ, List.getElem?_cons_zero]; first | done | rfl)); (case hq18 => exact fun _ _ _ h => h); (case hy18 => (refine Or.inl ⟨by rfl, ?_⟩; intro w hSw; (try dsimp only at hSw); go_simp; first | done | with_reducible rfl)); (try simp only [Act.put, List.setIfInBounds_toArray, List.set_cons_zero, List.set_cons_succ]))
    (refine wpAnyH_done (by kernel_rfl) ?_ _)
    go_wp2_with fail
    exact bodyPost_ret (v := .tuple #[.agg #[Value.int IntKind.i64 p, Value.int IntKind.i64 n], .slice a5 f.length c5, qe, .slice a8 Q.length c8]) (by first | (simp [results, go_sem, he0, he1]; done) | simp [results, go_sem, he0, he1, ↓IntWalk.iteOmega]) rfl ⟨p, n, _, _, _, f, g, Q, rfl, ⟨ownR.mono (show ownR (b + 1) _ _ _ from (by repeat (with_reducible first | exact HF.out | exact HL.out | exact HP.out | exact HD.out | exact own_11 _ _ (by first | rfl | simp) (by omega) | exact own_01 _ _ (by first | rfl | simp) (by omega) | apply ownR.drew | apply ownR.aft | (refine ownR.aftD ?_ _ (by omega)) | apply ownR.alloc | (refine ownR.setCell ?_ _ _ _ _ (by omega))))) (Nat.zero_le _), (by repeat (with_reducible first | exact HE.out | apply ownR.drew | (refine ownR.setT ?_ ?_) | exact HTY | apply ringT.drew | apply ringT.set)), ownR.mono (show ownR (b + 1) _ _ _ from (by repeat (with_reducible first | exact HF.out | exact HL.out | exact HP.out | exact HD.out | exact own_11 _ _ (by first | rfl | simp) (by omega) | exact own_01 _ _ (by first | rfl | simp) (by omega) | apply ownR.drew | apply ownR.aft | (refine ownR.aftD ?_ _ (by omega)) | apply ownR.alloc | (refine ownR.setCell ?_ _ _ _ _ (by omega))))) (Nat.zero_le _)⟩, ⟨HXL.out, by have := HEO.out.2.2.1; omega, by omega⟩, (Ext.bel (by repeat (with_reducible first | exact HST.out.ext | apply Ext.drew | apply Ext.alloc | apply Ext.aft | (refine Ext.aftD ?_ _ (by omega)) | (refine Ext.setCell ?_ _ _ _ _ (by omega)))))⟩
  have h8' : (x8 == 0) = false := by simpa using h8
  go_wp2_with fail
  exact bodyPost_ret (v := .tuple #[.agg #[Value.int IntKind.i64 p, Value.int IntKind.i64 n], .slice a5 f.length c5, .slice a7 P.length c7, .slice a8 Q.length c8]) (by first | (simp [results, go_sem, he0, he1]; done) | simp [results, go_sem, he0, he1, ↓IntWalk.iteOmega]) rfl ⟨p, n, _, _, _, f, P, Q, rfl, ⟨ownR.mono (show ownR (b + 1) _ _ _ from (by repeat (with_reducible first | exact HF.out | exact HL.out | exact HP.out | exact HD.out | exact own_11 _ _ (by first | rfl | simp) (by omega) | exact own_01 _ _ (by first | rfl | simp) (by omega) | apply ownR.drew | apply ownR.aft | (refine ownR.aftD ?_ _ (by omega)) | apply ownR.alloc | (refine ownR.setCell ?_ _ _ _ _ (by omega))))) (Nat.zero_le _), ownR.mono (show ownR (b + 1) _ _ _ from (by repeat (with_reducible first | exact HF.out | exact HL.out | exact HP.out | exact HD.out | exact own_11 _ _ (by first | rfl | simp) (by omega) | exact own_01 _ _ (by first | rfl | simp) (by omega) | apply ownR.drew | apply ownR.aft | (refine ownR.aftD ?_ _ (by omega)) | apply ownR.alloc | (refine ownR.setCell ?_ _ _ _ _ (by omega))))) (Nat.zero_le _), ownR.mono (show ownR (b + 1) _ _ _ from (by repeat (with_reducible first | exact HF.out | exact HL.out | exact HP.out | exact HD.out | exact own_11 _ _ (by first | rfl | simp) (by omega) | exact own_01 _ _ (by first | rfl | simp) (by omega) | apply ownR.drew | apply ownR.aft | (refine ownR.aftD ?_ _ (by omega)) | apply ownR.alloc | (refine ownR.setCell ?_ _ _ _ _ (by omega))))) (Nat.zero_le _)⟩, ⟨HXL.out, by omega, by omega⟩, (Ext.bel (by repeat (with_reducible first | exact HST.out.ext | apply Ext.drew | apply Ext.alloc | apply Ext.aft | (refine Ext.aftD ?_ _ (by omega)) | (refine Ext.setCell ?_ _ _ _ _ (by omega)))))⟩
theorem viaPD {P : Program} {f : FuncId} {args : Array Value} {w : World} {R : Ending → World → Prop} (h : Calls P f args w (PairD w))
    (hR : ∀ p n s1 s2 s3 f g h u, w.heap.size ≤ (aft w u).heap.size → (ownR 0 (aft w u) s1 f ∧ ownR 0 (aft w u) s2 g ∧ ownR 0 (aft w u) s3 h) → (f.length ≤ 11 ∧ g.length ≤ 11 ∧ h.length ≤ 11) → R (.returned (.tuple #[.agg #[.int .i64 p, .int .i64 n], s1, s2, s3])) (aft w u)) : Calls P f args w R :=
  h.mono fun e w' ⟨p, n, s1, s2, s3, f, g, h, he, h1, h2, hb⟩ => by subst he; obtain ⟨u, rfl⟩ := aft_ex hb; exact hR p n s1 s2 s3 f g h u (size_aft w u) h1 h2
set_option maxRecDepth 20000 in
set_option maxHeartbeats 16000000 in
theorem s_DrawLiftPair (B : Nat) (a : Option Addr) (len cap : Nat) (w : World) (h : rdB B w a len) (hl : len ≤ 4096) (hB : B ≤ w.heap.size) :
    Calls Try.prog 5 #[.slice a len cap] w (PairD w) := by
  go_enter Try.func5, Try.ntmps5
  go_wp2_with fail
  refine viaPD (s_pair12 B a len cap _ (h.of fun j o v hj hv => by rw [alloc_cell, if_neg (by omega)]; exact hv) hl (by simp; omega)) ?_
  intro p n s1 s2 s3 f g h9 u hl2 ho hxl
  (try simp at hl2)
  have HTY : ringT w.heap.size (aft (w.alloc (Obj.cells #[Value.int IntKind.i64 0, Value.int IntKind.i64 0] 25)) u) := ringT.below (w := w.alloc (Obj.cells #[Value.int IntKind.i64 0, Value.int IntKind.i64 0] 25)) ⟨_, heap_alloc_new w _⟩ (below_aft _ _)
  have HO := hid ho
  have HXL := hid hxl
  have HY := hid HTY
  clear ho hxl HTY
  go_wp2_with fail
  exact bodyPost_ret (v := .tuple #[.agg #[Value.int IntKind.i64 p, Value.int IntKind.i64 n], s1, s2, s3]) (by first | (simp [results, go_sem]; done) | simp [results, go_sem, ↓IntWalk.iteOmega]) rfl ⟨p, n, s1, s2, s3, f, g, h9, rfl, ⟨((HO.out.1).setT HY.out).setT HY.out.set, ((HO.out.2.1).setT HY.out).setT HY.out.set, ((HO.out.2.2).setT HY.out).setT HY.out.set⟩, HXL.out, (by refine Ext.bel ?_; repeat (with_reducible first | exact Ext.refl _ | apply Ext.alloc | apply Ext.aft | apply Ext.drew | apply Ext.drewN | apply Ext.setCell | exact Nat.le_add_right _ _ | exact Nat.le_refl _ | (simp; done) | omega))⟩
end Go.Proofs.Ytflmoopiajhadaa
