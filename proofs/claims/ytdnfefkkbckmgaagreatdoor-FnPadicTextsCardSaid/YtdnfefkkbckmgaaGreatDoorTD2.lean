/- DrawPadicText, DrawReadPadic. -/
import Derived.Test.YtdnfefkkbckmgaaGreatDoorTD1
import Derived.Test.YtdnfefkkbckmgaaGreatDoorTB5
namespace Go.Proofs.YtdnfefkkbckmgaaGreatDoor
open Go Go.RowKit

theorem text_len {p v u n : Int} (hp : 2 ≤ p ∧ p ≤ 97) (hv : -60 ≤ v ∧ v ≤ 60) (hn : 0 ≤ n ∧ n ≤ 40) : (textL p v u n).length ≤ 170 := by
  have h1 : (Lib.itoa p).length ≤ 3 := itoa_len (by omega)
  have h2 : (Lib.itoa v).length ≤ 3 := itoa_len (by omega)
  have h3 : (tailL p u n).length ≤ 160 := by
    unfold tailL
    split
    · simp
    · have := joinL_len (digs p u n.toNat) (digs_bd (u := u) hp n.toNat)
      rw [digs_len] at this
      omega
  unfold textL
  simp only [List.length_append, List.length_cons, List.length_nil]
  omega
theorem pow_small {p : Int} {k : Nat} (hp : p = 2 ∨ p = 3 ∨ p = 5 ∨ p = 11) (hk : k ≤ 8) : p ^ k ≤ 1000000000 := by
  have h : k = 0 ∨ k = 1 ∨ k = 2 ∨ k = 3 ∨ k = 4 ∨ k = 5 ∨ k = 6 ∨ k = 7 ∨ k = 8 := by omega
  rcases hp with rfl | rfl | rfl | rfl <;> rcases h with rfl | rfl | rfl | rfl | rfl | rfl | rfl | rfl | rfl <;> decide
set_option maxRecDepth 20000 in
set_option maxHeartbeats 4000000 in
theorem s_DrawPadicText (a : Option Addr) (len cap : Nat) (w : World) (h : rdB w.heap.size w a len) (hl : len ≤ 4096) :
    Calls Tryz.prog 9 #[.slice a len cap] w fun e w' => ∃ x : Pd, e = .returned (.agg #[.int .i64 x.p, .int .i64 x.v, .int .i64 x.u, .int .i64 x.n]) ∧ Below w.heap.size w w' := by
  obtain ⟨B, hB⟩ : ∃ B, B = w.heap.size := ⟨_, rfl⟩
  have hB' : B ≤ w.heap.size := by omega
  rw [← hB] at h
  go_enter Tryz.func9, Tryz.ntmps9
  go_wp2_with fail
  refine viaF (s_from B a len cap _ (h.of fun j o v hj hv => by rw [alloc_cell, if_neg (by omega)]; exact hv) hl (by simp; omega)) ?_
  intro b u0 hs0 hb0 hl0 hl1
  simp at hb0 hl0
  go_wp2_with fail
  refine viaDr (s_draw3 B b _ hs0) ?_
  intro x u1 htr hs1 hl2
  clear htr
  obtain ⟨x1, x2, x3, x4⟩ := x
  dsimp only
  go_wp2_with fail
  exact bodyPost_ret (v := .agg #[.int .i64 x1, .int .i64 x2, .int .i64 x3, .int .i64 x4]) (by first | (simp [results, go_sem]; done) | simp [results, go_sem, ↓IntWalk.iteOmega]) rfl ⟨⟨x1, x2, x3, x4⟩, rfl, (by refine Ext.bel ?_; exact ((((((((Ext.refl w).alloc _).aft _).aftD _ (by omega)).setCell _ _ _ _ (by omega)).setCell _ _ _ _ (by omega)).setCell _ _ _ _ (by omega)).setCell _ _ _ _ (by omega)))⟩
set_option maxRecDepth 20000 in
set_option maxHeartbeats 4000000 in
theorem s_DrawReadPadic (a : Option Addr) (len cap : Nat) (w : World) (h : rdB w.heap.size w a len) (hl : len ≤ 4096) :
    Calls Tryz.prog 12 #[.slice a len cap] w fun e w' => ∃ S : List UInt8, e = .returned (.string ⟨S.toArray⟩) ∧ S.length ≤ 1100 ∧ Below w.heap.size w w' := by
  have hH := hid h
  go_enter Tryz.func12, Tryz.ntmps12
  go_wp2_with fail
  refine viaF (s_from w.heap.size _ _ _ _ hH.out hl (by first | exact Nat.le_refl _ | simp)) ?_
  intro b u hs hb hl1 hlt
  go_wp2_with fail
  refine viaDr (s_pickA w.heap.size b _ _ _ [2, 3, 5, 11] _ _ _ (by simp) rfl rfl (by repeat (with_reducible first | assumption | apply src.aft | apply src.alloc | apply src.drew | (refine src.set ?_ ?_ ?_ _) | (simp; done) | (simp; omega) | omega)) (by decide) (by decide)) ?_
  intro p v hp hs2 hl2
  try simp at hl2
  have hp' : p = 2 ∨ p = 3 ∨ p = 5 ∨ p = 11 := by simpa using hp
  go_wp2_with fail
  refine viaDr (s_valid3 w.heap.size b _ _ hs2 (by omega)) ?_
  intro x v2 hx hs3 hl3
  obtain ⟨hx1, hx2, hx3, hx4⟩ := hx
  obtain ⟨x1, x2, x3, x4⟩ := x
  dsimp only at hx1 hx2 hx3 hx4 ⊢
  have hpw : x1 ^ x4.toNat ≤ 1000000000 := pow_small (by rw [hx1]; exact hp') (by omega)
  have HT := hid (fun W => s_text x1 x2 x3 x4 W (by omega) (by omega) hx3 (by omega) hpw)
  have hTl : (textL x1 x2 x3 x4).length ≤ 170 := text_len (by omega) (by omega) (by omega)
  obtain ⟨T, hT⟩ : ∃ T, T = textL x1 x2 x3 x4 := ⟨_, rfl⟩
  rw [← hT] at HT hTl
  clear hT hpw hp hp' hx1 hx2 hx3 hx4
  have hG : Hid (Gr b (aft w u) (aftD b (aftD b ((aft w u).alloc (Obj.cells #[.int .i64 2, .int .i64 3, .int .i64 5, .int .i64 11] 2)) v) v2)) := hid (by show Gr _ _ _; repeat (with_reducible first | exact Gr.refl _ _ | apply Gr.aftD | apply Gr.alloc))
  obtain ⟨W, hW⟩ : ∃ W, W = aftD b (aftD b ((aft w u).alloc (Obj.cells #[.int .i64 2, .int .i64 3, .int .i64 5, .int .i64 11] 2)) v) v2 := ⟨_, rfl⟩
  rw [← hW] at hG hs3 ⊢
  clear hW hl2 hl3 hs2 hs
  go_wp2_with fail
  refine via (HT.out _) ?_
  intro u3 z3
  (try simp at z3)
  have hs4 : src w.heap.size b (aft W u3) := hs3.aft _
  go_wp2_with fail
  refine viaDr (s_next w.heap.size b _ _ hs4 (by omega)) ?_
  intro j v4 hj hs5 hl5
  (try dsimp only at hj)
  by_cases j0 : j = 0
  · subst j0
    go_wp2_with fail
    refine viaDr (s_damage w.heap.size b T _ hs5 (by omega)) ?_
    intro S v5 hS hs6 hl6
    go_wp2_with fail
    go_ret
    have hG2 : Gr b (aft w u) (aftD b (aftD b (aft W u3) v4) v5) := by repeat (with_reducible first | exact hG.out | apply Gr.aftD | apply Gr.aft)
    exact ⟨S, rfl, hS, (below_aft w u).trans (hG2.ext hb hl1).1⟩
  · have j0b : (j == 0) = false := by simpa using j0
    go_wp2_with fail
    go_ret
    have hG2 : Gr b (aft w u) (aftD b (aft W u3) v4) := by repeat (with_reducible first | exact hG.out | apply Gr.aftD | apply Gr.aft)
    exact ⟨T, rfl, by omega, (below_aft w u).trans (hG2.ext hb hl1).1⟩
end Go.Proofs.YtdnfefkkbckmgaaGreatDoor
