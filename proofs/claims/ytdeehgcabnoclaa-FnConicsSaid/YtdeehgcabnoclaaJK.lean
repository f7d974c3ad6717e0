/- A draw: a p-adic number, often a square. -/
import Derived.Test.YtdeehgcabnoclaaJJ
namespace Go.Proofs.Ytdeehgcabnoclaa
open Go Go.RowKit

set_option maxRecDepth 20000 in
set_option maxHeartbeats 8000000 in
theorem s_DrawIsSquarePadic (B : Nat) (a : Option Addr) (len cap : Nat) (w : World) (h : rdB B w a len) (hl : len ≤ 4096) (hB : B ≤ w.heap.size) :
    Calls Try.prog 8 #[.slice a len cap] w fun e w' => ∃ z : Pd, e = .returned ((fun x : Pd => .agg #[.int .i64 x.p, .int .i64 x.v, .int .i64 x.u, .int .i64 x.n]) z) ∧ Below w.heap.size w w' := by
  go_enter Try.func8, Try.ntmps8
  go_wp2_with fail
  refine viaF (s_from B a len cap _ (h.of fun j o v hj hv => by rw [alloc_cell, if_neg (by omega)]; exact hv) hl (by simp; omega)) ?_
  intro b u0 hs0 hb0 hl0 hl1
  simp at hb0 hl0
  go_wp2_with fail
  refine viaDr (s_draw3 B b _ hs0) ?_
  intro x u1 htr hs1 hl2
  clear htr
  obtain ⟨x1, x2, x3, x4⟩ := x
  dsimp only
  obtain ⟨V, hV⟩ : ∃ V, V = aftD b (aft (w.alloc (Obj.cells #[Value.int IntKind.i64 0, Value.int IntKind.i64 0, Value.int IntKind.i64 0, Value.int IntKind.i64 0] 29)) u0) u1 := ⟨_, rfl⟩
  have lV : w.heap.size + 1 ≤ V.heap.size := by rw [hV]; omega
  have hbV : b < V.heap.size := by rw [hV]; omega
  have hBb := hs0.ge
  have c1 : ∀ o, V.cell? ⟨w.heap.size, o, none⟩ = #[Value.int IntKind.i64 0, Value.int IntKind.i64 0, Value.int IntKind.i64 0, Value.int IntKind.i64 0][o]? := fun o => by rw [hV, aftD_cell, if_pos (by omega), aft_cell, if_pos (by simp), alloc_cell, if_pos rfl]
  have f1 : ∀ o, V.frozen? ⟨w.heap.size, o, none⟩ = false := fun o => by rw [hV, aftD_frozen, if_pos (by omega), aft_frozen, if_pos (by simp), alloc_frozen, if_pos rfl]
  have hE : Hid (Ext w.heap.size w V) := hid (by rw [hV]; exact (((Ext.refl w).alloc _).aft _).aftD _ (by omega))
  rw [← hV] at hs1 ⊢
  clear hV hs0 hl0 hl1 hl2 h hl
  go_wp2_with fail
  obtain ⟨k, hk⟩ : ∃ k, k = V.heap.size := ⟨_, rfl⟩
  obtain ⟨W, hW⟩ : ∃ W, W = V.alloc (Obj.cells #[Value.int IntKind.i64 x1, Value.int IntKind.i64 x2, Value.int IntKind.i64 x3, Value.int IntKind.i64 x4] 29) := ⟨_, rfl⟩
  have c1 : ∀ o, W.cell? ⟨w.heap.size, o, none⟩ = #[Value.int IntKind.i64 0, Value.int IntKind.i64 0, Value.int IntKind.i64 0, Value.int IntKind.i64 0][o]? := fun o => by rw [hW, alloc_cell, if_neg (by omega)]; exact c1 o
  have f1 : ∀ o, W.frozen? ⟨w.heap.size, o, none⟩ = false := fun o => by rw [hW, alloc_frozen, if_neg (by omega)]; exact f1 o
  have cX : ∀ o, W.cell? ⟨k, o, none⟩ = #[Value.int IntKind.i64 x1, Value.int IntKind.i64 x2, Value.int IntKind.i64 x3, Value.int IntKind.i64 x4][o]? := fun o => by rw [hW, alloc_cell, if_pos hk]
  have hG : Hid (Ext w.heap.size w W) := hid (by rw [hW]; exact hE.out.alloc _)
  have hsW : src B b W := by rw [hW]; exact hs1.alloc _
  have lW : k < W.heap.size := by rw [hW]; simp; omega
  have lk : w.heap.size < k := by omega
  have hkb : b < k := by omega
  rw [← hW, ← hk]
  clear hW hk hs1 hE lV hbV
  refine via (s_IsPadic x1 x2 x3 x4 W) ?_
  intro u2 z2
  (try simp at z2)
  have hs2 := hsW.aft u2
  have c2 : ∀ o, (aft W u2).cell? ⟨w.heap.size, o, none⟩ = #[Value.int IntKind.i64 0, Value.int IntKind.i64 0, Value.int IntKind.i64 0, Value.int IntKind.i64 0][o]? := fun o => by rw [aft_cell, if_pos (by omega)]; exact c1 o
  have f2 : ∀ o, (aft W u2).frozen? ⟨w.heap.size, o, none⟩ = false := fun o => by rw [aft_frozen, if_pos (by omega)]; exact f1 o
  have d2 : ∀ o, (aft W u2).cell? ⟨k, o, none⟩ = #[Value.int IntKind.i64 x1, Value.int IntKind.i64 x2, Value.int IntKind.i64 x3, Value.int IntKind.i64 x4][o]? := fun o => by rw [aft_cell, if_pos (by omega)]; exact cX o
  have hG2 : Hid (Ext w.heap.size w (aft W u2)) := hid (hG.out.aft _)
  have l2 : k < (aft W u2).heap.size := by omega
  clear hG
  have hG := hG2
  obtain ⟨X, hX⟩ : ∃ X, X = aft W u2 := ⟨_, rfl⟩
  rw [← hX] at hs2 c2 f2 d2 hG l2 ⊢
  clear hX c1 f1 cX hsW lW hG2 z2
  cases hpd : padicB x1 x2 x3 x4
  · go_wp2_with fail
    exact bodyPost_ret (v := .agg #[Value.int IntKind.i64 x1, Value.int IntKind.i64 x2, Value.int IntKind.i64 x3, Value.int IntKind.i64 x4]) (by simp [results, go_sem, c2]) rfl ⟨⟨x1, x2, x3, x4⟩, rfl, (by refine Ext.bel ?_; repeat (with_reducible first | exact hG.out | apply Ext.aftD | apply Ext.aft | apply Ext.alloc | apply Ext.drew | apply Ext.setCell | exact Nat.le_refl _ | omega))⟩
  · have HPD := hid hpd
    clear hpd
    have HM : Hid (∃ Y : Pd, ∀ W : World, Calls Try.prog 30 #[.agg #[Value.int IntKind.i64 x1, Value.int IntKind.i64 x2, Value.int IntKind.i64 x3, Value.int IntKind.i64 x4], .agg #[Value.int IntKind.i64 x1, Value.int IntKind.i64 x2, Value.int IntKind.i64 x3, Value.int IntKind.i64 x4]] W fun e w' => e = .returned ((fun x : Pd => .agg #[.int .i64 x.p, .int .i64 x.v, .int .i64 x.u, .int .i64 x.n]) Y) ∧ Below W.heap.size W w') := hid ⟨_, fun W => s_multiply x1 x2 x3 x4 x2 x3 x4 W HPD.out HPD.out⟩
    obtain ⟨⟨y1, y2, y3, y4⟩, hm⟩ := HM.out
    have HM2 := hid hm
    clear hm HM
    go_wp2_with fail
    refine viaDr (s_next B b _ _ hs2 (by omega)) ?_
    intro y u3 hy hs3 hl3
    clear hy
    by_cases hy : y = 0
    · subst hy
      go_wp2_with fail
      refine via (HM2.out _) ?_
      intro u4 z4
      (try simp at z4)
      go_wp2_with fail
      exact bodyPost_ret (v := .agg #[.int .i64 y1, .int .i64 y2, .int .i64 y3, .int .i64 y4]) (by simp [results, go_sem, ↓IntWalk.iteOmega, c2]) rfl ⟨⟨y1, y2, y3, y4⟩, rfl, (by refine Ext.bel ?_; repeat (with_reducible first | exact hG.out | apply Ext.aftD | apply Ext.aft | apply Ext.alloc | apply Ext.drew | apply Ext.setCell | exact Nat.le_refl _ | omega))⟩
    · have hy' : (y == 0) = false := by simpa using hy
      clear hy
      go_wp2_with fail
      exact bodyPost_ret (v := .agg #[Value.int IntKind.i64 x1, Value.int IntKind.i64 x2, Value.int IntKind.i64 x3, Value.int IntKind.i64 x4]) (by simp [results, go_sem, ↓IntWalk.iteOmega, c2]) rfl ⟨⟨x1, x2, x3, x4⟩, rfl, (by refine Ext.bel ?_; repeat (with_reducible first | exact hG.out | apply Ext.aftD | apply Ext.aft | apply Ext.alloc | apply Ext.drew | apply Ext.setCell | exact Nat.le_refl _ | omega))⟩
end Go.Proofs.Ytdeehgcabnoclaa
