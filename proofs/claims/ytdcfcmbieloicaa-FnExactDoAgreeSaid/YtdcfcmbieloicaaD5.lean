/- MultiplyPadics: the law. -/
import Derived.Test.YtdcfcmbieloicaaD4
import Derived.Test.YtdcfcmbieloicaaB6
namespace Go.Proofs.Ytdcfcmbieloicaa
open Go Go.RowKit

set_option maxHeartbeats 4000000 in
theorem law_MultiplyPadics (p v u n q v2 u2 n2 : Int) (w : World) :
    Calls Try.prog 9 #[(.agg #[.int .i64 p, .int .i64 v, .int .i64 u, .int .i64 n]), (.agg #[.int .i64 q, .int .i64 v2, .int .i64 u2, .int .i64 n2])] w fun e w' => e = .returned (.bool true) ∧ Below w.heap.size w w' := by
  go_enter Try.func9, Try.ntmps9
  go_wp2_with fail
  obtain ⟨W, hW⟩ : ∃ W, W = (w.alloc (Obj.cells #[.int .i64 p, .int .i64 v, .int .i64 u, .int .i64 n] 23)).alloc (Obj.cells #[.int .i64 q, .int .i64 v2, .int .i64 u2, .int .i64 n2] 23) := ⟨_, rfl⟩
  have hs : W.heap.size = w.heap.size + 2 := by rw [hW]; simp
  have c0 : ∀ o, W.cell? ⟨w.heap.size, o, none⟩ = #[Value.int .i64 p, .int .i64 v, .int .i64 u, .int .i64 n][o]? := fun o => by rw [hW]; simp [go_sem]
  have c1 : ∀ o, W.cell? ⟨w.heap.size + 1, o, none⟩ = #[Value.int .i64 q, .int .i64 v2, .int .i64 u2, .int .i64 n2][o]? := fun o => by rw [hW]; simp [go_sem]
  have hE : Ext w.heap.size w W := by rw [hW]; exact (((Ext.refl _).alloc _).alloc _)
  rw [← hW]
  have HW := hid hW
  have HE := hid hE
  have l0 : w.heap.size < W.heap.size := by omega
  have l1 : w.heap.size + 1 < W.heap.size := by omega
  clear hW hE hs
  go_upto_region 1 with (fail)
  go_cut [5, 6] (fun s5 s6 wx => ∃ b, s5 = .pointer (some ⟨b, 0, none⟩) ∧ s6 = .int .i64 (mulpF p v u n q v2 u2 n2).2 ∧ okZ W b (Obj.cells #[.int .i64 (mulpF p v u n q v2 u2 n2).1.p, .int .i64 (mulpF p v u n q v2 u2 n2).1.v, .int .i64 (mulpF p v u n q v2 u2 n2).1.u, .int .i64 (mulpF p v u n q v2 u2 n2).1.n] 24) wx)
  case first =>
    go_region_held3 (fun w' => (∀ b o, b < W.heap.size → w'.cell? ⟨b, o, none⟩ = W.cell? ⟨b, o, none⟩) ∧ W.heap.size ≤ w'.heap.size) ((repeat (with_reducible first | exact held_refl | apply held_drew | apply held_aft | apply held_alloc | apply held_set | exact Nat.le_refl _ | apply le_aft | apply le_alloc | apply le_set | apply le_drew))) (first | (go_at_call 18; refine via (l_toPadic _ _ _ _ _) ?_; intro uu zz; try simp at zz) | (go_at_call 35; refine via (s_MultiplyPadics _ _ _ _ _ _ _ _ _) ?_; intro uu zz; try simp at zz))
    all_goals
      go_wp2_with fail
      go_meet
      exact ⟨_, rfl, rfl, okZ_mk (by refine Ext.bel ?_; repeat (with_reducible first | exact Ext.refl _ | apply Ext.alloc | apply Ext.aft | apply Ext.drew | apply Ext.drewN | apply Ext.setCell | exact Nat.le_add_right _ _ | exact Nat.le_refl _ | (simp; done) | omega)) (by repeat (with_reducible first | exact Nat.le_refl _ | apply le_aft | apply le_aftB | apply le_alloc | apply le_set | apply le_drew)) (by simp [set_blk, aft_blk, alloc_blk, drew_blk, ↓IntWalk.iteOmega])⟩
  case rest =>
    obtain ⟨b1, rfl, rfl, hZ⟩ := hcut
    have c0' : ∀ o, wc.cell? ⟨w.heap.size, o, none⟩ = #[Value.int .i64 p, .int .i64 v, .int .i64 u, .int .i64 n][o]? := fun o => (hZ.keep l0 o).trans (c0 o)
    have c1' : ∀ o, wc.cell? ⟨w.heap.size + 1, o, none⟩ = #[Value.int .i64 q, .int .i64 v2, .int .i64 u2, .int .i64 n2][o]? := fun o => (hZ.keep l1 o).trans (c1 o)
    have c5 := hZ.at
    have l5 := hZ.lt
    have l0' : w.heap.size < wc.heap.size := Nat.lt_of_lt_of_le l0 hZ.1.size
    have l1' : w.heap.size + 1 < wc.heap.size := Nat.lt_of_lt_of_le l1 hZ.1.size
    have HE2 := hid (hZ.ext HE.out)
    clear hZ c0 c1 l0 l1
    go_upto_region 2 with (fail)
    go_cut [7, 8] (fun s7 s8 wx => ∃ b, s7 = .pointer (some ⟨b, 0, none⟩) ∧ s8 = .int .i64 (mulpF p v u n q v2 u2 n2).2 ∧ okZ wc b (Obj.cells #[.int .i64 (mulpF p v u n q v2 u2 n2).1.p, .int .i64 (mulpF p v u n q v2 u2 n2).1.v, .int .i64 (mulpF p v u n q v2 u2 n2).1.u, .int .i64 (mulpF p v u n q v2 u2 n2).1.n] 24) wx)
    case first =>
      go_region_held3 (fun w' => (∀ b o, b < wc.heap.size → w'.cell? ⟨b, o, none⟩ = wc.cell? ⟨b, o, none⟩) ∧ wc.heap.size ≤ w'.heap.size) ((repeat (with_reducible first | exact held_refl | apply held_drew | apply held_aft | apply held_alloc | apply held_set | exact Nat.le_refl _ | apply le_aft | apply le_alloc | apply le_set | apply le_drew))) (first | (go_at_call 18; refine via (l_toPadic _ _ _ _ _) ?_; intro uu zz; try simp at zz) | (go_at_call 36; refine via (i_MultiplyPadics _ _ _ _ _ _ _ _ _) ?_; intro uu zz; try simp at zz))
      all_goals
        go_wp2_with fail
        go_meet
        exact ⟨_, rfl, rfl, okZ_mk (by refine Ext.bel ?_; repeat (with_reducible first | exact Ext.refl _ | apply Ext.alloc | apply Ext.aft | apply Ext.drew | apply Ext.drewN | apply Ext.setCell | exact Nat.le_add_right _ _ | exact Nat.le_refl _ | (simp; done) | omega)) (by repeat (with_reducible first | exact Nat.le_refl _ | apply le_aft | apply le_aftB | apply le_alloc | apply le_set | apply le_drew)) (by simp [set_blk, aft_blk, alloc_blk, drew_blk, ↓IntWalk.iteOmega])⟩
    case rest =>
      rename_i wd
      obtain ⟨b2, rfl, rfl, hZ⟩ := hcut
      have c5' := fun o => (hZ.keep l5 o).trans (c5 o)
      have c7 := hZ.at
      have HE3 := hid (hZ.ext HE2.out)
      clear hZ c0' c1' c5
      go_wp2_with (go_at_call 20; refine via (l_eqPadic _ _ _ _ _) ?_; intro uu zz; try simp at zz)
      go_ret
      exact ⟨rfl, Ext.bel (Ext.of HE3.out (by repeat (with_reducible first | exact Ext.refl _ | apply Ext.alloc | apply Ext.aft | apply Ext.drew | apply Ext.drewN | apply Ext.setCell | exact Nat.le_add_right _ _ | exact Nat.le_refl _ | (simp; done) | omega)))⟩
end Go.Proofs.Ytdcfcmbieloicaa
