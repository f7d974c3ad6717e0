/- AreEqualTo: both texts, the law. -/
import Derived.Test.YtfbpkbnepojlnaaE1
import Derived.Test.YtfbpkbnepojlnaaE3
import Derived.Test.YtfbpkbnepojlnaaB6
namespace Go.Proofs.Ytfbpkbnepojlnaa
open Go Go.RowKit

/-- A difference, or its code. -/
def subF (p v u n v2 u2 n2 : Int) : Pd × Int := limF (addF p v u n v2 (ngF p u2 n2) n2)
def eqtF (p v u n q v2 u2 n2 : Int) : Int × Int := if pairF p v u n q v2 u2 n2 = 0 then ((subF p v u n v2 u2 n2).1.v, (subF p v u n v2 u2 n2).2) else (0, pairF p v u n q v2 u2 n2)
set_option maxHeartbeats 4000000 in
theorem i_AreEqualTo (p v u n q v2 u2 n2 : Int) (w : World) :
    Calls Try.prog 24 #[(.agg #[.int .i64 p, .int .i64 v, .int .i64 u, .int .i64 n]), (.agg #[.int .i64 q, .int .i64 v2, .int .i64 u2, .int .i64 n2])] w fun e w' => e = .returned (.tuple #[.int .i64 (eqtF p v u n q v2 u2 n2).1, .int .i64 (eqtF p v u n q v2 u2 n2).2]) ∧ Below w.heap.size w w' := by
  rcases pairF_cases p v u n q v2 u2 n2 with h | h | ⟨h, h1, h2, h3⟩
  · have e : (eqtF p v u n q v2 u2 n2) = (0, 1) := by unfold eqtF; rw [if_neg (by omega), h]
    rw [e]; clear e
    go_enter Try.func24, Try.ntmps24
    go_wp2_with fail
    refine via (i_pair _ _ _ _ _ _ _ _ _) ?_
    rw [h]; clear h; intro uu zz; try simp at zz
    go_wp2_with fail
    go_ret2
    exact ⟨rfl, (by refine Ext.bel ?_; repeat (with_reducible first | exact Ext.refl _ | apply Ext.alloc | apply Ext.aft | apply Ext.drew | apply Ext.drewN | apply Ext.setCell | exact Nat.le_add_right _ _ | exact Nat.le_refl _ | (simp; done) | omega))⟩
  · have e : (eqtF p v u n q v2 u2 n2) = (0, 5) := by unfold eqtF; rw [if_neg (by omega), h]
    rw [e]; clear e
    go_enter Try.func24, Try.ntmps24
    go_wp2_with fail
    refine via (i_pair _ _ _ _ _ _ _ _ _) ?_
    rw [h]; clear h; intro uu zz; try simp at zz
    go_wp2_with fail
    go_ret2
    exact ⟨rfl, (by refine Ext.bel ?_; repeat (with_reducible first | exact Ext.refl _ | apply Ext.alloc | apply Ext.aft | apply Ext.drew | apply Ext.drewN | apply Ext.setCell | exact Nat.le_add_right _ _ | exact Nat.le_refl _ | (simp; done) | omega))⟩
  · have e : (eqtF p v u n q v2 u2 n2) = ((subF p v u n v2 u2 n2).1.v, (subF p v u n v2 u2 n2).2) := by unfold eqtF; rw [if_pos h]
    rw [e]; clear e
    subst h3
    have H3 := hid (padicB_ng h2)
    have H1 := hid h1
    have H2 := hid h2
    have HL : Hid ((subF p v u n v2 u2 n2) = limF (addF p v u n v2 (ngF p u2 n2) n2)) := hid rfl
    clear h1 h2
    go_enter Try.func24, Try.ntmps24
    go_wp2_with fail
    refine via (i_pair _ _ _ _ _ _ _ _ _) ?_
    rw [h]; clear h; intro uu zz; try simp at zz
    obtain ⟨W, hW⟩ : ∃ W, W = aft ((w.alloc (Obj.cells #[.int .i64 p, .int .i64 v, .int .i64 u, .int .i64 n] 27)).alloc (Obj.cells #[.int .i64 p, .int .i64 v2, .int .i64 u2, .int .i64 n2] 27)) uu := ⟨_, rfl⟩
    have hs : w.heap.size + 2 ≤ W.heap.size := by rw [hW]; omega
    have c0 : ∀ o, W.cell? ⟨w.heap.size, o, none⟩ = #[Value.int .i64 p, .int .i64 v, .int .i64 u, .int .i64 n][o]? := fun o => by rw [hW, aft_cell, if_pos (by simp; omega)]; simp [go_sem]
    have c1 : ∀ o, W.cell? ⟨w.heap.size + 1, o, none⟩ = #[Value.int .i64 p, .int .i64 v2, .int .i64 u2, .int .i64 n2][o]? := fun o => by rw [hW, aft_cell, if_pos (by simp)]; simp [go_sem]
    have hE : Ext w.heap.size w W := by rw [hW]; exact (((Ext.refl _).alloc _).alloc _).aft _
    rw [← hW]
    have HW := hid hW
    have HE := hid hE
    have l0 : w.heap.size < W.heap.size := by omega
    have l1 : w.heap.size + 1 < W.heap.size := by omega
    clear hW hE hs zz
    go_upto_region 4 with (fail)
    go_cut [7, 8] (fun s5 s6 wx => ∃ b, s5 = .pointer (some ⟨b, 0, none⟩) ∧ s6 = .int .i64 (subF p v u n v2 u2 n2).2 ∧ okZ W b (Obj.cells #[.int .i64 (subF p v u n v2 u2 n2).1.p, .int .i64 (subF p v u n v2 u2 n2).1.v, .int .i64 (subF p v u n v2 u2 n2).1.u, .int .i64 (subF p v u n v2 u2 n2).1.n] 27) wx)
    case first =>
      go_region_held3 (fun w' => (∀ b o, b < W.heap.size → w'.cell? ⟨b, o, none⟩ = W.cell? ⟨b, o, none⟩) ∧ W.heap.size ≤ w'.heap.size) ((repeat (with_reducible first | exact held_refl | apply held_drew | apply held_aft | apply held_alloc | apply held_set | exact Nat.le_refl _ | apply le_aft | apply le_alloc | apply le_set | apply le_drew))) (first | (go_at_call 69; refine via (i_negate _ _ _ _ _ H2.out) ?_; intro uu zz; try simp at zz) | (go_at_call 65; refine via (i_add _ _ _ _ _ _ _ _ H1.out H3.out) ?_; intro uu zz; try simp at zz) | (go_at_call 64; refine via (i_orLimit _ _ _ _ _) ?_; intro uu zz; try simp at zz))
      all_goals
        go_wp2_with fail
        go_meet
        exact ⟨_, rfl, rfl, okZ_mk (by refine Ext.bel ?_; repeat (with_reducible first | exact Ext.refl _ | apply Ext.alloc | apply Ext.aft | apply Ext.drew | apply Ext.drewN | apply Ext.setCell | exact Nat.le_add_right _ _ | exact Nat.le_refl _ | (simp; done) | omega)) (by repeat (with_reducible first | exact Nat.le_refl _ | apply le_aft | apply le_aftB | apply le_alloc | apply le_set | apply le_drew)) (by simp [set_blk, aft_blk, alloc_blk, drew_blk, ↓IntWalk.iteOmega]; exact ⟨rfl, rfl, rfl, rfl⟩)⟩
    case rest =>
      obtain ⟨b1, rfl, rfl, hZ⟩ := hcut
      have c5 := hZ.at
      have HE2 := hid (hZ.ext HE.out)
      clear hZ c0 c1 l0 l1
      go_wp2
      go_ret2
      exact ⟨rfl, Ext.bel (Ext.of HE2.out (by repeat (with_reducible first | exact Ext.refl _ | apply Ext.alloc | apply Ext.aft | apply Ext.drew | apply Ext.drewN | apply Ext.setCell | exact Nat.le_add_right _ _ | exact Nat.le_refl _ | (simp; done) | omega)))⟩
set_option maxHeartbeats 4000000 in
theorem s_AreEqualTo (p v u n q v2 u2 n2 : Int) (w : World) :
    Calls Try.prog 25 #[(.agg #[.int .i64 p, .int .i64 v, .int .i64 u, .int .i64 n]), (.agg #[.int .i64 q, .int .i64 v2, .int .i64 u2, .int .i64 n2])] w fun e w' => e = .returned (.tuple #[.int .i64 (eqtF p v u n q v2 u2 n2).1, .int .i64 (eqtF p v u n q v2 u2 n2).2]) ∧ Below w.heap.size w w' := by
  rcases pairF_cases p v u n q v2 u2 n2 with h | h | ⟨h, h1, h2, h3⟩
  · have e : (eqtF p v u n q v2 u2 n2) = (0, 1) := by unfold eqtF; rw [if_neg (by omega), h]
    rw [e]; clear e
    go_enter Try.func25, Try.ntmps25
    go_wp2_with fail
    refine via (s_two _ _ _ _ _ _ _ _ _) ?_
    rw [h]; clear h; intro uu zz; try simp at zz
    go_wp2_with fail
    go_ret2
    exact ⟨rfl, (by refine Ext.bel ?_; repeat (with_reducible first | exact Ext.refl _ | apply Ext.alloc | apply Ext.aft | apply Ext.drew | apply Ext.drewN | apply Ext.setCell | exact Nat.le_add_right _ _ | exact Nat.le_refl _ | (simp; done) | omega))⟩
  · have e : (eqtF p v u n q v2 u2 n2) = (0, 5) := by unfold eqtF; rw [if_neg (by omega), h]
    rw [e]; clear e
    go_enter Try.func25, Try.ntmps25
    go_wp2_with fail
    refine via (s_two _ _ _ _ _ _ _ _ _) ?_
    rw [h]; clear h; intro uu zz; try simp at zz
    go_wp2_with fail
    go_ret2
    exact ⟨rfl, (by refine Ext.bel ?_; repeat (with_reducible first | exact Ext.refl _ | apply Ext.alloc | apply Ext.aft | apply Ext.drew | apply Ext.drewN | apply Ext.setCell | exact Nat.le_add_right _ _ | exact Nat.le_refl _ | (simp; done) | omega))⟩
  · have e : (eqtF p v u n q v2 u2 n2) = ((subF p v u n v2 u2 n2).1.v, (subF p v u n v2 u2 n2).2) := by unfold eqtF; rw [if_pos h]
    rw [e]; clear e
    subst h3
    have H3 := hid (padicB_ng h2)
    have H1 := hid h1
    have H2 := hid h2
    have HL : Hid ((subF p v u n v2 u2 n2) = limF (addF p v u n v2 (ngF p u2 n2) n2)) := hid rfl
    clear h1 h2
    go_enter Try.func25, Try.ntmps25
    go_wp2_with fail
    refine via (s_two _ _ _ _ _ _ _ _ _) ?_
    rw [h]; clear h; intro uu zz; try simp at zz
    obtain ⟨W, hW⟩ : ∃ W, W = aft ((w.alloc (Obj.cells #[.int .i64 p, .int .i64 v, .int .i64 u, .int .i64 n] 27)).alloc (Obj.cells #[.int .i64 p, .int .i64 v2, .int .i64 u2, .int .i64 n2] 27)) uu := ⟨_, rfl⟩
    have hs : w.heap.size + 2 ≤ W.heap.size := by rw [hW]; omega
    have c0 : ∀ o, W.cell? ⟨w.heap.size, o, none⟩ = #[Value.int .i64 p, .int .i64 v, .int .i64 u, .int .i64 n][o]? := fun o => by rw [hW, aft_cell, if_pos (by simp; omega)]; simp [go_sem]
    have c1 : ∀ o, W.cell? ⟨w.heap.size + 1, o, none⟩ = #[Value.int .i64 p, .int .i64 v2, .int .i64 u2, .int .i64 n2][o]? := fun o => by rw [hW, aft_cell, if_pos (by simp)]; simp [go_sem]
    have hE : Ext w.heap.size w W := by rw [hW]; exact (((Ext.refl _).alloc _).alloc _).aft _
    rw [← hW]
    have HW := hid hW
    have HE := hid hE
    have l0 : w.heap.size < W.heap.size := by omega
    have l1 : w.heap.size + 1 < W.heap.size := by omega
    clear hW hE hs zz
    go_upto_region 4 with (fail)
    go_cut [7, 8] (fun s5 s6 wx => ∃ b, s5 = .pointer (some ⟨b, 0, none⟩) ∧ s6 = .int .i64 (subF p v u n v2 u2 n2).2 ∧ okZ W b (Obj.cells #[.int .i64 (subF p v u n v2 u2 n2).1.p, .int .i64 (subF p v u n v2 u2 n2).1.v, .int .i64 (subF p v u n v2 u2 n2).1.u, .int .i64 (subF p v u n v2 u2 n2).1.n] 27) wx)
    case first =>
      go_region_held3 (fun w' => (∀ b o, b < W.heap.size → w'.cell? ⟨b, o, none⟩ = W.cell? ⟨b, o, none⟩) ∧ W.heap.size ≤ w'.heap.size) ((repeat (with_reducible first | exact held_refl | apply held_drew | apply held_aft | apply held_alloc | apply held_set | exact Nat.le_refl _ | apply le_aft | apply le_alloc | apply le_set | apply le_drew))) (first | (go_at_call 70; refine via (s_negate _ _ _ _ _ H2.out) ?_; intro uu zz; try simp at zz) | (go_at_call 68; refine via (s_add _ _ _ _ _ _ _ _ H1.out H3.out) ?_; intro uu zz; try simp at zz) | (go_at_call 67; refine via (s_result _ _ _ _ _) ?_; intro uu zz; try simp at zz))
      all_goals
        go_wp2_with fail
        go_meet
        exact ⟨_, rfl, rfl, okZ_mk (by refine Ext.bel ?_; repeat (with_reducible first | exact Ext.refl _ | apply Ext.alloc | apply Ext.aft | apply Ext.drew | apply Ext.drewN | apply Ext.setCell | exact Nat.le_add_right _ _ | exact Nat.le_refl _ | (simp; done) | omega)) (by repeat (with_reducible first | exact Nat.le_refl _ | apply le_aft | apply le_aftB | apply le_alloc | apply le_set | apply le_drew)) (by simp [set_blk, aft_blk, alloc_blk, drew_blk, ↓IntWalk.iteOmega]; exact ⟨rfl, rfl, rfl, rfl⟩)⟩
    case rest =>
      obtain ⟨b1, rfl, rfl, hZ⟩ := hcut
      have c5 := hZ.at
      have HE2 := hid (hZ.ext HE.out)
      clear hZ c0 c1 l0 l1
      go_wp2
      go_ret2
      exact ⟨rfl, Ext.bel (Ext.of HE2.out (by repeat (with_reducible first | exact Ext.refl _ | apply Ext.alloc | apply Ext.aft | apply Ext.drew | apply Ext.drewN | apply Ext.setCell | exact Nat.le_add_right _ _ | exact Nat.le_refl _ | (simp; done) | omega)))⟩
end Go.Proofs.Ytfbpkbnepojlnaa
