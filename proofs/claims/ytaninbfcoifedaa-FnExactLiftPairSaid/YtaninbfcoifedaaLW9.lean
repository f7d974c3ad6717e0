/- LiftPair: the law. -/
import Derived.Test.YtaninbfcoifedaaLW8
namespace Go.Proofs.Ytaninbfcoifedaa
open Go Go.RowKit

set_option maxRecDepth 20000 in
set_option maxHeartbeats 16000000 in
theorem law_LiftPair (p n : Int) (r1 : Value) (xs1 : List Int) (r2 : Value) (xs2 : List Int) (r3 : Value) (xs3 : List Int) (w : World) (h1 : rdI w r1 xs1) (h2 : rdI w r2 xs2) (h3 : rdI w r3 xs3) :
    Calls Try.prog 3 #[(.agg #[.int .i64 p, .int .i64 n]), r1, r2, r3] w fun e w' => e = .returned (.bool true) ∧ Below w.heap.size w w' := by
  have hlen1 : xs1.length ≤ maxLen := by obtain ⟨a, cap, _, hm, _⟩ := h1; exact hm
  unfold maxLen at hlen1
  obtain ⟨a1, cap1, hr1, _, _⟩ := id h1
  have hlen2 : xs2.length ≤ maxLen := by obtain ⟨a, cap, _, hm, _⟩ := h2; exact hm
  unfold maxLen at hlen2
  obtain ⟨a2, cap2, hr2, _, _⟩ := id h2
  have hlen3 : xs3.length ≤ maxLen := by obtain ⟨a, cap, _, hm, _⟩ := h3; exact hm
  unfold maxLen at hlen3
  obtain ⟨a3, cap3, hr3, _, _⟩ := id h3
  by_cases hl1 : xs1.length ≤ 1048576
  case neg =>
    have hz1 : ¬ (xs1.length : Int) ≤ 1048576 := by omega
    subst hr1
    subst hr2
    subst hr3
    go_enter Try.func3, Try.ntmps3
    go_wp2_with fail
    go_ret
    exact ⟨rfl, (by refine Ext.bel ?_; repeat (with_reducible first | exact Ext.refl _ | apply Ext.alloc | apply Ext.aft | apply Ext.drew | apply Ext.drewN | apply Ext.setCell | exact Nat.le_add_right _ _ | exact Nat.le_refl _ | (simp; done) | omega))⟩
  case pos =>
    by_cases hl2 : xs2.length ≤ 1048576
    case neg =>
      have hz2 : ¬ (xs2.length : Int) ≤ 1048576 := by omega
      have hz1 : (xs1.length : Int) ≤ 1048576 := by omega
      subst hr1
      subst hr2
      subst hr3
      go_enter Try.func3, Try.ntmps3
      go_wp2_with fail
      go_ret
      exact ⟨rfl, (by refine Ext.bel ?_; repeat (with_reducible first | exact Ext.refl _ | apply Ext.alloc | apply Ext.aft | apply Ext.drew | apply Ext.drewN | apply Ext.setCell | exact Nat.le_add_right _ _ | exact Nat.le_refl _ | (simp; done) | omega))⟩
    case pos =>
      by_cases hl3 : xs3.length ≤ 1048576
      case neg =>
        have hz3 : ¬ (xs3.length : Int) ≤ 1048576 := by omega
        have hz1 : (xs1.length : Int) ≤ 1048576 := by omega
        have hz2 : (xs2.length : Int) ≤ 1048576 := by omega
        subst hr1
        subst hr2
        subst hr3
        go_enter Try.func3, Try.ntmps3
        go_wp2_with fail
        go_ret
        exact ⟨rfl, (by refine Ext.bel ?_; repeat (with_reducible first | exact Ext.refl _ | apply Ext.alloc | apply Ext.aft | apply Ext.drew | apply Ext.drewN | apply Ext.setCell | exact Nat.le_add_right _ _ | exact Nat.le_refl _ | (simp; done) | omega))⟩
      case pos =>
        have hz1 : (xs1.length : Int) ≤ 1048576 := by omega
        have hz2 : (xs2.length : Int) ≤ 1048576 := by omega
        have hz3 : (xs3.length : Int) ≤ 1048576 := by omega
        obtain ⟨ys1, hys1⟩ : ∃ y, y = (liftPairF p n xs1 xs2 xs3).1 := ⟨_, rfl⟩
        have hy1 : ys1.length ≤ 1000000 := by rw [hys1]; exact (LiftPair_len p n xs1 xs2 xs3).1
        obtain ⟨ys2, hys2⟩ : ∃ y, y = (liftPairF p n xs1 xs2 xs3).2.1 := ⟨_, rfl⟩
        have hy2 : ys2.length ≤ 1000000 := by rw [hys2]; exact (LiftPair_len p n xs1 xs2 xs3).2
        obtain ⟨cd, hcd⟩ : ∃ cd, cd = (liftPairF p n xs1 xs2 xs3).2.2 := ⟨_, rfl⟩
        have HS : Hid (∀ r1 r2 r3 w, rdI w r1 xs1 → rdI w r2 xs2 → rdI w r3 xs3 → Calls Try.prog 5 #[(.agg #[.int .i64 p, .int .i64 n]), r1, r2, r3] w fun e w' => ∃ v1 v2, e = .returned (.tuple #[v1, v2, .int .i64 cd]) ∧ ownR w.heap.size w' v1 ys1 ∧ ownR w.heap.size w' v2 ys2 ∧ rowNe v1 v2.ownBlock ∧ rowNe v2 v1.ownBlock ∧ Below w.heap.size w w') := hid (by rw [hys1, hys2, hcd]; exact fun r1 r2 r3 w h1 h2 h3 => s_LiftPair p n r1 r2 r3 xs1 xs2 xs3 w h1 h2 h3)
        have HI : Hid (∀ r1 r2 r3 w, rdI w r1 xs1 → rdI w r2 xs2 → rdI w r3 xs3 → Calls Try.prog 8 #[(.agg #[.int .i64 p, .int .i64 n]), r1, r2, r3] w fun e w' => ∃ v1 v2, e = .returned (.tuple #[v1, v2, .int .i64 cd]) ∧ ownR w.heap.size w' v1 ys1 ∧ ownR w.heap.size w' v2 ys2 ∧ rowNe v1 v2.ownBlock ∧ rowNe v2 v1.ownBlock ∧ Below w.heap.size w w') := hid (by rw [hys1, hys2, hcd]; exact fun r1 r2 r3 w h1 h2 h3 => i_LiftPair p n r1 r2 r3 xs1 xs2 xs3 w h1 h2 h3)
        have H1 := hid h1
        have H2 := hid h2
        have H3 := hid h3
        subst hr1
        subst hr2
        subst hr3
        clear hys1 hys2 hcd h1 h2 h3
        go_enter Try.func3, Try.ntmps3
        go_wp2_with (go_at_call 6; refine via (l_toRing' _ _ _) ?_; intro uu zz; try simp at zz)
        refine viaI (g := id) (l_toI _ _ _ (H1.out.below (by refine Ext.bel ?_; repeat (with_reducible first | exact Ext.refl _ | apply Ext.alloc | apply Ext.aft | apply Ext.drew | apply Ext.drewN))) hl1) ?_
        intro t1 ut1 zt1 ownt1
        try simp at zt1
        have rdt1 := ownt1.rd
        go_wp2_with fail
        refine viaI (g := id) (l_toI _ _ _ (H2.out.below (by refine Ext.bel ?_; repeat (with_reducible first | exact Ext.refl _ | apply Ext.alloc | apply Ext.aft | apply Ext.drew | apply Ext.drewN))) hl2) ?_
        intro t2 ut2 zt2 ownt2
        try simp at zt2
        have rdt2 := ownt2.rd
        go_wp2_with fail
        refine viaI (g := id) (l_toI _ _ _ (H3.out.below (by refine Ext.bel ?_; repeat (with_reducible first | exact Ext.refl _ | apply Ext.alloc | apply Ext.aft | apply Ext.drew | apply Ext.drewN))) hl3) ?_
        intro t3 ut3 zt3 ownt3
        try simp at zt3
        have rdt3 := ownt3.rd
        go_wp2_with fail
        refine viaI2 (g := fun r q => .tuple #[r, q, _]) (HS.out _ _ _ _ (by repeat (with_reducible first | assumption | apply rdI.aft | apply rdI.alloc | apply rdI.drew | apply rdI.drewN)) (by repeat (with_reducible first | assumption | apply rdI.aft | apply rdI.alloc | apply rdI.drew | apply rdI.drewN)) (by repeat (with_reducible first | assumption | apply rdI.aft | apply rdI.alloc | apply rdI.drew | apply rdI.drewN))) ?_
        intro w1 w2 us zs ownw1 ownw2 nes nfs
        try simp at zs
        obtain ⟨W1, hW1⟩ : ∃ W1, W1 = aft (aft (aft (aft (aft (w.alloc (Obj.cells #[.int .i64 p, .int .i64 n] 23)) uu) ut1) ut2) ut3) us := ⟨_, rfl⟩
        rw [← hW1] at ownw1 ownw2 zs ⊢
        have c1 : (fun W => ∀ o, W.cell? ⟨w.heap.size, o, none⟩ = #[Value.int .i64 p, .int .i64 n][o]?) W1 := fun o => by rw [hW1]; simp [go_sem, ↓IntWalk.iteOmega]
        have E1 : Hid (Ext w.heap.size w W1) := hid (by rw [hW1]; exact (by repeat (with_reducible first | exact Ext.refl _ | apply Ext.alloc | apply Ext.aft | apply Ext.drew | apply Ext.drewN | apply Ext.setCell | exact Nat.le_add_right _ _ | exact Nat.le_refl _ | (simp; done) | omega)))
        have l1 : w.heap.size < W1.heap.size := by omega
        have OW1 := hid ownw1.rd
        have OW2 := hid ownw2.rd
        clear hW1 zs zz ownw1 ownw2 ownt1 rdt1 zt1 ownt2 rdt2 zt2 ownt3 rdt3 zt3 nes nfs
        go_wp2_with fail
        refine viaI (g := id) (l_toI _ _ _ (H1.out.below (Ext.bel (Ext.of E1.out (by repeat (with_reducible first | exact Ext.refl _ | apply Ext.alloc | apply Ext.aft | apply Ext.drew | apply Ext.drewN | apply Ext.setCell | exact Nat.le_add_right _ _ | exact Nat.le_refl _ | (simp; done) | omega))))) hl1) ?_
        intro x1 ux1 zx1 ownx1
        try simp at zx1
        have rdx1 := ownx1.rd
        go_wp2_with fail
        refine viaI (g := id) (l_toI _ _ _ (H2.out.below (Ext.bel (Ext.of E1.out (by repeat (with_reducible first | exact Ext.refl _ | apply Ext.alloc | apply Ext.aft | apply Ext.drew | apply Ext.drewN | apply Ext.setCell | exact Nat.le_add_right _ _ | exact Nat.le_refl _ | (simp; done) | omega))))) hl2) ?_
        intro x2 ux2 zx2 ownx2
        try simp at zx2
        have rdx2 := ownx2.rd
        go_wp2_with fail
        refine viaI (g := id) (l_toI _ _ _ (H3.out.below (Ext.bel (Ext.of E1.out (by repeat (with_reducible first | exact Ext.refl _ | apply Ext.alloc | apply Ext.aft | apply Ext.drew | apply Ext.drewN | apply Ext.setCell | exact Nat.le_add_right _ _ | exact Nat.le_refl _ | (simp; done) | omega))))) hl3) ?_
        intro x3 ux3 zx3 ownx3
        try simp at zx3
        have rdx3 := ownx3.rd
        go_wp2_with (go_at_call 6; refine via (l_toRing' _ _ _) ?_; intro uu zz; try simp at zz)
        refine viaI2 (g := fun r q => .tuple #[r, q, _]) (HI.out _ _ _ _ (by repeat (with_reducible first | assumption | apply rdI.aft | apply rdI.alloc | apply rdI.drew | apply rdI.drewN)) (by repeat (with_reducible first | assumption | apply rdI.aft | apply rdI.alloc | apply rdI.drew | apply rdI.drewN)) (by repeat (with_reducible first | assumption | apply rdI.aft | apply rdI.alloc | apply rdI.drew | apply rdI.drewN))) ?_
        intro g1 g2 ui zi owng1 owng2 nei nfi
        try simp at zi
        obtain ⟨W2, hW2⟩ : ∃ W2, W2 = aft (aft (aft (aft (aft (W1) ux1) ux2) ux3) uu) ui := ⟨_, rfl⟩
        have B2 : Hid (Ext W1.heap.size W1 W2) := hid (by rw [hW2]; exact (by repeat (with_reducible first | exact Ext.refl _ | apply Ext.alloc | apply Ext.aft | apply Ext.drew | apply Ext.drewN | apply Ext.setCell | exact Nat.le_add_right _ _ | exact Nat.le_refl _ | (simp; done) | omega)))
        have oX1 : ownR W1.heap.size W2 x1 xs1 := by rw [hW2]; exact ownR.mono (by repeat (with_reducible first | exact ownx1 | apply ownR.aft)) (by omega)
        have oX2 : ownR W1.heap.size W2 x2 xs2 := by rw [hW2]; exact ownR.mono (by repeat (with_reducible first | exact ownx2 | apply ownR.aft)) (by omega)
        have oX3 : ownR W1.heap.size W2 x3 xs3 := by rw [hW2]; exact ownR.mono (by repeat (with_reducible first | exact ownx3 | apply ownR.aft)) (by omega)
        have oG1 : ownR W1.heap.size W2 g1 ys1 := by rw [hW2]; exact owng1.mono (by omega)
        have oG2 : ownR W1.heap.size W2 g2 ys2 := by rw [hW2]; exact owng2.mono (by omega)
        have nXG11 : Hid (rowNe g1 x1.ownBlock) := hid (rowNe_gt ownx1.rowLt (own_row_ge owng1) (by omega))
        have nXG12 : Hid (rowNe g2 x1.ownBlock) := hid (rowNe_gt ownx1.rowLt (own_row_ge owng2) (by omega))
        have nXX12 : Hid (rowNe x2 x1.ownBlock) := hid (rowNe_gt ownx1.rowLt (own_row_ge ownx2) (by omega))
        have nXX13 : Hid (rowNe x3 x1.ownBlock) := hid (rowNe_gt ownx1.rowLt (own_row_ge ownx3) (by omega))
        have nXG21 : Hid (rowNe g1 x2.ownBlock) := hid (rowNe_gt ownx2.rowLt (own_row_ge owng1) (by omega))
        have nXG22 : Hid (rowNe g2 x2.ownBlock) := hid (rowNe_gt ownx2.rowLt (own_row_ge owng2) (by omega))
        have nXX21 : Hid (rowNe x1 x2.ownBlock) := hid (rowNe_lt ownx1.rowLt (own_row_ge ownx2) (by omega))
        have nXX23 : Hid (rowNe x3 x2.ownBlock) := hid (rowNe_gt ownx2.rowLt (own_row_ge ownx3) (by omega))
        have nXG31 : Hid (rowNe g1 x3.ownBlock) := hid (rowNe_gt ownx3.rowLt (own_row_ge owng1) (by omega))
        have nXG32 : Hid (rowNe g2 x3.ownBlock) := hid (rowNe_gt ownx3.rowLt (own_row_ge owng2) (by omega))
        have nXX31 : Hid (rowNe x1 x3.ownBlock) := hid (rowNe_lt ownx1.rowLt (own_row_ge ownx3) (by omega))
        have nXX32 : Hid (rowNe x2 x3.ownBlock) := hid (rowNe_lt ownx2.rowLt (own_row_ge ownx3) (by omega))
        have nGG12 : Hid (rowNe g1 g2.ownBlock) := hid nei
        have nGG21 : Hid (rowNe g2 g1.ownBlock) := hid nfi
        have gG1 : Hid (∀ k, g1.ownBlock = some k → W1.heap.size ≤ k) := hid (own_row_ge oG1)
        have gG2 : Hid (∀ k, g2.ownBlock = some k → W1.heap.size ≤ k) := hid (own_row_ge oG2)
        have gX1 : Hid (∀ k, x1.ownBlock = some k → W1.heap.size ≤ k) := hid (own_row_ge oX1)
        have gX2 : Hid (∀ k, x2.ownBlock = some k → W1.heap.size ≤ k) := hid (own_row_ge oX2)
        have gX3 : Hid (∀ k, x3.ownBlock = some k → W1.heap.size ≤ k) := hid (own_row_ge oX3)
        have l2 : W1.heap.size ≤ W2.heap.size := B2.out.2
        rw [← hW2]
        clear hW2 zi zz ownx1 rdx1 zx1 ownx2 rdx2 zx2 ownx3 rdx3 zx3 owng1 owng2 nei nfi
        go_wp2_with fail
        refine via (l_eqI g1 w1 ys1 _ (ownR.rd (by repeat (with_reducible first | exact oG1 | apply ownR.aft))) (OW1.out.below (Ext.bel (Ext.of B2.out (by repeat (with_reducible first | exact Ext.refl _ | apply Ext.alloc | apply Ext.aft | apply Ext.drew | apply Ext.drewN | apply Ext.setCell | exact Nat.le_add_right _ _ | exact Nat.le_refl _ | (simp; done) | omega)))))) ?_
        intro q1 y1
        go_wp2_with fail
        refine via (l_eqI g2 w2 ys2 _ (ownR.rd (by repeat (with_reducible first | exact oG2 | apply ownR.aft))) (OW2.out.below (Ext.bel (Ext.of B2.out (by repeat (with_reducible first | exact Ext.refl _ | apply Ext.alloc | apply Ext.aft | apply Ext.drew | apply Ext.drewN | apply Ext.setCell | exact Nat.le_add_right _ _ | exact Nat.le_refl _ | (simp; done) | omega)))))) ?_
        intro q2 y2
        go_wp2_with fail
        refine viaI (g := id) (l_toI _ _ _ (H1.out.below (Ext.bel (Ext.of E1.out (Ext.of B2.out (by repeat (with_reducible first | exact Ext.refl _ | apply Ext.alloc | apply Ext.aft | apply Ext.drew | apply Ext.drewN | apply Ext.setCell | exact Nat.le_add_right _ _ | exact Nat.le_refl _ | (simp; done) | omega)))))) hl1) ?_
        intro s1 q3 y3 owns1
        try simp at y3
        go_wp2_with fail
        refine via (l_eqI x1 s1 xs1 _ (ownR.rd (by repeat (with_reducible first | exact oX1 | apply ownR.aft))) owns1.rd) ?_
        intro q4 y4
        go_wp2_with fail
        refine viaI (g := id) (l_toI _ _ _ (H2.out.below (Ext.bel (Ext.of E1.out (Ext.of B2.out (by repeat (with_reducible first | exact Ext.refl _ | apply Ext.alloc | apply Ext.aft | apply Ext.drew | apply Ext.drewN | apply Ext.setCell | exact Nat.le_add_right _ _ | exact Nat.le_refl _ | (simp; done) | omega)))))) hl2) ?_
        intro s2 q5 y5 owns2
        try simp at y5
        go_wp2_with fail
        refine via (l_eqI x2 s2 xs2 _ (ownR.rd (by repeat (with_reducible first | exact oX2 | apply ownR.aft))) owns2.rd) ?_
        intro q6 y6
        go_wp2_with fail
        refine viaI (g := id) (l_toI _ _ _ (H3.out.below (Ext.bel (Ext.of E1.out (Ext.of B2.out (by repeat (with_reducible first | exact Ext.refl _ | apply Ext.alloc | apply Ext.aft | apply Ext.drew | apply Ext.drewN | apply Ext.setCell | exact Nat.le_add_right _ _ | exact Nat.le_refl _ | (simp; done) | omega)))))) hl3) ?_
        intro s3 q7 y7 owns3
        try simp at y7
        go_wp2_with fail
        refine via (l_eqI x3 s3 xs3 _ (ownR.rd (by repeat (with_reducible first | exact oX3 | apply ownR.aft))) owns3.rd) ?_
        intro q8 y8
        clear owns1
        clear owns2
        clear owns3
        go_wp2_with fail
        refine (l_markG W1.heap.size x1 xs1 _ _ (by repeat (with_reducible first | exact oX1 | apply ownR.aft)) (by omega) (by omega)).mono ?_
        rintro e w' ⟨he, hmk, hgr⟩
        subst he
        obtain ⟨q9, hq9⟩ := aftG_ex hgr gX1.out
        subst hq9
        obtain ⟨W3, hW3⟩ : ∃ W, W = aftG W1.heap.size x1.ownBlock (aft (aft (aft (aft (aft (aft (aft (aft (W2) q1) q2) q3) q4) q5) q6) q7) q8) q9 := ⟨_, rfl⟩
        have lw : W1.heap.size ≤ (aft (aft (aft (aft (aft (aft (aft (aft (W2) q1) q2) q3) q4) q5) q6) q7) q8).heap.size := by omega
        have B3 : Hid (Ext W1.heap.size W1 W3) := hid (by rw [hW3]; exact Ext.aftG (by repeat (with_reducible first | exact B2.out | apply Ext.aft)) _ _ (Nat.le_refl _) lw)
        have oX2n := ownR.aftG (B := W1.heap.size) (rb := x1.ownBlock) (show ownR W1.heap.size (aft (aft (aft (aft (aft (aft (aft (aft (W2) q1) q2) q3) q4) q5) q6) q7) q8) _ _ from (by repeat (with_reducible first | exact oX2 | apply ownR.aft))) q9 nXX12.out
        rw [← hW3] at oX2n
        have oX3n := ownR.aftG (B := W1.heap.size) (rb := x1.ownBlock) (show ownR W1.heap.size (aft (aft (aft (aft (aft (aft (aft (aft (W2) q1) q2) q3) q4) q5) q6) q7) q8) _ _ from (by repeat (with_reducible first | exact oX3 | apply ownR.aft))) q9 nXX13.out
        rw [← hW3] at oX3n
        have oG1n := ownR.aftG (B := W1.heap.size) (rb := x1.ownBlock) (show ownR W1.heap.size (aft (aft (aft (aft (aft (aft (aft (aft (W2) q1) q2) q3) q4) q5) q6) q7) q8) _ _ from (by repeat (with_reducible first | exact oG1 | apply ownR.aft))) q9 nXG11.out
        rw [← hW3] at oG1n
        have oG2n := ownR.aftG (B := W1.heap.size) (rb := x1.ownBlock) (show ownR W1.heap.size (aft (aft (aft (aft (aft (aft (aft (aft (W2) q1) q2) q3) q4) q5) q6) q7) q8) _ _ from (by repeat (with_reducible first | exact oG2 | apply ownR.aft))) q9 nXG12.out
        rw [← hW3] at oG2n
        rw [← hW3] at hmk
        rw [← hW3]
        have l3 : W1.heap.size ≤ W3.heap.size := B3.out.2
        clear oX2 oX3 oG1 oG2 hgr lw hW3 oX1 y1 y2 y3 y4 y5 y6 y7 y8
        have oX2 := oX2n; clear oX2n
        have oX3 := oX3n; clear oX3n
        have oG1 := oG1n; clear oG1n
        have oG2 := oG2n; clear oG2n
        clear hmk
        go_wp2_with fail
        refine (l_markG W1.heap.size x2 xs2 _ _ (by repeat (with_reducible first | exact oX2 | apply ownR.aft)) (by omega) (by omega)).mono ?_
        rintro e w' ⟨he, hmk, hgr⟩
        subst he
        obtain ⟨q10, hq10⟩ := aftG_ex hgr gX2.out
        subst hq10
        obtain ⟨W4, hW4⟩ : ∃ W, W = aftG W1.heap.size x2.ownBlock (W3) q10 := ⟨_, rfl⟩
        have lw : W1.heap.size ≤ (W3).heap.size := by omega
        have B4 : Hid (Ext W1.heap.size W1 W4) := hid (by rw [hW4]; exact Ext.aftG (by repeat (with_reducible first | exact B3.out | apply Ext.aft)) _ _ (Nat.le_refl _) lw)
        have oX3n := ownR.aftG (B := W1.heap.size) (rb := x2.ownBlock) (show ownR W1.heap.size (W3) _ _ from (by repeat (with_reducible first | exact oX3 | apply ownR.aft))) q10 nXX23.out
        rw [← hW4] at oX3n
        have oG1n := ownR.aftG (B := W1.heap.size) (rb := x2.ownBlock) (show ownR W1.heap.size (W3) _ _ from (by repeat (with_reducible first | exact oG1 | apply ownR.aft))) q10 nXG21.out
        rw [← hW4] at oG1n
        have oG2n := ownR.aftG (B := W1.heap.size) (rb := x2.ownBlock) (show ownR W1.heap.size (W3) _ _ from (by repeat (with_reducible first | exact oG2 | apply ownR.aft))) q10 nXG22.out
        rw [← hW4] at oG2n
        rw [← hW4] at hmk
        rw [← hW4]
        have l4 : W1.heap.size ≤ W4.heap.size := B4.out.2
        clear oX3 oG1 oG2 hgr lw hW4 oX2
        have oX3 := oX3n; clear oX3n
        have oG1 := oG1n; clear oG1n
        have oG2 := oG2n; clear oG2n
        clear hmk
        go_wp2_with fail
        refine (l_markG W1.heap.size x3 xs3 _ _ (by repeat (with_reducible first | exact oX3 | apply ownR.aft)) (by omega) (by omega)).mono ?_
        rintro e w' ⟨he, hmk, hgr⟩
        subst he
        obtain ⟨q11, hq11⟩ := aftG_ex hgr gX3.out
        subst hq11
        obtain ⟨W5, hW5⟩ : ∃ W, W = aftG W1.heap.size x3.ownBlock (W4) q11 := ⟨_, rfl⟩
        have lw : W1.heap.size ≤ (W4).heap.size := by omega
        have B5 : Hid (Ext W1.heap.size W1 W5) := hid (by rw [hW5]; exact Ext.aftG (by repeat (with_reducible first | exact B4.out | apply Ext.aft)) _ _ (Nat.le_refl _) lw)
        have oG1n := ownR.aftG (B := W1.heap.size) (rb := x3.ownBlock) (show ownR W1.heap.size (W4) _ _ from (by repeat (with_reducible first | exact oG1 | apply ownR.aft))) q11 nXG31.out
        rw [← hW5] at oG1n
        have oG2n := ownR.aftG (B := W1.heap.size) (rb := x3.ownBlock) (show ownR W1.heap.size (W4) _ _ from (by repeat (with_reducible first | exact oG2 | apply ownR.aft))) q11 nXG32.out
        rw [← hW5] at oG2n
        rw [← hW5] at hmk
        rw [← hW5]
        have l5 : W1.heap.size ≤ W5.heap.size := B5.out.2
        clear oG1 oG2 hgr lw hW5 oX3
        have oG1 := oG1n; clear oG1n
        have oG2 := oG2n; clear oG2n
        clear hmk
        go_wp2_with fail
        refine via (l_eqI g1 w1 ys1 _ (ownR.rd (by repeat (with_reducible first | exact oG1 | apply ownR.aft))) (OW1.out.below (Ext.bel (Ext.of B5.out (by repeat (with_reducible first | exact Ext.refl _ | apply Ext.alloc | apply Ext.aft | apply Ext.drew | apply Ext.drewN | apply Ext.setCell | exact Nat.le_add_right _ _ | exact Nat.le_refl _ | (simp; done) | omega)))))) ?_
        intro q12 y12
        go_wp2_with fail
        refine via (l_eqI g2 w2 ys2 _ (ownR.rd (by repeat (with_reducible first | exact oG2 | apply ownR.aft))) (OW2.out.below (Ext.bel (Ext.of B5.out (by repeat (with_reducible first | exact Ext.refl _ | apply Ext.alloc | apply Ext.aft | apply Ext.drew | apply Ext.drewN | apply Ext.setCell | exact Nat.le_add_right _ _ | exact Nat.le_refl _ | (simp; done) | omega)))))) ?_
        intro q13 y13
        go_wp2_with fail
        refine (l_markG W1.heap.size g1 ys1 _ _ (by repeat (with_reducible first | exact oG1 | apply ownR.aft)) (by omega) (by omega)).mono ?_
        rintro e w' ⟨he, hmk, hgr⟩
        subst he
        obtain ⟨q14, hq14⟩ := aftG_ex hgr gG1.out
        subst hq14
        obtain ⟨W6, hW6⟩ : ∃ W, W = aftG W1.heap.size g1.ownBlock (aft (aft (W5) q12) q13) q14 := ⟨_, rfl⟩
        have lw : W1.heap.size ≤ (aft (aft (W5) q12) q13).heap.size := by omega
        have B6 : Hid (Ext W1.heap.size W1 W6) := hid (by rw [hW6]; exact Ext.aftG (by repeat (with_reducible first | exact B5.out | apply Ext.aft)) _ _ (Nat.le_refl _) lw)
        have oG2n := ownR.aftG (B := W1.heap.size) (rb := g1.ownBlock) (show ownR W1.heap.size (aft (aft (W5) q12) q13) _ _ from (by repeat (with_reducible first | exact oG2 | apply ownR.aft))) q14 nGG21.out
        rw [← hW6] at oG2n
        rw [← hW6] at hmk
        rw [← hW6]
        have l6 : W1.heap.size ≤ W6.heap.size := B6.out.2
        clear oG2 hgr lw hW6 oG1 y12 y13
        have oG2 := oG2n; clear oG2n
        have oM1 := hmk
        clear hmk
        go_wp2_with fail
        refine (l_markG W1.heap.size g2 ys2 _ _ (by repeat (with_reducible first | exact oG2 | apply ownR.aft)) (by omega) (by omega)).mono ?_
        rintro e w' ⟨he, hmk, hgr⟩
        subst he
        obtain ⟨q15, hq15⟩ := aftG_ex hgr gG2.out
        subst hq15
        obtain ⟨W7, hW7⟩ : ∃ W, W = aftG W1.heap.size g2.ownBlock (W6) q15 := ⟨_, rfl⟩
        have lw : W1.heap.size ≤ (W6).heap.size := by omega
        have B7 : Hid (Ext W1.heap.size W1 W7) := hid (by rw [hW7]; exact Ext.aftG (by repeat (with_reducible first | exact B6.out | apply Ext.aft)) _ _ (Nat.le_refl _) lw)
        have oM1n := ownR.aftG (B := W1.heap.size) (rb := g2.ownBlock) (show ownR W1.heap.size (W6) _ _ from (by repeat (with_reducible first | exact oM1 | apply ownR.aft))) q15 nGG12.out
        rw [← hW7] at oM1n
        rw [← hW7] at hmk
        rw [← hW7]
        have l7 : W1.heap.size ≤ W7.heap.size := B7.out.2
        clear oM1 hgr lw hW7 oG2
        have oM1 := oM1n; clear oM1n
        have oM2 := hmk
        clear hmk
        have E4 := hid (E1.out.below B7.out.1)
        have c4 : (fun W => ∀ o, W.cell? ⟨w.heap.size, o, none⟩ = #[Value.int .i64 p, .int .i64 n][o]?) W7 := fun o => (B7.out.1.cell (p := ⟨w.heap.size, o, none⟩) l1).trans (c1 o)
        have l4 : w.heap.size < W7.heap.size := Nat.lt_of_lt_of_le l1 B7.out.2
        have rM1 := hid oM1.rd
        have rM2 := hid oM2.rd
        clear c1 oM1 oM2
        go_wp2_with fail
        refine pur (l_heldI g1 ys1.length _ _ (by repeat (with_reducible first | exact rM1.out | apply rdI.aft)) (by omega) (by omega)) ?_
        go_wp2_with fail
        refine pur (l_heldI g2 ys2.length _ _ (by repeat (with_reducible first | exact rM2.out | apply rdI.aft)) (by omega) (by omega)) ?_
        go_wp2_with (go_at_call 6; refine via (l_toRing' _ _ _) ?_; intro uu zz; try simp at zz)
        refine viaI (g := id) (l_toI _ _ _ (H1.out.below (Ext.bel (Ext.of E4.out (by repeat (with_reducible first | exact Ext.refl _ | apply Ext.alloc | apply Ext.aft | apply Ext.drew | apply Ext.drewN | apply Ext.setCell | exact Nat.le_add_right _ _ | exact Nat.le_refl _ | (simp; done) | omega))))) hl1) ?_
        intro t1 ut1 zt1 ownt1
        try simp at zt1
        have rdt1 := ownt1.rd
        go_wp2_with fail
        refine viaI (g := id) (l_toI _ _ _ (H2.out.below (Ext.bel (Ext.of E4.out (by repeat (with_reducible first | exact Ext.refl _ | apply Ext.alloc | apply Ext.aft | apply Ext.drew | apply Ext.drewN | apply Ext.setCell | exact Nat.le_add_right _ _ | exact Nat.le_refl _ | (simp; done) | omega))))) hl2) ?_
        intro t2 ut2 zt2 ownt2
        try simp at zt2
        have rdt2 := ownt2.rd
        go_wp2_with fail
        refine viaI (g := id) (l_toI _ _ _ (H3.out.below (Ext.bel (Ext.of E4.out (by repeat (with_reducible first | exact Ext.refl _ | apply Ext.alloc | apply Ext.aft | apply Ext.drew | apply Ext.drewN | apply Ext.setCell | exact Nat.le_add_right _ _ | exact Nat.le_refl _ | (simp; done) | omega))))) hl3) ?_
        intro t3 ut3 zt3 ownt3
        try simp at zt3
        have rdt3 := ownt3.rd
        go_wp2_with fail
        refine viaI2 (g := fun r q => .tuple #[r, q, _]) (HI.out _ _ _ _ (by repeat (with_reducible first | assumption | apply rdI.aft | apply rdI.alloc | apply rdI.drew | apply rdI.drewN)) (by repeat (with_reducible first | assumption | apply rdI.aft | apply rdI.alloc | apply rdI.drew | apply rdI.drewN)) (by repeat (with_reducible first | assumption | apply rdI.aft | apply rdI.alloc | apply rdI.drew | apply rdI.drewN))) ?_
        intro k1 k2 uk zk ownk1 ownk2 nek nfk
        try simp at zk
        go_wp2_with fail
        refine via (l_eqI k1 w1 ys1 _ (ownR.rd (by repeat (with_reducible first | exact ownk1 | apply ownR.aft))) (OW1.out.below (Ext.bel (Ext.of B7.out (by repeat (with_reducible first | exact Ext.refl _ | apply Ext.alloc | apply Ext.aft | apply Ext.drew | apply Ext.drewN | apply Ext.setCell | exact Nat.le_add_right _ _ | exact Nat.le_refl _ | (simp; done) | omega)))))) ?_
        intro e1 d1
        go_wp2_with fail
        refine via (l_eqI k2 w2 ys2 _ (ownR.rd (by repeat (with_reducible first | exact ownk2 | apply ownR.aft))) (OW2.out.below (Ext.bel (Ext.of B7.out (by repeat (with_reducible first | exact Ext.refl _ | apply Ext.alloc | apply Ext.aft | apply Ext.drew | apply Ext.drewN | apply Ext.setCell | exact Nat.le_add_right _ _ | exact Nat.le_refl _ | (simp; done) | omega)))))) ?_
        intro e2 d2
        go_wp2_with fail
        refine pur (l_heldI g1 ys1.length _ _ (by repeat (with_reducible first | exact rM1.out | apply rdI.aft)) (by omega) (by omega)) ?_
        go_wp2_with fail
        refine pur (l_heldI g2 ys2.length _ _ (by repeat (with_reducible first | exact rM2.out | apply rdI.aft)) (by omega) (by omega)) ?_
        go_wp2_with fail
        go_ret
        exact ⟨rfl, Ext.bel (Ext.of E4.out (by repeat (with_reducible first | exact Ext.refl _ | apply Ext.alloc | apply Ext.aft | apply Ext.drew | apply Ext.drewN | apply Ext.setCell | exact Nat.le_add_right _ _ | exact Nat.le_refl _ | (simp; done) | omega)))⟩

end Go.Proofs.Ytaninbfcoifedaa
