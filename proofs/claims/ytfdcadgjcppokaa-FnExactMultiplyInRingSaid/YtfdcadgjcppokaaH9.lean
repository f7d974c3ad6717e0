/- MultiplyInRing: the law. -/
import Derived.Test.YtfdcadgjcppokaaH8
import Derived.Test.YtfdcadgjcppokaaH4
namespace Go.Proofs.Ytfdcadgjcppokaa
open Go Go.RowKit

theorem MultiplyInRing_len (p n : Int) (xs1 xs2 : List Int) : (multiplyInRingF p n xs1 xs2).1.length ≤ 1000000 := by
  unfold multiplyInRingF
  split
  · split
    · show (mulR (p ^ n.toNat) xs1 xs2).length ≤ 1000000
      omega
    · simp
  · simp
set_option maxRecDepth 20000 in
set_option maxHeartbeats 16000000 in
theorem law_MultiplyInRing (p n : Int) (r1 : Value) (xs1 : List Int) (r2 : Value) (xs2 : List Int) (w : World) (h1 : rdI w r1 xs1) (h2 : rdI w r2 xs2) :
    Calls Try.prog 6 #[(.agg #[.int .i64 p, .int .i64 n]), r1, r2] w fun e w' => e = .returned (.bool true) ∧ Below w.heap.size w w' := by
  have hlen1 : xs1.length ≤ maxLen := by obtain ⟨a, cap, _, hm, _⟩ := h1; exact hm
  unfold maxLen at hlen1
  obtain ⟨a1, cap1, hr1, _, _⟩ := id h1
  have hlen2 : xs2.length ≤ maxLen := by obtain ⟨a, cap, _, hm, _⟩ := h2; exact hm
  unfold maxLen at hlen2
  obtain ⟨a2, cap2, hr2, _, _⟩ := id h2
  by_cases hl1 : xs1.length ≤ 1048576
  case neg =>
    have hz1 : ¬ (xs1.length : Int) ≤ 1048576 := by omega
    subst hr1
    subst hr2
    go_enter Try.func6, Try.ntmps6
    go_wp2_with fail
    go_ret
    exact ⟨rfl, (by refine Ext.bel ?_; repeat (with_reducible first | exact Ext.refl _ | apply Ext.alloc | apply Ext.aft | apply Ext.drew | apply Ext.drewN | apply Ext.setCell | exact Nat.le_add_right _ _ | exact Nat.le_refl _ | (simp; done) | omega))⟩
  case pos =>
    by_cases hl2 : xs2.length ≤ 1048576
    case neg =>
      have hz2 : ¬ (xs2.length : Int) ≤ 1048576 := by omega
      have hz1 : (xs1.length : Int) ≤ 1048576 := by omega
      subst hr1
      subst hr2
      go_enter Try.func6, Try.ntmps6
      go_wp2_with fail
      go_ret
      exact ⟨rfl, (by refine Ext.bel ?_; repeat (with_reducible first | exact Ext.refl _ | apply Ext.alloc | apply Ext.aft | apply Ext.drew | apply Ext.drewN | apply Ext.setCell | exact Nat.le_add_right _ _ | exact Nat.le_refl _ | (simp; done) | omega))⟩
    case pos =>
      have hz1 : (xs1.length : Int) ≤ 1048576 := by omega
      have hz2 : (xs2.length : Int) ≤ 1048576 := by omega
      obtain ⟨ys1, hys1⟩ : ∃ y, y = (multiplyInRingF p n xs1 xs2).1 := ⟨_, rfl⟩
      have hy1 : ys1.length ≤ 1000000 := by rw [hys1]; exact (MultiplyInRing_len p n xs1 xs2)
      obtain ⟨cd, hcd⟩ : ∃ cd, cd = (multiplyInRingF p n xs1 xs2).2 := ⟨_, rfl⟩
      have HS : Hid (∀ r1 r2 w, rdI w r1 xs1 → rdI w r2 xs2 → Calls Try.prog 23 #[(.agg #[.int .i64 p, .int .i64 n]), r1, r2] w fun e w' => ∃ v1, e = .returned (.tuple #[v1, .int .i64 cd]) ∧ ownR w.heap.size w' v1 ys1 ∧ Below w.heap.size w w') := hid (by rw [hys1, hcd]; exact fun r1 r2 w h1 h2 => s_MultiplyInRing p n r1 r2 xs1 xs2 w h1 h2)
      have HI : Hid (∀ r1 r2 w, rdI w r1 xs1 → rdI w r2 xs2 → Calls Try.prog 24 #[(.agg #[.int .i64 p, .int .i64 n]), r1, r2] w fun e w' => ∃ v1, e = .returned (.tuple #[v1, .int .i64 cd]) ∧ ownR w.heap.size w' v1 ys1 ∧ Below w.heap.size w w') := hid (by rw [hys1, hcd]; exact fun r1 r2 w h1 h2 => i_MultiplyInRing p n r1 r2 xs1 xs2 w h1 h2)
      have H1 := hid h1
      have H2 := hid h2
      subst hr1
      subst hr2
      clear hys1 hcd h1 h2
      go_enter Try.func6, Try.ntmps6
      go_wp2_with (go_at_call 13; refine via (l_toRing' _ _ _) ?_; intro uu zz; try simp at zz)
      refine viaI (g := id) (l_toI _ _ _ (H1.out.below (by refine Ext.bel ?_; repeat (with_reducible first | exact Ext.refl _ | apply Ext.alloc | apply Ext.aft | apply Ext.drew | apply Ext.drewN))) hl1) ?_
      intro t1 ut1 zt1 ownt1
      try simp at zt1
      have rdt1 := ownt1.rd
      go_wp2_with fail
      refine viaI (g := id) (l_toI _ _ _ (H2.out.below (by refine Ext.bel ?_; repeat (with_reducible first | exact Ext.refl _ | apply Ext.alloc | apply Ext.aft | apply Ext.drew | apply Ext.drewN))) hl2) ?_
      intro t2 ut2 zt2 ownt2
      try simp at zt2
      have rdt2 := ownt2.rd
      go_wp2_with fail
      refine viaI (g := fun r => .tuple #[r, _]) (HS.out _ _ _ (by repeat (with_reducible first | assumption | apply rdI.aft | apply rdI.alloc | apply rdI.drew | apply rdI.drewN)) (by repeat (with_reducible first | assumption | apply rdI.aft | apply rdI.alloc | apply rdI.drew | apply rdI.drewN))) ?_
      intro w1 us zs ownw1
      try simp at zs
      obtain ⟨W1, hW1⟩ : ∃ W1, W1 = aft (aft (aft (aft (w.alloc (Obj.cells #[.int .i64 p, .int .i64 n] 23)) uu) ut1) ut2) us := ⟨_, rfl⟩
      rw [← hW1] at ownw1 zs ⊢
      have c1 : (fun W => ∀ o, W.cell? ⟨w.heap.size, o, none⟩ = #[Value.int .i64 p, .int .i64 n][o]?) W1 := fun o => by rw [hW1]; simp [go_sem, ↓IntWalk.iteOmega]
      have E1 : Hid (Ext w.heap.size w W1) := hid (by rw [hW1]; exact (by repeat (with_reducible first | exact Ext.refl _ | apply Ext.alloc | apply Ext.aft | apply Ext.drew | apply Ext.drewN | apply Ext.setCell | exact Nat.le_add_right _ _ | exact Nat.le_refl _ | (simp; done) | omega)))
      have l1 : w.heap.size < W1.heap.size := by omega
      have OW1 := hid ownw1.rd
      clear hW1 zs zz ownw1 ownt1 rdt1 zt1 ownt2 rdt2 zt2
      go_wp2_with fail
      refine viaI (g := id) (l_toI _ _ _ (H1.out.below (Ext.bel (Ext.of E1.out (by repeat (with_reducible first | exact Ext.refl _ | apply Ext.alloc | apply Ext.aft | apply Ext.drew | apply Ext.drewN | apply Ext.setCell | exact Nat.le_add_right _ _ | exact Nat.le_refl _ | (simp; done) | omega))))) hl1) ?_
      intro x1 ux1 zx1 ownx1
      try simp at zx1
      have rdx1 := ownx1.rd
      go_wp2_with fail
      refine viaI (g := id) (l_toI _ _ _ (H2.out.below (Ext.bel (Ext.of E1.out (by repeat (with_reducible first | exact Ext.refl _ | apply Ext.alloc | apply Ext.aft | apply Ext.drew | apply Ext.drewN | apply Ext.setCell | exact Nat.le_add_right _ _ | exact Nat.le_refl _ | (simp; done) | omega))))) hl2) ?_
      intro x2 ux2 zx2 ownx2
      try simp at zx2
      have rdx2 := ownx2.rd
      go_wp2_with (go_at_call 13; refine via (l_toRing' _ _ _) ?_; intro uu zz; try simp at zz)
      refine viaI (g := fun r => .tuple #[r, _]) (HI.out _ _ _ (by repeat (with_reducible first | assumption | apply rdI.aft | apply rdI.alloc | apply rdI.drew | apply rdI.drewN)) (by repeat (with_reducible first | assumption | apply rdI.aft | apply rdI.alloc | apply rdI.drew | apply rdI.drewN))) ?_
      intro g1 ui zi owng1
      try simp at zi
      obtain ⟨W2, hW2⟩ : ∃ W2, W2 = aft (aft (aft (aft (W1) ux1) ux2) uu) ui := ⟨_, rfl⟩
      have B2 : Hid (Ext W1.heap.size W1 W2) := hid (by rw [hW2]; exact (by repeat (with_reducible first | exact Ext.refl _ | apply Ext.alloc | apply Ext.aft | apply Ext.drew | apply Ext.drewN | apply Ext.setCell | exact Nat.le_add_right _ _ | exact Nat.le_refl _ | (simp; done) | omega)))
      have oX1 : ownR W1.heap.size W2 x1 xs1 := by rw [hW2]; exact ownR.mono (by repeat (with_reducible first | exact ownx1 | apply ownR.aft)) (by omega)
      have oX2 : ownR W1.heap.size W2 x2 xs2 := by rw [hW2]; exact ownR.mono (by repeat (with_reducible first | exact ownx2 | apply ownR.aft)) (by omega)
      have oG1 : ownR W1.heap.size W2 g1 ys1 := by rw [hW2]; exact owng1.mono (by omega)
      have nXG11 : Hid (rowNe g1 x1.ownBlock) := hid (rowNe_gt ownx1.rowLt (own_row_ge owng1) (by omega))
      have nXX12 : Hid (rowNe x2 x1.ownBlock) := hid (rowNe_gt ownx1.rowLt (own_row_ge ownx2) (by omega))
      have nXG21 : Hid (rowNe g1 x2.ownBlock) := hid (rowNe_gt ownx2.rowLt (own_row_ge owng1) (by omega))
      have nXX21 : Hid (rowNe x1 x2.ownBlock) := hid (rowNe_lt ownx1.rowLt (own_row_ge ownx2) (by omega))
      have gG1 : Hid (∀ k, g1.ownBlock = some k → W1.heap.size ≤ k) := hid (own_row_ge oG1)
      have gX1 : Hid (∀ k, x1.ownBlock = some k → W1.heap.size ≤ k) := hid (own_row_ge oX1)
      have gX2 : Hid (∀ k, x2.ownBlock = some k → W1.heap.size ≤ k) := hid (own_row_ge oX2)
      have l2 : W1.heap.size ≤ W2.heap.size := B2.out.2
      rw [← hW2]
      clear hW2 zi zz ownx1 rdx1 zx1 ownx2 rdx2 zx2 owng1
      go_wp2_with fail
      refine via (l_eqI g1 w1 ys1 _ (ownR.rd (by repeat (with_reducible first | exact oG1 | apply ownR.aft))) (OW1.out.below (Ext.bel (Ext.of B2.out (by repeat (with_reducible first | exact Ext.refl _ | apply Ext.alloc | apply Ext.aft | apply Ext.drew | apply Ext.drewN | apply Ext.setCell | exact Nat.le_add_right _ _ | exact Nat.le_refl _ | (simp; done) | omega)))))) ?_
      intro q1 y1
      go_wp2_with fail
      refine viaI (g := id) (l_toI _ _ _ (H1.out.below (Ext.bel (Ext.of E1.out (Ext.of B2.out (by repeat (with_reducible first | exact Ext.refl _ | apply Ext.alloc | apply Ext.aft | apply Ext.drew | apply Ext.drewN | apply Ext.setCell | exact Nat.le_add_right _ _ | exact Nat.le_refl _ | (simp; done) | omega)))))) hl1) ?_
      intro s1 q2 y2 owns1
      try simp at y2
      go_wp2_with fail
      refine via (l_eqI x1 s1 xs1 _ (ownR.rd (by repeat (with_reducible first | exact oX1 | apply ownR.aft))) owns1.rd) ?_
      intro q3 y3
      go_wp2_with fail
      refine viaI (g := id) (l_toI _ _ _ (H2.out.below (Ext.bel (Ext.of E1.out (Ext.of B2.out (by repeat (with_reducible first | exact Ext.refl _ | apply Ext.alloc | apply Ext.aft | apply Ext.drew | apply Ext.drewN | apply Ext.setCell | exact Nat.le_add_right _ _ | exact Nat.le_refl _ | (simp; done) | omega)))))) hl2) ?_
      intro s2 q4 y4 owns2
      try simp at y4
      go_wp2_with fail
      refine via (l_eqI x2 s2 xs2 _ (ownR.rd (by repeat (with_reducible first | exact oX2 | apply ownR.aft))) owns2.rd) ?_
      intro q5 y5
      clear owns1
      clear owns2
      go_wp2_with fail
      refine (l_markG W1.heap.size x1 xs1 _ _ (by repeat (with_reducible first | exact oX1 | apply ownR.aft)) (by omega) (by omega)).mono ?_
      rintro e w' ⟨he, hmk, hgr⟩
      subst he
      obtain ⟨q6, hq6⟩ := aftG_ex hgr gX1.out
      subst hq6
      obtain ⟨W3, hW3⟩ : ∃ W, W = aftG W1.heap.size x1.ownBlock (aft (aft (aft (aft (aft (W2) q1) q2) q3) q4) q5) q6 := ⟨_, rfl⟩
      have lw : W1.heap.size ≤ (aft (aft (aft (aft (aft (W2) q1) q2) q3) q4) q5).heap.size := by omega
      have B3 : Hid (Ext W1.heap.size W1 W3) := hid (by rw [hW3]; exact Ext.aftG (by repeat (with_reducible first | exact B2.out | apply Ext.aft)) _ _ (Nat.le_refl _) lw)
      have oX2n := ownR.aftG (B := W1.heap.size) (rb := x1.ownBlock) (show ownR W1.heap.size (aft (aft (aft (aft (aft (W2) q1) q2) q3) q4) q5) _ _ from (by repeat (with_reducible first | exact oX2 | apply ownR.aft))) q6 nXX12.out
      rw [← hW3] at oX2n
      have oG1n := ownR.aftG (B := W1.heap.size) (rb := x1.ownBlock) (show ownR W1.heap.size (aft (aft (aft (aft (aft (W2) q1) q2) q3) q4) q5) _ _ from (by repeat (with_reducible first | exact oG1 | apply ownR.aft))) q6 nXG11.out
      rw [← hW3] at oG1n
      rw [← hW3] at hmk
      rw [← hW3]
      have l3 : W1.heap.size ≤ W3.heap.size := B3.out.2
      clear oX2 oG1 hgr lw hW3 oX1 y1 y2 y3 y4 y5
      have oX2 := oX2n; clear oX2n
      have oG1 := oG1n; clear oG1n
      clear hmk
      go_wp2_with fail
      refine (l_markG W1.heap.size x2 xs2 _ _ (by repeat (with_reducible first | exact oX2 | apply ownR.aft)) (by omega) (by omega)).mono ?_
      rintro e w' ⟨he, hmk, hgr⟩
      subst he
      obtain ⟨q7, hq7⟩ := aftG_ex hgr gX2.out
      subst hq7
      obtain ⟨W4, hW4⟩ : ∃ W, W = aftG W1.heap.size x2.ownBlock (W3) q7 := ⟨_, rfl⟩
      have lw : W1.heap.size ≤ (W3).heap.size := by omega
      have B4 : Hid (Ext W1.heap.size W1 W4) := hid (by rw [hW4]; exact Ext.aftG (by repeat (with_reducible first | exact B3.out | apply Ext.aft)) _ _ (Nat.le_refl _) lw)
      have oG1n := ownR.aftG (B := W1.heap.size) (rb := x2.ownBlock) (show ownR W1.heap.size (W3) _ _ from (by repeat (with_reducible first | exact oG1 | apply ownR.aft))) q7 nXG21.out
      rw [← hW4] at oG1n
      rw [← hW4] at hmk
      rw [← hW4]
      have l4 : W1.heap.size ≤ W4.heap.size := B4.out.2
      clear oG1 hgr lw hW4 oX2
      have oG1 := oG1n; clear oG1n
      clear hmk
      go_wp2_with fail
      refine via (l_eqI g1 w1 ys1 _ (ownR.rd (by repeat (with_reducible first | exact oG1 | apply ownR.aft))) (OW1.out.below (Ext.bel (Ext.of B4.out (by repeat (with_reducible first | exact Ext.refl _ | apply Ext.alloc | apply Ext.aft | apply Ext.drew | apply Ext.drewN | apply Ext.setCell | exact Nat.le_add_right _ _ | exact Nat.le_refl _ | (simp; done) | omega)))))) ?_
      intro q8 y8
      go_wp2_with fail
      refine (l_markG W1.heap.size g1 ys1 _ _ (by repeat (with_reducible first | exact oG1 | apply ownR.aft)) (by omega) (by omega)).mono ?_
      rintro e w' ⟨he, hmk, hgr⟩
      subst he
      obtain ⟨q9, hq9⟩ := aftG_ex hgr gG1.out
      subst hq9
      obtain ⟨W5, hW5⟩ : ∃ W, W = aftG W1.heap.size g1.ownBlock (aft (W4) q8) q9 := ⟨_, rfl⟩
      have lw : W1.heap.size ≤ (aft (W4) q8).heap.size := by omega
      have B5 : Hid (Ext W1.heap.size W1 W5) := hid (by rw [hW5]; exact Ext.aftG (by repeat (with_reducible first | exact B4.out | apply Ext.aft)) _ _ (Nat.le_refl _) lw)
      rw [← hW5] at hmk
      rw [← hW5]
      have l5 : W1.heap.size ≤ W5.heap.size := B5.out.2
      clear hgr lw hW5 oG1 y8
      have oM1 := hmk
      clear hmk
      have E4 := hid (E1.out.below B5.out.1)
      have c4 : (fun W => ∀ o, W.cell? ⟨w.heap.size, o, none⟩ = #[Value.int .i64 p, .int .i64 n][o]?) W5 := fun o => (B5.out.1.cell (p := ⟨w.heap.size, o, none⟩) l1).trans (c1 o)
      have l4 : w.heap.size < W5.heap.size := Nat.lt_of_lt_of_le l1 B5.out.2
      have rM1 := hid oM1.rd
      clear c1 oM1
      go_wp2_with fail
      refine pur (l_heldI g1 ys1.length _ _ (by repeat (with_reducible first | exact rM1.out | apply rdI.aft)) (by omega) (by omega)) ?_
      go_wp2_with (go_at_call 13; refine via (l_toRing' _ _ _) ?_; intro uu zz; try simp at zz)
      refine viaI (g := id) (l_toI _ _ _ (H1.out.below (Ext.bel (Ext.of E4.out (by repeat (with_reducible first | exact Ext.refl _ | apply Ext.alloc | apply Ext.aft | apply Ext.drew | apply Ext.drewN | apply Ext.setCell | exact Nat.le_add_right _ _ | exact Nat.le_refl _ | (simp; done) | omega))))) hl1) ?_
      intro t1 ut1 zt1 ownt1
      try simp at zt1
      have rdt1 := ownt1.rd
      go_wp2_with fail
      refine viaI (g := id) (l_toI _ _ _ (H2.out.below (Ext.bel (Ext.of E4.out (by repeat (with_reducible first | exact Ext.refl _ | apply Ext.alloc | apply Ext.aft | apply Ext.drew | apply Ext.drewN | apply Ext.setCell | exact Nat.le_add_right _ _ | exact Nat.le_refl _ | (simp; done) | omega))))) hl2) ?_
      intro t2 ut2 zt2 ownt2
      try simp at zt2
      have rdt2 := ownt2.rd
      go_wp2_with fail
      refine viaI (g := fun r => .tuple #[r, _]) (HI.out _ _ _ (by repeat (with_reducible first | assumption | apply rdI.aft | apply rdI.alloc | apply rdI.drew | apply rdI.drewN)) (by repeat (with_reducible first | assumption | apply rdI.aft | apply rdI.alloc | apply rdI.drew | apply rdI.drewN))) ?_
      intro k1 uk zk ownk1
      try simp at zk
      go_wp2_with fail
      refine via (l_eqI k1 w1 ys1 _ (ownR.rd (by repeat (with_reducible first | exact ownk1 | apply ownR.aft))) (OW1.out.below (Ext.bel (Ext.of B5.out (by repeat (with_reducible first | exact Ext.refl _ | apply Ext.alloc | apply Ext.aft | apply Ext.drew | apply Ext.drewN | apply Ext.setCell | exact Nat.le_add_right _ _ | exact Nat.le_refl _ | (simp; done) | omega)))))) ?_
      intro e1 d1
      go_wp2_with fail
      refine pur (l_heldI g1 ys1.length _ _ (by repeat (with_reducible first | exact rM1.out | apply rdI.aft)) (by omega) (by omega)) ?_
      go_wp2_with fail
      go_ret
      exact ⟨rfl, Ext.bel (Ext.of E4.out (by repeat (with_reducible first | exact Ext.refl _ | apply Ext.alloc | apply Ext.aft | apply Ext.drew | apply Ext.drewN | apply Ext.setCell | exact Nat.le_add_right _ _ | exact Nat.le_refl _ | (simp; done) | omega)))⟩

end Go.Proofs.Ytfdcadgjcppokaa
