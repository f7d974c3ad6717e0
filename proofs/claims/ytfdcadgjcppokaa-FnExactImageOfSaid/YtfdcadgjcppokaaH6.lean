/- Images: the law. -/
import Derived.Test.YtfdcadgjcppokaaH5
namespace Go.Proofs.Ytfdcadgjcppokaa
open Go Go.RowKit

set_option maxHeartbeats 4000000 in
theorem law_ImageOf (p n : Int) (r : Value) (xs : List Int) (w : World) (h : rdI w r xs) :
    Calls Try.prog 4 #[(.agg #[.int .i64 p, .int .i64 n]), r] w fun e w' => e = .returned (.bool true) ∧ Below w.heap.size w w' := by
  have hlen : xs.length ≤ maxLen := by obtain ⟨a, cap, _, hm, _⟩ := h; exact hm
  unfold maxLen at hlen
  obtain ⟨a, cap, hr, _, _⟩ := id h
  by_cases hl : xs.length ≤ 1048576
  · have hl2 : (xs.length : Int) ≤ 1048576 := by omega
    have hly : (imgF p n xs).1.length ≤ 1000000 := by
      unfold imgF; split
      · rename_i h1; have := inRing_facts h1; have := redF_len p xs; simp; omega
      · simp
    obtain ⟨ys, hys⟩ : ∃ ys, ys = (imgF p n xs).1 := ⟨_, rfl⟩
    rw [← hys] at hly
    have HY := hid hys.symm
    obtain ⟨cd, hcd⟩ : ∃ cd, cd = (imgF p n xs).2 := ⟨_, rfl⟩
    have HS : Hid (∀ r w, rdI w r xs → Calls Try.prog 17 #[(.agg #[.int .i64 p, .int .i64 n]), r] w fun e w' => ∃ v, e = .returned (.tuple #[v, .int .i64 cd]) ∧ ownR w.heap.size w' v ys ∧ Below w.heap.size w w') := hid (by rw [hys, hcd]; exact fun r w h => s_ImageOf p n r xs w h)
    have HI : Hid (∀ r w, rdI w r xs → Calls Try.prog 18 #[(.agg #[.int .i64 p, .int .i64 n]), r] w fun e w' => ∃ v, e = .returned (.tuple #[v, .int .i64 cd]) ∧ ownR w.heap.size w' v ys ∧ Below w.heap.size w w') := hid (by rw [hys, hcd]; exact fun r w h => i_ImageOf p n r xs w h)
    have H0 := hid h
    subst hr
    clear hys hcd HY h
    go_enter Try.func4, Try.ntmps4
    go_wp2_with (go_at_call 13; refine via (l_toRing' _ _ _) ?_; intro uu zz; try simp at zz)
    refine viaI (g := id) (l_toI _ _ _ (H0.out.below (by refine Ext.bel ?_; repeat (with_reducible first | exact Ext.refl _ | apply Ext.alloc | apply Ext.aft | apply Ext.drew | apply Ext.drewN))) hl) ?_
    intro r0 u0 z0 own0
    try simp at z0
    go_wp2_with fail
    refine viaI (g := fun r => .tuple #[r, _]) (HS.out _ _ own0.rd) ?_
    intro w0 u1 z1 ownW
    try simp at z1
    -- the world behind the statement's call
    obtain ⟨W1, hW1⟩ : ∃ W1, W1 = aft (aft (aft (w.alloc (Obj.cells #[.int .i64 p, .int .i64 n] 23)) uu) u0) u1 := ⟨_, rfl⟩
    rw [← hW1] at ownW z1 ⊢
    have c1 : (fun W => ∀ o, W.cell? ⟨w.heap.size, o, none⟩ = #[Value.int .i64 p, .int .i64 n][o]?) W1 := fun o => by rw [hW1]; simp [go_sem, ↓IntWalk.iteOmega]
    have E1 : Hid (Ext w.heap.size w W1) := hid (by rw [hW1]; exact (by repeat (with_reducible first | exact Ext.refl _ | apply Ext.alloc | apply Ext.aft | apply Ext.drew | apply Ext.drewN | apply Ext.setCell | exact Nat.le_add_right _ _ | exact Nat.le_refl _ | (simp; done) | omega)))
    have l1 : w.heap.size < W1.heap.size := by omega
    have OW := hid ownW
    clear hW1 own0 ownW z0 z1 zz
    go_wp2_with fail
    refine viaI (g := id) (l_toI _ _ _ (H0.out.below (Ext.bel (Ext.of E1.out (by repeat (with_reducible first | exact Ext.refl _ | apply Ext.alloc | apply Ext.aft | apply Ext.drew | apply Ext.drewN | apply Ext.setCell | exact Nat.le_add_right _ _ | exact Nat.le_refl _ | (simp; done) | omega))))) hl) ?_
    intro x1 u2 z2 ownX
    try simp at z2
    go_wp2_with (go_at_call 13; refine via (l_toRing' _ _ _) ?_; intro uu zz; try simp at zz)
    refine viaI (g := fun r => .tuple #[r, _]) (HI.out _ _ (ownX.rd.aft _)) ?_
    intro g0 u3 z3 ownG
    try simp at z3
    -- the world behind the program's call
    obtain ⟨W2, hW2⟩ : ∃ W2, W2 = aft (aft (aft W1 u2) uu) u3 := ⟨_, rfl⟩
    have B2 : Hid (Ext W1.heap.size W1 W2) := hid (by rw [hW2]; exact (by repeat (with_reducible first | exact Ext.refl _ | apply Ext.alloc | apply Ext.aft | apply Ext.drew | apply Ext.drewN | apply Ext.setCell | exact Nat.le_add_right _ _ | exact Nat.le_refl _ | (simp; done) | omega)))
    have oX : ownR W1.heap.size W2 x1 xs := by rw [hW2]; exact (ownX.aft _).aft _
    have nXG : Hid (rowNe g0 x1.ownBlock) := hid (rowNe_gt ownX.rowLt (own_row_ge ownG) (by omega))
    have oG : ownR W1.heap.size W2 g0 ys := by rw [hW2]; exact ownG.mono (by omega)
    have gG : Hid (∀ k, g0.ownBlock = some k → W1.heap.size ≤ k) := hid (own_row_ge oG)
    have gX : Hid (∀ k, x1.ownBlock = some k → W1.heap.size ≤ k) := hid (own_row_ge oX)
    have l2 : W1.heap.size ≤ W2.heap.size := B2.out.2
    rw [← hW2]
    clear hW2 ownX ownG z2 z3 zz
    go_wp2_with fail
    refine via (l_eqI g0 w0 ys _ oG.rd (OW.out.rd.below B2.out.1)) ?_
    intro u4 z4
    go_wp2_with fail
    refine viaI (g := id) (l_toI _ _ _ (H0.out.below (Ext.bel (Ext.of E1.out (Ext.of B2.out (by repeat (with_reducible first | exact Ext.refl _ | apply Ext.alloc | apply Ext.aft | apply Ext.drew | apply Ext.drewN | apply Ext.setCell | exact Nat.le_add_right _ _ | exact Nat.le_refl _ | (simp; done) | omega)))))) hl) ?_
    intro r2 u5 z5 own2
    try simp at z5
    go_wp2_with fail
    refine via (l_eqI x1 r2 xs _ ((oX.aft _).aft _).rd own2.rd) ?_
    intro u6 z6
    go_wp2_with fail
    refine (l_markG W1.heap.size x1 xs 1 _ (((oX.aft _).aft _).aft _) (by omega) (by omega)).mono ?_
    rintro e w' ⟨he, _, hgr⟩
    subst he
    obtain ⟨u7, hu7⟩ := aftG_ex hgr gX.out
    subst hu7
    obtain ⟨W3, hW3⟩ : ∃ W3, W3 = aftG W1.heap.size x1.ownBlock (aft (aft (aft W2 u4) u5) u6) u7 := ⟨_, rfl⟩
    have lw : W1.heap.size ≤ (aft (aft (aft W2 u4) u5) u6).heap.size := by omega
    have B3 : Hid (Ext W1.heap.size W1 W3) := hid (by
      rw [hW3]
      exact Ext.aftG ((((B2.out).aft u4).aft u5).aft u6) _ _ (Nat.le_refl _) lw)
    have oG3 : ownR W1.heap.size W3 g0 ys := by rw [hW3]; exact ownR.aftG (((oG.aft _).aft _).aft _) _ nXG.out
    rw [← hW3]
    clear hW3 hgr own2 oX oG lw z4 z5 z6
    have l3 : W1.heap.size ≤ W3.heap.size := B3.out.2
    go_wp2_with fail
    refine via (l_eqI g0 w0 ys _ oG3.rd (OW.out.rd.below B3.out.1)) ?_
    intro u8 z8
    go_wp2_with fail
    refine (l_markG W1.heap.size g0 ys 1 _ (oG3.aft _) (by omega) (by omega)).mono ?_
    rintro e w' ⟨he, hmk, hgr⟩
    subst he
    obtain ⟨u9, hu9⟩ := aftG_ex hgr gG.out
    subst hu9
    obtain ⟨W4, hW4⟩ : ∃ W4, W4 = aftG W1.heap.size g0.ownBlock (aft W3 u8) u9 := ⟨_, rfl⟩
    rw [← hW4] at hmk ⊢
    have B4 : Hid (Ext W1.heap.size W1 W4) := hid (by
      rw [hW4]
      exact Ext.aftG ((B3.out).aft u8) _ _ (Nat.le_refl _) (by omega))
    have rM := hmk.rd
    have E4 := hid (E1.out.below B4.out.1)
    have c4 : (fun W => ∀ o, W.cell? ⟨w.heap.size, o, none⟩ = #[Value.int .i64 p, .int .i64 n][o]?) W4 := fun o => (B4.out.1.cell (p := ⟨w.heap.size, o, none⟩) l1).trans (c1 o)
    have l4 : w.heap.size < W4.heap.size := Nat.lt_of_lt_of_le l1 B4.out.2
    clear hW4 hgr hmk oG3 z8 c1
    go_wp2_with fail
    refine pur (l_heldI g0 ys.length 1 _ rM (by omega) (by omega)) ?_
    go_wp2_with (go_at_call 13; refine via (l_toRing' _ _ _) ?_; intro uu zz; try simp at zz)
    refine viaI (g := id) (l_toI _ _ _ (H0.out.below (Ext.bel (Ext.of E4.out (by repeat (with_reducible first | exact Ext.refl _ | apply Ext.alloc | apply Ext.aft | apply Ext.drew | apply Ext.drewN | apply Ext.setCell | exact Nat.le_add_right _ _ | exact Nat.le_refl _ | (simp; done) | omega))))) hl) ?_
    intro r3 u10 z10 own3
    try simp at z10
    go_wp2_with fail
    refine viaI (g := fun r => .tuple #[r, _]) (HI.out _ _ own3.rd) ?_
    intro h0 u11 z11 ownH
    try simp at z11
    go_wp2_with fail
    refine via (l_eqI h0 w0 ys _ ownH.rd (OW.out.rd.below (Ext.bel (Ext.of B4.out (by repeat (with_reducible first | exact Ext.refl _ | apply Ext.alloc | apply Ext.aft | apply Ext.drew | apply Ext.drewN | apply Ext.setCell | exact Nat.le_add_right _ _ | exact Nat.le_refl _ | (simp; done) | omega)))))) ?_
    intro u12 z12
    go_wp2_with fail
    refine pur (l_heldI g0 ys.length 1 _ ((((rM.aft _).aft _).aft _).aft _) (by omega) (by omega)) ?_
    go_wp2_with fail
    go_ret
    exact ⟨rfl, Ext.bel (Ext.of E4.out (by repeat (with_reducible first | exact Ext.refl _ | apply Ext.alloc | apply Ext.aft | apply Ext.drew | apply Ext.drewN | apply Ext.setCell | exact Nat.le_add_right _ _ | exact Nat.le_refl _ | (simp; done) | omega)))⟩
  · have hl2 : ¬ (xs.length : Int) ≤ 1048576 := by omega
    subst hr
    go_enter Try.func4, Try.ntmps4
    go_wp2_with fail
    go_ret
    exact ⟨rfl, (by refine Ext.bel ?_; repeat (with_reducible first | exact Ext.refl _ | apply Ext.alloc | apply Ext.aft | apply Ext.drew | apply Ext.drewN | apply Ext.setCell | exact Nat.le_add_right _ _ | exact Nat.le_refl _ | (simp; done) | omega))⟩
end Go.Proofs.Ytfdcadgjcppokaa
