/- SquareRootsOf: the law. -/
import Derived.Test.YtdhnpmjoajaeiaaSN
import Derived.Test.YtdhnpmjoajaeiaaH4
import Derived.Test.YtdhnpmjoajaeiaaG4
namespace Go.Proofs.Ytdhnpmjoajaeiaa
open Go Go.RowKit

set_option maxRecDepth 20000 in
set_option maxHeartbeats 16000000 in
theorem law_SquareRootsOf (p n a : Int) (w : World) :
    Calls Try.prog 3 #[(.agg #[.int .i64 p, .int .i64 n]), .int .i64 a] w fun e w' => e = .returned (.bool true) ∧ Below w.heap.size w w' := by
  obtain ⟨ys1, hys1⟩ : ∃ y, y = (sqRF p n a).1 := ⟨_, rfl⟩
  have hy1 : ys1.length ≤ 1000000 := by rw [hys1]; exact (sqR_len p n a)
  obtain ⟨cd, hcd⟩ : ∃ cd, cd = (sqRF p n a).2 := ⟨_, rfl⟩
  have HS : Hid (∀ w, Calls Try.prog 5 #[(.agg #[.int .i64 p, .int .i64 n]), .int .i64 a] w fun e w' => ∃ v1, e = .returned (.tuple #[v1, .int .i64 cd]) ∧ ownR w.heap.size w' v1 ys1 ∧ Below w.heap.size w w') := hid (by rw [hys1, hcd]; exact fun w => s_SquareRootsOf p n a w)
  have HI : Hid (∀ w, Calls Try.prog 7 #[(.agg #[.int .i64 p, .int .i64 n]), .int .i64 a] w fun e w' => ∃ v1, e = .returned (.tuple #[v1, .int .i64 cd]) ∧ ownR w.heap.size w' v1 ys1 ∧ Below w.heap.size w w') := hid (by rw [hys1, hcd]; exact fun w => i_SquareRootsOf p n a w)
  clear hys1 hcd
  go_enter Try.func3, Try.ntmps3
  go_wp2_with (go_at_call 6; refine via (l_toRing' _ _ _) ?_; intro uu zz; try simp at zz)
  refine viaI (g := fun r => .tuple #[r, _]) (HS.out _) ?_
  intro w1 us zs ownw1
  try simp at zs
  obtain ⟨W1, hW1⟩ : ∃ W1, W1 = aft (aft (w.alloc (Obj.cells #[.int .i64 p, .int .i64 n] 23)) uu) us := ⟨_, rfl⟩
  rw [← hW1] at ownw1 zs ⊢
  have c1 : (fun W => ∀ o, W.cell? ⟨w.heap.size, o, none⟩ = #[Value.int .i64 p, .int .i64 n][o]?) W1 := fun o => by rw [hW1]; simp [go_sem, ↓IntWalk.iteOmega]
  have E1 : Hid (Ext w.heap.size w W1) := hid (by rw [hW1]; exact (by repeat (with_reducible first | exact Ext.refl _ | apply Ext.alloc | apply Ext.aft | apply Ext.drew | apply Ext.drewN | apply Ext.setCell | exact Nat.le_add_right _ _ | exact Nat.le_refl _ | (simp; done) | omega)))
  have l1 : w.heap.size < W1.heap.size := by omega
  have OW1 := hid ownw1.rd
  clear hW1 zs zz ownw1
  go_wp2_with (go_at_call 6; refine via (l_toRing' _ _ _) ?_; intro uu zz; try simp at zz)
  refine viaI (g := fun r => .tuple #[r, _]) (HI.out _) ?_
  intro g1 ui zi owng1
  try simp at zi
  obtain ⟨W2, hW2⟩ : ∃ W2, W2 = aft (aft (W1) uu) ui := ⟨_, rfl⟩
  have B2 : Hid (Ext W1.heap.size W1 W2) := hid (by rw [hW2]; exact (by repeat (with_reducible first | exact Ext.refl _ | apply Ext.alloc | apply Ext.aft | apply Ext.drew | apply Ext.drewN | apply Ext.setCell | exact Nat.le_add_right _ _ | exact Nat.le_refl _ | (simp; done) | omega)))
  have oG1 : ownR W1.heap.size W2 g1 ys1 := by rw [hW2]; exact owng1.mono (by omega)
  have gG1 : Hid (∀ k, g1.ownBlock = some k → W1.heap.size ≤ k) := hid (own_row_ge oG1)
  have l2 : W1.heap.size ≤ W2.heap.size := B2.out.2
  rw [← hW2]
  clear hW2 zi zz  owng1
  go_wp2_with fail
  refine via (l_eqI g1 w1 ys1 _ (ownR.rd (by repeat (with_reducible first | exact oG1 | apply ownR.aft))) (OW1.out.below (Ext.bel (Ext.of B2.out (by repeat (with_reducible first | exact Ext.refl _ | apply Ext.alloc | apply Ext.aft | apply Ext.drew | apply Ext.drewN | apply Ext.setCell | exact Nat.le_add_right _ _ | exact Nat.le_refl _ | (simp; done) | omega)))))) ?_
  intro q1 y1
  go_wp2_with fail
  refine (l_markG W1.heap.size g1 ys1 _ _ (by repeat (with_reducible first | exact oG1 | apply ownR.aft)) (by omega) (by omega)).mono ?_
  rintro e w' ⟨he, hmk, hgr⟩
  subst he
  obtain ⟨q3, hq3⟩ := aftG_ex hgr gG1.out
  subst hq3
  obtain ⟨W3, hW3⟩ : ∃ W, W = aftG W1.heap.size g1.ownBlock (aft W2 q1) q3 := ⟨_, rfl⟩
  have lw : W1.heap.size ≤ (aft W2 q1).heap.size := by omega
  have B3 : Hid (Ext W1.heap.size W1 W3) := hid (by rw [hW3]; exact Ext.aftG (by repeat (with_reducible first | exact B2.out | apply Ext.aft)) _ _ (Nat.le_refl _) lw)
  rw [← hW3] at hmk
  rw [← hW3]
  have l3 : W1.heap.size ≤ W3.heap.size := B3.out.2
  clear hgr lw hW3 oG1 y1
  have oM1 := hmk
  clear hmk
  have E4 := hid (E1.out.below B3.out.1)
  have c4 : (fun W => ∀ o, W.cell? ⟨w.heap.size, o, none⟩ = #[Value.int .i64 p, .int .i64 n][o]?) W3 := fun o => (B3.out.1.cell (p := ⟨w.heap.size, o, none⟩) l1).trans (c1 o)
  have l4 : w.heap.size < W3.heap.size := Nat.lt_of_lt_of_le l1 B3.out.2
  have rM1 := hid oM1.rd
  clear c1 oM1
  go_wp2_with fail
  refine pur (l_heldI g1 ys1.length _ _ (by repeat (with_reducible first | exact rM1.out | apply rdI.aft)) (by omega) (by omega)) ?_
  go_wp2_with (go_at_call 6; refine via (l_toRing' _ _ _) ?_; intro uu zz; try simp at zz)
  refine viaI (g := fun r => .tuple #[r, _]) (HI.out _) ?_
  intro k1 uk zk ownk1
  try simp at zk
  go_wp2_with fail
  refine via (l_eqI k1 w1 ys1 _ (ownR.rd (by repeat (with_reducible first | exact ownk1 | apply ownR.aft))) (OW1.out.below (Ext.bel (Ext.of B3.out (by repeat (with_reducible first | exact Ext.refl _ | apply Ext.alloc | apply Ext.aft | apply Ext.drew | apply Ext.drewN | apply Ext.setCell | exact Nat.le_add_right _ _ | exact Nat.le_refl _ | (simp; done) | omega)))))) ?_
  intro e1 d1
  go_wp2_with fail
  refine pur (l_heldI g1 ys1.length _ _ (by repeat (with_reducible first | exact rM1.out | apply rdI.aft)) (by omega) (by omega)) ?_
  go_wp2_with fail
  go_ret
  exact ⟨rfl, Ext.bel (Ext.of E4.out (by repeat (with_reducible first | exact Ext.refl _ | apply Ext.alloc | apply Ext.aft | apply Ext.drew | apply Ext.drewN | apply Ext.setCell | exact Nat.le_add_right _ _ | exact Nat.le_refl _ | (simp; done) | omega)))⟩
end Go.Proofs.Ytdhnpmjoajaeiaa
