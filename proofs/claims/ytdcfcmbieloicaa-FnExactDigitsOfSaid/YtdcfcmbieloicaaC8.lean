/- DigitsOf: the law. -/
import Derived.Test.YtdcfcmbieloicaaC7
namespace Go.Proofs.Ytdcfcmbieloicaa
open Go Go.RowKit

set_option maxHeartbeats 4000000 in
theorem law_DigitsOf (p v u n : Int) (w : World) :
    Calls Try.prog 6 #[(.agg #[.int .i64 p, .int .i64 v, .int .i64 u, .int .i64 n])] w fun e w' => e = .returned (.bool true) ∧ Below w.heap.size w w' := by
  have hl : (digitsF p v u n).1.length ≤ 40 := by
    unfold digitsF; split
    · rename_i h; rw [digs_len]; have := padic_facts h; omega
    · simp
  obtain ⟨xs, hxs⟩ : ∃ xs, xs = (digitsF p v u n).1 := ⟨_, rfl⟩
  rw [← hxs] at hl
  have HX := hid hxs.symm
  clear hxs
  go_enter Try.func6, Try.ntmps6
  go_wp2_with (go_at_call 18; refine via (l_toPadic _ _ _ _ _) ?_; intro uu zz; try simp at zz)
  refine viaE (g := fun r => .tuple #[r, _]) (s_DigitsOf _ _ _ _ _) HX.out ?_
  intro r0 u1 z1 own0
  try simp at z1
  have lt0 := own0.rowLt
  go_wp2_with (go_at_call 18; refine via (l_toPadic _ _ _ _ _) ?_; intro uu zz; try simp at zz)
  refine viaE (g := fun r => .tuple #[r, _]) (i_DigitsOf _ _ _ _ _) HX.out ?_
  intro r1 u2 z2 own1
  try simp at z2
  go_wp2_with fail
  have rd0 := own0.rd
  have rd1 := own1.rd
  refine via (l_eqI r1 r0 xs _ (by repeat (with_reducible first | assumption | apply rdI.aft | apply rdI.alloc | apply rdI.drew | apply rdI.drewN)) (by repeat (with_reducible first | assumption | apply rdI.aft | apply rdI.alloc | apply rdI.drew | apply rdI.drewN))) ?_
  intro u3 z3
  go_wp2_with fail
  refine (l_markI _ r1 xs 1 _ (by repeat (with_reducible first | assumption | apply ownR.aft | apply ownR.alloc | apply ownR.drew)) (by omega) (by omega)).mono ?_
  rintro e w' ⟨he, hmk, hbel⟩
  subst he
  have rd0b := rdI.belowB hbel (by repeat (with_reducible first | assumption | apply rdI.aft | apply rdI.alloc | apply rdI.drew | apply rdI.drewN)) lt0 (by repeat (with_reducible first | exact Nat.le_refl _ | apply le_aft | apply le_aftB | apply le_alloc | apply le_set))
  have z4 := hbel.size
  obtain ⟨u4, hu4⟩ := aftB_ex hbel
  subst hu4
  have rdm := hmk.rd
  clear hbel own1 rd1 rd0 own0 hmk
  go_wp2_with fail
  refine pur (l_heldI r1 _ 1 _ (by repeat (with_reducible first | assumption | apply rdI.aft | apply rdI.alloc | apply rdI.drew | apply rdI.drewN)) (by omega) (by omega)) ?_
  go_wp2_with (first | (go_at_call 18; refine via (l_toPadic _ _ _ _ _) ?_; intro uu zz; try simp at zz))
  refine viaE (g := fun r => .tuple #[r, _]) (i_DigitsOf _ _ _ _ _) HX.out ?_
  intro r2 u5 z5 own2
  try simp at z5
  have rd2 := own2.rd
  go_wp2_with fail
  refine via (l_eqI r2 r0 xs _ (by repeat (with_reducible first | assumption | apply rdI.aft | apply rdI.alloc | apply rdI.drew | apply rdI.drewN)) (by repeat (with_reducible first | assumption | apply rdI.aft | apply rdI.alloc | apply rdI.drew | apply rdI.drewN))) ?_
  intro u6 z6
  go_wp2_with fail
  refine pur (l_heldI r1 _ 1 _ (by repeat (with_reducible first | assumption | apply rdI.aft | apply rdI.alloc | apply rdI.drew | apply rdI.drewN)) (by omega) (by omega)) ?_
  go_wp2_with fail
  go_ret
  exact ⟨rfl, (by refine Ext.bel ?_; repeat (with_reducible first | exact Ext.refl _ | apply Ext.alloc | apply Ext.aft | apply Ext.drew | apply Ext.drewN | apply Ext.setCell | apply Ext.aftB | exact Nat.le_add_right _ _ | exact Nat.le_refl _ | apply le_aft | apply le_aftB | apply le_alloc | apply le_set | (simp; done) | omega))⟩
end Go.Proofs.Ytdcfcmbieloicaa
