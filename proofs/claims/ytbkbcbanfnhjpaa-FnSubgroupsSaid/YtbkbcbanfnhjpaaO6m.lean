/- Marks in groups. -/
import Derived.Test.YtbkbcbanfnhjpaaMB
import Derived.Test.YtbkbcbanfnhjpaaO0
namespace Go.Proofs.Ytbkbcbanfnhjpaa
open Go Go.RowKit

set_option maxHeartbeats 4000000 in
theorem l_markGr (B : Nat) (n : Int) (r : Value) (xs : List Int) (k : Int) (w : World) (h : ownR B w r xs) (hk : 0 ≤ k ∧ k ≤ 1000000) (hl : xs.length ≤ 1048576) :
    Calls Try.prog 29 #[(.agg #[.int .i64 n, r]), .int .i64 k] w fun e w' => e = .returned (.int .i64 (k + xs.length)) ∧ ownR B w' r (marks k xs.length) ∧ w.grownBy w' r.ownBlock := by
  have HO := hid (h.alloc (Obj.cells #[.int .i64 n, r] 26))
  clear h
  go_enter Try.func29, Try.ntmps29
  go_wp2_with fail
  refine (l_markG B r xs k _ HO.out (by omega) (by omega)).mono ?_
  rintro e w' ⟨rfl, h1, h2⟩
  have H1 := hid h1
  have H2 := hid h2
  clear h1 h2
  go_wp2_with fail
  go_ret
  exact ⟨rfl, H1.out, grownBy_trans (World.grownBy_alloc _ _ _) H2.out⟩
set_option maxHeartbeats 4000000 in
theorem l_heldGr (n : Int) (r : Value) (c : Nat) (k : Int) (w : World) (h : rdI w r (marks k c)) (hk : 0 ≤ k ∧ k ≤ 1000000) (hl : c ≤ 1048576) :
    Calls Try.prog 30 #[(.agg #[.int .i64 n, r]), .int .i64 k] w fun e w' => e = .returned (.int .i64 (k + c)) ∧ Below w.heap.size w w' := by
  have HO := hid (h.alloc (Obj.cells #[.int .i64 n, r] 26))
  clear h
  go_enter Try.func30, Try.ntmps30
  go_wp2_with (go_at_call 82; refine pur (l_heldI r c k _ HO.out (by omega) (by omega)) ?_)
  go_ret
  exact ⟨rfl, (by refine Ext.bel ?_; repeat (with_reducible first | exact Ext.refl _ | apply Ext.alloc | apply Ext.aft | apply Ext.drew | apply Ext.drewN | apply Ext.setCell | exact Nat.le_add_right _ _ | exact Nat.le_refl _ | (simp; done) | omega))⟩
end Go.Proofs.Ytbkbcbanfnhjpaa
