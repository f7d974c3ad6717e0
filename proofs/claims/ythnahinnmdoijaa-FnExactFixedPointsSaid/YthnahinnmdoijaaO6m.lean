/- Marks in groups. -/
import Derived.Test.YthnahinnmdoijaaP1
import Derived.Test.YthnahinnmdoijaaO0
namespace Go.Proofs.Ythnahinnmdoijaa
open Go Go.RowKit

set_option maxHeartbeats 4000000 in
theorem l_markGr (B : Nat) (n : Int) (r : Value) (xs : List Int) (k : Int) (w : World) (h : ownR B w r xs) (hk : 0 ≤ k ∧ k ≤ 1000000) (hl : xs.length ≤ 1048576) :
    Calls Try.prog 23 #[(.agg #[.int .i64 n, r]), .int .i64 k] w fun e w' => e = .returned (.int .i64 (k + xs.length)) ∧ ownR B w' r (marks k xs.length) ∧ w.grownBy w' r.ownBlock := by
  have HO := hid (h.alloc (Obj.cells #[.int .i64 n, r] 27))
  clear h
  go_enter Try.func23, Try.ntmps23
  go_wp2_with fail
  refine (l_markG B r xs k _ HO.out (by omega) (by omega)).mono ?_
  rintro e w' ⟨rfl, h1, h2⟩
  have H1 := hid h1
  have H2 := hid h2
  clear h1 h2
  go_wp2_with fail
  go_ret
  exact ⟨rfl, H1.out, grownBy_trans (World.grownBy_alloc _ _ _) H2.out⟩
end Go.Proofs.Ythnahinnmdoijaa
