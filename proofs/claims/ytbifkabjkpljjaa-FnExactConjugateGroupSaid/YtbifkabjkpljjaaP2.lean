/- IsGroup, CountElements: the laws. -/
import Derived.Test.YtbifkabjkpljjaaP1
namespace Go.Proofs.Ytbifkabjkpljjaa
open Go Go.RowKit

theorem i_size (r : Value) (xs : List Int) (w : World) (h : rdI w r xs) :
    Calls Try.prog 65 #[r] w fun e w' => e = .returned (.int .i64 xs.length) ∧ w = w' := by
  obtain ⟨a, cap, rfl, hm, _⟩ := h
  unfold maxLen at hm
  go_enter Try.func65, Try.ntmps65
  go_wp2
  go_ret
  exact ⟨rfl, rfl⟩
def countF (n : Int) (xs : List Int) : Int × Int := if groupB n xs = true then ((xs.length : Int), 0) else (0, 1)
theorem i_IsGroupE (n : Int) (r : Value) (rs : List Int) (w : World) (b : Bool) (h : rdI w r rs) (hl : rs.length ≤ 1048576) (hb : groupB n rs = b) :
    Calls Try.prog 26 #[(.agg #[.int .i64 n, r])] w fun e w' => e = .returned (.bool b) ∧ Below w.heap.size w w' := by subst hb; exact i_IsGroup n r rs w h hl
theorem s_IsGroupE (n : Int) (r : Value) (rs : List Int) (w : World) (b : Bool) (h : rdI w r rs) (hl : rs.length ≤ 1048576) (hb : groupB n rs = b) :
    Calls Try.prog 24 #[(.agg #[.int .i64 n, r])] w fun e w' => e = .returned (.bool b) ∧ Below w.heap.size w w' := by subst hb; exact s_IsGroup n r rs w h hl
end Go.Proofs.Ytbifkabjkpljjaa
