/- The statement FnRingRoots: the program's function returns what the statement says, for all arguments. No condition. -/
import Derived.Test.YtdhnpmjoajaeiaaRows
import Derived.Test.YtdhnpmjoajaeiaaARRingRoots
import Derived.WalkKit
import Derived.ProofKit
import Derived.OpenShut
import Derived.Lib.SmallJoins
namespace Go.Proofs.Ytdhnpmjoajaeiaa
open Go Go.ChangeShapes Go.WideShapes Go.ChangeAt Go.RowKit
set_option linter.unusedVariables false

theorem over_FnRingRoots : Rows.fnRingRootsRow.holds Try.pinned (OpenSpec.ofChange Rows.fnRingRootsSpec) :=
  OpenClaim.holds_of_wide 4 Try.f4 rfl rfl rfl rfl rfl rfl rfl ⟨rfl, rfl, rfl, rfl, rfl⟩ rfl rfl rfl rfl rfl (by kernel_rfl) Try.func4 (by kernel_rfl)
    (of_decide_eq_true (by kernel_rfl)) (by unfold Func.isWrapper; first | (rw [if_pos (by decide +kernel)]; kernel_rfl) | (rw [if_neg (by decide +kernel)]; exact ⟨rfl, rfl⟩))
    (fun os started H enc _ => lifted_FnRingRoots os started H enc)

theorem proved_FnRingRoots : Rows.FnRingRootsSaid := over_FnRingRoots

#print axioms proved_FnRingRoots
end Go.Proofs.Ytdhnpmjoajaeiaa
