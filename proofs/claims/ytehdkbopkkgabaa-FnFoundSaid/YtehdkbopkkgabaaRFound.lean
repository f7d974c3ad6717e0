/- The statement FnFound: the program's function returns what the statement says, for all arguments. No condition. -/
import Derived.Test.YtehdkbopkkgabaaRows
import Derived.Test.YtehdkbopkkgabaaARFound
import Derived.WalkKit
import Derived.ProofKit
import Derived.OpenShut
import Derived.Lib.SmallJoins
namespace Go.Proofs.Ytehdkbopkkgabaa
open Go Go.ChangeShapes Go.WideShapes Go.ChangeAt Go.RowKit
set_option linter.unusedVariables false

theorem over_FnFound : Rows.fnFoundRow.holds Try.pinned (OpenSpec.ofChange Rows.fnFoundSpec) :=
  OpenClaim.holds_of_wide 6 Try.f6 rfl rfl rfl rfl rfl rfl rfl ⟨rfl, rfl, rfl, rfl, rfl⟩ rfl rfl rfl rfl rfl (by kernel_rfl) Try.func6 (by kernel_rfl)
    (of_decide_eq_true (by kernel_rfl)) (by unfold Func.isWrapper; first | (rw [if_pos (by decide +kernel)]; kernel_rfl) | (rw [if_neg (by decide +kernel)]; exact ⟨rfl, rfl⟩))
    (fun os started H enc _ => lifted_FnFound os started H enc)

theorem proved_FnFound : Rows.FnFoundSaid := over_FnFound

#print axioms proved_FnFound
end Go.Proofs.Ytehdkbopkkgabaa
