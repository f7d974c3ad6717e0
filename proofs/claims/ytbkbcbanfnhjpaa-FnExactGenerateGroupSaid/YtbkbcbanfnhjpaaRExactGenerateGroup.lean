/- The statement FnExactGenerateGroup: the program's function returns what the statement says, for all arguments. No condition. -/
import Derived.Test.YtbkbcbanfnhjpaaRows
import Derived.Test.YtbkbcbanfnhjpaaARExactGenerateGroup
import Derived.WalkKit
import Derived.ProofKit
import Derived.OpenShut
import Derived.Lib.SmallJoins
namespace Go.Proofs.Ytbkbcbanfnhjpaa
open Go Go.ChangeShapes Go.WideShapes Go.ChangeAt Go.RowKit
set_option linter.unusedVariables false

theorem over_FnExactGenerateGroup : Rows.fnExactGenerateGroupRow.holds Try.pinned (OpenSpec.ofChange Rows.fnExactGenerateGroupSpec) :=
  OpenClaim.holds_of_wide 4 Try.f4 rfl rfl rfl rfl rfl rfl rfl ⟨rfl, rfl, rfl, rfl, rfl⟩ rfl rfl rfl rfl rfl (by kernel_rfl) Try.func4 (by kernel_rfl)
    (of_decide_eq_true (by kernel_rfl)) (by unfold Func.isWrapper; first | (rw [if_pos (by decide +kernel)]; kernel_rfl) | (rw [if_neg (by decide +kernel)]; exact ⟨rfl, rfl⟩))
    (fun os started H enc _ => lifted_FnExactGenerateGroup os started H enc)

theorem proved_FnExactGenerateGroup : Rows.FnExactGenerateGroupSaid := over_FnExactGenerateGroup

#print axioms proved_FnExactGenerateGroup
end Go.Proofs.Ytbkbcbanfnhjpaa
