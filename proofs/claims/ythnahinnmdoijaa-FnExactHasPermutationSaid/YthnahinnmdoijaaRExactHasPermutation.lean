/- The statement FnExactHasPermutation: the program's function returns what the statement says, for all arguments. No condition. -/
import Derived.Test.YthnahinnmdoijaaRows
import Derived.Test.YthnahinnmdoijaaARExactHasPermutation
import Derived.WalkKit
import Derived.ProofKit
import Derived.OpenShut
import Derived.Lib.SmallJoins
namespace Go.Proofs.Ythnahinnmdoijaa
open Go Go.ChangeShapes Go.WideShapes Go.ChangeAt Go.RowKit
set_option linter.unusedVariables false

theorem over_FnExactHasPermutation : Rows.fnExactHasPermutationRow.holds Try.pinned (OpenSpec.ofChange Rows.fnExactHasPermutationSpec) :=
  OpenClaim.holds_of_wide 6 Try.f6 rfl rfl rfl rfl rfl rfl rfl ⟨rfl, rfl, rfl, rfl, rfl⟩ rfl rfl rfl rfl rfl (by kernel_rfl) Try.func6 (by kernel_rfl)
    (of_decide_eq_true (by kernel_rfl)) (by unfold Func.isWrapper; first | (rw [if_pos (by decide +kernel)]; kernel_rfl) | (rw [if_neg (by decide +kernel)]; exact ⟨rfl, rfl⟩))
    (fun os started H enc _ => lifted_FnExactHasPermutation os started H enc)

theorem proved_FnExactHasPermutation : Rows.FnExactHasPermutationSaid := over_FnExactHasPermutation

#print axioms proved_FnExactHasPermutation
end Go.Proofs.Ythnahinnmdoijaa
