/- The statement FnExactConjugateGroup: the program's function returns what the statement says, for all arguments. No condition. -/
import Derived.Test.YtbifkabjkpljjaaRows
import Derived.Test.YtbifkabjkpljjaaARExactConjugateGroup
import Derived.WalkKit
import Derived.ProofKit
import Derived.OpenShut
import Derived.Lib.SmallJoins
namespace Go.Proofs.Ytbifkabjkpljjaa
open Go Go.ChangeShapes Go.WideShapes Go.ChangeAt Go.RowKit
set_option linter.unusedVariables false

theorem over_FnExactConjugateGroup : Rows.fnExactConjugateGroupRow.holds Try.pinned (OpenSpec.ofChange Rows.fnExactConjugateGroupSpec) :=
  OpenClaim.holds_of_wide 6 Try.f6 rfl rfl rfl rfl rfl rfl rfl ⟨rfl, rfl, rfl, rfl, rfl⟩ rfl rfl rfl rfl rfl (by kernel_rfl) Try.func6 (by kernel_rfl)
    (of_decide_eq_true (by kernel_rfl)) (by unfold Func.isWrapper; first | (rw [if_pos (by decide +kernel)]; kernel_rfl) | (rw [if_neg (by decide +kernel)]; exact ⟨rfl, rfl⟩))
    (fun os started H enc _ => lifted_FnExactConjugateGroup os started H enc)

theorem proved_FnExactConjugateGroup : Rows.FnExactConjugateGroupSaid := over_FnExactConjugateGroup

#print axioms proved_FnExactConjugateGroup
end Go.Proofs.Ytbifkabjkpljjaa
