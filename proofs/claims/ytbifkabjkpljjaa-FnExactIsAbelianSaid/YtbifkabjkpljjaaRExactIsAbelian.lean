/- The statement FnExactIsAbelian: the program's function returns what the statement says, for all arguments. No condition. -/
import Derived.Test.YtbifkabjkpljjaaRows
import Derived.Test.YtbifkabjkpljjaaARExactIsAbelian
import Derived.WalkKit
import Derived.ProofKit
import Derived.OpenShut
import Derived.Lib.SmallJoins
namespace Go.Proofs.Ytbifkabjkpljjaa
open Go Go.ChangeShapes Go.WideShapes Go.ChangeAt Go.RowKit
set_option linter.unusedVariables false

theorem over_FnExactIsAbelian : Rows.fnExactIsAbelianRow.holds Try.pinned (OpenSpec.ofChange Rows.fnExactIsAbelianSpec) :=
  OpenClaim.holds_of_wide 5 Try.f5 rfl rfl rfl rfl rfl rfl rfl ⟨rfl, rfl, rfl, rfl, rfl⟩ rfl rfl rfl rfl rfl (by kernel_rfl) Try.func5 (by kernel_rfl)
    (of_decide_eq_true (by kernel_rfl)) (by unfold Func.isWrapper; first | (rw [if_pos (by decide +kernel)]; kernel_rfl) | (rw [if_neg (by decide +kernel)]; exact ⟨rfl, rfl⟩))
    (fun os started H enc _ => lifted_FnExactIsAbelian os started H enc)

theorem proved_FnExactIsAbelian : Rows.FnExactIsAbelianSaid := over_FnExactIsAbelian

#print axioms proved_FnExactIsAbelian
end Go.Proofs.Ytbifkabjkpljjaa
