/- The statement FnInverses: the program's function returns what the statement says, for all arguments. No condition. -/
import Derived.Test.YtcillfhkgckiaaaRows
import Derived.Test.YtcillfhkgckiaaaARInverses
import Derived.WalkKit
import Derived.ProofKit
import Derived.OpenShut
import Derived.Lib.SmallJoins
namespace Go.Proofs.Ytcillfhkgckiaaa
open Go Go.ChangeShapes Go.WideShapes Go.ChangeAt Go.RowKit
set_option linter.unusedVariables false

theorem over_FnInverses : Rows.fnInversesRow.holds Try.pinned (OpenSpec.ofChange Rows.fnInversesSpec) :=
  OpenClaim.holds_of_wide 5 Try.f5 rfl rfl rfl rfl rfl rfl rfl ⟨rfl, rfl, rfl, rfl, rfl⟩ rfl rfl rfl rfl rfl (by kernel_rfl) Try.func5 (by kernel_rfl)
    (of_decide_eq_true (by kernel_rfl)) (by unfold Func.isWrapper; first | (rw [if_pos (by decide +kernel)]; kernel_rfl) | (rw [if_neg (by decide +kernel)]; exact ⟨rfl, rfl⟩))
    (fun os started H enc _ => lifted_FnInverses os started H enc)

theorem proved_FnInverses : Rows.FnInversesSaid := over_FnInverses

#print axioms proved_FnInverses
end Go.Proofs.Ytcillfhkgckiaaa
