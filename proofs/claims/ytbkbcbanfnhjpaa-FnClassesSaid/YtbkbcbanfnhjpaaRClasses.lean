/- The statement FnClasses: the program's function returns what the statement says, for all arguments. No condition. -/
import Derived.Test.YtbkbcbanfnhjpaaRows
import Derived.Test.YtbkbcbanfnhjpaaARClasses
import Derived.WalkKit
import Derived.ProofKit
import Derived.OpenShut
import Derived.Lib.SmallJoins
namespace Go.Proofs.Ytbkbcbanfnhjpaa
open Go Go.ChangeShapes Go.WideShapes Go.ChangeAt Go.RowKit
set_option linter.unusedVariables false

theorem over_FnClasses : Rows.fnClassesRow.holds Try.pinned (OpenSpec.ofChange Rows.fnClassesSpec) :=
  OpenClaim.holds_of_wide 7 Try.f7 rfl rfl rfl rfl rfl rfl rfl ⟨rfl, rfl, rfl, rfl, rfl⟩ rfl rfl rfl rfl rfl (by kernel_rfl) Try.func7 (by kernel_rfl)
    (of_decide_eq_true (by kernel_rfl)) (by unfold Func.isWrapper; first | (rw [if_pos (by decide +kernel)]; kernel_rfl) | (rw [if_neg (by decide +kernel)]; exact ⟨rfl, rfl⟩))
    (fun os started H enc _ => lifted_FnClasses os started H enc)

theorem proved_FnClasses : Rows.FnClassesSaid := over_FnClasses

#print axioms proved_FnClasses
end Go.Proofs.Ytbkbcbanfnhjpaa
