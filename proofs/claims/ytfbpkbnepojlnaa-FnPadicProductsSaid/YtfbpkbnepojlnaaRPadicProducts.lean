/- The statement FnPadicProducts: the program's function returns what the statement says, for all arguments. No condition. -/
import Derived.Test.YtfbpkbnepojlnaaRows
import Derived.Test.YtfbpkbnepojlnaaARPadicProducts
import Derived.WalkKit
import Derived.ProofKit
import Derived.OpenShut
import Derived.Lib.SmallJoins
namespace Go.Proofs.Ytfbpkbnepojlnaa
open Go Go.ChangeShapes Go.WideShapes Go.ChangeAt Go.RowKit
set_option linter.unusedVariables false

theorem over_FnPadicProducts : Rows.fnPadicProductsRow.holds Try.pinned (OpenSpec.ofChange Rows.fnPadicProductsSpec) :=
  OpenClaim.holds_of_wide 5 Try.f5 rfl rfl rfl rfl rfl rfl rfl ⟨rfl, rfl, rfl, rfl, rfl⟩ rfl rfl rfl rfl rfl (by kernel_rfl) Try.func5 (by kernel_rfl)
    (of_decide_eq_true (by kernel_rfl)) (by unfold Func.isWrapper; first | (rw [if_pos (by decide +kernel)]; kernel_rfl) | (rw [if_neg (by decide +kernel)]; exact ⟨rfl, rfl⟩))
    (fun os started H enc _ => lifted_FnPadicProducts os started H enc)

theorem proved_FnPadicProducts : Rows.FnPadicProductsSaid := over_FnPadicProducts

#print axioms proved_FnPadicProducts
end Go.Proofs.Ytfbpkbnepojlnaa
