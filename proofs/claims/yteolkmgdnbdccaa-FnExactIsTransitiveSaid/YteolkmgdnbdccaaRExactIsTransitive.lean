/- The statement FnExactIsTransitive: the program's function returns what the statement says, for all arguments. No condition. -/
import Derived.Test.YteolkmgdnbdccaaRows
import Derived.Test.YteolkmgdnbdccaaARExactIsTransitive
import Derived.WalkKit
import Derived.ProofKit
import Derived.OpenShut
import Derived.Lib.SmallJoins
namespace Go.Proofs.Yteolkmgdnbdccaa
open Go Go.ChangeShapes Go.WideShapes Go.ChangeAt Go.RowKit
set_option linter.unusedVariables false

theorem over_FnExactIsTransitive : Rows.fnExactIsTransitiveRow.holds Try.pinned (OpenSpec.ofChange Rows.fnExactIsTransitiveSpec) :=
  OpenClaim.holds_of_wide 4 Try.f4 rfl rfl rfl rfl rfl rfl rfl ⟨rfl, rfl, rfl, rfl, rfl⟩ rfl rfl rfl rfl rfl (by kernel_rfl) Try.func4 (by kernel_rfl)
    (of_decide_eq_true (by kernel_rfl)) (by unfold Func.isWrapper; first | (rw [if_pos (by decide +kernel)]; kernel_rfl) | (rw [if_neg (by decide +kernel)]; exact ⟨rfl, rfl⟩))
    (fun os started H enc _ => lifted_FnExactIsTransitive os started H enc)

theorem proved_FnExactIsTransitive : Rows.FnExactIsTransitiveSaid := over_FnExactIsTransitive

#print axioms proved_FnExactIsTransitive
end Go.Proofs.Yteolkmgdnbdccaa
