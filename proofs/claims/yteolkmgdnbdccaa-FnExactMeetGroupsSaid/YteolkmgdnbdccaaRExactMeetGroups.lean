/- The statement FnExactMeetGroups: the program's function returns what the statement says, for all arguments. No condition. -/
import Derived.Test.YteolkmgdnbdccaaRows
import Derived.Test.YteolkmgdnbdccaaARExactMeetGroups
import Derived.WalkKit
import Derived.ProofKit
import Derived.OpenShut
import Derived.Lib.SmallJoins
namespace Go.Proofs.Yteolkmgdnbdccaa
open Go Go.ChangeShapes Go.WideShapes Go.ChangeAt Go.RowKit
set_option linter.unusedVariables false

theorem over_FnExactMeetGroups : Rows.fnExactMeetGroupsRow.holds Try.pinned (OpenSpec.ofChange Rows.fnExactMeetGroupsSpec) :=
  OpenClaim.holds_of_wide 7 Try.f7 rfl rfl rfl rfl rfl rfl rfl ⟨rfl, rfl, rfl, rfl, rfl⟩ rfl rfl rfl rfl rfl (by kernel_rfl) Try.func7 (by kernel_rfl)
    (of_decide_eq_true (by kernel_rfl)) (by unfold Func.isWrapper; first | (rw [if_pos (by decide +kernel)]; kernel_rfl) | (rw [if_neg (by decide +kernel)]; exact ⟨rfl, rfl⟩))
    (fun os started H enc _ => lifted_FnExactMeetGroups os started H enc)

theorem proved_FnExactMeetGroups : Rows.FnExactMeetGroupsSaid := over_FnExactMeetGroups

#print axioms proved_FnExactMeetGroups
end Go.Proofs.Yteolkmgdnbdccaa
