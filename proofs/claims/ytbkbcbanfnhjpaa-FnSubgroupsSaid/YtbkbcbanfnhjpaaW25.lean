/- Even parts, centers and meetings of groups: the law. -/
import Derived.Test.YtbkbcbanfnhjpaaW24
import Derived.Test.YtbkbcbanfnhjpaaV11
import Derived.Test.YtbkbcbanfnhjpaaT12
namespace Go.Proofs.Ytbkbcbanfnhjpaa
open Go Go.RowKit

theorem law_Subgroups (a : Option Addr) (len cap : Nat) (w : World) (h : rdB w.heap.size w a len) :
    Calls Try.prog 3 #[.slice a len cap] w fun e w' => e = .returned (.bool true) ∧ Below w.heap.size w w' :=
  law_SubgroupsD s_DrawMeetGroups a len cap w h
end Go.Proofs.Ytbkbcbanfnhjpaa
