/- FromDigits: the law. -/
import Derived.Test.YtdnfefkkbckmgaaGreatDoorF2
namespace Go.Proofs.YtdnfefkkbckmgaaGreatDoor
open Go Go.RowKit

end Go.Proofs.YtdnfefkkbckmgaaGreatDoor
