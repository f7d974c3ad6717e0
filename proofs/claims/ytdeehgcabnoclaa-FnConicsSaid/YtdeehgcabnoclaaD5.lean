/- MultiplyPadics: the law. -/
import Derived.Test.YtdeehgcabnoclaaD4
import Derived.Test.YtdeehgcabnoclaaB6
namespace Go.Proofs.Ytdeehgcabnoclaa
open Go Go.RowKit

end Go.Proofs.Ytdeehgcabnoclaa
