/- MultiplyPadics: the law. -/
import Derived.Test.YtehdkbopkkgabaaD4
import Derived.Test.YtehdkbopkkgabaaB6
namespace Go.Proofs.Ytehdkbopkkgabaa
open Go Go.RowKit

end Go.Proofs.Ytehdkbopkkgabaa
