/- Contracts: primes. -/
import Derived.Test.YteolkmgdnbdccaaA1
import Derived.Test.YteolkmgdnbdccaaM0
namespace Go.Proofs.Yteolkmgdnbdccaa
open Go Go.RowKit

end Go.Proofs.Yteolkmgdnbdccaa
