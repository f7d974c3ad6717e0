/- Contracts: primes. -/
import Derived.Test.YtbifkabjkpljjaaA1
import Derived.Test.YtbifkabjkpljjaaM0
namespace Go.Proofs.Ytbifkabjkpljjaa
open Go Go.RowKit

end Go.Proofs.Ytbifkabjkpljjaa
