/- Contracts: primes. -/
import Derived.Test.YthnahinnmdoijaaA1
import Derived.Test.YthnahinnmdoijaaM0
namespace Go.Proofs.Ythnahinnmdoijaa
open Go Go.RowKit

end Go.Proofs.Ythnahinnmdoijaa
