/- Roots by a prime, of which only the number is told. -/
import Derived.Test.YtdhnpmjoajaeiaaZE
namespace Go.Proofs.Ytdhnpmjoajaeiaa
open Go Go.RowKit

end Go.Proofs.Ytdhnpmjoajaeiaa
