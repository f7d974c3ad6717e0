/- Roots in rings: the law, beside what opens a slice of bytes. -/
import Derived.Test.YtdhnpmjoajaeiaaSV
import Derived.Test.YtdhnpmjoajaeiaaT12
namespace Go.Proofs.Ytdhnpmjoajaeiaa
open Go Go.RowKit

end Go.Proofs.Ytdhnpmjoajaeiaa
