/- Draws: a ring and a polynomial in it, rarely one that is none. (Printed by mkZ5.py.) -/
import Derived.Test.YtdhnpmjoajaeiaaZ4
namespace Go.Proofs.Ytdhnpmjoajaeiaa
open Go Go.RowKit

end Go.Proofs.Ytdhnpmjoajaeiaa
