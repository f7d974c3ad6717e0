/- Images: both texts, the law. -/
import Derived.Test.YtdhnpmjoajaeiaaH4
namespace Go.Proofs.Ytdhnpmjoajaeiaa
open Go Go.RowKit

def imgF (p n : Int) (xs : List Int) : List Int × Int := if inRingB p n xs = true then (redF p xs, 0) else ([], 1)
theorem redF_len (m : Int) (xs : List Int) : (redF m xs).length ≤ xs.length := by unfold redF; have := trimF_len (xs.map (· % m)); simpa using this

end Go.Proofs.Ytdhnpmjoajaeiaa
