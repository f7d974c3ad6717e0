/- Lifts of roots: the law, beside what opens a slice of bytes. -/
import Derived.Test.YtganmeiaflkkoaaZK
import Derived.Test.YtganmeiaflkkoaaT12
namespace Go.Proofs.Ytganmeiaflkkoaa
open Go Go.RowKit

end Go.Proofs.Ytganmeiaflkkoaa
