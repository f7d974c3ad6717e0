/- The law FnPadicSums, with what came in laid open. -/
import Derived.Test.YtfbpkbnepojlnaaT11
import Derived.Test.YtfbpkbnepojlnaaT12
namespace Go.Proofs.Ytfbpkbnepojlnaa
end Go.Proofs.Ytfbpkbnepojlnaa
