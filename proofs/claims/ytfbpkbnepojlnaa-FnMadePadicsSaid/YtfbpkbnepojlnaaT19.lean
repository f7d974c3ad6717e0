/- The law FnMadePadics, with what came in laid open. -/
import Derived.Test.YtfbpkbnepojlnaaT18
import Derived.Test.YtfbpkbnepojlnaaT12
namespace Go.Proofs.Ytfbpkbnepojlnaa
end Go.Proofs.Ytfbpkbnepojlnaa
