/- The law PolyRing: it answers true. No conditions beyond that its arguments are what can be read. -/
import Derived.Test.YtjibihaamkplbaaGl
import Derived.Test.YtjibihaamkplbaaWDiv
set_option linter.all false
namespace Go.Proofs.Try.PMT
open Go Go.Proofs.PM Go.Proofs.PL Go.Proofs.Try
set_option maxRecDepth 4000

end Go.Proofs.Try.PMT
