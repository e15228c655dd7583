/- Contracts of lagrange.Z, intaglioref12.Z, ideal.may, Holds, intagliolaw30.multiple. No conditions beyond what each names. -/
import Derived.Test.YtjibihaamkplbaaGl
import Derived.Test.YtjibihaamkplbaaWDiv
import Derived.Test.YtjibihaamkplbaaGp
import Derived.Test.YtjibihaamkplbaaPCI
import Derived.Test.YtjibihaamkplbaaPV7
import Derived.Test.YtjibihaamkplbaaPL18
set_option linter.all false
namespace Go.Proofs.Try.PMT
open Go Go.Proofs.PM Go.Proofs.PL Go.Proofs.Try
set_option maxRecDepth 4000
end Go.Proofs.Try.PMT
