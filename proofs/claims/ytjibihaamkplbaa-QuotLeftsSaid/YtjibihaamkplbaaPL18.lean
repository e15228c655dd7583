/- Mixes of polynomials, what holds, counts. No conditions. -/
import Derived.Test.YtjibihaamkplbaaPL16
import Derived.Test.YtjibihaamkplbaaGk
set_option linter.all false
namespace Go.Proofs.PL
end Go.Proofs.PL
