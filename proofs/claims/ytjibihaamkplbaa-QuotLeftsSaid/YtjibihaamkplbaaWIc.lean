/- The contract of intagliolaw30.begun. No conditions. -/
import Derived.Test.YtjibihaamkplbaaWIb
set_option linter.all false
namespace Go.Proofs.Try.PMT
open Go Go.Proofs.PM Go.Proofs.PL Go.Proofs.Try
set_option maxRecDepth 4000
end Go.Proofs.Try.PMT
