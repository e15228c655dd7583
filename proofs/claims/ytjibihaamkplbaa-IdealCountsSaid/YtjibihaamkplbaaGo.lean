/- The codes of some functions of this seat's program, compiled for the pure machine. No conditions. -/
import Derived.Test.YtjibihaamkplbaaGf
set_option linter.all false
namespace Go.Proofs.Try.PMT
open Go Go.Proofs.PM Go.Proofs.Try
end Go.Proofs.Try.PMT
