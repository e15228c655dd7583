/- Counts of places where a quotient passes that was made to pass at some. No conditions. -/
import Derived.Test.YtjibihaamkplbaaPL19
set_option linter.all false
namespace Go.Proofs.PL
end Go.Proofs.PL
