/- Which mixes are multiples of X^2 - 1. No conditions. -/
import Derived.Test.YtjibihaamkplbaaPL18
import Derived.Test.YtjibihaamkplbaaPL16
set_option linter.all false
namespace Go.Proofs.PL
set_option maxRecDepth 4000
/-- The polynomials' values at z: the mixes' value, ap a polynomial in a. -/
def hz (gs : List (List F)) (z : F) : List F := gs.map (hor z)
end Go.Proofs.PL
