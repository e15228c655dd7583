/- The law PolyDivides: it answers true. No conditions beyond that its arguments are what can be read. -/
import Derived.Test.YthmkfabfbmkdfaaDoorGj
import Derived.Test.YthmkfabfbmkdfaaDoorGi
import Derived.Test.YthmkfabfbmkdfaaDoorGe
set_option linter.all false
namespace Go.Proofs.Tryd.PMT
open Go Go.Proofs.PM Go.Proofs.PL Go.Proofs.Tryd
set_option maxRecDepth 4000

end Go.Proofs.Tryd.PMT
