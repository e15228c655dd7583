/- The law PolyDivides: it answers true. No conditions beyond that its arguments are what can be read. -/
import Derived.Test.YtjibihaamkplbaaGj
import Derived.Test.YtjibihaamkplbaaGi
import Derived.Test.YtjibihaamkplbaaGe
set_option linter.all false
namespace Go.Proofs.Try.PMT
open Go Go.Proofs.PM Go.Proofs.PL Go.Proofs.Try
set_option maxRecDepth 4000

theorem c_r12_Divide {a b : List F} (ha : a.length ≤ 4398046511104) (hb : b.length ≤ 4398046511104) {K : PV → List Ob → Prop}
    (hK : ∀ q r e, (q, r, e) = dv a b → K (.tup [.osl 0 [] 0 q.length, .osl 1 [] 0 r.length, i64 e]) [.row 28 (.arr 4 .one) (ffs q), .row 28 (.arr 4 .one) (ffs r)]) : PSpec prog 49 [.vsl false (.arr 4 .one) (ffs a), .vsl false (.arr 4 .one) (ffs b)] [] K := by
  refine k_r12_Divide ha hb (fun h => ?_) (fun h q r e => ?_)
  · exact hK [] [] 7 (by rw [dv, if_pos h])
  · refine hK (cut q) (cut r) 0 ?_
    rw [dv_G a b h, ← e]

end Go.Proofs.Try.PMT
