/- The law PolyRing: it answers true. No conditions beyond that its arguments are what can be read. -/
import Derived.Test.YthmkfabfbmkdfaaDoorGl
import Derived.Test.YthmkfabfbmkdfaaDoorWDiv
set_option linter.all false
namespace Go.Proofs.Tryd.PMT
open Go Go.Proofs.PM Go.Proofs.PL Go.Proofs.Tryd
set_option maxRecDepth 4000

theorem k_poly_pm {a b : List F} (ha : a.length ≤ 200) (hb : b.length ≤ 200) {K : PV → List Ob → Prop} (hK : K (.tup [.osl 0 [] 0 (pm a b).length, i64 0]) [.row 33 (.arr 4 .one) (ffs (pm a b))]) : PSpec prog 87 [.vsl false (.arr 4 .one) (ffs a), .vsl false (.arr 4 .one) (ffs b)] [] K := by
  have h1 := cut_le a
  have h2 := cut_le b
  have hl := pm_len a b
  refine k_poly_Mul (by omega) (by omega) (fun h => ?_) (fun _ _ h => absurd h (by omega)) (fun n1 n2 _ => ?_)
  · rw [pm, if_pos h] at hK
    exact hK
  · have h : ¬ ((cut a).length = 0 ∨ (cut b).length = 0) := fun h => h.elim n1 n2
    rw [if_neg h] at hl
    rw [hl] at hK
    rw [pm, if_neg h] at hK
    exact hK

end Go.Proofs.Tryd.PMT
