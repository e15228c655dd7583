/- The listed tables stand: what the walks ask of the world. No conditions. -/
import Derived.Test.YthmkfabfbmkdfaaDoorGd
import Derived.Test.YthmkfabfbmkdfaaDoorGf
import Derived.Test.YthmkfabfbmkdfaaDoorRows
import Derived.LaidMore
import Derived.LaidLaws
import Derived.MakeChecks
set_option linter.all false
namespace Go.Proofs.Tryd.PMT
open Go Go.Proofs.PM Go.Proofs.Tryd Go.Proofs.YthmkfabfbmkdfaaDoor
abbrev laidL : List (String × DataW Unit) := [("math/bits.deBruijn32tab", Rows.laid_math_bits_deBruijn32tab), ("math/bits.deBruijn64tab", Rows.laid_math_bits_deBruijn64tab)]
theorem g64 : prog.globalNamed "math/bits.deBruijn64tab" = some 1 := by kernel_rfl
theorem t64 : (prog.globals[1]?).map (·.type) = some 93 := by kernel_rfl
theorem gok_of_laid {W : World} (h : laidMetH prog laidL W) : GOK W [] := by
  rw [MakeChecks.laidMetH_plain _ _ _ (by kernel_rfl)] at h
  obtain ⟨ps, ⟨g0, t0, cs0, f0, p0, q0, hg0, ht0, hv0, hd0, ⟨g1, t1, cs1, f1, p1, q1, hg1, ht1, hv1, hd1, _, _⟩, _⟩, _, _⟩ := h
  obtain rfl := Option.some.inj (g64.symm.trans hg1)
  obtain rfl := Option.some.inj (t64.symm.trans ht1)
  refine gok_of rfl (by simp [tzTab]) (fun i => World.var?_cell hg1 hv1 i) ?_
  exact tab_cells (l := tzTab) Tryd.underlying93 Tryd.underlying5 (by kernel_rfl) hd1
theorem door_met (os : Os) (args : Array Value) : laidMetH prog laidL ((World.doorLaid prog 400 os).forCall (fun _ _ => 0) ⟨#[], args, []⟩).memory :=
  laidMetH_of_parts3 (fuel := 8) (laidMet_of_run' 8 (by kernel_rfl) (by kernel_rfl)) (by kernel_rfl) (by kernel_rfl)
end Go.Proofs.Tryd.PMT
