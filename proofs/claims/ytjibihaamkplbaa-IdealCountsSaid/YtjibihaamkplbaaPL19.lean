/- Which mixes are multiples of X^2 - 1. No conditions. -/
import Derived.Test.YtjibihaamkplbaaPL18
import Derived.Test.YtjibihaamkplbaaPL16
set_option linter.all false
namespace Go.Proofs.PL
set_option maxRecDepth 4000
/-- The polynomials' values at z: the mixes' value, ap a polynomial in a. -/
def hz (gs : List (List F)) (z : F) : List F := gs.map (hor z)
theorem cntS_filter (h : F → Bool) (l : List F) : ∀ i, i ≤ l.length → cntS h l i = ((l.take i).filter h).length
  | 0, _ => by simp [cntS]
  | i + 1, hi => by
    have ih := cntS_filter h l i (by omega)
    have hg : l.getD i 0 = l[i]'(by omega) := by rw [List.getD_eq_getElem?_getD, List.getElem?_eq_getElem (by omega)]; rfl
    rw [List.take_add_one, List.getElem?_eq_getElem (by omega), List.filter_append, List.length_append, ← ih]
    simp only [cntS, hg, Option.toList_some]
    cases hq : h (l[i]'(by omega)) <;> simp [hq]
theorem nodup_of {ap : List F} (h : ∀ b, b < ap.length → ∀ a, a < b → ap.getD a 0 ≠ ap.getD b 0) : ap.Nodup := by
  rw [List.nodup_iff_pairwise_ne, List.pairwise_iff_getElem]
  intro a b ha hb hab
  have := h b hb a hab
  rwa [List.getD_eq_getElem?_getD, List.getElem?_eq_getElem ha, List.getD_eq_getElem?_getD, List.getElem?_eq_getElem hb] at this
end Go.Proofs.PL
