/- Four scalars as an argument of a row. No conditions. -/
import Derived.Test.YthmkfabfbmkdfaaDoorGd
set_option linter.all false
namespace Go.Proofs.PM
open Go Go.ChangeShapes Go.WideShapes
section
variable {H : Type} {enc : TypeId × Value → H} {P : Program} {w : World} {base : Nat} {spare : Nat → Bool} {held : Bool}
theorem rd_fr4 {q t e : TypeId} {fuel : Nat} {cs : List Value} {x : DataW H × List MemPlace} (hq : P.underlying q = some (.array 4 t)) (ht : P.underlying t = some (.array 4 e)) (he : P.underlying e = some (.int .u64)) (c16 : P.cellsOf q = 16) (c4 : P.cellsOf t = 4) (c1 : P.cellsOf e = 1)
    (h : DataW.trod enc P w base spare held fuel q cs = some x) : cs.length = 16 ∧ ∃ n0 n1 n2 n3 : Int, rawOk n0 ∧ rawOk n1 ∧ rawOk n2 ∧ rawOk n3 ∧ ∀ E, RF E (.agg [fr n0, fr n1, fr n2, fr n3]) cs := by
  obtain ⟨xs, m, _, _, hl, hx, hi⟩ := DataW.trod_array hq h
  rw [c16] at hl
  refine ⟨hl, ?_⟩
  have g : ∀ i, i < 4 → ∃ n : Int, rawOk n ∧ ∀ E, RF E (fr n) ((cs.drop (i * 4)).take 4) := fun i hi4 => by
    have h1 := hi i hi4
    rw [c4, List.getElem?_eq_getElem (by omega)] at h1
    exact (rd_fr ht he c4 c1 h1).2
  obtain ⟨n0, b0, r0⟩ := g 0 (by decide)
  obtain ⟨n1, b1, r1⟩ := g 1 (by decide)
  obtain ⟨n2, b2, r2⟩ := g 2 (by decide)
  obtain ⟨n3, b3, r3⟩ := g 3 (by decide)
  refine ⟨n0, n1, n2, n3, b0, b1, b2, b3, fun E => ?_⟩
  simp only [RF, RC]
  have e3 : ((cs.drop 12).take 4) ++ [] = cs.drop 12 := by rw [List.append_nil, List.take_of_length_le (by rw [List.length_drop]; omega)]
  have sp : ∀ k : Nat, (cs.drop k).take 4 ++ cs.drop (k + 4) = cs.drop k := fun k => by
    have := List.take_append_drop 4 (cs.drop k)
    rwa [List.drop_drop] at this
  exact ⟨_, cs.drop 4, by simp, r0 E, _, cs.drop 8, (sp 4).symm, r1 E, _, cs.drop 12, (sp 8).symm, r2 E, _, [], e3.symm, r3 E, rfl⟩
theorem arg_fr4 {q t e : TypeId} {v : Value} {d : DataW H} {ps : List MemPlace} (hq : P.underlying q = some (.array 4 t)) (ht : P.underlying t = some (.array 4 e)) (he : P.underlying e = some (.int .u64)) (c16 : P.cellsOf q = 16) (c4 : P.cellsOf t = 4) (c1 : P.cellsOf e = 1)
    (h : DataW.Trod enc P w base spare held q v d ps) : ∃ n0 n1 n2 n3 : Int, rawOk n0 ∧ rawOk n1 ∧ rawOk n2 ∧ rawOk n3 ∧ ∀ E, R E (.agg [fr n0, fr n1, fr n2, fr n3]) v := by
  obtain ⟨fuel, h⟩ := h
  obtain ⟨hl, n0, n1, n2, n3, b0, b1, b2, b3, hr⟩ := rd_fr4 hq ht he c16 c4 c1 h
  refine ⟨n0, n1, n2, n3, b0, b1, b2, b3, fun E => ?_⟩
  cases v with
  | agg cs =>
    have h1 := hr E
    simp only [R, RF, Value.cells] at h1 ⊢
    exact ⟨cs, rfl, h1⟩
  | _ => simp [Value.cells] at hl
end
end Go.Proofs.PM
