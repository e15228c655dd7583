/- Arrays of scalars, and structs of six, as arguments of a row. No conditions. -/
import Derived.Test.YtjibihaamkplbaaGd
set_option linter.all false
namespace Go.Proofs.PM
open Go Go.ChangeShapes Go.WideShapes
theorem RC_chunks : ∀ (n : Nat) (cs : List Value), cs.length = n * 4 → (∀ i, i < n → ∃ k : Int, rawOk k ∧ ∀ E, RF E (fr k) ((cs.drop (i * 4)).take 4)) → ∃ l : List Int, l.length = n ∧ (∀ x, x ∈ l → rawOk x) ∧ ∀ E, RC E (frs l) cs
  | 0, cs, hl, _ => ⟨[], rfl, fun x hx => (nomatch hx), fun E => by
    have : cs = [] := List.eq_nil_of_length_eq_zero (by omega)
    rw [this]; simp [frs, RC]⟩
  | n + 1, cs, hl, h => by
    obtain ⟨k, hk, hr⟩ := h 0 (by omega)
    obtain ⟨l, l1, l2, l3⟩ := RC_chunks n (cs.drop 4) (by rw [List.length_drop]; omega) fun i hi => by
      obtain ⟨k, hk, hr⟩ := h (i + 1) (by omega)
      refine ⟨k, hk, fun E => ?_⟩
      have := hr E
      rw [List.drop_drop, show 4 + i * 4 = (i + 1) * 4 by omega]
      exact this
    refine ⟨k :: l, by simp [l1], fun x hx => ?_, fun E => ?_⟩
    · rcases List.mem_cons.1 hx with rfl | hx
      · exact hk
      · exact l2 x hx
    · have := hr E
      simp only [Nat.zero_mul, List.drop_zero] at this
      simp only [frs, List.map_cons, RC]
      exact ⟨cs.take 4, cs.drop 4, (List.take_append_drop 4 cs).symm, this, l3 E⟩
section
variable {H : Type} {enc : TypeId × Value → H} {P : Program} {w : World} {base : Nat} {spare : Nat → Bool} {held : Bool}
theorem agg_of {l : List PV} {v : Value} (hl : v.cells.size ≠ 1) (h : ∀ E, RC E l v.cells.toList) : ∀ E, R E (.agg l) v := fun E => by
  cases v with
  | agg cs =>
    have h1 := h E
    simp only [R, Value.cells] at h1 ⊢
    exact ⟨cs, rfl, h1⟩
  | _ => simp [Value.cells] at hl
theorem arg_frn {n : Nat} {q t e : TypeId} {v : Value} {d : DataW H} {ps : List MemPlace} (hn : 2 ≤ n) (hq : P.underlying q = some (.array n t)) (ht : P.underlying t = some (.array 4 e)) (he : P.underlying e = some (.int .u64)) (cq : P.cellsOf q = n * 4) (c4 : P.cellsOf t = 4) (c1 : P.cellsOf e = 1)
    (h : DataW.Trod enc P w base spare held q v d ps) : ∃ l : List Int, l.length = n ∧ (∀ x, x ∈ l → rawOk x) ∧ ∀ E, R E (.agg (frs l)) v := by
  obtain ⟨fuel, h⟩ := h
  obtain ⟨xs, m, _, _, hl, hx, hi⟩ := DataW.trod_array hq h
  rw [cq] at hl
  obtain ⟨l, l1, l2, l3⟩ := RC_chunks n _ hl fun i hin => by
    have h1 := hi i hin
    rw [c4, List.getElem?_eq_getElem (by omega)] at h1
    exact (rd_fr ht he c4 c1 h1).2
  exact ⟨l, l1, l2, agg_of (by have : v.cells.size = n * 4 := (by simpa using hl); omega) l3⟩
theorem arg_frS {n : Nat} {q t e : TypeId} {fs : Array Field} {v : Value} {d : DataW H} {ps : List MemPlace} (hn : 2 ≤ n) (hq : P.underlying q = some (.struct fs)) (hfs : fs.toList.map (fun f => (f.type, f.offset)) = (List.range n).map fun i => (t, i * 4)) (ht : P.underlying t = some (.array 4 e)) (he : P.underlying e = some (.int .u64)) (cq : P.cellsOf q = n * 4) (c4 : P.cellsOf t = 4) (c1 : P.cellsOf e = 1)
    (h : DataW.Trod enc P w base spare held q v d ps) : ∃ l : List Int, l.length = n ∧ (∀ x, x ∈ l → rawOk x) ∧ ∀ E, R E (.agg (frs l)) v := by
  obtain ⟨fuel, h⟩ := h
  obtain ⟨xs, m, _, _, hl, hx, hi⟩ := DataW.trod_struct hq h
  rw [cq] at hl
  obtain ⟨l, l1, l2, l3⟩ := RC_chunks n _ hl fun i hin => by
    have hsz : fs.toList.length = n := by simpa using congrArg List.length hfs
    have hi2 : i < fs.toList.length := by omega
    have hf : fs[i]? = some fs.toList[i] := by rw [← Array.getElem?_toList, List.getElem?_eq_getElem hi2]
    have e1 := congrArg (fun l => l[i]?) hfs
    simp only [List.getElem?_map, List.getElem?_eq_getElem hi2, List.getElem?_range hin, Option.map_some, Option.some.injEq, Prod.mk.injEq] at e1
    have h1 := hi i _ hf
    rw [e1.1, e1.2, c4, List.getElem?_eq_getElem (by rw [hx]; simpa using hi2)] at h1
    exact (rd_fr ht he c4 c1 h1).2
  exact ⟨l, l1, l2, agg_of (by have : v.cells.size = n * 4 := (by simpa using hl); omega) l3⟩
theorem list6 {l : List Int} (h : l.length = 6) : ∃ a b c d e f, l = [a, b, c, d, e, f] := by
  match l, h with
  | [a, b, c, d, e, f], _ => exact ⟨a, b, c, d, e, f, rfl⟩
end
end Go.Proofs.PM
