/- The law IdealAll: it answers true. No conditions beyond that its arguments are what can be read. -/
import Derived.Test.YthmkfabfbmkdfaaWIc
import Derived.Test.YthmkfabfbmkdfaaPV8
import Derived.Test.YthmkfabfbmkdfaaPCIdealAll
set_option linter.all false
namespace Go.Proofs.Try.PMT
open Go Go.Proofs.PM Go.Proofs.PL Go.Proofs.Try
set_option maxRecDepth 4000
theorem weak_frz1 (prs : List (Nat × Nat)) (id : Nat) {tm tm' : List PV} {os : Nat → Cel} {l : List (Nat × Cel)} {nx nx' ln : Nat} {o : Ob} (hso : (os id).get = some o) (hn : disj (prs.map Prod.snd) = true) (ho : disj (prs.map Prod.fst) = true)
    (hl : ((List.range ln).all fun j => decide (ρP prs j = some j)) = true) (hf : ([id].all fun i => (ρP prs i).isNone && decide (ln ≤ i)) = true)
    (h : ∀ fo : Nat → Option Ob, fo id = some o → wK os (ρP prs) fo nx' prs l ∧ tZ (ρP prs) fo tm tm') : Weak ⟨tm, os, nx, ln⟩ ⟨tm', osB l, nx', ln⟩ := by
  have hi : (fun i => if inB [id] i = true then (os i).get else none) id = some o := by simp [inB, hso]
  exact weak_frz prs [id] hn ho hl hf _ rfl (h _ hi).1 (h _ hi).2
/-- The first so many lists, with their marks. -/
def bsL (b : Nat → Bool) (g : Nat → List F) (i : Nat) : List (Bool × List F) := (List.range i).map fun j => (b j, g j)
theorem tk1 {p : PV} : List.take 1 [p] = [p] := rfl
theorem bsL_len (b : Nat → Bool) (g : Nat → List F) (i : Nat) : (bsL b g i).length = i := by simp [bsL]
def gsL (g : Nat → List F) (m : Nat) : List (List F) := (List.range m).map g
theorem bsL_snd (b : Nat → Bool) (g : Nat → List F) (m : Nat) : (((bsL b g m).drop 0).take m).map Prod.snd = gsL g m := by
  rw [List.drop_zero, List.take_of_length_le (by rw [bsL_len]; exact Nat.le_refl _)]
  simp [bsL, gsL]
theorem bsL_snd2 (b : Nat → Bool) (g : Nat → List F) (m : Nat) : (List.take m (bsL b g m)).map Prod.snd = gsL g m := by
  have := bsL_snd b g m
  rwa [List.drop_zero] at this
theorem bsL_get {b : Nat → Bool} {g : Nat → List F} {m i : Nat} (h : i < m) : (bsL b g m).getD i (false, []) = (b i, g i) := by
  simp only [bsL, List.getD_eq_getElem?_getD, List.getElem?_map]
  rw [List.getElem?_range h]; rfl
theorem lls_get {b : Nat → Bool} {g : Nat → List F} {m i : Nat} (h : i < m) : (lls (bsL b g m)).getD i .any = .vsl (b i) (.arr 4 .one) (ffs (g i)) := by
  rw [getD_lls (by rw [bsL_len]; exact h), bsL_get h]
theorem gsL_len (g : Nat → List F) (m : Nat) : (gsL g m).length = m := by simp [gsL]
theorem gsL_get (g : Nat → List F) (m i : Nat) : (gsL g m).getD i [] = if i < m then g i else [] := by
  simp only [gsL, List.getD_eq_getElem?_getD, List.getElem?_map]
  split
  · rename_i h; rw [List.getElem?_range h]; rfl
  · rename_i h; rw [List.getElem?_eq_none_iff.2 (by simp; omega)]; rfl
theorem frs_of {l : List Int} (h : ∀ n, n ∈ l → 0 ≤ n ∧ n < 52435875175126190479447740508185965837690552500527637822603658699938581184513) : frs l = ffs (l.map of) := by
  simp only [frs, ffs, List.map_map]
  refine List.map_congr_left fun n hn => ?_
  exact fr_of (h n hn)
theorem mem_getD {fl : List (List Int)} {i : Nat} (h : i < fl.length) : fl.getD i [] ∈ fl := by
  rw [List.getD_eq_getElem?_getD, List.getElem?_eq_getElem h]; exact List.getElem_mem h
end Go.Proofs.Try.PMT
