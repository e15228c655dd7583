/- X^n - 1: what is taken out, what is left. No conditions. -/
import Derived.Test.YtjibihaamkplbaaGe
import Derived.Test.YtjibihaamkplbaaGj
set_option linter.all false
namespace Go.Proofs.PL

theorem rep_get (m j : Nat) : (List.replicate m (0 : F)).getD j 0 = 0 := by
  simp only [List.getD_eq_getElem?_getD, List.getElem?_replicate]
  split <;> rfl
end Go.Proofs.PL

namespace Go.Proofs.PL
/-- The table of a function. -/
def tab (n : Nat) (f : Nat → F) : List F := (List.range n).map f
theorem tab_len (n : Nat) (f : Nat → F) : (tab n f).length = n := by simp [tab]
theorem tab_succ (n : Nat) (f : Nat → F) : tab (n + 1) f = tab n f ++ [f n] := by simp [tab, List.range_succ]
theorem tab_get (n : Nat) (f : Nat → F) (i : Nat) : (tab n f).getD i 0 = if i < n then f i else 0 := by
  simp only [tab, List.getD_eq_getElem?_getD, List.getElem?_map]
  by_cases h : i < n
  · rw [if_pos h, List.getElem?_range h]; rfl
  · rw [if_neg h, List.getElem?_eq_none_iff.2 (by simpa using Nat.le_of_not_lt h)]; rfl
/-- A row that is filled from below. -/
def fil (n : Nat) (f : Nat → F) : Nat → List F
  | 0 => List.replicate n 0
  | k + 1 => (fil n f k).set k (f k)
theorem fil_len (n : Nat) (f : Nat → F) : ∀ k, (fil n f k).length = n
  | 0 => by simp [fil]
  | k + 1 => by simp only [fil, List.length_set]; exact fil_len n f k
theorem fil_get (n : Nat) (f : Nat → F) : ∀ k, k ≤ n → ∀ i, (fil n f k).getD i 0 = if i < k then f i else 0
  | 0, _, i => by simp only [fil, rep_get]; rw [if_neg (by omega)]
  | k + 1, hk, i => by
    simp only [fil]
    rw [getD_set (by rw [fil_len]; omega), fil_get n f k (by omega)]
    by_cases e : k = i
    · subst e; rw [if_pos rfl, if_pos (by omega)]
    · rw [if_neg e]
      by_cases e2 : i < k
      · rw [if_pos e2, if_pos (by omega)]
      · rw [if_neg e2, if_neg (by omega)]
theorem fil_tab (n : Nat) (f : Nat → F) : fil n f n = tab n f := list_ext (by rw [fil_len, tab_len]) fun i => by rw [fil_get n f n (Nat.le_refl _), tab_get]
/-- Coefficient by coefficient. -/
def bth (g : F → F → F) (a b : List F) : List F := tab (max a.length b.length) fun i => g (a.getD i 0) (b.getD i 0)
theorem bth_get (g : F → F → F) (h0 : g 0 0 = 0) (a b : List F) (i : Nat) : (bth g a b).getD i 0 = g (a.getD i 0) (b.getD i 0) := by
  rw [bth, tab_get]
  by_cases h : i < max a.length b.length
  · rw [if_pos h]
  · rw [if_neg h, getD_ge (l := a) (by omega), getD_ge (l := b) (by omega), h0]
theorem bth_len (g : F → F → F) (a b : List F) : (bth g a b).length = max a.length b.length := tab_len ..
end Go.Proofs.PL

namespace Go.Proofs.Try.PMT
open Go Go.Proofs.PM Go.Proofs.PL Go.Proofs.Try
set_option maxRecDepth 4000

end Go.Proofs.Try.PMT
