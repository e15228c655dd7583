/- The polynomial through another one's places is that one. No conditions. -/
import Derived.Test.YthmkfabfbmkdfaaDoorPL16
import Derived.Test.YthmkfabfbmkdfaaDoorGk
set_option linter.all false
namespace Go.Proofs.PL
theorem nodup_of {xs : List F} (h : ¬ dup xs) : xs.Nodup := by
  unfold List.Nodup
  rw [List.pairwise_iff_getElem]
  intro i j hi hj hij e
  refine h ⟨i, j, hi, hj, by omega, ?_⟩
  rw [List.getD_eq_getElem?_getD, List.getD_eq_getElem?_getD, List.getElem?_eq_getElem hi, List.getElem?_eq_getElem hj, e]
theorem meets {xs fp ys : List F} (hd : ¬ dup xs) (hx : xs.length ≤ 1000) (hl : (cut fp).length ≤ xs.length) (hy : ∀ j, j < xs.length → ys.getD j 0 = hor (xs.getD j 0) fp) : thS xs ys xs.length = cut fp := by
  have tl := thS_len xs ys xs.length
  have h := roots_all xs.length (bth (fun x y => x - y) (thS xs ys xs.length) (cut fp)) (by rw [bth_len]; omega) xs (nodup_of hd) (fun z hz => by
    obtain ⟨j, hj, e⟩ := List.getElem_of_mem hz
    have e2 : xs.getD j 0 = z := by rw [List.getD_eq_getElem?_getD, List.getElem?_eq_getElem hj]; exact e
    rw [hor_sub, ← e2, th_at hx hd hj _ (Nat.le_refl _), if_pos hj, hor_cut0, hy j hj]; grind) (Nat.le_refl _)
  rw [← th_cut, ← cut_cut fp]
  refine cut_ext fun i => ?_
  have := h i
  rw [sub_get] at this
  grind
/-- Have two been the same? -/
def twJ (xs : List F) (i : Nat) (t : Bool) : Nat → Bool
  | 0 => t
  | k + 1 => twJ xs i t k || decide (xs.getD i 0 = xs.getD k 0)
def twI (xs : List F) : Nat → Bool
  | 0 => false
  | i + 1 => twJ xs i (twI xs i) i
theorem twJ_iff (xs : List F) (i : Nat) (t : Bool) : ∀ k, twJ xs i t k = true ↔ t = true ∨ ∃ b, b < k ∧ xs.getD i 0 = xs.getD b 0
  | 0 => by simp [twJ]
  | k + 1 => by
    simp only [twJ, Bool.or_eq_true, decide_eq_true_eq, twJ_iff xs i t k]
    constructor
    · rintro ((h | ⟨b, h1, h2⟩) | h)
      · exact .inl h
      · exact .inr ⟨b, by omega, h2⟩
      · exact .inr ⟨k, by omega, h⟩
    · rintro (h | ⟨b, h1, h2⟩)
      · exact .inl (.inl h)
      · by_cases e : b = k
        · subst e; exact .inr h2
        · exact .inl (.inr ⟨b, by omega, h2⟩)
theorem twI_iff (xs : List F) : ∀ i, twI xs i = true ↔ ∃ a b, a < i ∧ b < a ∧ xs.getD a 0 = xs.getD b 0
  | 0 => by simp [twI]
  | i + 1 => by
    simp only [twI, twJ_iff, twI_iff xs i]
    constructor
    · rintro (⟨a, b, h1, h2, h3⟩ | ⟨b, h1, h2⟩)
      · exact ⟨a, b, by omega, h2, h3⟩
      · exact ⟨i, b, by omega, h1, h2⟩
    · rintro ⟨a, b, h1, h2, h3⟩
      by_cases e : a = i
      · subst e; exact .inr ⟨b, h2, h3⟩
      · exact .inl ⟨a, b, by omega, h2, h3⟩
theorem tw_dup (xs : List F) : twI xs xs.length = true ↔ dup xs := by
  rw [twI_iff]
  constructor
  · rintro ⟨a, b, h1, h2, h3⟩; exact ⟨a, b, h1, by omega, by omega, h3⟩
  · rintro ⟨a, b, h1, h2, h3, h4⟩
    rcases Nat.lt_or_gt_of_ne h3 with h | h
    · exact ⟨a, b, h1, h, h4⟩
    · exact ⟨b, a, h2, h, h4.symm⟩
end Go.Proofs.PL
