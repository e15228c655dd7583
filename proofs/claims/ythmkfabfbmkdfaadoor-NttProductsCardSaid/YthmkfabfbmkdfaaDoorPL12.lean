/- A polynomial has no more roots than its degree. No conditions. -/
import Derived.Test.YthmkfabfbmkdfaaDoorGm
set_option linter.all false
namespace Go.Proofs.PL

theorem hor_cut0 (z : F) (a : List F) : hor z (cut a) = hor z a := hor_ext z _ _ (cut_get a)
theorem hor_one (x c : F) : hor x [c] = c := by simp only [hor]; grind
theorem hor_two (x a b : F) : hor x [a, b] = a + b * x := by simp only [hor]; grind
theorem lin_rel (l : List F) (x z : F) : hor x l = hor x (lin l z).2 * (x - z) + hor z l := by
  have h := congrArg (hor x) (lin_back l z)
  rw [hor_cut0 x l, add_hor, pm_hor, hor_cut0, hor_one, hor_two] at h
  rw [← h]
  grind
theorem lin_len (l : List F) (z : F) : (lin l z).2.length = l.length - 1 := linS_len l z l.length
/-- So many unlike roots as coefficients: it is nought. -/
theorem roots_all : ∀ (n : Nat) (l : List F), l.length ≤ n → ∀ zs : List F, zs.Nodup → (∀ z, z ∈ zs → hor z l = 0) → n ≤ zs.length → ∀ i, l.getD i 0 = 0
  | 0, l, h, _, _, _, _, i => getD_ge (by omega)
  | n + 1, l, h, zs, hd, hz, hn, i => by
    match zs, hd, hz, hn with
    | [], _, _, hn => simp at hn
    | r :: rs, hd, hz, hn =>
      have hr := hz r (by simp)
      have hd' := List.nodup_cons.1 hd
      have hq := roots_all n (lin l r).2 (by rw [lin_len]; omega) rs hd'.2 (fun x hx => by
        have h1 := lin_rel l x r
        rw [hz x (by simp [hx]), hr] at h1
        rcases no_zero (show hor x (lin l r).2 * (x - r) = 0 by rw [h1]; grind) with h2 | h2
        · exact h2
        · exact absurd (show x = r by grind) fun e => hd'.1 (e ▸ hx)) (by simpa using hn)
      have h0 : ∀ j, hor r (l.drop j) = 0 := fun j => by
        rcases j with _ | j
        · exact hr
        · rw [← lin_get]; exact hq j
      by_cases hi : i < l.length
      · have h1 := hor_drop r l i hi
        rw [h0, h0] at h1
        rw [show l.getD i 0 = l.getD i 0 + 0 * r by grind, ← h1]
      · exact getD_ge (by omega)
theorem roots_le (l zs : List F) (hd : zs.Nodup) {i : Nat} (hi : l.getD i 0 ≠ 0) : (zs.filter fun z => decide (hor z l = 0)).length ≤ l.length - 1 := by
  have hl : i < l.length := by
    apply Decidable.byContradiction
    intro h
    exact hi (getD_ge (by omega))
  apply Decidable.byContradiction
  intro h
  refine hi (roots_all l.length l (Nat.le_refl _) (zs.filter fun z => decide (hor z l = 0)) (hd.sublist List.filter_sublist) (fun z hz => ?_) (by omega) i)
  simpa using (List.mem_filter.1 hz).2
end Go.Proofs.PL
