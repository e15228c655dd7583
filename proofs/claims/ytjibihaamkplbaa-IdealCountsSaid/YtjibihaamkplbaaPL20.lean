/- Counts of places where a quotient passes that was made to pass at some. No conditions. -/
import Derived.Test.YtjibihaamkplbaaPL19
set_option linter.all false
namespace Go.Proofs.PL
theorem hor_shift (z : F) (t : List F) : ∀ N, hor z (List.replicate N (0 : F) ++ t) = z ^ N * hor z t
  | 0 => by simp only [List.replicate_zero, List.nil_append]; rw [Lean.Grind.Semiring.pow_zero]; grind
  | N + 1 => by
    rw [List.replicate_succ, List.cons_append]
    simp only [hor]
    rw [hor_shift z t N, Lean.Grind.Semiring.pow_succ]
    generalize z ^ N = a
    grind
theorem shift_get (t : List F) (N j : Nat) : (List.replicate N (0 : F) ++ t).getD j 0 = if N ≤ j then t.getD (j - N) 0 else 0 := by
  simp only [List.getD_eq_getElem?_getD, List.getElem?_append, List.length_replicate, List.getElem?_replicate]
  by_cases h : N ≤ j
  · rw [if_neg (by omega), if_pos h]
  · rw [if_pos (by omega), if_neg h, if_pos (by omega)]; rfl
/-- What is left of f, less t times X^N - 1. -/
def dfL (N : Nat) (f t : List F) : List F := bth (fun x y => x - y) f (bth (fun x y => x - y) (List.replicate N (0 : F) ++ t) t)
theorem dfL_hor (N : Nat) (f t : List F) (z : F) : hor z (dfL N f t) = hor z f - (z ^ N - 1) * hor z t := by
  rw [dfL, hor_sub, hor_sub, hor_shift]
  generalize z ^ N = a
  grind
theorem dfL_get (N : Nat) (f t : List F) (j : Nat) : (dfL N f t).getD j 0 = f.getD j 0 - ((if N ≤ j then t.getD (j - N) 0 else 0) - t.getD j 0) := by
  have h0 : (0 : F) - 0 = 0 := by decide +kernel
  rw [dfL, bth_get _ h0, bth_get _ h0, shift_get]
theorem dfL_len (N : Nat) (f t : List F) : (dfL N f t).length = max f.length (N + t.length) := by
  rw [dfL, bth_len, bth_len, List.length_append, List.length_replicate]
  omega
theorem dfL_nz {N : Nat} (hN : 0 < N) {f t : List F} (h : hol N f = false) : ∃ i, (dfL N f t).getD i 0 ≠ 0 := by
  refine Classical.byContradiction fun hn => ?_
  have hz : ∀ i, (dfL N f t).getD i 0 = 0 := fun i => Classical.byContradiction fun hi => hn ⟨i, hi⟩
  have hv := van_mul hN (a := f) (d := t) fun j => by
    have := hz j
    rw [dfL_get] at this
    generalize (if N ≤ j then t.getD (j - N) 0 else 0) = a at *
    generalize f.getD j 0 = b at *
    generalize t.getD j 0 = c at *
    grind
  have : hol N f = true := by
    rw [hol, van, if_pos hv]; rfl
  rw [this] at h; cases h

theorem app_lt {X : List F} {x : F} {j : Nat} (h : j < X.length) : (X ++ [x]).getD j 0 = X.getD j 0 := by
  rw [List.getD_eq_getElem?_getD, List.getElem?_append_left h, List.getD_eq_getElem?_getD]
theorem app_at {X : List F} {x : F} : (X ++ [x]).getD X.length 0 = x := by
  rw [List.getD_eq_getElem?_getD, List.getElem?_append_right (Nat.le_refl _), Nat.sub_self, List.getElem?_cons_zero, Option.getD_some]
/-- The places so far, and the values to be had there. -/
def plX (p : F → Bool) (zs : List F) : Nat → List F
  | 0 => []
  | i + 1 => if p (zs.getD i 0) = true then plX p zs i else plX p zs i ++ [zs.getD i 0]
def plY (p : F → Bool) (v : F → F) (zs : List F) : Nat → List F
  | 0 => []
  | i + 1 => if p (zs.getD i 0) = true then plY p v zs i else plY p v zs i ++ [v (zs.getD i 0)]
theorem plX_len (p : F → Bool) (zs : List F) : ∀ i, (plX p zs i).length ≤ i
  | 0 => Nat.le_refl _
  | i + 1 => by
    have := plX_len p zs i
    simp only [plX]; split
    · omega
    · simp only [List.length_append, List.length_cons, List.length_nil]; omega
theorem plY_len (p : F → Bool) (v : F → F) (zs : List F) : ∀ i, (plY p v zs i).length = (plX p zs i).length
  | 0 => rfl
  | i + 1 => by
    have := plY_len p v zs i
    simp only [plX, plY]; split
    · exact this
    · simp only [List.length_append, List.length_cons, List.length_nil, this]
theorem plX_sub (p : F → Bool) (zs : List F) : ∀ i, i ≤ zs.length → (plX p zs i).Sublist (zs.take i)
  | 0, _ => by simp [plX]
  | i + 1, h => by
    have ih := plX_sub p zs i (by omega)
    have hg : zs.getD i 0 = zs[i]'(by omega) := by rw [List.getD_eq_getElem?_getD, List.getElem?_eq_getElem (by omega)]; rfl
    rw [List.take_add_one, List.getElem?_eq_getElem (by omega)]
    simp only [plX, hg, Option.toList_some]
    split
    · exact ih.trans (List.sublist_append_left _ _)
    · exact ih.append (List.Sublist.refl _)
theorem pl_at (p : F → Bool) (v : F → F) (zs : List F) (i : Nat) : ∀ j, j < (plX p zs i).length → p ((plX p zs i).getD j 0) = false ∧ (plY p v zs i).getD j 0 = v ((plX p zs i).getD j 0) := by
  induction i with
  | zero => intro j h; simp [plX] at h
  | succ i ih =>
    intro j h
    have hl := plY_len p v zs i
    by_cases hz : p (zs.getD i 0) = true
    · have e1 : plX p zs (i + 1) = plX p zs i := by simp only [plX, if_pos hz]
      have e2 : plY p v zs (i + 1) = plY p v zs i := by simp only [plY, if_pos hz]
      rw [e1] at h
      rw [e1, e2]
      exact ih j h
    · have e1 : plX p zs (i + 1) = plX p zs i ++ [zs.getD i 0] := by simp only [plX, if_neg hz]
      have e2 : plY p v zs (i + 1) = plY p v zs i ++ [v (zs.getD i 0)] := by simp only [plY, if_neg hz]
      rw [e1, List.length_append, List.length_cons, List.length_nil] at h
      rw [e1, e2]
      by_cases hj : j < (plX p zs i).length
      · rw [app_lt hj, app_lt (by omega)]
        exact ih j hj
      · have hj' : j = (plX p zs i).length := by omega
        rw [hj', app_at, ← hl, app_at]
        exact ⟨by simpa using hz, rfl⟩
def badN (N : Nat) (z : F) : Bool := decide (z ^ N - 1 = 0)
def valN (N : Nat) (f : List F) (z : F) : F := hor z f * inv (z ^ N - 1)
def pasN (N : Nat) (f t : List F) (x : F) : Bool := decide (hor x f = (x ^ N - 1) * hor x t)
theorem nd_dup {xs : List F} (h : xs.Nodup) : ¬ dup xs := by
  rintro ⟨i, j, hi, hj, hne, he⟩
  rw [List.getD_eq_getElem?_getD, List.getElem?_eq_getElem hi, List.getD_eq_getElem?_getD, List.getElem?_eq_getElem hj] at he
  have hp := List.pairwise_iff_getElem.1 h
  rcases Nat.lt_or_gt_of_ne hne with hlt | hlt
  · exact hp j i hj hi hlt he.symm
  · exact hp i j hi hj hlt he
theorem val_pas {N : Nat} {f t : List F} {z : F} (hb : badN N z = false) (ht : hor z t = valN N f z) : pasN N f t z = true := by
  simp only [badN, decide_eq_false_iff_not] at hb
  simp only [pasN, decide_eq_true_eq]
  rw [ht, valN]
  generalize hor z f = a
  generalize z ^ N - 1 = b at *
  have := inv_top hb
  generalize inv b = c at *
  grind
theorem count_least {N m : Nat} {f zs : List F} (hm : m ≤ zs.length) (hl : m ≤ 1000) (hd : zs.Nodup) {X Y : List F} (hX : plX (badN N) zs m = X) (hY : plY (badN N) (valN N f) zs m = Y) :
    X.length ≤ cntS (pasN N f (thS X Y X.length)) zs zs.length := by
  have hsub := plX_sub (badN N) zs m hm
  have hlen := plX_len (badN N) zs m
  have hat := pl_at (badN N) (valN N f) zs m
  rw [hX, hY] at hat
  rw [hX] at hsub hlen
  have hxd : X.Nodup := (hsub.trans (List.take_sublist _ _)).nodup hd
  rw [cntS_filter _ _ _ (Nat.le_refl _), List.take_length]
  have hp : X.filter (pasN N f (thS X Y X.length)) = X := by
    refine List.filter_eq_self.2 fun x hx => ?_
    obtain ⟨j, hj, rfl⟩ := List.getElem_of_mem hx
    have e : X.getD j 0 = X[j] := by rw [List.getD_eq_getElem?_getD, List.getElem?_eq_getElem hj]; rfl
    rw [← e]
    have h1 := th_at (xs := X) (ys := Y) (by omega) (nd_dup hxd) hj X.length (Nat.le_refl _)
    rw [if_pos hj] at h1
    obtain ⟨h2, h3⟩ := hat j hj
    exact val_pas h2 (h1.trans h3)
  have hs := (hsub.trans (List.take_sublist _ _)).filter (pasN N f (thS X Y X.length))
  rw [hp] at hs
  exact hs.length_le
theorem plX_dup {N m : Nat} {zs : List F} (hm : m ≤ zs.length) (hd : zs.Nodup) : ¬ dup (plX (badN N) zs m) :=
  nd_dup (((plX_sub (badN N) zs m hm).trans (List.take_sublist _ _)).nodup hd)
theorem count_most {N : Nat} (hN : 0 < N) {f t zs : List F} (h : hol N f = false) (hd : zs.Nodup) : cntS (pasN N f t) zs zs.length ≤ max f.length (N + t.length) - 1 := by
  obtain ⟨i, hi⟩ := dfL_nz hN (t := t) h
  have := roots_le (dfL N f t) zs hd hi
  rw [dfL_len] at this
  rw [cntS_filter _ _ _ (Nat.le_refl _), List.take_length]
  refine Nat.le_trans (Nat.le_of_eq ?_) this
  congr 1
  refine List.filter_congr fun z _ => ?_
  simp only [pasN, dfL_hor]
  congr 1
  apply propext
  generalize (z ^ N - 1) * hor z t = b
  generalize hor z f = a
  constructor
  · intro h; rw [h]; grind
  · intro h; grind
end Go.Proofs.PL
