/- Which mixes are multiples of X^2 - 1. No conditions. -/
import Derived.Test.YthmkfabfbmkdfaaPL18
import Derived.Test.YthmkfabfbmkdfaaPL16
set_option linter.all false
namespace Go.Proofs.PL
set_option maxRecDepth 4000
theorem hol2 (f : List F) : hol 2 f = true ↔ hor 1 f = 0 ∧ hor (0 - 1) f = 0 := by
  have hc : cut (vnl 2) = vnl 2 := vnl_cut (by decide)
  have hl : (cut (vnl 2)).length = 3 := by rw [hc, vnl_len]
  obtain ⟨_, h1, _⟩ := dv_law f (vnl 2) (by omega)
  have h2 := dv_short f (vnl 2) (by omega)
  have h3 := (dv_cut f (vnl 2)).2
  rw [hc] at h1
  have hq : ∀ z : F, hor z (vnl 2) = 0 → hor z f = hor z (dv f (vnl 2)).2.1 := fun z hz => by
    have e : hor z (bth (fun x y => x + y) (dv f (vnl 2)).2.1 (conv (dv f (vnl 2)).1 (vnl 2))) = hor z f := hor_ext z _ _ fun j => by rw [add_get]; exact h1 j
    have e2 := add_hor z (dv f (vnl 2)).2.1 (conv (dv f (vnl 2)).1 (vnl 2))
    rw [hor_cut0, e, hor_conv, hz] at e2
    rw [e2]; grind
  have v1 : hor 1 (vnl 2) = 0 := by decide +kernel
  have v2 : hor (0 - 1) (vnl 2) = 0 := by decide +kernel
  rw [hq 1 v1, hq _ v2, ← hol_dv (by decide), decide_eq_true_eq]
  generalize (dv f (vnl 2)).2.1 = r at *
  constructor
  · intro h0
    rw [List.length_eq_zero_iff.1 h0]
    exact ⟨rfl, rfl⟩
  · intro ⟨a1, a2⟩
    have hr : r.length ≤ 2 := by rw [h3] at h2; omega
    have hz := roots_all 2 r hr [1, 0 - 1] (by decide +kernel) (fun z hz => by
      simp only [List.mem_cons, List.not_mem_nil, or_false] at hz
      rcases hz with rfl | rfl
      · exact a1
      · exact a2) (by decide)
    have := cut_len_le (l := r) (n := 0) fun i _ => hz i
    rw [h3] at this
    omega
/-- The polynomials' values at z: the mixes' value, ap a polynomial in a. -/
def hz (gs : List (List F)) (z : F) : List F := gs.map (hor z)
theorem hz_len (gs : List (List F)) (z : F) : (hz gs z).length = gs.length := by simp [hz]
theorem hz_get (gs : List (List F)) (z : F) (j : Nat) : (hz gs z).getD j 0 = hor z (gs.getD j []) := by
  simp only [hz, List.getD_eq_getElem?_getD, List.getElem?_map]
  cases gs[j]? <;> rfl
theorem mix_hor {gs : List (List F)} {B : Nat} (hB : B ≤ 1000000) (h : ∀ i, (gs.getD i []).length ≤ B) (a z : F) : hor z (mix gs a) = hor a (hz gs z) := by
  rw [mix_fld hB h, fldS_hor, hor_sm, hz_len]
  exact sm_congr _ fun j _ => by rw [hz_get]
theorem mix_hol {gs : List (List F)} {B : Nat} (hB : B ≤ 1000000) (h : ∀ i, (gs.getD i []).length ≤ B) (a : F) : hol 2 (mix gs a) = true ↔ hor a (hz gs 1) = 0 ∧ hor a (hz gs (0 - 1)) = 0 := by
  rw [hol2, mix_hor hB h, mix_hor hB h]
theorem cntS_filter (h : F → Bool) (l : List F) : ∀ i, i ≤ l.length → cntS h l i = ((l.take i).filter h).length
  | 0, _ => by simp [cntS]
  | i + 1, hi => by
    have ih := cntS_filter h l i (by omega)
    have hg : l.getD i 0 = l[i]'(by omega) := by rw [List.getD_eq_getElem?_getD, List.getElem?_eq_getElem (by omega)]; rfl
    rw [List.take_add_one, List.getElem?_eq_getElem (by omega), List.filter_append, List.length_append, ← ih]
    simp only [cntS, hg, Option.toList_some]
    cases hq : h (l[i]'(by omega)) <;> simp [hq]
theorem cntS_all (h : F → Bool) (l : List F) : ∀ i, (∀ j, j < i → h (l.getD j 0) = true) → cntS h l i = i
  | 0, _ => rfl
  | i + 1, hh => by
    simp only [cntS]
    rw [if_pos (hh i (by omega)), cntS_all h l i fun j hj => hh j (by omega)]
theorem cntS_mono (h : F → Bool) (l : List F) : ∀ k i, cntS h l i ≤ cntS h l (i + k)
  | 0, i => Nat.le_refl _
  | k + 1, i => Nat.le_trans (cntS_mono h l k i) (by
    rw [← Nat.add_assoc]; simp only [cntS]; split <;> omega)
/-- All are multiples: so is each mix. -/
theorem mixes_all {gs : List (List F)} {B : Nat} (hB : B ≤ 1000000) (h : ∀ i, (gs.getD i []).length ≤ B) (ha : ∀ j, j < gs.length → hol 2 (gs.getD j []) = true) (ap : List F) : cntS (fun a => hol 2 (mix gs a)) ap ap.length = ap.length := by
  refine cntS_all _ _ _ fun j _ => ?_
  have hz0 : ∀ z, (∀ j, j < gs.length → hor z (gs.getD j []) = 0) → ∀ a, hor a (hz gs z) = 0 := fun z hh a => by
    rw [hor_sm, hz_len]
    have : ∀ n, n ≤ gs.length → sm n (fun i => (hz gs z).getD i 0 * a ^ i) = 0 := fun n => by
      induction n with
      | zero => exact fun _ => rfl
      | succ n ih =>
        intro hn
        simp only [sm]
        rw [ih (by omega), hz_get, hh n (by omega)]
        generalize a ^ n = x
        rw [Fin.zero_mul]; rfl
    exact this _ (Nat.le_refl _)
  rw [mix_hol hB h]
  exact ⟨hz0 _ (fun j hj => ((hol2 _).1 (ha j hj)).1) _, hz0 _ (fun j hj => ((hol2 _).1 (ha j hj)).2) _⟩
/-- One is no multiple: fewer than m mixes hold. -/
theorem mixes_few {gs : List (List F)} {B : Nat} (hB : B ≤ 1000000) (h : ∀ i, (gs.getD i []).length ≤ B) {j : Nat} (hj : hol 2 (gs.getD j []) = false) (ap : List F) (hd : ap.Nodup) : cntS (fun a => hol 2 (mix gs a)) ap ap.length ≤ gs.length - 1 := by
  obtain ⟨z, hz1, hz2⟩ : ∃ z, hor z (gs.getD j []) ≠ 0 ∧ ∀ a, hol 2 (mix gs a) = true → hor a (hz gs z) = 0 := by
    by_cases h1 : hor 1 (gs.getD j []) = 0
    · refine ⟨0 - 1, fun h2 => ?_, fun a ha => ((mix_hol hB h a).1 ha).2⟩
      rw [(hol2 _).2 ⟨h1, h2⟩] at hj
      exact absurd hj (by decide)
    · exact ⟨1, h1, fun a ha => ((mix_hol hB h a).1 ha).1⟩
  have r := roots_le (hz gs z) ap hd (i := j) (by rw [hz_get]; exact hz1)
  rw [hz_len] at r
  rw [cntS_filter _ _ _ (Nat.le_refl _), List.take_length]
  refine Nat.le_trans ?_ r
  rw [← List.countP_eq_length_filter, ← List.countP_eq_length_filter]
  exact List.countP_mono_left fun x _ hx => by simpa using hz2 x hx
/-- The product of so many (a - alpha). -/
def prA (ap : List F) (a : F) : Nat → F
  | 0 => 1
  | k + 1 => prA ap a k * (a - ap.getD k 0)
def cL (ap : List F) : Nat → List F
  | 0 => [1]
  | k + 1 => cut (mulL ((cL ap k).length + 2) (cL ap k) [0 - ap.getD k 0, 1])
theorem cL_hor (ap : List F) (a : F) : ∀ k, hor a (cL ap k) = prA ap a k
  | 0 => hor_one _ _
  | k + 1 => by
    simp only [cL, prA]
    rw [mulL_hor a (cL ap k) [0 - ap.getD k 0, 1] (n := (cL ap k).length + 2) rfl, cL_hor ap a k, hor_two]
    congr 1
    grind
theorem cL_len (ap : List F) : ∀ k, (cL ap k).length ≤ k + 1
  | 0 => Nat.le_refl _
  | k + 1 => by
    simp only [cL]
    refine cut_len_le fun i hi => ?_
    have ih := cL_len ap k
    rw [mulL_get (by simp), ← conv_get]
    obtain ⟨j, rfl⟩ : ∃ j, i = j + 1 := ⟨i - 1, by omega⟩
    rw [(conv_lin (ap.getD k 0) (cL ap k)).2 j]
    have g : ∀ q, (cL ap k).length ≤ q → (cL ap k).getD q 0 = 0 := fun q hq => by
      rw [List.getD_eq_getElem?_getD, List.getElem?_eq_none_iff.2 hq]; rfl
    rw [g _ (by omega), g _ (by omega), Fin.zero_mul]; rfl
theorem prA_zero (ap : List F) {i : Nat} : ∀ k, i < k → prA ap (ap.getD i 0) k = 0
  | 0, h => absurd h (Nat.not_lt_zero _)
  | k + 1, h => by
    simp only [prA]
    by_cases e : i = k
    · subst e; rw [show ap.getD i 0 - ap.getD i 0 = 0 by grind, Fin.mul_zero]
    · rw [prA_zero ap k (by omega), Fin.zero_mul]
theorem prA_ne (ap : List F) {i : Nat} : ∀ k, (∀ j, j < k → ap.getD j 0 ≠ ap.getD i 0) → prA ap (ap.getD i 0) k ≠ 0
  | 0, _ => one_ne_zero
  | k + 1, h => fun e => by
    simp only [prA] at e
    rcases no_zero e with e1 | e1
    · exact prA_ne ap k (fun j hj => h j (by omega)) e1
    · exact h k (by omega) (by grind)
theorem nodup_of {ap : List F} (h : ∀ b, b < ap.length → ∀ a, a < b → ap.getD a 0 ≠ ap.getD b 0) : ap.Nodup := by
  rw [List.nodup_iff_pairwise_ne, List.pairwise_iff_getElem]
  intro a b ha hb hab
  have := h b hb a hab
  rwa [List.getD_eq_getElem?_getD, List.getElem?_eq_getElem ha, List.getD_eq_getElem?_getD, List.getElem?_eq_getElem hb] at this
/-- Made to hold: just the first m - 1 mixes hold, and one is no multiple. -/
theorem mixes_made {gs : List (List F)} {ap : List F} {B : Nat} (hB : B ≤ 1000000) (h : ∀ i, (gs.getD i []).length ≤ B) (hm : 0 < gs.length) (hl : gs.length ≤ ap.length) (hd : ∀ b, b < ap.length → ∀ a, a < b → ap.getD a 0 ≠ ap.getD b 0)
    (hv : ∀ z, z = 1 ∨ z = 0 - 1 → ∀ j, j < gs.length → hor z (gs.getD j []) = (cL ap (gs.length - 1)).getD j 0) : (∃ j, j < gs.length ∧ hol 2 (gs.getD j []) = false) ∧ cntS (fun a => hol 2 (mix gs a)) ap ap.length = gs.length - 1 := by
  have hp : ∀ z, z = 1 ∨ z = 0 - 1 → ∀ a, hor a (hz gs z) = prA ap a (gs.length - 1) := fun z hzz a => by
    rw [← cL_hor]
    refine hor_ext a _ _ fun j => ?_
    rw [hz_get]
    by_cases e : j < gs.length
    · exact hv z hzz j e
    · have hc := cL_len ap (gs.length - 1)
      have e1 : gs.getD j [] = [] := by rw [List.getD_eq_getElem?_getD, List.getElem?_eq_none_iff.2 (by omega)]; rfl
      have e2 : (cL ap (gs.length - 1)).getD j 0 = 0 := by rw [List.getD_eq_getElem?_getD, List.getElem?_eq_none_iff.2 (by omega)]; rfl
      rw [e1, e2]; rfl
  have hx : ∃ j, j < gs.length ∧ hol 2 (gs.getD j []) = false := by
    refine Classical.byContradiction fun hn => ?_
    have ha : ∀ j, j < gs.length → hol 2 (gs.getD j []) = true := fun j hj => by
      cases q : hol 2 (gs.getD j [])
      · exact absurd ⟨j, hj, q⟩ hn
      · rfl
    have hc : ∀ j, (cL ap (gs.length - 1)).getD j 0 = 0 := fun j => by
      by_cases e : j < gs.length
      · rw [← hv 1 (.inl rfl) j e]; exact ((hol2 _).1 (ha j e)).1
      · have hc := cL_len ap (gs.length - 1)
        rw [List.getD_eq_getElem?_getD, List.getElem?_eq_none_iff.2 (by omega)]; rfl
    have h0 : hor (ap.getD (gs.length - 1) 0) (cL ap (gs.length - 1)) = 0 := by
      rw [hor_ext _ _ [] fun i => by rw [hc i]; rfl]; rfl
    rw [cL_hor] at h0
    exact prA_ne ap _ (fun j hj => hd _ (by omega) j hj) h0
  refine ⟨hx, ?_⟩
  obtain ⟨j, _, hj⟩ := hx
  have h1 := mixes_few hB h hj ap (nodup_of hd)
  have h2 : cntS (fun a => hol 2 (mix gs a)) ap (gs.length - 1) = gs.length - 1 := cntS_all _ _ _ fun i hi => by
    rw [mix_hol hB h, hp 1 (.inl rfl), hp _ (.inr rfl), prA_zero ap _ hi]
    exact ⟨rfl, rfl⟩
  have h3 := cntS_mono (fun a => hol 2 (mix gs a)) ap (ap.length - (gs.length - 1)) (gs.length - 1)
  rw [show gs.length - 1 + (ap.length - (gs.length - 1)) = ap.length by omega, h2] at h3
  omega
end Go.Proofs.PL
