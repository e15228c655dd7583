/- Divisions: what they tell and that they are the only ones. No conditions. -/
import Derived.Test.YthmkfabfbmkdfaaGl
set_option linter.all false
namespace Go.Proofs.PL
theorem sm_pad (a b : List F) (k : Nat) : ∀ d, sm (a.length + d) (tm a b k) = (conv a b).getD k 0
  | 0 => (conv_get a b k).symm
  | d + 1 => by
    rw [show a.length + (d + 1) = (a.length + d) + 1 by omega, sm, sm_pad a b k d]
    have e : tm a b k (a.length + d) = 0 := by
      simp only [tm]
      rw [getD_ge (l := a) (by omega), f_0mul]
      split <;> rfl
    rw [e, f_add0]
theorem sm_pad' {a : List F} (b : List F) (k : Nat) {M : Nat} (h : a.length ≤ M) : sm M (tm a b k) = (conv a b).getD k 0 := by
  obtain ⟨d, rfl⟩ := Nat.exists_eq_add_of_le h
  exact sm_pad a b k d
theorem sub00 : (0 : F) - 0 = 0 := by decide +kernel
theorem conv_lext {a s : List F} (c : List F) (k : Nat) (h : ∀ k, s.getD k 0 = a.getD k 0) : (conv s c).getD k 0 = (conv a c).getD k 0 := by
  rw [← sm_pad' c k (show s.length ≤ s.length + a.length by omega), ← sm_pad' c k (show a.length ≤ s.length + a.length by omega)]
  exact sm_congr _ fun i _ => by simp only [tm, h]
theorem conv_zero {a : List F} (c : List F) (k : Nat) (h : ∀ k, a.getD k 0 = 0) : (conv a c).getD k 0 = 0 := by
  rw [conv_get]
  exact sm_zero _ fun i _ => by
    simp only [tm, h]
    rw [f_0mul]
    split <;> rfl
theorem conv_set (c : F) (b : List F) : ∀ (q : List F) (i : Nat), i < q.length → q.getD i 0 = 0 → ∀ k, (conv (q.set i c) b).getD k 0 = (conv q b).getD k 0 + if i ≤ k then c * b.getD (k - i) 0 else 0
  | [], i, h, _, _ => absurd h (by simp)
  | x :: q, 0, _, h0, k => by
    rw [List.getD_cons_zero] at h0
    subst h0
    simp only [List.set_cons_zero, conv, addl_get, sca_get, Nat.sub_zero]
    rw [if_pos (Nat.zero_le _)]
    generalize (0 :: conv q b).getD k 0 = x
    generalize b.getD k 0 = y
    rw [f_0mul, f_0add]
    grind
  | x :: q, i + 1, h, h0, 0 => by
    rw [if_neg (by omega), f_add0]
    simp only [List.set_cons_succ, conv, addl_get, sca_get, List.getD_cons_zero]
  | x :: q, i + 1, h, h0, k + 1 => by
    rw [List.getD_cons_succ] at h0
    simp only [List.set_cons_succ, conv, addl_get, sca_get, List.getD_cons_succ]
    rw [conv_set c b q i (by simpa using h) h0 k, Nat.add_sub_add_right]
    have e : (if i + 1 ≤ k + 1 then c * b.getD (k - i) 0 else 0) = (if i ≤ k then c * b.getD (k - i) 0 else 0) := by
      by_cases hi : i ≤ k
      · rw [if_pos hi, if_pos (by omega)]
      · rw [if_neg hi, if_neg (by omega)]
    rw [e]
    generalize (if i ≤ k then c * b.getD (k - i) 0 else 0) = u
    generalize (conv q b).getD k 0 = v
    generalize b.getD (k + 1) 0 = w
    grind
theorem subJ_get (c : F) (i : Nat) (b r : List F) : ∀ k, i + k ≤ r.length → ∀ j, (subJ c i b r k).getD j 0 = if i ≤ j ∧ j - i < k then r.getD j 0 - c * b.getD (j - i) 0 else r.getD j 0
  | 0, _, j => by simp only [subJ]; rw [if_neg (by omega)]
  | k + 1, hk, j => by
    simp only [subJ]
    rw [getD_set (by rw [subJ_len]; omega), subJ_get c i b r k (by omega) (i + k), subJ_get c i b r k (by omega) j]
    by_cases e : i + k = j
    · subst e
      rw [if_pos rfl, if_neg (by omega), if_pos (by omega), Nat.add_sub_cancel_left]
    · rw [if_neg e]
      by_cases e2 : i ≤ j ∧ j - i < k
      · rw [if_pos e2, if_pos (by omega)]
      · rw [if_neg e2, if_neg (by omega)]
theorem subJ_all (c : F) (i : Nat) (b r : List F) (h : i + b.length ≤ r.length) (j : Nat) : (subJ c i b r b.length).getD j 0 = if i ≤ j then r.getD j 0 - c * b.getD (j - i) 0 else r.getD j 0 := by
  rw [subJ_get c i b r _ h]
  by_cases e : i ≤ j
  · rw [if_pos e]
    by_cases e2 : j - i < b.length
    · rw [if_pos ⟨e, e2⟩]
    · rw [if_neg (by omega), getD_ge (l := b) (by omega), f_mul0, sub_zero']
  · rw [if_neg e, if_neg (by omega)]
where sub_zero' (x : F) : x - 0 = x := by grind
/-- What holds at each step of a division. -/
theorem div_inv {t : F} {B r0 : List F} {p : Nat} (hB : B.length = p + 1) (ht : B.getD p 0 * t = 1) : ∀ k, k ≤ r0.length - p →
    (∀ j, (divS t B (r0.length - p) r0 k).2.getD j 0 + (conv (divS t B (r0.length - p) r0 k).1 B).getD j 0 = r0.getD j 0) ∧
    (∀ i, i < r0.length - p - k → (divS t B (r0.length - p) r0 k).1.getD i 0 = 0) ∧
    (∀ j, r0.length - p - k + p ≤ j → (divS t B (r0.length - p) r0 k).2.getD j 0 = 0)
  | 0, _ => by
    simp only [divS]
    refine ⟨fun j => ?_, fun i _ => rep_get _ i, fun j h => getD_ge (l := r0) (by omega)⟩
    rw [conv_zero B j (rep_get _), f_add0]
  | k + 1, hk => by
    obtain ⟨h1, h2, h3⟩ := div_inv (r0 := r0) hB ht k (by omega)
    obtain ⟨l1, l2⟩ := divS_len t B (r0.length - p) r0 k
    obtain ⟨i, hi⟩ : ∃ i, r0.length - p - (k + 1) = i := ⟨_, rfl⟩
    have hin : r0.length - p - k = i + 1 := by omega
    have hip : i + B.length ≤ r0.length := by omega
    simp only [divS, hi]
    rw [show i + B.length - 1 = i + p by omega]
    rw [hin] at h2 h3
    generalize (divS t B (r0.length - p) r0 k).1 = q at *
    generalize (divS t B (r0.length - p) r0 k).2 = r at *
    obtain ⟨c, hc⟩ : ∃ c, r.getD (i + p) 0 * t = c := ⟨_, rfl⟩
    rw [hc]
    have hs := subJ_all c i B r (by omega)
    refine ⟨fun j => ?_, fun i' h => ?_, fun j h => ?_⟩
    · rw [hs, conv_set c B q i (by omega) (h2 i (by omega)), ← h1 j]
      generalize r.getD j 0 = x
      generalize (conv q B).getD j 0 = y
      by_cases e : i ≤ j
      · rw [if_pos e, if_pos e]
        generalize c * B.getD (j - i) 0 = z
        grind
      · rw [if_neg e, if_neg e, f_add0]
    · rw [getD_set (by omega), if_neg (by omega)]
      exact h2 i' (by omega)
    · rw [hs, if_pos (by omega)]
      by_cases e : j = i + p
      · subst e
        rw [Nat.add_sub_cancel_left, ← hc]
        generalize r.getD (i + p) 0 = x
        generalize B.getD p 0 = y at *
        have e2 : x * t * y = x * (y * t) := by grind
        rw [e2, ht]
        grind
      · rw [h3 j (by omega), getD_ge (l := B) (by omega), f_mul0, sub00]
theorem inv_top {x : F} (h : x ≠ 0) : x * inv x = 1 := by
  have e : (52435875175126190479447740508185965837690552500527637822603658699938581184511 : Nat) = N1 - 1 := by decide +kernel
  rw [inv, e]
  exact inv_mul x h
/-- A division's law: quotient times divisor, and what is left, which is shorter. -/
theorem dv_law (a b : List F) (h : (cut b).length ≠ 0) : (dv a b).2.2 = 0 ∧ (∀ j, (dv a b).2.1.getD j 0 + (conv (dv a b).1 (cut b)).getD j 0 = a.getD j 0) ∧ (∀ j, (cut b).length ≤ j + 1 → (dv a b).2.1.getD j 0 = 0) := by
  obtain ⟨p, hp⟩ : ∃ p, (cut b).length = p + 1 := ⟨(cut b).length - 1, by omega⟩
  have ht := cut_last b h
  rw [hp, Nat.add_sub_cancel] at ht
  obtain ⟨h1, _, h3⟩ := div_inv (r0 := cut a) hp (inv_top ht) ((cut a).length - p) (Nat.le_refl _)
  have e1 : (dv a b).1 = cut (divS (inv ((cut b).getD p 0)) (cut b) ((cut a).length - p) (cut a) ((cut a).length - p)).1 := by
    rw [dv, if_neg h, hp, Nat.add_sub_cancel, Nat.add_sub_add_right]
  have e2 : (dv a b).2.1 = cut (divS (inv ((cut b).getD p 0)) (cut b) ((cut a).length - p) (cut a) ((cut a).length - p)).2 := by
    rw [dv, if_neg h, hp, Nat.add_sub_cancel, Nat.add_sub_add_right]
  have e3 : (dv a b).2.2 = 0 := by rw [dv, if_neg h]
  refine ⟨e3, fun j => ?_, fun j hj => ?_⟩
  · rw [e1, e2, cut_get, conv_lext (cut b) j (cut_get _), h1, cut_get]
  · rw [e2, cut_get]
    exact h3 j (by omega)
theorem dv_cut (a b : List F) : cut (dv a b).1 = (dv a b).1 ∧ cut (dv a b).2.1 = (dv a b).2.1 := by
  rw [dv]
  split
  · exact ⟨rfl, rfl⟩
  · exact ⟨cut_cut _, cut_cut _⟩
theorem dv_short (a b : List F) (h : (cut b).length ≠ 0) : (cut (dv a b).2.1).length < (cut b).length := by
  obtain ⟨_, _, h2⟩ := dv_law a b h
  have := cut_len_le (l := (dv a b).2.1) (n := (cut b).length - 1) fun i hi => h2 i (by omega)
  omega
/-- By X - z, and back. -/
theorem conv_lin (z : F) : ∀ (L : List F), (conv L [0 - z, 1]).getD 0 0 = L.getD 0 0 * (0 - z) ∧ ∀ k, (conv L [0 - z, 1]).getD (k + 1) 0 = L.getD (k + 1) 0 * (0 - z) + L.getD k 0
  | [] => by
    simp only [conv, List.getD_nil]
    exact ⟨(f_0mul _).symm, fun _ => by rw [f_0mul, f_add0]⟩
  | x :: L => by
    obtain ⟨h0, h1⟩ := conv_lin z L
    simp only [conv, addl_get, sca_get, List.getD_cons_zero, List.getD_cons_succ]
    refine ⟨f_add0 _, fun k => ?_⟩
    rcases k with _ | k
    · rw [h0, List.getD_cons_zero, List.getD_cons_zero]
      generalize L.getD 0 0 * (0 - z) = y
      have e : x * 1 = x := by grind
      rw [e]
      grind
    · rw [h1, List.getD_cons_succ, List.getD_cons_succ, List.getD_nil, f_mul0, f_0add]
theorem lin_back (a : List F) (z : F) : cut (bth (fun x y => x + y) (pm (cut (lin a z).2) [0 - z, 1]) [hor z a]) = cut a := by
  refine cut_ext fun j => ?_
  have hL : ∀ k, (cut (cut (lin a z).2)).getD k 0 = hor z (a.drop (k + 1)) := fun k => by rw [cut_get, cut_get, lin_get]
  have hd : ∀ k, hor z (a.drop k) = a.getD k 0 + hor z (a.drop (k + 1)) * z := fun k => by
    by_cases h : k < a.length
    · exact hor_drop z a k h
    · rw [hor_nil z a k (by omega), hor_nil z a (k + 1) (by omega), getD_ge (by omega), f_0mul, f_add0]
  rw [add_get, pm_get, cut_line]
  obtain ⟨c0, c1⟩ := conv_lin z (cut (cut (lin a z).2))
  rcases j with _ | j
  · rw [c0, hL, List.getD_cons_zero]
    have e := hd 0
    rw [List.drop_zero] at e
    rw [e]
    generalize hor z (a.drop (0 + 1)) = x
    generalize a.getD 0 0 = y
    have e0 : x * (0 - z) + (y + x * z) = x * (0 - z + z) + y := by grind
    have e1 : (0 : F) - z + z = 0 := by grind
    rw [e0, e1, f_mul0, f_0add]
  · rw [c1, hL, hL, hd (j + 1), List.getD_cons_succ, List.getD_nil, f_add0]
    generalize hor z (a.drop (j + 1 + 1)) = x
    generalize a.getD (j + 1) 0 = y
    have e0 : x * (0 - z) + (y + x * z) = x * (0 - z + z) + y := by grind
    have e1 : (0 : F) - z + z = 0 := by grind
    rw [e0, e1, f_mul0, f_0add]
end Go.Proofs.PL

namespace Go.Proofs.PL

theorem sm_mulr (f : Nat → F) (c : F) : ∀ n, sm n f * c = sm n (fun i => f i * c)
  | 0 => by simp only [sm]; exact f_0mul c
  | n + 1 => by simp only [sm]; rw [← sm_mulr f c n]; grind
theorem hor_sm (z : F) (l : List F) : hor z l = sm l.length fun i => l.getD i 0 * z ^ i := by
  induction l with
  | nil => rfl
  | cons x l ih =>
    rw [hor, ih, List.length_cons, sm_front, sm_mulr]
    simp only [List.getD_cons_zero, List.getD_cons_succ]
    rw [pw_zero, show x * 1 = x by grind]
    congr 1
    refine sm_congr _ fun i _ => ?_
    rw [pw_succ]; grind
theorem neg1 : (0 - 1 : F) + 1 = 0 := by decide +kernel
theorem m1 (x y : F) : x - y = x + y * (0 - 1) := by
  have h := neg1
  generalize (0 - 1 : F) = e at *
  grind
theorem m2 (c p q : F) : c * (p * ((0 - 1) * q)) = c * p * q * (0 - 1) := by
  generalize (0 - 1 : F) = e at *
  grind
end Go.Proofs.PL
