/- Divisions: what they tell and that they are the only ones. No conditions. -/
import Derived.Test.YthmkfabfbmkdfaaGl
set_option linter.all false
namespace Go.Proofs.PL
/-- By X - z, and back. -/
theorem conv_lin (z : F) : ∀ (L : List F), (conv L [0 - z, 1]).getD 0 0 = L.getD 0 0 * (0 - z) ∧ ∀ k, (conv L [0 - z, 1]).getD (k + 1) 0 = L.getD (k + 1) 0 * (0 - z) + L.getD k 0
  | [] => by
    simp only [conv, List.getD_nil]
    exact ⟨(f_0mul _).symm, fun _ => by rw [f_0mul, f_add0]⟩
  | x :: L => by
    obtain ⟨h0, h1⟩ := conv_lin z L
    simp only [conv, addl_get, sca_get, List.getD_cons_zero, List.getD_cons_succ]
    refine ⟨f_add0 _, fun k => ?_⟩
    rcases k with _ | k
    · rw [h0, List.getD_cons_zero, List.getD_cons_zero]
      generalize L.getD 0 0 * (0 - z) = y
      have e : x * 1 = x := by grind
      rw [e]
      grind
    · rw [h1, List.getD_cons_succ, List.getD_cons_succ, List.getD_nil, f_mul0, f_0add]
theorem lin_back (a : List F) (z : F) : cut (bth (fun x y => x + y) (pm (cut (lin a z).2) [0 - z, 1]) [hor z a]) = cut a := by
  refine cut_ext fun j => ?_
  have hL : ∀ k, (cut (cut (lin a z).2)).getD k 0 = hor z (a.drop (k + 1)) := fun k => by rw [cut_get, cut_get, lin_get]
  have hd : ∀ k, hor z (a.drop k) = a.getD k 0 + hor z (a.drop (k + 1)) * z := fun k => by
    by_cases h : k < a.length
    · exact hor_drop z a k h
    · rw [hor_nil z a k (by omega), hor_nil z a (k + 1) (by omega), getD_ge (by omega), f_0mul, f_add0]
  rw [add_get, pm_get, cut_line]
  obtain ⟨c0, c1⟩ := conv_lin z (cut (cut (lin a z).2))
  rcases j with _ | j
  · rw [c0, hL, List.getD_cons_zero]
    have e := hd 0
    rw [List.drop_zero] at e
    rw [e]
    generalize hor z (a.drop (0 + 1)) = x
    generalize a.getD 0 0 = y
    have e0 : x * (0 - z) + (y + x * z) = x * (0 - z + z) + y := by grind
    have e1 : (0 : F) - z + z = 0 := by grind
    rw [e0, e1, f_mul0, f_0add]
  · rw [c1, hL, hL, hd (j + 1), List.getD_cons_succ, List.getD_nil, f_add0]
    generalize hor z (a.drop (j + 1 + 1)) = x
    generalize a.getD (j + 1) 0 = y
    have e0 : x * (0 - z) + (y + x * z) = x * (0 - z + z) + y := by grind
    have e1 : (0 : F) - z + z = 0 := by grind
    rw [e0, e1, f_mul0, f_0add]
end Go.Proofs.PL

namespace Go.Proofs.PL

theorem sm_mulr (f : Nat → F) (c : F) : ∀ n, sm n f * c = sm n (fun i => f i * c)
  | 0 => by simp only [sm]; exact f_0mul c
  | n + 1 => by simp only [sm]; rw [← sm_mulr f c n]; grind
theorem hor_sm (z : F) (l : List F) : hor z l = sm l.length fun i => l.getD i 0 * z ^ i := by
  induction l with
  | nil => rfl
  | cons x l ih =>
    rw [hor, ih, List.length_cons, sm_front, sm_mulr]
    simp only [List.getD_cons_zero, List.getD_cons_succ]
    rw [pw_zero, show x * 1 = x by grind]
    congr 1
    refine sm_congr _ fun i _ => ?_
    rw [pw_succ]; grind
theorem neg1 : (0 - 1 : F) + 1 = 0 := by decide +kernel
theorem m1 (x y : F) : x - y = x + y * (0 - 1) := by
  have h := neg1
  generalize (0 - 1 : F) = e at *
  grind
theorem m2 (c p q : F) : c * (p * ((0 - 1) * q)) = c * p * q * (0 - 1) := by
  generalize (0 - 1 : F) = e at *
  grind
end Go.Proofs.PL
