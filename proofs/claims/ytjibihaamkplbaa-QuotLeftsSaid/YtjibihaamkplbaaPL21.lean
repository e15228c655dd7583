/- The gates' value, and what is left of values: both ways. No conditions. -/
import Derived.Test.YtjibihaamkplbaaGp
import Derived.Test.YtjibihaamkplbaaPL20
set_option linter.all false
namespace Go.Proofs.PL
def dotS (q t : Nat → F) : Nat → F
  | 0 => 0
  | i + 1 => dotS q t i + q i * t i
theorem dotS_congr {q q' t t' : Nat → F} : ∀ n, (∀ i, i < n → q i = q' i) → (∀ i, i < n → t i = t' i) → dotS q t n = dotS q' t' n
  | 0, _, _ => rfl
  | n + 1, h, g => by
    simp only [dotS]
    rw [dotS_congr n (fun i hi => h i (by omega)) (fun i hi => g i (by omega)), h n (by omega), g n (by omega)]
def gvL (a b c n : F) : List F := [a * b, a, b, c, 1, a * a - a, a * a * (a * a) * a - c, a + b - n]
def gval (q : Nat → F) (a b c n : F) : F := dotS q (fun i => (gvL a b c n).getD i 0) 8
/-- What is left of any values (log L, challenges b, g, a, z; the values; the public polynomial's). -/
def leftF (L : Nat) (b g a z : F) (at' on : Nat → F) (pi : F) : F :=
  gval (fun i => at' (9 + i)) (at' 0) (at' 1) (at' 2) (on 0) + pi
    + a * (at' 3 * (at' 0 + b * z + g) * (at' 1 + b * (z * of 7) + g) * (at' 2 + b * (z * of 7 * of 7) + g) - on 1 * (at' 0 + b * at' 17 + g) * (at' 1 + b * at' 18 + g) * (at' 2 + b * at' 19 + g))
    + a * a * (lagL L 0 z * (at' 3 - 1))
    - (z ^ 2 ^ L - 1) * hor (z ^ (2 ^ L + 1)) [at' 4, at' 5, at' 6, at' 7, at' 8]
theorem left_own (v p o7 zz a b g z l a0 a1 a2 a3 n1 s0 s1 s2 t0 t1 t2 t3 t4 st : F) (hst : st = (zz + 1) * z) :
    v + p + a * ((a3 * (a0 + g + b * z) * (a1 + g + b * (z * o7)) * (a2 + g + b * (z * o7 * o7)) - n1 * (a0 + g + b * s0) * (a1 + g + b * s1) * (a2 + g + b * s2)) + a * (l * (a3 - 1)))
      - zz * (((((0 * st + t4) * st + t3) * st + t2) * st + t1) * st + t0)
    = v + p + a * (a3 * (a0 + b * z + g) * (a1 + b * (z * o7) + g) * (a2 + b * (z * o7 * o7) + g) - n1 * (a0 + b * s0 + g) * (a1 + b * s1 + g) * (a2 + b * s2 + g))
      + a * a * (l * (a3 - 1)) - zz * hor st [t0, t1, t2, t3, t4] := by
  simp only [hor]
  clear hst
  have e1 : ∀ x y w : F, x + y + w = x + w + y := fun x y w => by grind
  rw [e1 a0 g, e1 a1 g, e1 a2 g, e1 a0 g, e1 a1 g, e1 a2 g]
  generalize a3 * (a0 + b * z + g) * (a1 + b * (z * o7) + g) * (a2 + b * (z * o7 * o7) + g) = X
  generalize n1 * (a0 + b * s0 + g) * (a1 + b * s1 + g) * (a2 + b * s2 + g) = Y
  generalize l * (a3 - 1) = W
  have e2 : ((((0 * st + t4) * st + t3) * st + t2) * st + t1) * st + t0 = t0 + (t1 + (t2 + (t3 + (t4 + 0 * st) * st) * st) * st) * st := by grind
  rw [e2]
  generalize t0 + (t1 + (t2 + (t3 + (t4 + 0 * st) * st) * st) * st) * st = V
  generalize v + p = U
  generalize zz * V = T
  grind
theorem step_eq (z : F) (n : Nat) : z ^ (n + 1) = (z ^ n - 1 + 1) * z := by
  rw [pw_succ]
  generalize z ^ n = a
  grind
theorem z_step (x : F) : 0 + 0 * x = 0 := by rw [show (0 : F) * x = 0 by grind]; exact zz
theorem dotS_zero (t : Nat → F) : ∀ n, dotS (fun _ => 0) t n = 0
  | 0 => rfl
  | n + 1 => by
    show dotS (fun _ => 0) t n + 0 * t n = 0
    rw [dotS_zero t n]
    exact z_step _
theorem left_zero {L : Nat} {z p : F} {A O : Nat → F} (hA : ∀ i, A i = 0) (hO : ∀ i, O i = 0) : leftF L 0 0 0 z A O p = p := by
  have h : hor (z ^ (2 ^ L + 1)) [0, 0, 0, 0, 0] = 0 := by
    simp only [hor]; grind
  have hA' : A = fun _ => 0 := funext hA
  have hO' : O = fun _ => 0 := funext hO
  simp only [leftF, gval, hA', hO', dotS_zero, h]
  generalize z ^ 2 ^ L = x
  generalize lagL L 0 z = l
  clear hA hO hA' hO' h
  have z1 : ∀ x : F, 0 * x = 0 := fun x => by grind
  have z2 : ∀ x : F, x * 0 = 0 := fun x => by grind
  have z3 : ∀ x : F, x + 0 = x := fun x => by grind
  have z4 : ∀ x : F, 0 + x = x := fun x => by grind
  have z5 : ∀ x : F, x - 0 = x := fun x => by grind
  simp only [z1, z2, z3, z4, z5]
end Go.Proofs.PL
