/- Divisions: what they tell and that they are the only ones. No conditions. -/
import Derived.Test.YtjibihaamkplbaaGl
import Derived.Test.YtjibihaamkplbaaGk
set_option linter.all false
namespace Go.Proofs.PL
theorem inv_top {x : F} (h : x ≠ 0) : x * inv x = 1 := by
  have e : (52435875175126190479447740508185965837690552500527637822603658699938581184511 : Nat) = N1 - 1 := by decide +kernel
  rw [inv, e]
  exact inv_mul x h
/-- By X - z, and back. -/
theorem conv_lin (z : F) : ∀ (L : List F), (conv L [0 - z, 1]).getD 0 0 = L.getD 0 0 * (0 - z) ∧ ∀ k, (conv L [0 - z, 1]).getD (k + 1) 0 = L.getD (k + 1) 0 * (0 - z) + L.getD k 0
  | [] => by
    simp only [conv, List.getD_nil]
    exact ⟨(f_0mul _).symm, fun _ => by rw [f_0mul, f_add0]⟩
  | x :: L => by
    obtain ⟨h0, h1⟩ := conv_lin z L
    simp only [conv, addl_get, sca_get, List.getD_cons_zero, List.getD_cons_succ]
    refine ⟨f_add0 _, fun k => ?_⟩
    rcases k with _ | k
    · rw [h0, List.getD_cons_zero, List.getD_cons_zero]
      generalize L.getD 0 0 * (0 - z) = y
      have e : x * 1 = x := by grind
      rw [e]
      grind
    · rw [h1, List.getD_cons_succ, List.getD_cons_succ, List.getD_nil, f_mul0, f_0add]
theorem lin_back (a : List F) (z : F) : cut (bth (fun x y => x + y) (pm (cut (lin a z).2) [0 - z, 1]) [hor z a]) = cut a := by
  refine cut_ext fun j => ?_
  have hL : ∀ k, (cut (cut (lin a z).2)).getD k 0 = hor z (a.drop (k + 1)) := fun k => by rw [cut_get, cut_get, lin_get]
  have hd : ∀ k, hor z (a.drop k) = a.getD k 0 + hor z (a.drop (k + 1)) * z := fun k => by
    by_cases h : k < a.length
    · exact hor_drop z a k h
    · rw [hor_nil z a k (by omega), hor_nil z a (k + 1) (by omega), getD_ge (by omega), f_0mul, f_add0]
  rw [add_get, pm_get, cut_line]
  obtain ⟨c0, c1⟩ := conv_lin z (cut (cut (lin a z).2))
  rcases j with _ | j
  · rw [c0, hL, List.getD_cons_zero]
    have e := hd 0
    rw [List.drop_zero] at e
    rw [e]
    generalize hor z (a.drop (0 + 1)) = x
    generalize a.getD 0 0 = y
    have e0 : x * (0 - z) + (y + x * z) = x * (0 - z + z) + y := by grind
    have e1 : (0 : F) - z + z = 0 := by grind
    rw [e0, e1, f_mul0, f_0add]
  · rw [c1, hL, hL, hd (j + 1), List.getD_cons_succ, List.getD_nil, f_add0]
    generalize hor z (a.drop (j + 1 + 1)) = x
    generalize a.getD (j + 1) 0 = y
    have e0 : x * (0 - z) + (y + x * z) = x * (0 - z + z) + y := by grind
    have e1 : (0 : F) - z + z = 0 := by grind
    rw [e0, e1, f_mul0, f_0add]
end Go.Proofs.PL

namespace Go.Proofs.PL

theorem sm_mulr (f : Nat → F) (c : F) : ∀ n, sm n f * c = sm n (fun i => f i * c)
  | 0 => by simp only [sm]; exact f_0mul c
  | n + 1 => by simp only [sm]; rw [← sm_mulr f c n]; grind
theorem sm_addf (f g : Nat → F) : ∀ n, sm n f + sm n g = sm n (fun i => f i + g i)
  | 0 => by simp only [sm]; exact zz
  | n + 1 => by simp only [sm]; rw [← sm_addf f g n]; grind
theorem sm_swap (f : Nat → Nat → F) (n : Nat) : ∀ m, sm m (fun i => sm n (fun j => f i j)) = sm n (fun j => sm m (fun i => f i j))
  | 0 => by simp only [sm]; exact (sm_zero n fun _ _ => rfl).symm
  | m + 1 => by simp only [sm]; rw [sm_swap f n m, sm_addf]
theorem sm_one_at {f : Nat → F} {k : Nat} : ∀ n, k < n → (∀ i, i < n → i ≠ k → f i = 0) → sm n f = f k
  | 0, h, _ => by omega
  | n + 1, h, hz => by
    simp only [sm]
    by_cases e : k = n
    · subst e
      rw [sm_zero k (fun i hi => hz i (by omega) (by omega)), f_0add]
    · rw [sm_one_at n (by omega) (fun i hi h => hz i (by omega) h), hz n (by omega) (by omega), f_add0]
theorem hor_sm (z : F) (l : List F) : hor z l = sm l.length fun i => l.getD i 0 * z ^ i := by
  induction l with
  | nil => rfl
  | cons x l ih =>
    rw [hor, ih, List.length_cons, sm_front, sm_mulr]
    simp only [List.getD_cons_zero, List.getD_cons_succ]
    rw [pw_zero, show x * 1 = x by grind]
    congr 1
    refine sm_congr _ fun i _ => ?_
    rw [pw_succ]; grind
theorem neg1 : (0 - 1 : F) + 1 = 0 := by decide +kernel
theorem m1 (x y : F) : x - y = x + y * (0 - 1) := by
  have h := neg1
  generalize (0 - 1 : F) = e at *
  grind
theorem m2 (c p q : F) : c * (p * ((0 - 1) * q)) = c * p * q * (0 - 1) := by
  generalize (0 - 1 : F) = e at *
  grind
/-- Values at the powers of one. -/
def gol (w : F) (a : List F) : List F := tab a.length fun k => hor (w ^ k) a
theorem gol_len (w : F) (a : List F) : (gol w a).length = a.length := tab_len ..
end Go.Proofs.PL

namespace Go.Proofs.PL

/-- The root of the order 2 ^ L. -/
def rt (L : Nat) : F := (of 7) ^ (N1 / 2 ^ L)
theorem N1_dvd : N1 = N1 / 2 ^ 32 * 2 ^ 32 := by decide +kernel
theorem N1_pow {L : Nat} (h : L ≤ 32) : N1 / 2 ^ L * 2 ^ L = N1 := by
  have e : N1 = (N1 / 2 ^ 32 * 2 ^ (32 - L)) * 2 ^ L := by
    rw [Nat.mul_assoc, ← Nat.pow_add, show 32 - L + L = 32 by omega]; exact N1_dvd
  exact Nat.div_mul_cancel ⟨_, (Nat.mul_comm ..).symm ▸ e⟩
theorem N1_pos {L : Nat} (h : L ≤ 32) : 0 < N1 / 2 ^ L :=
  Nat.div_pos (Nat.le_trans (Nat.pow_le_pow_right (by decide) h) (by decide +kernel)) (Nat.two_pow_pos _)
theorem rt_full {L : Nat} (h : L ≤ 32) : rt L ^ 2 ^ L = 1 := by rw [rt, ← pw_mul, N1_pow h, gen_full]
theorem rt_ne {L k : Nat} (h : L ≤ 32) (h0 : 0 < k) (h1 : k < 2 ^ L) : rt L ^ k ≠ 1 := by
  rw [rt, ← pw_mul]
  refine gen_ne (Nat.mul_pos (N1_pos h) h0) ?_
  have := Nat.mul_lt_mul_of_pos_left h1 (N1_pos h)
  rwa [N1_pow h] at this
theorem rt_mod {L : Nat} (h : L ≤ 32) (k : Nat) : rt L ^ k = rt L ^ (k % 2 ^ L) := by
  conv => lhs; rw [← Nat.div_add_mod k (2 ^ L)]
  rw [pw_add, pw_mul, rt_full h, one_pow]; grind
theorem rt_nz {L : Nat} (h : L ≤ 32) : rt L ≠ 0 := fun e => by
  have h1 := rt_full h
  have hp := Nat.two_pow_pos L
  rw [e, show 2 ^ L = 2 ^ L - 1 + 1 by omega, pw_succ, f_mul0] at h1
  exact one_ne_zero h1.symm
theorem ri_pow {L k : Nat} (h : L ≤ 32) (hk : k ≤ 2 ^ L) : inv (rt L) ^ k = rt L ^ ((2 ^ L - k) % 2 ^ L) := by
  rw [← rt_mod h]
  have h1 : rt L ^ k * inv (rt L) ^ k = 1 := by rw [← mul_pw, inv_top (rt_nz h), one_pow]
  have h2 : rt L ^ (2 ^ L - k) * rt L ^ k = 1 := by rw [← pw_add, Nat.sub_add_cancel hk, rt_full h]
  generalize rt L ^ k = x at *
  generalize inv (rt L) ^ k = y at *
  generalize rt L ^ (2 ^ L - k) = z at *
  have e : y = z * x * y := by rw [h2]; grind
  rw [e, show z * x * y = z * (x * y) by grind, h1]; grind
theorem ri_ne {L k : Nat} (h : L ≤ 32) (h0 : 0 < k) (h1 : k < 2 ^ L) : inv (rt L) ^ k ≠ 1 := by
  rw [ri_pow h (by omega), ← rt_mod h]
  exact rt_ne h (by omega) (by omega)
theorem ri_full {L : Nat} (h : L ≤ 32) : inv (rt L) ^ 2 ^ L = 1 := by
  rw [ri_pow h (Nat.le_refl _), Nat.sub_self, Nat.zero_mod, pw_zero]
theorem gsum (x : F) : ∀ n, sm n (fun i => x ^ i) * (x - 1) = x ^ n - 1
  | 0 => by simp only [sm]; rw [pw_zero, f_0mul]; decide +kernel
  | n + 1 => by
    have ih := gsum x n
    simp only [sm]
    rw [pw_succ]
    generalize sm n (fun i => x ^ i) = s at *
    generalize x ^ n = p at *
    grind
theorem gsum_zero {x : F} {n : Nat} (h : x ^ n = 1) (h1 : x ≠ 1) : sm n (fun i => x ^ i) = 0 := by
  have e := gsum x n
  rw [h] at e
  rcases no_zero (show sm n (fun i => x ^ i) * (x - 1) = 0 by rw [e]; decide +kernel) with e | e
  · exact e
  · exact absurd (by grind) h1
theorem sm_ones : ∀ n : Nat, sm n (fun _ => (1 : F)) = of (n : Int)
  | 0 => rfl
  | n + 1 => by simp only [sm]; rw [sm_ones n, show ((n + 1 : Nat) : Int) = (n : Int) + 1 by omega, of_add, of_one]
/-- Twice: so many times what there was. -/
theorem gol_twice {u v : F} {n : Nat} {a : List F} (ha : a.length = n) (huv : u * v = 1) (hu : u ^ n = 1) (hv : v ^ n = 1) (nu : ∀ d, 0 < d → d < n → u ^ d ≠ 1) (nv : ∀ d, 0 < d → d < n → v ^ d ≠ 1)
    {k : Nat} (hk : k < n) : hor (v ^ k) (gol u a) = of (n : Int) * a.getD k 0 := by
  rw [hor_sm, gol_len, ha]
  rw [show sm n (fun i => (gol u a).getD i 0 * (v ^ k) ^ i) = sm n (fun i => sm n (fun j => a.getD j 0 * (u ^ j * v ^ k) ^ i)) from ?_]
  · rw [sm_swap]
    rw [sm_one_at (k := k) n hk]
    · rw [← mul_pw, huv, one_pow]
      simp only [one_pow]
      rw [show (fun _ : Nat => a.getD k 0 * (1 : F)) = fun i => (fun _ : Nat => (1 : F)) i * a.getD k 0 from funext fun _ => by grind, ← sm_mulr, sm_ones]
    · intro j hj hjk
      rw [show (fun i => a.getD j 0 * (u ^ j * v ^ k) ^ i) = fun i => (fun i => (u ^ j * v ^ k) ^ i) i * a.getD j 0 from funext fun _ => by grind, ← sm_mulr, gsum_zero, f_0mul]
      · rw [mul_pw, ← pw_mul, ← pw_mul, Nat.mul_comm j, Nat.mul_comm k, pw_mul, pw_mul, hu, hv, one_pow, one_pow]; grind
      · by_cases h : j < k
        · rw [show u ^ j * v ^ k = v ^ (k - j) from ?_]
          · exact nv _ (by omega) (by omega)
          · rw [show v ^ k = v ^ j * v ^ (k - j) by rw [← pw_add]; congr 1; omega]
            have e : u ^ j * v ^ j = 1 := by rw [← mul_pw, huv, one_pow]
            generalize u ^ j = x at *
            generalize v ^ j = y at *
            generalize v ^ (k - j) = z at *
            rw [show x * (y * z) = x * y * z by grind, e]; grind
        · rw [show u ^ j * v ^ k = u ^ (j - k) from ?_]
          · exact nu _ (by omega) (by omega)
          · rw [show u ^ j = u ^ k * u ^ (j - k) by rw [← pw_add]; congr 1; omega]
            have e : u ^ k * v ^ k = 1 := by rw [← mul_pw, huv, one_pow]
            generalize u ^ k = x at *
            generalize v ^ k = y at *
            generalize u ^ (j - k) = z at *
            rw [show x * z * y = x * y * z by grind, e]; grind
  · refine sm_congr _ fun i hi => ?_
    rw [gol, tab_get, if_pos (by omega), hor_sm, sm_mulr, ha]
    refine sm_congr _ fun j _ => ?_
    rw [mul_pw, ← pw_mul u, ← pw_mul u, Nat.mul_comm i j]; grind

/-- Back from values. -/
def bak (v : F) (a : List F) : List F := tab a.length fun k => hor (v ^ k) a * inv (of (a.length : Int))
theorem bak_len (v : F) (a : List F) : (bak v a).length = a.length := tab_len ..
theorem len_nz {n : Nat} (h0 : 0 < n) (h : n ≤ 4294967296) : of (n : Int) ≠ 0 := fun e => by
  have : vi (of (n : Int)) = 0 := by rw [e, show vi 0 = 0 by decide]
  rw [vi_of, Md_eq] at this
  omega
theorem p2_le {L : Nat} (h : L ≤ 32) : 2 ^ L ≤ 4294967296 := Nat.pow_le_pow_right (n := 2) (by decide) h
theorem bak_gol {L : Nat} {a : List F} (h : L ≤ 32) (ha : a.length = 2 ^ L) : bak (inv (rt L)) (gol (rt L) a) = a := by
  refine list_ext (by rw [bak_len, gol_len]) fun k => ?_
  rw [bak, tab_get, gol_len]
  by_cases hk : k < a.length
  · rw [if_pos hk, gol_twice ha (inv_top (rt_nz h)) (rt_full h) (ri_full h) (fun d h0 h1 => rt_ne h h0 h1) (fun d h0 h1 => ri_ne h h0 h1) (by omega), ← ha]
    have := inv_top (len_nz (n := a.length) (by omega) (by rw [ha]; exact p2_le h))
    generalize inv (of (a.length : Int)) = z at *
    generalize of (a.length : Int) = y at *
    generalize a.getD k 0 = x at *
    rw [show y * x * z = x * (y * z) by grind, this]; grind
  · rw [if_neg hk, getD_ge (by omega)]
theorem hor_tab_mul (z c : F) (f : Nat → F) (n : Nat) : hor z (tab n fun k => f k * c) = hor z (tab n f) * c := by
  rw [hor_sm, hor_sm, sm_mulr, tab_len, tab_len]
  refine sm_congr _ fun i hi => ?_
  rw [tab_get, tab_get, if_pos hi, if_pos hi]; grind
theorem gol_bak {L : Nat} {a : List F} (h : L ≤ 32) (ha : a.length = 2 ^ L) : gol (rt L) (bak (inv (rt L)) a) = a := by
  refine list_ext (by rw [gol_len, bak_len]) fun k => ?_
  rw [gol, tab_get, bak_len]
  by_cases hk : k < a.length
  · rw [if_pos hk, bak, hor_tab_mul]
    have h2 := gol_twice ha (show inv (rt L) * rt L = 1 by rw [← inv_top (rt_nz h)]; grind) (ri_full h) (rt_full h) (fun d h0 h1 => ri_ne h h0 h1) (fun d h0 h1 => rt_ne h h0 h1) (k := k) (by omega)
    rw [gol, ← ha] at h2
    rw [h2]
    have := inv_top (len_nz (n := a.length) (by omega) (by rw [ha]; exact p2_le h))
    generalize inv (of (a.length : Int)) = z at *
    generalize of (a.length : Int) = y at *
    generalize a.getD k 0 = x at *
    rw [show y * x * z = x * (y * z) by grind, this]; grind
  · rw [if_neg hk, getD_ge (by omega)]
/-- The place's log; 10: none. -/
def lg (n : Nat) : Option Nat := (List.range 10).find? fun i => n == 2 ^ i
end Go.Proofs.PL

namespace Go.Proofs.PL
/-- Each times a power. -/
def scl (z : F) (l : List F) : List F := tab l.length fun i => l.getD i 0 * z ^ i
theorem scl_len (z : F) (l : List F) : (scl z l).length = l.length := tab_len ..
theorem scl_get (z : F) (l : List F) (i : Nat) : (scl z l).getD i 0 = l.getD i 0 * z ^ i := by
  rw [scl, tab_get]
  split
  · rfl
  · rw [getD_ge (l := l) (by omega)]; grind
theorem scl_scl {y z : F} (h : y * z = 1) (l : List F) : scl z (scl y l) = l := by
  refine list_ext (by rw [scl_len, scl_len]) fun i => ?_
  rw [scl_get, scl_get]
  have e : y ^ i * z ^ i = 1 := by rw [← mul_pw, h, one_pow]
  generalize y ^ i = a at *
  generalize z ^ i = b at *
  rw [show l.getD i 0 * a * b = l.getD i 0 * (a * b) by grind, e]; grind
end Go.Proofs.PL
