/- Divisions: what they tell and that they are the only ones. No conditions. -/
import Derived.Test.YtjibihaamkplbaaGl
import Derived.Test.YtjibihaamkplbaaGk
set_option linter.all false
namespace Go.Proofs.PL
theorem inv_top {x : F} (h : x ≠ 0) : x * inv x = 1 := by
  have e : (52435875175126190479447740508185965837690552500527637822603658699938581184511 : Nat) = N1 - 1 := by decide +kernel
  rw [inv, e]
  exact inv_mul x h
end Go.Proofs.PL

namespace Go.Proofs.PL

theorem sm_mulr (f : Nat → F) (c : F) : ∀ n, sm n f * c = sm n (fun i => f i * c)
  | 0 => by simp only [sm]; exact f_0mul c
  | n + 1 => by simp only [sm]; rw [← sm_mulr f c n]; grind
theorem sm_addf (f g : Nat → F) : ∀ n, sm n f + sm n g = sm n (fun i => f i + g i)
  | 0 => by simp only [sm]; exact zz
  | n + 1 => by simp only [sm]; rw [← sm_addf f g n]; grind
theorem sm_swap (f : Nat → Nat → F) (n : Nat) : ∀ m, sm m (fun i => sm n (fun j => f i j)) = sm n (fun j => sm m (fun i => f i j))
  | 0 => by simp only [sm]; exact (sm_zero n fun _ _ => rfl).symm
  | m + 1 => by simp only [sm]; rw [sm_swap f n m, sm_addf]
theorem sm_one_at {f : Nat → F} {k : Nat} : ∀ n, k < n → (∀ i, i < n → i ≠ k → f i = 0) → sm n f = f k
  | 0, h, _ => by omega
  | n + 1, h, hz => by
    simp only [sm]
    by_cases e : k = n
    · subst e
      rw [sm_zero k (fun i hi => hz i (by omega) (by omega)), f_0add]
    · rw [sm_one_at n (by omega) (fun i hi h => hz i (by omega) h), hz n (by omega) (by omega), f_add0]
theorem hor_sm (z : F) (l : List F) : hor z l = sm l.length fun i => l.getD i 0 * z ^ i := by
  induction l with
  | nil => rfl
  | cons x l ih =>
    rw [hor, ih, List.length_cons, sm_front, sm_mulr]
    simp only [List.getD_cons_zero, List.getD_cons_succ]
    rw [pw_zero, show x * 1 = x by grind]
    congr 1
    refine sm_congr _ fun i _ => ?_
    rw [pw_succ]; grind
theorem neg1 : (0 - 1 : F) + 1 = 0 := by decide +kernel
theorem m1 (x y : F) : x - y = x + y * (0 - 1) := by
  have h := neg1
  generalize (0 - 1 : F) = e at *
  grind
theorem m2 (c p q : F) : c * (p * ((0 - 1) * q)) = c * p * q * (0 - 1) := by
  generalize (0 - 1 : F) = e at *
  grind
/-- Values at the powers of one. -/
def gol (w : F) (a : List F) : List F := tab a.length fun k => hor (w ^ k) a
theorem gol_len (w : F) (a : List F) : (gol w a).length = a.length := tab_len ..
end Go.Proofs.PL

namespace Go.Proofs.PL

/-- The root of the order 2 ^ L. -/
def rt (L : Nat) : F := (of 7) ^ (N1 / 2 ^ L)
theorem N1_dvd : N1 = N1 / 2 ^ 32 * 2 ^ 32 := by decide +kernel
theorem N1_pow {L : Nat} (h : L ≤ 32) : N1 / 2 ^ L * 2 ^ L = N1 := by
  have e : N1 = (N1 / 2 ^ 32 * 2 ^ (32 - L)) * 2 ^ L := by
    rw [Nat.mul_assoc, ← Nat.pow_add, show 32 - L + L = 32 by omega]; exact N1_dvd
  exact Nat.div_mul_cancel ⟨_, (Nat.mul_comm ..).symm ▸ e⟩
theorem N1_pos {L : Nat} (h : L ≤ 32) : 0 < N1 / 2 ^ L :=
  Nat.div_pos (Nat.le_trans (Nat.pow_le_pow_right (by decide) h) (by decide +kernel)) (Nat.two_pow_pos _)
theorem rt_full {L : Nat} (h : L ≤ 32) : rt L ^ 2 ^ L = 1 := by rw [rt, ← pw_mul, N1_pow h, gen_full]
theorem rt_ne {L k : Nat} (h : L ≤ 32) (h0 : 0 < k) (h1 : k < 2 ^ L) : rt L ^ k ≠ 1 := by
  rw [rt, ← pw_mul]
  refine gen_ne (Nat.mul_pos (N1_pos h) h0) ?_
  have := Nat.mul_lt_mul_of_pos_left h1 (N1_pos h)
  rwa [N1_pow h] at this
theorem rt_sq {L : Nat} (h : L + 1 ≤ 32) : rt (L + 1) * rt (L + 1) = rt L := by
  rw [rt, ← pw_add, rt]
  congr 1
  have h1 := N1_pow h
  have h2 := N1_pow (L := L) (by omega)
  have : N1 / 2 ^ (L + 1) * 2 * 2 ^ L = N1 / 2 ^ L * 2 ^ L := by rw [h2, Nat.mul_assoc, Nat.mul_comm 2, ← Nat.pow_succ, h1]
  have := Nat.eq_of_mul_eq_mul_right (Nat.two_pow_pos L) this
  omega
theorem rt_mod {L : Nat} (h : L ≤ 32) (k : Nat) : rt L ^ k = rt L ^ (k % 2 ^ L) := by
  conv => lhs; rw [← Nat.div_add_mod k (2 ^ L)]
  rw [pw_add, pw_mul, rt_full h, one_pow]; grind
theorem rt_nz {L : Nat} (h : L ≤ 32) : rt L ≠ 0 := fun e => by
  have h1 := rt_full h
  have hp := Nat.two_pow_pos L
  rw [e, show 2 ^ L = 2 ^ L - 1 + 1 by omega, pw_succ, f_mul0] at h1
  exact one_ne_zero h1.symm
theorem ri_pow {L k : Nat} (h : L ≤ 32) (hk : k ≤ 2 ^ L) : inv (rt L) ^ k = rt L ^ ((2 ^ L - k) % 2 ^ L) := by
  rw [← rt_mod h]
  have h1 : rt L ^ k * inv (rt L) ^ k = 1 := by rw [← mul_pw, inv_top (rt_nz h), one_pow]
  have h2 : rt L ^ (2 ^ L - k) * rt L ^ k = 1 := by rw [← pw_add, Nat.sub_add_cancel hk, rt_full h]
  generalize rt L ^ k = x at *
  generalize inv (rt L) ^ k = y at *
  generalize rt L ^ (2 ^ L - k) = z at *
  have e : y = z * x * y := by rw [h2]; grind
  rw [e, show z * x * y = z * (x * y) by grind, h1]; grind
theorem ri_ne {L k : Nat} (h : L ≤ 32) (h0 : 0 < k) (h1 : k < 2 ^ L) : inv (rt L) ^ k ≠ 1 := by
  rw [ri_pow h (by omega), ← rt_mod h]
  exact rt_ne h (by omega) (by omega)
theorem ri_full {L : Nat} (h : L ≤ 32) : inv (rt L) ^ 2 ^ L = 1 := by
  rw [ri_pow h (Nat.le_refl _), Nat.sub_self, Nat.zero_mod, pw_zero]
theorem root32 : rt 32 = of 10238227357739495823651030575849232062558860180284477541189508159991286009131 := by
  rw [rt, ← bq_eq (of 7) 256 (N1 / 2 ^ 32) (by decide +kernel)]; decide +kernel

/-! ### sums of powers -/
theorem gsum (x : F) : ∀ n, sm n (fun i => x ^ i) * (x - 1) = x ^ n - 1
  | 0 => by simp only [sm]; rw [pw_zero, f_0mul]; decide +kernel
  | n + 1 => by
    have ih := gsum x n
    simp only [sm]
    rw [pw_succ]
    generalize sm n (fun i => x ^ i) = s at *
    generalize x ^ n = p at *
    grind
theorem gsum_zero {x : F} {n : Nat} (h : x ^ n = 1) (h1 : x ≠ 1) : sm n (fun i => x ^ i) = 0 := by
  have e := gsum x n
  rw [h] at e
  rcases no_zero (show sm n (fun i => x ^ i) * (x - 1) = 0 by rw [e]; decide +kernel) with e | e
  · exact e
  · exact absurd (by grind) h1
theorem sm_ones : ∀ n : Nat, sm n (fun _ => (1 : F)) = of (n : Int)
  | 0 => rfl
  | n + 1 => by simp only [sm]; rw [sm_ones n, show ((n + 1 : Nat) : Int) = (n : Int) + 1 by omega, of_add, of_one]
/-- Twice: so many times what there was. -/
theorem gol_twice {u v : F} {n : Nat} {a : List F} (ha : a.length = n) (huv : u * v = 1) (hu : u ^ n = 1) (hv : v ^ n = 1) (nu : ∀ d, 0 < d → d < n → u ^ d ≠ 1) (nv : ∀ d, 0 < d → d < n → v ^ d ≠ 1)
    {k : Nat} (hk : k < n) : hor (v ^ k) (gol u a) = of (n : Int) * a.getD k 0 := by
  rw [hor_sm, gol_len, ha]
  rw [show sm n (fun i => (gol u a).getD i 0 * (v ^ k) ^ i) = sm n (fun i => sm n (fun j => a.getD j 0 * (u ^ j * v ^ k) ^ i)) from ?_]
  · rw [sm_swap]
    rw [sm_one_at (k := k) n hk]
    · rw [← mul_pw, huv, one_pow]
      simp only [one_pow]
      rw [show (fun _ : Nat => a.getD k 0 * (1 : F)) = fun i => (fun _ : Nat => (1 : F)) i * a.getD k 0 from funext fun _ => by grind, ← sm_mulr, sm_ones]
    · intro j hj hjk
      rw [show (fun i => a.getD j 0 * (u ^ j * v ^ k) ^ i) = fun i => (fun i => (u ^ j * v ^ k) ^ i) i * a.getD j 0 from funext fun _ => by grind, ← sm_mulr, gsum_zero, f_0mul]
      · rw [mul_pw, ← pw_mul, ← pw_mul, Nat.mul_comm j, Nat.mul_comm k, pw_mul, pw_mul, hu, hv, one_pow, one_pow]; grind
      · by_cases h : j < k
        · rw [show u ^ j * v ^ k = v ^ (k - j) from ?_]
          · exact nv _ (by omega) (by omega)
          · rw [show v ^ k = v ^ j * v ^ (k - j) by rw [← pw_add]; congr 1; omega]
            have e : u ^ j * v ^ j = 1 := by rw [← mul_pw, huv, one_pow]
            generalize u ^ j = x at *
            generalize v ^ j = y at *
            generalize v ^ (k - j) = z at *
            rw [show x * (y * z) = x * y * z by grind, e]; grind
        · rw [show u ^ j * v ^ k = u ^ (j - k) from ?_]
          · exact nu _ (by omega) (by omega)
          · rw [show u ^ j = u ^ k * u ^ (j - k) by rw [← pw_add]; congr 1; omega]
            have e : u ^ k * v ^ k = 1 := by rw [← mul_pw, huv, one_pow]
            generalize u ^ k = x at *
            generalize v ^ k = y at *
            generalize u ^ (j - k) = z at *
            rw [show x * z * y = x * y * z by grind, e]; grind
  · refine sm_congr _ fun i hi => ?_
    rw [gol, tab_get, if_pos (by omega), hor_sm, sm_mulr, ha]
    refine sm_congr _ fun j _ => ?_
    rw [mul_pw, ← pw_mul u, ← pw_mul u, Nat.mul_comm i j]; grind

/-- Back from values. -/
def bak (v : F) (a : List F) : List F := tab a.length fun k => hor (v ^ k) a * inv (of (a.length : Int))
theorem bak_len (v : F) (a : List F) : (bak v a).length = a.length := tab_len ..
theorem len_nz {n : Nat} (h0 : 0 < n) (h : n ≤ 4294967296) : of (n : Int) ≠ 0 := fun e => by
  have : vi (of (n : Int)) = 0 := by rw [e, show vi 0 = 0 by decide]
  rw [vi_of, Md_eq] at this
  omega
theorem p2_le {L : Nat} (h : L ≤ 32) : 2 ^ L ≤ 4294967296 := Nat.pow_le_pow_right (n := 2) (by decide) h
theorem bak_gol {L : Nat} {a : List F} (h : L ≤ 32) (ha : a.length = 2 ^ L) : bak (inv (rt L)) (gol (rt L) a) = a := by
  refine list_ext (by rw [bak_len, gol_len]) fun k => ?_
  rw [bak, tab_get, gol_len]
  by_cases hk : k < a.length
  · rw [if_pos hk, gol_twice ha (inv_top (rt_nz h)) (rt_full h) (ri_full h) (fun d h0 h1 => rt_ne h h0 h1) (fun d h0 h1 => ri_ne h h0 h1) (by omega), ← ha]
    have := inv_top (len_nz (n := a.length) (by omega) (by rw [ha]; exact p2_le h))
    generalize inv (of (a.length : Int)) = z at *
    generalize of (a.length : Int) = y at *
    generalize a.getD k 0 = x at *
    rw [show y * x * z = x * (y * z) by grind, this]; grind
  · rw [if_neg hk, getD_ge (by omega)]
theorem hor_tab_mul (z c : F) (f : Nat → F) (n : Nat) : hor z (tab n fun k => f k * c) = hor z (tab n f) * c := by
  rw [hor_sm, hor_sm, sm_mulr, tab_len, tab_len]
  refine sm_congr _ fun i hi => ?_
  rw [tab_get, tab_get, if_pos hi, if_pos hi]; grind
theorem gol_bak {L : Nat} {a : List F} (h : L ≤ 32) (ha : a.length = 2 ^ L) : gol (rt L) (bak (inv (rt L)) a) = a := by
  refine list_ext (by rw [gol_len, bak_len]) fun k => ?_
  rw [gol, tab_get, bak_len]
  by_cases hk : k < a.length
  · rw [if_pos hk, bak, hor_tab_mul]
    have h2 := gol_twice ha (show inv (rt L) * rt L = 1 by rw [← inv_top (rt_nz h)]; grind) (ri_full h) (rt_full h) (fun d h0 h1 => ri_ne h h0 h1) (fun d h0 h1 => rt_ne h h0 h1) (k := k) (by omega)
    rw [gol, ← ha] at h2
    rw [h2]
    have := inv_top (len_nz (n := a.length) (by omega) (by rw [ha]; exact p2_le h))
    generalize inv (of (a.length : Int)) = z at *
    generalize of (a.length : Int) = y at *
    generalize a.getD k 0 = x at *
    rw [show y * x * z = x * (y * z) by grind, this]; grind
  · rw [if_neg hk, getD_ge (by omega)]
/-- As the document has it: from the values' other end. -/
theorem bak_ref {L : Nat} {a : List F} (h : L ≤ 32) (ha : a.length = 2 ^ L) : (tab a.length fun k => (gol (rt L) a).getD ((a.length - k) % a.length) 0 * inv (of (a.length : Int))) = bak (inv (rt L)) a := by
  refine list_ext (by rw [tab_len, bak_len]) fun k => ?_
  rw [bak, tab_get, tab_get]
  by_cases hk : k < a.length
  · rw [if_pos hk, if_pos hk, gol, tab_get, if_pos (Nat.mod_lt _ (by omega)), ri_pow h (by omega), ha]
  · rw [if_neg hk, if_neg hk]
/-- The place's log; 10: none. -/
def lg (n : Nat) : Option Nat := (List.range 10).find? fun i => n == 2 ^ i
theorem lg_some {n L : Nat} (h : lg n = some L) : n = 2 ^ L ∧ L ≤ 9 := by
  have h1 := List.find?_some h
  have h2 := List.mem_of_find?_eq_some h
  simp only [beq_iff_eq] at h1
  exact ⟨h1, by have := List.mem_range.1 h2; omega⟩
theorem lg_pow {L : Nat} (h : L ≤ 9) : lg (2 ^ L) = some L := by
  have : ∀ L, L < 10 → lg (2 ^ L) = some L := by decide +kernel
  exact this L (by omega)
end Go.Proofs.PL

namespace Go.Proofs.PL
def lgI (n : Nat) : Int := match lg n with
  | some L => L
  | none => -1
/-- Values at all roots; 1: no such length. -/
def goR (l : List F) : List F × Int := match lg l.length with
  | some L => (gol (rt L) l, 0)
  | none => ([], 1)
def bkR (l : List F) : List F × Int := match lg l.length with
  | some L => (bak (inv (rt L)) l, 0)
  | none => ([], 1)
theorem goR_some {l : List F} {L : Nat} (h : lg l.length = some L) : goR l = (gol (rt L) l, 0) := by simp only [goR, h]
theorem goR_none {l : List F} (h : lg l.length = none) : goR l = ([], 1) := by simp only [goR, h]
theorem bkR_some {l : List F} {L : Nat} (h : lg l.length = some L) : bkR l = (bak (inv (rt L)) l, 0) := by simp only [bkR, h]
theorem bkR_none {l : List F} (h : lg l.length = none) : bkR l = ([], 1) := by simp only [bkR, h]
theorem lgI_some {n L : Nat} (h : lg n = some L) : lgI n = L := by simp only [lgI, h]
theorem lgI_none {n : Nat} (h : lg n = none) : lgI n = -1 := by simp only [lgI, h]
theorem lg_no {n : Nat} (h : ∀ j, j < 10 → n ≠ 2 ^ j) : lg n = none := by
  cases hl : lg n with
  | none => rfl
  | some L =>
    obtain ⟨h1, h2⟩ := lg_some hl
    exact absurd h1 (h L (by omega))
/-- Each times a power. -/
def scl (z : F) (l : List F) : List F := tab l.length fun i => l.getD i 0 * z ^ i
theorem scl_len (z : F) (l : List F) : (scl z l).length = l.length := tab_len ..
theorem scl_get (z : F) (l : List F) (i : Nat) : (scl z l).getD i 0 = l.getD i 0 * z ^ i := by
  rw [scl, tab_get]
  split
  · rfl
  · rw [getD_ge (l := l) (by omega)]; grind
theorem scl_scl {y z : F} (h : y * z = 1) (l : List F) : scl z (scl y l) = l := by
  refine list_ext (by rw [scl_len, scl_len]) fun i => ?_
  rw [scl_get, scl_get]
  have e : y ^ i * z ^ i = 1 := by rw [← mul_pw, h, one_pow]
  generalize y ^ i = a at *
  generalize z ^ i = b at *
  rw [show l.getD i 0 * a * b = l.getD i 0 * (a * b) by grind, e]; grind
end Go.Proofs.PL
