/- Laws of the transforms: moves, products, sums, cosets. No conditions. -/
import Derived.Test.YthmkfabfbmkdfaaDoorGm
import Derived.Test.YthmkfabfbmkdfaaDoorGl
import Derived.Test.YthmkfabfbmkdfaaDoorPL12
set_option linter.all false
namespace Go.Proofs.PL

/-- So many, noughts behind. -/
def lng (n : Nat) (a : List F) : List F := a.take n ++ List.replicate (n - a.length) 0
theorem lng_len (n : Nat) (a : List F) : (lng n a).length = n := by
  rw [lng, List.length_append, List.length_take, List.length_replicate]; omega
theorem lng_cpy (n : Nat) (a : List F) : a.take (min a.length n) ++ (List.replicate n (0 : F)).drop (min a.length n) = lng n a := by
  rw [lng, List.drop_replicate]
  by_cases h : a.length ≤ n
  · rw [Nat.min_eq_left h, List.take_of_length_le (Nat.le_refl _), List.take_of_length_le h]
  · rw [Nat.min_eq_right (by omega), show n - a.length = 0 by omega, Nat.sub_self]
theorem hor_append (z : F) (l m : List F) : hor z (l ++ m) = hor z l + hor z m * z ^ l.length := by
  induction l with
  | nil => simp only [List.nil_append, hor, List.length_nil]; rw [pw_zero, f_0add]; grind
  | cons a l ih =>
    rw [List.cons_append, hor, hor, ih, List.length_cons, pw_succ]
    generalize z ^ l.length = p
    generalize hor z l = x
    generalize hor z m = y
    grind
theorem getD_app_l {l m : List F} {i : Nat} (h : i < l.length) : (l ++ m).getD i 0 = l.getD i 0 := by simp only [List.getD_eq_getElem?_getD, List.getElem?_append_left h]
theorem getD_app_r {l m : List F} {i : Nat} (h : l.length ≤ i) : (l ++ m).getD i 0 = m.getD (i - l.length) 0 := by simp only [List.getD_eq_getElem?_getD, List.getElem?_append_right h]
theorem gol_get (w : F) (a : List F) (k : Nat) : (gol w a).getD k 0 = if k < a.length then hor (w ^ k) a else 0 := tab_get ..
/-- Moved round by one. -/
def rot (x : List F) : List F := [x.getD (x.length - 1) 0] ++ x.take (x.length - 1)
theorem rot_len {x : List F} (h : 0 < x.length) : (rot x).length = x.length := by
  rw [rot, List.length_append, List.length_take, List.length_singleton]; omega
theorem rot_hor {x : List F} {z : F} (h : 0 < x.length) (hz : z ^ x.length = 1) : hor z (rot x) = hor z x * z := by
  have e : x = x.take (x.length - 1) ++ [x.getD (x.length - 1) 0] := by
    refine list_ext (by rw [List.length_append, List.length_take, List.length_singleton]; omega) fun i => ?_
    by_cases hi : i < x.length - 1
    · rw [getD_app_l (by rw [List.length_take]; omega), getD_take hi]
    · rw [getD_app_r (by rw [List.length_take]; omega), List.length_take, Nat.min_eq_left (by omega)]
      by_cases hi2 : i = x.length - 1
      · subst hi2; rw [Nat.sub_self]; rfl
      · rw [getD_ge (by omega), getD_ge (by rw [List.length_singleton]; omega)]
  have h2 : hor z x = hor z (x.take (x.length - 1)) + x.getD (x.length - 1) 0 * z ^ (x.length - 1) := by
    conv => lhs; rw [e]
    rw [hor_append, hor_one, List.length_take, Nat.min_eq_left (by omega)]
  have h3 : z ^ (x.length - 1) * z = 1 := by rw [← pw_succ, Nat.sub_add_cancel h]; exact hz
  rw [h2, rot, List.singleton_append, hor]
  generalize z ^ (x.length - 1) = p at *
  generalize x.getD (x.length - 1) 0 = c at *
  generalize hor z (x.take (x.length - 1)) = y at *
  rw [show (y + c * p) * z = y * z + c * (p * z) by grind, h3]; grind
theorem rt_pw_n {L : Nat} (h : L ≤ 32) (i : Nat) : (rt L ^ i) ^ 2 ^ L = 1 := by rw [← pw_mul, Nat.mul_comm, pw_mul, rt_full h, one_pow]
theorem moves {L : Nat} {x : List F} (h : L ≤ 32) (hx : x.length = 2 ^ L) {i : Nat} (hi : i < x.length) : (gol (rt L) (rot x)).getD i 0 = (gol (rt L) x).getD i 0 * rt L ^ i := by
  rw [gol, gol, tab_get, tab_get, rot_len (by omega), if_pos hi, if_pos hi, rot_hor (by omega) (by rw [hx]; exact rt_pw_n h i)]

theorem hor_set (z v : F) : ∀ (l : List F) (p : Nat), p < l.length → hor z (l.set p (l.getD p 0 + v)) = hor z l + v * z ^ p
  | [], p, h => by simp at h
  | a :: l, 0, _ => by simp only [List.set_cons_zero, List.getD_cons_zero, hor]; rw [pw_zero]; grind
  | a :: l, p + 1, h => by
    simp only [List.set_cons_succ, List.getD_cons_succ, hor]
    rw [hor_set z v l p (by simpa using h), pw_succ]
    generalize z ^ p = q
    generalize hor z l = x
    grind
/-- A row of a product modulo X^n - 1. -/
def cyJ (c : F) (i n : Nat) (y o : List F) : Nat → List F
  | 0 => o
  | k + 1 => (cyJ c i n y o k).set ((i + k) % n) ((cyJ c i n y o k).getD ((i + k) % n) 0 + c * y.getD k 0)
theorem cyJ_len (c : F) (i n : Nat) (y o : List F) : ∀ k, (cyJ c i n y o k).length = o.length
  | 0 => rfl
  | k + 1 => by simp only [cyJ, List.length_set]; exact cyJ_len c i n y o k
def cyI (n : Nat) (x y : List F) : Nat → List F
  | 0 => List.replicate n 0
  | i + 1 => cyJ (x.getD i 0) i n y (cyI n x y i) n
theorem cyI_len (n : Nat) (x y : List F) : ∀ i, (cyI n x y i).length = n
  | 0 => by simp [cyI]
  | i + 1 => by simp only [cyI, cyJ_len]; exact cyI_len n x y i
theorem pw_mod {z : F} {n : Nat} (hz : z ^ n = 1) (k : Nat) : z ^ (k % n) = z ^ k := by
  conv => rhs; rw [← Nat.div_add_mod k n]
  rw [pw_add, pw_mul, hz, one_pow]; grind
theorem cyJ_hor {z : F} {n : Nat} (hn : 0 < n) (hz : z ^ n = 1) (c : F) (i : Nat) (y o : List F) (ho : o.length = n) : ∀ k, hor z (cyJ c i n y o k) = hor z o + c * z ^ i * sm k (fun j => y.getD j 0 * z ^ j)
  | 0 => by simp only [cyJ, sm]; rw [f_mul0, f_add0]
  | k + 1 => by
    simp only [cyJ, sm]
    rw [hor_set z _ _ _ (by rw [cyJ_len, ho]; exact Nat.mod_lt _ hn), cyJ_hor hn hz c i y o ho k, pw_mod hz, pw_add]
    generalize z ^ i = p
    generalize z ^ k = q
    generalize hor z o = a
    generalize sm k (fun j => y.getD j 0 * z ^ j) = b
    generalize y.getD k 0 = d
    grind
theorem hor_zero (z : F) (n : Nat) : hor z (List.replicate n 0) = 0 := by
  induction n with
  | zero => rfl
  | succ n ih => rw [List.replicate_succ, hor, ih, f_0mul]; exact zz
theorem cyI_hor {z : F} {n : Nat} (hn : 0 < n) (hz : z ^ n = 1) (x y : List F) (hy : y.length = n) : ∀ i, hor z (cyI n x y i) = sm i (fun j => x.getD j 0 * z ^ j) * hor z y
  | 0 => by simp only [cyI, sm]; rw [hor_zero, f_0mul]
  | i + 1 => by
    simp only [cyI, sm]
    rw [cyJ_hor hn hz _ i y _ (cyI_len n x y i), cyI_hor hn hz x y hy i, hor_sm z y, hy]
    generalize sm n (fun j => y.getD j 0 * z ^ j) = b
    generalize sm i (fun j => x.getD j 0 * z ^ j) = a
    generalize x.getD i 0 = c
    generalize z ^ i = p
    grind
theorem prods {L : Nat} {x y : List F} (h : L ≤ 32) (hx : x.length = 2 ^ L) (hy : y.length = 2 ^ L) :
    bak (inv (rt L)) (tab (2 ^ L) fun i => (gol (rt L) x).getD i 0 * (gol (rt L) y).getD i 0) = cyI (2 ^ L) x y (2 ^ L) := by
  have hp := Nat.two_pow_pos L
  rw [← bak_gol h (a := cyI (2 ^ L) x y (2 ^ L)) (cyI_len ..)]
  congr 1
  refine list_ext (by rw [tab_len, gol_len, cyI_len]) fun i => ?_
  rw [tab_get, gol_get (rt L) (cyI _ _ _ _), cyI_len, gol_get, gol_get, hx, hy]
  by_cases hi : i < 2 ^ L
  · rw [if_pos hi, if_pos hi, if_pos hi, if_pos hi, cyI_hor hp (rt_pw_n h i) x y hy, hor_sm _ x, hx]
  · rw [if_neg hi, if_neg hi]
theorem sums {L : Nat} {x y : List F} (h : L ≤ 32) (hx : x.length = 2 ^ L) (hy : y.length = 2 ^ L) :
    bak (inv (rt L)) (tab (2 ^ L) fun i => (gol (rt L) x).getD i 0 + (gol (rt L) y).getD i 0) = bth (fun a b => a + b) x y := by
  rw [← bak_gol h (a := bth (fun a b => a + b) x y) (by rw [bth_len, hx, hy]; exact Nat.max_self _)]
  congr 1
  refine list_ext (by rw [tab_len, gol_len, bth_len, hx, hy, Nat.max_self]) fun i => ?_
  rw [tab_get, gol_get (rt L) (bth _ _ _), bth_len, gol_get, gol_get, hx, hy, Nat.max_self]
  by_cases hi : i < 2 ^ L
  · rw [if_pos hi, if_pos hi, if_pos hi, if_pos hi, ← add_hor, hor_cut0]
  · rw [if_neg hi, if_neg hi]
/-- Back from a coset. -/
def ucR (z : F) (l : List F) : List F × Int := match lg l.length with
  | some L => if z = 0 then ([], 7) else (scl (inv z) (bak (inv (rt L)) l), 0)
  | none => ([], 1)
theorem cosets {L : Nat} {a : List F} {z : F} (h : L ≤ 32) (ha : a.length = 2 ^ L) (hz : z ≠ 0) : gol (rt L) (scl z (scl (inv z) (bak (inv (rt L)) a))) = a := by
  rw [scl_scl (show inv z * z = 1 by rw [← inv_top hz]; grind), gol_bak h ha]
theorem fours (w a b c d : F) (h : w * w = 0 - 1) : gol w [a, b, c, d] = [a + c + (b + d), a - c + (b - d) * w, a + c - (b + d), a - c - (b - d) * w] := by
  have h0 : w ^ 0 = 1 := pw_zero w
  have h1 : w ^ 1 = w := pw_one w
  have h2 : w ^ 2 = 0 - 1 := by rw [show (2 : Nat) = 1 + 1 from rfl, pw_succ, pw_one, h]
  have h3 : w ^ 3 = (0 - 1) * w := by rw [show (3 : Nat) = 2 + 1 from rfl, pw_succ, h2]
  have hn := neg1
  simp only [gol, tab, List.length_cons, List.length_nil, show List.range 4 = [0, 1, 2, 3] from rfl, List.map_cons, List.map_nil, hor, h0, h1, h2, h3, Nat.zero_add, Nat.reduceAdd]
  generalize (0 - 1 : F) = e at *
  refine List.cons_eq_cons.2 ⟨by grind, List.cons_eq_cons.2 ⟨by grind, List.cons_eq_cons.2 ⟨by grind, List.cons_eq_cons.2 ⟨by grind, rfl⟩⟩⟩⟩
end Go.Proofs.PL
