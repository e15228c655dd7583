/- A polynomial has no more roots than its degree. No conditions. -/
import Derived.Test.YthmkfabfbmkdfaaDoorGm
import Derived.Test.YthmkfabfbmkdfaaDoorGl
import Derived.Test.YthmkfabfbmkdfaaDoorGf
import Derived.Test.YthmkfabfbmkdfaaDoorGn
import Derived.Test.YthmkfabfbmkdfaaDoorGj
set_option linter.all false
namespace Go.Proofs.PL

theorem hor_cut0 (z : F) (a : List F) : hor z (cut a) = hor z a := hor_ext z _ _ (cut_get a)
theorem hor_one (x c : F) : hor x [c] = c := by simp only [hor]; grind
end Go.Proofs.PL

namespace Go.Proofs.PL

theorem hor_append (z : F) (l m : List F) : hor z (l ++ m) = hor z l + hor z m * z ^ l.length := by
  induction l with
  | nil => simp only [List.nil_append, hor, List.length_nil]; rw [pw_zero, f_0add]; grind
  | cons a l ih =>
    rw [List.cons_append, hor, hor, ih, List.length_cons, pw_succ]
    generalize z ^ l.length = p
    generalize hor z l = x
    generalize hor z m = y
    grind
theorem getD_app_l {l m : List F} {i : Nat} (h : i < l.length) : (l ++ m).getD i 0 = l.getD i 0 := by simp only [List.getD_eq_getElem?_getD, List.getElem?_append_left h]
theorem getD_app_r {l m : List F} {i : Nat} (h : l.length ≤ i) : (l ++ m).getD i 0 = m.getD (i - l.length) 0 := by simp only [List.getD_eq_getElem?_getD, List.getElem?_append_right h]
theorem gol_get (w : F) (a : List F) (k : Nat) : (gol w a).getD k 0 = if k < a.length then hor (w ^ k) a else 0 := tab_get ..
/-- Moved round by one. -/
def rot (x : List F) : List F := [x.getD (x.length - 1) 0] ++ x.take (x.length - 1)
theorem rot_len {x : List F} (h : 0 < x.length) : (rot x).length = x.length := by
  rw [rot, List.length_append, List.length_take, List.length_singleton]; omega
theorem rot_hor {x : List F} {z : F} (h : 0 < x.length) (hz : z ^ x.length = 1) : hor z (rot x) = hor z x * z := by
  have e : x = x.take (x.length - 1) ++ [x.getD (x.length - 1) 0] := by
    refine list_ext (by rw [List.length_append, List.length_take, List.length_singleton]; omega) fun i => ?_
    by_cases hi : i < x.length - 1
    · rw [getD_app_l (by rw [List.length_take]; omega), getD_take hi]
    · rw [getD_app_r (by rw [List.length_take]; omega), List.length_take, Nat.min_eq_left (by omega)]
      by_cases hi2 : i = x.length - 1
      · subst hi2; rw [Nat.sub_self]; rfl
      · rw [getD_ge (by omega), getD_ge (by rw [List.length_singleton]; omega)]
  have h2 : hor z x = hor z (x.take (x.length - 1)) + x.getD (x.length - 1) 0 * z ^ (x.length - 1) := by
    conv => lhs; rw [e]
    rw [hor_append, hor_one, List.length_take, Nat.min_eq_left (by omega)]
  have h3 : z ^ (x.length - 1) * z = 1 := by rw [← pw_succ, Nat.sub_add_cancel h]; exact hz
  rw [h2, rot, List.singleton_append, hor]
  generalize z ^ (x.length - 1) = p at *
  generalize x.getD (x.length - 1) 0 = c at *
  generalize hor z (x.take (x.length - 1)) = y at *
  rw [show (y + c * p) * z = y * z + c * (p * z) by grind, h3]; grind
theorem rt_pw_n {L : Nat} (h : L ≤ 32) (i : Nat) : (rt L ^ i) ^ 2 ^ L = 1 := by rw [← pw_mul, Nat.mul_comm, pw_mul, rt_full h, one_pow]
theorem moves {L : Nat} {x : List F} (h : L ≤ 32) (hx : x.length = 2 ^ L) {i : Nat} (hi : i < x.length) : (gol (rt L) (rot x)).getD i 0 = (gol (rt L) x).getD i 0 * rt L ^ i := by
  rw [gol, gol, tab_get, tab_get, rot_len (by omega), if_pos hi, if_pos hi, rot_hor (by omega) (by rw [hx]; exact rt_pw_n h i)]

theorem hor_set (z v : F) : ∀ (l : List F) (p : Nat), p < l.length → hor z (l.set p (l.getD p 0 + v)) = hor z l + v * z ^ p
  | [], p, h => by simp at h
  | a :: l, 0, _ => by simp only [List.set_cons_zero, List.getD_cons_zero, hor]; rw [pw_zero]; grind
  | a :: l, p + 1, h => by
    simp only [List.set_cons_succ, List.getD_cons_succ, hor]
    rw [hor_set z v l p (by simpa using h), pw_succ]
    generalize z ^ p = q
    generalize hor z l = x
    grind
theorem pw_mod {z : F} {n : Nat} (hz : z ^ n = 1) (k : Nat) : z ^ (k % n) = z ^ k := by
  conv => rhs; rw [← Nat.div_add_mod k n]
  rw [pw_add, pw_mul, hz, one_pow]; grind
theorem hor_zero (z : F) (n : Nat) : hor z (List.replicate n 0) = 0 := by
  induction n with
  | zero => rfl
  | succ n ih => rw [List.replicate_succ, hor, ih, f_0mul]; exact zz
theorem sums {L : Nat} {x y : List F} (h : L ≤ 32) (hx : x.length = 2 ^ L) (hy : y.length = 2 ^ L) :
    bak (inv (rt L)) (tab (2 ^ L) fun i => (gol (rt L) x).getD i 0 + (gol (rt L) y).getD i 0) = bth (fun a b => a + b) x y := by
  rw [← bak_gol h (a := bth (fun a b => a + b) x y) (by rw [bth_len, hx, hy]; exact Nat.max_self _)]
  congr 1
  refine list_ext (by rw [tab_len, gol_len, bth_len, hx, hy, Nat.max_self]) fun i => ?_
  rw [tab_get, gol_get (rt L) (bth _ _ _), bth_len, gol_get, gol_get, hx, hy, Nat.max_self]
  by_cases hi : i < 2 ^ L
  · rw [if_pos hi, if_pos hi, if_pos hi, if_pos hi, ← add_hor, hor_cut0]
  · rw [if_neg hi, if_neg hi]
theorem cosets {L : Nat} {a : List F} {z : F} (h : L ≤ 32) (ha : a.length = 2 ^ L) (hz : z ≠ 0) : gol (rt L) (scl z (scl (inv z) (bak (inv (rt L)) a))) = a := by
  rw [scl_scl (show inv z * z = 1 by rw [← inv_top hz]; grind), gol_bak h ha]
end Go.Proofs.PL

namespace Go.Proofs.PL

def uv (n i : Nat) : List F := (List.replicate n (0 : F)).set i 1
theorem uv_len (n i : Nat) : (uv n i).length = n := by rw [uv, List.length_set, List.length_replicate]
theorem uv_hor (z : F) {n i : Nat} (h : i < n) : hor z (uv n i) = z ^ i := by
  have h1 := hor_set z 1 (List.replicate n 0) i (by rw [List.length_replicate]; exact h)
  rw [rep_get, f_0add, hor_zero, f_0add] at h1
  rw [uv, h1]; grind
/-- A basis' value. -/
def lagL (L i : Nat) (x : F) : F := if x = rt L ^ i then 1 else rt L ^ i * (x ^ 2 ^ L - 1) * inv (of ((2 ^ L : Nat) : Int) * (x - rt L ^ i))
def lgs (L i : Nat) (x : F) : F := hor x (bak (inv (rt L)) (uv (2 ^ L) i))
theorem p2_nz {L : Nat} (h : L ≤ 32) : of ((2 ^ L : Nat) : Int) ≠ 0 := len_nz (Nat.two_pow_pos L) (p2_le h)
theorem bak_hor (v x : F) (u : List F) : hor x (bak v u) = sm u.length (fun k => hor (v ^ k) u * x ^ k) * inv (of (u.length : Int)) := by
  rw [bak, hor_tab_mul, hor_sm, tab_len]
  congr 1
  refine sm_congr _ fun k hk => ?_
  rw [tab_get, if_pos hk]
theorem lag_alg {S IN N x W ID y X : F} (hn : N * IN = 1) (hD : N * (x - W) * ID = 1) (hxW : x - W = W * (y - 1)) (hS : S * (y - 1) = X - 1) : S * IN = W * (X - 1) * ID := by
  have e1 : S * IN = S * IN * (N * (x - W) * ID) := by rw [hD]; grind
  have e2 : S * IN * (N * (x - W) * ID) = S * (N * IN) * (x - W) * ID := by
    generalize x - W = d
    grind
  have e3 : S * (N * IN) * (x - W) * ID = S * (x - W) * ID := by
    rw [hn]
    generalize x - W = d
    grind
  rw [e1, e2, e3, hxW, ← hS]
  generalize y - 1 = d
  grind
theorem lgs_eq {L i : Nat} (h : L ≤ 32) (hi : i < 2 ^ L) (x : F) : lgs L i x = lagL L i x := by
  have hwv : rt L ^ i * inv (rt L) ^ i = 1 := by rw [← mul_pw, inv_top (rt_nz h), one_pow]
  have hvn : (inv (rt L) ^ i) ^ 2 ^ L = 1 := by rw [← pw_mul, Nat.mul_comm, pw_mul, ri_full h, one_pow]
  have hn := inv_top (p2_nz h)
  rw [lgs, bak_hor, uv_len]
  rw [show sm (2 ^ L) (fun k => hor (inv (rt L) ^ k) (uv (2 ^ L) i) * x ^ k) = sm (2 ^ L) (fun k => (inv (rt L) ^ i * x) ^ k) from sm_congr _ fun k _ => by
    rw [uv_hor _ hi, mul_pw, ← pw_mul, ← pw_mul, Nat.mul_comm]]
  rw [lagL]
  by_cases e : x = rt L ^ i
  · rw [if_pos e, e, show inv (rt L) ^ i * rt L ^ i = 1 by rw [← hwv]; grind]
    simp only [one_pow]
    rw [sm_ones, hn]
  · rw [if_neg e]
    have hS := gsum (inv (rt L) ^ i * x) (2 ^ L)
    rw [mul_pw, hvn] at hS
    obtain ⟨W, hW⟩ : ∃ W, rt L ^ i = W := ⟨_, rfl⟩
    obtain ⟨V, hV⟩ : ∃ V, inv (rt L) ^ i = V := ⟨_, rfl⟩
    rw [hW] at hwv e
    rw [hV] at hwv hS
    rw [hW, hV]
    clear hW hV hvn
    have hxW : x - W = W * (V * x - 1) := by
      have : W * (V * x - 1) = W * V * x - W := by grind
      rw [this, hwv]; grind
    have hd : of ((2 ^ L : Nat) : Int) * (x - W) ≠ 0 := fun h0 => by
      rcases no_zero h0 with h1 | h1
      · exact p2_nz h h1
      · exact e (by grind)
    have hD := inv_top hd
    generalize sm (2 ^ L) (fun k => (V * x) ^ k) = S at *
    generalize of ((2 ^ L : Nat) : Int) = N at *
    generalize inv N = IN at *
    generalize inv (N * (x - W)) = ID at *
    generalize x ^ 2 ^ L = X at *
    exact lag_alg hn hD hxW (by rw [hS]; grind)
/-- A polynomial folded to so many coefficients. -/
def fdS (n : Nat) (a : List F) : Nat → List F
  | 0 => List.replicate n 0
  | i + 1 => (fdS n a i).set (i % n) ((fdS n a i).getD (i % n) 0 + a.getD i 0)
theorem fdS_len (n : Nat) (a : List F) : ∀ i, (fdS n a i).length = n
  | 0 => by simp [fdS]
  | i + 1 => by simp only [fdS, List.length_set]; exact fdS_len n a i
theorem fdS_hor {z : F} {n : Nat} (hn : 0 < n) (hz : z ^ n = 1) (a : List F) : ∀ i, hor z (fdS n a i) = sm i (fun j => a.getD j 0 * z ^ j)
  | 0 => by simp only [fdS, sm]; exact hor_zero z n
  | i + 1 => by
    simp only [fdS, sm]
    rw [hor_set z _ _ _ (by rw [fdS_len]; exact Nat.mod_lt _ hn), fdS_hor hn hz a i, pw_mod hz]
/-- A polynomial's values at all roots. -/
def vlR (L : Nat) (a : List F) : List F := tab (2 ^ L) fun k => hor (rt L ^ k) a
theorem vlR_len (L : Nat) (a : List F) : (vlR L a).length = 2 ^ L := tab_len ..
theorem vl_fold {L : Nat} (h : L ≤ 32) (a : List F) : gol (rt L) (fdS (2 ^ L) a a.length) = vlR L a := by
  refine list_ext (by rw [gol_len, fdS_len, vlR_len]) fun k => ?_
  rw [gol_get, fdS_len, vlR, tab_get]
  by_cases hk : k < 2 ^ L
  · rw [if_pos hk, if_pos hk, fdS_hor (Nat.two_pow_pos L) (rt_pw_n h k), ← hor_sm]
  · rw [if_neg hk, if_neg hk]
end Go.Proofs.PL

namespace Go.Proofs.Tryd.PMT
open Go Go.Proofs.PM Go.Proofs.Tryd
def pc_intaglioref12_Of : Pc := (.seq (.rgn [⟨(some 2), none, .nil 33 (.arr 4 .one)⟩, ⟨(some 3), none, .mv (.cst (.val (.int .i64 0)))⟩]) (.seq (.rgn [⟨(some 7), none, .mv (.tmp 0)⟩, ⟨(some 8), none, .call 18 false [((.tmp 7), (some (.arr 4 .one)))]⟩, ⟨(some 6), none, .mv (.tmp 8)⟩, ⟨(some 9), none, .ext (.tmp 6) 0⟩, ⟨(some 10), none, .ext (.tmp 6) 1⟩, ⟨(some 4), none, .mv (.tmp 9)⟩, ⟨(some 5), none, .mv (.tmp 10)⟩]) (.seq (.rgn [⟨(some 11), none, .mv (.tmp 4)⟩, ⟨(some 12), none, .call 43 false [((.tmp 11), (some (.arr 4 .one)))]⟩, ⟨(some 13), none, .mv (.tmp 5)⟩, ⟨(some 2), none, .mv (.tmp 12)⟩, ⟨(some 3), none, .mv (.tmp 13)⟩]) .ret)))
theorem pc_intaglioref12_Of_ok : f35.body.bind (compile TT 90) = some pc_intaglioref12_Of := by kernel_rfl
theorem sp_intaglioref12_Of {args : List PV} {own : List Ob} {K : PV → List Ob → Prop} (h : pwp prog pc_intaglioref12_Of (retQ [.tmp 2, .tmp 3] own K) (stIn 14 args own)) : PSpec prog 35 args own K := spec func35 pc_intaglioref12_Of_ok (by kernel_rfl) (by kernel_rfl) h
def pc_intaglioref12_Values : Pc := (.seq (.rgn [⟨(some 4), none, .nil 33 (.arr 4 .one)⟩]) (.seq (.rgn [⟨(some 11), none, .mv (.tmp 1)⟩, ⟨(some 12), none, .call 23 false [((.tmp 11), none)]⟩, ⟨(some 10), none, .mv (.tmp 12)⟩, ⟨(some 13), none, .ext (.tmp 10) 0⟩, ⟨(some 14), none, .ext (.tmp 10) 1⟩, ⟨(some 5), none, .alloc (.arr 4 .one) (.agg [(.val (.int .u64 0)), (.val (.int .u64 0)), (.val (.int .u64 0)), (.val (.int .u64 0))])⟩, ⟨none, none, .store (.arr 4 .one) (.tmp 5) (.tmp 13)⟩, ⟨(some 6), none, .mv (.tmp 14)⟩]) (.seq (.rgn [⟨(some 7), none, .nil 33 (.arr 4 .one)⟩]) (.seq (.rgn [⟨(some 15), none, .call 24 false [((.cst (.val (.int .u64 1))), none)]⟩, ⟨(some 8), none, .alloc (.arr 4 .one) (.agg [(.val (.int .u64 0)), (.val (.int .u64 0)), (.val (.int .u64 0)), (.val (.int .u64 0))])⟩, ⟨none, none, .store (.arr 4 .one) (.tmp 8) (.tmp 15)⟩]) (.seq (.seq (.rgn [⟨(some 9), none, .mv (.cst (.val (.int .i64 0)))⟩]) (.block 0 (.loop (.seq (.seq (.rgn [⟨(some 16), none, .mv (.tmp 9)⟩, ⟨(some 17), none, .mv (.tmp 1)⟩, ⟨(some 18), none, .bin .shl (.cst (.val (.int .i64 1))) (.tmp 17)⟩, ⟨(some 19), none, .bin .lss (.tmp 16) (.tmp 18)⟩]) (.cond (.tmp 19) .skip (.exit 0))) (.seq (.block 1 (.seq (.rgn [⟨(some 22), none, .mv (.tmp 7)⟩, ⟨(some 23), none, .mv (.tmp 0)⟩, ⟨(some 24), none, .load (.arr 4 .one) (.tmp 8)⟩, ⟨(some 25), none, .call 36 false [((.tmp 23), (some (.arr 4 .one))), ((.tmp 24), none)]⟩, ⟨(some 26), none, .bsl 33 (.arr 4 .one) (.agg [(.val (.int .u64 0)), (.val (.int .u64 0)), (.val (.int .u64 0)), (.val (.int .u64 0))]) 1 [(0, (.tmp 25))]⟩, ⟨(some 27), none, .app 33 (.arr 4 .one) 32 (.tmp 22) (.tmp 26)⟩, ⟨(some 7), none, .mv (.tmp 27)⟩]) (.rgn [⟨(some 28), none, .load (.arr 4 .one) (.tmp 8)⟩, ⟨(some 29), none, .load (.arr 4 .one) (.tmp 5)⟩, ⟨(some 30), none, .call 21 false [((.tmp 28), none), ((.tmp 29), none)]⟩, ⟨none, none, .store (.arr 4 .one) (.tmp 8) (.tmp 30)⟩]))) (.rgn [⟨(some 20), none, .mv (.tmp 9)⟩, ⟨(some 21), none, .bin .add (.tmp 20) (.cst (.val (.int .i64 1)))⟩, ⟨(some 9), none, .mv (.tmp 21)⟩])))))) (.seq (.rgn [⟨(some 31), none, .mv (.tmp 7)⟩, ⟨(some 4), none, .mv (.tmp 31)⟩]) .ret))))))
theorem pc_intaglioref12_Values_ok : f39.body.bind (compile TT 90) = some pc_intaglioref12_Values := by kernel_rfl
theorem sp_intaglioref12_Values {args : List PV} {own : List Ob} {K : PV → List Ob → Prop} (h : pwp prog pc_intaglioref12_Values (retQ [.tmp 4] own K) (stIn 32 args own)) : PSpec prog 39 args own K := spec func39 pc_intaglioref12_Values_ok (by kernel_rfl) (by kernel_rfl) h
def pc_intaglioref12_Z : Pc := (.seq (.rgn [⟨(some 3), none, .box (.arr 4 .one) (.tmp 1)⟩, ⟨(some 4), none, .alloc (.arr 4 .one) (.agg [(.val (.int .u64 0)), (.val (.int .u64 0)), (.val (.int .u64 0)), (.val (.int .u64 0))])⟩]) (.seq (.seq (.rgn [⟨(some 5), none, .mv (.cst (.val (.int .i64 0)))⟩]) (.block 0 (.loop (.seq (.seq (.rgn [⟨(some 6), none, .mv (.tmp 5)⟩, ⟨(some 7), none, .mv (.tmp 0)⟩, ⟨(some 8), none, .bin .lss (.tmp 6) (.tmp 7)⟩]) (.cond (.tmp 8) .skip (.exit 0))) (.seq (.block 1 (.rgn [⟨(some 11), none, .load (.arr 4 .one) (.tmp 3)⟩, ⟨(some 12), none, .load (.arr 4 .one) (.tmp 3)⟩, ⟨(some 13), none, .call 21 false [((.tmp 11), none), ((.tmp 12), none)]⟩, ⟨none, none, .store (.arr 4 .one) (.tmp 3) (.tmp 13)⟩])) (.rgn [⟨(some 9), none, .mv (.tmp 5)⟩, ⟨(some 10), none, .bin .add (.tmp 9) (.cst (.val (.int .i64 1)))⟩, ⟨(some 5), none, .mv (.tmp 10)⟩])))))) (.seq (.drgn 4 [⟨0, false, ⟨(some 14), none, .load (.arr 4 .one) (.tmp 3)⟩⟩, ⟨1, true, ⟨(some 15), none, .call 24 false [((.cst (.val (.int .u64 1))), none)]⟩⟩, ⟨2, false, ⟨(some 16), none, .call 65 false [((.tmp 14), none), ((.tmp 15), none)]⟩⟩, ⟨3, false, ⟨none, none, .store (.arr 4 .one) (.tmp 4) (.tmp 16)⟩⟩]) .ret)))
theorem pc_intaglioref12_Z_ok : f38.body.bind (compile TT 90) = some pc_intaglioref12_Z := by kernel_rfl
theorem sp_intaglioref12_Z {args : List PV} {own : List Ob} {K : PV → List Ob → Prop} (h : pwp prog pc_intaglioref12_Z (retQ [.cell 4 (.arr 4 .one)] own K) (stIn 17 args own)) : PSpec prog 38 args own K := spec func38 pc_intaglioref12_Z_ok (by kernel_rfl) (by kernel_rfl) h
def pc_intaglioref12_L : Pc := (.seq (.rgn [⟨(some 5), none, .box (.arr 4 .one) (.tmp 2)⟩, ⟨(some 6), none, .alloc (.arr 4 .one) (.agg [(.val (.int .u64 0)), (.val (.int .u64 0)), (.val (.int .u64 0)), (.val (.int .u64 0))])⟩]) (.seq (.rgn [⟨(some 10), none, .mv (.tmp 0)⟩, ⟨(some 11), none, .bin .shl (.cst (.val (.int .i64 1))) (.tmp 10)⟩, ⟨(some 12), none, .mksl 33 (.arr 4 .one) 32 (.agg [(.val (.int .u64 0)), (.val (.int .u64 0)), (.val (.int .u64 0)), (.val (.int .u64 0))]) (.tmp 11) (.tmp 11)⟩, ⟨(some 7), none, .mv (.tmp 12)⟩]) (.seq (.rgn [⟨(some 13), none, .mv (.tmp 7)⟩, ⟨(some 14), none, .mv (.tmp 1)⟩, ⟨(some 15), none, .call 24 false [((.cst (.val (.int .u64 1))), none)]⟩, ⟨(some 16), none, .iaddrs (.arr 4 .one) (.tmp 13) (.tmp 14)⟩, ⟨none, none, .store (.arr 4 .one) (.tmp 16) (.tmp 15)⟩]) (.seq (.rgn [⟨(some 18), none, .mv (.tmp 7)⟩, ⟨(some 19), none, .call 35 false [((.tmp 18), (some (.arr 4 .one)))]⟩, ⟨(some 17), none, .mv (.tmp 19)⟩, ⟨(some 20), none, .ext (.tmp 17) 0⟩, ⟨(some 21), none, .ext (.tmp 17) 1⟩, ⟨(some 8), none, .mv (.tmp 20)⟩, ⟨(some 9), none, .mv (.tmp 21)⟩]) (.seq (.rgn [⟨(some 22), none, .mv (.tmp 8)⟩, ⟨(some 23), none, .load (.arr 4 .one) (.tmp 5)⟩, ⟨(some 24), none, .call 36 false [((.tmp 22), (some (.arr 4 .one))), ((.tmp 23), none)]⟩, ⟨none, none, .store (.arr 4 .one) (.tmp 6) (.tmp 24)⟩]) .ret)))))
theorem pc_intaglioref12_L_ok : f40.body.bind (compile TT 90) = some pc_intaglioref12_L := by kernel_rfl
theorem sp_intaglioref12_L {args : List PV} {own : List Ob} {K : PV → List Ob → Prop} (h : pwp prog pc_intaglioref12_L (retQ [.cell 6 (.arr 4 .one)] own K) (stIn 25 args own)) : PSpec prog 40 args own K := spec func40 pc_intaglioref12_L_ok (by kernel_rfl) (by kernel_rfl) h
def pc_lagrange_Of : Pc := (.seq (.rgn [⟨(some 2), none, .nil 33 (.arr 4 .one)⟩, ⟨(some 3), none, .mv (.cst (.val (.int .i64 0)))⟩]) (.seq (.rgn [⟨(some 7), none, .mv (.tmp 0)⟩, ⟨(some 8), none, .call 17 false [((.tmp 7), (some (.arr 4 .one)))]⟩, ⟨(some 6), none, .mv (.tmp 8)⟩, ⟨(some 9), none, .ext (.tmp 6) 0⟩, ⟨(some 10), none, .ext (.tmp 6) 1⟩, ⟨(some 4), none, .mv (.tmp 9)⟩, ⟨(some 5), none, .mv (.tmp 10)⟩]) (.seq (.seq (.rgn [⟨(some 11), none, .mv (.tmp 5)⟩, ⟨(some 12), none, .bin .neq (.tmp 11) (.cst (.val (.int .i64 0)))⟩]) (.cond (.tmp 12) (.seq (.rgn [⟨(some 13), none, .mv (.tmp 5)⟩, ⟨(some 2), none, .nil 33 (.arr 4 .one)⟩, ⟨(some 3), none, .mv (.tmp 13)⟩]) .ret) .skip)) (.seq (.rgn [⟨(some 14), none, .mv (.tmp 4)⟩, ⟨(some 15), none, .call 64 false [((.tmp 14), (some (.arr 4 .one)))]⟩, ⟨(some 2), none, .mv (.tmp 15)⟩, ⟨(some 3), none, .mv (.cst (.val (.int .i64 0)))⟩]) .ret))))
theorem pc_lagrange_Of_ok : f34.body.bind (compile TT 90) = some pc_lagrange_Of := by kernel_rfl
theorem sp_lagrange_Of {args : List PV} {own : List Ob} {K : PV → List Ob → Prop} (h : pwp prog pc_lagrange_Of (retQ [.tmp 2, .tmp 3] own K) (stIn 16 args own)) : PSpec prog 34 args own K := spec func34 pc_lagrange_Of_ok (by kernel_rfl) (by kernel_rfl) h
def pc_lagrange_At : Pc := (.seq (.rgn [⟨(some 3), none, .box (.arr 4 .one) (.tmp 1)⟩, ⟨(some 4), none, .alloc (.arr 4 .one) (.agg [(.val (.int .u64 0)), (.val (.int .u64 0)), (.val (.int .u64 0)), (.val (.int .u64 0))])⟩, ⟨(some 5), none, .mv (.cst (.val (.int .i64 0)))⟩]) (.seq (.rgn [⟨(some 9), none, .mv (.tmp 0)⟩, ⟨(some 10), none, .call 34 false [((.tmp 9), (some (.arr 4 .one)))]⟩, ⟨(some 8), none, .mv (.tmp 10)⟩, ⟨(some 11), none, .ext (.tmp 8) 0⟩, ⟨(some 12), none, .ext (.tmp 8) 1⟩, ⟨(some 6), none, .mv (.tmp 11)⟩, ⟨(some 7), none, .mv (.tmp 12)⟩]) (.seq (.seq (.rgn [⟨(some 13), none, .mv (.tmp 7)⟩, ⟨(some 14), none, .bin .neq (.tmp 13) (.cst (.val (.int .i64 0)))⟩]) (.cond (.tmp 14) (.seq (.rgn [⟨(some 15), none, .build (.arr 4 .one) (.agg [(.val (.int .u64 0)), (.val (.int .u64 0)), (.val (.int .u64 0)), (.val (.int .u64 0))]) []⟩, ⟨(some 16), none, .mv (.tmp 7)⟩, ⟨none, none, .store (.arr 4 .one) (.tmp 4) (.tmp 15)⟩, ⟨(some 5), none, .mv (.tmp 16)⟩]) .ret) .skip)) (.seq (.rgn [⟨(some 17), none, .mv (.tmp 6)⟩, ⟨(some 18), none, .load (.arr 4 .one) (.tmp 3)⟩, ⟨(some 19), none, .call 62 false [((.tmp 17), (some (.arr 4 .one))), ((.tmp 18), none)]⟩, ⟨none, none, .store (.arr 4 .one) (.tmp 4) (.tmp 19)⟩, ⟨(some 5), none, .mv (.cst (.val (.int .i64 0)))⟩]) .ret))))
theorem pc_lagrange_At_ok : f31.body.bind (compile TT 90) = some pc_lagrange_At := by kernel_rfl
theorem sp_lagrange_At {args : List PV} {own : List Ob} {K : PV → List Ob → Prop} (h : pwp prog pc_lagrange_At (retQ [.cell 4 (.arr 4 .one), .tmp 5] own K) (stIn 20 args own)) : PSpec prog 31 args own K := spec func31 pc_lagrange_At_ok (by kernel_rfl) (by kernel_rfl) h
def pc_lagrange_L : Pc := (.seq (.rgn [⟨(some 5), none, .box (.arr 4 .one) (.tmp 2)⟩, ⟨(some 6), none, .alloc (.arr 4 .one) (.agg [(.val (.int .u64 0)), (.val (.int .u64 0)), (.val (.int .u64 0)), (.val (.int .u64 0))])⟩, ⟨(some 7), none, .mv (.cst (.val (.int .i64 0)))⟩]) (.seq (.rgn [⟨(some 15), none, .mv (.tmp 0)⟩, ⟨(some 16), none, .load (.arr 4 .one) (.tmp 5)⟩, ⟨(some 17), none, .call 33 false [((.tmp 15), none), ((.tmp 16), none)]⟩, ⟨(some 14), none, .mv (.tmp 17)⟩, ⟨(some 18), none, .ext (.tmp 14) 0⟩, ⟨(some 19), none, .ext (.tmp 14) 1⟩, ⟨(some 8), none, .alloc (.arr 4 .one) (.agg [(.val (.int .u64 0)), (.val (.int .u64 0)), (.val (.int .u64 0)), (.val (.int .u64 0))])⟩, ⟨none, none, .store (.arr 4 .one) (.tmp 8) (.tmp 18)⟩, ⟨(some 9), none, .mv (.tmp 19)⟩]) (.seq (.seq (.rgn [⟨(some 20), none, .mv (.tmp 9)⟩, ⟨(some 21), none, .bin .neq (.tmp 20) (.cst (.val (.int .i64 0)))⟩, ⟨(some 22), none, .mv (.tmp 21)⟩, ⟨(some 23), (some (22, false)), .mv (.tmp 1)⟩, ⟨(some 24), (some (22, false)), .bin .lss (.tmp 23) (.cst (.val (.int .i64 0)))⟩, ⟨(some 25), none, .pick (.tmp 22) (.cst (.val (.bool true))) (.tmp 24)⟩, ⟨(some 26), none, .mv (.tmp 25)⟩, ⟨(some 27), (some (26, false)), .mv (.tmp 1)⟩, ⟨(some 28), (some (26, false)), .mv (.tmp 0)⟩, ⟨(some 29), (some (26, false)), .cvi .u64 (.tmp 28)⟩, ⟨(some 30), (some (26, false)), .bin .shl (.cst (.val (.int .i64 1))) (.tmp 29)⟩, ⟨(some 31), (some (26, false)), .bin .geq (.tmp 27) (.tmp 30)⟩, ⟨(some 32), none, .pick (.tmp 26) (.cst (.val (.bool true))) (.tmp 31)⟩]) (.cond (.tmp 32) (.seq (.rgn [⟨(some 33), none, .build (.arr 4 .one) (.agg [(.val (.int .u64 0)), (.val (.int .u64 0)), (.val (.int .u64 0)), (.val (.int .u64 0))]) []⟩, ⟨none, none, .store (.arr 4 .one) (.tmp 6) (.tmp 33)⟩, ⟨(some 7), none, .mv (.cst (.val (.int .i64 1)))⟩]) .ret) .skip)) (.seq (.rgn [⟨(some 34), none, .mv (.tmp 0)⟩, ⟨(some 35), none, .cvi .u64 (.tmp 34)⟩, ⟨(some 36), none, .bin .shl (.cst (.val (.int .u64 1))) (.tmp 35)⟩, ⟨(some 10), none, .mv (.tmp 36)⟩]) (.seq (.rgn [⟨(some 38), none, .mv (.tmp 0)⟩, ⟨(some 39), none, .call 45 false [((.tmp 38), none)]⟩, ⟨(some 37), none, .mv (.tmp 39)⟩, ⟨(some 40), none, .ext (.tmp 37) 0⟩, ⟨(some 41), none, .ext (.tmp 37) 1⟩, ⟨(some 11), none, .alloc (.arr 4 .one) (.agg [(.val (.int .u64 0)), (.val (.int .u64 0)), (.val (.int .u64 0)), (.val (.int .u64 0))])⟩, ⟨none, none, .store (.arr 4 .one) (.tmp 11) (.tmp 40)⟩, ⟨(some 12), none, .mv (.tmp 41)⟩]) (.seq (.rgn [⟨(some 42), none, .load (.arr 4 .one) (.tmp 11)⟩, ⟨(some 43), none, .mv (.tmp 1)⟩, ⟨(some 44), none, .cvi .u64 (.tmp 43)⟩, ⟨(some 45), none, .bsl 31 .one (.val (.int .u64 0)) 1 [(0, (.tmp 44))]⟩, ⟨(some 46), none, .call 63 false [((.tmp 42), none), ((.tmp 45), (some .one))]⟩, ⟨none, none, .store (.arr 4 .one) (.tmp 11) (.tmp 46)⟩]) (.seq (.drgn 13 [⟨0, false, ⟨(some 48), none, .mv (.tmp 10)⟩⟩, ⟨2, true, ⟨(some 50), none, .load (.arr 4 .one) (.tmp 5)⟩⟩, ⟨3, true, ⟨(some 51), none, .load (.arr 4 .one) (.tmp 11)⟩⟩, ⟨10, true, ⟨(some 13), none, .alloc (.arr 4 .one) (.agg [(.val (.int .u64 0)), (.val (.int .u64 0)), (.val (.int .u64 0)), (.val (.int .u64 0))])⟩⟩, ⟨1, true, ⟨(some 49), none, .call 49 false [((.tmp 48), none)]⟩⟩, ⟨4, true, ⟨(some 52), none, .call 58 false [((.tmp 50), none), ((.tmp 51), none)]⟩⟩, ⟨5, true, ⟨(some 53), none, .call 50 false [((.tmp 49), none), ((.tmp 52), none)]⟩⟩, ⟨6, true, ⟨(some 54), none, .call 48 false [((.tmp 53), none)]⟩⟩, ⟨7, true, ⟨(some 47), none, .mv (.tmp 54)⟩⟩, ⟨8, true, ⟨(some 55), none, .ext (.tmp 47) 0⟩⟩, ⟨9, true, ⟨(some 56), none, .ext (.tmp 47) 1⟩⟩, ⟨11, true, ⟨none, none, .store (.arr 4 .one) (.tmp 13) (.tmp 55)⟩⟩, ⟨12, false, ⟨(some 9), none, .mv (.tmp 56)⟩⟩]) (.seq (.seq (.rgn [⟨(some 57), none, .mv (.tmp 9)⟩, ⟨(some 58), none, .bin .neq (.tmp 57) (.cst (.val (.int .i64 0)))⟩]) (.cond (.tmp 58) (.seq (.rgn [⟨(some 59), none, .call 49 false [((.cst (.val (.int .u64 1))), none)]⟩, ⟨none, none, .store (.arr 4 .one) (.tmp 6) (.tmp 59)⟩, ⟨(some 7), none, .mv (.cst (.val (.int .i64 0)))⟩]) .ret) .skip)) (.seq (.drgn 7 [⟨0, false, ⟨(some 60), none, .load (.arr 4 .one) (.tmp 11)⟩⟩, ⟨1, true, ⟨(some 61), none, .load (.arr 4 .one) (.tmp 8)⟩⟩, ⟨3, true, ⟨(some 63), none, .load (.arr 4 .one) (.tmp 13)⟩⟩, ⟨2, true, ⟨(some 62), none, .call 50 false [((.tmp 60), none), ((.tmp 61), none)]⟩⟩, ⟨4, false, ⟨(some 64), none, .call 50 false [((.tmp 62), none), ((.tmp 63), none)]⟩⟩, ⟨5, false, ⟨none, none, .store (.arr 4 .one) (.tmp 6) (.tmp 64)⟩⟩, ⟨6, false, ⟨(some 7), none, .mv (.cst (.val (.int .i64 0)))⟩⟩]) .ret)))))))))
theorem pc_lagrange_L_ok : f32.body.bind (compile TT 90) = some pc_lagrange_L := by kernel_rfl
theorem sp_lagrange_L {args : List PV} {own : List Ob} {K : PV → List Ob → Prop} (h : pwp prog pc_lagrange_L (retQ [.cell 6 (.arr 4 .one), .tmp 7] own K) (stIn 65 args own)) : PSpec prog 32 args own K := spec func32 pc_lagrange_L_ok (by kernel_rfl) (by kernel_rfl) h
def pc_lagrange_Z : Pc := (.seq (.rgn [⟨(some 3), none, .box (.arr 4 .one) (.tmp 1)⟩, ⟨(some 4), none, .alloc (.arr 4 .one) (.agg [(.val (.int .u64 0)), (.val (.int .u64 0)), (.val (.int .u64 0)), (.val (.int .u64 0))])⟩, ⟨(some 5), none, .mv (.cst (.val (.int .i64 0)))⟩]) (.seq (.seq (.rgn [⟨(some 6), none, .mv (.tmp 0)⟩, ⟨(some 7), none, .bin .lss (.tmp 6) (.cst (.val (.int .i64 0)))⟩, ⟨(some 8), none, .mv (.tmp 7)⟩, ⟨(some 9), (some (8, false)), .mv (.tmp 0)⟩, ⟨(some 10), (some (8, false)), .bin .gtr (.tmp 9) (.cst (.val (.int .i64 9)))⟩, ⟨(some 11), none, .pick (.tmp 8) (.cst (.val (.bool true))) (.tmp 10)⟩]) (.cond (.tmp 11) (.seq (.rgn [⟨(some 12), none, .build (.arr 4 .one) (.agg [(.val (.int .u64 0)), (.val (.int .u64 0)), (.val (.int .u64 0)), (.val (.int .u64 0))]) []⟩, ⟨none, none, .store (.arr 4 .one) (.tmp 4) (.tmp 12)⟩, ⟨(some 5), none, .mv (.cst (.val (.int .i64 1)))⟩]) .ret) .skip)) (.seq (.seq (.rgn [⟨(some 13), none, .mv (.tmp 0)⟩, ⟨(some 14), none, .mv (.cst (.val (.int .i64 0)))⟩]) (.block 0 (.loop (.seq (.rgn [⟨(some 15), none, .bin .lss (.tmp 14) (.tmp 13)⟩]) (.seq (.cond (.tmp 15) .skip (.exit 0)) (.seq (.block 1 (.rgn [⟨(some 16), none, .load (.arr 4 .one) (.tmp 3)⟩, ⟨(some 17), none, .load (.arr 4 .one) (.tmp 3)⟩, ⟨(some 18), none, .call 50 false [((.tmp 16), none), ((.tmp 17), none)]⟩, ⟨none, none, .store (.arr 4 .one) (.tmp 3) (.tmp 18)⟩])) (.rgn [⟨(some 19), none, .bin .add (.tmp 14) (.cst (.val (.int .i64 1)))⟩, ⟨(some 14), none, .mv (.tmp 19)⟩]))))))) (.seq (.drgn 5 [⟨0, false, ⟨(some 20), none, .load (.arr 4 .one) (.tmp 3)⟩⟩, ⟨1, true, ⟨(some 21), none, .call 49 false [((.cst (.val (.int .u64 1))), none)]⟩⟩, ⟨2, false, ⟨(some 22), none, .call 58 false [((.tmp 20), none), ((.tmp 21), none)]⟩⟩, ⟨3, false, ⟨none, none, .store (.arr 4 .one) (.tmp 4) (.tmp 22)⟩⟩, ⟨4, false, ⟨(some 5), none, .mv (.cst (.val (.int .i64 0)))⟩⟩]) .ret))))
theorem pc_lagrange_Z_ok : f33.body.bind (compile TT 90) = some pc_lagrange_Z := by kernel_rfl
theorem sp_lagrange_Z {args : List PV} {own : List Ob} {K : PV → List Ob → Prop} (h : pwp prog pc_lagrange_Z (retQ [.cell 4 (.arr 4 .one), .tmp 5] own K) (stIn 23 args own)) : PSpec prog 33 args own K := spec func33 pc_lagrange_Z_ok (by kernel_rfl) (by kernel_rfl) h
def pc_lagrange_Values : Pc := (.seq (.rgn [⟨(some 4), none, .nil 33 (.arr 4 .one)⟩, ⟨(some 5), none, .mv (.cst (.val (.int .i64 0)))⟩]) (.seq (.seq (.rgn [⟨(some 10), none, .mv (.tmp 1)⟩, ⟨(some 11), none, .bin .lss (.tmp 10) (.cst (.val (.int .i64 0)))⟩, ⟨(some 12), none, .mv (.tmp 11)⟩, ⟨(some 13), (some (12, false)), .mv (.tmp 1)⟩, ⟨(some 14), (some (12, false)), .bin .gtr (.tmp 13) (.cst (.val (.int .i64 9)))⟩, ⟨(some 15), none, .pick (.tmp 12) (.cst (.val (.bool true))) (.tmp 14)⟩]) (.cond (.tmp 15) (.seq (.rgn [⟨(some 4), none, .nil 33 (.arr 4 .one)⟩, ⟨(some 5), none, .mv (.cst (.val (.int .i64 1)))⟩]) .ret) .skip)) (.seq (.rgn [⟨(some 16), none, .mv (.tmp 1)⟩, ⟨(some 17), none, .cvi .u64 (.tmp 16)⟩, ⟨(some 18), none, .bin .shl (.cst (.val (.int .i64 1))) (.tmp 17)⟩, ⟨(some 6), none, .mv (.tmp 18)⟩]) (.seq (.rgn [⟨(some 19), none, .mv (.tmp 6)⟩, ⟨(some 20), none, .mksl 33 (.arr 4 .one) 32 (.agg [(.val (.int .u64 0)), (.val (.int .u64 0)), (.val (.int .u64 0)), (.val (.int .u64 0))]) (.tmp 19) (.tmp 19)⟩, ⟨(some 7), none, .mv (.tmp 20)⟩]) (.seq (.seq (.rgn [⟨(some 21), none, .mv (.tmp 0)⟩, ⟨(some 22), none, .len (.tmp 21)⟩, ⟨(some 23), none, .mv (.cst (.val (.int .i64 0)))⟩]) (.block 0 (.loop (.seq (.rgn [⟨(some 24), none, .bin .lss (.tmp 23) (.tmp 22)⟩]) (.seq (.cond (.tmp 24) .skip (.exit 0)) (.seq (.block 1 (.seq (.rgn [⟨(some 25), none, .mv (.tmp 23)⟩, ⟨(some 26), none, .iaddrs (.arr 4 .one) (.tmp 21) (.tmp 23)⟩, ⟨(some 27), none, .load (.arr 4 .one) (.tmp 26)⟩, ⟨(some 9), none, .alloc (.arr 4 .one) (.agg [(.val (.int .u64 0)), (.val (.int .u64 0)), (.val (.int .u64 0)), (.val (.int .u64 0))])⟩, ⟨(some 8), none, .mv (.tmp 25)⟩, ⟨none, none, .store (.arr 4 .one) (.tmp 9) (.tmp 27)⟩]) (.drgn 14 [⟨0, false, ⟨(some 28), none, .mv (.tmp 7)⟩⟩, ⟨1, true, ⟨(some 29), none, .mv (.tmp 8)⟩⟩, ⟨2, true, ⟨(some 30), none, .mv (.tmp 6)⟩⟩, ⟨3, true, ⟨(some 31), none, .bin .rem (.tmp 29) (.tmp 30)⟩⟩, ⟨4, true, ⟨(some 32), none, .mv (.tmp 7)⟩⟩, ⟨5, true, ⟨(some 33), none, .mv (.tmp 8)⟩⟩, ⟨6, true, ⟨(some 34), none, .mv (.tmp 6)⟩⟩, ⟨7, true, ⟨(some 35), none, .bin .rem (.tmp 33) (.tmp 34)⟩⟩, ⟨8, true, ⟨(some 36), none, .iaddrs (.arr 4 .one) (.tmp 32) (.tmp 35)⟩⟩, ⟨9, true, ⟨(some 37), none, .load (.arr 4 .one) (.tmp 36)⟩⟩, ⟨10, true, ⟨(some 38), none, .load (.arr 4 .one) (.tmp 9)⟩⟩, ⟨11, true, ⟨(some 39), none, .call 57 false [((.tmp 37), none), ((.tmp 38), none)]⟩⟩, ⟨12, false, ⟨(some 40), none, .iaddrs (.arr 4 .one) (.tmp 28) (.tmp 31)⟩⟩, ⟨13, false, ⟨none, none, .store (.arr 4 .one) (.tmp 40) (.tmp 39)⟩⟩]))) (.rgn [⟨(some 41), none, .bin .add (.tmp 23) (.cst (.val (.int .i64 1)))⟩, ⟨(some 23), none, .mv (.tmp 41)⟩]))))))) (.seq (.rgn [⟨(some 42), none, .mv (.tmp 7)⟩, ⟨(some 43), none, .call 15 false [((.tmp 42), (some (.arr 4 .one)))]⟩, ⟨(some 44), none, .ext (.tmp 43) 0⟩, ⟨(some 45), none, .ext (.tmp 43) 1⟩, ⟨(some 4), none, .mv (.tmp 44)⟩, ⟨(some 5), none, .mv (.tmp 45)⟩]) .ret))))))
theorem pc_lagrange_Values_ok : f37.body.bind (compile TT 90) = some pc_lagrange_Values := by kernel_rfl
theorem sp_lagrange_Values {args : List PV} {own : List Ob} {K : PV → List Ob → Prop} (h : pwp prog pc_lagrange_Values (retQ [.tmp 4, .tmp 5] own K) (stIn 46 args own)) : PSpec prog 37 args own K := spec func37 pc_lagrange_Values_ok (by kernel_rfl) (by kernel_rfl) h
def pc_intagliolaw16_begun : Pc := (.seq (.rgn [⟨(some 0), none, .mv (.cst (.val (.bool false)))⟩]) (.seq (.rgn [⟨(some 6), none, .build (.arr 4 .one) (.agg [(.val (.int .u64 0)), (.val (.int .u64 0)), (.val (.int .u64 0)), (.val (.int .u64 0))]) [(0, (.cst (.val (.int .u64 3))))]⟩, ⟨(some 7), none, .build (.arr 4 .one) (.agg [(.val (.int .u64 0)), (.val (.int .u64 0)), (.val (.int .u64 0)), (.val (.int .u64 0))]) [(0, (.cst (.val (.int .u64 1))))]⟩, ⟨(some 8), none, .bsl 33 (.arr 4 .one) (.agg [(.val (.int .u64 0)), (.val (.int .u64 0)), (.val (.int .u64 0)), (.val (.int .u64 0))]) 2 [(0, (.tmp 6)), (1, (.tmp 7))]⟩, ⟨(some 9), none, .call 34 false [((.tmp 8), (some (.arr 4 .one)))]⟩, ⟨(some 5), none, .mv (.tmp 9)⟩, ⟨(some 10), none, .ext (.tmp 5) 0⟩, ⟨(some 11), none, .ext (.tmp 5) 1⟩, ⟨(some 1), none, .mv (.tmp 10)⟩, ⟨(some 2), none, .mv (.tmp 11)⟩]) (.seq (.rgn [⟨(some 13), none, .build (.arr 4 .one) (.agg [(.val (.int .u64 0)), (.val (.int .u64 0)), (.val (.int .u64 0)), (.val (.int .u64 0))]) [(0, (.cst (.val (.int .u64 1))))]⟩, ⟨(some 14), none, .call 32 false [((.cst (.val (.int .i64 1))), none), ((.cst (.val (.int .i64 0))), none), ((.tmp 13), none)]⟩, ⟨(some 12), none, .mv (.tmp 14)⟩, ⟨(some 15), none, .ext (.tmp 12) 0⟩, ⟨(some 16), none, .ext (.tmp 12) 1⟩, ⟨(some 3), none, .alloc (.arr 4 .one) (.agg [(.val (.int .u64 0)), (.val (.int .u64 0)), (.val (.int .u64 0)), (.val (.int .u64 0))])⟩, ⟨none, none, .store (.arr 4 .one) (.tmp 3) (.tmp 15)⟩, ⟨(some 4), none, .mv (.tmp 16)⟩]) (.seq (.rgn [⟨(some 17), none, .mv (.tmp 2)⟩, ⟨(some 18), none, .bin .eql (.tmp 17) (.cst (.val (.int .i64 0)))⟩, ⟨(some 19), none, .mv (.tmp 18)⟩, ⟨(some 20), (some (19, true)), .mv (.tmp 1)⟩, ⟨(some 21), (some (19, true)), .len (.tmp 20)⟩, ⟨(some 22), (some (19, true)), .bin .eql (.tmp 21) (.cst (.val (.int .i64 2)))⟩, ⟨(some 23), none, .pick (.tmp 19) (.tmp 22) (.cst (.val (.bool false)))⟩, ⟨(some 24), none, .mv (.tmp 23)⟩, ⟨(some 25), (some (24, true)), .mv (.tmp 1)⟩, ⟨(some 26), (some (24, true)), .iaddrs (.arr 4 .one) (.tmp 25) (.cst (.val (.int .i64 0)))⟩, ⟨(some 27), (some (24, true)), .load (.arr 4 .one) (.tmp 26)⟩, ⟨(some 28), (some (24, true)), .build (.arr 4 .one) (.agg [(.val (.int .u64 0)), (.val (.int .u64 0)), (.val (.int .u64 0)), (.val (.int .u64 0))]) [(0, (.cst (.val (.int .u64 2))))]⟩, ⟨(some 29), (some (24, true)), .eqa false (.arr 4 .one) (.tmp 27) (.tmp 28)⟩, ⟨(some 30), none, .pick (.tmp 24) (.tmp 29) (.cst (.val (.bool false)))⟩, ⟨(some 31), none, .mv (.tmp 30)⟩, ⟨(some 32), (some (31, true)), .mv (.tmp 4)⟩, ⟨(some 33), (some (31, true)), .bin .eql (.tmp 32) (.cst (.val (.int .i64 0)))⟩, ⟨(some 34), none, .pick (.tmp 31) (.tmp 33) (.cst (.val (.bool false)))⟩, ⟨(some 35), none, .mv (.tmp 34)⟩, ⟨(some 36), (some (35, true)), .load (.arr 4 .one) (.tmp 3)⟩, ⟨(some 37), (some (35, true)), .build (.arr 4 .one) (.agg [(.val (.int .u64 0)), (.val (.int .u64 0)), (.val (.int .u64 0)), (.val (.int .u64 0))]) [(0, (.cst (.val (.int .u64 1))))]⟩, ⟨(some 38), (some (35, true)), .eqa false (.arr 4 .one) (.tmp 36) (.tmp 37)⟩, ⟨(some 39), none, .pick (.tmp 35) (.tmp 38) (.cst (.val (.bool false)))⟩, ⟨(some 0), none, .mv (.tmp 39)⟩]) .ret))))
theorem pc_intagliolaw16_begun_ok : f29.body.bind (compile TT 90) = some pc_intagliolaw16_begun := by kernel_rfl
theorem sp_intagliolaw16_begun {args : List PV} {own : List Ob} {K : PV → List Ob → Prop} (h : pwp prog pc_intagliolaw16_begun (retQ [.tmp 0] own K) (stIn 40 args own)) : PSpec prog 29 args own K := spec func29 pc_intagliolaw16_begun_ok (by kernel_rfl) (by kernel_rfl) h
end Go.Proofs.Tryd.PMT

namespace Go.Proofs.Tryd.PMT
open Go Go.Proofs.PM Go.Proofs.PL Go.Proofs.Tryd
set_option maxRecDepth 4000

theorem lb_len (l : List F) : (bkR l).1.length ≤ l.length := by
  cases h : lg l.length with
  | none => rw [bkR_none h]; exact Nat.zero_le _
  | some L => rw [bkR_some h, bak_len]; exact Nat.le_refl _
theorem lit (n : Int) (h : 0 ≤ n ∧ n < 18446744073709551616) : PV.agg [u n, u 0, u 0, u 0] = ff (of n) := by
  rw [← fr_of (by omega)]
  have e1 : n % 18446744073709551616 = n := by omega
  have e2 : n / 18446744073709551616 % 18446744073709551616 = 0 := by omega
  have e3 : n / 340282366920938463463374607431768211456 % 18446744073709551616 = 0 := by omega
  have e4 : n / 6277101735386680763835789423207666416102355444464034512896 % 18446744073709551616 = 0 := by omega
  rw [fr, e1, e2, e3, e4]
theorem beqU {x y : F} (h : x = y) : (ff x).beq (ff y) = true := by rw [ff_beq, decide_eq_true h]
theorem k_lag_Of {l : List F} (hl : l.length ≤ 4398046511104) {K : PV → List Ob → Prop} (hK : K (.tup [.osl 0 [] 0 (cut (bkR l).1).length, i64 (bkR l).2]) [.row 33 (.arr 4 .one) (ffs (cut (bkR l).1))]) : PSpec prog 34 [.vsl false (.arr 4 .one) (ffs l)] [] K := by
  refine sp_lagrange_Of ?_
  simp only [pc_lagrange_Of]
  simp -implicitDefEqProofs only [go_sem, wrs, wru, Int.toNat_natCast, Nat.zero_add, Bool.not_false, Bool.not_true, Bool.or_true, Bool.false_or, List.contains_nil, Bool.or_false, Nat.reduceAdd, Nat.reduceMul, Nat.reduceSub, Nat.reduceBEq, Nat.reduceEqDiff, Nat.reduceLT, Nat.reduceLeDiff, Int.reduceToNat, Int.reduceLT, Int.reduceLE, Int.reduceAdd, Int.reduceSub, Int.reduceMul, Int.reduceNeg, Int.reduceEq, Int.reduceBEq, Int.reduceMod, Int.reduceGT, Int.reduceGE, Int.reduceBNe, Nat.reduceBNe, Int.natCast_nonneg]
  refine k_ntt_Back hl ?_
  have hb := lb_len l
  cases hg : lg l.length with
  | none =>
    rw [bkR_none hg]
    rw [bkR_none hg] at hK
    simp -implicitDefEqProofs only [go_sem, wrs, wru, Int.toNat_natCast, Nat.zero_add, Bool.not_false, Bool.not_true, Bool.or_true, Bool.false_or, List.contains_nil, Bool.or_false, Nat.reduceAdd, Nat.reduceMul, Nat.reduceSub, Nat.reduceBEq, Nat.reduceEqDiff, Nat.reduceLT, Nat.reduceLeDiff, Int.reduceToNat, Int.reduceLT, Int.reduceLE, Int.reduceAdd, Int.reduceSub, Int.reduceMul, Int.reduceNeg, Int.reduceEq, Int.reduceBEq, Int.reduceMod, Int.reduceGT, Int.reduceGE, Int.reduceBNe, Nat.reduceBNe, Int.natCast_nonneg]
    refine ret_obs [(2, 0)] [.row 33 (.arr 4 .one) (ffs [])] [.osl 0 [] 0 0, i64 1] rfl rfl ?_ ?_ hK
    · simp -implicitDefEqProofs only [go_sem, wrs, wru, Int.toNat_natCast, Nat.zero_add, Bool.not_false, Bool.not_true, Bool.or_true, Bool.false_or, List.contains_nil, Bool.or_false, Nat.reduceAdd, Nat.reduceMul, Nat.reduceSub, Nat.reduceBEq, Nat.reduceEqDiff, Nat.reduceLT, Nat.reduceLeDiff, Int.reduceToNat, Int.reduceLT, Int.reduceLE, Int.reduceAdd, Int.reduceSub, Int.reduceMul, Int.reduceNeg, Int.reduceEq, Int.reduceBEq, Int.reduceMod, Int.reduceGT, Int.reduceGE, Int.reduceBNe, Nat.reduceBNe, Int.natCast_nonneg, Option.some.injEq, PV.val.injEq, Value.int.injEq, PV.agg.injEq, List.cons.injEq, ob_eq, Ob.var.injEq, Ob.row.injEq, not_true_eq_false, not_false_eq_true, ffs_nil]
    · simp -implicitDefEqProofs only [go_sem, wrs, wru, Int.toNat_natCast, Nat.zero_add, Bool.not_false, Bool.not_true, Bool.or_true, Bool.false_or, List.contains_nil, Bool.or_false, Nat.reduceAdd, Nat.reduceMul, Nat.reduceSub, Nat.reduceBEq, Nat.reduceEqDiff, Nat.reduceLT, Nat.reduceLeDiff, Int.reduceToNat, Int.reduceLT, Int.reduceLE, Int.reduceAdd, Int.reduceSub, Int.reduceMul, Int.reduceNeg, Int.reduceEq, Int.reduceBEq, Int.reduceMod, Int.reduceGT, Int.reduceGE, Int.reduceBNe, Nat.reduceBNe, Int.natCast_nonneg]
  | some L =>
    rw [bkR_some hg] at hb hK
    rw [bkR_some hg]
    generalize bak (inv (rt L)) l = o at *
    have hb : o.length ≤ l.length := hb
    simp -implicitDefEqProofs only [go_sem, wrs, wru, Int.toNat_natCast, Nat.zero_add, Bool.not_false, Bool.not_true, Bool.or_true, Bool.false_or, List.contains_nil, Bool.or_false, Nat.reduceAdd, Nat.reduceMul, Nat.reduceSub, Nat.reduceBEq, Nat.reduceEqDiff, Nat.reduceLT, Nat.reduceLeDiff, Int.reduceToNat, Int.reduceLT, Int.reduceLE, Int.reduceAdd, Int.reduceSub, Int.reduceMul, Int.reduceNeg, Int.reduceEq, Int.reduceBEq, Int.reduceMod, Int.reduceGT, Int.reduceGE, Int.reduceBNe, Nat.reduceBNe, Int.natCast_nonneg, List.take_length]
    refine k_poly_Cut (by omega) ?_
    simp -implicitDefEqProofs only [go_sem, wrs, wru, Int.toNat_natCast, Nat.zero_add, Bool.not_false, Bool.not_true, Bool.or_true, Bool.false_or, List.contains_nil, Bool.or_false, Nat.reduceAdd, Nat.reduceMul, Nat.reduceSub, Nat.reduceBEq, Nat.reduceEqDiff, Nat.reduceLT, Nat.reduceLeDiff, Int.reduceToNat, Int.reduceLT, Int.reduceLE, Int.reduceAdd, Int.reduceSub, Int.reduceMul, Int.reduceNeg, Int.reduceEq, Int.reduceBEq, Int.reduceMod, Int.reduceGT, Int.reduceGE, Int.reduceBNe, Nat.reduceBNe, Int.natCast_nonneg]
    refine ret_obs [(2, 0)] [.row 33 (.arr 4 .one) (ffs (cut o))] [.osl 0 [] 0 (cut o).length, i64 0] rfl rfl ?_ ?_ hK
    · simp -implicitDefEqProofs only [go_sem, wrs, wru, Int.toNat_natCast, Nat.zero_add, Bool.not_false, Bool.not_true, Bool.or_true, Bool.false_or, List.contains_nil, Bool.or_false, Nat.reduceAdd, Nat.reduceMul, Nat.reduceSub, Nat.reduceBEq, Nat.reduceEqDiff, Nat.reduceLT, Nat.reduceLeDiff, Int.reduceToNat, Int.reduceLT, Int.reduceLE, Int.reduceAdd, Int.reduceSub, Int.reduceMul, Int.reduceNeg, Int.reduceEq, Int.reduceBEq, Int.reduceMod, Int.reduceGT, Int.reduceGE, Int.reduceBNe, Nat.reduceBNe, Int.natCast_nonneg, Option.some.injEq, PV.val.injEq, Value.int.injEq, PV.agg.injEq, List.cons.injEq, ob_eq, Ob.var.injEq, Ob.row.injEq, not_true_eq_false, not_false_eq_true]
    · simp -implicitDefEqProofs only [go_sem, wrs, wru, Int.toNat_natCast, Nat.zero_add, Bool.not_false, Bool.not_true, Bool.or_true, Bool.false_or, List.contains_nil, Bool.or_false, Nat.reduceAdd, Nat.reduceMul, Nat.reduceSub, Nat.reduceBEq, Nat.reduceEqDiff, Nat.reduceLT, Nat.reduceLeDiff, Int.reduceToNat, Int.reduceLT, Int.reduceLE, Int.reduceAdd, Int.reduceSub, Int.reduceMul, Int.reduceNeg, Int.reduceEq, Int.reduceBEq, Int.reduceMod, Int.reduceGT, Int.reduceGE, Int.reduceBNe, Nat.reduceBNe, Int.natCast_nonneg]
theorem k_r12_Of {l : List F} (hl : l.length ≤ 4398046511104) {K : PV → List Ob → Prop} (hK : K (.tup [.osl 0 [] 0 (cut (bkR l).1).length, i64 (bkR l).2]) [.row 33 (.arr 4 .one) (ffs (cut (bkR l).1))]) : PSpec prog 35 [.vsl false (.arr 4 .one) (ffs l)] [] K := by
  refine sp_intaglioref12_Of ?_
  simp only [pc_intaglioref12_Of]
  simp -implicitDefEqProofs only [go_sem, wrs, wru, Int.toNat_natCast, Nat.zero_add, Bool.not_false, Bool.not_true, Bool.or_true, Bool.false_or, List.contains_nil, Bool.or_false, Nat.reduceAdd, Nat.reduceMul, Nat.reduceSub, Nat.reduceBEq, Nat.reduceEqDiff, Nat.reduceLT, Nat.reduceLeDiff, Int.reduceToNat, Int.reduceLT, Int.reduceLE, Int.reduceAdd, Int.reduceSub, Int.reduceMul, Int.reduceNeg, Int.reduceEq, Int.reduceBEq, Int.reduceMod, Int.reduceGT, Int.reduceGE, Int.reduceBNe, Nat.reduceBNe, Int.natCast_nonneg]
  refine k_r12_Back hl ?_
  have hb := lb_len l
  generalize bkR l = o at *
  simp -implicitDefEqProofs only [go_sem, wrs, wru, Int.toNat_natCast, Nat.zero_add, Bool.not_false, Bool.not_true, Bool.or_true, Bool.false_or, List.contains_nil, Bool.or_false, Nat.reduceAdd, Nat.reduceMul, Nat.reduceSub, Nat.reduceBEq, Nat.reduceEqDiff, Nat.reduceLT, Nat.reduceLeDiff, Int.reduceToNat, Int.reduceLT, Int.reduceLE, Int.reduceAdd, Int.reduceSub, Int.reduceMul, Int.reduceNeg, Int.reduceEq, Int.reduceBEq, Int.reduceMod, Int.reduceGT, Int.reduceGE, Int.reduceBNe, Nat.reduceBNe, Int.natCast_nonneg, List.take_length]
  refine k_r12_Cut (by omega) ?_
  simp -implicitDefEqProofs only [go_sem, wrs, wru, Int.toNat_natCast, Nat.zero_add, Bool.not_false, Bool.not_true, Bool.or_true, Bool.false_or, List.contains_nil, Bool.or_false, Nat.reduceAdd, Nat.reduceMul, Nat.reduceSub, Nat.reduceBEq, Nat.reduceEqDiff, Nat.reduceLT, Nat.reduceLeDiff, Int.reduceToNat, Int.reduceLT, Int.reduceLE, Int.reduceAdd, Int.reduceSub, Int.reduceMul, Int.reduceNeg, Int.reduceEq, Int.reduceBEq, Int.reduceMod, Int.reduceGT, Int.reduceGE, Int.reduceBNe, Nat.reduceBNe, Int.natCast_nonneg]
  refine ret_obs [(2, 0)] [.row 33 (.arr 4 .one) (ffs (cut o.1))] [.osl 0 [] 0 (cut o.1).length, i64 o.2] rfl rfl ?_ ?_ hK
  · simp -implicitDefEqProofs only [go_sem, wrs, wru, Int.toNat_natCast, Nat.zero_add, Bool.not_false, Bool.not_true, Bool.or_true, Bool.false_or, List.contains_nil, Bool.or_false, Nat.reduceAdd, Nat.reduceMul, Nat.reduceSub, Nat.reduceBEq, Nat.reduceEqDiff, Nat.reduceLT, Nat.reduceLeDiff, Int.reduceToNat, Int.reduceLT, Int.reduceLE, Int.reduceAdd, Int.reduceSub, Int.reduceMul, Int.reduceNeg, Int.reduceEq, Int.reduceBEq, Int.reduceMod, Int.reduceGT, Int.reduceGE, Int.reduceBNe, Nat.reduceBNe, Int.natCast_nonneg, Option.some.injEq, PV.val.injEq, Value.int.injEq, PV.agg.injEq, List.cons.injEq, ob_eq, Ob.var.injEq, Ob.row.injEq, not_true_eq_false, not_false_eq_true]
  · simp -implicitDefEqProofs only [go_sem, wrs, wru, Int.toNat_natCast, Nat.zero_add, Bool.not_false, Bool.not_true, Bool.or_true, Bool.false_or, List.contains_nil, Bool.or_false, Nat.reduceAdd, Nat.reduceMul, Nat.reduceSub, Nat.reduceBEq, Nat.reduceEqDiff, Nat.reduceLT, Nat.reduceLeDiff, Int.reduceToNat, Int.reduceLT, Int.reduceLE, Int.reduceAdd, Int.reduceSub, Int.reduceMul, Int.reduceNeg, Int.reduceEq, Int.reduceBEq, Int.reduceMod, Int.reduceGT, Int.reduceGE, Int.reduceBNe, Nat.reduceBNe, Int.natCast_nonneg]
theorem k_lag_At {l : List F} {x : F} (hl : l.length ≤ 4398046511104) {K : PV → List Ob → Prop} (hK : K (.tup [ff (hor x (bkR l).1), i64 (bkR l).2]) []) : PSpec prog 31 [.vsl false (.arr 4 .one) (ffs l), ff x] [] K := by
  refine sp_lagrange_At ?_
  simp only [pc_lagrange_At]
  simp -implicitDefEqProofs only [go_sem, wrs, wru, Int.toNat_natCast, Nat.zero_add, Bool.not_false, Bool.not_true, Bool.or_true, Bool.false_or, List.contains_nil, Bool.or_false, Nat.reduceAdd, Nat.reduceMul, Nat.reduceSub, Nat.reduceBEq, Nat.reduceEqDiff, Nat.reduceLT, Nat.reduceLeDiff, Int.reduceToNat, Int.reduceLT, Int.reduceLE, Int.reduceAdd, Int.reduceSub, Int.reduceMul, Int.reduceNeg, Int.reduceEq, Int.reduceBEq, Int.reduceMod, Int.reduceGT, Int.reduceGE, Int.reduceBNe, Nat.reduceBNe, Int.natCast_nonneg]
  refine k_lag_Of hl ?_
  have hb := lb_len l
  cases hg : lg l.length with
  | none =>
    rw [bkR_none hg]
    rw [bkR_none hg] at hK
    have hc : cut ([] : List F) = [] := rfl
    have h0 : hor x [] = 0 := rfl
    rw [h0] at hK
    simp -implicitDefEqProofs only [go_sem, wrs, wru, Int.toNat_natCast, Nat.zero_add, Bool.not_false, Bool.not_true, Bool.or_true, Bool.false_or, List.contains_nil, Bool.or_false, Nat.reduceAdd, Nat.reduceMul, Nat.reduceSub, Nat.reduceBEq, Nat.reduceEqDiff, Nat.reduceLT, Nat.reduceLeDiff, Int.reduceToNat, Int.reduceLT, Int.reduceLE, Int.reduceAdd, Int.reduceSub, Int.reduceMul, Int.reduceNeg, Int.reduceEq, Int.reduceBEq, Int.reduceMod, Int.reduceGT, Int.reduceGE, Int.reduceBNe, Nat.reduceBNe, Int.natCast_nonneg, hc, zero_ff]
    exact ret_plain rfl hK
  | some L =>
    rw [bkR_some hg] at hb hK
    rw [bkR_some hg]
    generalize bak (inv (rt L)) l = o at *
    have hb : o.length ≤ l.length := hb
    have hc := cut_le o
    simp -implicitDefEqProofs only [go_sem, wrs, wru, Int.toNat_natCast, Nat.zero_add, Bool.not_false, Bool.not_true, Bool.or_true, Bool.false_or, List.contains_nil, Bool.or_false, Nat.reduceAdd, Nat.reduceMul, Nat.reduceSub, Nat.reduceBEq, Nat.reduceEqDiff, Nat.reduceLT, Nat.reduceLeDiff, Int.reduceToNat, Int.reduceLT, Int.reduceLE, Int.reduceAdd, Int.reduceSub, Int.reduceMul, Int.reduceNeg, Int.reduceEq, Int.reduceBEq, Int.reduceMod, Int.reduceGT, Int.reduceGE, Int.reduceBNe, Nat.reduceBNe, Int.natCast_nonneg, List.take_length]
    refine k_poly_At (by omega) ?_
    rw [lin_hor, hor_cut0]
    simp -implicitDefEqProofs only [go_sem, wrs, wru, Int.toNat_natCast, Nat.zero_add, Bool.not_false, Bool.not_true, Bool.or_true, Bool.false_or, List.contains_nil, Bool.or_false, Nat.reduceAdd, Nat.reduceMul, Nat.reduceSub, Nat.reduceBEq, Nat.reduceEqDiff, Nat.reduceLT, Nat.reduceLeDiff, Int.reduceToNat, Int.reduceLT, Int.reduceLE, Int.reduceAdd, Int.reduceSub, Int.reduceMul, Int.reduceNeg, Int.reduceEq, Int.reduceBEq, Int.reduceMod, Int.reduceGT, Int.reduceGE, Int.reduceBNe, Nat.reduceBNe, Int.natCast_nonneg]
    exact ret_plain rfl hK
theorem k_lag_Z_bad {log : Int} {x : F} (h : log < 0 ∨ log > 9) {K : PV → List Ob → Prop} (hK : K (.tup [ff 0, i64 1]) []) : PSpec prog 33 [i64 log, ff x] [] K := by
  refine sp_lagrange_Z ?_
  simp only [pc_lagrange_Z]
  by_cases h1 : log < 0
  · simp -implicitDefEqProofs only [go_sem, wrs, wru, Int.toNat_natCast, Nat.zero_add, Bool.not_false, Bool.not_true, Bool.or_true, Bool.false_or, List.contains_nil, Bool.or_false, Nat.reduceAdd, Nat.reduceMul, Nat.reduceSub, Nat.reduceBEq, Nat.reduceEqDiff, Nat.reduceLT, Nat.reduceLeDiff, Int.reduceToNat, Int.reduceLT, Int.reduceLE, Int.reduceAdd, Int.reduceSub, Int.reduceMul, Int.reduceNeg, Int.reduceEq, Int.reduceBEq, Int.reduceMod, Int.reduceGT, Int.reduceGE, Int.reduceBNe, Nat.reduceBNe, Int.natCast_nonneg, h1, decide_true, zero_ff]
    exact ret_plain rfl hK
  · have h2 : log > 9 := by omega
    simp -implicitDefEqProofs only [go_sem, wrs, wru, Int.toNat_natCast, Nat.zero_add, Bool.not_false, Bool.not_true, Bool.or_true, Bool.false_or, List.contains_nil, Bool.or_false, Nat.reduceAdd, Nat.reduceMul, Nat.reduceSub, Nat.reduceBEq, Nat.reduceEqDiff, Nat.reduceLT, Nat.reduceLeDiff, Int.reduceToNat, Int.reduceLT, Int.reduceLE, Int.reduceAdd, Int.reduceSub, Int.reduceMul, Int.reduceNeg, Int.reduceEq, Int.reduceBEq, Int.reduceMod, Int.reduceGT, Int.reduceGE, Int.reduceBNe, Nat.reduceBNe, Int.natCast_nonneg, h1, h2, decide_true, decide_false, zero_ff]
    exact ret_plain rfl hK
theorem k_lag_Z {L : Nat} {x : F} (hL : L ≤ 9) {K : PV → List Ob → Prop} (hK : K (.tup [ff (x ^ 2 ^ L - 1), i64 0]) []) : PSpec prog 33 [i64 L, ff x] [] K := by
  refine sp_lagrange_Z ?_
  simp only [pc_lagrange_Z]
  have h1 : ¬ ((L : Int) < 0) := by omega
  have h2 : ¬ ((L : Int) > 9) := by omega
  simp -implicitDefEqProofs only [go_sem, wrs, wru, Int.toNat_natCast, Nat.zero_add, Bool.not_false, Bool.not_true, Bool.or_true, Bool.false_or, List.contains_nil, Bool.or_false, Nat.reduceAdd, Nat.reduceMul, Nat.reduceSub, Nat.reduceBEq, Nat.reduceEqDiff, Nat.reduceLT, Nat.reduceLeDiff, Int.reduceToNat, Int.reduceLT, Int.reduceLE, Int.reduceAdd, Int.reduceSub, Int.reduceMul, Int.reduceNeg, Int.reduceEq, Int.reduceBEq, Int.reduceMod, Int.reduceGT, Int.reduceGE, Int.reduceBNe, Nat.reduceBNe, Int.natCast_nonneg, h1, h2, decide_false]
  refine loop_fam (ι := { j : Nat // j ≤ L }) [14, 15, 16, 17, 18, 19] (fun j => [(14, i64 j.1)])
    (fun j => [(0, .ob (.var (.arr 4 .one) (ff (x ^ 2 ^ j.1)))), (1, .ob (.var (.arr 4 .one) (ff 0)))]) 2 (fun j => L - j.1) ⟨0, Nat.zero_le _⟩ ?_ ?_
  · rw [famS_eq]
    refine weak_plain [(0, 0), (1, 1)] rfl rfl rfl ?_ ?_
    · simp -implicitDefEqProofs only [go_sem, wrs, wru, Int.toNat_natCast, Nat.zero_add, Bool.not_false, Bool.not_true, Bool.or_true, Bool.false_or, List.contains_nil, Bool.or_false, Nat.reduceAdd, Nat.reduceMul, Nat.reduceSub, Nat.reduceBEq, Nat.reduceEqDiff, Nat.reduceLT, Nat.reduceLeDiff, Int.reduceToNat, Int.reduceLT, Int.reduceLE, Int.reduceAdd, Int.reduceSub, Int.reduceMul, Int.reduceNeg, Int.reduceEq, Int.reduceBEq, Int.reduceMod, Int.reduceGT, Int.reduceGE, Int.reduceBNe, Nat.reduceBNe, Int.natCast_nonneg, Option.some.injEq, PV.val.injEq, Value.int.injEq, PV.agg.injEq, List.cons.injEq, ob_eq, Ob.var.injEq, Ob.row.injEq, not_true_eq_false, not_false_eq_true, zero_ff, Nat.pow_zero, pw_one]
    · simp -implicitDefEqProofs only [go_sem, wrs, wru, Int.toNat_natCast, Nat.zero_add, Bool.not_false, Bool.not_true, Bool.or_true, Bool.false_or, List.contains_nil, Bool.or_false, Nat.reduceAdd, Nat.reduceMul, Nat.reduceSub, Nat.reduceBEq, Nat.reduceEqDiff, Nat.reduceLT, Nat.reduceLeDiff, Int.reduceToNat, Int.reduceLT, Int.reduceLE, Int.reduceAdd, Int.reduceSub, Int.reduceMul, Int.reduceNeg, Int.reduceEq, Int.reduceBEq, Int.reduceMod, Int.reduceGT, Int.reduceGE, Int.reduceBNe, Nat.reduceBNe, Int.natCast_nonneg, Option.some.injEq, PV.val.injEq, Value.int.injEq, PV.agg.injEq, List.cons.injEq, ob_eq, Ob.var.injEq, Ob.row.injEq, not_true_eq_false, not_false_eq_true]
  intro ⟨j, hj⟩ G hG
  simp -implicitDefEqProofs only [go_sem, wrs, wru, Int.toNat_natCast, Nat.zero_add, Bool.not_false, Bool.not_true, Bool.or_true, Bool.false_or, List.contains_nil, Bool.or_false, Nat.reduceAdd, Nat.reduceMul, Nat.reduceSub, Nat.reduceBEq, Nat.reduceEqDiff, Nat.reduceLT, Nat.reduceLeDiff, Int.reduceToNat, Int.reduceLT, Int.reduceLE, Int.reduceAdd, Int.reduceSub, Int.reduceMul, Int.reduceNeg, Int.reduceEq, Int.reduceBEq, Int.reduceMod, Int.reduceGT, Int.reduceGE, Int.reduceBNe, Nat.reduceBNe, Int.natCast_nonneg]
  refine cnd_split (fun h => ?_) (fun h => ?_)
  · simp only [decide_eq_true_eq] at h
    have w3 : IntKind.i64.wrap ((j : Int) + 1) = ((j + 1 : Nat) : Int) := by rw [wrs (by omega) (by omega)]; omega
    simp -implicitDefEqProofs only [go_sem, wrs, wru, Int.toNat_natCast, Nat.zero_add, Bool.not_false, Bool.not_true, Bool.or_true, Bool.false_or, List.contains_nil, Bool.or_false, Nat.reduceAdd, Nat.reduceMul, Nat.reduceSub, Nat.reduceBEq, Nat.reduceEqDiff, Nat.reduceLT, Nat.reduceLeDiff, Int.reduceToNat, Int.reduceLT, Int.reduceLE, Int.reduceAdd, Int.reduceSub, Int.reduceMul, Int.reduceNeg, Int.reduceEq, Int.reduceBEq, Int.reduceMod, Int.reduceGT, Int.reduceGE, Int.reduceBNe, Nat.reduceBNe, Int.natCast_nonneg, h]
    refine k_fr_Mul ?_
    simp -implicitDefEqProofs only [go_sem, wrs, wru, Int.toNat_natCast, Nat.zero_add, Bool.not_false, Bool.not_true, Bool.or_true, Bool.false_or, List.contains_nil, Bool.or_false, Nat.reduceAdd, Nat.reduceMul, Nat.reduceSub, Nat.reduceBEq, Nat.reduceEqDiff, Nat.reduceLT, Nat.reduceLeDiff, Int.reduceToNat, Int.reduceLT, Int.reduceLE, Int.reduceAdd, Int.reduceSub, Int.reduceMul, Int.reduceNeg, Int.reduceEq, Int.reduceBEq, Int.reduceMod, Int.reduceGT, Int.reduceGE, Int.reduceBNe, Nat.reduceBNe, Int.natCast_nonneg, h, w3, sq_pow]
    refine hG _ ⟨j + 1, by omega⟩ (by simp only; omega) ?_
    rw [famS_eq]
    refine weak_plain [(0, 0), (1, 1)] rfl rfl rfl ?_ ?_
    · simp -implicitDefEqProofs only [go_sem, wrs, wru, Int.toNat_natCast, Nat.zero_add, Bool.not_false, Bool.not_true, Bool.or_true, Bool.false_or, List.contains_nil, Bool.or_false, Nat.reduceAdd, Nat.reduceMul, Nat.reduceSub, Nat.reduceBEq, Nat.reduceEqDiff, Nat.reduceLT, Nat.reduceLeDiff, Int.reduceToNat, Int.reduceLT, Int.reduceLE, Int.reduceAdd, Int.reduceSub, Int.reduceMul, Int.reduceNeg, Int.reduceEq, Int.reduceBEq, Int.reduceMod, Int.reduceGT, Int.reduceGE, Int.reduceBNe, Nat.reduceBNe, Int.natCast_nonneg, Option.some.injEq, PV.val.injEq, Value.int.injEq, PV.agg.injEq, List.cons.injEq, ob_eq, Ob.var.injEq, Ob.row.injEq, not_true_eq_false, not_false_eq_true]
    · simp -implicitDefEqProofs only [go_sem, wrs, wru, Int.toNat_natCast, Nat.zero_add, Bool.not_false, Bool.not_true, Bool.or_true, Bool.false_or, List.contains_nil, Bool.or_false, Nat.reduceAdd, Nat.reduceMul, Nat.reduceSub, Nat.reduceBEq, Nat.reduceEqDiff, Nat.reduceLT, Nat.reduceLeDiff, Int.reduceToNat, Int.reduceLT, Int.reduceLE, Int.reduceAdd, Int.reduceSub, Int.reduceMul, Int.reduceNeg, Int.reduceEq, Int.reduceBEq, Int.reduceMod, Int.reduceGT, Int.reduceGE, Int.reduceBNe, Nat.reduceBNe, Int.natCast_nonneg, Option.some.injEq, PV.val.injEq, Value.int.injEq, PV.agg.injEq, List.cons.injEq, ob_eq, Ob.var.injEq, Ob.row.injEq, not_true_eq_false, not_false_eq_true]
  simp only [decide_eq_false_iff_not] at h
  obtain rfl : j = L := by omega
  clear hG
  simp -implicitDefEqProofs only [go_sem, wrs, wru, Int.toNat_natCast, Nat.zero_add, Bool.not_false, Bool.not_true, Bool.or_true, Bool.false_or, List.contains_nil, Bool.or_false, Nat.reduceAdd, Nat.reduceMul, Nat.reduceSub, Nat.reduceBEq, Nat.reduceEqDiff, Nat.reduceLT, Nat.reduceLeDiff, Int.reduceToNat, Int.reduceLT, Int.reduceLE, Int.reduceAdd, Int.reduceSub, Int.reduceMul, Int.reduceNeg, Int.reduceEq, Int.reduceBEq, Int.reduceMod, Int.reduceGT, Int.reduceGE, Int.reduceBNe, Nat.reduceBNe, Int.natCast_nonneg]
  refine k_fr_Of (lit_rng rfl) ?_
  simp -implicitDefEqProofs only [go_sem, wrs, wru, Int.toNat_natCast, Nat.zero_add, Bool.not_false, Bool.not_true, Bool.or_true, Bool.false_or, List.contains_nil, Bool.or_false, Nat.reduceAdd, Nat.reduceMul, Nat.reduceSub, Nat.reduceBEq, Nat.reduceEqDiff, Nat.reduceLT, Nat.reduceLeDiff, Int.reduceToNat, Int.reduceLT, Int.reduceLE, Int.reduceAdd, Int.reduceSub, Int.reduceMul, Int.reduceNeg, Int.reduceEq, Int.reduceBEq, Int.reduceMod, Int.reduceGT, Int.reduceGE, Int.reduceBNe, Nat.reduceBNe, Int.natCast_nonneg, of_one]
  refine k_fr_Sub ?_
  simp -implicitDefEqProofs only [go_sem, wrs, wru, Int.toNat_natCast, Nat.zero_add, Bool.not_false, Bool.not_true, Bool.or_true, Bool.false_or, List.contains_nil, Bool.or_false, Nat.reduceAdd, Nat.reduceMul, Nat.reduceSub, Nat.reduceBEq, Nat.reduceEqDiff, Nat.reduceLT, Nat.reduceLeDiff, Int.reduceToNat, Int.reduceLT, Int.reduceLE, Int.reduceAdd, Int.reduceSub, Int.reduceMul, Int.reduceNeg, Int.reduceEq, Int.reduceBEq, Int.reduceMod, Int.reduceGT, Int.reduceGE, Int.reduceBNe, Nat.reduceBNe, Int.natCast_nonneg]
  exact ret_plain rfl hK
theorem k_r12_Z {L : Nat} {x : F} (hL : L ≤ 1000) {K : PV → List Ob → Prop} (hK : K (ff (x ^ 2 ^ L - 1)) []) : PSpec prog 38 [i64 L, ff x] [] K := by
  refine sp_intaglioref12_Z ?_
  simp only [pc_intaglioref12_Z]
  simp -implicitDefEqProofs only [go_sem, wrs, wru, Int.toNat_natCast, Nat.zero_add, Bool.not_false, Bool.not_true, Bool.or_true, Bool.false_or, List.contains_nil, Bool.or_false, Nat.reduceAdd, Nat.reduceMul, Nat.reduceSub, Nat.reduceBEq, Nat.reduceEqDiff, Nat.reduceLT, Nat.reduceLeDiff, Int.reduceToNat, Int.reduceLT, Int.reduceLE, Int.reduceAdd, Int.reduceSub, Int.reduceMul, Int.reduceNeg, Int.reduceEq, Int.reduceBEq, Int.reduceMod, Int.reduceGT, Int.reduceGE, Int.reduceBNe, Nat.reduceBNe, Int.natCast_nonneg]
  refine loop_fam (ι := { j : Nat // j ≤ L }) [5, 6, 7, 8, 9, 10, 11, 12, 13] (fun j => [(5, i64 j.1)])
    (fun j => [(0, .ob (.var (.arr 4 .one) (ff (x ^ 2 ^ j.1)))), (1, .ob (.var (.arr 4 .one) (ff 0)))]) 2 (fun j => L - j.1) ⟨0, Nat.zero_le _⟩ ?_ ?_
  · rw [famS_eq]
    refine weak_plain [(0, 0), (1, 1)] rfl rfl rfl ?_ ?_
    · simp -implicitDefEqProofs only [go_sem, wrs, wru, Int.toNat_natCast, Nat.zero_add, Bool.not_false, Bool.not_true, Bool.or_true, Bool.false_or, List.contains_nil, Bool.or_false, Nat.reduceAdd, Nat.reduceMul, Nat.reduceSub, Nat.reduceBEq, Nat.reduceEqDiff, Nat.reduceLT, Nat.reduceLeDiff, Int.reduceToNat, Int.reduceLT, Int.reduceLE, Int.reduceAdd, Int.reduceSub, Int.reduceMul, Int.reduceNeg, Int.reduceEq, Int.reduceBEq, Int.reduceMod, Int.reduceGT, Int.reduceGE, Int.reduceBNe, Nat.reduceBNe, Int.natCast_nonneg, Option.some.injEq, PV.val.injEq, Value.int.injEq, PV.agg.injEq, List.cons.injEq, ob_eq, Ob.var.injEq, Ob.row.injEq, not_true_eq_false, not_false_eq_true, zero_ff, Nat.pow_zero, pw_one]
    · simp -implicitDefEqProofs only [go_sem, wrs, wru, Int.toNat_natCast, Nat.zero_add, Bool.not_false, Bool.not_true, Bool.or_true, Bool.false_or, List.contains_nil, Bool.or_false, Nat.reduceAdd, Nat.reduceMul, Nat.reduceSub, Nat.reduceBEq, Nat.reduceEqDiff, Nat.reduceLT, Nat.reduceLeDiff, Int.reduceToNat, Int.reduceLT, Int.reduceLE, Int.reduceAdd, Int.reduceSub, Int.reduceMul, Int.reduceNeg, Int.reduceEq, Int.reduceBEq, Int.reduceMod, Int.reduceGT, Int.reduceGE, Int.reduceBNe, Nat.reduceBNe, Int.natCast_nonneg, Option.some.injEq, PV.val.injEq, Value.int.injEq, PV.agg.injEq, List.cons.injEq, ob_eq, Ob.var.injEq, Ob.row.injEq, not_true_eq_false, not_false_eq_true]
  intro ⟨j, hj⟩ G hG
  simp -implicitDefEqProofs only [go_sem, wrs, wru, Int.toNat_natCast, Nat.zero_add, Bool.not_false, Bool.not_true, Bool.or_true, Bool.false_or, List.contains_nil, Bool.or_false, Nat.reduceAdd, Nat.reduceMul, Nat.reduceSub, Nat.reduceBEq, Nat.reduceEqDiff, Nat.reduceLT, Nat.reduceLeDiff, Int.reduceToNat, Int.reduceLT, Int.reduceLE, Int.reduceAdd, Int.reduceSub, Int.reduceMul, Int.reduceNeg, Int.reduceEq, Int.reduceBEq, Int.reduceMod, Int.reduceGT, Int.reduceGE, Int.reduceBNe, Nat.reduceBNe, Int.natCast_nonneg]
  refine cnd_split (fun h => ?_) (fun h => ?_)
  · simp only [decide_eq_true_eq] at h
    have w3 : IntKind.i64.wrap ((j : Int) + 1) = ((j + 1 : Nat) : Int) := by rw [wrs (by omega) (by omega)]; omega
    simp -implicitDefEqProofs only [go_sem, wrs, wru, Int.toNat_natCast, Nat.zero_add, Bool.not_false, Bool.not_true, Bool.or_true, Bool.false_or, List.contains_nil, Bool.or_false, Nat.reduceAdd, Nat.reduceMul, Nat.reduceSub, Nat.reduceBEq, Nat.reduceEqDiff, Nat.reduceLT, Nat.reduceLeDiff, Int.reduceToNat, Int.reduceLT, Int.reduceLE, Int.reduceAdd, Int.reduceSub, Int.reduceMul, Int.reduceNeg, Int.reduceEq, Int.reduceBEq, Int.reduceMod, Int.reduceGT, Int.reduceGE, Int.reduceBNe, Nat.reduceBNe, Int.natCast_nonneg, h]
    refine k_ref_MulR ?_
    simp -implicitDefEqProofs only [go_sem, wrs, wru, Int.toNat_natCast, Nat.zero_add, Bool.not_false, Bool.not_true, Bool.or_true, Bool.false_or, List.contains_nil, Bool.or_false, Nat.reduceAdd, Nat.reduceMul, Nat.reduceSub, Nat.reduceBEq, Nat.reduceEqDiff, Nat.reduceLT, Nat.reduceLeDiff, Int.reduceToNat, Int.reduceLT, Int.reduceLE, Int.reduceAdd, Int.reduceSub, Int.reduceMul, Int.reduceNeg, Int.reduceEq, Int.reduceBEq, Int.reduceMod, Int.reduceGT, Int.reduceGE, Int.reduceBNe, Nat.reduceBNe, Int.natCast_nonneg, h, w3, sq_pow]
    refine hG _ ⟨j + 1, by omega⟩ (by simp only; omega) ?_
    rw [famS_eq]
    refine weak_plain [(0, 0), (1, 1)] rfl rfl rfl ?_ ?_
    · simp -implicitDefEqProofs only [go_sem, wrs, wru, Int.toNat_natCast, Nat.zero_add, Bool.not_false, Bool.not_true, Bool.or_true, Bool.false_or, List.contains_nil, Bool.or_false, Nat.reduceAdd, Nat.reduceMul, Nat.reduceSub, Nat.reduceBEq, Nat.reduceEqDiff, Nat.reduceLT, Nat.reduceLeDiff, Int.reduceToNat, Int.reduceLT, Int.reduceLE, Int.reduceAdd, Int.reduceSub, Int.reduceMul, Int.reduceNeg, Int.reduceEq, Int.reduceBEq, Int.reduceMod, Int.reduceGT, Int.reduceGE, Int.reduceBNe, Nat.reduceBNe, Int.natCast_nonneg, Option.some.injEq, PV.val.injEq, Value.int.injEq, PV.agg.injEq, List.cons.injEq, ob_eq, Ob.var.injEq, Ob.row.injEq, not_true_eq_false, not_false_eq_true]
    · simp -implicitDefEqProofs only [go_sem, wrs, wru, Int.toNat_natCast, Nat.zero_add, Bool.not_false, Bool.not_true, Bool.or_true, Bool.false_or, List.contains_nil, Bool.or_false, Nat.reduceAdd, Nat.reduceMul, Nat.reduceSub, Nat.reduceBEq, Nat.reduceEqDiff, Nat.reduceLT, Nat.reduceLeDiff, Int.reduceToNat, Int.reduceLT, Int.reduceLE, Int.reduceAdd, Int.reduceSub, Int.reduceMul, Int.reduceNeg, Int.reduceEq, Int.reduceBEq, Int.reduceMod, Int.reduceGT, Int.reduceGE, Int.reduceBNe, Nat.reduceBNe, Int.natCast_nonneg, Option.some.injEq, PV.val.injEq, Value.int.injEq, PV.agg.injEq, List.cons.injEq, ob_eq, Ob.var.injEq, Ob.row.injEq, not_true_eq_false, not_false_eq_true]
  simp only [decide_eq_false_iff_not] at h
  obtain rfl : j = L := by omega
  clear hG
  simp -implicitDefEqProofs only [go_sem, wrs, wru, Int.toNat_natCast, Nat.zero_add, Bool.not_false, Bool.not_true, Bool.or_true, Bool.false_or, List.contains_nil, Bool.or_false, Nat.reduceAdd, Nat.reduceMul, Nat.reduceSub, Nat.reduceBEq, Nat.reduceEqDiff, Nat.reduceLT, Nat.reduceLeDiff, Int.reduceToNat, Int.reduceLT, Int.reduceLE, Int.reduceAdd, Int.reduceSub, Int.reduceMul, Int.reduceNeg, Int.reduceEq, Int.reduceBEq, Int.reduceMod, Int.reduceGT, Int.reduceGE, Int.reduceBNe, Nat.reduceBNe, Int.natCast_nonneg]
  refine k_ref_OfR (lit_rng rfl) ?_
  simp -implicitDefEqProofs only [go_sem, wrs, wru, Int.toNat_natCast, Nat.zero_add, Bool.not_false, Bool.not_true, Bool.or_true, Bool.false_or, List.contains_nil, Bool.or_false, Nat.reduceAdd, Nat.reduceMul, Nat.reduceSub, Nat.reduceBEq, Nat.reduceEqDiff, Nat.reduceLT, Nat.reduceLeDiff, Int.reduceToNat, Int.reduceLT, Int.reduceLE, Int.reduceAdd, Int.reduceSub, Int.reduceMul, Int.reduceNeg, Int.reduceEq, Int.reduceBEq, Int.reduceMod, Int.reduceGT, Int.reduceGE, Int.reduceBNe, Nat.reduceBNe, Int.natCast_nonneg, of_one]
  refine k_ref_SubR ?_
  simp -implicitDefEqProofs only [go_sem, wrs, wru, Int.toNat_natCast, Nat.zero_add, Bool.not_false, Bool.not_true, Bool.or_true, Bool.false_or, List.contains_nil, Bool.or_false, Nat.reduceAdd, Nat.reduceMul, Nat.reduceSub, Nat.reduceBEq, Nat.reduceEqDiff, Nat.reduceLT, Nat.reduceLeDiff, Int.reduceToNat, Int.reduceLT, Int.reduceLE, Int.reduceAdd, Int.reduceSub, Int.reduceMul, Int.reduceNeg, Int.reduceEq, Int.reduceBEq, Int.reduceMod, Int.reduceGT, Int.reduceGE, Int.reduceBNe, Nat.reduceBNe, Int.natCast_nonneg]
  exact ret_plain rfl hK
theorem shl1u {i : Nat} (hi : i < 64) : binI .shl .u64 1 (i : Int) = .int .u64 ((2 ^ i : Nat) : Int) := by
  have h := bin_shl (a := 1) (k := i) hi
  rw [Nat.one_mul, Nat.mod_eq_of_lt (Nat.pow_lt_pow_right (by decide) hi)] at h
  exact h
theorem k_lag_L_bad {log i : Int} {x : F} (h : (log < 0 ∨ log > 9) ∨ ∃ L : Nat, log = L ∧ L ≤ 9 ∧ (i < 0 ∨ i ≥ ((2 ^ L : Nat) : Int))) {K : PV → List Ob → Prop} (hK : K (.tup [ff 0, i64 1]) []) : PSpec prog 32 [i64 log, i64 i, ff x] [] K := by
  refine sp_lagrange_L ?_
  simp only [pc_lagrange_L]
  rcases h with h | ⟨L, rfl, hL, h⟩
  · simp -implicitDefEqProofs only [go_sem, wrs, wru, Int.toNat_natCast, Nat.zero_add, Bool.not_false, Bool.not_true, Bool.or_true, Bool.false_or, List.contains_nil, Bool.or_false, Nat.reduceAdd, Nat.reduceMul, Nat.reduceSub, Nat.reduceBEq, Nat.reduceEqDiff, Nat.reduceLT, Nat.reduceLeDiff, Int.reduceToNat, Int.reduceLT, Int.reduceLE, Int.reduceAdd, Int.reduceSub, Int.reduceMul, Int.reduceNeg, Int.reduceEq, Int.reduceBEq, Int.reduceMod, Int.reduceGT, Int.reduceGE, Int.reduceBNe, Nat.reduceBNe, Int.natCast_nonneg]
    refine k_lag_Z_bad h ?_
    simp -implicitDefEqProofs only [go_sem, wrs, wru, Int.toNat_natCast, Nat.zero_add, Bool.not_false, Bool.not_true, Bool.or_true, Bool.false_or, List.contains_nil, Bool.or_false, Nat.reduceAdd, Nat.reduceMul, Nat.reduceSub, Nat.reduceBEq, Nat.reduceEqDiff, Nat.reduceLT, Nat.reduceLeDiff, Int.reduceToNat, Int.reduceLT, Int.reduceLE, Int.reduceAdd, Int.reduceSub, Int.reduceMul, Int.reduceNeg, Int.reduceEq, Int.reduceBEq, Int.reduceMod, Int.reduceGT, Int.reduceGE, Int.reduceBNe, Nat.reduceBNe, Int.natCast_nonneg, zero_ff]
    exact ret_plain rfl hK
  · have wl : IntKind.u64.wrap (L : Int) = (L : Int) := wru (by omega) (by omega)
    by_cases h1 : i < 0
    · simp -implicitDefEqProofs only [go_sem, wrs, wru, Int.toNat_natCast, Nat.zero_add, Bool.not_false, Bool.not_true, Bool.or_true, Bool.false_or, List.contains_nil, Bool.or_false, Nat.reduceAdd, Nat.reduceMul, Nat.reduceSub, Nat.reduceBEq, Nat.reduceEqDiff, Nat.reduceLT, Nat.reduceLeDiff, Int.reduceToNat, Int.reduceLT, Int.reduceLE, Int.reduceAdd, Int.reduceSub, Int.reduceMul, Int.reduceNeg, Int.reduceEq, Int.reduceBEq, Int.reduceMod, Int.reduceGT, Int.reduceGE, Int.reduceBNe, Nat.reduceBNe, Int.natCast_nonneg]
      refine k_lag_Z hL ?_
      simp -implicitDefEqProofs only [go_sem, wrs, wru, Int.toNat_natCast, Nat.zero_add, Bool.not_false, Bool.not_true, Bool.or_true, Bool.false_or, List.contains_nil, Bool.or_false, Nat.reduceAdd, Nat.reduceMul, Nat.reduceSub, Nat.reduceBEq, Nat.reduceEqDiff, Nat.reduceLT, Nat.reduceLeDiff, Int.reduceToNat, Int.reduceLT, Int.reduceLE, Int.reduceAdd, Int.reduceSub, Int.reduceMul, Int.reduceNeg, Int.reduceEq, Int.reduceBEq, Int.reduceMod, Int.reduceGT, Int.reduceGE, Int.reduceBNe, Nat.reduceBNe, Int.natCast_nonneg, h1, decide_true, zero_ff]
      exact ret_plain rfl hK
    · have h2 : i ≥ ((2 ^ L : Nat) : Int) := by omega
      simp -implicitDefEqProofs only [go_sem, wrs, wru, Int.toNat_natCast, Nat.zero_add, Bool.not_false, Bool.not_true, Bool.or_true, Bool.false_or, List.contains_nil, Bool.or_false, Nat.reduceAdd, Nat.reduceMul, Nat.reduceSub, Nat.reduceBEq, Nat.reduceEqDiff, Nat.reduceLT, Nat.reduceLeDiff, Int.reduceToNat, Int.reduceLT, Int.reduceLE, Int.reduceAdd, Int.reduceSub, Int.reduceMul, Int.reduceNeg, Int.reduceEq, Int.reduceBEq, Int.reduceMod, Int.reduceGT, Int.reduceGE, Int.reduceBNe, Nat.reduceBNe, Int.natCast_nonneg]
      refine k_lag_Z hL ?_
      simp -implicitDefEqProofs only [go_sem, wrs, wru, Int.toNat_natCast, Nat.zero_add, Bool.not_false, Bool.not_true, Bool.or_true, Bool.false_or, List.contains_nil, Bool.or_false, Nat.reduceAdd, Nat.reduceMul, Nat.reduceSub, Nat.reduceBEq, Nat.reduceEqDiff, Nat.reduceLT, Nat.reduceLeDiff, Int.reduceToNat, Int.reduceLT, Int.reduceLE, Int.reduceAdd, Int.reduceSub, Int.reduceMul, Int.reduceNeg, Int.reduceEq, Int.reduceBEq, Int.reduceMod, Int.reduceGT, Int.reduceGE, Int.reduceBNe, Nat.reduceBNe, Int.natCast_nonneg, h1, h2, wl, decide_true, decide_false, zero_ff, ↓shl1 (show L < 63 by omega)]
      exact ret_plain rfl hK
theorem k_lag_L {L i : Nat} {x : F} (hL : L ≤ 9) (hi : i < 2 ^ L) {K : PV → List Ob → Prop} (hK : K (.tup [ff (lagL L i x), i64 0]) []) : PSpec prog 32 [i64 L, i64 i, ff x] [] K := by
  refine sp_lagrange_L ?_
  simp only [pc_lagrange_L]
  have wl : IntKind.u64.wrap (L : Int) = (L : Int) := wru (by omega) (by omega)
  have hp : 2 ^ L ≤ 2 ^ 9 := Nat.pow_le_pow_right (by decide) hL
  have wi : IntKind.u64.wrap (i : Int) = (i : Int) := wru (by omega) (by omega)
  have h1 : ¬ ((i : Int) < 0) := by omega
  have h2 : ¬ ((i : Int) ≥ ((2 ^ L : Nat) : Int)) := by omega
  have hz0 := p2_nz (L := L) (by omega)
  rw [lagL] at hK
  simp -implicitDefEqProofs only [go_sem, wrs, wru, Int.toNat_natCast, Nat.zero_add, Bool.not_false, Bool.not_true, Bool.or_true, Bool.false_or, List.contains_nil, Bool.or_false, Nat.reduceAdd, Nat.reduceMul, Nat.reduceSub, Nat.reduceBEq, Nat.reduceEqDiff, Nat.reduceLT, Nat.reduceLeDiff, Int.reduceToNat, Int.reduceLT, Int.reduceLE, Int.reduceAdd, Int.reduceSub, Int.reduceMul, Int.reduceNeg, Int.reduceEq, Int.reduceBEq, Int.reduceMod, Int.reduceGT, Int.reduceGE, Int.reduceBNe, Nat.reduceBNe, Int.natCast_nonneg]
  refine k_lag_Z hL ?_
  simp -implicitDefEqProofs only [go_sem, wrs, wru, Int.toNat_natCast, Nat.zero_add, Bool.not_false, Bool.not_true, Bool.or_true, Bool.false_or, List.contains_nil, Bool.or_false, Nat.reduceAdd, Nat.reduceMul, Nat.reduceSub, Nat.reduceBEq, Nat.reduceEqDiff, Nat.reduceLT, Nat.reduceLeDiff, Int.reduceToNat, Int.reduceLT, Int.reduceLE, Int.reduceAdd, Int.reduceSub, Int.reduceMul, Int.reduceNeg, Int.reduceEq, Int.reduceBEq, Int.reduceMod, Int.reduceGT, Int.reduceGE, Int.reduceBNe, Nat.reduceBNe, Int.natCast_nonneg, h1, h2, wl, decide_true, decide_false, ↓shl1 (show L < 63 by omega), ↓shl1u (show L < 64 by omega)]
  refine k_fr_Root (by omega) ?_
  generalize rt L = w at *
  simp -implicitDefEqProofs only [go_sem, wrs, wru, Int.toNat_natCast, Nat.zero_add, Bool.not_false, Bool.not_true, Bool.or_true, Bool.false_or, List.contains_nil, Bool.or_false, Nat.reduceAdd, Nat.reduceMul, Nat.reduceSub, Nat.reduceBEq, Nat.reduceEqDiff, Nat.reduceLT, Nat.reduceLeDiff, Int.reduceToNat, Int.reduceLT, Int.reduceLE, Int.reduceAdd, Int.reduceSub, Int.reduceMul, Int.reduceNeg, Int.reduceEq, Int.reduceBEq, Int.reduceMod, Int.reduceGT, Int.reduceGE, Int.reduceBNe, Nat.reduceBNe, Int.natCast_nonneg, wi]
  repeat (with_reducible refine And.intro (by first | omega | decide) ?_)
  refine k_fr_Pow (e := [i]) (Nat.le_add_left 1 3) (by simp; omega) ?_
  rw [show nv [i] = i by simp only [nv]; omega]
  obtain ⟨W, hW⟩ : ∃ W, w ^ i = W := ⟨_, rfl⟩
  rw [hW] at hK
  rw [hW]
  simp -implicitDefEqProofs only [go_sem, wrs, wru, Int.toNat_natCast, Nat.zero_add, Bool.not_false, Bool.not_true, Bool.or_true, Bool.false_or, List.contains_nil, Bool.or_false, Nat.reduceAdd, Nat.reduceMul, Nat.reduceSub, Nat.reduceBEq, Nat.reduceEqDiff, Nat.reduceLT, Nat.reduceLeDiff, Int.reduceToNat, Int.reduceLT, Int.reduceLE, Int.reduceAdd, Int.reduceSub, Int.reduceMul, Int.reduceNeg, Int.reduceEq, Int.reduceBEq, Int.reduceMod, Int.reduceGT, Int.reduceGE, Int.reduceBNe, Nat.reduceBNe, Int.natCast_nonneg, h1, h2, wl, wi, ↓shl1 (show L < 63 by omega), ↓shl1u (show L < 64 by omega)]
  refine k_fr_Of ⟨by omega, by omega⟩ ?_
  simp -implicitDefEqProofs only [go_sem, wrs, wru, Int.toNat_natCast, Nat.zero_add, Bool.not_false, Bool.not_true, Bool.or_true, Bool.false_or, List.contains_nil, Bool.or_false, Nat.reduceAdd, Nat.reduceMul, Nat.reduceSub, Nat.reduceBEq, Nat.reduceEqDiff, Nat.reduceLT, Nat.reduceLeDiff, Int.reduceToNat, Int.reduceLT, Int.reduceLE, Int.reduceAdd, Int.reduceSub, Int.reduceMul, Int.reduceNeg, Int.reduceEq, Int.reduceBEq, Int.reduceMod, Int.reduceGT, Int.reduceGE, Int.reduceBNe, Nat.reduceBNe, Int.natCast_nonneg]
  refine k_fr_Sub ?_
  simp -implicitDefEqProofs only [go_sem, wrs, wru, Int.toNat_natCast, Nat.zero_add, Bool.not_false, Bool.not_true, Bool.or_true, Bool.false_or, List.contains_nil, Bool.or_false, Nat.reduceAdd, Nat.reduceMul, Nat.reduceSub, Nat.reduceBEq, Nat.reduceEqDiff, Nat.reduceLT, Nat.reduceLeDiff, Int.reduceToNat, Int.reduceLT, Int.reduceLE, Int.reduceAdd, Int.reduceSub, Int.reduceMul, Int.reduceNeg, Int.reduceEq, Int.reduceBEq, Int.reduceMod, Int.reduceGT, Int.reduceGE, Int.reduceBNe, Nat.reduceBNe, Int.natCast_nonneg]
  refine k_fr_Mul ?_
  simp -implicitDefEqProofs only [go_sem, wrs, wru, Int.toNat_natCast, Nat.zero_add, Bool.not_false, Bool.not_true, Bool.or_true, Bool.false_or, List.contains_nil, Bool.or_false, Nat.reduceAdd, Nat.reduceMul, Nat.reduceSub, Nat.reduceBEq, Nat.reduceEqDiff, Nat.reduceLT, Nat.reduceLeDiff, Int.reduceToNat, Int.reduceLT, Int.reduceLE, Int.reduceAdd, Int.reduceSub, Int.reduceMul, Int.reduceNeg, Int.reduceEq, Int.reduceBEq, Int.reduceMod, Int.reduceGT, Int.reduceGE, Int.reduceBNe, Nat.reduceBNe, Int.natCast_nonneg]
  refine k_fr_Inv (fun h => ?_) fun h => ?_
  · have hx : x = W := by
      rcases no_zero h with h | h
      · exact absurd h hz0
      · grind
    rw [if_pos hx] at hK
    simp -implicitDefEqProofs only [go_sem, wrs, wru, Int.toNat_natCast, Nat.zero_add, Bool.not_false, Bool.not_true, Bool.or_true, Bool.false_or, List.contains_nil, Bool.or_false, Nat.reduceAdd, Nat.reduceMul, Nat.reduceSub, Nat.reduceBEq, Nat.reduceEqDiff, Nat.reduceLT, Nat.reduceLeDiff, Int.reduceToNat, Int.reduceLT, Int.reduceLE, Int.reduceAdd, Int.reduceSub, Int.reduceMul, Int.reduceNeg, Int.reduceEq, Int.reduceBEq, Int.reduceMod, Int.reduceGT, Int.reduceGE, Int.reduceBNe, Nat.reduceBNe, Int.natCast_nonneg]
    refine k_fr_Of (lit_rng rfl) ?_
    simp -implicitDefEqProofs only [go_sem, wrs, wru, Int.toNat_natCast, Nat.zero_add, Bool.not_false, Bool.not_true, Bool.or_true, Bool.false_or, List.contains_nil, Bool.or_false, Nat.reduceAdd, Nat.reduceMul, Nat.reduceSub, Nat.reduceBEq, Nat.reduceEqDiff, Nat.reduceLT, Nat.reduceLeDiff, Int.reduceToNat, Int.reduceLT, Int.reduceLE, Int.reduceAdd, Int.reduceSub, Int.reduceMul, Int.reduceNeg, Int.reduceEq, Int.reduceBEq, Int.reduceMod, Int.reduceGT, Int.reduceGE, Int.reduceBNe, Nat.reduceBNe, Int.natCast_nonneg, of_one]
    exact ret_plain rfl hK
  · have hx : x ≠ W := fun e => h (by rw [e, show W - W = 0 by grind]; exact f_mul0 _)
    rw [if_neg hx] at hK
    simp -implicitDefEqProofs only [go_sem, wrs, wru, Int.toNat_natCast, Nat.zero_add, Bool.not_false, Bool.not_true, Bool.or_true, Bool.false_or, List.contains_nil, Bool.or_false, Nat.reduceAdd, Nat.reduceMul, Nat.reduceSub, Nat.reduceBEq, Nat.reduceEqDiff, Nat.reduceLT, Nat.reduceLeDiff, Int.reduceToNat, Int.reduceLT, Int.reduceLE, Int.reduceAdd, Int.reduceSub, Int.reduceMul, Int.reduceNeg, Int.reduceEq, Int.reduceBEq, Int.reduceMod, Int.reduceGT, Int.reduceGE, Int.reduceBNe, Nat.reduceBNe, Int.natCast_nonneg]
    refine k_fr_Mul ?_
    simp -implicitDefEqProofs only [go_sem, wrs, wru, Int.toNat_natCast, Nat.zero_add, Bool.not_false, Bool.not_true, Bool.or_true, Bool.false_or, List.contains_nil, Bool.or_false, Nat.reduceAdd, Nat.reduceMul, Nat.reduceSub, Nat.reduceBEq, Nat.reduceEqDiff, Nat.reduceLT, Nat.reduceLeDiff, Int.reduceToNat, Int.reduceLT, Int.reduceLE, Int.reduceAdd, Int.reduceSub, Int.reduceMul, Int.reduceNeg, Int.reduceEq, Int.reduceBEq, Int.reduceMod, Int.reduceGT, Int.reduceGE, Int.reduceBNe, Nat.reduceBNe, Int.natCast_nonneg]
    refine k_fr_Mul ?_
    simp -implicitDefEqProofs only [go_sem, wrs, wru, Int.toNat_natCast, Nat.zero_add, Bool.not_false, Bool.not_true, Bool.or_true, Bool.false_or, List.contains_nil, Bool.or_false, Nat.reduceAdd, Nat.reduceMul, Nat.reduceSub, Nat.reduceBEq, Nat.reduceEqDiff, Nat.reduceLT, Nat.reduceLeDiff, Int.reduceToNat, Int.reduceLT, Int.reduceLE, Int.reduceAdd, Int.reduceSub, Int.reduceMul, Int.reduceNeg, Int.reduceEq, Int.reduceBEq, Int.reduceMod, Int.reduceGT, Int.reduceGE, Int.reduceBNe, Nat.reduceBNe, Int.natCast_nonneg]
    exact ret_plain rfl hK
theorem k_lag_Values_bad {a : List F} {log : Int} (h : log < 0 ∨ log > 9) {K : PV → List Ob → Prop} (hK : K (.tup [.osl 0 [] 0 0, i64 1]) [.row 33 (.arr 4 .one) []]) : PSpec prog 37 [.vsl false (.arr 4 .one) (ffs a), i64 log] [] K := by
  refine sp_lagrange_Values ?_
  simp only [pc_lagrange_Values]
  by_cases h1 : log < 0
  · simp -implicitDefEqProofs only [go_sem, wrs, wru, Int.toNat_natCast, Nat.zero_add, Bool.not_false, Bool.not_true, Bool.or_true, Bool.false_or, List.contains_nil, Bool.or_false, Nat.reduceAdd, Nat.reduceMul, Nat.reduceSub, Nat.reduceBEq, Nat.reduceEqDiff, Nat.reduceLT, Nat.reduceLeDiff, Int.reduceToNat, Int.reduceLT, Int.reduceLE, Int.reduceAdd, Int.reduceSub, Int.reduceMul, Int.reduceNeg, Int.reduceEq, Int.reduceBEq, Int.reduceMod, Int.reduceGT, Int.reduceGE, Int.reduceBNe, Nat.reduceBNe, Int.natCast_nonneg, h1, decide_true]
    refine ret_obs [(1, 0)] [.row 33 (.arr 4 .one) []] [.osl 0 [] 0 0, i64 1] rfl rfl ?_ ?_ hK
    · simp -implicitDefEqProofs only [go_sem, wrs, wru, Int.toNat_natCast, Nat.zero_add, Bool.not_false, Bool.not_true, Bool.or_true, Bool.false_or, List.contains_nil, Bool.or_false, Nat.reduceAdd, Nat.reduceMul, Nat.reduceSub, Nat.reduceBEq, Nat.reduceEqDiff, Nat.reduceLT, Nat.reduceLeDiff, Int.reduceToNat, Int.reduceLT, Int.reduceLE, Int.reduceAdd, Int.reduceSub, Int.reduceMul, Int.reduceNeg, Int.reduceEq, Int.reduceBEq, Int.reduceMod, Int.reduceGT, Int.reduceGE, Int.reduceBNe, Nat.reduceBNe, Int.natCast_nonneg, Option.some.injEq, PV.val.injEq, Value.int.injEq, PV.agg.injEq, List.cons.injEq, ob_eq, Ob.var.injEq, Ob.row.injEq, not_true_eq_false, not_false_eq_true]
    · simp -implicitDefEqProofs only [go_sem, wrs, wru, Int.toNat_natCast, Nat.zero_add, Bool.not_false, Bool.not_true, Bool.or_true, Bool.false_or, List.contains_nil, Bool.or_false, Nat.reduceAdd, Nat.reduceMul, Nat.reduceSub, Nat.reduceBEq, Nat.reduceEqDiff, Nat.reduceLT, Nat.reduceLeDiff, Int.reduceToNat, Int.reduceLT, Int.reduceLE, Int.reduceAdd, Int.reduceSub, Int.reduceMul, Int.reduceNeg, Int.reduceEq, Int.reduceBEq, Int.reduceMod, Int.reduceGT, Int.reduceGE, Int.reduceBNe, Nat.reduceBNe, Int.natCast_nonneg]
  · have h2 : log > 9 := by omega
    simp -implicitDefEqProofs only [go_sem, wrs, wru, Int.toNat_natCast, Nat.zero_add, Bool.not_false, Bool.not_true, Bool.or_true, Bool.false_or, List.contains_nil, Bool.or_false, Nat.reduceAdd, Nat.reduceMul, Nat.reduceSub, Nat.reduceBEq, Nat.reduceEqDiff, Nat.reduceLT, Nat.reduceLeDiff, Int.reduceToNat, Int.reduceLT, Int.reduceLE, Int.reduceAdd, Int.reduceSub, Int.reduceMul, Int.reduceNeg, Int.reduceEq, Int.reduceBEq, Int.reduceMod, Int.reduceGT, Int.reduceGE, Int.reduceBNe, Nat.reduceBNe, Int.natCast_nonneg, h1, h2, decide_true, decide_false]
    refine ret_obs [(1, 0)] [.row 33 (.arr 4 .one) []] [.osl 0 [] 0 0, i64 1] rfl rfl ?_ ?_ hK
    · simp -implicitDefEqProofs only [go_sem, wrs, wru, Int.toNat_natCast, Nat.zero_add, Bool.not_false, Bool.not_true, Bool.or_true, Bool.false_or, List.contains_nil, Bool.or_false, Nat.reduceAdd, Nat.reduceMul, Nat.reduceSub, Nat.reduceBEq, Nat.reduceEqDiff, Nat.reduceLT, Nat.reduceLeDiff, Int.reduceToNat, Int.reduceLT, Int.reduceLE, Int.reduceAdd, Int.reduceSub, Int.reduceMul, Int.reduceNeg, Int.reduceEq, Int.reduceBEq, Int.reduceMod, Int.reduceGT, Int.reduceGE, Int.reduceBNe, Nat.reduceBNe, Int.natCast_nonneg, Option.some.injEq, PV.val.injEq, Value.int.injEq, PV.agg.injEq, List.cons.injEq, ob_eq, Ob.var.injEq, Ob.row.injEq, not_true_eq_false, not_false_eq_true]
    · simp -implicitDefEqProofs only [go_sem, wrs, wru, Int.toNat_natCast, Nat.zero_add, Bool.not_false, Bool.not_true, Bool.or_true, Bool.false_or, List.contains_nil, Bool.or_false, Nat.reduceAdd, Nat.reduceMul, Nat.reduceSub, Nat.reduceBEq, Nat.reduceEqDiff, Nat.reduceLT, Nat.reduceLeDiff, Int.reduceToNat, Int.reduceLT, Int.reduceLE, Int.reduceAdd, Int.reduceSub, Int.reduceMul, Int.reduceNeg, Int.reduceEq, Int.reduceBEq, Int.reduceMod, Int.reduceGT, Int.reduceGE, Int.reduceBNe, Nat.reduceBNe, Int.natCast_nonneg]
theorem k_lag_Values {a : List F} {L : Nat} (hl : a.length ≤ 1000000) (hL : L ≤ 9) {K : PV → List Ob → Prop} (hK : K (.tup [.osl 0 [] 0 (2 ^ L), i64 0]) [.row 33 (.arr 4 .one) (ffs (vlR L a))]) : PSpec prog 37 [.vsl false (.arr 4 .one) (ffs a), i64 L] [] K := by
  refine sp_lagrange_Values ?_
  simp only [pc_lagrange_Values]
  have h1 : ¬ ((L : Int) < 0) := by omega
  have h2 : ¬ ((L : Int) > 9) := by omega
  have wl : IntKind.u64.wrap (L : Int) = (L : Int) := wru (by omega) (by omega)
  have hp : 2 ^ L ≤ 2 ^ 9 := Nat.pow_le_pow_right (by decide) hL
  have hp0 := Nat.two_pow_pos L
  have hlg := lg_pow (L := L) hL
  have hgo : goR (fdS (2 ^ L) a a.length) = (vlR L a, 0) := by rw [goR_some (by rw [fdS_len]; exact hlg), vl_fold (by omega)]
  have vl := vlR_len L a
  generalize vlR L a = V at *
  obtain ⟨n, hn⟩ : ∃ n, 2 ^ L = n := ⟨_, rfl⟩
  rw [hn] at hp hp0 hgo hK vl
  simp -implicitDefEqProofs only [go_sem, wrs, wru, Int.toNat_natCast, Nat.zero_add, Bool.not_false, Bool.not_true, Bool.or_true, Bool.false_or, List.contains_nil, Bool.or_false, Nat.reduceAdd, Nat.reduceMul, Nat.reduceSub, Nat.reduceBEq, Nat.reduceEqDiff, Nat.reduceLT, Nat.reduceLeDiff, Int.reduceToNat, Int.reduceLT, Int.reduceLE, Int.reduceAdd, Int.reduceSub, Int.reduceMul, Int.reduceNeg, Int.reduceEq, Int.reduceBEq, Int.reduceMod, Int.reduceGT, Int.reduceGE, Int.reduceBNe, Nat.reduceBNe, Int.natCast_nonneg, h1, h2, wl, decide_false, ↓shl1 (show L < 63 by omega), hn, ← Int.natCast_mul]
  repeat (with_reducible refine And.intro (by first | omega | decide) ?_)
  refine loop_fam (ι := { j : Nat // j ≤ a.length }) [4, 8, 9, 23, 24, 25, 26, 27, 28, 29, 30, 31, 32, 33, 34, 35, 36, 37, 38, 39, 40, 41] (fun j => [(23, i64 j.1)])
    (fun j => [(1, .ob (.row 33 (.arr 4 .one) (ffs (fdS n a j.1))))]) 2 (fun j => a.length - j.1) ⟨0, Nat.zero_le _⟩ ?_ ?_
  · rw [famS_eq]
    refine weak_plain [(1, 1)] rfl rfl rfl ?_ ?_
    · simp -implicitDefEqProofs only [go_sem, wrs, wru, Int.toNat_natCast, Nat.zero_add, Bool.not_false, Bool.not_true, Bool.or_true, Bool.false_or, List.contains_nil, Bool.or_false, Nat.reduceAdd, Nat.reduceMul, Nat.reduceSub, Nat.reduceBEq, Nat.reduceEqDiff, Nat.reduceLT, Nat.reduceLeDiff, Int.reduceToNat, Int.reduceLT, Int.reduceLE, Int.reduceAdd, Int.reduceSub, Int.reduceMul, Int.reduceNeg, Int.reduceEq, Int.reduceBEq, Int.reduceMod, Int.reduceGT, Int.reduceGE, Int.reduceBNe, Nat.reduceBNe, Int.natCast_nonneg, Option.some.injEq, PV.val.injEq, Value.int.injEq, PV.agg.injEq, List.cons.injEq, ob_eq, Ob.var.injEq, Ob.row.injEq, not_true_eq_false, not_false_eq_true, fdS, zero_ff]
    · simp -implicitDefEqProofs only [go_sem, wrs, wru, Int.toNat_natCast, Nat.zero_add, Bool.not_false, Bool.not_true, Bool.or_true, Bool.false_or, List.contains_nil, Bool.or_false, Nat.reduceAdd, Nat.reduceMul, Nat.reduceSub, Nat.reduceBEq, Nat.reduceEqDiff, Nat.reduceLT, Nat.reduceLeDiff, Int.reduceToNat, Int.reduceLT, Int.reduceLE, Int.reduceAdd, Int.reduceSub, Int.reduceMul, Int.reduceNeg, Int.reduceEq, Int.reduceBEq, Int.reduceMod, Int.reduceGT, Int.reduceGE, Int.reduceBNe, Nat.reduceBNe, Int.natCast_nonneg, Option.some.injEq, PV.val.injEq, Value.int.injEq, PV.agg.injEq, List.cons.injEq, ob_eq, Ob.var.injEq, Ob.row.injEq, not_true_eq_false, not_false_eq_true]
  intro ⟨j, hj⟩ G hG
  simp -implicitDefEqProofs only [go_sem, wrs, wru, Int.toNat_natCast, Nat.zero_add, Bool.not_false, Bool.not_true, Bool.or_true, Bool.false_or, List.contains_nil, Bool.or_false, Nat.reduceAdd, Nat.reduceMul, Nat.reduceSub, Nat.reduceBEq, Nat.reduceEqDiff, Nat.reduceLT, Nat.reduceLeDiff, Int.reduceToNat, Int.reduceLT, Int.reduceLE, Int.reduceAdd, Int.reduceSub, Int.reduceMul, Int.reduceNeg, Int.reduceEq, Int.reduceBEq, Int.reduceMod, Int.reduceGT, Int.reduceGE, Int.reduceBNe, Nat.reduceBNe, Int.natCast_nonneg]
  have so := fdS_len n a j
  have hS : fdS n a (j + 1) = (fdS n a j).set (j % n) ((fdS n a j).getD (j % n) 0 + a.getD j 0) := rfl
  refine cnd_split (fun h => ?_) (fun h => ?_)
  · simp only [decide_eq_true_eq] at h
    have hja : j < a.length := by omega
    have hjm : j % n < n := Nat.mod_lt _ hp0
    have hjn : j % n < (fdS n a j).length := by omega
    have w3 : IntKind.i64.wrap ((j : Int) + 1) = ((j + 1 : Nat) : Int) := by rw [wrs (by omega) (by omega)]; omega
    have w6 : (j : Int).tmod (n : Int) = ((j % n : Nat) : Int) := by rw [Int.tmod_eq_emod_of_nonneg (by omega), Int.natCast_emod]
    have w7 : (n : Int) ≠ 0 := by omega
    simp -implicitDefEqProofs only [go_sem, wrs, wru, Int.toNat_natCast, Nat.zero_add, Bool.not_false, Bool.not_true, Bool.or_true, Bool.false_or, List.contains_nil, Bool.or_false, Nat.reduceAdd, Nat.reduceMul, Nat.reduceSub, Nat.reduceBEq, Nat.reduceEqDiff, Nat.reduceLT, Nat.reduceLeDiff, Int.reduceToNat, Int.reduceLT, Int.reduceLE, Int.reduceAdd, Int.reduceSub, Int.reduceMul, Int.reduceNeg, Int.reduceEq, Int.reduceBEq, Int.reduceMod, Int.reduceGT, Int.reduceGE, Int.reduceBNe, Nat.reduceBNe, Int.natCast_nonneg, h, w6, getD_ffs hja, getD_ffs hjn]
    repeat (with_reducible refine And.intro (by first | omega | decide) ?_)
    refine k_fr_Add ?_
    simp -implicitDefEqProofs only [go_sem, wrs, wru, Int.toNat_natCast, Nat.zero_add, Bool.not_false, Bool.not_true, Bool.or_true, Bool.false_or, List.contains_nil, Bool.or_false, Nat.reduceAdd, Nat.reduceMul, Nat.reduceSub, Nat.reduceBEq, Nat.reduceEqDiff, Nat.reduceLT, Nat.reduceLeDiff, Int.reduceToNat, Int.reduceLT, Int.reduceLE, Int.reduceAdd, Int.reduceSub, Int.reduceMul, Int.reduceNeg, Int.reduceEq, Int.reduceBEq, Int.reduceMod, Int.reduceGT, Int.reduceGE, Int.reduceBNe, Nat.reduceBNe, Int.natCast_nonneg, h, w6, w3, set_ffs]
    repeat (with_reducible refine And.intro (by first | omega | decide) ?_)
    refine hG _ ⟨j + 1, by omega⟩ (by simp only; omega) ?_
    rw [famS_eq]
    refine weak_plain [(1, 1)] rfl rfl rfl ?_ ?_
    · simp -implicitDefEqProofs only [go_sem, wrs, wru, Int.toNat_natCast, Nat.zero_add, Bool.not_false, Bool.not_true, Bool.or_true, Bool.false_or, List.contains_nil, Bool.or_false, Nat.reduceAdd, Nat.reduceMul, Nat.reduceSub, Nat.reduceBEq, Nat.reduceEqDiff, Nat.reduceLT, Nat.reduceLeDiff, Int.reduceToNat, Int.reduceLT, Int.reduceLE, Int.reduceAdd, Int.reduceSub, Int.reduceMul, Int.reduceNeg, Int.reduceEq, Int.reduceBEq, Int.reduceMod, Int.reduceGT, Int.reduceGE, Int.reduceBNe, Nat.reduceBNe, Int.natCast_nonneg, Option.some.injEq, PV.val.injEq, Value.int.injEq, PV.agg.injEq, List.cons.injEq, ob_eq, Ob.var.injEq, Ob.row.injEq, not_true_eq_false, not_false_eq_true, hS]
    · simp -implicitDefEqProofs only [go_sem, wrs, wru, Int.toNat_natCast, Nat.zero_add, Bool.not_false, Bool.not_true, Bool.or_true, Bool.false_or, List.contains_nil, Bool.or_false, Nat.reduceAdd, Nat.reduceMul, Nat.reduceSub, Nat.reduceBEq, Nat.reduceEqDiff, Nat.reduceLT, Nat.reduceLeDiff, Int.reduceToNat, Int.reduceLT, Int.reduceLE, Int.reduceAdd, Int.reduceSub, Int.reduceMul, Int.reduceNeg, Int.reduceEq, Int.reduceBEq, Int.reduceMod, Int.reduceGT, Int.reduceGE, Int.reduceBNe, Nat.reduceBNe, Int.natCast_nonneg, Option.some.injEq, PV.val.injEq, Value.int.injEq, PV.agg.injEq, List.cons.injEq, ob_eq, Ob.var.injEq, Ob.row.injEq, not_true_eq_false, not_false_eq_true]
  simp only [decide_eq_false_iff_not] at h
  obtain rfl : j = a.length := by omega
  clear hG
  have tk : (fdS n a a.length).take n = fdS n a a.length := List.take_of_length_le (by omega)
  simp -implicitDefEqProofs only [go_sem, wrs, wru, Int.toNat_natCast, Nat.zero_add, Bool.not_false, Bool.not_true, Bool.or_true, Bool.false_or, List.contains_nil, Bool.or_false, Nat.reduceAdd, Nat.reduceMul, Nat.reduceSub, Nat.reduceBEq, Nat.reduceEqDiff, Nat.reduceLT, Nat.reduceLeDiff, Int.reduceToNat, Int.reduceLT, Int.reduceLE, Int.reduceAdd, Int.reduceSub, Int.reduceMul, Int.reduceNeg, Int.reduceEq, Int.reduceBEq, Int.reduceMod, Int.reduceGT, Int.reduceGE, Int.reduceBNe, Nat.reduceBNe, Int.natCast_nonneg, tk]
  refine k_ntt_Go (by omega) ?_
  rw [hgo]
  simp -implicitDefEqProofs only [go_sem, wrs, wru, Int.toNat_natCast, Nat.zero_add, Bool.not_false, Bool.not_true, Bool.or_true, Bool.false_or, List.contains_nil, Bool.or_false, Nat.reduceAdd, Nat.reduceMul, Nat.reduceSub, Nat.reduceBEq, Nat.reduceEqDiff, Nat.reduceLT, Nat.reduceLeDiff, Int.reduceToNat, Int.reduceLT, Int.reduceLE, Int.reduceAdd, Int.reduceSub, Int.reduceMul, Int.reduceNeg, Int.reduceEq, Int.reduceBEq, Int.reduceMod, Int.reduceGT, Int.reduceGE, Int.reduceBNe, Nat.reduceBNe, Int.natCast_nonneg, vl]
  refine ret_obs [(2, 0)] [.row 33 (.arr 4 .one) (ffs V)] [.osl 0 [] 0 n, i64 0] rfl rfl ?_ ?_ hK
  · simp -implicitDefEqProofs only [go_sem, wrs, wru, Int.toNat_natCast, Nat.zero_add, Bool.not_false, Bool.not_true, Bool.or_true, Bool.false_or, List.contains_nil, Bool.or_false, Nat.reduceAdd, Nat.reduceMul, Nat.reduceSub, Nat.reduceBEq, Nat.reduceEqDiff, Nat.reduceLT, Nat.reduceLeDiff, Int.reduceToNat, Int.reduceLT, Int.reduceLE, Int.reduceAdd, Int.reduceSub, Int.reduceMul, Int.reduceNeg, Int.reduceEq, Int.reduceBEq, Int.reduceMod, Int.reduceGT, Int.reduceGE, Int.reduceBNe, Nat.reduceBNe, Int.natCast_nonneg, Option.some.injEq, PV.val.injEq, Value.int.injEq, PV.agg.injEq, List.cons.injEq, ob_eq, Ob.var.injEq, Ob.row.injEq, not_true_eq_false, not_false_eq_true]
  · simp -implicitDefEqProofs only [go_sem, wrs, wru, Int.toNat_natCast, Nat.zero_add, Bool.not_false, Bool.not_true, Bool.or_true, Bool.false_or, List.contains_nil, Bool.or_false, Nat.reduceAdd, Nat.reduceMul, Nat.reduceSub, Nat.reduceBEq, Nat.reduceEqDiff, Nat.reduceLT, Nat.reduceLeDiff, Int.reduceToNat, Int.reduceLT, Int.reduceLE, Int.reduceAdd, Int.reduceSub, Int.reduceMul, Int.reduceNeg, Int.reduceEq, Int.reduceBEq, Int.reduceMod, Int.reduceGT, Int.reduceGE, Int.reduceBNe, Nat.reduceBNe, Int.natCast_nonneg]
theorem lbeg : bak (inv (rt 1)) [of 3, 1] = [of 2, 1] := by
  have h1 : rt 1 = 0 - 1 := by
    have := rt_half (L := 1) (by decide) (by decide)
    rwa [show 2 ^ (1 - 1) = 1 by decide, pw_one] at this
  have h2 : gol (rt 1) [of 2, 1] = [of 3, 1] := by
    rw [h1, gol, PL.tab]
    simp only [List.length_cons, List.length_nil, Nat.zero_add, Nat.reduceAdd, show List.range 2 = [0, 1] from rfl, List.map_cons, List.map_nil, pw_zero, pw_one]
    decide +kernel
  rw [← h2, bak_gol (by decide) rfl]
theorem k_law16_begun {K : PV → List Ob → Prop} (hK : K (bo true) []) : PSpec prog 29 [] [] K := by
  refine sp_intagliolaw16_begun ?_
  simp only [pc_intagliolaw16_begun]
  have hb : bkR [of 3, 1] = ([of 2, 1], 0) := by rw [bkR_some (l := [of 3, 1]) (L := 1) (show lg 2 = some 1 from lg_pow (L := 1) (by decide)), lbeg]
  have hc : cut [of 2, (1 : F)] = [of 2, 1] := cut_of_last (n := 1) rfl one_ne_zero
  have hL : lagL 1 0 1 = 1 := by rw [lagL, if_pos (pw_zero _).symm]
  simp -implicitDefEqProofs only [go_sem, wrs, wru, Int.toNat_natCast, Nat.zero_add, Bool.not_false, Bool.not_true, Bool.or_true, Bool.false_or, List.contains_nil, Bool.or_false, Nat.reduceAdd, Nat.reduceMul, Nat.reduceSub, Nat.reduceBEq, Nat.reduceEqDiff, Nat.reduceLT, Nat.reduceLeDiff, Int.reduceToNat, Int.reduceLT, Int.reduceLE, Int.reduceAdd, Int.reduceSub, Int.reduceMul, Int.reduceNeg, Int.reduceEq, Int.reduceBEq, Int.reduceMod, Int.reduceGT, Int.reduceGE, Int.reduceBNe, Nat.reduceBNe, Int.natCast_nonneg, one_ff, lit 3 (by omega), lit 2 (by omega)]
  repeat (with_reducible refine And.intro (by first | omega | decide) ?_)
  refine k_lag_Of (l := [of 3, 1]) (by simp) ?_
  rw [hb, hc]
  simp -implicitDefEqProofs only [go_sem, wrs, wru, Int.toNat_natCast, Nat.zero_add, Bool.not_false, Bool.not_true, Bool.or_true, Bool.false_or, List.contains_nil, Bool.or_false, Nat.reduceAdd, Nat.reduceMul, Nat.reduceSub, Nat.reduceBEq, Nat.reduceEqDiff, Nat.reduceLT, Nat.reduceLeDiff, Int.reduceToNat, Int.reduceLT, Int.reduceLE, Int.reduceAdd, Int.reduceSub, Int.reduceMul, Int.reduceNeg, Int.reduceEq, Int.reduceBEq, Int.reduceMod, Int.reduceGT, Int.reduceGE, Int.reduceBNe, Nat.reduceBNe, Int.natCast_nonneg, one_ff, lit 3 (by omega), lit 2 (by omega)]
  refine k_lag_L (L := 1) (i := 0) (by decide) (by decide) ?_
  rw [hL]
  simp -implicitDefEqProofs only [go_sem, wrs, wru, Int.toNat_natCast, Nat.zero_add, Bool.not_false, Bool.not_true, Bool.or_true, Bool.false_or, List.contains_nil, Bool.or_false, Nat.reduceAdd, Nat.reduceMul, Nat.reduceSub, Nat.reduceBEq, Nat.reduceEqDiff, Nat.reduceLT, Nat.reduceLeDiff, Int.reduceToNat, Int.reduceLT, Int.reduceLE, Int.reduceAdd, Int.reduceSub, Int.reduceMul, Int.reduceNeg, Int.reduceEq, Int.reduceBEq, Int.reduceMod, Int.reduceGT, Int.reduceGE, Int.reduceBNe, Nat.reduceBNe, Int.natCast_nonneg, one_ff, lit 3 (by omega), lit 2 (by omega), ffs_cons, ffs_nil, beqU rfl]
  exact ret_plain rfl hK
end Go.Proofs.Tryd.PMT
