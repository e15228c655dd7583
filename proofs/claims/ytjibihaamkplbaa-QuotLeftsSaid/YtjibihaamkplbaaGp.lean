/- A polynomial has no more roots than its degree. No conditions. -/
import Derived.Test.YtjibihaamkplbaaGm
import Derived.Test.YtjibihaamkplbaaGl
import Derived.Test.YtjibihaamkplbaaGf
import Derived.Test.YtjibihaamkplbaaGn
import Derived.Test.YtjibihaamkplbaaGj
set_option linter.all false
namespace Go.Proofs.PL

theorem hor_cut0 (z : F) (a : List F) : hor z (cut a) = hor z a := hor_ext z _ _ (cut_get a)
theorem hor_one (x c : F) : hor x [c] = c := by simp only [hor]; grind
end Go.Proofs.PL

namespace Go.Proofs.PL

theorem hor_append (z : F) (l m : List F) : hor z (l ++ m) = hor z l + hor z m * z ^ l.length := by
  induction l with
  | nil => simp only [List.nil_append, hor, List.length_nil]; rw [pw_zero, f_0add]; grind
  | cons a l ih =>
    rw [List.cons_append, hor, hor, ih, List.length_cons, pw_succ]
    generalize z ^ l.length = p
    generalize hor z l = x
    generalize hor z m = y
    grind
theorem getD_app_l {l m : List F} {i : Nat} (h : i < l.length) : (l ++ m).getD i 0 = l.getD i 0 := by simp only [List.getD_eq_getElem?_getD, List.getElem?_append_left h]
theorem getD_app_r {l m : List F} {i : Nat} (h : l.length ≤ i) : (l ++ m).getD i 0 = m.getD (i - l.length) 0 := by simp only [List.getD_eq_getElem?_getD, List.getElem?_append_right h]
theorem gol_get (w : F) (a : List F) (k : Nat) : (gol w a).getD k 0 = if k < a.length then hor (w ^ k) a else 0 := tab_get ..
/-- Moved round by one. -/
def rot (x : List F) : List F := [x.getD (x.length - 1) 0] ++ x.take (x.length - 1)
theorem rot_len {x : List F} (h : 0 < x.length) : (rot x).length = x.length := by
  rw [rot, List.length_append, List.length_take, List.length_singleton]; omega
theorem rot_hor {x : List F} {z : F} (h : 0 < x.length) (hz : z ^ x.length = 1) : hor z (rot x) = hor z x * z := by
  have e : x = x.take (x.length - 1) ++ [x.getD (x.length - 1) 0] := by
    refine list_ext (by rw [List.length_append, List.length_take, List.length_singleton]; omega) fun i => ?_
    by_cases hi : i < x.length - 1
    · rw [getD_app_l (by rw [List.length_take]; omega), getD_take hi]
    · rw [getD_app_r (by rw [List.length_take]; omega), List.length_take, Nat.min_eq_left (by omega)]
      by_cases hi2 : i = x.length - 1
      · subst hi2; rw [Nat.sub_self]; rfl
      · rw [getD_ge (by omega), getD_ge (by rw [List.length_singleton]; omega)]
  have h2 : hor z x = hor z (x.take (x.length - 1)) + x.getD (x.length - 1) 0 * z ^ (x.length - 1) := by
    conv => lhs; rw [e]
    rw [hor_append, hor_one, List.length_take, Nat.min_eq_left (by omega)]
  have h3 : z ^ (x.length - 1) * z = 1 := by rw [← pw_succ, Nat.sub_add_cancel h]; exact hz
  rw [h2, rot, List.singleton_append, hor]
  generalize z ^ (x.length - 1) = p at *
  generalize x.getD (x.length - 1) 0 = c at *
  generalize hor z (x.take (x.length - 1)) = y at *
  rw [show (y + c * p) * z = y * z + c * (p * z) by grind, h3]; grind
theorem rt_pw_n {L : Nat} (h : L ≤ 32) (i : Nat) : (rt L ^ i) ^ 2 ^ L = 1 := by rw [← pw_mul, Nat.mul_comm, pw_mul, rt_full h, one_pow]
theorem moves {L : Nat} {x : List F} (h : L ≤ 32) (hx : x.length = 2 ^ L) {i : Nat} (hi : i < x.length) : (gol (rt L) (rot x)).getD i 0 = (gol (rt L) x).getD i 0 * rt L ^ i := by
  rw [gol, gol, tab_get, tab_get, rot_len (by omega), if_pos hi, if_pos hi, rot_hor (by omega) (by rw [hx]; exact rt_pw_n h i)]

theorem hor_set (z v : F) : ∀ (l : List F) (p : Nat), p < l.length → hor z (l.set p (l.getD p 0 + v)) = hor z l + v * z ^ p
  | [], p, h => by simp at h
  | a :: l, 0, _ => by simp only [List.set_cons_zero, List.getD_cons_zero, hor]; rw [pw_zero]; grind
  | a :: l, p + 1, h => by
    simp only [List.set_cons_succ, List.getD_cons_succ, hor]
    rw [hor_set z v l p (by simpa using h), pw_succ]
    generalize z ^ p = q
    generalize hor z l = x
    grind
theorem hor_zero (z : F) (n : Nat) : hor z (List.replicate n 0) = 0 := by
  induction n with
  | zero => rfl
  | succ n ih => rw [List.replicate_succ, hor, ih, f_0mul]; exact zz
theorem sums {L : Nat} {x y : List F} (h : L ≤ 32) (hx : x.length = 2 ^ L) (hy : y.length = 2 ^ L) :
    bak (inv (rt L)) (tab (2 ^ L) fun i => (gol (rt L) x).getD i 0 + (gol (rt L) y).getD i 0) = bth (fun a b => a + b) x y := by
  rw [← bak_gol h (a := bth (fun a b => a + b) x y) (by rw [bth_len, hx, hy]; exact Nat.max_self _)]
  congr 1
  refine list_ext (by rw [tab_len, gol_len, bth_len, hx, hy, Nat.max_self]) fun i => ?_
  rw [tab_get, gol_get (rt L) (bth _ _ _), bth_len, gol_get, gol_get, hx, hy, Nat.max_self]
  by_cases hi : i < 2 ^ L
  · rw [if_pos hi, if_pos hi, if_pos hi, if_pos hi, ← add_hor, hor_cut0]
  · rw [if_neg hi, if_neg hi]
theorem cosets {L : Nat} {a : List F} {z : F} (h : L ≤ 32) (ha : a.length = 2 ^ L) (hz : z ≠ 0) : gol (rt L) (scl z (scl (inv z) (bak (inv (rt L)) a))) = a := by
  rw [scl_scl (show inv z * z = 1 by rw [← inv_top hz]; grind), gol_bak h ha]
end Go.Proofs.PL

namespace Go.Proofs.PL

def uv (n i : Nat) : List F := (List.replicate n (0 : F)).set i 1
theorem uv_len (n i : Nat) : (uv n i).length = n := by rw [uv, List.length_set, List.length_replicate]
theorem uv_hor (z : F) {n i : Nat} (h : i < n) : hor z (uv n i) = z ^ i := by
  have h1 := hor_set z 1 (List.replicate n 0) i (by rw [List.length_replicate]; exact h)
  rw [rep_get, f_0add, hor_zero, f_0add] at h1
  rw [uv, h1]; grind
/-- A basis' value. -/
def lagL (L i : Nat) (x : F) : F := if x = rt L ^ i then 1 else rt L ^ i * (x ^ 2 ^ L - 1) * inv (of ((2 ^ L : Nat) : Int) * (x - rt L ^ i))
def lgs (L i : Nat) (x : F) : F := hor x (bak (inv (rt L)) (uv (2 ^ L) i))
theorem p2_nz {L : Nat} (h : L ≤ 32) : of ((2 ^ L : Nat) : Int) ≠ 0 := len_nz (Nat.two_pow_pos L) (p2_le h)
theorem bak_hor (v x : F) (u : List F) : hor x (bak v u) = sm u.length (fun k => hor (v ^ k) u * x ^ k) * inv (of (u.length : Int)) := by
  rw [bak, hor_tab_mul, hor_sm, tab_len]
  congr 1
  refine sm_congr _ fun k hk => ?_
  rw [tab_get, if_pos hk]
theorem lag_alg {S IN N x W ID y X : F} (hn : N * IN = 1) (hD : N * (x - W) * ID = 1) (hxW : x - W = W * (y - 1)) (hS : S * (y - 1) = X - 1) : S * IN = W * (X - 1) * ID := by
  have e1 : S * IN = S * IN * (N * (x - W) * ID) := by rw [hD]; grind
  have e2 : S * IN * (N * (x - W) * ID) = S * (N * IN) * (x - W) * ID := by
    generalize x - W = d
    grind
  have e3 : S * (N * IN) * (x - W) * ID = S * (x - W) * ID := by
    rw [hn]
    generalize x - W = d
    grind
  rw [e1, e2, e3, hxW, ← hS]
  generalize y - 1 = d
  grind
theorem lgs_eq {L i : Nat} (h : L ≤ 32) (hi : i < 2 ^ L) (x : F) : lgs L i x = lagL L i x := by
  have hwv : rt L ^ i * inv (rt L) ^ i = 1 := by rw [← mul_pw, inv_top (rt_nz h), one_pow]
  have hvn : (inv (rt L) ^ i) ^ 2 ^ L = 1 := by rw [← pw_mul, Nat.mul_comm, pw_mul, ri_full h, one_pow]
  have hn := inv_top (p2_nz h)
  rw [lgs, bak_hor, uv_len]
  rw [show sm (2 ^ L) (fun k => hor (inv (rt L) ^ k) (uv (2 ^ L) i) * x ^ k) = sm (2 ^ L) (fun k => (inv (rt L) ^ i * x) ^ k) from sm_congr _ fun k _ => by
    rw [uv_hor _ hi, mul_pw, ← pw_mul, ← pw_mul, Nat.mul_comm]]
  rw [lagL]
  by_cases e : x = rt L ^ i
  · rw [if_pos e, e, show inv (rt L) ^ i * rt L ^ i = 1 by rw [← hwv]; grind]
    simp only [one_pow]
    rw [sm_ones, hn]
  · rw [if_neg e]
    have hS := gsum (inv (rt L) ^ i * x) (2 ^ L)
    rw [mul_pw, hvn] at hS
    obtain ⟨W, hW⟩ : ∃ W, rt L ^ i = W := ⟨_, rfl⟩
    obtain ⟨V, hV⟩ : ∃ V, inv (rt L) ^ i = V := ⟨_, rfl⟩
    rw [hW] at hwv e
    rw [hV] at hwv hS
    rw [hW, hV]
    clear hW hV hvn
    have hxW : x - W = W * (V * x - 1) := by
      have : W * (V * x - 1) = W * V * x - W := by grind
      rw [this, hwv]; grind
    have hd : of ((2 ^ L : Nat) : Int) * (x - W) ≠ 0 := fun h0 => by
      rcases no_zero h0 with h1 | h1
      · exact p2_nz h h1
      · exact e (by grind)
    have hD := inv_top hd
    generalize sm (2 ^ L) (fun k => (V * x) ^ k) = S at *
    generalize of ((2 ^ L : Nat) : Int) = N at *
    generalize inv N = IN at *
    generalize inv (N * (x - W)) = ID at *
    generalize x ^ 2 ^ L = X at *
    exact lag_alg hn hD hxW (by rw [hS]; grind)
end Go.Proofs.PL

namespace Go.Proofs.Try.PMT
open Go Go.Proofs.PM Go.Proofs.Try
def pc_intaglioref12_Of : Pc := (.seq (.rgn [⟨(some 2), none, .nil 28 (.arr 4 .one)⟩, ⟨(some 3), none, .mv (.cst (.val (.int .i64 0)))⟩]) (.seq (.rgn [⟨(some 7), none, .mv (.tmp 0)⟩, ⟨(some 8), none, .call 105 false [((.tmp 7), (some (.arr 4 .one)))]⟩, ⟨(some 6), none, .mv (.tmp 8)⟩, ⟨(some 9), none, .ext (.tmp 6) 0⟩, ⟨(some 10), none, .ext (.tmp 6) 1⟩, ⟨(some 4), none, .mv (.tmp 9)⟩, ⟨(some 5), none, .mv (.tmp 10)⟩]) (.seq (.rgn [⟨(some 11), none, .mv (.tmp 4)⟩, ⟨(some 12), none, .call 75 false [((.tmp 11), (some (.arr 4 .one)))]⟩, ⟨(some 13), none, .mv (.tmp 5)⟩, ⟨(some 2), none, .mv (.tmp 12)⟩, ⟨(some 3), none, .mv (.tmp 13)⟩]) .ret)))
theorem pc_intaglioref12_Of_ok : f67.body.bind (compile TT 90) = some pc_intaglioref12_Of := by kernel_rfl
theorem sp_intaglioref12_Of {args : List PV} {own : List Ob} {K : PV → List Ob → Prop} (h : pwp prog pc_intaglioref12_Of (retQ [.tmp 2, .tmp 3] own K) (stIn 14 args own)) : PSpec prog 67 args own K := spec func67 pc_intaglioref12_Of_ok (by kernel_rfl) (by kernel_rfl) h
def pc_intaglioref12_Z : Pc := (.seq (.rgn [⟨(some 3), none, .box (.arr 4 .one) (.tmp 1)⟩, ⟨(some 4), none, .alloc (.arr 4 .one) (.agg [(.val (.int .u64 0)), (.val (.int .u64 0)), (.val (.int .u64 0)), (.val (.int .u64 0))])⟩]) (.seq (.seq (.rgn [⟨(some 5), none, .mv (.cst (.val (.int .i64 0)))⟩]) (.block 0 (.loop (.seq (.seq (.rgn [⟨(some 6), none, .mv (.tmp 5)⟩, ⟨(some 7), none, .mv (.tmp 0)⟩, ⟨(some 8), none, .bin .lss (.tmp 6) (.tmp 7)⟩]) (.cond (.tmp 8) .skip (.exit 0))) (.seq (.block 1 (.rgn [⟨(some 11), none, .load (.arr 4 .one) (.tmp 3)⟩, ⟨(some 12), none, .load (.arr 4 .one) (.tmp 3)⟩, ⟨(some 13), none, .call 11 false [((.tmp 11), none), ((.tmp 12), none)]⟩, ⟨none, none, .store (.arr 4 .one) (.tmp 3) (.tmp 13)⟩])) (.rgn [⟨(some 9), none, .mv (.tmp 5)⟩, ⟨(some 10), none, .bin .add (.tmp 9) (.cst (.val (.int .i64 1)))⟩, ⟨(some 5), none, .mv (.tmp 10)⟩])))))) (.seq (.drgn 4 [⟨0, .no, ⟨(some 14), none, .load (.arr 4 .one) (.tmp 3)⟩⟩, ⟨1, (.av false [3]), ⟨(some 15), none, .call 35 false [((.cst (.val (.int .u64 1))), none)]⟩⟩, ⟨2, .no, ⟨(some 16), none, .call 34 false [((.tmp 14), none), ((.tmp 15), none)]⟩⟩, ⟨3, .no, ⟨none, none, .store (.arr 4 .one) (.tmp 4) (.tmp 16)⟩⟩]) .ret)))
theorem pc_intaglioref12_Z_ok : f10.body.bind (compile TT 90) = some pc_intaglioref12_Z := by kernel_rfl
theorem sp_intaglioref12_Z {args : List PV} {own : List Ob} {K : PV → List Ob → Prop} (h : pwp prog pc_intaglioref12_Z (retQ [.cell 4 (.arr 4 .one)] own K) (stIn 17 args own)) : PSpec prog 10 args own K := spec func10 pc_intaglioref12_Z_ok (by kernel_rfl) (by kernel_rfl) h
def pc_intaglioref12_L : Pc := (.seq (.rgn [⟨(some 5), none, .box (.arr 4 .one) (.tmp 2)⟩, ⟨(some 6), none, .alloc (.arr 4 .one) (.agg [(.val (.int .u64 0)), (.val (.int .u64 0)), (.val (.int .u64 0)), (.val (.int .u64 0))])⟩]) (.seq (.rgn [⟨(some 10), none, .mv (.tmp 0)⟩, ⟨(some 11), none, .bin .shl (.cst (.val (.int .i64 1))) (.tmp 10)⟩, ⟨(some 12), none, .mksl 28 (.arr 4 .one) 32 (.agg [(.val (.int .u64 0)), (.val (.int .u64 0)), (.val (.int .u64 0)), (.val (.int .u64 0))]) (.tmp 11) (.tmp 11)⟩, ⟨(some 7), none, .mv (.tmp 12)⟩]) (.seq (.rgn [⟨(some 13), none, .mv (.tmp 7)⟩, ⟨(some 14), none, .mv (.tmp 1)⟩, ⟨(some 15), none, .call 35 false [((.cst (.val (.int .u64 1))), none)]⟩, ⟨(some 16), none, .iaddrs (.arr 4 .one) (.tmp 13) (.tmp 14)⟩, ⟨none, none, .store (.arr 4 .one) (.tmp 16) (.tmp 15)⟩]) (.seq (.rgn [⟨(some 18), none, .mv (.tmp 7)⟩, ⟨(some 19), none, .call 67 false [((.tmp 18), (some (.arr 4 .one)))]⟩, ⟨(some 17), none, .mv (.tmp 19)⟩, ⟨(some 20), none, .ext (.tmp 17) 0⟩, ⟨(some 21), none, .ext (.tmp 17) 1⟩, ⟨(some 8), none, .mv (.tmp 20)⟩, ⟨(some 9), none, .mv (.tmp 21)⟩]) (.seq (.rgn [⟨(some 22), none, .mv (.tmp 8)⟩, ⟨(some 23), none, .load (.arr 4 .one) (.tmp 5)⟩, ⟨(some 24), none, .call 12 false [((.tmp 22), (some (.arr 4 .one))), ((.tmp 23), none)]⟩, ⟨none, none, .store (.arr 4 .one) (.tmp 6) (.tmp 24)⟩]) .ret)))))
theorem pc_intaglioref12_L_ok : f62.body.bind (compile TT 90) = some pc_intaglioref12_L := by kernel_rfl
theorem sp_intaglioref12_L {args : List PV} {own : List Ob} {K : PV → List Ob → Prop} (h : pwp prog pc_intaglioref12_L (retQ [.cell 6 (.arr 4 .one)] own K) (stIn 25 args own)) : PSpec prog 62 args own K := spec func62 pc_intaglioref12_L_ok (by kernel_rfl) (by kernel_rfl) h
def pc_lagrange_L : Pc := (.seq (.rgn [⟨(some 5), none, .box (.arr 4 .one) (.tmp 2)⟩, ⟨(some 6), none, .alloc (.arr 4 .one) (.agg [(.val (.int .u64 0)), (.val (.int .u64 0)), (.val (.int .u64 0)), (.val (.int .u64 0))])⟩, ⟨(some 7), none, .mv (.cst (.val (.int .i64 0)))⟩]) (.seq (.rgn [⟨(some 15), none, .mv (.tmp 0)⟩, ⟨(some 16), none, .load (.arr 4 .one) (.tmp 5)⟩, ⟨(some 17), none, .call 46 false [((.tmp 15), none), ((.tmp 16), none)]⟩, ⟨(some 14), none, .mv (.tmp 17)⟩, ⟨(some 18), none, .ext (.tmp 14) 0⟩, ⟨(some 19), none, .ext (.tmp 14) 1⟩, ⟨(some 8), none, .alloc (.arr 4 .one) (.agg [(.val (.int .u64 0)), (.val (.int .u64 0)), (.val (.int .u64 0)), (.val (.int .u64 0))])⟩, ⟨none, none, .store (.arr 4 .one) (.tmp 8) (.tmp 18)⟩, ⟨(some 9), none, .mv (.tmp 19)⟩]) (.seq (.seq (.rgn [⟨(some 20), none, .mv (.tmp 9)⟩, ⟨(some 21), none, .bin .neq (.tmp 20) (.cst (.val (.int .i64 0)))⟩, ⟨(some 22), none, .mv (.tmp 21)⟩, ⟨(some 23), (some (22, false)), .mv (.tmp 1)⟩, ⟨(some 24), (some (22, false)), .bin .lss (.tmp 23) (.cst (.val (.int .i64 0)))⟩, ⟨(some 25), none, .pick (.tmp 22) (.cst (.val (.bool true))) (.tmp 24)⟩, ⟨(some 26), none, .mv (.tmp 25)⟩, ⟨(some 27), (some (26, false)), .mv (.tmp 1)⟩, ⟨(some 28), (some (26, false)), .mv (.tmp 0)⟩, ⟨(some 29), (some (26, false)), .cvi .u64 (.tmp 28)⟩, ⟨(some 30), (some (26, false)), .bin .shl (.cst (.val (.int .i64 1))) (.tmp 29)⟩, ⟨(some 31), (some (26, false)), .bin .geq (.tmp 27) (.tmp 30)⟩, ⟨(some 32), none, .pick (.tmp 26) (.cst (.val (.bool true))) (.tmp 31)⟩]) (.cond (.tmp 32) (.seq (.rgn [⟨(some 33), none, .build (.arr 4 .one) (.agg [(.val (.int .u64 0)), (.val (.int .u64 0)), (.val (.int .u64 0)), (.val (.int .u64 0))]) []⟩, ⟨none, none, .store (.arr 4 .one) (.tmp 6) (.tmp 33)⟩, ⟨(some 7), none, .mv (.cst (.val (.int .i64 1)))⟩]) .ret) .skip)) (.seq (.rgn [⟨(some 34), none, .mv (.tmp 0)⟩, ⟨(some 35), none, .cvi .u64 (.tmp 34)⟩, ⟨(some 36), none, .bin .shl (.cst (.val (.int .u64 1))) (.tmp 35)⟩, ⟨(some 10), none, .mv (.tmp 36)⟩]) (.seq (.rgn [⟨(some 38), none, .mv (.tmp 0)⟩, ⟨(some 39), none, .call 98 false [((.tmp 38), none)]⟩, ⟨(some 37), none, .mv (.tmp 39)⟩, ⟨(some 40), none, .ext (.tmp 37) 0⟩, ⟨(some 41), none, .ext (.tmp 37) 1⟩, ⟨(some 11), none, .alloc (.arr 4 .one) (.agg [(.val (.int .u64 0)), (.val (.int .u64 0)), (.val (.int .u64 0)), (.val (.int .u64 0))])⟩, ⟨none, none, .store (.arr 4 .one) (.tmp 11) (.tmp 40)⟩, ⟨(some 12), none, .mv (.tmp 41)⟩]) (.seq (.rgn [⟨(some 42), none, .load (.arr 4 .one) (.tmp 11)⟩, ⟨(some 43), none, .mv (.tmp 1)⟩, ⟨(some 44), none, .cvi .u64 (.tmp 43)⟩, ⟨(some 45), none, .bsl 26 .one (.val (.int .u64 0)) 1 [(0, (.tmp 44))]⟩, ⟨(some 46), none, .call 99 false [((.tmp 42), none), ((.tmp 45), (some .one))]⟩, ⟨none, none, .store (.arr 4 .one) (.tmp 11) (.tmp 46)⟩]) (.seq (.drgn 13 [⟨0, .no, ⟨(some 48), none, .mv (.tmp 10)⟩⟩, ⟨2, .no, ⟨(some 50), none, .load (.arr 4 .one) (.tmp 5)⟩⟩, ⟨3, .no, ⟨(some 51), none, .load (.arr 4 .one) (.tmp 11)⟩⟩, ⟨10, .no, ⟨(some 13), none, .alloc (.arr 4 .one) (.agg [(.val (.int .u64 0)), (.val (.int .u64 0)), (.val (.int .u64 0)), (.val (.int .u64 0))])⟩⟩, ⟨1, (.av false [11, 5]), ⟨(some 49), none, .call 54 false [((.tmp 48), none)]⟩⟩, ⟨4, (.av false []), ⟨(some 52), none, .call 56 false [((.tmp 50), none), ((.tmp 51), none)]⟩⟩, ⟨5, (.av false []), ⟨(some 53), none, .call 48 false [((.tmp 49), none), ((.tmp 52), none)]⟩⟩, ⟨6, (.av false []), ⟨(some 54), none, .call 100 false [((.tmp 53), none)]⟩⟩, ⟨7, .no, ⟨(some 47), none, .mv (.tmp 54)⟩⟩, ⟨8, .no, ⟨(some 55), none, .ext (.tmp 47) 0⟩⟩, ⟨9, .no, ⟨(some 56), none, .ext (.tmp 47) 1⟩⟩, ⟨11, .no, ⟨none, none, .store (.arr 4 .one) (.tmp 13) (.tmp 55)⟩⟩, ⟨12, .no, ⟨(some 9), none, .mv (.tmp 56)⟩⟩]) (.seq (.seq (.rgn [⟨(some 57), none, .mv (.tmp 9)⟩, ⟨(some 58), none, .bin .neq (.tmp 57) (.cst (.val (.int .i64 0)))⟩]) (.cond (.tmp 58) (.seq (.rgn [⟨(some 59), none, .call 54 false [((.cst (.val (.int .u64 1))), none)]⟩, ⟨none, none, .store (.arr 4 .one) (.tmp 6) (.tmp 59)⟩, ⟨(some 7), none, .mv (.cst (.val (.int .i64 0)))⟩]) .ret) .skip)) (.seq (.drgn 7 [⟨0, .no, ⟨(some 60), none, .load (.arr 4 .one) (.tmp 11)⟩⟩, ⟨1, .no, ⟨(some 61), none, .load (.arr 4 .one) (.tmp 8)⟩⟩, ⟨3, .no, ⟨(some 63), none, .load (.arr 4 .one) (.tmp 13)⟩⟩, ⟨2, (.av false [13]), ⟨(some 62), none, .call 48 false [((.tmp 60), none), ((.tmp 61), none)]⟩⟩, ⟨4, .no, ⟨(some 64), none, .call 48 false [((.tmp 62), none), ((.tmp 63), none)]⟩⟩, ⟨5, .no, ⟨none, none, .store (.arr 4 .one) (.tmp 6) (.tmp 64)⟩⟩, ⟨6, .no, ⟨(some 7), none, .mv (.cst (.val (.int .i64 0)))⟩⟩]) .ret)))))))))
theorem pc_lagrange_L_ok : f55.body.bind (compile TT 90) = some pc_lagrange_L := by kernel_rfl
theorem sp_lagrange_L {args : List PV} {own : List Ob} {K : PV → List Ob → Prop} (h : pwp prog pc_lagrange_L (retQ [.cell 6 (.arr 4 .one), .tmp 7] own K) (stIn 65 args own)) : PSpec prog 55 args own K := spec func55 pc_lagrange_L_ok (by kernel_rfl) (by kernel_rfl) h
def pc_lagrange_Z : Pc := (.seq (.rgn [⟨(some 3), none, .box (.arr 4 .one) (.tmp 1)⟩, ⟨(some 4), none, .alloc (.arr 4 .one) (.agg [(.val (.int .u64 0)), (.val (.int .u64 0)), (.val (.int .u64 0)), (.val (.int .u64 0))])⟩, ⟨(some 5), none, .mv (.cst (.val (.int .i64 0)))⟩]) (.seq (.seq (.rgn [⟨(some 6), none, .mv (.tmp 0)⟩, ⟨(some 7), none, .bin .lss (.tmp 6) (.cst (.val (.int .i64 0)))⟩, ⟨(some 8), none, .mv (.tmp 7)⟩, ⟨(some 9), (some (8, false)), .mv (.tmp 0)⟩, ⟨(some 10), (some (8, false)), .bin .gtr (.tmp 9) (.cst (.val (.int .i64 9)))⟩, ⟨(some 11), none, .pick (.tmp 8) (.cst (.val (.bool true))) (.tmp 10)⟩]) (.cond (.tmp 11) (.seq (.rgn [⟨(some 12), none, .build (.arr 4 .one) (.agg [(.val (.int .u64 0)), (.val (.int .u64 0)), (.val (.int .u64 0)), (.val (.int .u64 0))]) []⟩, ⟨none, none, .store (.arr 4 .one) (.tmp 4) (.tmp 12)⟩, ⟨(some 5), none, .mv (.cst (.val (.int .i64 1)))⟩]) .ret) .skip)) (.seq (.seq (.rgn [⟨(some 13), none, .mv (.tmp 0)⟩, ⟨(some 14), none, .mv (.cst (.val (.int .i64 0)))⟩]) (.block 0 (.loop (.seq (.rgn [⟨(some 15), none, .bin .lss (.tmp 14) (.tmp 13)⟩]) (.seq (.cond (.tmp 15) .skip (.exit 0)) (.seq (.block 1 (.rgn [⟨(some 16), none, .load (.arr 4 .one) (.tmp 3)⟩, ⟨(some 17), none, .load (.arr 4 .one) (.tmp 3)⟩, ⟨(some 18), none, .call 48 false [((.tmp 16), none), ((.tmp 17), none)]⟩, ⟨none, none, .store (.arr 4 .one) (.tmp 3) (.tmp 18)⟩])) (.rgn [⟨(some 19), none, .bin .add (.tmp 14) (.cst (.val (.int .i64 1)))⟩, ⟨(some 14), none, .mv (.tmp 19)⟩]))))))) (.seq (.drgn 5 [⟨0, .no, ⟨(some 20), none, .load (.arr 4 .one) (.tmp 3)⟩⟩, ⟨1, (.av false [3]), ⟨(some 21), none, .call 54 false [((.cst (.val (.int .u64 1))), none)]⟩⟩, ⟨2, .no, ⟨(some 22), none, .call 56 false [((.tmp 20), none), ((.tmp 21), none)]⟩⟩, ⟨3, .no, ⟨none, none, .store (.arr 4 .one) (.tmp 4) (.tmp 22)⟩⟩, ⟨4, .no, ⟨(some 5), none, .mv (.cst (.val (.int .i64 0)))⟩⟩]) .ret))))
theorem pc_lagrange_Z_ok : f46.body.bind (compile TT 90) = some pc_lagrange_Z := by kernel_rfl
theorem sp_lagrange_Z {args : List PV} {own : List Ob} {K : PV → List Ob → Prop} (h : pwp prog pc_lagrange_Z (retQ [.cell 4 (.arr 4 .one), .tmp 5] own K) (stIn 23 args own)) : PSpec prog 46 args own K := spec func46 pc_lagrange_Z_ok (by kernel_rfl) (by kernel_rfl) h
end Go.Proofs.Try.PMT

namespace Go.Proofs.Try.PMT
open Go Go.Proofs.PM Go.Proofs.PL Go.Proofs.Try
set_option maxRecDepth 4000

theorem lb_len (l : List F) : (bkR l).1.length ≤ l.length := by
  cases h : lg l.length with
  | none => rw [bkR_none h]; exact Nat.zero_le _
  | some L => rw [bkR_some h, bak_len]; exact Nat.le_refl _
theorem k_r12_Of {l : List F} (hl : l.length ≤ 4398046511104) {K : PV → List Ob → Prop} (hK : K (.tup [.osl 0 [] 0 (cut (bkR l).1).length, i64 (bkR l).2]) [.row 28 (.arr 4 .one) (ffs (cut (bkR l).1))]) : PSpec prog 67 [.vsl false (.arr 4 .one) (ffs l)] [] K := by
  refine sp_intaglioref12_Of ?_
  simp only [pc_intaglioref12_Of]
  simp -implicitDefEqProofs only [go_sem, wrs, wru, Int.toNat_natCast, Nat.zero_add, Bool.not_false, Bool.not_true, Bool.or_true, Bool.false_or, List.contains_nil, Bool.or_false, Nat.reduceAdd, Nat.reduceMul, Nat.reduceSub, Nat.reduceBEq, Nat.reduceEqDiff, Nat.reduceLT, Nat.reduceLeDiff, Int.reduceToNat, Int.reduceLT, Int.reduceLE, Int.reduceAdd, Int.reduceSub, Int.reduceMul, Int.reduceNeg, Int.reduceEq, Int.reduceBEq, Int.reduceMod, Int.reduceGT, Int.reduceGE, Int.reduceBNe, Nat.reduceBNe, Int.natCast_nonneg]
  refine k_r12_Back hl ?_
  have hb := lb_len l
  generalize bkR l = o at *
  simp -implicitDefEqProofs only [go_sem, wrs, wru, Int.toNat_natCast, Nat.zero_add, Bool.not_false, Bool.not_true, Bool.or_true, Bool.false_or, List.contains_nil, Bool.or_false, Nat.reduceAdd, Nat.reduceMul, Nat.reduceSub, Nat.reduceBEq, Nat.reduceEqDiff, Nat.reduceLT, Nat.reduceLeDiff, Int.reduceToNat, Int.reduceLT, Int.reduceLE, Int.reduceAdd, Int.reduceSub, Int.reduceMul, Int.reduceNeg, Int.reduceEq, Int.reduceBEq, Int.reduceMod, Int.reduceGT, Int.reduceGE, Int.reduceBNe, Nat.reduceBNe, Int.natCast_nonneg, List.take_length]
  refine k_r12_Cut (by omega) ?_
  simp -implicitDefEqProofs only [go_sem, wrs, wru, Int.toNat_natCast, Nat.zero_add, Bool.not_false, Bool.not_true, Bool.or_true, Bool.false_or, List.contains_nil, Bool.or_false, Nat.reduceAdd, Nat.reduceMul, Nat.reduceSub, Nat.reduceBEq, Nat.reduceEqDiff, Nat.reduceLT, Nat.reduceLeDiff, Int.reduceToNat, Int.reduceLT, Int.reduceLE, Int.reduceAdd, Int.reduceSub, Int.reduceMul, Int.reduceNeg, Int.reduceEq, Int.reduceBEq, Int.reduceMod, Int.reduceGT, Int.reduceGE, Int.reduceBNe, Nat.reduceBNe, Int.natCast_nonneg]
  refine ret_obs [(2, 0)] [.row 28 (.arr 4 .one) (ffs (cut o.1))] [.osl 0 [] 0 (cut o.1).length, i64 o.2] rfl rfl ?_ ?_ hK
  · simp -implicitDefEqProofs only [go_sem, wrs, wru, Int.toNat_natCast, Nat.zero_add, Bool.not_false, Bool.not_true, Bool.or_true, Bool.false_or, List.contains_nil, Bool.or_false, Nat.reduceAdd, Nat.reduceMul, Nat.reduceSub, Nat.reduceBEq, Nat.reduceEqDiff, Nat.reduceLT, Nat.reduceLeDiff, Int.reduceToNat, Int.reduceLT, Int.reduceLE, Int.reduceAdd, Int.reduceSub, Int.reduceMul, Int.reduceNeg, Int.reduceEq, Int.reduceBEq, Int.reduceMod, Int.reduceGT, Int.reduceGE, Int.reduceBNe, Nat.reduceBNe, Int.natCast_nonneg, Option.some.injEq, PV.val.injEq, Value.int.injEq, PV.agg.injEq, List.cons.injEq, ob_eq, Ob.var.injEq, Ob.row.injEq, not_true_eq_false, not_false_eq_true]
  · simp -implicitDefEqProofs only [go_sem, wrs, wru, Int.toNat_natCast, Nat.zero_add, Bool.not_false, Bool.not_true, Bool.or_true, Bool.false_or, List.contains_nil, Bool.or_false, Nat.reduceAdd, Nat.reduceMul, Nat.reduceSub, Nat.reduceBEq, Nat.reduceEqDiff, Nat.reduceLT, Nat.reduceLeDiff, Int.reduceToNat, Int.reduceLT, Int.reduceLE, Int.reduceAdd, Int.reduceSub, Int.reduceMul, Int.reduceNeg, Int.reduceEq, Int.reduceBEq, Int.reduceMod, Int.reduceGT, Int.reduceGE, Int.reduceBNe, Nat.reduceBNe, Int.natCast_nonneg]
theorem k_lag_Z {L : Nat} {x : F} (hL : L ≤ 9) {K : PV → List Ob → Prop} (hK : K (.tup [ff (x ^ 2 ^ L - 1), i64 0]) []) : PSpec prog 46 [i64 L, ff x] [] K := by
  refine sp_lagrange_Z ?_
  simp only [pc_lagrange_Z]
  have h1 : ¬ ((L : Int) < 0) := by omega
  have h2 : ¬ ((L : Int) > 9) := by omega
  simp -implicitDefEqProofs only [go_sem, wrs, wru, Int.toNat_natCast, Nat.zero_add, Bool.not_false, Bool.not_true, Bool.or_true, Bool.false_or, List.contains_nil, Bool.or_false, Nat.reduceAdd, Nat.reduceMul, Nat.reduceSub, Nat.reduceBEq, Nat.reduceEqDiff, Nat.reduceLT, Nat.reduceLeDiff, Int.reduceToNat, Int.reduceLT, Int.reduceLE, Int.reduceAdd, Int.reduceSub, Int.reduceMul, Int.reduceNeg, Int.reduceEq, Int.reduceBEq, Int.reduceMod, Int.reduceGT, Int.reduceGE, Int.reduceBNe, Nat.reduceBNe, Int.natCast_nonneg, h1, h2, decide_false]
  refine loop_fam (ι := { j : Nat // j ≤ L }) [14, 15, 16, 17, 18, 19] (fun j => [(14, i64 j.1)])
    (fun j => [(0, .ob (.var (.arr 4 .one) (ff (x ^ 2 ^ j.1)))), (1, .ob (.var (.arr 4 .one) (ff 0)))]) 2 (fun j => L - j.1) ⟨0, Nat.zero_le _⟩ ?_ ?_
  · rw [famS_eq]
    refine weak_plain [(0, 0), (1, 1)] rfl rfl rfl ?_ ?_
    · simp -implicitDefEqProofs only [go_sem, wrs, wru, Int.toNat_natCast, Nat.zero_add, Bool.not_false, Bool.not_true, Bool.or_true, Bool.false_or, List.contains_nil, Bool.or_false, Nat.reduceAdd, Nat.reduceMul, Nat.reduceSub, Nat.reduceBEq, Nat.reduceEqDiff, Nat.reduceLT, Nat.reduceLeDiff, Int.reduceToNat, Int.reduceLT, Int.reduceLE, Int.reduceAdd, Int.reduceSub, Int.reduceMul, Int.reduceNeg, Int.reduceEq, Int.reduceBEq, Int.reduceMod, Int.reduceGT, Int.reduceGE, Int.reduceBNe, Nat.reduceBNe, Int.natCast_nonneg, Option.some.injEq, PV.val.injEq, Value.int.injEq, PV.agg.injEq, List.cons.injEq, ob_eq, Ob.var.injEq, Ob.row.injEq, not_true_eq_false, not_false_eq_true, zero_ff, Nat.pow_zero, pw_one]
    · simp -implicitDefEqProofs only [go_sem, wrs, wru, Int.toNat_natCast, Nat.zero_add, Bool.not_false, Bool.not_true, Bool.or_true, Bool.false_or, List.contains_nil, Bool.or_false, Nat.reduceAdd, Nat.reduceMul, Nat.reduceSub, Nat.reduceBEq, Nat.reduceEqDiff, Nat.reduceLT, Nat.reduceLeDiff, Int.reduceToNat, Int.reduceLT, Int.reduceLE, Int.reduceAdd, Int.reduceSub, Int.reduceMul, Int.reduceNeg, Int.reduceEq, Int.reduceBEq, Int.reduceMod, Int.reduceGT, Int.reduceGE, Int.reduceBNe, Nat.reduceBNe, Int.natCast_nonneg, Option.some.injEq, PV.val.injEq, Value.int.injEq, PV.agg.injEq, List.cons.injEq, ob_eq, Ob.var.injEq, Ob.row.injEq, not_true_eq_false, not_false_eq_true]
  intro ⟨j, hj⟩ G hG
  simp -implicitDefEqProofs only [go_sem, wrs, wru, Int.toNat_natCast, Nat.zero_add, Bool.not_false, Bool.not_true, Bool.or_true, Bool.false_or, List.contains_nil, Bool.or_false, Nat.reduceAdd, Nat.reduceMul, Nat.reduceSub, Nat.reduceBEq, Nat.reduceEqDiff, Nat.reduceLT, Nat.reduceLeDiff, Int.reduceToNat, Int.reduceLT, Int.reduceLE, Int.reduceAdd, Int.reduceSub, Int.reduceMul, Int.reduceNeg, Int.reduceEq, Int.reduceBEq, Int.reduceMod, Int.reduceGT, Int.reduceGE, Int.reduceBNe, Nat.reduceBNe, Int.natCast_nonneg]
  refine cnd_split (fun h => ?_) (fun h => ?_)
  · simp only [decide_eq_true_eq] at h
    have w3 : IntKind.i64.wrap ((j : Int) + 1) = ((j + 1 : Nat) : Int) := by rw [wrs (by omega) (by omega)]; omega
    simp -implicitDefEqProofs only [go_sem, wrs, wru, Int.toNat_natCast, Nat.zero_add, Bool.not_false, Bool.not_true, Bool.or_true, Bool.false_or, List.contains_nil, Bool.or_false, Nat.reduceAdd, Nat.reduceMul, Nat.reduceSub, Nat.reduceBEq, Nat.reduceEqDiff, Nat.reduceLT, Nat.reduceLeDiff, Int.reduceToNat, Int.reduceLT, Int.reduceLE, Int.reduceAdd, Int.reduceSub, Int.reduceMul, Int.reduceNeg, Int.reduceEq, Int.reduceBEq, Int.reduceMod, Int.reduceGT, Int.reduceGE, Int.reduceBNe, Nat.reduceBNe, Int.natCast_nonneg, h]
    refine k_fr_Mul ?_
    simp -implicitDefEqProofs only [go_sem, wrs, wru, Int.toNat_natCast, Nat.zero_add, Bool.not_false, Bool.not_true, Bool.or_true, Bool.false_or, List.contains_nil, Bool.or_false, Nat.reduceAdd, Nat.reduceMul, Nat.reduceSub, Nat.reduceBEq, Nat.reduceEqDiff, Nat.reduceLT, Nat.reduceLeDiff, Int.reduceToNat, Int.reduceLT, Int.reduceLE, Int.reduceAdd, Int.reduceSub, Int.reduceMul, Int.reduceNeg, Int.reduceEq, Int.reduceBEq, Int.reduceMod, Int.reduceGT, Int.reduceGE, Int.reduceBNe, Nat.reduceBNe, Int.natCast_nonneg, h, w3, sq_pow]
    refine hG _ ⟨j + 1, by omega⟩ (by simp only; omega) ?_
    rw [famS_eq]
    refine weak_plain [(0, 0), (1, 1)] rfl rfl rfl ?_ ?_
    · simp -implicitDefEqProofs only [go_sem, wrs, wru, Int.toNat_natCast, Nat.zero_add, Bool.not_false, Bool.not_true, Bool.or_true, Bool.false_or, List.contains_nil, Bool.or_false, Nat.reduceAdd, Nat.reduceMul, Nat.reduceSub, Nat.reduceBEq, Nat.reduceEqDiff, Nat.reduceLT, Nat.reduceLeDiff, Int.reduceToNat, Int.reduceLT, Int.reduceLE, Int.reduceAdd, Int.reduceSub, Int.reduceMul, Int.reduceNeg, Int.reduceEq, Int.reduceBEq, Int.reduceMod, Int.reduceGT, Int.reduceGE, Int.reduceBNe, Nat.reduceBNe, Int.natCast_nonneg, Option.some.injEq, PV.val.injEq, Value.int.injEq, PV.agg.injEq, List.cons.injEq, ob_eq, Ob.var.injEq, Ob.row.injEq, not_true_eq_false, not_false_eq_true]
    · simp -implicitDefEqProofs only [go_sem, wrs, wru, Int.toNat_natCast, Nat.zero_add, Bool.not_false, Bool.not_true, Bool.or_true, Bool.false_or, List.contains_nil, Bool.or_false, Nat.reduceAdd, Nat.reduceMul, Nat.reduceSub, Nat.reduceBEq, Nat.reduceEqDiff, Nat.reduceLT, Nat.reduceLeDiff, Int.reduceToNat, Int.reduceLT, Int.reduceLE, Int.reduceAdd, Int.reduceSub, Int.reduceMul, Int.reduceNeg, Int.reduceEq, Int.reduceBEq, Int.reduceMod, Int.reduceGT, Int.reduceGE, Int.reduceBNe, Nat.reduceBNe, Int.natCast_nonneg, Option.some.injEq, PV.val.injEq, Value.int.injEq, PV.agg.injEq, List.cons.injEq, ob_eq, Ob.var.injEq, Ob.row.injEq, not_true_eq_false, not_false_eq_true]
  simp only [decide_eq_false_iff_not] at h
  obtain rfl : j = L := by omega
  clear hG
  simp -implicitDefEqProofs only [go_sem, wrs, wru, Int.toNat_natCast, Nat.zero_add, Bool.not_false, Bool.not_true, Bool.or_true, Bool.false_or, List.contains_nil, Bool.or_false, Nat.reduceAdd, Nat.reduceMul, Nat.reduceSub, Nat.reduceBEq, Nat.reduceEqDiff, Nat.reduceLT, Nat.reduceLeDiff, Int.reduceToNat, Int.reduceLT, Int.reduceLE, Int.reduceAdd, Int.reduceSub, Int.reduceMul, Int.reduceNeg, Int.reduceEq, Int.reduceBEq, Int.reduceMod, Int.reduceGT, Int.reduceGE, Int.reduceBNe, Nat.reduceBNe, Int.natCast_nonneg]
  refine k_fr_Of (lit_rng rfl) ?_
  simp -implicitDefEqProofs only [go_sem, wrs, wru, Int.toNat_natCast, Nat.zero_add, Bool.not_false, Bool.not_true, Bool.or_true, Bool.false_or, List.contains_nil, Bool.or_false, Nat.reduceAdd, Nat.reduceMul, Nat.reduceSub, Nat.reduceBEq, Nat.reduceEqDiff, Nat.reduceLT, Nat.reduceLeDiff, Int.reduceToNat, Int.reduceLT, Int.reduceLE, Int.reduceAdd, Int.reduceSub, Int.reduceMul, Int.reduceNeg, Int.reduceEq, Int.reduceBEq, Int.reduceMod, Int.reduceGT, Int.reduceGE, Int.reduceBNe, Nat.reduceBNe, Int.natCast_nonneg, of_one]
  refine k_fr_Sub ?_
  simp -implicitDefEqProofs only [go_sem, wrs, wru, Int.toNat_natCast, Nat.zero_add, Bool.not_false, Bool.not_true, Bool.or_true, Bool.false_or, List.contains_nil, Bool.or_false, Nat.reduceAdd, Nat.reduceMul, Nat.reduceSub, Nat.reduceBEq, Nat.reduceEqDiff, Nat.reduceLT, Nat.reduceLeDiff, Int.reduceToNat, Int.reduceLT, Int.reduceLE, Int.reduceAdd, Int.reduceSub, Int.reduceMul, Int.reduceNeg, Int.reduceEq, Int.reduceBEq, Int.reduceMod, Int.reduceGT, Int.reduceGE, Int.reduceBNe, Nat.reduceBNe, Int.natCast_nonneg]
  exact ret_plain rfl hK
theorem k_r12_Z {L : Nat} {x : F} (hL : L ≤ 1000) {K : PV → List Ob → Prop} (hK : K (ff (x ^ 2 ^ L - 1)) []) : PSpec prog 10 [i64 L, ff x] [] K := by
  refine sp_intaglioref12_Z ?_
  simp only [pc_intaglioref12_Z]
  simp -implicitDefEqProofs only [go_sem, wrs, wru, Int.toNat_natCast, Nat.zero_add, Bool.not_false, Bool.not_true, Bool.or_true, Bool.false_or, List.contains_nil, Bool.or_false, Nat.reduceAdd, Nat.reduceMul, Nat.reduceSub, Nat.reduceBEq, Nat.reduceEqDiff, Nat.reduceLT, Nat.reduceLeDiff, Int.reduceToNat, Int.reduceLT, Int.reduceLE, Int.reduceAdd, Int.reduceSub, Int.reduceMul, Int.reduceNeg, Int.reduceEq, Int.reduceBEq, Int.reduceMod, Int.reduceGT, Int.reduceGE, Int.reduceBNe, Nat.reduceBNe, Int.natCast_nonneg]
  refine loop_fam (ι := { j : Nat // j ≤ L }) [5, 6, 7, 8, 9, 10, 11, 12, 13] (fun j => [(5, i64 j.1)])
    (fun j => [(0, .ob (.var (.arr 4 .one) (ff (x ^ 2 ^ j.1)))), (1, .ob (.var (.arr 4 .one) (ff 0)))]) 2 (fun j => L - j.1) ⟨0, Nat.zero_le _⟩ ?_ ?_
  · rw [famS_eq]
    refine weak_plain [(0, 0), (1, 1)] rfl rfl rfl ?_ ?_
    · simp -implicitDefEqProofs only [go_sem, wrs, wru, Int.toNat_natCast, Nat.zero_add, Bool.not_false, Bool.not_true, Bool.or_true, Bool.false_or, List.contains_nil, Bool.or_false, Nat.reduceAdd, Nat.reduceMul, Nat.reduceSub, Nat.reduceBEq, Nat.reduceEqDiff, Nat.reduceLT, Nat.reduceLeDiff, Int.reduceToNat, Int.reduceLT, Int.reduceLE, Int.reduceAdd, Int.reduceSub, Int.reduceMul, Int.reduceNeg, Int.reduceEq, Int.reduceBEq, Int.reduceMod, Int.reduceGT, Int.reduceGE, Int.reduceBNe, Nat.reduceBNe, Int.natCast_nonneg, Option.some.injEq, PV.val.injEq, Value.int.injEq, PV.agg.injEq, List.cons.injEq, ob_eq, Ob.var.injEq, Ob.row.injEq, not_true_eq_false, not_false_eq_true, zero_ff, Nat.pow_zero, pw_one]
    · simp -implicitDefEqProofs only [go_sem, wrs, wru, Int.toNat_natCast, Nat.zero_add, Bool.not_false, Bool.not_true, Bool.or_true, Bool.false_or, List.contains_nil, Bool.or_false, Nat.reduceAdd, Nat.reduceMul, Nat.reduceSub, Nat.reduceBEq, Nat.reduceEqDiff, Nat.reduceLT, Nat.reduceLeDiff, Int.reduceToNat, Int.reduceLT, Int.reduceLE, Int.reduceAdd, Int.reduceSub, Int.reduceMul, Int.reduceNeg, Int.reduceEq, Int.reduceBEq, Int.reduceMod, Int.reduceGT, Int.reduceGE, Int.reduceBNe, Nat.reduceBNe, Int.natCast_nonneg, Option.some.injEq, PV.val.injEq, Value.int.injEq, PV.agg.injEq, List.cons.injEq, ob_eq, Ob.var.injEq, Ob.row.injEq, not_true_eq_false, not_false_eq_true]
  intro ⟨j, hj⟩ G hG
  simp -implicitDefEqProofs only [go_sem, wrs, wru, Int.toNat_natCast, Nat.zero_add, Bool.not_false, Bool.not_true, Bool.or_true, Bool.false_or, List.contains_nil, Bool.or_false, Nat.reduceAdd, Nat.reduceMul, Nat.reduceSub, Nat.reduceBEq, Nat.reduceEqDiff, Nat.reduceLT, Nat.reduceLeDiff, Int.reduceToNat, Int.reduceLT, Int.reduceLE, Int.reduceAdd, Int.reduceSub, Int.reduceMul, Int.reduceNeg, Int.reduceEq, Int.reduceBEq, Int.reduceMod, Int.reduceGT, Int.reduceGE, Int.reduceBNe, Nat.reduceBNe, Int.natCast_nonneg]
  refine cnd_split (fun h => ?_) (fun h => ?_)
  · simp only [decide_eq_true_eq] at h
    have w3 : IntKind.i64.wrap ((j : Int) + 1) = ((j + 1 : Nat) : Int) := by rw [wrs (by omega) (by omega)]; omega
    simp -implicitDefEqProofs only [go_sem, wrs, wru, Int.toNat_natCast, Nat.zero_add, Bool.not_false, Bool.not_true, Bool.or_true, Bool.false_or, List.contains_nil, Bool.or_false, Nat.reduceAdd, Nat.reduceMul, Nat.reduceSub, Nat.reduceBEq, Nat.reduceEqDiff, Nat.reduceLT, Nat.reduceLeDiff, Int.reduceToNat, Int.reduceLT, Int.reduceLE, Int.reduceAdd, Int.reduceSub, Int.reduceMul, Int.reduceNeg, Int.reduceEq, Int.reduceBEq, Int.reduceMod, Int.reduceGT, Int.reduceGE, Int.reduceBNe, Nat.reduceBNe, Int.natCast_nonneg, h]
    refine k_ref_MulR ?_
    simp -implicitDefEqProofs only [go_sem, wrs, wru, Int.toNat_natCast, Nat.zero_add, Bool.not_false, Bool.not_true, Bool.or_true, Bool.false_or, List.contains_nil, Bool.or_false, Nat.reduceAdd, Nat.reduceMul, Nat.reduceSub, Nat.reduceBEq, Nat.reduceEqDiff, Nat.reduceLT, Nat.reduceLeDiff, Int.reduceToNat, Int.reduceLT, Int.reduceLE, Int.reduceAdd, Int.reduceSub, Int.reduceMul, Int.reduceNeg, Int.reduceEq, Int.reduceBEq, Int.reduceMod, Int.reduceGT, Int.reduceGE, Int.reduceBNe, Nat.reduceBNe, Int.natCast_nonneg, h, w3, sq_pow]
    refine hG _ ⟨j + 1, by omega⟩ (by simp only; omega) ?_
    rw [famS_eq]
    refine weak_plain [(0, 0), (1, 1)] rfl rfl rfl ?_ ?_
    · simp -implicitDefEqProofs only [go_sem, wrs, wru, Int.toNat_natCast, Nat.zero_add, Bool.not_false, Bool.not_true, Bool.or_true, Bool.false_or, List.contains_nil, Bool.or_false, Nat.reduceAdd, Nat.reduceMul, Nat.reduceSub, Nat.reduceBEq, Nat.reduceEqDiff, Nat.reduceLT, Nat.reduceLeDiff, Int.reduceToNat, Int.reduceLT, Int.reduceLE, Int.reduceAdd, Int.reduceSub, Int.reduceMul, Int.reduceNeg, Int.reduceEq, Int.reduceBEq, Int.reduceMod, Int.reduceGT, Int.reduceGE, Int.reduceBNe, Nat.reduceBNe, Int.natCast_nonneg, Option.some.injEq, PV.val.injEq, Value.int.injEq, PV.agg.injEq, List.cons.injEq, ob_eq, Ob.var.injEq, Ob.row.injEq, not_true_eq_false, not_false_eq_true]
    · simp -implicitDefEqProofs only [go_sem, wrs, wru, Int.toNat_natCast, Nat.zero_add, Bool.not_false, Bool.not_true, Bool.or_true, Bool.false_or, List.contains_nil, Bool.or_false, Nat.reduceAdd, Nat.reduceMul, Nat.reduceSub, Nat.reduceBEq, Nat.reduceEqDiff, Nat.reduceLT, Nat.reduceLeDiff, Int.reduceToNat, Int.reduceLT, Int.reduceLE, Int.reduceAdd, Int.reduceSub, Int.reduceMul, Int.reduceNeg, Int.reduceEq, Int.reduceBEq, Int.reduceMod, Int.reduceGT, Int.reduceGE, Int.reduceBNe, Nat.reduceBNe, Int.natCast_nonneg, Option.some.injEq, PV.val.injEq, Value.int.injEq, PV.agg.injEq, List.cons.injEq, ob_eq, Ob.var.injEq, Ob.row.injEq, not_true_eq_false, not_false_eq_true]
  simp only [decide_eq_false_iff_not] at h
  obtain rfl : j = L := by omega
  clear hG
  simp -implicitDefEqProofs only [go_sem, wrs, wru, Int.toNat_natCast, Nat.zero_add, Bool.not_false, Bool.not_true, Bool.or_true, Bool.false_or, List.contains_nil, Bool.or_false, Nat.reduceAdd, Nat.reduceMul, Nat.reduceSub, Nat.reduceBEq, Nat.reduceEqDiff, Nat.reduceLT, Nat.reduceLeDiff, Int.reduceToNat, Int.reduceLT, Int.reduceLE, Int.reduceAdd, Int.reduceSub, Int.reduceMul, Int.reduceNeg, Int.reduceEq, Int.reduceBEq, Int.reduceMod, Int.reduceGT, Int.reduceGE, Int.reduceBNe, Nat.reduceBNe, Int.natCast_nonneg]
  refine k_ref_OfR (lit_rng rfl) ?_
  simp -implicitDefEqProofs only [go_sem, wrs, wru, Int.toNat_natCast, Nat.zero_add, Bool.not_false, Bool.not_true, Bool.or_true, Bool.false_or, List.contains_nil, Bool.or_false, Nat.reduceAdd, Nat.reduceMul, Nat.reduceSub, Nat.reduceBEq, Nat.reduceEqDiff, Nat.reduceLT, Nat.reduceLeDiff, Int.reduceToNat, Int.reduceLT, Int.reduceLE, Int.reduceAdd, Int.reduceSub, Int.reduceMul, Int.reduceNeg, Int.reduceEq, Int.reduceBEq, Int.reduceMod, Int.reduceGT, Int.reduceGE, Int.reduceBNe, Nat.reduceBNe, Int.natCast_nonneg, of_one]
  refine k_ref_SubR ?_
  simp -implicitDefEqProofs only [go_sem, wrs, wru, Int.toNat_natCast, Nat.zero_add, Bool.not_false, Bool.not_true, Bool.or_true, Bool.false_or, List.contains_nil, Bool.or_false, Nat.reduceAdd, Nat.reduceMul, Nat.reduceSub, Nat.reduceBEq, Nat.reduceEqDiff, Nat.reduceLT, Nat.reduceLeDiff, Int.reduceToNat, Int.reduceLT, Int.reduceLE, Int.reduceAdd, Int.reduceSub, Int.reduceMul, Int.reduceNeg, Int.reduceEq, Int.reduceBEq, Int.reduceMod, Int.reduceGT, Int.reduceGE, Int.reduceBNe, Nat.reduceBNe, Int.natCast_nonneg]
  exact ret_plain rfl hK
theorem shl1u {i : Nat} (hi : i < 64) : binI .shl .u64 1 (i : Int) = .int .u64 ((2 ^ i : Nat) : Int) := by
  have h := bin_shl (a := 1) (k := i) hi
  rw [Nat.one_mul, Nat.mod_eq_of_lt (Nat.pow_lt_pow_right (by decide) hi)] at h
  exact h
theorem k_lag_L {L i : Nat} {x : F} (hL : L ≤ 9) (hi : i < 2 ^ L) {K : PV → List Ob → Prop} (hK : K (.tup [ff (lagL L i x), i64 0]) []) : PSpec prog 55 [i64 L, i64 i, ff x] [] K := by
  refine sp_lagrange_L ?_
  simp only [pc_lagrange_L]
  have wl : IntKind.u64.wrap (L : Int) = (L : Int) := wru (by omega) (by omega)
  have hp : 2 ^ L ≤ 2 ^ 9 := Nat.pow_le_pow_right (by decide) hL
  have wi : IntKind.u64.wrap (i : Int) = (i : Int) := wru (by omega) (by omega)
  have h1 : ¬ ((i : Int) < 0) := by omega
  have h2 : ¬ ((i : Int) ≥ ((2 ^ L : Nat) : Int)) := by omega
  have hz0 := p2_nz (L := L) (by omega)
  rw [lagL] at hK
  simp -implicitDefEqProofs only [go_sem, wrs, wru, Int.toNat_natCast, Nat.zero_add, Bool.not_false, Bool.not_true, Bool.or_true, Bool.false_or, List.contains_nil, Bool.or_false, Nat.reduceAdd, Nat.reduceMul, Nat.reduceSub, Nat.reduceBEq, Nat.reduceEqDiff, Nat.reduceLT, Nat.reduceLeDiff, Int.reduceToNat, Int.reduceLT, Int.reduceLE, Int.reduceAdd, Int.reduceSub, Int.reduceMul, Int.reduceNeg, Int.reduceEq, Int.reduceBEq, Int.reduceMod, Int.reduceGT, Int.reduceGE, Int.reduceBNe, Nat.reduceBNe, Int.natCast_nonneg]
  refine k_lag_Z hL ?_
  simp -implicitDefEqProofs only [go_sem, wrs, wru, Int.toNat_natCast, Nat.zero_add, Bool.not_false, Bool.not_true, Bool.or_true, Bool.false_or, List.contains_nil, Bool.or_false, Nat.reduceAdd, Nat.reduceMul, Nat.reduceSub, Nat.reduceBEq, Nat.reduceEqDiff, Nat.reduceLT, Nat.reduceLeDiff, Int.reduceToNat, Int.reduceLT, Int.reduceLE, Int.reduceAdd, Int.reduceSub, Int.reduceMul, Int.reduceNeg, Int.reduceEq, Int.reduceBEq, Int.reduceMod, Int.reduceGT, Int.reduceGE, Int.reduceBNe, Nat.reduceBNe, Int.natCast_nonneg, h1, h2, wl, decide_true, decide_false, ↓shl1 (show L < 63 by omega), ↓shl1u (show L < 64 by omega)]
  refine k_fr_Root (by omega) ?_
  generalize rt L = w at *
  simp -implicitDefEqProofs only [go_sem, wrs, wru, Int.toNat_natCast, Nat.zero_add, Bool.not_false, Bool.not_true, Bool.or_true, Bool.false_or, List.contains_nil, Bool.or_false, Nat.reduceAdd, Nat.reduceMul, Nat.reduceSub, Nat.reduceBEq, Nat.reduceEqDiff, Nat.reduceLT, Nat.reduceLeDiff, Int.reduceToNat, Int.reduceLT, Int.reduceLE, Int.reduceAdd, Int.reduceSub, Int.reduceMul, Int.reduceNeg, Int.reduceEq, Int.reduceBEq, Int.reduceMod, Int.reduceGT, Int.reduceGE, Int.reduceBNe, Nat.reduceBNe, Int.natCast_nonneg, wi]
  repeat (with_reducible refine And.intro (by first | omega | decide) ?_)
  refine k_fr_Pow (e := [i]) (Nat.le_add_left 1 3) (by simp; omega) ?_
  rw [show nv [i] = i by simp only [nv]; omega]
  obtain ⟨W, hW⟩ : ∃ W, w ^ i = W := ⟨_, rfl⟩
  rw [hW] at hK
  rw [hW]
  simp -implicitDefEqProofs only [go_sem, wrs, wru, Int.toNat_natCast, Nat.zero_add, Bool.not_false, Bool.not_true, Bool.or_true, Bool.false_or, List.contains_nil, Bool.or_false, Nat.reduceAdd, Nat.reduceMul, Nat.reduceSub, Nat.reduceBEq, Nat.reduceEqDiff, Nat.reduceLT, Nat.reduceLeDiff, Int.reduceToNat, Int.reduceLT, Int.reduceLE, Int.reduceAdd, Int.reduceSub, Int.reduceMul, Int.reduceNeg, Int.reduceEq, Int.reduceBEq, Int.reduceMod, Int.reduceGT, Int.reduceGE, Int.reduceBNe, Nat.reduceBNe, Int.natCast_nonneg, h1, h2, wl, wi, ↓shl1 (show L < 63 by omega), ↓shl1u (show L < 64 by omega)]
  refine k_fr_Of ⟨by omega, by omega⟩ ?_
  simp -implicitDefEqProofs only [go_sem, wrs, wru, Int.toNat_natCast, Nat.zero_add, Bool.not_false, Bool.not_true, Bool.or_true, Bool.false_or, List.contains_nil, Bool.or_false, Nat.reduceAdd, Nat.reduceMul, Nat.reduceSub, Nat.reduceBEq, Nat.reduceEqDiff, Nat.reduceLT, Nat.reduceLeDiff, Int.reduceToNat, Int.reduceLT, Int.reduceLE, Int.reduceAdd, Int.reduceSub, Int.reduceMul, Int.reduceNeg, Int.reduceEq, Int.reduceBEq, Int.reduceMod, Int.reduceGT, Int.reduceGE, Int.reduceBNe, Nat.reduceBNe, Int.natCast_nonneg]
  refine k_fr_Sub ?_
  simp -implicitDefEqProofs only [go_sem, wrs, wru, Int.toNat_natCast, Nat.zero_add, Bool.not_false, Bool.not_true, Bool.or_true, Bool.false_or, List.contains_nil, Bool.or_false, Nat.reduceAdd, Nat.reduceMul, Nat.reduceSub, Nat.reduceBEq, Nat.reduceEqDiff, Nat.reduceLT, Nat.reduceLeDiff, Int.reduceToNat, Int.reduceLT, Int.reduceLE, Int.reduceAdd, Int.reduceSub, Int.reduceMul, Int.reduceNeg, Int.reduceEq, Int.reduceBEq, Int.reduceMod, Int.reduceGT, Int.reduceGE, Int.reduceBNe, Nat.reduceBNe, Int.natCast_nonneg]
  refine k_fr_Mul ?_
  simp -implicitDefEqProofs only [go_sem, wrs, wru, Int.toNat_natCast, Nat.zero_add, Bool.not_false, Bool.not_true, Bool.or_true, Bool.false_or, List.contains_nil, Bool.or_false, Nat.reduceAdd, Nat.reduceMul, Nat.reduceSub, Nat.reduceBEq, Nat.reduceEqDiff, Nat.reduceLT, Nat.reduceLeDiff, Int.reduceToNat, Int.reduceLT, Int.reduceLE, Int.reduceAdd, Int.reduceSub, Int.reduceMul, Int.reduceNeg, Int.reduceEq, Int.reduceBEq, Int.reduceMod, Int.reduceGT, Int.reduceGE, Int.reduceBNe, Nat.reduceBNe, Int.natCast_nonneg]
  refine k_fr_Inv (fun h => ?_) fun h => ?_
  · have hx : x = W := by
      rcases no_zero h with h | h
      · exact absurd h hz0
      · grind
    rw [if_pos hx] at hK
    simp -implicitDefEqProofs only [go_sem, wrs, wru, Int.toNat_natCast, Nat.zero_add, Bool.not_false, Bool.not_true, Bool.or_true, Bool.false_or, List.contains_nil, Bool.or_false, Nat.reduceAdd, Nat.reduceMul, Nat.reduceSub, Nat.reduceBEq, Nat.reduceEqDiff, Nat.reduceLT, Nat.reduceLeDiff, Int.reduceToNat, Int.reduceLT, Int.reduceLE, Int.reduceAdd, Int.reduceSub, Int.reduceMul, Int.reduceNeg, Int.reduceEq, Int.reduceBEq, Int.reduceMod, Int.reduceGT, Int.reduceGE, Int.reduceBNe, Nat.reduceBNe, Int.natCast_nonneg]
    refine k_fr_Of (lit_rng rfl) ?_
    simp -implicitDefEqProofs only [go_sem, wrs, wru, Int.toNat_natCast, Nat.zero_add, Bool.not_false, Bool.not_true, Bool.or_true, Bool.false_or, List.contains_nil, Bool.or_false, Nat.reduceAdd, Nat.reduceMul, Nat.reduceSub, Nat.reduceBEq, Nat.reduceEqDiff, Nat.reduceLT, Nat.reduceLeDiff, Int.reduceToNat, Int.reduceLT, Int.reduceLE, Int.reduceAdd, Int.reduceSub, Int.reduceMul, Int.reduceNeg, Int.reduceEq, Int.reduceBEq, Int.reduceMod, Int.reduceGT, Int.reduceGE, Int.reduceBNe, Nat.reduceBNe, Int.natCast_nonneg, of_one]
    exact ret_plain rfl hK
  · have hx : x ≠ W := fun e => h (by rw [e, show W - W = 0 by grind]; exact f_mul0 _)
    rw [if_neg hx] at hK
    simp -implicitDefEqProofs only [go_sem, wrs, wru, Int.toNat_natCast, Nat.zero_add, Bool.not_false, Bool.not_true, Bool.or_true, Bool.false_or, List.contains_nil, Bool.or_false, Nat.reduceAdd, Nat.reduceMul, Nat.reduceSub, Nat.reduceBEq, Nat.reduceEqDiff, Nat.reduceLT, Nat.reduceLeDiff, Int.reduceToNat, Int.reduceLT, Int.reduceLE, Int.reduceAdd, Int.reduceSub, Int.reduceMul, Int.reduceNeg, Int.reduceEq, Int.reduceBEq, Int.reduceMod, Int.reduceGT, Int.reduceGE, Int.reduceBNe, Nat.reduceBNe, Int.natCast_nonneg]
    refine k_fr_Mul ?_
    simp -implicitDefEqProofs only [go_sem, wrs, wru, Int.toNat_natCast, Nat.zero_add, Bool.not_false, Bool.not_true, Bool.or_true, Bool.false_or, List.contains_nil, Bool.or_false, Nat.reduceAdd, Nat.reduceMul, Nat.reduceSub, Nat.reduceBEq, Nat.reduceEqDiff, Nat.reduceLT, Nat.reduceLeDiff, Int.reduceToNat, Int.reduceLT, Int.reduceLE, Int.reduceAdd, Int.reduceSub, Int.reduceMul, Int.reduceNeg, Int.reduceEq, Int.reduceBEq, Int.reduceMod, Int.reduceGT, Int.reduceGE, Int.reduceBNe, Nat.reduceBNe, Int.natCast_nonneg]
    refine k_fr_Mul ?_
    simp -implicitDefEqProofs only [go_sem, wrs, wru, Int.toNat_natCast, Nat.zero_add, Bool.not_false, Bool.not_true, Bool.or_true, Bool.false_or, List.contains_nil, Bool.or_false, Nat.reduceAdd, Nat.reduceMul, Nat.reduceSub, Nat.reduceBEq, Nat.reduceEqDiff, Nat.reduceLT, Nat.reduceLeDiff, Int.reduceToNat, Int.reduceLT, Int.reduceLE, Int.reduceAdd, Int.reduceSub, Int.reduceMul, Int.reduceNeg, Int.reduceEq, Int.reduceBEq, Int.reduceMod, Int.reduceGT, Int.reduceGE, Int.reduceBNe, Nat.reduceBNe, Int.natCast_nonneg]
    exact ret_plain rfl hK
end Go.Proofs.Try.PMT
