/- A polynomial has no more roots than its degree. No conditions. -/
import Derived.Test.YthmkfabfbmkdfaaDoorGm
import Derived.Test.YthmkfabfbmkdfaaDoorGl
import Derived.Test.YthmkfabfbmkdfaaDoorGf
import Derived.Test.YthmkfabfbmkdfaaDoorGn
import Derived.Test.YthmkfabfbmkdfaaDoorGj
set_option linter.all false
namespace Go.Proofs.PL

theorem hor_cut0 (z : F) (a : List F) : hor z (cut a) = hor z a := hor_ext z _ _ (cut_get a)
theorem hor_one (x c : F) : hor x [c] = c := by simp only [hor]; grind
theorem hor_two (x a b : F) : hor x [a, b] = a + b * x := by simp only [hor]; grind
theorem lin_rel (l : List F) (x z : F) : hor x l = hor x (lin l z).2 * (x - z) + hor z l := by
  have h := congrArg (hor x) (lin_back l z)
  rw [hor_cut0 x l, add_hor, pm_hor, hor_cut0, hor_one, hor_two] at h
  rw [← h]
  grind
theorem lin_len (l : List F) (z : F) : (lin l z).2.length = l.length - 1 := linS_len l z l.length
/-- So many unlike roots as coefficients: it is nought. -/
theorem roots_all : ∀ (n : Nat) (l : List F), l.length ≤ n → ∀ zs : List F, zs.Nodup → (∀ z, z ∈ zs → hor z l = 0) → n ≤ zs.length → ∀ i, l.getD i 0 = 0
  | 0, l, h, _, _, _, _, i => getD_ge (by omega)
  | n + 1, l, h, zs, hd, hz, hn, i => by
    match zs, hd, hz, hn with
    | [], _, _, hn => simp at hn
    | r :: rs, hd, hz, hn =>
      have hr := hz r (by simp)
      have hd' := List.nodup_cons.1 hd
      have hq := roots_all n (lin l r).2 (by rw [lin_len]; omega) rs hd'.2 (fun x hx => by
        have h1 := lin_rel l x r
        rw [hz x (by simp [hx]), hr] at h1
        rcases no_zero (show hor x (lin l r).2 * (x - r) = 0 by rw [h1]; grind) with h2 | h2
        · exact h2
        · exact absurd (show x = r by grind) fun e => hd'.1 (e ▸ hx)) (by simpa using hn)
      have h0 : ∀ j, hor r (l.drop j) = 0 := fun j => by
        rcases j with _ | j
        · exact hr
        · rw [← lin_get]; exact hq j
      by_cases hi : i < l.length
      · have h1 := hor_drop r l i hi
        rw [h0, h0] at h1
        rw [show l.getD i 0 = l.getD i 0 + 0 * r by grind, ← h1]
      · exact getD_ge (by omega)
end Go.Proofs.PL

namespace Go.Proofs.PL

theorem hor_append (z : F) (l m : List F) : hor z (l ++ m) = hor z l + hor z m * z ^ l.length := by
  induction l with
  | nil => simp only [List.nil_append, hor, List.length_nil]; rw [pw_zero, f_0add]; grind
  | cons a l ih =>
    rw [List.cons_append, hor, hor, ih, List.length_cons, pw_succ]
    generalize z ^ l.length = p
    generalize hor z l = x
    generalize hor z m = y
    grind
theorem getD_app_l {l m : List F} {i : Nat} (h : i < l.length) : (l ++ m).getD i 0 = l.getD i 0 := by simp only [List.getD_eq_getElem?_getD, List.getElem?_append_left h]
theorem getD_app_r {l m : List F} {i : Nat} (h : l.length ≤ i) : (l ++ m).getD i 0 = m.getD (i - l.length) 0 := by simp only [List.getD_eq_getElem?_getD, List.getElem?_append_right h]
theorem gol_get (w : F) (a : List F) (k : Nat) : (gol w a).getD k 0 = if k < a.length then hor (w ^ k) a else 0 := tab_get ..
/-- Moved round by one. -/
def rot (x : List F) : List F := [x.getD (x.length - 1) 0] ++ x.take (x.length - 1)
theorem rot_len {x : List F} (h : 0 < x.length) : (rot x).length = x.length := by
  rw [rot, List.length_append, List.length_take, List.length_singleton]; omega
theorem rot_hor {x : List F} {z : F} (h : 0 < x.length) (hz : z ^ x.length = 1) : hor z (rot x) = hor z x * z := by
  have e : x = x.take (x.length - 1) ++ [x.getD (x.length - 1) 0] := by
    refine list_ext (by rw [List.length_append, List.length_take, List.length_singleton]; omega) fun i => ?_
    by_cases hi : i < x.length - 1
    · rw [getD_app_l (by rw [List.length_take]; omega), getD_take hi]
    · rw [getD_app_r (by rw [List.length_take]; omega), List.length_take, Nat.min_eq_left (by omega)]
      by_cases hi2 : i = x.length - 1
      · subst hi2; rw [Nat.sub_self]; rfl
      · rw [getD_ge (by omega), getD_ge (by rw [List.length_singleton]; omega)]
  have h2 : hor z x = hor z (x.take (x.length - 1)) + x.getD (x.length - 1) 0 * z ^ (x.length - 1) := by
    conv => lhs; rw [e]
    rw [hor_append, hor_one, List.length_take, Nat.min_eq_left (by omega)]
  have h3 : z ^ (x.length - 1) * z = 1 := by rw [← pw_succ, Nat.sub_add_cancel h]; exact hz
  rw [h2, rot, List.singleton_append, hor]
  generalize z ^ (x.length - 1) = p at *
  generalize x.getD (x.length - 1) 0 = c at *
  generalize hor z (x.take (x.length - 1)) = y at *
  rw [show (y + c * p) * z = y * z + c * (p * z) by grind, h3]; grind
theorem rt_pw_n {L : Nat} (h : L ≤ 32) (i : Nat) : (rt L ^ i) ^ 2 ^ L = 1 := by rw [← pw_mul, Nat.mul_comm, pw_mul, rt_full h, one_pow]
theorem moves {L : Nat} {x : List F} (h : L ≤ 32) (hx : x.length = 2 ^ L) {i : Nat} (hi : i < x.length) : (gol (rt L) (rot x)).getD i 0 = (gol (rt L) x).getD i 0 * rt L ^ i := by
  rw [gol, gol, tab_get, tab_get, rot_len (by omega), if_pos hi, if_pos hi, rot_hor (by omega) (by rw [hx]; exact rt_pw_n h i)]

theorem sums {L : Nat} {x y : List F} (h : L ≤ 32) (hx : x.length = 2 ^ L) (hy : y.length = 2 ^ L) :
    bak (inv (rt L)) (tab (2 ^ L) fun i => (gol (rt L) x).getD i 0 + (gol (rt L) y).getD i 0) = bth (fun a b => a + b) x y := by
  rw [← bak_gol h (a := bth (fun a b => a + b) x y) (by rw [bth_len, hx, hy]; exact Nat.max_self _)]
  congr 1
  refine list_ext (by rw [tab_len, gol_len, bth_len, hx, hy, Nat.max_self]) fun i => ?_
  rw [tab_get, gol_get (rt L) (bth _ _ _), bth_len, gol_get, gol_get, hx, hy, Nat.max_self]
  by_cases hi : i < 2 ^ L
  · rw [if_pos hi, if_pos hi, if_pos hi, if_pos hi, ← add_hor, hor_cut0]
  · rw [if_neg hi, if_neg hi]
theorem cosets {L : Nat} {a : List F} {z : F} (h : L ≤ 32) (ha : a.length = 2 ^ L) (hz : z ≠ 0) : gol (rt L) (scl z (scl (inv z) (bak (inv (rt L)) a))) = a := by
  rw [scl_scl (show inv z * z = 1 by rw [← inv_top hz]; grind), gol_bak h ha]
end Go.Proofs.PL

namespace Go.Proofs.PL

/-- A basis' value. -/
def lagL (L i : Nat) (x : F) : F := if x = rt L ^ i then 1 else rt L ^ i * (x ^ 2 ^ L - 1) * inv (of ((2 ^ L : Nat) : Int) * (x - rt L ^ i))
theorem p2_nz {L : Nat} (h : L ≤ 32) : of ((2 ^ L : Nat) : Int) ≠ 0 := len_nz (Nat.two_pow_pos L) (p2_le h)
end Go.Proofs.PL

namespace Go.Proofs.Tryd.PMT
open Go Go.Proofs.PM Go.Proofs.Tryd
def pc_lagrange_Of : Pc := (.seq (.rgn [⟨(some 2), none, .nil 33 (.arr 4 .one)⟩, ⟨(some 3), none, .mv (.cst (.val (.int .i64 0)))⟩]) (.seq (.rgn [⟨(some 7), none, .mv (.tmp 0)⟩, ⟨(some 8), none, .call 17 false [((.tmp 7), (some (.arr 4 .one)))]⟩, ⟨(some 6), none, .mv (.tmp 8)⟩, ⟨(some 9), none, .ext (.tmp 6) 0⟩, ⟨(some 10), none, .ext (.tmp 6) 1⟩, ⟨(some 4), none, .mv (.tmp 9)⟩, ⟨(some 5), none, .mv (.tmp 10)⟩]) (.seq (.seq (.rgn [⟨(some 11), none, .mv (.tmp 5)⟩, ⟨(some 12), none, .bin .neq (.tmp 11) (.cst (.val (.int .i64 0)))⟩]) (.cond (.tmp 12) (.seq (.rgn [⟨(some 13), none, .mv (.tmp 5)⟩, ⟨(some 2), none, .nil 33 (.arr 4 .one)⟩, ⟨(some 3), none, .mv (.tmp 13)⟩]) .ret) .skip)) (.seq (.rgn [⟨(some 14), none, .mv (.tmp 4)⟩, ⟨(some 15), none, .call 64 false [((.tmp 14), (some (.arr 4 .one)))]⟩, ⟨(some 2), none, .mv (.tmp 15)⟩, ⟨(some 3), none, .mv (.cst (.val (.int .i64 0)))⟩]) .ret))))
theorem pc_lagrange_Of_ok : f34.body.bind (compile TT 90) = some pc_lagrange_Of := by kernel_rfl
theorem sp_lagrange_Of {args : List PV} {own : List Ob} {K : PV → List Ob → Prop} (h : pwp prog pc_lagrange_Of (retQ [.tmp 2, .tmp 3] own K) (stIn 16 args own)) : PSpec prog 34 args own K := spec func34 pc_lagrange_Of_ok (by kernel_rfl) (by kernel_rfl) h
def pc_lagrange_L : Pc := (.seq (.rgn [⟨(some 5), none, .box (.arr 4 .one) (.tmp 2)⟩, ⟨(some 6), none, .alloc (.arr 4 .one) (.agg [(.val (.int .u64 0)), (.val (.int .u64 0)), (.val (.int .u64 0)), (.val (.int .u64 0))])⟩, ⟨(some 7), none, .mv (.cst (.val (.int .i64 0)))⟩]) (.seq (.rgn [⟨(some 15), none, .mv (.tmp 0)⟩, ⟨(some 16), none, .load (.arr 4 .one) (.tmp 5)⟩, ⟨(some 17), none, .call 33 false [((.tmp 15), none), ((.tmp 16), none)]⟩, ⟨(some 14), none, .mv (.tmp 17)⟩, ⟨(some 18), none, .ext (.tmp 14) 0⟩, ⟨(some 19), none, .ext (.tmp 14) 1⟩, ⟨(some 8), none, .alloc (.arr 4 .one) (.agg [(.val (.int .u64 0)), (.val (.int .u64 0)), (.val (.int .u64 0)), (.val (.int .u64 0))])⟩, ⟨none, none, .store (.arr 4 .one) (.tmp 8) (.tmp 18)⟩, ⟨(some 9), none, .mv (.tmp 19)⟩]) (.seq (.seq (.rgn [⟨(some 20), none, .mv (.tmp 9)⟩, ⟨(some 21), none, .bin .neq (.tmp 20) (.cst (.val (.int .i64 0)))⟩, ⟨(some 22), none, .mv (.tmp 21)⟩, ⟨(some 23), (some (22, false)), .mv (.tmp 1)⟩, ⟨(some 24), (some (22, false)), .bin .lss (.tmp 23) (.cst (.val (.int .i64 0)))⟩, ⟨(some 25), none, .pick (.tmp 22) (.cst (.val (.bool true))) (.tmp 24)⟩, ⟨(some 26), none, .mv (.tmp 25)⟩, ⟨(some 27), (some (26, false)), .mv (.tmp 1)⟩, ⟨(some 28), (some (26, false)), .mv (.tmp 0)⟩, ⟨(some 29), (some (26, false)), .cvi .u64 (.tmp 28)⟩, ⟨(some 30), (some (26, false)), .bin .shl (.cst (.val (.int .i64 1))) (.tmp 29)⟩, ⟨(some 31), (some (26, false)), .bin .geq (.tmp 27) (.tmp 30)⟩, ⟨(some 32), none, .pick (.tmp 26) (.cst (.val (.bool true))) (.tmp 31)⟩]) (.cond (.tmp 32) (.seq (.rgn [⟨(some 33), none, .build (.arr 4 .one) (.agg [(.val (.int .u64 0)), (.val (.int .u64 0)), (.val (.int .u64 0)), (.val (.int .u64 0))]) []⟩, ⟨none, none, .store (.arr 4 .one) (.tmp 6) (.tmp 33)⟩, ⟨(some 7), none, .mv (.cst (.val (.int .i64 1)))⟩]) .ret) .skip)) (.seq (.rgn [⟨(some 34), none, .mv (.tmp 0)⟩, ⟨(some 35), none, .cvi .u64 (.tmp 34)⟩, ⟨(some 36), none, .bin .shl (.cst (.val (.int .u64 1))) (.tmp 35)⟩, ⟨(some 10), none, .mv (.tmp 36)⟩]) (.seq (.rgn [⟨(some 38), none, .mv (.tmp 0)⟩, ⟨(some 39), none, .call 45 false [((.tmp 38), none)]⟩, ⟨(some 37), none, .mv (.tmp 39)⟩, ⟨(some 40), none, .ext (.tmp 37) 0⟩, ⟨(some 41), none, .ext (.tmp 37) 1⟩, ⟨(some 11), none, .alloc (.arr 4 .one) (.agg [(.val (.int .u64 0)), (.val (.int .u64 0)), (.val (.int .u64 0)), (.val (.int .u64 0))])⟩, ⟨none, none, .store (.arr 4 .one) (.tmp 11) (.tmp 40)⟩, ⟨(some 12), none, .mv (.tmp 41)⟩]) (.seq (.rgn [⟨(some 42), none, .load (.arr 4 .one) (.tmp 11)⟩, ⟨(some 43), none, .mv (.tmp 1)⟩, ⟨(some 44), none, .cvi .u64 (.tmp 43)⟩, ⟨(some 45), none, .bsl 31 .one (.val (.int .u64 0)) 1 [(0, (.tmp 44))]⟩, ⟨(some 46), none, .call 63 false [((.tmp 42), none), ((.tmp 45), (some .one))]⟩, ⟨none, none, .store (.arr 4 .one) (.tmp 11) (.tmp 46)⟩]) (.seq (.drgn 13 [⟨0, false, ⟨(some 48), none, .mv (.tmp 10)⟩⟩, ⟨2, true, ⟨(some 50), none, .load (.arr 4 .one) (.tmp 5)⟩⟩, ⟨3, true, ⟨(some 51), none, .load (.arr 4 .one) (.tmp 11)⟩⟩, ⟨10, true, ⟨(some 13), none, .alloc (.arr 4 .one) (.agg [(.val (.int .u64 0)), (.val (.int .u64 0)), (.val (.int .u64 0)), (.val (.int .u64 0))])⟩⟩, ⟨1, true, ⟨(some 49), none, .call 49 false [((.tmp 48), none)]⟩⟩, ⟨4, true, ⟨(some 52), none, .call 58 false [((.tmp 50), none), ((.tmp 51), none)]⟩⟩, ⟨5, true, ⟨(some 53), none, .call 50 false [((.tmp 49), none), ((.tmp 52), none)]⟩⟩, ⟨6, true, ⟨(some 54), none, .call 48 false [((.tmp 53), none)]⟩⟩, ⟨7, true, ⟨(some 47), none, .mv (.tmp 54)⟩⟩, ⟨8, true, ⟨(some 55), none, .ext (.tmp 47) 0⟩⟩, ⟨9, true, ⟨(some 56), none, .ext (.tmp 47) 1⟩⟩, ⟨11, true, ⟨none, none, .store (.arr 4 .one) (.tmp 13) (.tmp 55)⟩⟩, ⟨12, false, ⟨(some 9), none, .mv (.tmp 56)⟩⟩]) (.seq (.seq (.rgn [⟨(some 57), none, .mv (.tmp 9)⟩, ⟨(some 58), none, .bin .neq (.tmp 57) (.cst (.val (.int .i64 0)))⟩]) (.cond (.tmp 58) (.seq (.rgn [⟨(some 59), none, .call 49 false [((.cst (.val (.int .u64 1))), none)]⟩, ⟨none, none, .store (.arr 4 .one) (.tmp 6) (.tmp 59)⟩, ⟨(some 7), none, .mv (.cst (.val (.int .i64 0)))⟩]) .ret) .skip)) (.seq (.drgn 7 [⟨0, false, ⟨(some 60), none, .load (.arr 4 .one) (.tmp 11)⟩⟩, ⟨1, true, ⟨(some 61), none, .load (.arr 4 .one) (.tmp 8)⟩⟩, ⟨3, true, ⟨(some 63), none, .load (.arr 4 .one) (.tmp 13)⟩⟩, ⟨2, true, ⟨(some 62), none, .call 50 false [((.tmp 60), none), ((.tmp 61), none)]⟩⟩, ⟨4, false, ⟨(some 64), none, .call 50 false [((.tmp 62), none), ((.tmp 63), none)]⟩⟩, ⟨5, false, ⟨none, none, .store (.arr 4 .one) (.tmp 6) (.tmp 64)⟩⟩, ⟨6, false, ⟨(some 7), none, .mv (.cst (.val (.int .i64 0)))⟩⟩]) .ret)))))))))
theorem pc_lagrange_L_ok : f32.body.bind (compile TT 90) = some pc_lagrange_L := by kernel_rfl
theorem sp_lagrange_L {args : List PV} {own : List Ob} {K : PV → List Ob → Prop} (h : pwp prog pc_lagrange_L (retQ [.cell 6 (.arr 4 .one), .tmp 7] own K) (stIn 65 args own)) : PSpec prog 32 args own K := spec func32 pc_lagrange_L_ok (by kernel_rfl) (by kernel_rfl) h
def pc_lagrange_Z : Pc := (.seq (.rgn [⟨(some 3), none, .box (.arr 4 .one) (.tmp 1)⟩, ⟨(some 4), none, .alloc (.arr 4 .one) (.agg [(.val (.int .u64 0)), (.val (.int .u64 0)), (.val (.int .u64 0)), (.val (.int .u64 0))])⟩, ⟨(some 5), none, .mv (.cst (.val (.int .i64 0)))⟩]) (.seq (.seq (.rgn [⟨(some 6), none, .mv (.tmp 0)⟩, ⟨(some 7), none, .bin .lss (.tmp 6) (.cst (.val (.int .i64 0)))⟩, ⟨(some 8), none, .mv (.tmp 7)⟩, ⟨(some 9), (some (8, false)), .mv (.tmp 0)⟩, ⟨(some 10), (some (8, false)), .bin .gtr (.tmp 9) (.cst (.val (.int .i64 9)))⟩, ⟨(some 11), none, .pick (.tmp 8) (.cst (.val (.bool true))) (.tmp 10)⟩]) (.cond (.tmp 11) (.seq (.rgn [⟨(some 12), none, .build (.arr 4 .one) (.agg [(.val (.int .u64 0)), (.val (.int .u64 0)), (.val (.int .u64 0)), (.val (.int .u64 0))]) []⟩, ⟨none, none, .store (.arr 4 .one) (.tmp 4) (.tmp 12)⟩, ⟨(some 5), none, .mv (.cst (.val (.int .i64 1)))⟩]) .ret) .skip)) (.seq (.seq (.rgn [⟨(some 13), none, .mv (.tmp 0)⟩, ⟨(some 14), none, .mv (.cst (.val (.int .i64 0)))⟩]) (.block 0 (.loop (.seq (.rgn [⟨(some 15), none, .bin .lss (.tmp 14) (.tmp 13)⟩]) (.seq (.cond (.tmp 15) .skip (.exit 0)) (.seq (.block 1 (.rgn [⟨(some 16), none, .load (.arr 4 .one) (.tmp 3)⟩, ⟨(some 17), none, .load (.arr 4 .one) (.tmp 3)⟩, ⟨(some 18), none, .call 50 false [((.tmp 16), none), ((.tmp 17), none)]⟩, ⟨none, none, .store (.arr 4 .one) (.tmp 3) (.tmp 18)⟩])) (.rgn [⟨(some 19), none, .bin .add (.tmp 14) (.cst (.val (.int .i64 1)))⟩, ⟨(some 14), none, .mv (.tmp 19)⟩]))))))) (.seq (.drgn 5 [⟨0, false, ⟨(some 20), none, .load (.arr 4 .one) (.tmp 3)⟩⟩, ⟨1, true, ⟨(some 21), none, .call 49 false [((.cst (.val (.int .u64 1))), none)]⟩⟩, ⟨2, false, ⟨(some 22), none, .call 58 false [((.tmp 20), none), ((.tmp 21), none)]⟩⟩, ⟨3, false, ⟨none, none, .store (.arr 4 .one) (.tmp 4) (.tmp 22)⟩⟩, ⟨4, false, ⟨(some 5), none, .mv (.cst (.val (.int .i64 0)))⟩⟩]) .ret))))
theorem pc_lagrange_Z_ok : f33.body.bind (compile TT 90) = some pc_lagrange_Z := by kernel_rfl
theorem sp_lagrange_Z {args : List PV} {own : List Ob} {K : PV → List Ob → Prop} (h : pwp prog pc_lagrange_Z (retQ [.cell 4 (.arr 4 .one), .tmp 5] own K) (stIn 23 args own)) : PSpec prog 33 args own K := spec func33 pc_lagrange_Z_ok (by kernel_rfl) (by kernel_rfl) h
def pc_lagrange_Through : Pc := (.seq (.rgn [⟨(some 4), none, .nil 33 (.arr 4 .one)⟩, ⟨(some 5), none, .mv (.cst (.val (.int .i64 0)))⟩]) (.scopej 0 (.seq .skip (.seq (.seq (.rgn [⟨(some 26), none, .mv (.tmp 8)⟩, ⟨(some 27), none, .mv (.tmp 0)⟩, ⟨(some 28), none, .len (.tmp 27)⟩, ⟨(some 29), none, .bin .geq (.tmp 26) (.tmp 28)⟩]) (.cond (.tmp 29) (.seq (.rgn [⟨(some 30), none, .mv (.tmp 7)⟩, ⟨(some 4), none, .mv (.tmp 30)⟩, ⟨(some 5), none, .mv (.cst (.val (.int .i64 0)))⟩]) .ret) .skip)) (.seq (.rgn [⟨(some 32), none, .mv (.tmp 6)⟩, ⟨(some 33), none, .mv (.tmp 0)⟩, ⟨(some 34), none, .mv (.tmp 8)⟩, ⟨(some 35), none, .iaddrs (.arr 4 .one) (.tmp 33) (.tmp 34)⟩, ⟨(some 36), none, .load (.arr 4 .one) (.tmp 35)⟩, ⟨(some 37), none, .call 67 false [((.tmp 32), (some (.arr 4 .one))), ((.tmp 36), none)]⟩, ⟨(some 31), none, .mv (.tmp 37)⟩, ⟨(some 38), none, .ext (.tmp 31) 0⟩, ⟨(some 39), none, .ext (.tmp 31) 1⟩, ⟨(some 10), none, .alloc (.arr 4 .one) (.agg [(.val (.int .u64 0)), (.val (.int .u64 0)), (.val (.int .u64 0)), (.val (.int .u64 0))])⟩, ⟨(some 9), none, .mv (.tmp 38)⟩, ⟨none, none, .store (.arr 4 .one) (.tmp 10) (.tmp 39)⟩]) (.seq (.rgn [⟨(some 41), none, .mv (.tmp 9)⟩, ⟨(some 42), none, .mv (.tmp 0)⟩, ⟨(some 43), none, .mv (.tmp 8)⟩, ⟨(some 44), none, .iaddrs (.arr 4 .one) (.tmp 42) (.tmp 43)⟩, ⟨(some 45), none, .load (.arr 4 .one) (.tmp 44)⟩, ⟨(some 46), none, .call 62 false [((.tmp 41), (some (.arr 4 .one))), ((.tmp 45), none)]⟩, ⟨(some 47), none, .call 48 false [((.tmp 46), none)]⟩, ⟨(some 40), none, .mv (.tmp 47)⟩, ⟨(some 48), none, .ext (.tmp 40) 0⟩, ⟨(some 49), none, .ext (.tmp 40) 1⟩, ⟨(some 11), none, .alloc (.arr 4 .one) (.agg [(.val (.int .u64 0)), (.val (.int .u64 0)), (.val (.int .u64 0)), (.val (.int .u64 0))])⟩, ⟨none, none, .store (.arr 4 .one) (.tmp 11) (.tmp 48)⟩, ⟨(some 12), none, .mv (.tmp 49)⟩]) (.seq (.seq (.rgn [⟨(some 50), none, .mv (.tmp 12)⟩, ⟨(some 51), none, .bin .neq (.tmp 50) (.cst (.val (.int .i64 0)))⟩]) (.cond (.tmp 51) (.seq (.rgn [⟨(some 4), none, .nil 33 (.arr 4 .one)⟩, ⟨(some 5), none, .mv (.cst (.val (.int .i64 1)))⟩]) .ret) .skip)) (.seq (.drgn 11 [⟨0, false, ⟨(some 52), none, .mv (.tmp 7)⟩⟩, ⟨1, true, ⟨(some 53), none, .mv (.tmp 9)⟩⟩, ⟨2, true, ⟨(some 54), none, .mv (.tmp 1)⟩⟩, ⟨3, true, ⟨(some 55), none, .mv (.tmp 8)⟩⟩, ⟨4, true, ⟨(some 56), none, .iaddrs (.arr 4 .one) (.tmp 54) (.tmp 55)⟩⟩, ⟨5, true, ⟨(some 57), none, .load (.arr 4 .one) (.tmp 56)⟩⟩, ⟨6, true, ⟨(some 58), none, .load (.arr 4 .one) (.tmp 11)⟩⟩, ⟨7, true, ⟨(some 59), none, .call 50 false [((.tmp 57), none), ((.tmp 58), none)]⟩⟩, ⟨8, true, ⟨(some 60), none, .call 69 false [((.tmp 53), (some (.arr 4 .one))), ((.tmp 59), none)]⟩⟩, ⟨9, false, ⟨(some 61), none, .call 68 false [((.tmp 52), (some (.arr 4 .one))), ((.tmp 60), (some (.arr 4 .one)))]⟩⟩, ⟨10, false, ⟨(some 7), none, .mv (.tmp 61)⟩⟩]) (.seq (.rgn [⟨(some 62), none, .mv (.tmp 8)⟩, ⟨(some 63), none, .bin .add (.tmp 62) (.cst (.val (.int .i64 1)))⟩, ⟨(some 8), none, .mv (.tmp 63)⟩]) (.goto 0)))))))) (.seq (.seq (.rgn [⟨(some 13), none, .mv (.tmp 0)⟩, ⟨(some 14), none, .len (.tmp 13)⟩, ⟨(some 15), none, .mv (.tmp 1)⟩, ⟨(some 16), none, .len (.tmp 15)⟩, ⟨(some 17), none, .bin .neq (.tmp 14) (.tmp 16)⟩, ⟨(some 18), none, .mv (.tmp 17)⟩, ⟨(some 19), (some (18, false)), .mv (.tmp 0)⟩, ⟨(some 20), (some (18, false)), .len (.tmp 19)⟩, ⟨(some 21), (some (18, false)), .bin .gtr (.tmp 20) (.cst (.val (.int .i64 40)))⟩, ⟨(some 22), none, .pick (.tmp 18) (.cst (.val (.bool true))) (.tmp 21)⟩]) (.cond (.tmp 22) (.seq (.rgn [⟨(some 4), none, .nil 33 (.arr 4 .one)⟩, ⟨(some 5), none, .mv (.cst (.val (.int .i64 1)))⟩]) .ret) .skip)) (.seq (.rgn [⟨(some 23), none, .mv (.tmp 0)⟩, ⟨(some 24), none, .call 66 false [((.tmp 23), (some (.arr 4 .one)))]⟩, ⟨(some 6), none, .mv (.tmp 24)⟩]) (.seq (.rgn [⟨(some 25), none, .bsl 33 (.arr 4 .one) (.agg [(.val (.int .u64 0)), (.val (.int .u64 0)), (.val (.int .u64 0)), (.val (.int .u64 0))]) 0 []⟩, ⟨(some 7), none, .mv (.tmp 25)⟩]) (.seq (.rgn [⟨(some 8), none, .mv (.cst (.val (.int .i64 0)))⟩]) (.seq .label (.seq (.seq (.rgn [⟨(some 26), none, .mv (.tmp 8)⟩, ⟨(some 27), none, .mv (.tmp 0)⟩, ⟨(some 28), none, .len (.tmp 27)⟩, ⟨(some 29), none, .bin .geq (.tmp 26) (.tmp 28)⟩]) (.cond (.tmp 29) (.seq (.rgn [⟨(some 30), none, .mv (.tmp 7)⟩, ⟨(some 4), none, .mv (.tmp 30)⟩, ⟨(some 5), none, .mv (.cst (.val (.int .i64 0)))⟩]) .ret) .skip)) (.seq (.rgn [⟨(some 32), none, .mv (.tmp 6)⟩, ⟨(some 33), none, .mv (.tmp 0)⟩, ⟨(some 34), none, .mv (.tmp 8)⟩, ⟨(some 35), none, .iaddrs (.arr 4 .one) (.tmp 33) (.tmp 34)⟩, ⟨(some 36), none, .load (.arr 4 .one) (.tmp 35)⟩, ⟨(some 37), none, .call 67 false [((.tmp 32), (some (.arr 4 .one))), ((.tmp 36), none)]⟩, ⟨(some 31), none, .mv (.tmp 37)⟩, ⟨(some 38), none, .ext (.tmp 31) 0⟩, ⟨(some 39), none, .ext (.tmp 31) 1⟩, ⟨(some 10), none, .alloc (.arr 4 .one) (.agg [(.val (.int .u64 0)), (.val (.int .u64 0)), (.val (.int .u64 0)), (.val (.int .u64 0))])⟩, ⟨(some 9), none, .mv (.tmp 38)⟩, ⟨none, none, .store (.arr 4 .one) (.tmp 10) (.tmp 39)⟩]) (.seq (.rgn [⟨(some 41), none, .mv (.tmp 9)⟩, ⟨(some 42), none, .mv (.tmp 0)⟩, ⟨(some 43), none, .mv (.tmp 8)⟩, ⟨(some 44), none, .iaddrs (.arr 4 .one) (.tmp 42) (.tmp 43)⟩, ⟨(some 45), none, .load (.arr 4 .one) (.tmp 44)⟩, ⟨(some 46), none, .call 62 false [((.tmp 41), (some (.arr 4 .one))), ((.tmp 45), none)]⟩, ⟨(some 47), none, .call 48 false [((.tmp 46), none)]⟩, ⟨(some 40), none, .mv (.tmp 47)⟩, ⟨(some 48), none, .ext (.tmp 40) 0⟩, ⟨(some 49), none, .ext (.tmp 40) 1⟩, ⟨(some 11), none, .alloc (.arr 4 .one) (.agg [(.val (.int .u64 0)), (.val (.int .u64 0)), (.val (.int .u64 0)), (.val (.int .u64 0))])⟩, ⟨none, none, .store (.arr 4 .one) (.tmp 11) (.tmp 48)⟩, ⟨(some 12), none, .mv (.tmp 49)⟩]) (.seq (.seq (.rgn [⟨(some 50), none, .mv (.tmp 12)⟩, ⟨(some 51), none, .bin .neq (.tmp 50) (.cst (.val (.int .i64 0)))⟩]) (.cond (.tmp 51) (.seq (.rgn [⟨(some 4), none, .nil 33 (.arr 4 .one)⟩, ⟨(some 5), none, .mv (.cst (.val (.int .i64 1)))⟩]) .ret) .skip)) (.seq (.drgn 11 [⟨0, false, ⟨(some 52), none, .mv (.tmp 7)⟩⟩, ⟨1, true, ⟨(some 53), none, .mv (.tmp 9)⟩⟩, ⟨2, true, ⟨(some 54), none, .mv (.tmp 1)⟩⟩, ⟨3, true, ⟨(some 55), none, .mv (.tmp 8)⟩⟩, ⟨4, true, ⟨(some 56), none, .iaddrs (.arr 4 .one) (.tmp 54) (.tmp 55)⟩⟩, ⟨5, true, ⟨(some 57), none, .load (.arr 4 .one) (.tmp 56)⟩⟩, ⟨6, true, ⟨(some 58), none, .load (.arr 4 .one) (.tmp 11)⟩⟩, ⟨7, true, ⟨(some 59), none, .call 50 false [((.tmp 57), none), ((.tmp 58), none)]⟩⟩, ⟨8, true, ⟨(some 60), none, .call 69 false [((.tmp 53), (some (.arr 4 .one))), ((.tmp 59), none)]⟩⟩, ⟨9, false, ⟨(some 61), none, .call 68 false [((.tmp 52), (some (.arr 4 .one))), ((.tmp 60), (some (.arr 4 .one)))]⟩⟩, ⟨10, false, ⟨(some 7), none, .mv (.tmp 61)⟩⟩]) (.seq (.rgn [⟨(some 62), none, .mv (.tmp 8)⟩, ⟨(some 63), none, .bin .add (.tmp 62) (.cst (.val (.int .i64 1)))⟩, ⟨(some 8), none, .mv (.tmp 63)⟩]) (.goto 0))))))))))))))
theorem pc_lagrange_Through_ok : f41.body.bind (compile TT 90) = some pc_lagrange_Through := by kernel_rfl
theorem sp_lagrange_Through {args : List PV} {own : List Ob} {K : PV → List Ob → Prop} (h : pwp prog pc_lagrange_Through (retQ [.tmp 4, .tmp 5] own K) (stIn 64 args own)) : PSpec prog 41 args own K := spec func41 pc_lagrange_Through_ok (by kernel_rfl) (by kernel_rfl) h
def pc_lagrange_whole : Pc := (.seq (.rgn [⟨(some 2), none, .nil 33 (.arr 4 .one)⟩]) (.seq (.rgn [⟨(some 6), none, .call 49 false [((.cst (.val (.int .u64 1))), none)]⟩, ⟨(some 7), none, .bsl 33 (.arr 4 .one) (.agg [(.val (.int .u64 0)), (.val (.int .u64 0)), (.val (.int .u64 0)), (.val (.int .u64 0))]) 1 [(0, (.tmp 6))]⟩, ⟨(some 3), none, .mv (.tmp 7)⟩]) (.seq (.seq (.rgn [⟨(some 8), none, .mv (.tmp 0)⟩, ⟨(some 9), none, .len (.tmp 8)⟩, ⟨(some 10), none, .mv (.cst (.val (.int .i64 0)))⟩]) (.block 0 (.loop (.seq (.rgn [⟨(some 11), none, .bin .lss (.tmp 10) (.tmp 9)⟩]) (.seq (.cond (.tmp 11) .skip (.exit 0)) (.seq (.block 1 (.seq (.rgn [⟨(some 12), none, .iaddrs (.arr 4 .one) (.tmp 8) (.tmp 10)⟩, ⟨(some 13), none, .load (.arr 4 .one) (.tmp 12)⟩, ⟨(some 5), none, .alloc (.arr 4 .one) (.agg [(.val (.int .u64 0)), (.val (.int .u64 0)), (.val (.int .u64 0)), (.val (.int .u64 0))])⟩, ⟨none, none, .store (.arr 4 .one) (.tmp 5) (.tmp 13)⟩]) (.rgn [⟨(some 15), none, .mv (.tmp 3)⟩, ⟨(some 16), none, .load (.arr 4 .one) (.tmp 5)⟩, ⟨(some 17), none, .call 56 false [((.tmp 16), none)]⟩, ⟨(some 18), none, .call 49 false [((.cst (.val (.int .u64 1))), none)]⟩, ⟨(some 19), none, .bsl 33 (.arr 4 .one) (.agg [(.val (.int .u64 0)), (.val (.int .u64 0)), (.val (.int .u64 0)), (.val (.int .u64 0))]) 2 [(0, (.tmp 17)), (1, (.tmp 18))]⟩, ⟨(some 20), none, .call 87 false [((.tmp 15), (some (.arr 4 .one))), ((.tmp 19), (some (.arr 4 .one)))]⟩, ⟨(some 14), none, .mv (.tmp 20)⟩, ⟨(some 21), none, .ext (.tmp 14) 0⟩, ⟨(some 22), none, .ext (.tmp 14) 1⟩, ⟨(some 3), none, .mv (.tmp 21)⟩]))) (.rgn [⟨(some 23), none, .bin .add (.tmp 10) (.cst (.val (.int .i64 1)))⟩, ⟨(some 10), none, .mv (.tmp 23)⟩]))))))) (.seq (.rgn [⟨(some 24), none, .mv (.tmp 3)⟩, ⟨(some 2), none, .mv (.tmp 24)⟩]) .ret))))
theorem pc_lagrange_whole_ok : f66.body.bind (compile TT 90) = some pc_lagrange_whole := by kernel_rfl
theorem sp_lagrange_whole {args : List PV} {own : List Ob} {K : PV → List Ob → Prop} (h : pwp prog pc_lagrange_whole (retQ [.tmp 2] own K) (stIn 25 args own)) : PSpec prog 66 args own K := spec func66 pc_lagrange_whole_ok (by kernel_rfl) (by kernel_rfl) h
def pc_intagliolaw16_begun : Pc := (.seq (.rgn [⟨(some 0), none, .mv (.cst (.val (.bool false)))⟩]) (.seq (.rgn [⟨(some 6), none, .build (.arr 4 .one) (.agg [(.val (.int .u64 0)), (.val (.int .u64 0)), (.val (.int .u64 0)), (.val (.int .u64 0))]) [(0, (.cst (.val (.int .u64 3))))]⟩, ⟨(some 7), none, .build (.arr 4 .one) (.agg [(.val (.int .u64 0)), (.val (.int .u64 0)), (.val (.int .u64 0)), (.val (.int .u64 0))]) [(0, (.cst (.val (.int .u64 1))))]⟩, ⟨(some 8), none, .bsl 33 (.arr 4 .one) (.agg [(.val (.int .u64 0)), (.val (.int .u64 0)), (.val (.int .u64 0)), (.val (.int .u64 0))]) 2 [(0, (.tmp 6)), (1, (.tmp 7))]⟩, ⟨(some 9), none, .call 34 false [((.tmp 8), (some (.arr 4 .one)))]⟩, ⟨(some 5), none, .mv (.tmp 9)⟩, ⟨(some 10), none, .ext (.tmp 5) 0⟩, ⟨(some 11), none, .ext (.tmp 5) 1⟩, ⟨(some 1), none, .mv (.tmp 10)⟩, ⟨(some 2), none, .mv (.tmp 11)⟩]) (.seq (.rgn [⟨(some 13), none, .build (.arr 4 .one) (.agg [(.val (.int .u64 0)), (.val (.int .u64 0)), (.val (.int .u64 0)), (.val (.int .u64 0))]) [(0, (.cst (.val (.int .u64 1))))]⟩, ⟨(some 14), none, .call 32 false [((.cst (.val (.int .i64 1))), none), ((.cst (.val (.int .i64 0))), none), ((.tmp 13), none)]⟩, ⟨(some 12), none, .mv (.tmp 14)⟩, ⟨(some 15), none, .ext (.tmp 12) 0⟩, ⟨(some 16), none, .ext (.tmp 12) 1⟩, ⟨(some 3), none, .alloc (.arr 4 .one) (.agg [(.val (.int .u64 0)), (.val (.int .u64 0)), (.val (.int .u64 0)), (.val (.int .u64 0))])⟩, ⟨none, none, .store (.arr 4 .one) (.tmp 3) (.tmp 15)⟩, ⟨(some 4), none, .mv (.tmp 16)⟩]) (.seq (.rgn [⟨(some 17), none, .mv (.tmp 2)⟩, ⟨(some 18), none, .bin .eql (.tmp 17) (.cst (.val (.int .i64 0)))⟩, ⟨(some 19), none, .mv (.tmp 18)⟩, ⟨(some 20), (some (19, true)), .mv (.tmp 1)⟩, ⟨(some 21), (some (19, true)), .len (.tmp 20)⟩, ⟨(some 22), (some (19, true)), .bin .eql (.tmp 21) (.cst (.val (.int .i64 2)))⟩, ⟨(some 23), none, .pick (.tmp 19) (.tmp 22) (.cst (.val (.bool false)))⟩, ⟨(some 24), none, .mv (.tmp 23)⟩, ⟨(some 25), (some (24, true)), .mv (.tmp 1)⟩, ⟨(some 26), (some (24, true)), .iaddrs (.arr 4 .one) (.tmp 25) (.cst (.val (.int .i64 0)))⟩, ⟨(some 27), (some (24, true)), .load (.arr 4 .one) (.tmp 26)⟩, ⟨(some 28), (some (24, true)), .build (.arr 4 .one) (.agg [(.val (.int .u64 0)), (.val (.int .u64 0)), (.val (.int .u64 0)), (.val (.int .u64 0))]) [(0, (.cst (.val (.int .u64 2))))]⟩, ⟨(some 29), (some (24, true)), .eqa false (.arr 4 .one) (.tmp 27) (.tmp 28)⟩, ⟨(some 30), none, .pick (.tmp 24) (.tmp 29) (.cst (.val (.bool false)))⟩, ⟨(some 31), none, .mv (.tmp 30)⟩, ⟨(some 32), (some (31, true)), .mv (.tmp 4)⟩, ⟨(some 33), (some (31, true)), .bin .eql (.tmp 32) (.cst (.val (.int .i64 0)))⟩, ⟨(some 34), none, .pick (.tmp 31) (.tmp 33) (.cst (.val (.bool false)))⟩, ⟨(some 35), none, .mv (.tmp 34)⟩, ⟨(some 36), (some (35, true)), .load (.arr 4 .one) (.tmp 3)⟩, ⟨(some 37), (some (35, true)), .build (.arr 4 .one) (.agg [(.val (.int .u64 0)), (.val (.int .u64 0)), (.val (.int .u64 0)), (.val (.int .u64 0))]) [(0, (.cst (.val (.int .u64 1))))]⟩, ⟨(some 38), (some (35, true)), .eqa false (.arr 4 .one) (.tmp 36) (.tmp 37)⟩, ⟨(some 39), none, .pick (.tmp 35) (.tmp 38) (.cst (.val (.bool false)))⟩, ⟨(some 0), none, .mv (.tmp 39)⟩]) .ret))))
theorem pc_intagliolaw16_begun_ok : f29.body.bind (compile TT 90) = some pc_intagliolaw16_begun := by kernel_rfl
theorem sp_intagliolaw16_begun {args : List PV} {own : List Ob} {K : PV → List Ob → Prop} (h : pwp prog pc_intagliolaw16_begun (retQ [.tmp 0] own K) (stIn 40 args own)) : PSpec prog 29 args own K := spec func29 pc_intagliolaw16_begun_ok (by kernel_rfl) (by kernel_rfl) h
end Go.Proofs.Tryd.PMT

namespace Go.Proofs.Tryd.PMT
open Go Go.Proofs.PM Go.Proofs.PL Go.Proofs.Tryd
set_option maxRecDepth 4000

theorem lb_len (l : List F) : (bkR l).1.length ≤ l.length := by
  cases h : lg l.length with
  | none => rw [bkR_none h]; exact Nat.zero_le _
  | some L => rw [bkR_some h, bak_len]; exact Nat.le_refl _
theorem lit (n : Int) (h : 0 ≤ n ∧ n < 18446744073709551616) : PV.agg [u n, u 0, u 0, u 0] = ff (of n) := by
  rw [← fr_of (by omega)]
  have e1 : n % 18446744073709551616 = n := by omega
  have e2 : n / 18446744073709551616 % 18446744073709551616 = 0 := by omega
  have e3 : n / 340282366920938463463374607431768211456 % 18446744073709551616 = 0 := by omega
  have e4 : n / 6277101735386680763835789423207666416102355444464034512896 % 18446744073709551616 = 0 := by omega
  rw [fr, e1, e2, e3, e4]
theorem beqU {x y : F} (h : x = y) : (ff x).beq (ff y) = true := by rw [ff_beq, decide_eq_true h]
theorem k_lag_Of {l : List F} (hl : l.length ≤ 4398046511104) {K : PV → List Ob → Prop} (hK : K (.tup [.osl 0 [] 0 (cut (bkR l).1).length, i64 (bkR l).2]) [.row 33 (.arr 4 .one) (ffs (cut (bkR l).1))]) : PSpec prog 34 [.vsl false (.arr 4 .one) (ffs l)] [] K := by
  refine sp_lagrange_Of ?_
  simp only [pc_lagrange_Of]
  simp -implicitDefEqProofs only [go_sem, wrs, wru, Int.toNat_natCast, Nat.zero_add, Bool.not_false, Bool.not_true, Bool.or_true, Bool.false_or, List.contains_nil, Bool.or_false, Nat.reduceAdd, Nat.reduceMul, Nat.reduceSub, Nat.reduceBEq, Nat.reduceEqDiff, Nat.reduceLT, Nat.reduceLeDiff, Int.reduceToNat, Int.reduceLT, Int.reduceLE, Int.reduceAdd, Int.reduceSub, Int.reduceMul, Int.reduceNeg, Int.reduceEq, Int.reduceBEq, Int.reduceMod, Int.reduceGT, Int.reduceGE, Int.reduceBNe, Nat.reduceBNe, Int.natCast_nonneg]
  refine k_ntt_Back hl ?_
  have hb := lb_len l
  cases hg : lg l.length with
  | none =>
    rw [bkR_none hg]
    rw [bkR_none hg] at hK
    simp -implicitDefEqProofs only [go_sem, wrs, wru, Int.toNat_natCast, Nat.zero_add, Bool.not_false, Bool.not_true, Bool.or_true, Bool.false_or, List.contains_nil, Bool.or_false, Nat.reduceAdd, Nat.reduceMul, Nat.reduceSub, Nat.reduceBEq, Nat.reduceEqDiff, Nat.reduceLT, Nat.reduceLeDiff, Int.reduceToNat, Int.reduceLT, Int.reduceLE, Int.reduceAdd, Int.reduceSub, Int.reduceMul, Int.reduceNeg, Int.reduceEq, Int.reduceBEq, Int.reduceMod, Int.reduceGT, Int.reduceGE, Int.reduceBNe, Nat.reduceBNe, Int.natCast_nonneg]
    refine ret_obs [(2, 0)] [.row 33 (.arr 4 .one) (ffs [])] [.osl 0 [] 0 0, i64 1] rfl rfl ?_ ?_ hK
    · simp -implicitDefEqProofs only [go_sem, wrs, wru, Int.toNat_natCast, Nat.zero_add, Bool.not_false, Bool.not_true, Bool.or_true, Bool.false_or, List.contains_nil, Bool.or_false, Nat.reduceAdd, Nat.reduceMul, Nat.reduceSub, Nat.reduceBEq, Nat.reduceEqDiff, Nat.reduceLT, Nat.reduceLeDiff, Int.reduceToNat, Int.reduceLT, Int.reduceLE, Int.reduceAdd, Int.reduceSub, Int.reduceMul, Int.reduceNeg, Int.reduceEq, Int.reduceBEq, Int.reduceMod, Int.reduceGT, Int.reduceGE, Int.reduceBNe, Nat.reduceBNe, Int.natCast_nonneg, Option.some.injEq, PV.val.injEq, Value.int.injEq, PV.agg.injEq, List.cons.injEq, ob_eq, Ob.var.injEq, Ob.row.injEq, not_true_eq_false, not_false_eq_true, ffs_nil]
    · simp -implicitDefEqProofs only [go_sem, wrs, wru, Int.toNat_natCast, Nat.zero_add, Bool.not_false, Bool.not_true, Bool.or_true, Bool.false_or, List.contains_nil, Bool.or_false, Nat.reduceAdd, Nat.reduceMul, Nat.reduceSub, Nat.reduceBEq, Nat.reduceEqDiff, Nat.reduceLT, Nat.reduceLeDiff, Int.reduceToNat, Int.reduceLT, Int.reduceLE, Int.reduceAdd, Int.reduceSub, Int.reduceMul, Int.reduceNeg, Int.reduceEq, Int.reduceBEq, Int.reduceMod, Int.reduceGT, Int.reduceGE, Int.reduceBNe, Nat.reduceBNe, Int.natCast_nonneg]
  | some L =>
    rw [bkR_some hg] at hb hK
    rw [bkR_some hg]
    generalize bak (inv (rt L)) l = o at *
    have hb : o.length ≤ l.length := hb
    simp -implicitDefEqProofs only [go_sem, wrs, wru, Int.toNat_natCast, Nat.zero_add, Bool.not_false, Bool.not_true, Bool.or_true, Bool.false_or, List.contains_nil, Bool.or_false, Nat.reduceAdd, Nat.reduceMul, Nat.reduceSub, Nat.reduceBEq, Nat.reduceEqDiff, Nat.reduceLT, Nat.reduceLeDiff, Int.reduceToNat, Int.reduceLT, Int.reduceLE, Int.reduceAdd, Int.reduceSub, Int.reduceMul, Int.reduceNeg, Int.reduceEq, Int.reduceBEq, Int.reduceMod, Int.reduceGT, Int.reduceGE, Int.reduceBNe, Nat.reduceBNe, Int.natCast_nonneg, List.take_length]
    refine k_poly_Cut (by omega) ?_
    simp -implicitDefEqProofs only [go_sem, wrs, wru, Int.toNat_natCast, Nat.zero_add, Bool.not_false, Bool.not_true, Bool.or_true, Bool.false_or, List.contains_nil, Bool.or_false, Nat.reduceAdd, Nat.reduceMul, Nat.reduceSub, Nat.reduceBEq, Nat.reduceEqDiff, Nat.reduceLT, Nat.reduceLeDiff, Int.reduceToNat, Int.reduceLT, Int.reduceLE, Int.reduceAdd, Int.reduceSub, Int.reduceMul, Int.reduceNeg, Int.reduceEq, Int.reduceBEq, Int.reduceMod, Int.reduceGT, Int.reduceGE, Int.reduceBNe, Nat.reduceBNe, Int.natCast_nonneg]
    refine ret_obs [(2, 0)] [.row 33 (.arr 4 .one) (ffs (cut o))] [.osl 0 [] 0 (cut o).length, i64 0] rfl rfl ?_ ?_ hK
    · simp -implicitDefEqProofs only [go_sem, wrs, wru, Int.toNat_natCast, Nat.zero_add, Bool.not_false, Bool.not_true, Bool.or_true, Bool.false_or, List.contains_nil, Bool.or_false, Nat.reduceAdd, Nat.reduceMul, Nat.reduceSub, Nat.reduceBEq, Nat.reduceEqDiff, Nat.reduceLT, Nat.reduceLeDiff, Int.reduceToNat, Int.reduceLT, Int.reduceLE, Int.reduceAdd, Int.reduceSub, Int.reduceMul, Int.reduceNeg, Int.reduceEq, Int.reduceBEq, Int.reduceMod, Int.reduceGT, Int.reduceGE, Int.reduceBNe, Nat.reduceBNe, Int.natCast_nonneg, Option.some.injEq, PV.val.injEq, Value.int.injEq, PV.agg.injEq, List.cons.injEq, ob_eq, Ob.var.injEq, Ob.row.injEq, not_true_eq_false, not_false_eq_true]
    · simp -implicitDefEqProofs only [go_sem, wrs, wru, Int.toNat_natCast, Nat.zero_add, Bool.not_false, Bool.not_true, Bool.or_true, Bool.false_or, List.contains_nil, Bool.or_false, Nat.reduceAdd, Nat.reduceMul, Nat.reduceSub, Nat.reduceBEq, Nat.reduceEqDiff, Nat.reduceLT, Nat.reduceLeDiff, Int.reduceToNat, Int.reduceLT, Int.reduceLE, Int.reduceAdd, Int.reduceSub, Int.reduceMul, Int.reduceNeg, Int.reduceEq, Int.reduceBEq, Int.reduceMod, Int.reduceGT, Int.reduceGE, Int.reduceBNe, Nat.reduceBNe, Int.natCast_nonneg]
theorem k_lag_Z {L : Nat} {x : F} (hL : L ≤ 9) {K : PV → List Ob → Prop} (hK : K (.tup [ff (x ^ 2 ^ L - 1), i64 0]) []) : PSpec prog 33 [i64 L, ff x] [] K := by
  refine sp_lagrange_Z ?_
  simp only [pc_lagrange_Z]
  have h1 : ¬ ((L : Int) < 0) := by omega
  have h2 : ¬ ((L : Int) > 9) := by omega
  simp -implicitDefEqProofs only [go_sem, wrs, wru, Int.toNat_natCast, Nat.zero_add, Bool.not_false, Bool.not_true, Bool.or_true, Bool.false_or, List.contains_nil, Bool.or_false, Nat.reduceAdd, Nat.reduceMul, Nat.reduceSub, Nat.reduceBEq, Nat.reduceEqDiff, Nat.reduceLT, Nat.reduceLeDiff, Int.reduceToNat, Int.reduceLT, Int.reduceLE, Int.reduceAdd, Int.reduceSub, Int.reduceMul, Int.reduceNeg, Int.reduceEq, Int.reduceBEq, Int.reduceMod, Int.reduceGT, Int.reduceGE, Int.reduceBNe, Nat.reduceBNe, Int.natCast_nonneg, h1, h2, decide_false]
  refine loop_fam (ι := { j : Nat // j ≤ L }) [14, 15, 16, 17, 18, 19] (fun j => [(14, i64 j.1)])
    (fun j => [(0, .ob (.var (.arr 4 .one) (ff (x ^ 2 ^ j.1)))), (1, .ob (.var (.arr 4 .one) (ff 0)))]) 2 (fun j => L - j.1) ⟨0, Nat.zero_le _⟩ ?_ ?_
  · rw [famS_eq]
    refine weak_plain [(0, 0), (1, 1)] rfl rfl rfl ?_ ?_
    · simp -implicitDefEqProofs only [go_sem, wrs, wru, Int.toNat_natCast, Nat.zero_add, Bool.not_false, Bool.not_true, Bool.or_true, Bool.false_or, List.contains_nil, Bool.or_false, Nat.reduceAdd, Nat.reduceMul, Nat.reduceSub, Nat.reduceBEq, Nat.reduceEqDiff, Nat.reduceLT, Nat.reduceLeDiff, Int.reduceToNat, Int.reduceLT, Int.reduceLE, Int.reduceAdd, Int.reduceSub, Int.reduceMul, Int.reduceNeg, Int.reduceEq, Int.reduceBEq, Int.reduceMod, Int.reduceGT, Int.reduceGE, Int.reduceBNe, Nat.reduceBNe, Int.natCast_nonneg, Option.some.injEq, PV.val.injEq, Value.int.injEq, PV.agg.injEq, List.cons.injEq, ob_eq, Ob.var.injEq, Ob.row.injEq, not_true_eq_false, not_false_eq_true, zero_ff, Nat.pow_zero, pw_one]
    · simp -implicitDefEqProofs only [go_sem, wrs, wru, Int.toNat_natCast, Nat.zero_add, Bool.not_false, Bool.not_true, Bool.or_true, Bool.false_or, List.contains_nil, Bool.or_false, Nat.reduceAdd, Nat.reduceMul, Nat.reduceSub, Nat.reduceBEq, Nat.reduceEqDiff, Nat.reduceLT, Nat.reduceLeDiff, Int.reduceToNat, Int.reduceLT, Int.reduceLE, Int.reduceAdd, Int.reduceSub, Int.reduceMul, Int.reduceNeg, Int.reduceEq, Int.reduceBEq, Int.reduceMod, Int.reduceGT, Int.reduceGE, Int.reduceBNe, Nat.reduceBNe, Int.natCast_nonneg, Option.some.injEq, PV.val.injEq, Value.int.injEq, PV.agg.injEq, List.cons.injEq, ob_eq, Ob.var.injEq, Ob.row.injEq, not_true_eq_false, not_false_eq_true]
  intro ⟨j, hj⟩ G hG
  simp -implicitDefEqProofs only [go_sem, wrs, wru, Int.toNat_natCast, Nat.zero_add, Bool.not_false, Bool.not_true, Bool.or_true, Bool.false_or, List.contains_nil, Bool.or_false, Nat.reduceAdd, Nat.reduceMul, Nat.reduceSub, Nat.reduceBEq, Nat.reduceEqDiff, Nat.reduceLT, Nat.reduceLeDiff, Int.reduceToNat, Int.reduceLT, Int.reduceLE, Int.reduceAdd, Int.reduceSub, Int.reduceMul, Int.reduceNeg, Int.reduceEq, Int.reduceBEq, Int.reduceMod, Int.reduceGT, Int.reduceGE, Int.reduceBNe, Nat.reduceBNe, Int.natCast_nonneg]
  refine cnd_split (fun h => ?_) (fun h => ?_)
  · simp only [decide_eq_true_eq] at h
    have w3 : IntKind.i64.wrap ((j : Int) + 1) = ((j + 1 : Nat) : Int) := by rw [wrs (by omega) (by omega)]; omega
    simp -implicitDefEqProofs only [go_sem, wrs, wru, Int.toNat_natCast, Nat.zero_add, Bool.not_false, Bool.not_true, Bool.or_true, Bool.false_or, List.contains_nil, Bool.or_false, Nat.reduceAdd, Nat.reduceMul, Nat.reduceSub, Nat.reduceBEq, Nat.reduceEqDiff, Nat.reduceLT, Nat.reduceLeDiff, Int.reduceToNat, Int.reduceLT, Int.reduceLE, Int.reduceAdd, Int.reduceSub, Int.reduceMul, Int.reduceNeg, Int.reduceEq, Int.reduceBEq, Int.reduceMod, Int.reduceGT, Int.reduceGE, Int.reduceBNe, Nat.reduceBNe, Int.natCast_nonneg, h]
    refine k_fr_Mul ?_
    simp -implicitDefEqProofs only [go_sem, wrs, wru, Int.toNat_natCast, Nat.zero_add, Bool.not_false, Bool.not_true, Bool.or_true, Bool.false_or, List.contains_nil, Bool.or_false, Nat.reduceAdd, Nat.reduceMul, Nat.reduceSub, Nat.reduceBEq, Nat.reduceEqDiff, Nat.reduceLT, Nat.reduceLeDiff, Int.reduceToNat, Int.reduceLT, Int.reduceLE, Int.reduceAdd, Int.reduceSub, Int.reduceMul, Int.reduceNeg, Int.reduceEq, Int.reduceBEq, Int.reduceMod, Int.reduceGT, Int.reduceGE, Int.reduceBNe, Nat.reduceBNe, Int.natCast_nonneg, h, w3, sq_pow]
    refine hG _ ⟨j + 1, by omega⟩ (by simp only; omega) ?_
    rw [famS_eq]
    refine weak_plain [(0, 0), (1, 1)] rfl rfl rfl ?_ ?_
    · simp -implicitDefEqProofs only [go_sem, wrs, wru, Int.toNat_natCast, Nat.zero_add, Bool.not_false, Bool.not_true, Bool.or_true, Bool.false_or, List.contains_nil, Bool.or_false, Nat.reduceAdd, Nat.reduceMul, Nat.reduceSub, Nat.reduceBEq, Nat.reduceEqDiff, Nat.reduceLT, Nat.reduceLeDiff, Int.reduceToNat, Int.reduceLT, Int.reduceLE, Int.reduceAdd, Int.reduceSub, Int.reduceMul, Int.reduceNeg, Int.reduceEq, Int.reduceBEq, Int.reduceMod, Int.reduceGT, Int.reduceGE, Int.reduceBNe, Nat.reduceBNe, Int.natCast_nonneg, Option.some.injEq, PV.val.injEq, Value.int.injEq, PV.agg.injEq, List.cons.injEq, ob_eq, Ob.var.injEq, Ob.row.injEq, not_true_eq_false, not_false_eq_true]
    · simp -implicitDefEqProofs only [go_sem, wrs, wru, Int.toNat_natCast, Nat.zero_add, Bool.not_false, Bool.not_true, Bool.or_true, Bool.false_or, List.contains_nil, Bool.or_false, Nat.reduceAdd, Nat.reduceMul, Nat.reduceSub, Nat.reduceBEq, Nat.reduceEqDiff, Nat.reduceLT, Nat.reduceLeDiff, Int.reduceToNat, Int.reduceLT, Int.reduceLE, Int.reduceAdd, Int.reduceSub, Int.reduceMul, Int.reduceNeg, Int.reduceEq, Int.reduceBEq, Int.reduceMod, Int.reduceGT, Int.reduceGE, Int.reduceBNe, Nat.reduceBNe, Int.natCast_nonneg, Option.some.injEq, PV.val.injEq, Value.int.injEq, PV.agg.injEq, List.cons.injEq, ob_eq, Ob.var.injEq, Ob.row.injEq, not_true_eq_false, not_false_eq_true]
  simp only [decide_eq_false_iff_not] at h
  obtain rfl : j = L := by omega
  clear hG
  simp -implicitDefEqProofs only [go_sem, wrs, wru, Int.toNat_natCast, Nat.zero_add, Bool.not_false, Bool.not_true, Bool.or_true, Bool.false_or, List.contains_nil, Bool.or_false, Nat.reduceAdd, Nat.reduceMul, Nat.reduceSub, Nat.reduceBEq, Nat.reduceEqDiff, Nat.reduceLT, Nat.reduceLeDiff, Int.reduceToNat, Int.reduceLT, Int.reduceLE, Int.reduceAdd, Int.reduceSub, Int.reduceMul, Int.reduceNeg, Int.reduceEq, Int.reduceBEq, Int.reduceMod, Int.reduceGT, Int.reduceGE, Int.reduceBNe, Nat.reduceBNe, Int.natCast_nonneg]
  refine k_fr_Of (lit_rng rfl) ?_
  simp -implicitDefEqProofs only [go_sem, wrs, wru, Int.toNat_natCast, Nat.zero_add, Bool.not_false, Bool.not_true, Bool.or_true, Bool.false_or, List.contains_nil, Bool.or_false, Nat.reduceAdd, Nat.reduceMul, Nat.reduceSub, Nat.reduceBEq, Nat.reduceEqDiff, Nat.reduceLT, Nat.reduceLeDiff, Int.reduceToNat, Int.reduceLT, Int.reduceLE, Int.reduceAdd, Int.reduceSub, Int.reduceMul, Int.reduceNeg, Int.reduceEq, Int.reduceBEq, Int.reduceMod, Int.reduceGT, Int.reduceGE, Int.reduceBNe, Nat.reduceBNe, Int.natCast_nonneg, of_one]
  refine k_fr_Sub ?_
  simp -implicitDefEqProofs only [go_sem, wrs, wru, Int.toNat_natCast, Nat.zero_add, Bool.not_false, Bool.not_true, Bool.or_true, Bool.false_or, List.contains_nil, Bool.or_false, Nat.reduceAdd, Nat.reduceMul, Nat.reduceSub, Nat.reduceBEq, Nat.reduceEqDiff, Nat.reduceLT, Nat.reduceLeDiff, Int.reduceToNat, Int.reduceLT, Int.reduceLE, Int.reduceAdd, Int.reduceSub, Int.reduceMul, Int.reduceNeg, Int.reduceEq, Int.reduceBEq, Int.reduceMod, Int.reduceGT, Int.reduceGE, Int.reduceBNe, Nat.reduceBNe, Int.natCast_nonneg]
  exact ret_plain rfl hK
theorem shl1u {i : Nat} (hi : i < 64) : binI .shl .u64 1 (i : Int) = .int .u64 ((2 ^ i : Nat) : Int) := by
  have h := bin_shl (a := 1) (k := i) hi
  rw [Nat.one_mul, Nat.mod_eq_of_lt (Nat.pow_lt_pow_right (by decide) hi)] at h
  exact h
theorem k_lag_L {L i : Nat} {x : F} (hL : L ≤ 9) (hi : i < 2 ^ L) {K : PV → List Ob → Prop} (hK : K (.tup [ff (lagL L i x), i64 0]) []) : PSpec prog 32 [i64 L, i64 i, ff x] [] K := by
  refine sp_lagrange_L ?_
  simp only [pc_lagrange_L]
  have wl : IntKind.u64.wrap (L : Int) = (L : Int) := wru (by omega) (by omega)
  have hp : 2 ^ L ≤ 2 ^ 9 := Nat.pow_le_pow_right (by decide) hL
  have wi : IntKind.u64.wrap (i : Int) = (i : Int) := wru (by omega) (by omega)
  have h1 : ¬ ((i : Int) < 0) := by omega
  have h2 : ¬ ((i : Int) ≥ ((2 ^ L : Nat) : Int)) := by omega
  have hz0 := p2_nz (L := L) (by omega)
  rw [lagL] at hK
  simp -implicitDefEqProofs only [go_sem, wrs, wru, Int.toNat_natCast, Nat.zero_add, Bool.not_false, Bool.not_true, Bool.or_true, Bool.false_or, List.contains_nil, Bool.or_false, Nat.reduceAdd, Nat.reduceMul, Nat.reduceSub, Nat.reduceBEq, Nat.reduceEqDiff, Nat.reduceLT, Nat.reduceLeDiff, Int.reduceToNat, Int.reduceLT, Int.reduceLE, Int.reduceAdd, Int.reduceSub, Int.reduceMul, Int.reduceNeg, Int.reduceEq, Int.reduceBEq, Int.reduceMod, Int.reduceGT, Int.reduceGE, Int.reduceBNe, Nat.reduceBNe, Int.natCast_nonneg]
  refine k_lag_Z hL ?_
  simp -implicitDefEqProofs only [go_sem, wrs, wru, Int.toNat_natCast, Nat.zero_add, Bool.not_false, Bool.not_true, Bool.or_true, Bool.false_or, List.contains_nil, Bool.or_false, Nat.reduceAdd, Nat.reduceMul, Nat.reduceSub, Nat.reduceBEq, Nat.reduceEqDiff, Nat.reduceLT, Nat.reduceLeDiff, Int.reduceToNat, Int.reduceLT, Int.reduceLE, Int.reduceAdd, Int.reduceSub, Int.reduceMul, Int.reduceNeg, Int.reduceEq, Int.reduceBEq, Int.reduceMod, Int.reduceGT, Int.reduceGE, Int.reduceBNe, Nat.reduceBNe, Int.natCast_nonneg, h1, h2, wl, decide_true, decide_false, ↓shl1 (show L < 63 by omega), ↓shl1u (show L < 64 by omega)]
  refine k_fr_Root (by omega) ?_
  generalize rt L = w at *
  simp -implicitDefEqProofs only [go_sem, wrs, wru, Int.toNat_natCast, Nat.zero_add, Bool.not_false, Bool.not_true, Bool.or_true, Bool.false_or, List.contains_nil, Bool.or_false, Nat.reduceAdd, Nat.reduceMul, Nat.reduceSub, Nat.reduceBEq, Nat.reduceEqDiff, Nat.reduceLT, Nat.reduceLeDiff, Int.reduceToNat, Int.reduceLT, Int.reduceLE, Int.reduceAdd, Int.reduceSub, Int.reduceMul, Int.reduceNeg, Int.reduceEq, Int.reduceBEq, Int.reduceMod, Int.reduceGT, Int.reduceGE, Int.reduceBNe, Nat.reduceBNe, Int.natCast_nonneg, wi]
  repeat (with_reducible refine And.intro (by first | omega | decide) ?_)
  refine k_fr_Pow (e := [i]) (Nat.le_add_left 1 3) (by simp; omega) ?_
  rw [show nv [i] = i by simp only [nv]; omega]
  obtain ⟨W, hW⟩ : ∃ W, w ^ i = W := ⟨_, rfl⟩
  rw [hW] at hK
  rw [hW]
  simp -implicitDefEqProofs only [go_sem, wrs, wru, Int.toNat_natCast, Nat.zero_add, Bool.not_false, Bool.not_true, Bool.or_true, Bool.false_or, List.contains_nil, Bool.or_false, Nat.reduceAdd, Nat.reduceMul, Nat.reduceSub, Nat.reduceBEq, Nat.reduceEqDiff, Nat.reduceLT, Nat.reduceLeDiff, Int.reduceToNat, Int.reduceLT, Int.reduceLE, Int.reduceAdd, Int.reduceSub, Int.reduceMul, Int.reduceNeg, Int.reduceEq, Int.reduceBEq, Int.reduceMod, Int.reduceGT, Int.reduceGE, Int.reduceBNe, Nat.reduceBNe, Int.natCast_nonneg, h1, h2, wl, wi, ↓shl1 (show L < 63 by omega), ↓shl1u (show L < 64 by omega)]
  refine k_fr_Of ⟨by omega, by omega⟩ ?_
  simp -implicitDefEqProofs only [go_sem, wrs, wru, Int.toNat_natCast, Nat.zero_add, Bool.not_false, Bool.not_true, Bool.or_true, Bool.false_or, List.contains_nil, Bool.or_false, Nat.reduceAdd, Nat.reduceMul, Nat.reduceSub, Nat.reduceBEq, Nat.reduceEqDiff, Nat.reduceLT, Nat.reduceLeDiff, Int.reduceToNat, Int.reduceLT, Int.reduceLE, Int.reduceAdd, Int.reduceSub, Int.reduceMul, Int.reduceNeg, Int.reduceEq, Int.reduceBEq, Int.reduceMod, Int.reduceGT, Int.reduceGE, Int.reduceBNe, Nat.reduceBNe, Int.natCast_nonneg]
  refine k_fr_Sub ?_
  simp -implicitDefEqProofs only [go_sem, wrs, wru, Int.toNat_natCast, Nat.zero_add, Bool.not_false, Bool.not_true, Bool.or_true, Bool.false_or, List.contains_nil, Bool.or_false, Nat.reduceAdd, Nat.reduceMul, Nat.reduceSub, Nat.reduceBEq, Nat.reduceEqDiff, Nat.reduceLT, Nat.reduceLeDiff, Int.reduceToNat, Int.reduceLT, Int.reduceLE, Int.reduceAdd, Int.reduceSub, Int.reduceMul, Int.reduceNeg, Int.reduceEq, Int.reduceBEq, Int.reduceMod, Int.reduceGT, Int.reduceGE, Int.reduceBNe, Nat.reduceBNe, Int.natCast_nonneg]
  refine k_fr_Mul ?_
  simp -implicitDefEqProofs only [go_sem, wrs, wru, Int.toNat_natCast, Nat.zero_add, Bool.not_false, Bool.not_true, Bool.or_true, Bool.false_or, List.contains_nil, Bool.or_false, Nat.reduceAdd, Nat.reduceMul, Nat.reduceSub, Nat.reduceBEq, Nat.reduceEqDiff, Nat.reduceLT, Nat.reduceLeDiff, Int.reduceToNat, Int.reduceLT, Int.reduceLE, Int.reduceAdd, Int.reduceSub, Int.reduceMul, Int.reduceNeg, Int.reduceEq, Int.reduceBEq, Int.reduceMod, Int.reduceGT, Int.reduceGE, Int.reduceBNe, Nat.reduceBNe, Int.natCast_nonneg]
  refine k_fr_Inv (fun h => ?_) fun h => ?_
  · have hx : x = W := by
      rcases no_zero h with h | h
      · exact absurd h hz0
      · grind
    rw [if_pos hx] at hK
    simp -implicitDefEqProofs only [go_sem, wrs, wru, Int.toNat_natCast, Nat.zero_add, Bool.not_false, Bool.not_true, Bool.or_true, Bool.false_or, List.contains_nil, Bool.or_false, Nat.reduceAdd, Nat.reduceMul, Nat.reduceSub, Nat.reduceBEq, Nat.reduceEqDiff, Nat.reduceLT, Nat.reduceLeDiff, Int.reduceToNat, Int.reduceLT, Int.reduceLE, Int.reduceAdd, Int.reduceSub, Int.reduceMul, Int.reduceNeg, Int.reduceEq, Int.reduceBEq, Int.reduceMod, Int.reduceGT, Int.reduceGE, Int.reduceBNe, Nat.reduceBNe, Int.natCast_nonneg]
    refine k_fr_Of (lit_rng rfl) ?_
    simp -implicitDefEqProofs only [go_sem, wrs, wru, Int.toNat_natCast, Nat.zero_add, Bool.not_false, Bool.not_true, Bool.or_true, Bool.false_or, List.contains_nil, Bool.or_false, Nat.reduceAdd, Nat.reduceMul, Nat.reduceSub, Nat.reduceBEq, Nat.reduceEqDiff, Nat.reduceLT, Nat.reduceLeDiff, Int.reduceToNat, Int.reduceLT, Int.reduceLE, Int.reduceAdd, Int.reduceSub, Int.reduceMul, Int.reduceNeg, Int.reduceEq, Int.reduceBEq, Int.reduceMod, Int.reduceGT, Int.reduceGE, Int.reduceBNe, Nat.reduceBNe, Int.natCast_nonneg, of_one]
    exact ret_plain rfl hK
  · have hx : x ≠ W := fun e => h (by rw [e, show W - W = 0 by grind]; exact f_mul0 _)
    rw [if_neg hx] at hK
    simp -implicitDefEqProofs only [go_sem, wrs, wru, Int.toNat_natCast, Nat.zero_add, Bool.not_false, Bool.not_true, Bool.or_true, Bool.false_or, List.contains_nil, Bool.or_false, Nat.reduceAdd, Nat.reduceMul, Nat.reduceSub, Nat.reduceBEq, Nat.reduceEqDiff, Nat.reduceLT, Nat.reduceLeDiff, Int.reduceToNat, Int.reduceLT, Int.reduceLE, Int.reduceAdd, Int.reduceSub, Int.reduceMul, Int.reduceNeg, Int.reduceEq, Int.reduceBEq, Int.reduceMod, Int.reduceGT, Int.reduceGE, Int.reduceBNe, Nat.reduceBNe, Int.natCast_nonneg]
    refine k_fr_Mul ?_
    simp -implicitDefEqProofs only [go_sem, wrs, wru, Int.toNat_natCast, Nat.zero_add, Bool.not_false, Bool.not_true, Bool.or_true, Bool.false_or, List.contains_nil, Bool.or_false, Nat.reduceAdd, Nat.reduceMul, Nat.reduceSub, Nat.reduceBEq, Nat.reduceEqDiff, Nat.reduceLT, Nat.reduceLeDiff, Int.reduceToNat, Int.reduceLT, Int.reduceLE, Int.reduceAdd, Int.reduceSub, Int.reduceMul, Int.reduceNeg, Int.reduceEq, Int.reduceBEq, Int.reduceMod, Int.reduceGT, Int.reduceGE, Int.reduceBNe, Nat.reduceBNe, Int.natCast_nonneg]
    refine k_fr_Mul ?_
    simp -implicitDefEqProofs only [go_sem, wrs, wru, Int.toNat_natCast, Nat.zero_add, Bool.not_false, Bool.not_true, Bool.or_true, Bool.false_or, List.contains_nil, Bool.or_false, Nat.reduceAdd, Nat.reduceMul, Nat.reduceSub, Nat.reduceBEq, Nat.reduceEqDiff, Nat.reduceLT, Nat.reduceLeDiff, Int.reduceToNat, Int.reduceLT, Int.reduceLE, Int.reduceAdd, Int.reduceSub, Int.reduceMul, Int.reduceNeg, Int.reduceEq, Int.reduceBEq, Int.reduceMod, Int.reduceGT, Int.reduceGE, Int.reduceBNe, Nat.reduceBNe, Int.natCast_nonneg]
    exact ret_plain rfl hK
theorem lbeg : bak (inv (rt 1)) [of 3, 1] = [of 2, 1] := by
  have h1 : rt 1 = 0 - 1 := by
    have := rt_half (L := 1) (by decide) (by decide)
    rwa [show 2 ^ (1 - 1) = 1 by decide, pw_one] at this
  have h2 : gol (rt 1) [of 2, 1] = [of 3, 1] := by
    rw [h1, gol, PL.tab]
    simp only [List.length_cons, List.length_nil, Nat.zero_add, Nat.reduceAdd, show List.range 2 = [0, 1] from rfl, List.map_cons, List.map_nil, pw_zero, pw_one]
    decide +kernel
  rw [← h2, bak_gol (by decide) rfl]
theorem k_law16_begun {K : PV → List Ob → Prop} (hK : K (bo true) []) : PSpec prog 29 [] [] K := by
  refine sp_intagliolaw16_begun ?_
  simp only [pc_intagliolaw16_begun]
  have hb : bkR [of 3, 1] = ([of 2, 1], 0) := by rw [bkR_some (l := [of 3, 1]) (L := 1) (show lg 2 = some 1 from lg_pow (L := 1) (by decide)), lbeg]
  have hc : cut [of 2, (1 : F)] = [of 2, 1] := cut_of_last (n := 1) rfl one_ne_zero
  have hL : lagL 1 0 1 = 1 := by rw [lagL, if_pos (pw_zero _).symm]
  simp -implicitDefEqProofs only [go_sem, wrs, wru, Int.toNat_natCast, Nat.zero_add, Bool.not_false, Bool.not_true, Bool.or_true, Bool.false_or, List.contains_nil, Bool.or_false, Nat.reduceAdd, Nat.reduceMul, Nat.reduceSub, Nat.reduceBEq, Nat.reduceEqDiff, Nat.reduceLT, Nat.reduceLeDiff, Int.reduceToNat, Int.reduceLT, Int.reduceLE, Int.reduceAdd, Int.reduceSub, Int.reduceMul, Int.reduceNeg, Int.reduceEq, Int.reduceBEq, Int.reduceMod, Int.reduceGT, Int.reduceGE, Int.reduceBNe, Nat.reduceBNe, Int.natCast_nonneg, one_ff, lit 3 (by omega), lit 2 (by omega)]
  repeat (with_reducible refine And.intro (by first | omega | decide) ?_)
  refine k_lag_Of (l := [of 3, 1]) (by simp) ?_
  rw [hb, hc]
  simp -implicitDefEqProofs only [go_sem, wrs, wru, Int.toNat_natCast, Nat.zero_add, Bool.not_false, Bool.not_true, Bool.or_true, Bool.false_or, List.contains_nil, Bool.or_false, Nat.reduceAdd, Nat.reduceMul, Nat.reduceSub, Nat.reduceBEq, Nat.reduceEqDiff, Nat.reduceLT, Nat.reduceLeDiff, Int.reduceToNat, Int.reduceLT, Int.reduceLE, Int.reduceAdd, Int.reduceSub, Int.reduceMul, Int.reduceNeg, Int.reduceEq, Int.reduceBEq, Int.reduceMod, Int.reduceGT, Int.reduceGE, Int.reduceBNe, Nat.reduceBNe, Int.natCast_nonneg, one_ff, lit 3 (by omega), lit 2 (by omega)]
  refine k_lag_L (L := 1) (i := 0) (by decide) (by decide) ?_
  rw [hL]
  simp -implicitDefEqProofs only [go_sem, wrs, wru, Int.toNat_natCast, Nat.zero_add, Bool.not_false, Bool.not_true, Bool.or_true, Bool.false_or, List.contains_nil, Bool.or_false, Nat.reduceAdd, Nat.reduceMul, Nat.reduceSub, Nat.reduceBEq, Nat.reduceEqDiff, Nat.reduceLT, Nat.reduceLeDiff, Int.reduceToNat, Int.reduceLT, Int.reduceLE, Int.reduceAdd, Int.reduceSub, Int.reduceMul, Int.reduceNeg, Int.reduceEq, Int.reduceBEq, Int.reduceMod, Int.reduceGT, Int.reduceGE, Int.reduceBNe, Nat.reduceBNe, Int.natCast_nonneg, one_ff, lit 3 (by omega), lit 2 (by omega), ffs_cons, ffs_nil, beqU rfl]
  exact ret_plain rfl hK
end Go.Proofs.Tryd.PMT
