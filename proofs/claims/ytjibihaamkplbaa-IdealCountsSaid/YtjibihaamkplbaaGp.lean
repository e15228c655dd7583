/- A polynomial has no more roots than its degree. No conditions. -/
import Derived.Test.YtjibihaamkplbaaGm
import Derived.Test.YtjibihaamkplbaaGl
import Derived.Test.YtjibihaamkplbaaGf
import Derived.Test.YtjibihaamkplbaaGn
import Derived.Test.YtjibihaamkplbaaGj
set_option linter.all false
namespace Go.Proofs.PL

theorem hor_cut0 (z : F) (a : List F) : hor z (cut a) = hor z a := hor_ext z _ _ (cut_get a)
theorem hor_one (x c : F) : hor x [c] = c := by simp only [hor]; grind
theorem hor_two (x a b : F) : hor x [a, b] = a + b * x := by simp only [hor]; grind
theorem lin_rel (l : List F) (x z : F) : hor x l = hor x (lin l z).2 * (x - z) + hor z l := by
  have h := congrArg (hor x) (lin_back l z)
  rw [hor_cut0 x l, add_hor, pm_hor, hor_cut0, hor_one, hor_two] at h
  rw [← h]
  grind
theorem lin_len (l : List F) (z : F) : (lin l z).2.length = l.length - 1 := linS_len l z l.length
/-- So many unlike roots as coefficients: it is nought. -/
theorem roots_all : ∀ (n : Nat) (l : List F), l.length ≤ n → ∀ zs : List F, zs.Nodup → (∀ z, z ∈ zs → hor z l = 0) → n ≤ zs.length → ∀ i, l.getD i 0 = 0
  | 0, l, h, _, _, _, _, i => getD_ge (by omega)
  | n + 1, l, h, zs, hd, hz, hn, i => by
    match zs, hd, hz, hn with
    | [], _, _, hn => simp at hn
    | r :: rs, hd, hz, hn =>
      have hr := hz r (by simp)
      have hd' := List.nodup_cons.1 hd
      have hq := roots_all n (lin l r).2 (by rw [lin_len]; omega) rs hd'.2 (fun x hx => by
        have h1 := lin_rel l x r
        rw [hz x (by simp [hx]), hr] at h1
        rcases no_zero (show hor x (lin l r).2 * (x - r) = 0 by rw [h1]; grind) with h2 | h2
        · exact h2
        · exact absurd (show x = r by grind) fun e => hd'.1 (e ▸ hx)) (by simpa using hn)
      have h0 : ∀ j, hor r (l.drop j) = 0 := fun j => by
        rcases j with _ | j
        · exact hr
        · rw [← lin_get]; exact hq j
      by_cases hi : i < l.length
      · have h1 := hor_drop r l i hi
        rw [h0, h0] at h1
        rw [show l.getD i 0 = l.getD i 0 + 0 * r by grind, ← h1]
      · exact getD_ge (by omega)
theorem roots_le (l zs : List F) (hd : zs.Nodup) {i : Nat} (hi : l.getD i 0 ≠ 0) : (zs.filter fun z => decide (hor z l = 0)).length ≤ l.length - 1 := by
  have hl : i < l.length := by
    apply Decidable.byContradiction
    intro h
    exact hi (getD_ge (by omega))
  apply Decidable.byContradiction
  intro h
  refine hi (roots_all l.length l (Nat.le_refl _) (zs.filter fun z => decide (hor z l = 0)) (hd.sublist List.filter_sublist) (fun z hz => ?_) (by omega) i)
  simpa using (List.mem_filter.1 hz).2
end Go.Proofs.PL

namespace Go.Proofs.PL

theorem hor_append (z : F) (l m : List F) : hor z (l ++ m) = hor z l + hor z m * z ^ l.length := by
  induction l with
  | nil => simp only [List.nil_append, hor, List.length_nil]; rw [pw_zero, f_0add]; grind
  | cons a l ih =>
    rw [List.cons_append, hor, hor, ih, List.length_cons, pw_succ]
    generalize z ^ l.length = p
    generalize hor z l = x
    generalize hor z m = y
    grind
theorem getD_app_l {l m : List F} {i : Nat} (h : i < l.length) : (l ++ m).getD i 0 = l.getD i 0 := by simp only [List.getD_eq_getElem?_getD, List.getElem?_append_left h]
theorem getD_app_r {l m : List F} {i : Nat} (h : l.length ≤ i) : (l ++ m).getD i 0 = m.getD (i - l.length) 0 := by simp only [List.getD_eq_getElem?_getD, List.getElem?_append_right h]
theorem gol_get (w : F) (a : List F) (k : Nat) : (gol w a).getD k 0 = if k < a.length then hor (w ^ k) a else 0 := tab_get ..
/-- Moved round by one. -/
def rot (x : List F) : List F := [x.getD (x.length - 1) 0] ++ x.take (x.length - 1)
theorem rot_len {x : List F} (h : 0 < x.length) : (rot x).length = x.length := by
  rw [rot, List.length_append, List.length_take, List.length_singleton]; omega
theorem rot_hor {x : List F} {z : F} (h : 0 < x.length) (hz : z ^ x.length = 1) : hor z (rot x) = hor z x * z := by
  have e : x = x.take (x.length - 1) ++ [x.getD (x.length - 1) 0] := by
    refine list_ext (by rw [List.length_append, List.length_take, List.length_singleton]; omega) fun i => ?_
    by_cases hi : i < x.length - 1
    · rw [getD_app_l (by rw [List.length_take]; omega), getD_take hi]
    · rw [getD_app_r (by rw [List.length_take]; omega), List.length_take, Nat.min_eq_left (by omega)]
      by_cases hi2 : i = x.length - 1
      · subst hi2; rw [Nat.sub_self]; rfl
      · rw [getD_ge (by omega), getD_ge (by rw [List.length_singleton]; omega)]
  have h2 : hor z x = hor z (x.take (x.length - 1)) + x.getD (x.length - 1) 0 * z ^ (x.length - 1) := by
    conv => lhs; rw [e]
    rw [hor_append, hor_one, List.length_take, Nat.min_eq_left (by omega)]
  have h3 : z ^ (x.length - 1) * z = 1 := by rw [← pw_succ, Nat.sub_add_cancel h]; exact hz
  rw [h2, rot, List.singleton_append, hor]
  generalize z ^ (x.length - 1) = p at *
  generalize x.getD (x.length - 1) 0 = c at *
  generalize hor z (x.take (x.length - 1)) = y at *
  rw [show (y + c * p) * z = y * z + c * (p * z) by grind, h3]; grind
theorem rt_pw_n {L : Nat} (h : L ≤ 32) (i : Nat) : (rt L ^ i) ^ 2 ^ L = 1 := by rw [← pw_mul, Nat.mul_comm, pw_mul, rt_full h, one_pow]
theorem moves {L : Nat} {x : List F} (h : L ≤ 32) (hx : x.length = 2 ^ L) {i : Nat} (hi : i < x.length) : (gol (rt L) (rot x)).getD i 0 = (gol (rt L) x).getD i 0 * rt L ^ i := by
  rw [gol, gol, tab_get, tab_get, rot_len (by omega), if_pos hi, if_pos hi, rot_hor (by omega) (by rw [hx]; exact rt_pw_n h i)]

theorem sums {L : Nat} {x y : List F} (h : L ≤ 32) (hx : x.length = 2 ^ L) (hy : y.length = 2 ^ L) :
    bak (inv (rt L)) (tab (2 ^ L) fun i => (gol (rt L) x).getD i 0 + (gol (rt L) y).getD i 0) = bth (fun a b => a + b) x y := by
  rw [← bak_gol h (a := bth (fun a b => a + b) x y) (by rw [bth_len, hx, hy]; exact Nat.max_self _)]
  congr 1
  refine list_ext (by rw [tab_len, gol_len, bth_len, hx, hy, Nat.max_self]) fun i => ?_
  rw [tab_get, gol_get (rt L) (bth _ _ _), bth_len, gol_get, gol_get, hx, hy, Nat.max_self]
  by_cases hi : i < 2 ^ L
  · rw [if_pos hi, if_pos hi, if_pos hi, if_pos hi, ← add_hor, hor_cut0]
  · rw [if_neg hi, if_neg hi]
theorem cosets {L : Nat} {a : List F} {z : F} (h : L ≤ 32) (ha : a.length = 2 ^ L) (hz : z ≠ 0) : gol (rt L) (scl z (scl (inv z) (bak (inv (rt L)) a))) = a := by
  rw [scl_scl (show inv z * z = 1 by rw [← inv_top hz]; grind), gol_bak h ha]
end Go.Proofs.PL

namespace Go.Proofs.PL

end Go.Proofs.PL

namespace Go.Proofs.Try.PMT
open Go Go.Proofs.PM Go.Proofs.Try
def pc_intaglioref12_Z : Pc := (.seq (.rgn [⟨(some 3), none, .box (.arr 4 .one) (.tmp 1)⟩, ⟨(some 4), none, .alloc (.arr 4 .one) (.agg [(.val (.int .u64 0)), (.val (.int .u64 0)), (.val (.int .u64 0)), (.val (.int .u64 0))])⟩]) (.seq (.seq (.rgn [⟨(some 5), none, .mv (.cst (.val (.int .i64 0)))⟩]) (.block 0 (.loop (.seq (.seq (.rgn [⟨(some 6), none, .mv (.tmp 5)⟩, ⟨(some 7), none, .mv (.tmp 0)⟩, ⟨(some 8), none, .bin .lss (.tmp 6) (.tmp 7)⟩]) (.cond (.tmp 8) .skip (.exit 0))) (.seq (.block 1 (.rgn [⟨(some 11), none, .load (.arr 4 .one) (.tmp 3)⟩, ⟨(some 12), none, .load (.arr 4 .one) (.tmp 3)⟩, ⟨(some 13), none, .call 11 false [((.tmp 11), none), ((.tmp 12), none)]⟩, ⟨none, none, .store (.arr 4 .one) (.tmp 3) (.tmp 13)⟩])) (.rgn [⟨(some 9), none, .mv (.tmp 5)⟩, ⟨(some 10), none, .bin .add (.tmp 9) (.cst (.val (.int .i64 1)))⟩, ⟨(some 5), none, .mv (.tmp 10)⟩])))))) (.seq (.drgn 4 [⟨0, .no, ⟨(some 14), none, .load (.arr 4 .one) (.tmp 3)⟩⟩, ⟨1, (.av false [3]), ⟨(some 15), none, .call 35 false [((.cst (.val (.int .u64 1))), none)]⟩⟩, ⟨2, .no, ⟨(some 16), none, .call 34 false [((.tmp 14), none), ((.tmp 15), none)]⟩⟩, ⟨3, .no, ⟨none, none, .store (.arr 4 .one) (.tmp 4) (.tmp 16)⟩⟩]) .ret)))
theorem pc_intaglioref12_Z_ok : f10.body.bind (compile TT 90) = some pc_intaglioref12_Z := by kernel_rfl
theorem sp_intaglioref12_Z {args : List PV} {own : List Ob} {K : PV → List Ob → Prop} (h : pwp prog pc_intaglioref12_Z (retQ [.cell 4 (.arr 4 .one)] own K) (stIn 17 args own)) : PSpec prog 10 args own K := spec func10 pc_intaglioref12_Z_ok (by kernel_rfl) (by kernel_rfl) h
def pc_intaglioref12_Through : Pc := (.seq (.rgn [⟨(some 4), none, .nil 28 (.arr 4 .one)⟩, ⟨(some 5), none, .mv (.cst (.val (.int .i64 0)))⟩]) (.seq (.seq (.rgn [⟨(some 12), none, .mv (.tmp 0)⟩, ⟨(some 13), none, .len (.tmp 12)⟩, ⟨(some 14), none, .mv (.tmp 1)⟩, ⟨(some 15), none, .len (.tmp 14)⟩, ⟨(some 16), none, .bin .neq (.tmp 13) (.tmp 15)⟩, ⟨(some 17), none, .mv (.tmp 16)⟩, ⟨(some 18), (some (17, false)), .mv (.tmp 0)⟩, ⟨(some 19), (some (17, false)), .len (.tmp 18)⟩, ⟨(some 20), (some (17, false)), .bin .gtr (.tmp 19) (.cst (.val (.int .i64 40)))⟩, ⟨(some 21), none, .pick (.tmp 17) (.cst (.val (.bool true))) (.tmp 20)⟩]) (.cond (.tmp 21) (.seq (.rgn [⟨(some 4), none, .nil 28 (.arr 4 .one)⟩, ⟨(some 5), none, .mv (.cst (.val (.int .i64 1)))⟩]) .ret) .skip)) (.seq (.rgn [⟨(some 6), none, .nil 28 (.arr 4 .one)⟩]) (.seq (.seq (.rgn [⟨(some 7), none, .mv (.cst (.val (.int .i64 0)))⟩]) (.block 0 (.loop (.seq (.seq (.rgn [⟨(some 22), none, .mv (.tmp 7)⟩, ⟨(some 23), none, .mv (.tmp 0)⟩, ⟨(some 24), none, .len (.tmp 23)⟩, ⟨(some 25), none, .bin .lss (.tmp 22) (.tmp 24)⟩]) (.cond (.tmp 25) .skip (.exit 0))) (.seq (.block 1 (.seq (.rgn [⟨(some 28), none, .mv (.tmp 1)⟩, ⟨(some 29), none, .mv (.tmp 7)⟩, ⟨(some 30), none, .iaddrs (.arr 4 .one) (.tmp 28) (.tmp 29)⟩, ⟨(some 31), none, .load (.arr 4 .one) (.tmp 30)⟩, ⟨(some 32), none, .bsl 28 (.arr 4 .one) (.agg [(.val (.int .u64 0)), (.val (.int .u64 0)), (.val (.int .u64 0)), (.val (.int .u64 0))]) 1 [(0, (.tmp 31))]⟩, ⟨(some 8), none, .mv (.tmp 32)⟩]) (.seq (.seq (.rgn [⟨(some 9), none, .mv (.cst (.val (.int .i64 0)))⟩]) (.block 2 (.loop (.seq (.seq (.rgn [⟨(some 33), none, .mv (.tmp 9)⟩, ⟨(some 34), none, .mv (.tmp 0)⟩, ⟨(some 35), none, .len (.tmp 34)⟩, ⟨(some 36), none, .bin .lss (.tmp 33) (.tmp 35)⟩]) (.cond (.tmp 36) .skip (.exit 2))) (.seq (.block 3 (.seq (.seq (.rgn [⟨(some 39), none, .mv (.tmp 9)⟩, ⟨(some 40), none, .mv (.tmp 7)⟩, ⟨(some 41), none, .bin .eql (.tmp 39) (.tmp 40)⟩]) (.cond (.tmp 41) (.exit 3) .skip)) (.seq (.drgn 16 [⟨0, .no, ⟨(some 43), none, .mv (.tmp 0)⟩⟩, ⟨1, .no, ⟨(some 44), none, .mv (.tmp 7)⟩⟩, ⟨2, .no, ⟨(some 45), none, .iaddrs (.arr 4 .one) (.tmp 43) (.tmp 44)⟩⟩, ⟨3, .no, ⟨(some 46), none, .load (.arr 4 .one) (.tmp 45)⟩⟩, ⟨4, .no, ⟨(some 47), none, .mv (.tmp 0)⟩⟩, ⟨5, .no, ⟨(some 48), none, .mv (.tmp 9)⟩⟩, ⟨6, .no, ⟨(some 49), none, .iaddrs (.arr 4 .one) (.tmp 47) (.tmp 48)⟩⟩, ⟨7, .no, ⟨(some 50), none, .load (.arr 4 .one) (.tmp 49)⟩⟩, ⟨13, .no, ⟨(some 10), none, .alloc (.arr 4 .one) (.agg [(.val (.int .u64 0)), (.val (.int .u64 0)), (.val (.int .u64 0)), (.val (.int .u64 0))])⟩⟩, ⟨8, (.av false []), ⟨(some 51), none, .call 34 false [((.tmp 46), none), ((.tmp 50), none)]⟩⟩, ⟨9, (.av false []), ⟨(some 52), none, .call 9 false [((.tmp 51), none)]⟩⟩, ⟨10, .no, ⟨(some 42), none, .mv (.tmp 52)⟩⟩, ⟨11, .no, ⟨(some 53), none, .ext (.tmp 42) 0⟩⟩, ⟨12, .no, ⟨(some 54), none, .ext (.tmp 42) 1⟩⟩, ⟨14, .no, ⟨none, none, .store (.arr 4 .one) (.tmp 10) (.tmp 53)⟩⟩, ⟨15, .no, ⟨(some 11), none, .mv (.tmp 54)⟩⟩]) (.seq (.seq (.rgn [⟨(some 55), none, .mv (.tmp 11)⟩, ⟨(some 56), none, .bin .neq (.tmp 55) (.cst (.val (.int .i64 0)))⟩]) (.cond (.tmp 56) (.seq (.rgn [⟨(some 4), none, .nil 28 (.arr 4 .one)⟩, ⟨(some 5), none, .mv (.cst (.val (.int .i64 1)))⟩]) .ret) .skip)) (.drgn 12 [⟨0, .no, ⟨(some 57), none, .mv (.tmp 8)⟩⟩, ⟨1, .no, ⟨(some 58), none, .mv (.tmp 0)⟩⟩, ⟨2, .no, ⟨(some 59), none, .mv (.tmp 9)⟩⟩, ⟨3, .no, ⟨(some 60), none, .iaddrs (.arr 4 .one) (.tmp 58) (.tmp 59)⟩⟩, ⟨4, .no, ⟨(some 61), none, .load (.arr 4 .one) (.tmp 60)⟩⟩, ⟨9, .no, ⟨(some 66), none, .load (.arr 4 .one) (.tmp 10)⟩⟩, ⟨5, (.av false [10]), ⟨(some 62), none, .call 41 false [((.tmp 61), none)]⟩⟩, ⟨6, (.av false [10]), ⟨(some 63), none, .call 35 false [((.cst (.val (.int .u64 1))), none)]⟩⟩, ⟨7, .no, ⟨(some 64), none, .bsl 28 (.arr 4 .one) (.agg [(.val (.int .u64 0)), (.val (.int .u64 0)), (.val (.int .u64 0)), (.val (.int .u64 0))]) 2 [(0, (.tmp 62)), (1, (.tmp 63))]⟩⟩, ⟨8, (.av false [10]), ⟨(some 65), none, .call 40 false [((.tmp 57), (some (.arr 4 .one))), ((.tmp 64), (some (.arr 4 .one)))]⟩⟩, ⟨10, .no, ⟨(some 67), none, .call 39 false [((.tmp 65), (some (.arr 4 .one))), ((.tmp 66), none)]⟩⟩, ⟨11, .no, ⟨(some 8), none, .mv (.tmp 67)⟩⟩]))))) (.rgn [⟨(some 37), none, .mv (.tmp 9)⟩, ⟨(some 38), none, .bin .add (.tmp 37) (.cst (.val (.int .i64 1)))⟩, ⟨(some 9), none, .mv (.tmp 38)⟩])))))) (.rgn [⟨(some 68), none, .mv (.tmp 6)⟩, ⟨(some 69), none, .mv (.tmp 8)⟩, ⟨(some 70), none, .call 42 false [((.tmp 68), (some (.arr 4 .one))), ((.tmp 69), (some (.arr 4 .one)))]⟩, ⟨(some 6), none, .mv (.tmp 70)⟩])))) (.rgn [⟨(some 26), none, .mv (.tmp 7)⟩, ⟨(some 27), none, .bin .add (.tmp 26) (.cst (.val (.int .i64 1)))⟩, ⟨(some 7), none, .mv (.tmp 27)⟩])))))) (.seq (.rgn [⟨(some 71), none, .mv (.tmp 6)⟩, ⟨(some 4), none, .mv (.tmp 71)⟩, ⟨(some 5), none, .mv (.cst (.val (.int .i64 0)))⟩]) .ret)))))
theorem pc_intaglioref12_Through_ok : f13.body.bind (compile TT 90) = some pc_intaglioref12_Through := by kernel_rfl
theorem sp_intaglioref12_Through {args : List PV} {own : List Ob} {K : PV → List Ob → Prop} (h : pwp prog pc_intaglioref12_Through (retQ [.tmp 4, .tmp 5] own K) (stIn 72 args own)) : PSpec prog 13 args own K := spec func13 pc_intaglioref12_Through_ok (by kernel_rfl) (by kernel_rfl) h
def pc_lagrange_Z : Pc := (.seq (.rgn [⟨(some 3), none, .box (.arr 4 .one) (.tmp 1)⟩, ⟨(some 4), none, .alloc (.arr 4 .one) (.agg [(.val (.int .u64 0)), (.val (.int .u64 0)), (.val (.int .u64 0)), (.val (.int .u64 0))])⟩, ⟨(some 5), none, .mv (.cst (.val (.int .i64 0)))⟩]) (.seq (.seq (.rgn [⟨(some 6), none, .mv (.tmp 0)⟩, ⟨(some 7), none, .bin .lss (.tmp 6) (.cst (.val (.int .i64 0)))⟩, ⟨(some 8), none, .mv (.tmp 7)⟩, ⟨(some 9), (some (8, false)), .mv (.tmp 0)⟩, ⟨(some 10), (some (8, false)), .bin .gtr (.tmp 9) (.cst (.val (.int .i64 9)))⟩, ⟨(some 11), none, .pick (.tmp 8) (.cst (.val (.bool true))) (.tmp 10)⟩]) (.cond (.tmp 11) (.seq (.rgn [⟨(some 12), none, .build (.arr 4 .one) (.agg [(.val (.int .u64 0)), (.val (.int .u64 0)), (.val (.int .u64 0)), (.val (.int .u64 0))]) []⟩, ⟨none, none, .store (.arr 4 .one) (.tmp 4) (.tmp 12)⟩, ⟨(some 5), none, .mv (.cst (.val (.int .i64 1)))⟩]) .ret) .skip)) (.seq (.seq (.rgn [⟨(some 13), none, .mv (.tmp 0)⟩, ⟨(some 14), none, .mv (.cst (.val (.int .i64 0)))⟩]) (.block 0 (.loop (.seq (.rgn [⟨(some 15), none, .bin .lss (.tmp 14) (.tmp 13)⟩]) (.seq (.cond (.tmp 15) .skip (.exit 0)) (.seq (.block 1 (.rgn [⟨(some 16), none, .load (.arr 4 .one) (.tmp 3)⟩, ⟨(some 17), none, .load (.arr 4 .one) (.tmp 3)⟩, ⟨(some 18), none, .call 48 false [((.tmp 16), none), ((.tmp 17), none)]⟩, ⟨none, none, .store (.arr 4 .one) (.tmp 3) (.tmp 18)⟩])) (.rgn [⟨(some 19), none, .bin .add (.tmp 14) (.cst (.val (.int .i64 1)))⟩, ⟨(some 14), none, .mv (.tmp 19)⟩]))))))) (.seq (.drgn 5 [⟨0, .no, ⟨(some 20), none, .load (.arr 4 .one) (.tmp 3)⟩⟩, ⟨1, (.av false [3]), ⟨(some 21), none, .call 54 false [((.cst (.val (.int .u64 1))), none)]⟩⟩, ⟨2, .no, ⟨(some 22), none, .call 56 false [((.tmp 20), none), ((.tmp 21), none)]⟩⟩, ⟨3, .no, ⟨none, none, .store (.arr 4 .one) (.tmp 4) (.tmp 22)⟩⟩, ⟨4, .no, ⟨(some 5), none, .mv (.cst (.val (.int .i64 0)))⟩⟩]) .ret))))
theorem pc_lagrange_Z_ok : f46.body.bind (compile TT 90) = some pc_lagrange_Z := by kernel_rfl
theorem sp_lagrange_Z {args : List PV} {own : List Ob} {K : PV → List Ob → Prop} (h : pwp prog pc_lagrange_Z (retQ [.cell 4 (.arr 4 .one), .tmp 5] own K) (stIn 23 args own)) : PSpec prog 46 args own K := spec func46 pc_lagrange_Z_ok (by kernel_rfl) (by kernel_rfl) h
end Go.Proofs.Try.PMT

namespace Go.Proofs.Try.PMT
open Go Go.Proofs.PM Go.Proofs.PL Go.Proofs.Try
set_option maxRecDepth 4000

theorem lit (n : Int) (h : 0 ≤ n ∧ n < 18446744073709551616) : PV.agg [u n, u 0, u 0, u 0] = ff (of n) := by
  rw [← fr_of (by omega)]
  have e1 : n % 18446744073709551616 = n := by omega
  have e2 : n / 18446744073709551616 % 18446744073709551616 = 0 := by omega
  have e3 : n / 340282366920938463463374607431768211456 % 18446744073709551616 = 0 := by omega
  have e4 : n / 6277101735386680763835789423207666416102355444464034512896 % 18446744073709551616 = 0 := by omega
  rw [fr, e1, e2, e3, e4]
theorem k_lag_Z {L : Nat} {x : F} (hL : L ≤ 9) {K : PV → List Ob → Prop} (hK : K (.tup [ff (x ^ 2 ^ L - 1), i64 0]) []) : PSpec prog 46 [i64 L, ff x] [] K := by
  refine sp_lagrange_Z ?_
  simp only [pc_lagrange_Z]
  have h1 : ¬ ((L : Int) < 0) := by omega
  have h2 : ¬ ((L : Int) > 9) := by omega
  simp -implicitDefEqProofs only [go_sem, wrs, wru, Int.toNat_natCast, Nat.zero_add, Bool.not_false, Bool.not_true, Bool.or_true, Bool.false_or, List.contains_nil, Bool.or_false, Nat.reduceAdd, Nat.reduceMul, Nat.reduceSub, Nat.reduceBEq, Nat.reduceEqDiff, Nat.reduceLT, Nat.reduceLeDiff, Int.reduceToNat, Int.reduceLT, Int.reduceLE, Int.reduceAdd, Int.reduceSub, Int.reduceMul, Int.reduceNeg, Int.reduceEq, Int.reduceBEq, Int.reduceMod, Int.reduceGT, Int.reduceGE, Int.reduceBNe, Nat.reduceBNe, Int.natCast_nonneg, h1, h2, decide_false]
  refine loop_fam (ι := { j : Nat // j ≤ L }) [14, 15, 16, 17, 18, 19] (fun j => [(14, i64 j.1)])
    (fun j => [(0, .ob (.var (.arr 4 .one) (ff (x ^ 2 ^ j.1)))), (1, .ob (.var (.arr 4 .one) (ff 0)))]) 2 (fun j => L - j.1) ⟨0, Nat.zero_le _⟩ ?_ ?_
  · rw [famS_eq]
    refine weak_plain [(0, 0), (1, 1)] rfl rfl rfl ?_ ?_
    · simp -implicitDefEqProofs only [go_sem, wrs, wru, Int.toNat_natCast, Nat.zero_add, Bool.not_false, Bool.not_true, Bool.or_true, Bool.false_or, List.contains_nil, Bool.or_false, Nat.reduceAdd, Nat.reduceMul, Nat.reduceSub, Nat.reduceBEq, Nat.reduceEqDiff, Nat.reduceLT, Nat.reduceLeDiff, Int.reduceToNat, Int.reduceLT, Int.reduceLE, Int.reduceAdd, Int.reduceSub, Int.reduceMul, Int.reduceNeg, Int.reduceEq, Int.reduceBEq, Int.reduceMod, Int.reduceGT, Int.reduceGE, Int.reduceBNe, Nat.reduceBNe, Int.natCast_nonneg, Option.some.injEq, PV.val.injEq, Value.int.injEq, PV.agg.injEq, List.cons.injEq, ob_eq, Ob.var.injEq, Ob.row.injEq, not_true_eq_false, not_false_eq_true, zero_ff, Nat.pow_zero, pw_one]
    · simp -implicitDefEqProofs only [go_sem, wrs, wru, Int.toNat_natCast, Nat.zero_add, Bool.not_false, Bool.not_true, Bool.or_true, Bool.false_or, List.contains_nil, Bool.or_false, Nat.reduceAdd, Nat.reduceMul, Nat.reduceSub, Nat.reduceBEq, Nat.reduceEqDiff, Nat.reduceLT, Nat.reduceLeDiff, Int.reduceToNat, Int.reduceLT, Int.reduceLE, Int.reduceAdd, Int.reduceSub, Int.reduceMul, Int.reduceNeg, Int.reduceEq, Int.reduceBEq, Int.reduceMod, Int.reduceGT, Int.reduceGE, Int.reduceBNe, Nat.reduceBNe, Int.natCast_nonneg, Option.some.injEq, PV.val.injEq, Value.int.injEq, PV.agg.injEq, List.cons.injEq, ob_eq, Ob.var.injEq, Ob.row.injEq, not_true_eq_false, not_false_eq_true]
  intro ⟨j, hj⟩ G hG
  simp -implicitDefEqProofs only [go_sem, wrs, wru, Int.toNat_natCast, Nat.zero_add, Bool.not_false, Bool.not_true, Bool.or_true, Bool.false_or, List.contains_nil, Bool.or_false, Nat.reduceAdd, Nat.reduceMul, Nat.reduceSub, Nat.reduceBEq, Nat.reduceEqDiff, Nat.reduceLT, Nat.reduceLeDiff, Int.reduceToNat, Int.reduceLT, Int.reduceLE, Int.reduceAdd, Int.reduceSub, Int.reduceMul, Int.reduceNeg, Int.reduceEq, Int.reduceBEq, Int.reduceMod, Int.reduceGT, Int.reduceGE, Int.reduceBNe, Nat.reduceBNe, Int.natCast_nonneg]
  refine cnd_split (fun h => ?_) (fun h => ?_)
  · simp only [decide_eq_true_eq] at h
    have w3 : IntKind.i64.wrap ((j : Int) + 1) = ((j + 1 : Nat) : Int) := by rw [wrs (by omega) (by omega)]; omega
    simp -implicitDefEqProofs only [go_sem, wrs, wru, Int.toNat_natCast, Nat.zero_add, Bool.not_false, Bool.not_true, Bool.or_true, Bool.false_or, List.contains_nil, Bool.or_false, Nat.reduceAdd, Nat.reduceMul, Nat.reduceSub, Nat.reduceBEq, Nat.reduceEqDiff, Nat.reduceLT, Nat.reduceLeDiff, Int.reduceToNat, Int.reduceLT, Int.reduceLE, Int.reduceAdd, Int.reduceSub, Int.reduceMul, Int.reduceNeg, Int.reduceEq, Int.reduceBEq, Int.reduceMod, Int.reduceGT, Int.reduceGE, Int.reduceBNe, Nat.reduceBNe, Int.natCast_nonneg, h]
    refine k_fr_Mul ?_
    simp -implicitDefEqProofs only [go_sem, wrs, wru, Int.toNat_natCast, Nat.zero_add, Bool.not_false, Bool.not_true, Bool.or_true, Bool.false_or, List.contains_nil, Bool.or_false, Nat.reduceAdd, Nat.reduceMul, Nat.reduceSub, Nat.reduceBEq, Nat.reduceEqDiff, Nat.reduceLT, Nat.reduceLeDiff, Int.reduceToNat, Int.reduceLT, Int.reduceLE, Int.reduceAdd, Int.reduceSub, Int.reduceMul, Int.reduceNeg, Int.reduceEq, Int.reduceBEq, Int.reduceMod, Int.reduceGT, Int.reduceGE, Int.reduceBNe, Nat.reduceBNe, Int.natCast_nonneg, h, w3, sq_pow]
    refine hG _ ⟨j + 1, by omega⟩ (by simp only; omega) ?_
    rw [famS_eq]
    refine weak_plain [(0, 0), (1, 1)] rfl rfl rfl ?_ ?_
    · simp -implicitDefEqProofs only [go_sem, wrs, wru, Int.toNat_natCast, Nat.zero_add, Bool.not_false, Bool.not_true, Bool.or_true, Bool.false_or, List.contains_nil, Bool.or_false, Nat.reduceAdd, Nat.reduceMul, Nat.reduceSub, Nat.reduceBEq, Nat.reduceEqDiff, Nat.reduceLT, Nat.reduceLeDiff, Int.reduceToNat, Int.reduceLT, Int.reduceLE, Int.reduceAdd, Int.reduceSub, Int.reduceMul, Int.reduceNeg, Int.reduceEq, Int.reduceBEq, Int.reduceMod, Int.reduceGT, Int.reduceGE, Int.reduceBNe, Nat.reduceBNe, Int.natCast_nonneg, Option.some.injEq, PV.val.injEq, Value.int.injEq, PV.agg.injEq, List.cons.injEq, ob_eq, Ob.var.injEq, Ob.row.injEq, not_true_eq_false, not_false_eq_true]
    · simp -implicitDefEqProofs only [go_sem, wrs, wru, Int.toNat_natCast, Nat.zero_add, Bool.not_false, Bool.not_true, Bool.or_true, Bool.false_or, List.contains_nil, Bool.or_false, Nat.reduceAdd, Nat.reduceMul, Nat.reduceSub, Nat.reduceBEq, Nat.reduceEqDiff, Nat.reduceLT, Nat.reduceLeDiff, Int.reduceToNat, Int.reduceLT, Int.reduceLE, Int.reduceAdd, Int.reduceSub, Int.reduceMul, Int.reduceNeg, Int.reduceEq, Int.reduceBEq, Int.reduceMod, Int.reduceGT, Int.reduceGE, Int.reduceBNe, Nat.reduceBNe, Int.natCast_nonneg, Option.some.injEq, PV.val.injEq, Value.int.injEq, PV.agg.injEq, List.cons.injEq, ob_eq, Ob.var.injEq, Ob.row.injEq, not_true_eq_false, not_false_eq_true]
  simp only [decide_eq_false_iff_not] at h
  obtain rfl : j = L := by omega
  clear hG
  simp -implicitDefEqProofs only [go_sem, wrs, wru, Int.toNat_natCast, Nat.zero_add, Bool.not_false, Bool.not_true, Bool.or_true, Bool.false_or, List.contains_nil, Bool.or_false, Nat.reduceAdd, Nat.reduceMul, Nat.reduceSub, Nat.reduceBEq, Nat.reduceEqDiff, Nat.reduceLT, Nat.reduceLeDiff, Int.reduceToNat, Int.reduceLT, Int.reduceLE, Int.reduceAdd, Int.reduceSub, Int.reduceMul, Int.reduceNeg, Int.reduceEq, Int.reduceBEq, Int.reduceMod, Int.reduceGT, Int.reduceGE, Int.reduceBNe, Nat.reduceBNe, Int.natCast_nonneg]
  refine k_fr_Of (lit_rng rfl) ?_
  simp -implicitDefEqProofs only [go_sem, wrs, wru, Int.toNat_natCast, Nat.zero_add, Bool.not_false, Bool.not_true, Bool.or_true, Bool.false_or, List.contains_nil, Bool.or_false, Nat.reduceAdd, Nat.reduceMul, Nat.reduceSub, Nat.reduceBEq, Nat.reduceEqDiff, Nat.reduceLT, Nat.reduceLeDiff, Int.reduceToNat, Int.reduceLT, Int.reduceLE, Int.reduceAdd, Int.reduceSub, Int.reduceMul, Int.reduceNeg, Int.reduceEq, Int.reduceBEq, Int.reduceMod, Int.reduceGT, Int.reduceGE, Int.reduceBNe, Nat.reduceBNe, Int.natCast_nonneg, of_one]
  refine k_fr_Sub ?_
  simp -implicitDefEqProofs only [go_sem, wrs, wru, Int.toNat_natCast, Nat.zero_add, Bool.not_false, Bool.not_true, Bool.or_true, Bool.false_or, List.contains_nil, Bool.or_false, Nat.reduceAdd, Nat.reduceMul, Nat.reduceSub, Nat.reduceBEq, Nat.reduceEqDiff, Nat.reduceLT, Nat.reduceLeDiff, Int.reduceToNat, Int.reduceLT, Int.reduceLE, Int.reduceAdd, Int.reduceSub, Int.reduceMul, Int.reduceNeg, Int.reduceEq, Int.reduceBEq, Int.reduceMod, Int.reduceGT, Int.reduceGE, Int.reduceBNe, Nat.reduceBNe, Int.natCast_nonneg]
  exact ret_plain rfl hK
theorem k_r12_Z {L : Nat} {x : F} (hL : L ≤ 1000) {K : PV → List Ob → Prop} (hK : K (ff (x ^ 2 ^ L - 1)) []) : PSpec prog 10 [i64 L, ff x] [] K := by
  refine sp_intaglioref12_Z ?_
  simp only [pc_intaglioref12_Z]
  simp -implicitDefEqProofs only [go_sem, wrs, wru, Int.toNat_natCast, Nat.zero_add, Bool.not_false, Bool.not_true, Bool.or_true, Bool.false_or, List.contains_nil, Bool.or_false, Nat.reduceAdd, Nat.reduceMul, Nat.reduceSub, Nat.reduceBEq, Nat.reduceEqDiff, Nat.reduceLT, Nat.reduceLeDiff, Int.reduceToNat, Int.reduceLT, Int.reduceLE, Int.reduceAdd, Int.reduceSub, Int.reduceMul, Int.reduceNeg, Int.reduceEq, Int.reduceBEq, Int.reduceMod, Int.reduceGT, Int.reduceGE, Int.reduceBNe, Nat.reduceBNe, Int.natCast_nonneg]
  refine loop_fam (ι := { j : Nat // j ≤ L }) [5, 6, 7, 8, 9, 10, 11, 12, 13] (fun j => [(5, i64 j.1)])
    (fun j => [(0, .ob (.var (.arr 4 .one) (ff (x ^ 2 ^ j.1)))), (1, .ob (.var (.arr 4 .one) (ff 0)))]) 2 (fun j => L - j.1) ⟨0, Nat.zero_le _⟩ ?_ ?_
  · rw [famS_eq]
    refine weak_plain [(0, 0), (1, 1)] rfl rfl rfl ?_ ?_
    · simp -implicitDefEqProofs only [go_sem, wrs, wru, Int.toNat_natCast, Nat.zero_add, Bool.not_false, Bool.not_true, Bool.or_true, Bool.false_or, List.contains_nil, Bool.or_false, Nat.reduceAdd, Nat.reduceMul, Nat.reduceSub, Nat.reduceBEq, Nat.reduceEqDiff, Nat.reduceLT, Nat.reduceLeDiff, Int.reduceToNat, Int.reduceLT, Int.reduceLE, Int.reduceAdd, Int.reduceSub, Int.reduceMul, Int.reduceNeg, Int.reduceEq, Int.reduceBEq, Int.reduceMod, Int.reduceGT, Int.reduceGE, Int.reduceBNe, Nat.reduceBNe, Int.natCast_nonneg, Option.some.injEq, PV.val.injEq, Value.int.injEq, PV.agg.injEq, List.cons.injEq, ob_eq, Ob.var.injEq, Ob.row.injEq, not_true_eq_false, not_false_eq_true, zero_ff, Nat.pow_zero, pw_one]
    · simp -implicitDefEqProofs only [go_sem, wrs, wru, Int.toNat_natCast, Nat.zero_add, Bool.not_false, Bool.not_true, Bool.or_true, Bool.false_or, List.contains_nil, Bool.or_false, Nat.reduceAdd, Nat.reduceMul, Nat.reduceSub, Nat.reduceBEq, Nat.reduceEqDiff, Nat.reduceLT, Nat.reduceLeDiff, Int.reduceToNat, Int.reduceLT, Int.reduceLE, Int.reduceAdd, Int.reduceSub, Int.reduceMul, Int.reduceNeg, Int.reduceEq, Int.reduceBEq, Int.reduceMod, Int.reduceGT, Int.reduceGE, Int.reduceBNe, Nat.reduceBNe, Int.natCast_nonneg, Option.some.injEq, PV.val.injEq, Value.int.injEq, PV.agg.injEq, List.cons.injEq, ob_eq, Ob.var.injEq, Ob.row.injEq, not_true_eq_false, not_false_eq_true]
  intro ⟨j, hj⟩ G hG
  simp -implicitDefEqProofs only [go_sem, wrs, wru, Int.toNat_natCast, Nat.zero_add, Bool.not_false, Bool.not_true, Bool.or_true, Bool.false_or, List.contains_nil, Bool.or_false, Nat.reduceAdd, Nat.reduceMul, Nat.reduceSub, Nat.reduceBEq, Nat.reduceEqDiff, Nat.reduceLT, Nat.reduceLeDiff, Int.reduceToNat, Int.reduceLT, Int.reduceLE, Int.reduceAdd, Int.reduceSub, Int.reduceMul, Int.reduceNeg, Int.reduceEq, Int.reduceBEq, Int.reduceMod, Int.reduceGT, Int.reduceGE, Int.reduceBNe, Nat.reduceBNe, Int.natCast_nonneg]
  refine cnd_split (fun h => ?_) (fun h => ?_)
  · simp only [decide_eq_true_eq] at h
    have w3 : IntKind.i64.wrap ((j : Int) + 1) = ((j + 1 : Nat) : Int) := by rw [wrs (by omega) (by omega)]; omega
    simp -implicitDefEqProofs only [go_sem, wrs, wru, Int.toNat_natCast, Nat.zero_add, Bool.not_false, Bool.not_true, Bool.or_true, Bool.false_or, List.contains_nil, Bool.or_false, Nat.reduceAdd, Nat.reduceMul, Nat.reduceSub, Nat.reduceBEq, Nat.reduceEqDiff, Nat.reduceLT, Nat.reduceLeDiff, Int.reduceToNat, Int.reduceLT, Int.reduceLE, Int.reduceAdd, Int.reduceSub, Int.reduceMul, Int.reduceNeg, Int.reduceEq, Int.reduceBEq, Int.reduceMod, Int.reduceGT, Int.reduceGE, Int.reduceBNe, Nat.reduceBNe, Int.natCast_nonneg, h]
    refine k_ref_MulR ?_
    simp -implicitDefEqProofs only [go_sem, wrs, wru, Int.toNat_natCast, Nat.zero_add, Bool.not_false, Bool.not_true, Bool.or_true, Bool.false_or, List.contains_nil, Bool.or_false, Nat.reduceAdd, Nat.reduceMul, Nat.reduceSub, Nat.reduceBEq, Nat.reduceEqDiff, Nat.reduceLT, Nat.reduceLeDiff, Int.reduceToNat, Int.reduceLT, Int.reduceLE, Int.reduceAdd, Int.reduceSub, Int.reduceMul, Int.reduceNeg, Int.reduceEq, Int.reduceBEq, Int.reduceMod, Int.reduceGT, Int.reduceGE, Int.reduceBNe, Nat.reduceBNe, Int.natCast_nonneg, h, w3, sq_pow]
    refine hG _ ⟨j + 1, by omega⟩ (by simp only; omega) ?_
    rw [famS_eq]
    refine weak_plain [(0, 0), (1, 1)] rfl rfl rfl ?_ ?_
    · simp -implicitDefEqProofs only [go_sem, wrs, wru, Int.toNat_natCast, Nat.zero_add, Bool.not_false, Bool.not_true, Bool.or_true, Bool.false_or, List.contains_nil, Bool.or_false, Nat.reduceAdd, Nat.reduceMul, Nat.reduceSub, Nat.reduceBEq, Nat.reduceEqDiff, Nat.reduceLT, Nat.reduceLeDiff, Int.reduceToNat, Int.reduceLT, Int.reduceLE, Int.reduceAdd, Int.reduceSub, Int.reduceMul, Int.reduceNeg, Int.reduceEq, Int.reduceBEq, Int.reduceMod, Int.reduceGT, Int.reduceGE, Int.reduceBNe, Nat.reduceBNe, Int.natCast_nonneg, Option.some.injEq, PV.val.injEq, Value.int.injEq, PV.agg.injEq, List.cons.injEq, ob_eq, Ob.var.injEq, Ob.row.injEq, not_true_eq_false, not_false_eq_true]
    · simp -implicitDefEqProofs only [go_sem, wrs, wru, Int.toNat_natCast, Nat.zero_add, Bool.not_false, Bool.not_true, Bool.or_true, Bool.false_or, List.contains_nil, Bool.or_false, Nat.reduceAdd, Nat.reduceMul, Nat.reduceSub, Nat.reduceBEq, Nat.reduceEqDiff, Nat.reduceLT, Nat.reduceLeDiff, Int.reduceToNat, Int.reduceLT, Int.reduceLE, Int.reduceAdd, Int.reduceSub, Int.reduceMul, Int.reduceNeg, Int.reduceEq, Int.reduceBEq, Int.reduceMod, Int.reduceGT, Int.reduceGE, Int.reduceBNe, Nat.reduceBNe, Int.natCast_nonneg, Option.some.injEq, PV.val.injEq, Value.int.injEq, PV.agg.injEq, List.cons.injEq, ob_eq, Ob.var.injEq, Ob.row.injEq, not_true_eq_false, not_false_eq_true]
  simp only [decide_eq_false_iff_not] at h
  obtain rfl : j = L := by omega
  clear hG
  simp -implicitDefEqProofs only [go_sem, wrs, wru, Int.toNat_natCast, Nat.zero_add, Bool.not_false, Bool.not_true, Bool.or_true, Bool.false_or, List.contains_nil, Bool.or_false, Nat.reduceAdd, Nat.reduceMul, Nat.reduceSub, Nat.reduceBEq, Nat.reduceEqDiff, Nat.reduceLT, Nat.reduceLeDiff, Int.reduceToNat, Int.reduceLT, Int.reduceLE, Int.reduceAdd, Int.reduceSub, Int.reduceMul, Int.reduceNeg, Int.reduceEq, Int.reduceBEq, Int.reduceMod, Int.reduceGT, Int.reduceGE, Int.reduceBNe, Nat.reduceBNe, Int.natCast_nonneg]
  refine k_ref_OfR (lit_rng rfl) ?_
  simp -implicitDefEqProofs only [go_sem, wrs, wru, Int.toNat_natCast, Nat.zero_add, Bool.not_false, Bool.not_true, Bool.or_true, Bool.false_or, List.contains_nil, Bool.or_false, Nat.reduceAdd, Nat.reduceMul, Nat.reduceSub, Nat.reduceBEq, Nat.reduceEqDiff, Nat.reduceLT, Nat.reduceLeDiff, Int.reduceToNat, Int.reduceLT, Int.reduceLE, Int.reduceAdd, Int.reduceSub, Int.reduceMul, Int.reduceNeg, Int.reduceEq, Int.reduceBEq, Int.reduceMod, Int.reduceGT, Int.reduceGE, Int.reduceBNe, Nat.reduceBNe, Int.natCast_nonneg, of_one]
  refine k_ref_SubR ?_
  simp -implicitDefEqProofs only [go_sem, wrs, wru, Int.toNat_natCast, Nat.zero_add, Bool.not_false, Bool.not_true, Bool.or_true, Bool.false_or, List.contains_nil, Bool.or_false, Nat.reduceAdd, Nat.reduceMul, Nat.reduceSub, Nat.reduceBEq, Nat.reduceEqDiff, Nat.reduceLT, Nat.reduceLeDiff, Int.reduceToNat, Int.reduceLT, Int.reduceLE, Int.reduceAdd, Int.reduceSub, Int.reduceMul, Int.reduceNeg, Int.reduceEq, Int.reduceBEq, Int.reduceMod, Int.reduceGT, Int.reduceGE, Int.reduceBNe, Nat.reduceBNe, Int.natCast_nonneg]
  exact ret_plain rfl hK
end Go.Proofs.Try.PMT
