/- Contracts of quot.Parts, intagliolaw27.May, begun. No conditions beyond what each names. -/
import Derived.Test.YtjibihaamkplbaaWQb
import Derived.Test.YtjibihaamkplbaaPV9
set_option linter.all false
namespace Go.Proofs.Try.PMT
open Go Go.Proofs.PM Go.Proofs.PL Go.Proofs.Try
set_option maxRecDepth 4000
def prt (n : Nat) (T : List F) (i : Nat) : List F := cut ((T.drop (min (i * n) T.length)).take (min ((i + 1) * n) T.length - min (i * n) T.length))
theorem prt_len (n : Nat) (T : List F) (i : Nat) : (prt n T i).length ≤ n := by
  have := cut_le ((T.drop (min (i * n) T.length)).take (min ((i + 1) * n) T.length - min (i * n) T.length))
  rw [prt]
  rw [List.length_take, List.length_drop] at this
  have e : (i + 1) * n = i * n + n := by rw [Nat.succ_mul]
  omega
def pAr (n : Nat) (T : List F) : Nat → PV
  | 0 => .agg [.val (.slice none 0 0), .val (.slice none 0 0), .val (.slice none 0 0), .val (.slice none 0 0), .val (.slice none 0 0)]
  | 1 => .agg [.osl 3 [] 0 (prt n T 0).length, .val (.slice none 0 0), .val (.slice none 0 0), .val (.slice none 0 0), .val (.slice none 0 0)]
  | 2 => .agg [.osl 3 [] 0 (prt n T 0).length, .osl 4 [] 0 (prt n T 1).length, .val (.slice none 0 0), .val (.slice none 0 0), .val (.slice none 0 0)]
  | 3 => .agg [.osl 3 [] 0 (prt n T 0).length, .osl 4 [] 0 (prt n T 1).length, .osl 5 [] 0 (prt n T 2).length, .val (.slice none 0 0), .val (.slice none 0 0)]
  | 4 => .agg [.osl 3 [] 0 (prt n T 0).length, .osl 4 [] 0 (prt n T 1).length, .osl 5 [] 0 (prt n T 2).length, .osl 6 [] 0 (prt n T 3).length, .val (.slice none 0 0)]
  | _ => .any
def pOs (n : Nat) (T : List F) : Nat → List (Nat × Cel)
  | 0 => [(0, .ob (.row 28 (.arr 4 .one) (ffs T))), (1, .ob (.var (.arr 5 .one) (.agg [.val (.slice none 0 0), .val (.slice none 0 0), .val (.slice none 0 0), .val (.slice none 0 0), .val (.slice none 0 0)]))), (2, .ob (.var (.arr 5 .one) (.agg [.val (.slice none 0 0), .val (.slice none 0 0), .val (.slice none 0 0), .val (.slice none 0 0), .val (.slice none 0 0)])))]
  | 1 => [(0, .ob (.row 28 (.arr 4 .one) (ffs T))), (1, .ob (.var (.arr 5 .one) (.agg [.osl 3 [] 0 (prt n T 0).length, .val (.slice none 0 0), .val (.slice none 0 0), .val (.slice none 0 0), .val (.slice none 0 0)]))), (2, .ob (.var (.arr 5 .one) (.agg [.val (.slice none 0 0), .val (.slice none 0 0), .val (.slice none 0 0), .val (.slice none 0 0), .val (.slice none 0 0)]))), (3, .ob (.row 28 (.arr 4 .one) (ffs (prt n T 0))))]
  | 2 => [(0, .ob (.row 28 (.arr 4 .one) (ffs T))), (1, .ob (.var (.arr 5 .one) (.agg [.osl 3 [] 0 (prt n T 0).length, .osl 4 [] 0 (prt n T 1).length, .val (.slice none 0 0), .val (.slice none 0 0), .val (.slice none 0 0)]))), (2, .ob (.var (.arr 5 .one) (.agg [.val (.slice none 0 0), .val (.slice none 0 0), .val (.slice none 0 0), .val (.slice none 0 0), .val (.slice none 0 0)]))), (3, .ob (.row 28 (.arr 4 .one) (ffs (prt n T 0)))), (4, .ob (.row 28 (.arr 4 .one) (ffs (prt n T 1))))]
  | 3 => [(0, .ob (.row 28 (.arr 4 .one) (ffs T))), (1, .ob (.var (.arr 5 .one) (.agg [.osl 3 [] 0 (prt n T 0).length, .osl 4 [] 0 (prt n T 1).length, .osl 5 [] 0 (prt n T 2).length, .val (.slice none 0 0), .val (.slice none 0 0)]))), (2, .ob (.var (.arr 5 .one) (.agg [.val (.slice none 0 0), .val (.slice none 0 0), .val (.slice none 0 0), .val (.slice none 0 0), .val (.slice none 0 0)]))), (3, .ob (.row 28 (.arr 4 .one) (ffs (prt n T 0)))), (4, .ob (.row 28 (.arr 4 .one) (ffs (prt n T 1)))), (5, .ob (.row 28 (.arr 4 .one) (ffs (prt n T 2))))]
  | 4 => [(0, .ob (.row 28 (.arr 4 .one) (ffs T))), (1, .ob (.var (.arr 5 .one) (.agg [.osl 3 [] 0 (prt n T 0).length, .osl 4 [] 0 (prt n T 1).length, .osl 5 [] 0 (prt n T 2).length, .osl 6 [] 0 (prt n T 3).length, .val (.slice none 0 0)]))), (2, .ob (.var (.arr 5 .one) (.agg [.val (.slice none 0 0), .val (.slice none 0 0), .val (.slice none 0 0), .val (.slice none 0 0), .val (.slice none 0 0)]))), (3, .ob (.row 28 (.arr 4 .one) (ffs (prt n T 0)))), (4, .ob (.row 28 (.arr 4 .one) (ffs (prt n T 1)))), (5, .ob (.row 28 (.arr 4 .one) (ffs (prt n T 2)))), (6, .ob (.row 28 (.arr 4 .one) (ffs (prt n T 3))))]
  | _ => []
theorem min_if (a b : Nat) : (if (b : Int) < (a : Int) then (b : Int) else (a : Int)) = ((min a b : Nat) : Int) := by split <;> omega
set_option maxHeartbeats 4000000 in
theorem k_quot_Parts {t : List F} {L : Nat} (ht : t.length ≤ 1000000) (hL : 1 ≤ L) (hL6 : L ≤ 6) {K : PV → List Ob → Prop} (hbig : (cut t).length > 5 * (2 ^ L + 1) → K (.tup [.agg [.val (.slice none 0 0), .val (.slice none 0 0), .val (.slice none 0 0), .val (.slice none 0 0), .val (.slice none 0 0)], i64 8]) [])
    (hK : (cut t).length ≤ 5 * (2 ^ L + 1) → K (.tup [.agg [.osl 0 [] 0 (prt (2 ^ L + 1) (cut t) 0).length, .osl 1 [] 0 (prt (2 ^ L + 1) (cut t) 1).length, .osl 2 [] 0 (prt (2 ^ L + 1) (cut t) 2).length, .osl 3 [] 0 (prt (2 ^ L + 1) (cut t) 3).length, .osl 4 [] 0 (prt (2 ^ L + 1) (cut t) 4).length], i64 0]) [.row 28 (.arr 4 .one) (ffs (prt (2 ^ L + 1) (cut t) 0)), .row 28 (.arr 4 .one) (ffs (prt (2 ^ L + 1) (cut t) 1)), .row 28 (.arr 4 .one) (ffs (prt (2 ^ L + 1) (cut t) 2)), .row 28 (.arr 4 .one) (ffs (prt (2 ^ L + 1) (cut t) 3)), .row 28 (.arr 4 .one) (ffs (prt (2 ^ L + 1) (cut t) 4))]) : PSpec prog 50 [.vsl false (.arr 4 .one) (ffs t), i64 L] [] K := by
  refine sp_quot_Parts ?_
  simp only [pc_quot_Parts]
  have h1 : ¬ (L : Int) < 1 := by omega
  have h6 : ¬ (L : Int) > 6 := by omega
  have hp0 := Nat.two_pow_pos L
  have hp6 : 2 ^ L ≤ 2 ^ 6 := Nat.pow_le_pow_right (by decide) hL6
  have hsh := shl1 (show L < 63 by omega)
  have huL : IntKind.u64.wrap (L : Int) = (L : Int) := wru (by omega) (by omega)
  have hcl := cut_le t
  obtain ⟨n, hn⟩ : ∃ n, 2 ^ L + 1 = n := ⟨_, rfl⟩
  have hn65 : n ≤ 65 := by omega
  have nw : IntKind.i64.wrap (((2 ^ L : Nat) : Int) + 1) = (n : Int) := by rw [wrs (by omega) (by omega)]; omega
  have n5 : IntKind.i64.wrap (5 * (n : Int)) = ((5 * n : Nat) : Int) := by rw [wrs (by omega) (by omega)]; omega
  simp -implicitDefEqProofs only [go_sem, wrs, wru, Int.toNat_natCast, Nat.zero_add, Bool.not_false, Bool.not_true, Bool.or_true, Bool.false_or, List.contains_nil, Bool.or_false, Nat.reduceAdd, Nat.reduceMul, Nat.reduceSub, Nat.reduceBEq, Nat.reduceEqDiff, Nat.reduceLT, Nat.reduceLeDiff, Int.reduceToNat, Int.reduceLT, Int.reduceLE, Int.reduceAdd, Int.reduceSub, Int.reduceMul, Int.reduceNeg, Int.reduceEq, Int.reduceBEq, Int.reduceMod, Int.reduceGT, Int.reduceGE, Int.reduceBNe, Nat.reduceBNe, Int.natCast_nonneg]
  by_cases hb : (cut t).length > 5 * n
  · have hbi : ((cut t).length : Int) > ((5 * n : Nat) : Int) := by omega
    refine jump_fam (ι := Empty) (fun i => nomatch i) (fun _ => 0) (fun i => nomatch i) fun G hG => ?_
    simp -implicitDefEqProofs only [go_sem, wrs, wru, Int.toNat_natCast, Nat.zero_add, Bool.not_false, Bool.not_true, Bool.or_true, Bool.false_or, List.contains_nil, Bool.or_false, Nat.reduceAdd, Nat.reduceMul, Nat.reduceSub, Nat.reduceBEq, Nat.reduceEqDiff, Nat.reduceLT, Nat.reduceLeDiff, Int.reduceToNat, Int.reduceLT, Int.reduceLE, Int.reduceAdd, Int.reduceSub, Int.reduceMul, Int.reduceNeg, Int.reduceEq, Int.reduceBEq, Int.reduceMod, Int.reduceGT, Int.reduceGE, Int.reduceBNe, Nat.reduceBNe, Int.natCast_nonneg, h1, h6, decide_false]
    refine k_poly_Cut (by omega) ?_
    simp -implicitDefEqProofs only [go_sem, wrs, wru, Int.toNat_natCast, Nat.zero_add, Bool.not_false, Bool.not_true, Bool.or_true, Bool.false_or, List.contains_nil, Bool.or_false, Nat.reduceAdd, Nat.reduceMul, Nat.reduceSub, Nat.reduceBEq, Nat.reduceEqDiff, Nat.reduceLT, Nat.reduceLeDiff, Int.reduceToNat, Int.reduceLT, Int.reduceLE, Int.reduceAdd, Int.reduceSub, Int.reduceMul, Int.reduceNeg, Int.reduceEq, Int.reduceBEq, Int.reduceMod, Int.reduceGT, Int.reduceGE, Int.reduceBNe, Nat.reduceBNe, Int.natCast_nonneg, huL, ↓hsh, nw, n5, hbi, decide_true]
    exact ret_plain rfl (hbig (by omega))
  have hKe := hK (by omega)
  have hbi : ¬ ((cut t).length : Int) > ((5 * n : Nat) : Int) := by omega
  clear hbig
  obtain ⟨T, hT⟩ : ∃ T, cut t = T := ⟨_, rfl⟩
  rw [hT] at hcl hbi hKe hb
  have wm : ∀ i : Nat, i ≤ 5 → IntKind.i64.wrap ((i : Int) * (n : Int)) = ((i * n : Nat) : Int) := fun i hi => by
    have : i * n ≤ 5 * 65 := Nat.mul_le_mul hi hn65
    rw [← Int.natCast_mul, wrs (by omega) (by omega)]
  have m0 : IntKind.i64.wrap (0 * (n : Int)) = ((0 * n : Nat) : Int) := wm 0 (by decide)
  have m1 : IntKind.i64.wrap (1 * (n : Int)) = ((1 * n : Nat) : Int) := wm 1 (by decide)
  have m2 : IntKind.i64.wrap (2 * (n : Int)) = ((2 * n : Nat) : Int) := wm 2 (by decide)
  have m3 : IntKind.i64.wrap (3 * (n : Int)) = ((3 * n : Nat) : Int) := wm 3 (by decide)
  have m4 : IntKind.i64.wrap (4 * (n : Int)) = ((4 * n : Nat) : Int) := wm 4 (by decide)
  have m5 : IntKind.i64.wrap (5 * (n : Int)) = ((5 * n : Nat) : Int) := wm 5 (by decide)
  have pr0 : cut ((T.drop (min (0 * n) T.length)).take (min (1 * n) T.length - min (0 * n) T.length)) = prt n T 0 := rfl
  have pr1 : cut ((T.drop (min (1 * n) T.length)).take (min (2 * n) T.length - min (1 * n) T.length)) = prt n T 1 := rfl
  have pr2 : cut ((T.drop (min (2 * n) T.length)).take (min (3 * n) T.length - min (2 * n) T.length)) = prt n T 2 := rfl
  have pr3 : cut ((T.drop (min (3 * n) T.length)).take (min (4 * n) T.length - min (3 * n) T.length)) = prt n T 3 := rfl
  have pr4 : cut ((T.drop (min (4 * n) T.length)).take (min (5 * n) T.length - min (4 * n) T.length)) = prt n T 4 := rfl
  have pl0 := prt_len n T 0
  have pl1 := prt_len n T 1
  have pl2 := prt_len n T 2
  have pl3 := prt_len n T 3
  have pl4 := prt_len n T 4
  refine jump_fam (ι := { i : Nat // i ≤ 4 }) (fun i => ⟨[.osl 0 [] 0 T.length, .any, .any, .any, .ptr 2 [], i64 0, .ptr 1 [], i64 n, i64 i.1, .any, .any, .any, .any, .any, .any, .any, .any, .any, .any, .any, .any, .any, .any, .any, .any, .any, .any, .any, .any, .any, .any, .any, .any, .any, .any, .any, .any, .any, .any, .any, .any, .any, .any, .any, .any, .any, .any, .any, .any, .any, .any, .any, .any, .any, .any], osB (pOs n T i.1), 8, 0⟩) (fun i => 5 - i.1) ?_ ?_
  · intro ⟨i, hi4⟩ G hG
    dsimp only at hi4 hG
    rcases (by omega : i = 0 ∨ i = 1 ∨ i = 2 ∨ i = 3 ∨ i = 4) with rfl | rfl | rfl | rfl | rfl
    · simp -implicitDefEqProofs only [go_sem, wrs, wru, Int.toNat_natCast, Nat.zero_add, Bool.not_false, Bool.not_true, Bool.or_true, Bool.false_or, List.contains_nil, Bool.or_false, Nat.reduceAdd, Nat.reduceMul, Nat.reduceSub, Nat.reduceBEq, Nat.reduceEqDiff, Nat.reduceLT, Nat.reduceLeDiff, Int.reduceToNat, Int.reduceLT, Int.reduceLE, Int.reduceAdd, Int.reduceSub, Int.reduceMul, Int.reduceNeg, Int.reduceEq, Int.reduceBEq, Int.reduceMod, Int.reduceGT, Int.reduceGE, Int.reduceBNe, Nat.reduceBNe, Int.natCast_nonneg, pOs, pAr, m0, m1, ↓min_if, drop_ffs, take_ffs]
      repeat (with_reducible refine And.intro (by first | omega | decide) ?_)
      refine k_poly_Cut (by rw [List.length_take, List.length_drop]; omega) ?_
      rw [pr0]
      simp -implicitDefEqProofs only [go_sem, wrs, wru, Int.toNat_natCast, Nat.zero_add, Bool.not_false, Bool.not_true, Bool.or_true, Bool.false_or, List.contains_nil, Bool.or_false, Nat.reduceAdd, Nat.reduceMul, Nat.reduceSub, Nat.reduceBEq, Nat.reduceEqDiff, Nat.reduceLT, Nat.reduceLeDiff, Int.reduceToNat, Int.reduceLT, Int.reduceLE, Int.reduceAdd, Int.reduceSub, Int.reduceMul, Int.reduceNeg, Int.reduceEq, Int.reduceBEq, Int.reduceMod, Int.reduceGT, Int.reduceGE, Int.reduceBNe, Nat.reduceBNe, Int.natCast_nonneg]
      refine hG _ ⟨1, by decide⟩ (by decide) ?_
      refine weak_ll [(0, 0), (1, 1), (2, 2), (8, 3)] rfl rfl rfl ?_ ?_
      · simp -implicitDefEqProofs only [go_sem, wrs, wru, Int.toNat_natCast, Nat.zero_add, Bool.not_false, Bool.not_true, Bool.or_true, Bool.false_or, List.contains_nil, Bool.or_false, Nat.reduceAdd, Nat.reduceMul, Nat.reduceSub, Nat.reduceBEq, Nat.reduceEqDiff, Nat.reduceLT, Nat.reduceLeDiff, Int.reduceToNat, Int.reduceLT, Int.reduceLE, Int.reduceAdd, Int.reduceSub, Int.reduceMul, Int.reduceNeg, Int.reduceEq, Int.reduceBEq, Int.reduceMod, Int.reduceGT, Int.reduceGE, Int.reduceBNe, Nat.reduceBNe, Int.natCast_nonneg, Option.some.injEq, PV.val.injEq, Value.int.injEq, PV.agg.injEq, List.cons.injEq, ob_eq, Ob.var.injEq, Ob.row.injEq, not_true_eq_false, not_false_eq_true, pOs, pAr, cnv_agg3, cnvL_nil', cnvL_cons', cnvW_val', cnvW_osl', slW_some]
      · simp -implicitDefEqProofs only [go_sem, wrs, wru, Int.toNat_natCast, Nat.zero_add, Bool.not_false, Bool.not_true, Bool.or_true, Bool.false_or, List.contains_nil, Bool.or_false, Nat.reduceAdd, Nat.reduceMul, Nat.reduceSub, Nat.reduceBEq, Nat.reduceEqDiff, Nat.reduceLT, Nat.reduceLeDiff, Int.reduceToNat, Int.reduceLT, Int.reduceLE, Int.reduceAdd, Int.reduceSub, Int.reduceMul, Int.reduceNeg, Int.reduceEq, Int.reduceBEq, Int.reduceMod, Int.reduceGT, Int.reduceGE, Int.reduceBNe, Nat.reduceBNe, Int.natCast_nonneg, Option.some.injEq, PV.val.injEq, Value.int.injEq, PV.agg.injEq, List.cons.injEq, ob_eq, Ob.var.injEq, Ob.row.injEq, not_true_eq_false, not_false_eq_true]
    · simp -implicitDefEqProofs only [go_sem, wrs, wru, Int.toNat_natCast, Nat.zero_add, Bool.not_false, Bool.not_true, Bool.or_true, Bool.false_or, List.contains_nil, Bool.or_false, Nat.reduceAdd, Nat.reduceMul, Nat.reduceSub, Nat.reduceBEq, Nat.reduceEqDiff, Nat.reduceLT, Nat.reduceLeDiff, Int.reduceToNat, Int.reduceLT, Int.reduceLE, Int.reduceAdd, Int.reduceSub, Int.reduceMul, Int.reduceNeg, Int.reduceEq, Int.reduceBEq, Int.reduceMod, Int.reduceGT, Int.reduceGE, Int.reduceBNe, Nat.reduceBNe, Int.natCast_nonneg, pOs, pAr, m1, m2, ↓min_if, drop_ffs, take_ffs]
      repeat (with_reducible refine And.intro (by first | omega | decide) ?_)
      refine k_poly_Cut (by rw [List.length_take, List.length_drop]; omega) ?_
      rw [pr1]
      simp -implicitDefEqProofs only [go_sem, wrs, wru, Int.toNat_natCast, Nat.zero_add, Bool.not_false, Bool.not_true, Bool.or_true, Bool.false_or, List.contains_nil, Bool.or_false, Nat.reduceAdd, Nat.reduceMul, Nat.reduceSub, Nat.reduceBEq, Nat.reduceEqDiff, Nat.reduceLT, Nat.reduceLeDiff, Int.reduceToNat, Int.reduceLT, Int.reduceLE, Int.reduceAdd, Int.reduceSub, Int.reduceMul, Int.reduceNeg, Int.reduceEq, Int.reduceBEq, Int.reduceMod, Int.reduceGT, Int.reduceGE, Int.reduceBNe, Nat.reduceBNe, Int.natCast_nonneg]
      refine hG _ ⟨2, by decide⟩ (by decide) ?_
      refine weak_ll [(0, 0), (1, 1), (2, 2), (3, 3), (8, 4)] rfl rfl rfl ?_ ?_
      · simp -implicitDefEqProofs only [go_sem, wrs, wru, Int.toNat_natCast, Nat.zero_add, Bool.not_false, Bool.not_true, Bool.or_true, Bool.false_or, List.contains_nil, Bool.or_false, Nat.reduceAdd, Nat.reduceMul, Nat.reduceSub, Nat.reduceBEq, Nat.reduceEqDiff, Nat.reduceLT, Nat.reduceLeDiff, Int.reduceToNat, Int.reduceLT, Int.reduceLE, Int.reduceAdd, Int.reduceSub, Int.reduceMul, Int.reduceNeg, Int.reduceEq, Int.reduceBEq, Int.reduceMod, Int.reduceGT, Int.reduceGE, Int.reduceBNe, Nat.reduceBNe, Int.natCast_nonneg, Option.some.injEq, PV.val.injEq, Value.int.injEq, PV.agg.injEq, List.cons.injEq, ob_eq, Ob.var.injEq, Ob.row.injEq, not_true_eq_false, not_false_eq_true, pOs, pAr, cnv_agg3, cnvL_nil', cnvL_cons', cnvW_val', cnvW_osl', slW_some]
      · simp -implicitDefEqProofs only [go_sem, wrs, wru, Int.toNat_natCast, Nat.zero_add, Bool.not_false, Bool.not_true, Bool.or_true, Bool.false_or, List.contains_nil, Bool.or_false, Nat.reduceAdd, Nat.reduceMul, Nat.reduceSub, Nat.reduceBEq, Nat.reduceEqDiff, Nat.reduceLT, Nat.reduceLeDiff, Int.reduceToNat, Int.reduceLT, Int.reduceLE, Int.reduceAdd, Int.reduceSub, Int.reduceMul, Int.reduceNeg, Int.reduceEq, Int.reduceBEq, Int.reduceMod, Int.reduceGT, Int.reduceGE, Int.reduceBNe, Nat.reduceBNe, Int.natCast_nonneg, Option.some.injEq, PV.val.injEq, Value.int.injEq, PV.agg.injEq, List.cons.injEq, ob_eq, Ob.var.injEq, Ob.row.injEq, not_true_eq_false, not_false_eq_true]
    · simp -implicitDefEqProofs only [go_sem, wrs, wru, Int.toNat_natCast, Nat.zero_add, Bool.not_false, Bool.not_true, Bool.or_true, Bool.false_or, List.contains_nil, Bool.or_false, Nat.reduceAdd, Nat.reduceMul, Nat.reduceSub, Nat.reduceBEq, Nat.reduceEqDiff, Nat.reduceLT, Nat.reduceLeDiff, Int.reduceToNat, Int.reduceLT, Int.reduceLE, Int.reduceAdd, Int.reduceSub, Int.reduceMul, Int.reduceNeg, Int.reduceEq, Int.reduceBEq, Int.reduceMod, Int.reduceGT, Int.reduceGE, Int.reduceBNe, Nat.reduceBNe, Int.natCast_nonneg, pOs, pAr, m2, m3, ↓min_if, drop_ffs, take_ffs]
      repeat (with_reducible refine And.intro (by first | omega | decide) ?_)
      refine k_poly_Cut (by rw [List.length_take, List.length_drop]; omega) ?_
      rw [pr2]
      simp -implicitDefEqProofs only [go_sem, wrs, wru, Int.toNat_natCast, Nat.zero_add, Bool.not_false, Bool.not_true, Bool.or_true, Bool.false_or, List.contains_nil, Bool.or_false, Nat.reduceAdd, Nat.reduceMul, Nat.reduceSub, Nat.reduceBEq, Nat.reduceEqDiff, Nat.reduceLT, Nat.reduceLeDiff, Int.reduceToNat, Int.reduceLT, Int.reduceLE, Int.reduceAdd, Int.reduceSub, Int.reduceMul, Int.reduceNeg, Int.reduceEq, Int.reduceBEq, Int.reduceMod, Int.reduceGT, Int.reduceGE, Int.reduceBNe, Nat.reduceBNe, Int.natCast_nonneg]
      refine hG _ ⟨3, by decide⟩ (by decide) ?_
      refine weak_ll [(0, 0), (1, 1), (2, 2), (3, 3), (4, 4), (8, 5)] rfl rfl rfl ?_ ?_
      · simp -implicitDefEqProofs only [go_sem, wrs, wru, Int.toNat_natCast, Nat.zero_add, Bool.not_false, Bool.not_true, Bool.or_true, Bool.false_or, List.contains_nil, Bool.or_false, Nat.reduceAdd, Nat.reduceMul, Nat.reduceSub, Nat.reduceBEq, Nat.reduceEqDiff, Nat.reduceLT, Nat.reduceLeDiff, Int.reduceToNat, Int.reduceLT, Int.reduceLE, Int.reduceAdd, Int.reduceSub, Int.reduceMul, Int.reduceNeg, Int.reduceEq, Int.reduceBEq, Int.reduceMod, Int.reduceGT, Int.reduceGE, Int.reduceBNe, Nat.reduceBNe, Int.natCast_nonneg, Option.some.injEq, PV.val.injEq, Value.int.injEq, PV.agg.injEq, List.cons.injEq, ob_eq, Ob.var.injEq, Ob.row.injEq, not_true_eq_false, not_false_eq_true, pOs, pAr, cnv_agg3, cnvL_nil', cnvL_cons', cnvW_val', cnvW_osl', slW_some]
      · simp -implicitDefEqProofs only [go_sem, wrs, wru, Int.toNat_natCast, Nat.zero_add, Bool.not_false, Bool.not_true, Bool.or_true, Bool.false_or, List.contains_nil, Bool.or_false, Nat.reduceAdd, Nat.reduceMul, Nat.reduceSub, Nat.reduceBEq, Nat.reduceEqDiff, Nat.reduceLT, Nat.reduceLeDiff, Int.reduceToNat, Int.reduceLT, Int.reduceLE, Int.reduceAdd, Int.reduceSub, Int.reduceMul, Int.reduceNeg, Int.reduceEq, Int.reduceBEq, Int.reduceMod, Int.reduceGT, Int.reduceGE, Int.reduceBNe, Nat.reduceBNe, Int.natCast_nonneg, Option.some.injEq, PV.val.injEq, Value.int.injEq, PV.agg.injEq, List.cons.injEq, ob_eq, Ob.var.injEq, Ob.row.injEq, not_true_eq_false, not_false_eq_true]
    · simp -implicitDefEqProofs only [go_sem, wrs, wru, Int.toNat_natCast, Nat.zero_add, Bool.not_false, Bool.not_true, Bool.or_true, Bool.false_or, List.contains_nil, Bool.or_false, Nat.reduceAdd, Nat.reduceMul, Nat.reduceSub, Nat.reduceBEq, Nat.reduceEqDiff, Nat.reduceLT, Nat.reduceLeDiff, Int.reduceToNat, Int.reduceLT, Int.reduceLE, Int.reduceAdd, Int.reduceSub, Int.reduceMul, Int.reduceNeg, Int.reduceEq, Int.reduceBEq, Int.reduceMod, Int.reduceGT, Int.reduceGE, Int.reduceBNe, Nat.reduceBNe, Int.natCast_nonneg, pOs, pAr, m3, m4, ↓min_if, drop_ffs, take_ffs]
      repeat (with_reducible refine And.intro (by first | omega | decide) ?_)
      refine k_poly_Cut (by rw [List.length_take, List.length_drop]; omega) ?_
      rw [pr3]
      simp -implicitDefEqProofs only [go_sem, wrs, wru, Int.toNat_natCast, Nat.zero_add, Bool.not_false, Bool.not_true, Bool.or_true, Bool.false_or, List.contains_nil, Bool.or_false, Nat.reduceAdd, Nat.reduceMul, Nat.reduceSub, Nat.reduceBEq, Nat.reduceEqDiff, Nat.reduceLT, Nat.reduceLeDiff, Int.reduceToNat, Int.reduceLT, Int.reduceLE, Int.reduceAdd, Int.reduceSub, Int.reduceMul, Int.reduceNeg, Int.reduceEq, Int.reduceBEq, Int.reduceMod, Int.reduceGT, Int.reduceGE, Int.reduceBNe, Nat.reduceBNe, Int.natCast_nonneg]
      refine hG _ ⟨4, by decide⟩ (by decide) ?_
      refine weak_ll [(0, 0), (1, 1), (2, 2), (3, 3), (4, 4), (5, 5), (8, 6)] rfl rfl rfl ?_ ?_
      · simp -implicitDefEqProofs only [go_sem, wrs, wru, Int.toNat_natCast, Nat.zero_add, Bool.not_false, Bool.not_true, Bool.or_true, Bool.false_or, List.contains_nil, Bool.or_false, Nat.reduceAdd, Nat.reduceMul, Nat.reduceSub, Nat.reduceBEq, Nat.reduceEqDiff, Nat.reduceLT, Nat.reduceLeDiff, Int.reduceToNat, Int.reduceLT, Int.reduceLE, Int.reduceAdd, Int.reduceSub, Int.reduceMul, Int.reduceNeg, Int.reduceEq, Int.reduceBEq, Int.reduceMod, Int.reduceGT, Int.reduceGE, Int.reduceBNe, Nat.reduceBNe, Int.natCast_nonneg, Option.some.injEq, PV.val.injEq, Value.int.injEq, PV.agg.injEq, List.cons.injEq, ob_eq, Ob.var.injEq, Ob.row.injEq, not_true_eq_false, not_false_eq_true, pOs, pAr, cnv_agg3, cnvL_nil', cnvL_cons', cnvW_val', cnvW_osl', slW_some]
      · simp -implicitDefEqProofs only [go_sem, wrs, wru, Int.toNat_natCast, Nat.zero_add, Bool.not_false, Bool.not_true, Bool.or_true, Bool.false_or, List.contains_nil, Bool.or_false, Nat.reduceAdd, Nat.reduceMul, Nat.reduceSub, Nat.reduceBEq, Nat.reduceEqDiff, Nat.reduceLT, Nat.reduceLeDiff, Int.reduceToNat, Int.reduceLT, Int.reduceLE, Int.reduceAdd, Int.reduceSub, Int.reduceMul, Int.reduceNeg, Int.reduceEq, Int.reduceBEq, Int.reduceMod, Int.reduceGT, Int.reduceGE, Int.reduceBNe, Nat.reduceBNe, Int.natCast_nonneg, Option.some.injEq, PV.val.injEq, Value.int.injEq, PV.agg.injEq, List.cons.injEq, ob_eq, Ob.var.injEq, Ob.row.injEq, not_true_eq_false, not_false_eq_true]
    · simp -implicitDefEqProofs only [go_sem, wrs, wru, Int.toNat_natCast, Nat.zero_add, Bool.not_false, Bool.not_true, Bool.or_true, Bool.false_or, List.contains_nil, Bool.or_false, Nat.reduceAdd, Nat.reduceMul, Nat.reduceSub, Nat.reduceBEq, Nat.reduceEqDiff, Nat.reduceLT, Nat.reduceLeDiff, Int.reduceToNat, Int.reduceLT, Int.reduceLE, Int.reduceAdd, Int.reduceSub, Int.reduceMul, Int.reduceNeg, Int.reduceEq, Int.reduceBEq, Int.reduceMod, Int.reduceGT, Int.reduceGE, Int.reduceBNe, Nat.reduceBNe, Int.natCast_nonneg, pOs, pAr, m4, m5, ↓min_if, drop_ffs, take_ffs]
      repeat (with_reducible refine And.intro (by first | omega | decide) ?_)
      refine k_poly_Cut (by rw [List.length_take, List.length_drop]; omega) ?_
      rw [pr4]
      simp -implicitDefEqProofs only [go_sem, wrs, wru, Int.toNat_natCast, Nat.zero_add, Bool.not_false, Bool.not_true, Bool.or_true, Bool.false_or, List.contains_nil, Bool.or_false, Nat.reduceAdd, Nat.reduceMul, Nat.reduceSub, Nat.reduceBEq, Nat.reduceEqDiff, Nat.reduceLT, Nat.reduceLeDiff, Int.reduceToNat, Int.reduceLT, Int.reduceLE, Int.reduceAdd, Int.reduceSub, Int.reduceMul, Int.reduceNeg, Int.reduceEq, Int.reduceBEq, Int.reduceMod, Int.reduceGT, Int.reduceGE, Int.reduceBNe, Nat.reduceBNe, Int.natCast_nonneg]
      rw [hn] at hKe
      refine ret_obs [(3, 0), (4, 1), (5, 2), (6, 3), (8, 4)] [.row 28 (.arr 4 .one) (ffs (prt n T 0)), .row 28 (.arr 4 .one) (ffs (prt n T 1)), .row 28 (.arr 4 .one) (ffs (prt n T 2)), .row 28 (.arr 4 .one) (ffs (prt n T 3)), .row 28 (.arr 4 .one) (ffs (prt n T 4))] [.agg [.osl 0 [] 0 (prt n T 0).length, .osl 1 [] 0 (prt n T 1).length, .osl 2 [] 0 (prt n T 2).length, .osl 3 [] 0 (prt n T 3).length, .osl 4 [] 0 (prt n T 4).length], i64 0] rfl rfl ?_ ?_ hKe
      · simp -implicitDefEqProofs only [go_sem, wrs, wru, Int.toNat_natCast, Nat.zero_add, Bool.not_false, Bool.not_true, Bool.or_true, Bool.false_or, List.contains_nil, Bool.or_false, Nat.reduceAdd, Nat.reduceMul, Nat.reduceSub, Nat.reduceBEq, Nat.reduceEqDiff, Nat.reduceLT, Nat.reduceLeDiff, Int.reduceToNat, Int.reduceLT, Int.reduceLE, Int.reduceAdd, Int.reduceSub, Int.reduceMul, Int.reduceNeg, Int.reduceEq, Int.reduceBEq, Int.reduceMod, Int.reduceGT, Int.reduceGE, Int.reduceBNe, Nat.reduceBNe, Int.natCast_nonneg, Option.some.injEq, PV.val.injEq, Value.int.injEq, PV.agg.injEq, List.cons.injEq, ob_eq, Ob.var.injEq, Ob.row.injEq, not_true_eq_false, not_false_eq_true]
      · simp -implicitDefEqProofs only [go_sem, wrs, wru, Int.toNat_natCast, Nat.zero_add, Bool.not_false, Bool.not_true, Bool.or_true, Bool.false_or, List.contains_nil, Bool.or_false, Nat.reduceAdd, Nat.reduceMul, Nat.reduceSub, Nat.reduceBEq, Nat.reduceEqDiff, Nat.reduceLT, Nat.reduceLeDiff, Int.reduceToNat, Int.reduceLT, Int.reduceLE, Int.reduceAdd, Int.reduceSub, Int.reduceMul, Int.reduceNeg, Int.reduceEq, Int.reduceBEq, Int.reduceMod, Int.reduceGT, Int.reduceGE, Int.reduceBNe, Nat.reduceBNe, Int.natCast_nonneg, cnv_agg3, cnvL_nil', cnvL_cons', cnvW_val', cnvW_osl', slW_some]
  intro G hG
  simp -implicitDefEqProofs only [go_sem, wrs, wru, Int.toNat_natCast, Nat.zero_add, Bool.not_false, Bool.not_true, Bool.or_true, Bool.false_or, List.contains_nil, Bool.or_false, Nat.reduceAdd, Nat.reduceMul, Nat.reduceSub, Nat.reduceBEq, Nat.reduceEqDiff, Nat.reduceLT, Nat.reduceLeDiff, Int.reduceToNat, Int.reduceLT, Int.reduceLE, Int.reduceAdd, Int.reduceSub, Int.reduceMul, Int.reduceNeg, Int.reduceEq, Int.reduceBEq, Int.reduceMod, Int.reduceGT, Int.reduceGE, Int.reduceBNe, Nat.reduceBNe, Int.natCast_nonneg, h1, h6, decide_false]
  refine k_poly_Cut (by omega) ?_
  rw [hT]
  simp -implicitDefEqProofs only [go_sem, wrs, wru, Int.toNat_natCast, Nat.zero_add, Bool.not_false, Bool.not_true, Bool.or_true, Bool.false_or, List.contains_nil, Bool.or_false, Nat.reduceAdd, Nat.reduceMul, Nat.reduceSub, Nat.reduceBEq, Nat.reduceEqDiff, Nat.reduceLT, Nat.reduceLeDiff, Int.reduceToNat, Int.reduceLT, Int.reduceLE, Int.reduceAdd, Int.reduceSub, Int.reduceMul, Int.reduceNeg, Int.reduceEq, Int.reduceBEq, Int.reduceMod, Int.reduceGT, Int.reduceGE, Int.reduceBNe, Nat.reduceBNe, Int.natCast_nonneg, huL, ↓hsh, nw, n5, hbi, decide_false]
  refine lab_to _ ?_ (lab_seq (hG ⟨0, Nat.zero_le _⟩))
  refine weak_ll [(2, 0), (1, 1), (0, 2)] rfl rfl rfl ?_ ?_
  · simp -implicitDefEqProofs only [go_sem, wrs, wru, Int.toNat_natCast, Nat.zero_add, Bool.not_false, Bool.not_true, Bool.or_true, Bool.false_or, List.contains_nil, Bool.or_false, Nat.reduceAdd, Nat.reduceMul, Nat.reduceSub, Nat.reduceBEq, Nat.reduceEqDiff, Nat.reduceLT, Nat.reduceLeDiff, Int.reduceToNat, Int.reduceLT, Int.reduceLE, Int.reduceAdd, Int.reduceSub, Int.reduceMul, Int.reduceNeg, Int.reduceEq, Int.reduceBEq, Int.reduceMod, Int.reduceGT, Int.reduceGE, Int.reduceBNe, Nat.reduceBNe, Int.natCast_nonneg, Option.some.injEq, PV.val.injEq, Value.int.injEq, PV.agg.injEq, List.cons.injEq, ob_eq, Ob.var.injEq, Ob.row.injEq, not_true_eq_false, not_false_eq_true, pOs, pAr, cnv_agg3, cnvL_nil', cnvL_cons', cnvW_val', cnvW_osl', slW_some]
  · simp -implicitDefEqProofs only [go_sem, wrs, wru, Int.toNat_natCast, Nat.zero_add, Bool.not_false, Bool.not_true, Bool.or_true, Bool.false_or, List.contains_nil, Bool.or_false, Nat.reduceAdd, Nat.reduceMul, Nat.reduceSub, Nat.reduceBEq, Nat.reduceEqDiff, Nat.reduceLT, Nat.reduceLeDiff, Int.reduceToNat, Int.reduceLT, Int.reduceLE, Int.reduceAdd, Int.reduceSub, Int.reduceMul, Int.reduceNeg, Int.reduceEq, Int.reduceBEq, Int.reduceMod, Int.reduceGT, Int.reduceGE, Int.reduceBNe, Nat.reduceBNe, Int.natCast_nonneg, Option.some.injEq, PV.val.injEq, Value.int.injEq, PV.agg.injEq, List.cons.injEq, ob_eq, Ob.var.injEq, Ob.row.injEq, not_true_eq_false, not_false_eq_true]
end Go.Proofs.Try.PMT
