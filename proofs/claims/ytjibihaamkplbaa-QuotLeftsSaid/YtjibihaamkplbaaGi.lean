/- Contracts of poly.Cut and its kin. No conditions beyond what each names. -/
import Derived.Test.YtjibihaamkplbaaGh
import Derived.Test.YtjibihaamkplbaaGd
import Derived.Test.YtjibihaamkplbaaGe
import Derived.Test.YtjibihaamkplbaaGg
set_option linter.all false
namespace Go.Proofs.Try.PMT
open Go Go.Proofs.PM Go.Proofs.PL Go.Proofs.Try
set_option maxRecDepth 4000

theorem k_poly_Cut {l : List F} (hl : l.length ≤ 4398046511104) {K : PV → List Ob → Prop} (hK : K (.osl 0 [] 0 (cut l).length) [.row 28 (.arr 4 .one) (ffs (cut l))]) : PSpec prog 95 [.vsl false (.arr 4 .one) (ffs l)] [] K := by
  refine sp_poly_Cut ?_
  simp only [pc_poly_Cut]
  simp -implicitDefEqProofs only [go_sem, wrs, wru, Int.toNat_natCast, Nat.zero_add, Bool.not_false, Bool.not_true, Bool.or_true, Bool.false_or, List.contains_nil, Bool.or_false, Nat.reduceAdd, Nat.reduceMul, Nat.reduceSub, Nat.reduceBEq, Nat.reduceEqDiff, Nat.reduceLT, Nat.reduceLeDiff, Int.reduceToNat, Int.reduceLT, Int.reduceLE, Int.reduceAdd, Int.reduceSub, Int.reduceMul, Int.reduceNeg, Int.reduceEq, Int.reduceBEq, Int.reduceMod, Int.reduceGT, Int.reduceGE, Int.reduceBNe, Nat.reduceBNe, Int.natCast_nonneg]
  refine loop_fam (ι := { n : Nat // n ≤ l.length ∧ top l n = top l l.length }) [3, 6, 7, 8, 9, 10, 11, 12, 13, 14, 15, 16, 17, 18] (fun n => [(3, i64 n.1)]) (fun _ => [(0, .ob (.row 28 (.arr 4 .one) []))]) 1 (fun n => n.1) ⟨l.length, Nat.le_refl _, rfl⟩ ?_ ?_
  · rw [famS_eq]
    refine weak_plain [(0, 0)] rfl rfl rfl ?_ ?_
    · simp -implicitDefEqProofs only [go_sem, wrs, wru, Int.toNat_natCast, Nat.zero_add, Bool.not_false, Bool.not_true, Bool.or_true, Bool.false_or, List.contains_nil, Bool.or_false, Nat.reduceAdd, Nat.reduceMul, Nat.reduceSub, Nat.reduceBEq, Nat.reduceEqDiff, Nat.reduceLT, Nat.reduceLeDiff, Int.reduceToNat, Int.reduceLT, Int.reduceLE, Int.reduceAdd, Int.reduceSub, Int.reduceMul, Int.reduceNeg, Int.reduceEq, Int.reduceBEq, Int.reduceMod, Int.reduceGT, Int.reduceGE, Int.reduceBNe, Nat.reduceBNe, Int.natCast_nonneg, Option.some.injEq, PV.val.injEq, Value.int.injEq, PV.agg.injEq, List.cons.injEq, ob_eq, Ob.var.injEq, Ob.row.injEq, not_true_eq_false, not_false_eq_true]
    · simp -implicitDefEqProofs only [go_sem, wrs, wru, Int.toNat_natCast, Nat.zero_add, Bool.not_false, Bool.not_true, Bool.or_true, Bool.false_or, List.contains_nil, Bool.or_false, Nat.reduceAdd, Nat.reduceMul, Nat.reduceSub, Nat.reduceBEq, Nat.reduceEqDiff, Nat.reduceLT, Nat.reduceLeDiff, Int.reduceToNat, Int.reduceLT, Int.reduceLE, Int.reduceAdd, Int.reduceSub, Int.reduceMul, Int.reduceNeg, Int.reduceEq, Int.reduceBEq, Int.reduceMod, Int.reduceGT, Int.reduceGE, Int.reduceBNe, Nat.reduceBNe, Int.natCast_nonneg, Option.some.injEq, PV.val.injEq, Value.int.injEq, PV.agg.injEq, List.cons.injEq, ob_eq, Ob.var.injEq, Ob.row.injEq, not_true_eq_false, not_false_eq_true]
  · intro ⟨n, hn, ht⟩ G hG
    dsimp only at hG
    rcases n with _ | k
    · have htop : top l 0 = 0 := rfl
      have hcut : cut l = l.take 0 := by rw [cut, ← ht, htop]
      have hc : (l.take 0).length = 0 := by rw [List.length_take]; omega
      simp -implicitDefEqProofs only [go_sem, wrs, wru, Int.toNat_natCast, Nat.zero_add, Bool.not_false, Bool.not_true, Bool.or_true, Bool.false_or, List.contains_nil, Bool.or_false, Nat.reduceAdd, Nat.reduceMul, Nat.reduceSub, Nat.reduceBEq, Nat.reduceEqDiff, Nat.reduceLT, Nat.reduceLeDiff, Int.reduceToNat, Int.reduceLT, Int.reduceLE, Int.reduceAdd, Int.reduceSub, Int.reduceMul, Int.reduceNeg, Int.reduceEq, Int.reduceBEq, Int.reduceMod, Int.reduceGT, Int.reduceGE, Int.reduceBNe, Nat.reduceBNe, Int.natCast_nonneg, hc]
      repeat (with_reducible refine And.intro (by first | omega | decide) ?_)
      rw [hcut, hc] at hK
      refine ret_obs [(2, 0)] [.row 28 (.arr 4 .one) (ffs (l.take 0))] [.osl 0 [] 0 0] rfl rfl ?_ ?_ hK
      · simp -implicitDefEqProofs only [go_sem, wrs, wru, Int.toNat_natCast, Nat.zero_add, Bool.not_false, Bool.not_true, Bool.or_true, Bool.false_or, List.contains_nil, Bool.or_false, Nat.reduceAdd, Nat.reduceMul, Nat.reduceSub, Nat.reduceBEq, Nat.reduceEqDiff, Nat.reduceLT, Nat.reduceLeDiff, Int.reduceToNat, Int.reduceLT, Int.reduceLE, Int.reduceAdd, Int.reduceSub, Int.reduceMul, Int.reduceNeg, Int.reduceEq, Int.reduceBEq, Int.reduceMod, Int.reduceGT, Int.reduceGE, Int.reduceBNe, Nat.reduceBNe, Int.natCast_nonneg, Option.some.injEq, PV.val.injEq, Value.int.injEq, PV.agg.injEq, List.cons.injEq, ob_eq, Ob.var.injEq, Ob.row.injEq, not_true_eq_false, not_false_eq_true]
      · simp -implicitDefEqProofs only [go_sem, wrs, wru, Int.toNat_natCast, Nat.zero_add, Bool.not_false, Bool.not_true, Bool.or_true, Bool.false_or, List.contains_nil, Bool.or_false, Nat.reduceAdd, Nat.reduceMul, Nat.reduceSub, Nat.reduceBEq, Nat.reduceEqDiff, Nat.reduceLT, Nat.reduceLeDiff, Int.reduceToNat, Int.reduceLT, Int.reduceLE, Int.reduceAdd, Int.reduceSub, Int.reduceMul, Int.reduceNeg, Int.reduceEq, Int.reduceBEq, Int.reduceMod, Int.reduceGT, Int.reduceGE, Int.reduceBNe, Nat.reduceBNe, Int.natCast_nonneg]
    · have hw : IntKind.i64.wrap (((k + 1 : Nat) : Int) - 1) = (k : Int) := by rw [wrs (by omega) (by omega)]; omega
      have hk : ((k : Int) < (l.length : Int)) := by omega
      simp -implicitDefEqProofs only [go_sem, wrs, wru, Int.toNat_natCast, Nat.zero_add, Bool.not_false, Bool.not_true, Bool.or_true, Bool.false_or, List.contains_nil, Bool.or_false, Nat.reduceAdd, Nat.reduceMul, Nat.reduceSub, Nat.reduceBEq, Nat.reduceEqDiff, Nat.reduceLT, Nat.reduceLeDiff, Int.reduceToNat, Int.reduceLT, Int.reduceLE, Int.reduceAdd, Int.reduceSub, Int.reduceMul, Int.reduceNeg, Int.reduceEq, Int.reduceBEq, Int.reduceMod, Int.reduceGT, Int.reduceGE, Int.reduceBNe, Nat.reduceBNe, Int.natCast_nonneg, gt_nat, hw, zero_ff, getD_ffs (show k < l.length by omega), hk]
      refine cnd_split (fun h => ?_) (fun h => ?_)
      · simp only [decide_eq_true_eq] at h
        simp -implicitDefEqProofs only [go_sem, wrs, wru, Int.toNat_natCast, Nat.zero_add, Bool.not_false, Bool.not_true, Bool.or_true, Bool.false_or, List.contains_nil, Bool.or_false, Nat.reduceAdd, Nat.reduceMul, Nat.reduceSub, Nat.reduceBEq, Nat.reduceEqDiff, Nat.reduceLT, Nat.reduceLeDiff, Int.reduceToNat, Int.reduceLT, Int.reduceLE, Int.reduceAdd, Int.reduceSub, Int.reduceMul, Int.reduceNeg, Int.reduceEq, Int.reduceBEq, Int.reduceMod, Int.reduceGT, Int.reduceGE, Int.reduceBNe, Nat.reduceBNe, Int.natCast_nonneg, hw]
        refine hG _ ⟨k, by omega, by rw [← ht, top, if_pos h]⟩ (by simp only; omega) ?_
        rw [famS_eq]
        refine weak_plain [(0, 0)] rfl rfl rfl ?_ ?_
        · simp -implicitDefEqProofs only [go_sem, wrs, wru, Int.toNat_natCast, Nat.zero_add, Bool.not_false, Bool.not_true, Bool.or_true, Bool.false_or, List.contains_nil, Bool.or_false, Nat.reduceAdd, Nat.reduceMul, Nat.reduceSub, Nat.reduceBEq, Nat.reduceEqDiff, Nat.reduceLT, Nat.reduceLeDiff, Int.reduceToNat, Int.reduceLT, Int.reduceLE, Int.reduceAdd, Int.reduceSub, Int.reduceMul, Int.reduceNeg, Int.reduceEq, Int.reduceBEq, Int.reduceMod, Int.reduceGT, Int.reduceGE, Int.reduceBNe, Nat.reduceBNe, Int.natCast_nonneg, Option.some.injEq, PV.val.injEq, Value.int.injEq, PV.agg.injEq, List.cons.injEq, ob_eq, Ob.var.injEq, Ob.row.injEq, not_true_eq_false, not_false_eq_true]
        · simp -implicitDefEqProofs only [go_sem, wrs, wru, Int.toNat_natCast, Nat.zero_add, Bool.not_false, Bool.not_true, Bool.or_true, Bool.false_or, List.contains_nil, Bool.or_false, Nat.reduceAdd, Nat.reduceMul, Nat.reduceSub, Nat.reduceBEq, Nat.reduceEqDiff, Nat.reduceLT, Nat.reduceLeDiff, Int.reduceToNat, Int.reduceLT, Int.reduceLE, Int.reduceAdd, Int.reduceSub, Int.reduceMul, Int.reduceNeg, Int.reduceEq, Int.reduceBEq, Int.reduceMod, Int.reduceGT, Int.reduceGE, Int.reduceBNe, Nat.reduceBNe, Int.natCast_nonneg, Option.some.injEq, PV.val.injEq, Value.int.injEq, PV.agg.injEq, List.cons.injEq, ob_eq, Ob.var.injEq, Ob.row.injEq, not_true_eq_false, not_false_eq_true]
      · simp only [decide_eq_false_iff_not] at h
        have htop : top l (k + 1) = k + 1 := by rw [top, if_neg h]
        have hcut : cut l = l.take (k + 1) := by rw [cut, ← ht, htop]
        have hc : (l.take (k + 1)).length = k + 1 := by rw [List.length_take]; omega
        simp -implicitDefEqProofs only [go_sem, wrs, wru, Int.toNat_natCast, Nat.zero_add, Bool.not_false, Bool.not_true, Bool.or_true, Bool.false_or, List.contains_nil, Bool.or_false, Nat.reduceAdd, Nat.reduceMul, Nat.reduceSub, Nat.reduceBEq, Nat.reduceEqDiff, Nat.reduceLT, Nat.reduceLeDiff, Int.reduceToNat, Int.reduceLT, Int.reduceLE, Int.reduceAdd, Int.reduceSub, Int.reduceMul, Int.reduceNeg, Int.reduceEq, Int.reduceBEq, Int.reduceMod, Int.reduceGT, Int.reduceGE, Int.reduceBNe, Nat.reduceBNe, Int.natCast_nonneg, hc]
        repeat (with_reducible refine And.intro (by first | omega | decide) ?_)
        rw [hcut, hc] at hK
        refine ret_obs [(2, 0)] [.row 28 (.arr 4 .one) (ffs (l.take (k + 1)))] [.osl 0 [] 0 (k + 1)] rfl rfl ?_ ?_ hK
        · simp -implicitDefEqProofs only [go_sem, wrs, wru, Int.toNat_natCast, Nat.zero_add, Bool.not_false, Bool.not_true, Bool.or_true, Bool.false_or, List.contains_nil, Bool.or_false, Nat.reduceAdd, Nat.reduceMul, Nat.reduceSub, Nat.reduceBEq, Nat.reduceEqDiff, Nat.reduceLT, Nat.reduceLeDiff, Int.reduceToNat, Int.reduceLT, Int.reduceLE, Int.reduceAdd, Int.reduceSub, Int.reduceMul, Int.reduceNeg, Int.reduceEq, Int.reduceBEq, Int.reduceMod, Int.reduceGT, Int.reduceGE, Int.reduceBNe, Nat.reduceBNe, Int.natCast_nonneg, Option.some.injEq, PV.val.injEq, Value.int.injEq, PV.agg.injEq, List.cons.injEq, ob_eq, Ob.var.injEq, Ob.row.injEq, not_true_eq_false, not_false_eq_true]
        · simp -implicitDefEqProofs only [go_sem, wrs, wru, Int.toNat_natCast, Nat.zero_add, Bool.not_false, Bool.not_true, Bool.or_true, Bool.false_or, List.contains_nil, Bool.or_false, Nat.reduceAdd, Nat.reduceMul, Nat.reduceSub, Nat.reduceBEq, Nat.reduceEqDiff, Nat.reduceLT, Nat.reduceLeDiff, Int.reduceToNat, Int.reduceLT, Int.reduceLE, Int.reduceAdd, Int.reduceSub, Int.reduceMul, Int.reduceNeg, Int.reduceEq, Int.reduceBEq, Int.reduceMod, Int.reduceGT, Int.reduceGE, Int.reduceBNe, Nat.reduceBNe, Int.natCast_nonneg]
end Go.Proofs.Try.PMT

namespace Go.Proofs.Try.PMT
open Go Go.Proofs.PM Go.Proofs.PL Go.Proofs.Try
set_option maxRecDepth 4000

end Go.Proofs.Try.PMT

namespace Go.Proofs.Try.PMT
open Go Go.Proofs.PM Go.Proofs.PL Go.Proofs.Try
set_option maxRecDepth 4000

end Go.Proofs.Try.PMT

namespace Go.Proofs.Try.PMT
open Go Go.Proofs.PM Go.Proofs.PL Go.Proofs.Try
set_option maxRecDepth 4000

end Go.Proofs.Try.PMT

namespace Go.Proofs.Try.PMT
open Go Go.Proofs.PM Go.Proofs.PL Go.Proofs.Try
set_option maxRecDepth 4000

theorem put_lit {n : Int} (h0 : 0 ≤ n) (h1 : n < 18446744073709551616) : (ff 0).put [0] (.val (.int .u64 n)) = ff (of n) := by
  rw [ff_zero, ← of_limb ⟨h0, h1⟩]; rfl
end Go.Proofs.Try.PMT
