/- The law LagrangeMeets: it answers true. No conditions beyond that its arguments are what can be read. -/
import Derived.Test.YthmkfabfbmkdfaaDoorWLT
import Derived.Test.YthmkfabfbmkdfaaDoorPL17
import Derived.Test.YthmkfabfbmkdfaaDoorPCLagrangeMeets
set_option linter.all false
namespace Go.Proofs.Tryd.PMT
open Go Go.Proofs.PM Go.Proofs.PL Go.Proofs.Tryd
set_option maxRecDepth 4000
theorem put9 : (ff 0).put [0] (.val (.int .u64 9)) = ff (of 9) := by rw [ff_zero, ← lit 9 (by omega)]; rfl
set_option maxHeartbeats 2000000 in
theorem k_LagrangeMeets {la lb : List Int} (ha : ∀ n, n ∈ la → rawOk n) (hla : la.length ≤ 4398046511104) (hb : ∀ n, n ∈ lb → rawOk n) (hlb : lb.length ≤ 4398046511104) {K : PV → List Ob → Prop} (hK : K (bo true) []) :
    PSpec prog 12 [.vsl false (.arr 4 .one) (frs la), .vsl false (.arr 4 .one) (frs lb)] [] K := by
  refine sp_intagliolaw16_LagrangeMeets ?_
  simp only [pc_intagliolaw16_LagrangeMeets]
  simp -implicitDefEqProofs only [go_sem, wrs, wru, Int.toNat_natCast, Nat.zero_add, Bool.not_false, Bool.not_true, Bool.or_true, Bool.false_or, List.contains_nil, Bool.or_false, Nat.reduceAdd, Nat.reduceMul, Nat.reduceSub, Nat.reduceBEq, Nat.reduceEqDiff, Nat.reduceLT, Nat.reduceLeDiff, Int.reduceToNat, Int.reduceLT, Int.reduceLE, Int.reduceAdd, Int.reduceSub, Int.reduceMul, Int.reduceNeg, Int.reduceEq, Int.reduceBEq, Int.reduceMod, Int.reduceGT, Int.reduceGE, Int.reduceBNe, Nat.reduceBNe, Int.natCast_nonneg]
  refine k_law16_begun ?_
  simp -implicitDefEqProofs only [go_sem, wrs, wru, Int.toNat_natCast, Nat.zero_add, Bool.not_false, Bool.not_true, Bool.or_true, Bool.false_or, List.contains_nil, Bool.or_false, Nat.reduceAdd, Nat.reduceMul, Nat.reduceSub, Nat.reduceBEq, Nat.reduceEqDiff, Nat.reduceLT, Nat.reduceLeDiff, Int.reduceToNat, Int.reduceLT, Int.reduceLE, Int.reduceAdd, Int.reduceSub, Int.reduceMul, Int.reduceNeg, Int.reduceEq, Int.reduceBEq, Int.reduceMod, Int.reduceGT, Int.reduceGE, Int.reduceBNe, Nat.reduceBNe, Int.natCast_nonneg]
  refine k_law14_May ha hla (fun ha2 h12 => ?_) ?_
  rotate_left
  · simp -implicitDefEqProofs only [go_sem, wrs, wru, Int.toNat_natCast, Nat.zero_add, Bool.not_false, Bool.not_true, Bool.or_true, Bool.false_or, List.contains_nil, Bool.or_false, Nat.reduceAdd, Nat.reduceMul, Nat.reduceSub, Nat.reduceBEq, Nat.reduceEqDiff, Nat.reduceLT, Nat.reduceLeDiff, Int.reduceToNat, Int.reduceLT, Int.reduceLE, Int.reduceAdd, Int.reduceSub, Int.reduceMul, Int.reduceNeg, Int.reduceEq, Int.reduceBEq, Int.reduceMod, Int.reduceGT, Int.reduceGE, Int.reduceBNe, Nat.reduceBNe, Int.natCast_nonneg]
    exact ret_plain rfl hK
  simp -implicitDefEqProofs only [go_sem, wrs, wru, Int.toNat_natCast, Nat.zero_add, Bool.not_false, Bool.not_true, Bool.or_true, Bool.false_or, List.contains_nil, Bool.or_false, Nat.reduceAdd, Nat.reduceMul, Nat.reduceSub, Nat.reduceBEq, Nat.reduceEqDiff, Nat.reduceLT, Nat.reduceLeDiff, Int.reduceToNat, Int.reduceLT, Int.reduceLE, Int.reduceAdd, Int.reduceSub, Int.reduceMul, Int.reduceNeg, Int.reduceEq, Int.reduceBEq, Int.reduceMod, Int.reduceGT, Int.reduceGE, Int.reduceBNe, Nat.reduceBNe, Int.natCast_nonneg]
  refine k_law14_May hb hlb (fun hb2 g12 => ?_) ?_
  rotate_left
  · simp -implicitDefEqProofs only [go_sem, wrs, wru, Int.toNat_natCast, Nat.zero_add, Bool.not_false, Bool.not_true, Bool.or_true, Bool.false_or, List.contains_nil, Bool.or_false, Nat.reduceAdd, Nat.reduceMul, Nat.reduceSub, Nat.reduceBEq, Nat.reduceEqDiff, Nat.reduceLT, Nat.reduceLeDiff, Int.reduceToNat, Int.reduceLT, Int.reduceLE, Int.reduceAdd, Int.reduceSub, Int.reduceMul, Int.reduceNeg, Int.reduceEq, Int.reduceBEq, Int.reduceMod, Int.reduceGT, Int.reduceGE, Int.reduceBNe, Nat.reduceBNe, Int.natCast_nonneg]
    exact ret_plain rfl hK
  obtain ⟨fp, ea, el⟩ := frs_ffs (l := la) fun n hn => ⟨(ha n hn).1, ha2 n hn⟩
  obtain ⟨xs, eb, fl⟩ := frs_ffs (l := lb) fun n hn => ⟨(hb n hn).1, hb2 n hn⟩
  rw [ea, eb]
  rw [← el] at hla h12
  rw [← fl] at hlb g12
  clear ha hb ha2 hb2 ea eb el fl
  obtain ⟨r, hr⟩ : ∃ r : Nat → F, (fun i => hor (xs.getD i 0) fp) = r := ⟨_, rfl⟩
  have hri : ∀ i, hor (xs.getD i 0) fp = r i := fun i => by rw [← hr]
  clear hr
  simp -implicitDefEqProofs only [go_sem, wrs, wru, Int.toNat_natCast, Nat.zero_add, Bool.not_false, Bool.not_true, Bool.or_true, Bool.false_or, List.contains_nil, Bool.or_false, Nat.reduceAdd, Nat.reduceMul, Nat.reduceSub, Nat.reduceBEq, Nat.reduceEqDiff, Nat.reduceLT, Nat.reduceLeDiff, Int.reduceToNat, Int.reduceLT, Int.reduceLE, Int.reduceAdd, Int.reduceSub, Int.reduceMul, Int.reduceNeg, Int.reduceEq, Int.reduceBEq, Int.reduceMod, Int.reduceGT, Int.reduceGE, Int.reduceBNe, Nat.reduceBNe, Int.natCast_nonneg]
  refine loop_fam (ι := { i : Nat // i ≤ xs.length }) [5, 6, 7, 8, 12, 13, 14, 15, 16, 17, 18, 19, 20, 21, 22, 23, 24, 25, 26, 27, 28, 29, 30, 31, 32, 33, 34, 35, 36, 37, 38, 39, 40, 41, 42, 43, 44, 45, 46, 47, 48, 49, 50, 51, 52, 53] (fun i => [(5, .osl 0 [] 0 i.1), (6, bo (twI xs i.1)), (7, i64 i.1)])
    (fun i => [(0, .ob (.row 33 (.arr 4 .one) (ffs (PL.tab i.1 r))))]) 1 (fun i => xs.length - i.1) ⟨0, Nat.zero_le _⟩ ?_ ?_
  · rw [famS_eq]
    refine weak_plain [(0, 0)] rfl rfl rfl ?_ ?_
    · simp -implicitDefEqProofs only [go_sem, wrs, wru, Int.toNat_natCast, Nat.zero_add, Bool.not_false, Bool.not_true, Bool.or_true, Bool.false_or, List.contains_nil, Bool.or_false, Nat.reduceAdd, Nat.reduceMul, Nat.reduceSub, Nat.reduceBEq, Nat.reduceEqDiff, Nat.reduceLT, Nat.reduceLeDiff, Int.reduceToNat, Int.reduceLT, Int.reduceLE, Int.reduceAdd, Int.reduceSub, Int.reduceMul, Int.reduceNeg, Int.reduceEq, Int.reduceBEq, Int.reduceMod, Int.reduceGT, Int.reduceGE, Int.reduceBNe, Nat.reduceBNe, Int.natCast_nonneg, Option.some.injEq, PV.val.injEq, Value.int.injEq, PV.agg.injEq, List.cons.injEq, ob_eq, Ob.var.injEq, Ob.row.injEq, not_true_eq_false, not_false_eq_true, PL.tab]
      try rfl
    · simp -implicitDefEqProofs only [go_sem, wrs, wru, Int.toNat_natCast, Nat.zero_add, Bool.not_false, Bool.not_true, Bool.or_true, Bool.false_or, List.contains_nil, Bool.or_false, Nat.reduceAdd, Nat.reduceMul, Nat.reduceSub, Nat.reduceBEq, Nat.reduceEqDiff, Nat.reduceLT, Nat.reduceLeDiff, Int.reduceToNat, Int.reduceLT, Int.reduceLE, Int.reduceAdd, Int.reduceSub, Int.reduceMul, Int.reduceNeg, Int.reduceEq, Int.reduceBEq, Int.reduceMod, Int.reduceGT, Int.reduceGE, Int.reduceBNe, Nat.reduceBNe, Int.natCast_nonneg, Option.some.injEq, PV.val.injEq, Value.int.injEq, PV.agg.injEq, List.cons.injEq, ob_eq, Ob.var.injEq, Ob.row.injEq, not_true_eq_false, not_false_eq_true, twI]
      try rfl
  intro ⟨i, hi⟩ G hG
  have tl := PL.tab_len i r
  have hIS : twI xs (i + 1) = twJ xs i (twI xs i) i := rfl
  simp -implicitDefEqProofs only [go_sem, wrs, wru, Int.toNat_natCast, Nat.zero_add, Bool.not_false, Bool.not_true, Bool.or_true, Bool.false_or, List.contains_nil, Bool.or_false, Nat.reduceAdd, Nat.reduceMul, Nat.reduceSub, Nat.reduceBEq, Nat.reduceEqDiff, Nat.reduceLT, Nat.reduceLeDiff, Int.reduceToNat, Int.reduceLT, Int.reduceLE, Int.reduceAdd, Int.reduceSub, Int.reduceMul, Int.reduceNeg, Int.reduceEq, Int.reduceBEq, Int.reduceMod, Int.reduceGT, Int.reduceGE, Int.reduceBNe, Nat.reduceBNe, Int.natCast_nonneg]
  refine cnd_split (fun h => ?_) (fun h => ?_)
  · simp only [decide_eq_true_eq] at h
    have hix : i < xs.length := by omega
    have w3 : IntKind.i64.wrap ((i : Int) + 1) = ((i + 1 : Nat) : Int) := by rw [wrs (by omega) (by omega)]; omega
    simp -implicitDefEqProofs only [go_sem, wrs, wru, Int.toNat_natCast, Nat.zero_add, Bool.not_false, Bool.not_true, Bool.or_true, Bool.false_or, List.contains_nil, Bool.or_false, Nat.reduceAdd, Nat.reduceMul, Nat.reduceSub, Nat.reduceBEq, Nat.reduceEqDiff, Nat.reduceLT, Nat.reduceLeDiff, Int.reduceToNat, Int.reduceLT, Int.reduceLE, Int.reduceAdd, Int.reduceSub, Int.reduceMul, Int.reduceNeg, Int.reduceEq, Int.reduceBEq, Int.reduceMod, Int.reduceGT, Int.reduceGE, Int.reduceBNe, Nat.reduceBNe, Int.natCast_nonneg, h, getD_ffs hix]
    repeat (with_reducible refine And.intro (by first | omega | decide) ?_)
    refine k_r12_At (by omega) ?_
    rw [hri]
    simp -implicitDefEqProofs only [go_sem, wrs, wru, Int.toNat_natCast, Nat.zero_add, Bool.not_false, Bool.not_true, Bool.or_true, Bool.false_or, List.contains_nil, Bool.or_false, Nat.reduceAdd, Nat.reduceMul, Nat.reduceSub, Nat.reduceBEq, Nat.reduceEqDiff, Nat.reduceLT, Nat.reduceLeDiff, Int.reduceToNat, Int.reduceLT, Int.reduceLE, Int.reduceAdd, Int.reduceSub, Int.reduceMul, Int.reduceNeg, Int.reduceEq, Int.reduceBEq, Int.reduceMod, Int.reduceGT, Int.reduceGE, Int.reduceBNe, Nat.reduceBNe, Int.natCast_nonneg, h, tl, take1, len1, has1, true_and]
    repeat (with_reducible refine And.intro (by first | omega | decide) ?_)
    refine loop_fam (ι := { k : Nat // k ≤ i }) [6, 8, 22, 23, 24, 25, 26, 27, 28, 29, 30, 31, 32, 33, 34, 35, 36, 37, 38, 39, 40, 41, 42, 43, 44, 45, 46, 47, 48, 49, 50, 51, 52, 53] (fun k => [(5, .osl 0 [] 0 (i + 1)), (6, bo (twJ xs i (twI xs i) k.1)), (8, i64 k.1)])
      (fun _ => [(0, .ob (.row 33 (.arr 4 .one) (ffs (PL.tab (i + 1) r))))]) 1 (fun k => i - k.1) ⟨0, Nat.zero_le _⟩ ?_ ?_
    · rw [famS_eq]
      refine weak_plain [(2, 0)] rfl rfl rfl ?_ ?_
      · simp -implicitDefEqProofs only [go_sem, wrs, wru, Int.toNat_natCast, Nat.zero_add, Bool.not_false, Bool.not_true, Bool.or_true, Bool.false_or, List.contains_nil, Bool.or_false, Nat.reduceAdd, Nat.reduceMul, Nat.reduceSub, Nat.reduceBEq, Nat.reduceEqDiff, Nat.reduceLT, Nat.reduceLeDiff, Int.reduceToNat, Int.reduceLT, Int.reduceLE, Int.reduceAdd, Int.reduceSub, Int.reduceMul, Int.reduceNeg, Int.reduceEq, Int.reduceBEq, Int.reduceMod, Int.reduceGT, Int.reduceGE, Int.reduceBNe, Nat.reduceBNe, Int.natCast_nonneg, Option.some.injEq, PV.val.injEq, Value.int.injEq, PV.agg.injEq, List.cons.injEq, ob_eq, Ob.var.injEq, Ob.row.injEq, not_true_eq_false, not_false_eq_true, ← ffs_tab]
      · simp -implicitDefEqProofs only [go_sem, wrs, wru, Int.toNat_natCast, Nat.zero_add, Bool.not_false, Bool.not_true, Bool.or_true, Bool.false_or, List.contains_nil, Bool.or_false, Nat.reduceAdd, Nat.reduceMul, Nat.reduceSub, Nat.reduceBEq, Nat.reduceEqDiff, Nat.reduceLT, Nat.reduceLeDiff, Int.reduceToNat, Int.reduceLT, Int.reduceLE, Int.reduceAdd, Int.reduceSub, Int.reduceMul, Int.reduceNeg, Int.reduceEq, Int.reduceBEq, Int.reduceMod, Int.reduceGT, Int.reduceGE, Int.reduceBNe, Nat.reduceBNe, Int.natCast_nonneg, Option.some.injEq, PV.val.injEq, Value.int.injEq, PV.agg.injEq, List.cons.injEq, ob_eq, Ob.var.injEq, Ob.row.injEq, not_true_eq_false, not_false_eq_true, twJ]
    intro ⟨k, hk⟩ G2 hG2
    have hJS : twJ xs i (twI xs i) (k + 1) = (twJ xs i (twI xs i) k || decide (xs.getD i 0 = xs.getD k 0)) := rfl
    simp -implicitDefEqProofs only [go_sem, wrs, wru, Int.toNat_natCast, Nat.zero_add, Bool.not_false, Bool.not_true, Bool.or_true, Bool.false_or, List.contains_nil, Bool.or_false, Nat.reduceAdd, Nat.reduceMul, Nat.reduceSub, Nat.reduceBEq, Nat.reduceEqDiff, Nat.reduceLT, Nat.reduceLeDiff, Int.reduceToNat, Int.reduceLT, Int.reduceLE, Int.reduceAdd, Int.reduceSub, Int.reduceMul, Int.reduceNeg, Int.reduceEq, Int.reduceBEq, Int.reduceMod, Int.reduceGT, Int.reduceGE, Int.reduceBNe, Nat.reduceBNe, Int.natCast_nonneg]
    obtain ⟨tb, htb⟩ : ∃ tb, twJ xs i (twI xs i) k = tb := ⟨_, rfl⟩
    rw [htb] at hJS
    refine cnd_split (fun h2 => ?_) (fun h2 => ?_)
    · simp only [decide_eq_true_eq] at h2
      have hkx : k < xs.length := by omega
      have w4 : IntKind.i64.wrap ((k : Int) + 1) = ((k + 1 : Nat) : Int) := by rw [wrs (by omega) (by omega)]; omega
      cases tb
      · rw [Bool.false_or] at hJS
        simp -implicitDefEqProofs only [go_sem, wrs, wru, Int.toNat_natCast, Nat.zero_add, Bool.not_false, Bool.not_true, Bool.or_true, Bool.false_or, List.contains_nil, Bool.or_false, Nat.reduceAdd, Nat.reduceMul, Nat.reduceSub, Nat.reduceBEq, Nat.reduceEqDiff, Nat.reduceLT, Nat.reduceLeDiff, Int.reduceToNat, Int.reduceLT, Int.reduceLE, Int.reduceAdd, Int.reduceSub, Int.reduceMul, Int.reduceNeg, Int.reduceEq, Int.reduceBEq, Int.reduceMod, Int.reduceGT, Int.reduceGE, Int.reduceBNe, Nat.reduceBNe, Int.natCast_nonneg, h2, htb, w4, getD_ffs hix, getD_ffs hkx, ff_beq]
        repeat (with_reducible refine And.intro (by first | omega | decide) ?_)
        refine hG2 _ ⟨k + 1, by omega⟩ (by simp only; omega) ?_
        rw [famS_eq]
        refine weak_plain [(0, 0)] rfl rfl rfl ?_ ?_
        · simp -implicitDefEqProofs only [go_sem, wrs, wru, Int.toNat_natCast, Nat.zero_add, Bool.not_false, Bool.not_true, Bool.or_true, Bool.false_or, List.contains_nil, Bool.or_false, Nat.reduceAdd, Nat.reduceMul, Nat.reduceSub, Nat.reduceBEq, Nat.reduceEqDiff, Nat.reduceLT, Nat.reduceLeDiff, Int.reduceToNat, Int.reduceLT, Int.reduceLE, Int.reduceAdd, Int.reduceSub, Int.reduceMul, Int.reduceNeg, Int.reduceEq, Int.reduceBEq, Int.reduceMod, Int.reduceGT, Int.reduceGE, Int.reduceBNe, Nat.reduceBNe, Int.natCast_nonneg, Option.some.injEq, PV.val.injEq, Value.int.injEq, PV.agg.injEq, List.cons.injEq, ob_eq, Ob.var.injEq, Ob.row.injEq, not_true_eq_false, not_false_eq_true]
        · simp -implicitDefEqProofs only [go_sem, wrs, wru, Int.toNat_natCast, Nat.zero_add, Bool.not_false, Bool.not_true, Bool.or_true, Bool.false_or, List.contains_nil, Bool.or_false, Nat.reduceAdd, Nat.reduceMul, Nat.reduceSub, Nat.reduceBEq, Nat.reduceEqDiff, Nat.reduceLT, Nat.reduceLeDiff, Int.reduceToNat, Int.reduceLT, Int.reduceLE, Int.reduceAdd, Int.reduceSub, Int.reduceMul, Int.reduceNeg, Int.reduceEq, Int.reduceBEq, Int.reduceMod, Int.reduceGT, Int.reduceGE, Int.reduceBNe, Nat.reduceBNe, Int.natCast_nonneg, Option.some.injEq, PV.val.injEq, Value.int.injEq, PV.agg.injEq, List.cons.injEq, ob_eq, Ob.var.injEq, Ob.row.injEq, not_true_eq_false, not_false_eq_true, hJS]
      · rw [Bool.true_or] at hJS
        simp -implicitDefEqProofs only [go_sem, wrs, wru, Int.toNat_natCast, Nat.zero_add, Bool.not_false, Bool.not_true, Bool.or_true, Bool.false_or, List.contains_nil, Bool.or_false, Nat.reduceAdd, Nat.reduceMul, Nat.reduceSub, Nat.reduceBEq, Nat.reduceEqDiff, Nat.reduceLT, Nat.reduceLeDiff, Int.reduceToNat, Int.reduceLT, Int.reduceLE, Int.reduceAdd, Int.reduceSub, Int.reduceMul, Int.reduceNeg, Int.reduceEq, Int.reduceBEq, Int.reduceMod, Int.reduceGT, Int.reduceGE, Int.reduceBNe, Nat.reduceBNe, Int.natCast_nonneg, h2, htb, w4, getD_ffs hix, getD_ffs hkx, ff_beq]
        refine hG2 _ ⟨k + 1, by omega⟩ (by simp only; omega) ?_
        rw [famS_eq]
        refine weak_plain [(0, 0)] rfl rfl rfl ?_ ?_
        · simp -implicitDefEqProofs only [go_sem, wrs, wru, Int.toNat_natCast, Nat.zero_add, Bool.not_false, Bool.not_true, Bool.or_true, Bool.false_or, List.contains_nil, Bool.or_false, Nat.reduceAdd, Nat.reduceMul, Nat.reduceSub, Nat.reduceBEq, Nat.reduceEqDiff, Nat.reduceLT, Nat.reduceLeDiff, Int.reduceToNat, Int.reduceLT, Int.reduceLE, Int.reduceAdd, Int.reduceSub, Int.reduceMul, Int.reduceNeg, Int.reduceEq, Int.reduceBEq, Int.reduceMod, Int.reduceGT, Int.reduceGE, Int.reduceBNe, Nat.reduceBNe, Int.natCast_nonneg, Option.some.injEq, PV.val.injEq, Value.int.injEq, PV.agg.injEq, List.cons.injEq, ob_eq, Ob.var.injEq, Ob.row.injEq, not_true_eq_false, not_false_eq_true]
        · simp -implicitDefEqProofs only [go_sem, wrs, wru, Int.toNat_natCast, Nat.zero_add, Bool.not_false, Bool.not_true, Bool.or_true, Bool.false_or, List.contains_nil, Bool.or_false, Nat.reduceAdd, Nat.reduceMul, Nat.reduceSub, Nat.reduceBEq, Nat.reduceEqDiff, Nat.reduceLT, Nat.reduceLeDiff, Int.reduceToNat, Int.reduceLT, Int.reduceLE, Int.reduceAdd, Int.reduceSub, Int.reduceMul, Int.reduceNeg, Int.reduceEq, Int.reduceBEq, Int.reduceMod, Int.reduceGT, Int.reduceGE, Int.reduceBNe, Nat.reduceBNe, Int.natCast_nonneg, Option.some.injEq, PV.val.injEq, Value.int.injEq, PV.agg.injEq, List.cons.injEq, ob_eq, Ob.var.injEq, Ob.row.injEq, not_true_eq_false, not_false_eq_true, hJS]
    simp only [decide_eq_false_iff_not] at h2
    have hke : k = i := by omega
    subst hke
    clear hG2
    simp -implicitDefEqProofs only [go_sem, wrs, wru, Int.toNat_natCast, Nat.zero_add, Bool.not_false, Bool.not_true, Bool.or_true, Bool.false_or, List.contains_nil, Bool.or_false, Nat.reduceAdd, Nat.reduceMul, Nat.reduceSub, Nat.reduceBEq, Nat.reduceEqDiff, Nat.reduceLT, Nat.reduceLeDiff, Int.reduceToNat, Int.reduceLT, Int.reduceLE, Int.reduceAdd, Int.reduceSub, Int.reduceMul, Int.reduceNeg, Int.reduceEq, Int.reduceBEq, Int.reduceMod, Int.reduceGT, Int.reduceGE, Int.reduceBNe, Nat.reduceBNe, Int.natCast_nonneg, w3]
    refine hG _ ⟨k + 1, by omega⟩ (by simp only; omega) ?_
    rw [famS_eq]
    refine weak_plain [(0, 0)] rfl rfl rfl ?_ ?_
    · simp -implicitDefEqProofs only [go_sem, wrs, wru, Int.toNat_natCast, Nat.zero_add, Bool.not_false, Bool.not_true, Bool.or_true, Bool.false_or, List.contains_nil, Bool.or_false, Nat.reduceAdd, Nat.reduceMul, Nat.reduceSub, Nat.reduceBEq, Nat.reduceEqDiff, Nat.reduceLT, Nat.reduceLeDiff, Int.reduceToNat, Int.reduceLT, Int.reduceLE, Int.reduceAdd, Int.reduceSub, Int.reduceMul, Int.reduceNeg, Int.reduceEq, Int.reduceBEq, Int.reduceMod, Int.reduceGT, Int.reduceGE, Int.reduceBNe, Nat.reduceBNe, Int.natCast_nonneg, Option.some.injEq, PV.val.injEq, Value.int.injEq, PV.agg.injEq, List.cons.injEq, ob_eq, Ob.var.injEq, Ob.row.injEq, not_true_eq_false, not_false_eq_true]
    · simp -implicitDefEqProofs only [go_sem, wrs, wru, Int.toNat_natCast, Nat.zero_add, Bool.not_false, Bool.not_true, Bool.or_true, Bool.false_or, List.contains_nil, Bool.or_false, Nat.reduceAdd, Nat.reduceMul, Nat.reduceSub, Nat.reduceBEq, Nat.reduceEqDiff, Nat.reduceLT, Nat.reduceLeDiff, Int.reduceToNat, Int.reduceLT, Int.reduceLE, Int.reduceAdd, Int.reduceSub, Int.reduceMul, Int.reduceNeg, Int.reduceEq, Int.reduceBEq, Int.reduceMod, Int.reduceGT, Int.reduceGE, Int.reduceBNe, Nat.reduceBNe, Int.natCast_nonneg, Option.some.injEq, PV.val.injEq, Value.int.injEq, PV.agg.injEq, List.cons.injEq, ob_eq, Ob.var.injEq, Ob.row.injEq, not_true_eq_false, not_false_eq_true, hIS]
  simp only [decide_eq_false_iff_not] at h
  have hie : i = xs.length := by omega
  subst hie
  clear hG
  have tky : (PL.tab xs.length r).take xs.length = PL.tab xs.length r := List.take_of_length_le (by omega)
  simp -implicitDefEqProofs only [go_sem, wrs, wru, Int.toNat_natCast, Nat.zero_add, Bool.not_false, Bool.not_true, Bool.or_true, Bool.false_or, List.contains_nil, Bool.or_false, Nat.reduceAdd, Nat.reduceMul, Nat.reduceSub, Nat.reduceBEq, Nat.reduceEqDiff, Nat.reduceLT, Nat.reduceLeDiff, Int.reduceToNat, Int.reduceLT, Int.reduceLE, Int.reduceAdd, Int.reduceSub, Int.reduceMul, Int.reduceNeg, Int.reduceEq, Int.reduceBEq, Int.reduceMod, Int.reduceGT, Int.reduceGE, Int.reduceBNe, Nat.reduceBNe, Int.natCast_nonneg, tky]
  refine k_lag_Through (by omega) (by omega) (fun hd => ?_) fun hd => ?_
  · have htw := (tw_dup xs).2 hd
    simp -implicitDefEqProofs only [go_sem, wrs, wru, Int.toNat_natCast, Nat.zero_add, Bool.not_false, Bool.not_true, Bool.or_true, Bool.false_or, List.contains_nil, Bool.or_false, Nat.reduceAdd, Nat.reduceMul, Nat.reduceSub, Nat.reduceBEq, Nat.reduceEqDiff, Nat.reduceLT, Nat.reduceLeDiff, Int.reduceToNat, Int.reduceLT, Int.reduceLE, Int.reduceAdd, Int.reduceSub, Int.reduceMul, Int.reduceNeg, Int.reduceEq, Int.reduceBEq, Int.reduceMod, Int.reduceGT, Int.reduceGE, Int.reduceBNe, Nat.reduceBNe, Int.natCast_nonneg, htw, List.length_nil]
    exact ret_plain rfl hK
  have htw : twI xs xs.length = false := by
    cases htw : twI xs xs.length
    · rfl
    · exact absurd ((tw_dup xs).1 htw) hd
  have thl := thS_len xs (PL.tab xs.length r) xs.length
  have hat : ∀ j, j < xs.length → hor (xs.getD j 0) (thS xs (PL.tab xs.length r) xs.length) = r j := fun j hj => by
    rw [th_at (by omega) hd hj _ (Nat.le_refl _), if_pos hj, PL.tab_get, if_pos hj]
  have hme := meets (fp := fp) (ys := PL.tab xs.length r) hd (by omega)
  have hme2 : (cut fp).length ≤ xs.length → thS xs (PL.tab xs.length r) xs.length = cut fp := fun h => hme h fun j hj => by rw [PL.tab_get, if_pos hj, hri]
  clear hme
  generalize thS xs (PL.tab xs.length r) xs.length = g at *
  simp -implicitDefEqProofs only [go_sem, wrs, wru, Int.toNat_natCast, Nat.zero_add, Bool.not_false, Bool.not_true, Bool.or_true, Bool.false_or, List.contains_nil, Bool.or_false, Nat.reduceAdd, Nat.reduceMul, Nat.reduceSub, Nat.reduceBEq, Nat.reduceEqDiff, Nat.reduceLT, Nat.reduceLeDiff, Int.reduceToNat, Int.reduceLT, Int.reduceLE, Int.reduceAdd, Int.reduceSub, Int.reduceMul, Int.reduceNeg, Int.reduceEq, Int.reduceBEq, Int.reduceMod, Int.reduceGT, Int.reduceGE, Int.reduceBNe, Nat.reduceBNe, Int.natCast_nonneg, htw]
  refine loop_fam (ι := { k : Nat // k ≤ xs.length }) [4, 8, 11, 12, 13, 14, 15, 16, 17, 18, 19, 20, 21, 22, 23, 24, 25, 26, 27, 28, 29, 30, 31, 32, 33, 34, 35, 36, 37, 38, 39, 40, 41, 42, 43, 44, 45, 46, 47, 48, 49, 50, 51, 52, 53, 54, 55, 56, 57, 58, 59, 60, 61, 62, 63, 64, 65, 66, 67, 68, 69, 70, 71, 72, 73, 74, 75, 76, 77, 78, 79, 80, 81, 82, 83, 84] (fun k => [(5, .osl 0 [] 0 xs.length), (9, .osl 1 [] 0 g.length), (11, i64 k.1)])
    (fun _ => [(0, .ob (.row 33 (.arr 4 .one) (ffs (PL.tab xs.length r)))), (1, .ob (.row 33 (.arr 4 .one) (ffs g)))]) 2 (fun k => xs.length - k.1) ⟨0, Nat.zero_le _⟩ ?_ ?_
  · rw [famS_eq]
    refine weak_plain [(0, 0), (1, 1)] rfl rfl rfl ?_ ?_
    · simp -implicitDefEqProofs only [go_sem, wrs, wru, Int.toNat_natCast, Nat.zero_add, Bool.not_false, Bool.not_true, Bool.or_true, Bool.false_or, List.contains_nil, Bool.or_false, Nat.reduceAdd, Nat.reduceMul, Nat.reduceSub, Nat.reduceBEq, Nat.reduceEqDiff, Nat.reduceLT, Nat.reduceLeDiff, Int.reduceToNat, Int.reduceLT, Int.reduceLE, Int.reduceAdd, Int.reduceSub, Int.reduceMul, Int.reduceNeg, Int.reduceEq, Int.reduceBEq, Int.reduceMod, Int.reduceGT, Int.reduceGE, Int.reduceBNe, Nat.reduceBNe, Int.natCast_nonneg, Option.some.injEq, PV.val.injEq, Value.int.injEq, PV.agg.injEq, List.cons.injEq, ob_eq, Ob.var.injEq, Ob.row.injEq, not_true_eq_false, not_false_eq_true]
    · simp -implicitDefEqProofs only [go_sem, wrs, wru, Int.toNat_natCast, Nat.zero_add, Bool.not_false, Bool.not_true, Bool.or_true, Bool.false_or, List.contains_nil, Bool.or_false, Nat.reduceAdd, Nat.reduceMul, Nat.reduceSub, Nat.reduceBEq, Nat.reduceEqDiff, Nat.reduceLT, Nat.reduceLeDiff, Int.reduceToNat, Int.reduceLT, Int.reduceLE, Int.reduceAdd, Int.reduceSub, Int.reduceMul, Int.reduceNeg, Int.reduceEq, Int.reduceBEq, Int.reduceMod, Int.reduceGT, Int.reduceGE, Int.reduceBNe, Nat.reduceBNe, Int.natCast_nonneg, Option.some.injEq, PV.val.injEq, Value.int.injEq, PV.agg.injEq, List.cons.injEq, ob_eq, Ob.var.injEq, Ob.row.injEq, not_true_eq_false, not_false_eq_true]
  intro ⟨k, hk⟩ G hG
  simp -implicitDefEqProofs only [go_sem, wrs, wru, Int.toNat_natCast, Nat.zero_add, Bool.not_false, Bool.not_true, Bool.or_true, Bool.false_or, List.contains_nil, Bool.or_false, Nat.reduceAdd, Nat.reduceMul, Nat.reduceSub, Nat.reduceBEq, Nat.reduceEqDiff, Nat.reduceLT, Nat.reduceLeDiff, Int.reduceToNat, Int.reduceLT, Int.reduceLE, Int.reduceAdd, Int.reduceSub, Int.reduceMul, Int.reduceNeg, Int.reduceEq, Int.reduceBEq, Int.reduceMod, Int.reduceGT, Int.reduceGE, Int.reduceBNe, Nat.reduceBNe, Int.natCast_nonneg]
  refine cnd_split (fun h2 => ?_) (fun h2 => ?_)
  · simp only [decide_eq_true_eq] at h2
    have hkx : k < xs.length := by omega
    have hkt : k < (PL.tab xs.length r).length := by omega
    have w4 : IntKind.i64.wrap ((k : Int) + 1) = ((k + 1 : Nat) : Int) := by rw [wrs (by omega) (by omega)]; omega
    have hg2 : (PL.tab xs.length r).getD k 0 = r k := by rw [PL.tab_get, if_pos hkx]
    simp -implicitDefEqProofs only [go_sem, wrs, wru, Int.toNat_natCast, Nat.zero_add, Bool.not_false, Bool.not_true, Bool.or_true, Bool.false_or, List.contains_nil, Bool.or_false, Nat.reduceAdd, Nat.reduceMul, Nat.reduceSub, Nat.reduceBEq, Nat.reduceEqDiff, Nat.reduceLT, Nat.reduceLeDiff, Int.reduceToNat, Int.reduceLT, Int.reduceLE, Int.reduceAdd, Int.reduceSub, Int.reduceMul, Int.reduceNeg, Int.reduceEq, Int.reduceBEq, Int.reduceMod, Int.reduceGT, Int.reduceGE, Int.reduceBNe, Nat.reduceBNe, Int.natCast_nonneg, h2, getD_ffs hkx, getD_ffs hkt, hg2, List.take_length]
    repeat (with_reducible refine And.intro (by first | omega | decide) ?_)
    refine k_r12_At (by omega) ?_
    rw [hat k hkx]
    simp -implicitDefEqProofs only [go_sem, wrs, wru, Int.toNat_natCast, Nat.zero_add, Bool.not_false, Bool.not_true, Bool.or_true, Bool.false_or, List.contains_nil, Bool.or_false, Nat.reduceAdd, Nat.reduceMul, Nat.reduceSub, Nat.reduceBEq, Nat.reduceEqDiff, Nat.reduceLT, Nat.reduceLeDiff, Int.reduceToNat, Int.reduceLT, Int.reduceLE, Int.reduceAdd, Int.reduceSub, Int.reduceMul, Int.reduceNeg, Int.reduceEq, Int.reduceBEq, Int.reduceMod, Int.reduceGT, Int.reduceGE, Int.reduceBNe, Nat.reduceBNe, Int.natCast_nonneg, h2, w4, getD_ffs hkt, hg2, beqU rfl]
    repeat (with_reducible refine And.intro (by first | omega | decide) ?_)
    refine hG _ ⟨k + 1, by omega⟩ (by simp only; omega) ?_
    rw [famS_eq]
    refine weak_plain [(0, 0), (1, 1)] rfl rfl rfl ?_ ?_
    · simp -implicitDefEqProofs only [go_sem, wrs, wru, Int.toNat_natCast, Nat.zero_add, Bool.not_false, Bool.not_true, Bool.or_true, Bool.false_or, List.contains_nil, Bool.or_false, Nat.reduceAdd, Nat.reduceMul, Nat.reduceSub, Nat.reduceBEq, Nat.reduceEqDiff, Nat.reduceLT, Nat.reduceLeDiff, Int.reduceToNat, Int.reduceLT, Int.reduceLE, Int.reduceAdd, Int.reduceSub, Int.reduceMul, Int.reduceNeg, Int.reduceEq, Int.reduceBEq, Int.reduceMod, Int.reduceGT, Int.reduceGE, Int.reduceBNe, Nat.reduceBNe, Int.natCast_nonneg, Option.some.injEq, PV.val.injEq, Value.int.injEq, PV.agg.injEq, List.cons.injEq, ob_eq, Ob.var.injEq, Ob.row.injEq, not_true_eq_false, not_false_eq_true]
    · simp -implicitDefEqProofs only [go_sem, wrs, wru, Int.toNat_natCast, Nat.zero_add, Bool.not_false, Bool.not_true, Bool.or_true, Bool.false_or, List.contains_nil, Bool.or_false, Nat.reduceAdd, Nat.reduceMul, Nat.reduceSub, Nat.reduceBEq, Nat.reduceEqDiff, Nat.reduceLT, Nat.reduceLeDiff, Int.reduceToNat, Int.reduceLT, Int.reduceLE, Int.reduceAdd, Int.reduceSub, Int.reduceMul, Int.reduceNeg, Int.reduceEq, Int.reduceBEq, Int.reduceMod, Int.reduceGT, Int.reduceGE, Int.reduceBNe, Nat.reduceBNe, Int.natCast_nonneg, Option.some.injEq, PV.val.injEq, Value.int.injEq, PV.agg.injEq, List.cons.injEq, ob_eq, Ob.var.injEq, Ob.row.injEq, not_true_eq_false, not_false_eq_true]
  clear hG
  have hcl := cut_le fp
  have hgl : (g.length : Int) ≤ (xs.length : Int) := by omega
  simp only [decide_eq_false_iff_not] at h2
  obtain ⟨y, hy⟩ : ∃ y, hor (of 9) g = y := ⟨_, rfl⟩
  have hyr := vi_rng y
  simp -implicitDefEqProofs only [go_sem, wrs, wru, Int.toNat_natCast, Nat.zero_add, Bool.not_false, Bool.not_true, Bool.or_true, Bool.false_or, List.contains_nil, Bool.or_false, Nat.reduceAdd, Nat.reduceMul, Nat.reduceSub, Nat.reduceBEq, Nat.reduceEqDiff, Nat.reduceLT, Nat.reduceLeDiff, Int.reduceToNat, Int.reduceLT, Int.reduceLE, Int.reduceAdd, Int.reduceSub, Int.reduceMul, Int.reduceNeg, Int.reduceEq, Int.reduceBEq, Int.reduceMod, Int.reduceGT, Int.reduceGE, Int.reduceBNe, Nat.reduceBNe, Int.natCast_nonneg, h2, decide_false, hgl, decide_true]
  refine k_r12_Cut (by omega) ?_
  by_cases hlt : (xs.length : Int) < ((cut fp).length : Int)
  · simp -implicitDefEqProofs only [go_sem, wrs, wru, Int.toNat_natCast, Nat.zero_add, Bool.not_false, Bool.not_true, Bool.or_true, Bool.false_or, List.contains_nil, Bool.or_false, Nat.reduceAdd, Nat.reduceMul, Nat.reduceSub, Nat.reduceBEq, Nat.reduceEqDiff, Nat.reduceLT, Nat.reduceLeDiff, Int.reduceToNat, Int.reduceLT, Int.reduceLE, Int.reduceAdd, Int.reduceSub, Int.reduceMul, Int.reduceNeg, Int.reduceEq, Int.reduceBEq, Int.reduceMod, Int.reduceGT, Int.reduceGE, Int.reduceBNe, Nat.reduceBNe, Int.natCast_nonneg, hlt, decide_true, put9, List.take_length]
    refine k_r12_At (x := of 9) (by omega) ?_
    rw [hy]
    simp -implicitDefEqProofs only [go_sem, wrs, wru, Int.toNat_natCast, Nat.zero_add, Bool.not_false, Bool.not_true, Bool.or_true, Bool.false_or, List.contains_nil, Bool.or_false, Nat.reduceAdd, Nat.reduceMul, Nat.reduceSub, Nat.reduceBEq, Nat.reduceEqDiff, Nat.reduceLT, Nat.reduceLeDiff, Int.reduceToNat, Int.reduceLT, Int.reduceLE, Int.reduceAdd, Int.reduceSub, Int.reduceMul, Int.reduceNeg, Int.reduceEq, Int.reduceBEq, Int.reduceMod, Int.reduceGT, Int.reduceGE, Int.reduceBNe, Nat.reduceBNe, Int.natCast_nonneg]
    refine k_ref_MayR (n := vi y) (by omega) ?_
    rw [decide_eq_true hyr.2]
    simp -implicitDefEqProofs only [go_sem, wrs, wru, Int.toNat_natCast, Nat.zero_add, Bool.not_false, Bool.not_true, Bool.or_true, Bool.false_or, List.contains_nil, Bool.or_false, Nat.reduceAdd, Nat.reduceMul, Nat.reduceSub, Nat.reduceBEq, Nat.reduceEqDiff, Nat.reduceLT, Nat.reduceLeDiff, Int.reduceToNat, Int.reduceLT, Int.reduceLE, Int.reduceAdd, Int.reduceSub, Int.reduceMul, Int.reduceNeg, Int.reduceEq, Int.reduceBEq, Int.reduceMod, Int.reduceGT, Int.reduceGE, Int.reduceBNe, Nat.reduceBNe, Int.natCast_nonneg]
    exact ret_plain rfl hK
  · have hgc := hme2 (by omega)
    simp -implicitDefEqProofs only [go_sem, wrs, wru, Int.toNat_natCast, Nat.zero_add, Bool.not_false, Bool.not_true, Bool.or_true, Bool.false_or, List.contains_nil, Bool.or_false, Nat.reduceAdd, Nat.reduceMul, Nat.reduceSub, Nat.reduceBEq, Nat.reduceEqDiff, Nat.reduceLT, Nat.reduceLeDiff, Int.reduceToNat, Int.reduceLT, Int.reduceLE, Int.reduceAdd, Int.reduceSub, Int.reduceMul, Int.reduceNeg, Int.reduceEq, Int.reduceBEq, Int.reduceMod, Int.reduceGT, Int.reduceGE, Int.reduceBNe, Nat.reduceBNe, Int.natCast_nonneg, hlt, decide_false]
    refine k_r12_Cut (by omega) ?_
    simp -implicitDefEqProofs only [go_sem, wrs, wru, Int.toNat_natCast, Nat.zero_add, Bool.not_false, Bool.not_true, Bool.or_true, Bool.false_or, List.contains_nil, Bool.or_false, Nat.reduceAdd, Nat.reduceMul, Nat.reduceSub, Nat.reduceBEq, Nat.reduceEqDiff, Nat.reduceLT, Nat.reduceLeDiff, Int.reduceToNat, Int.reduceLT, Int.reduceLE, Int.reduceAdd, Int.reduceSub, Int.reduceMul, Int.reduceNeg, Int.reduceEq, Int.reduceBEq, Int.reduceMod, Int.reduceGT, Int.reduceGE, Int.reduceBNe, Nat.reduceBNe, Int.natCast_nonneg, List.take_length]
    refine k_law14_Same (by omega) ?_
    rw [decide_eq_true hgc]
    simp -implicitDefEqProofs only [go_sem, wrs, wru, Int.toNat_natCast, Nat.zero_add, Bool.not_false, Bool.not_true, Bool.or_true, Bool.false_or, List.contains_nil, Bool.or_false, Nat.reduceAdd, Nat.reduceMul, Nat.reduceSub, Nat.reduceBEq, Nat.reduceEqDiff, Nat.reduceLT, Nat.reduceLeDiff, Int.reduceToNat, Int.reduceLT, Int.reduceLE, Int.reduceAdd, Int.reduceSub, Int.reduceMul, Int.reduceNeg, Int.reduceEq, Int.reduceBEq, Int.reduceMod, Int.reduceGT, Int.reduceGE, Int.reduceBNe, Nat.reduceBNe, Int.natCast_nonneg, put9, List.take_length]
    refine k_r12_At (x := of 9) (by omega) ?_
    rw [hy]
    simp -implicitDefEqProofs only [go_sem, wrs, wru, Int.toNat_natCast, Nat.zero_add, Bool.not_false, Bool.not_true, Bool.or_true, Bool.false_or, List.contains_nil, Bool.or_false, Nat.reduceAdd, Nat.reduceMul, Nat.reduceSub, Nat.reduceBEq, Nat.reduceEqDiff, Nat.reduceLT, Nat.reduceLeDiff, Int.reduceToNat, Int.reduceLT, Int.reduceLE, Int.reduceAdd, Int.reduceSub, Int.reduceMul, Int.reduceNeg, Int.reduceEq, Int.reduceBEq, Int.reduceMod, Int.reduceGT, Int.reduceGE, Int.reduceBNe, Nat.reduceBNe, Int.natCast_nonneg]
    refine k_ref_MayR (n := vi y) (by omega) ?_
    rw [decide_eq_true hyr.2]
    simp -implicitDefEqProofs only [go_sem, wrs, wru, Int.toNat_natCast, Nat.zero_add, Bool.not_false, Bool.not_true, Bool.or_true, Bool.false_or, List.contains_nil, Bool.or_false, Nat.reduceAdd, Nat.reduceMul, Nat.reduceSub, Nat.reduceBEq, Nat.reduceEqDiff, Nat.reduceLT, Nat.reduceLeDiff, Int.reduceToNat, Int.reduceLT, Int.reduceLE, Int.reduceAdd, Int.reduceSub, Int.reduceMul, Int.reduceNeg, Int.reduceEq, Int.reduceBEq, Int.reduceMod, Int.reduceGT, Int.reduceGE, Int.reduceBNe, Nat.reduceBNe, Int.natCast_nonneg]
    exact ret_plain rfl hK
end Go.Proofs.Tryd.PMT
