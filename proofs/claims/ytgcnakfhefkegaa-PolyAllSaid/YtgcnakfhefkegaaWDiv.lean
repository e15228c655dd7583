/- The law PolyDivides: it answers true. No conditions beyond that its arguments are what can be read. -/
import Derived.Test.YtgcnakfhefkegaaGj
import Derived.Test.YtgcnakfhefkegaaGi
import Derived.Test.YtgcnakfhefkegaaGe
set_option linter.all false
namespace Go.Proofs.Try.PMT
open Go Go.Proofs.PM Go.Proofs.PL Go.Proofs.Try
set_option maxRecDepth 4000

theorem c_poly_Divide {a b : List F} (ha : a.length ≤ 4398046511104) (hb : b.length ≤ 4398046511104) {K : PV → List Ob → Prop}
    (hK : ∀ q r e, (q, r, e) = dv a b → K (.tup [.osl 0 [] 0 q.length, .osl 1 [] 0 r.length, i64 e]) [.row 25 (.arr 4 .one) (ffs q), .row 25 (.arr 4 .one) (ffs r)]) : PSpec prog 17 [.vsl false (.arr 4 .one) (ffs a), .vsl false (.arr 4 .one) (ffs b)] [] K := by
  refine k_poly_Divide ha hb (fun h => ?_) (fun h q r e => ?_)
  · exact hK [] [] 7 (by rw [dv, if_pos h])
  · refine hK (cut q) (cut r) 0 ?_
    rw [dv, if_neg h, ← e]
theorem c_r12_Divide {a b : List F} (ha : a.length ≤ 4398046511104) (hb : b.length ≤ 4398046511104) {K : PV → List Ob → Prop}
    (hK : ∀ q r e, (q, r, e) = dv a b → K (.tup [.osl 0 [] 0 q.length, .osl 1 [] 0 r.length, i64 e]) [.row 25 (.arr 4 .one) (ffs q), .row 25 (.arr 4 .one) (ffs r)]) : PSpec prog 18 [.vsl false (.arr 4 .one) (ffs a), .vsl false (.arr 4 .one) (ffs b)] [] K := by
  refine k_r12_Divide ha hb (fun h => ?_) (fun h q r e => ?_)
  · exact hK [] [] 7 (by rw [dv, if_pos h])
  · refine hK (cut q) (cut r) 0 ?_
    rw [dv_G a b h, ← e]

theorem dv_len (a b : List F) : (dv a b).1.length ≤ (cut a).length + 1 ∧ (dv a b).2.1.length ≤ (cut a).length := by
  rw [dv]
  split
  · simp
  · obtain ⟨h1, h2⟩ := divS_len (inv ((cut b).getD ((cut b).length - 1) 0)) (cut b) ((cut a).length + 1 - (cut b).length) (cut a) ((cut a).length + 1 - (cut b).length)
    exact ⟨Nat.le_trans (cut_le _) (by rw [h1]; omega), Nat.le_trans (cut_le _) (by rw [h2]; omega)⟩

theorem k_PolyDivides {la lb : List Int} {z : Int} (ha : ∀ n, n ∈ la → rawOk n) (hb : ∀ n, n ∈ lb → rawOk n) (hz : rawOk z) (hla : la.length ≤ 4398046511104) (hlb : lb.length ≤ 4398046511104) {K : PV → List Ob → Prop} (hK : K (bo true) []) :
    PSpec prog 3 [.vsl false (.arr 4 .one) (frs la), .vsl false (.arr 4 .one) (frs lb), fr z] [] K := by
  refine sp_intagliolaw15_PolyDivides ?_
  simp only [pc_intagliolaw15_PolyDivides]
  simp -implicitDefEqProofs only [go_sem, wrs, wru, Int.toNat_natCast, Nat.zero_add, Bool.not_false, Bool.not_true, Bool.or_true, Bool.false_or, List.contains_nil, Bool.or_false, Nat.reduceAdd, Nat.reduceMul, Nat.reduceSub, Nat.reduceBEq, Nat.reduceEqDiff, Nat.reduceLT, Nat.reduceLeDiff, Int.reduceToNat, Int.reduceLT, Int.reduceLE, Int.reduceAdd, Int.reduceSub, Int.reduceMul, Int.reduceNeg, Int.reduceEq, Int.reduceBEq, Int.reduceMod, Int.reduceGT, Int.reduceGE, Int.reduceBNe, Nat.reduceBNe, Int.natCast_nonneg]
  refine k_law15_begun ?_
  simp -implicitDefEqProofs only [go_sem, wrs, wru, Int.toNat_natCast, Nat.zero_add, Bool.not_false, Bool.not_true, Bool.or_true, Bool.false_or, List.contains_nil, Bool.or_false, Nat.reduceAdd, Nat.reduceMul, Nat.reduceSub, Nat.reduceBEq, Nat.reduceEqDiff, Nat.reduceLT, Nat.reduceLeDiff, Int.reduceToNat, Int.reduceLT, Int.reduceLE, Int.reduceAdd, Int.reduceSub, Int.reduceMul, Int.reduceNeg, Int.reduceEq, Int.reduceBEq, Int.reduceMod, Int.reduceGT, Int.reduceGE, Int.reduceBNe, Nat.reduceBNe, Int.natCast_nonneg]
  refine k_law14_May ha hla (fun ha2 h40 => ?_) ?_
  · simp -implicitDefEqProofs only [go_sem, wrs, wru, Int.toNat_natCast, Nat.zero_add, Bool.not_false, Bool.not_true, Bool.or_true, Bool.false_or, List.contains_nil, Bool.or_false, Nat.reduceAdd, Nat.reduceMul, Nat.reduceSub, Nat.reduceBEq, Nat.reduceEqDiff, Nat.reduceLT, Nat.reduceLeDiff, Int.reduceToNat, Int.reduceLT, Int.reduceLE, Int.reduceAdd, Int.reduceSub, Int.reduceMul, Int.reduceNeg, Int.reduceEq, Int.reduceBEq, Int.reduceMod, Int.reduceGT, Int.reduceGE, Int.reduceBNe, Nat.reduceBNe, Int.natCast_nonneg]
    refine k_law14_May hb hlb (fun hb2 h20 => ?_) ?_
    · simp -implicitDefEqProofs only [go_sem, wrs, wru, Int.toNat_natCast, Nat.zero_add, Bool.not_false, Bool.not_true, Bool.or_true, Bool.false_or, List.contains_nil, Bool.or_false, Nat.reduceAdd, Nat.reduceMul, Nat.reduceSub, Nat.reduceBEq, Nat.reduceEqDiff, Nat.reduceLT, Nat.reduceLeDiff, Int.reduceToNat, Int.reduceLT, Int.reduceLE, Int.reduceAdd, Int.reduceSub, Int.reduceMul, Int.reduceNeg, Int.reduceEq, Int.reduceBEq, Int.reduceMod, Int.reduceGT, Int.reduceGE, Int.reduceBNe, Nat.reduceBNe, Int.natCast_nonneg]
      refine k_ref_MayR hz ?_
      by_cases hz2 : z < 52435875175126190479447740508185965837690552500527637822603658699938581184513
      · rw [decide_eq_true hz2]
        obtain ⟨a, ea, el⟩ := frs_ffs (l := la) fun n hn => ⟨(ha n hn).1, ha2 n hn⟩
        obtain ⟨b, eb, fl⟩ := frs_ffs (l := lb) fun n hn => ⟨(hb n hn).1, hb2 n hn⟩
        rw [ea, eb, fr_of ⟨hz.1, hz2⟩]
        generalize of z = z at *
        rw [← el] at hla h40
        rw [← fl] at hlb
        clear ha hb hz ha2 hb2 hz2 ea eb el fl
        simp -implicitDefEqProofs only [go_sem, wrs, wru, Int.toNat_natCast, Nat.zero_add, Bool.not_false, Bool.not_true, Bool.or_true, Bool.false_or, List.contains_nil, Bool.or_false, Nat.reduceAdd, Nat.reduceMul, Nat.reduceSub, Nat.reduceBEq, Nat.reduceEqDiff, Nat.reduceLT, Nat.reduceLeDiff, Int.reduceToNat, Int.reduceLT, Int.reduceLE, Int.reduceAdd, Int.reduceSub, Int.reduceMul, Int.reduceNeg, Int.reduceEq, Int.reduceBEq, Int.reduceMod, Int.reduceGT, Int.reduceGE, Int.reduceBNe, Nat.reduceBNe, Int.natCast_nonneg]
        refine c_poly_Divide hla hlb fun q r e hd => ?_
        simp -implicitDefEqProofs only [go_sem, wrs, wru, Int.toNat_natCast, Nat.zero_add, Bool.not_false, Bool.not_true, Bool.or_true, Bool.false_or, List.contains_nil, Bool.or_false, Nat.reduceAdd, Nat.reduceMul, Nat.reduceSub, Nat.reduceBEq, Nat.reduceEqDiff, Nat.reduceLT, Nat.reduceLeDiff, Int.reduceToNat, Int.reduceLT, Int.reduceLE, Int.reduceAdd, Int.reduceSub, Int.reduceMul, Int.reduceNeg, Int.reduceEq, Int.reduceBEq, Int.reduceMod, Int.reduceGT, Int.reduceGE, Int.reduceBNe, Nat.reduceBNe, Int.natCast_nonneg]
        refine c_r12_Divide hla hlb fun q' r' e' hd' => ?_
        have hq := hd.trans hd'.symm
        simp only [Prod.mk.injEq] at hq
        obtain ⟨rfl, rfl, rfl⟩ := hq
        simp -implicitDefEqProofs only [go_sem, wrs, wru, Int.toNat_natCast, Nat.zero_add, Bool.not_false, Bool.not_true, Bool.or_true, Bool.false_or, List.contains_nil, Bool.or_false, Nat.reduceAdd, Nat.reduceMul, Nat.reduceSub, Nat.reduceBEq, Nat.reduceEqDiff, Nat.reduceLT, Nat.reduceLeDiff, Int.reduceToNat, Int.reduceLT, Int.reduceLE, Int.reduceAdd, Int.reduceSub, Int.reduceMul, Int.reduceNeg, Int.reduceEq, Int.reduceBEq, Int.reduceMod, Int.reduceGT, Int.reduceGE, Int.reduceBNe, Nat.reduceBNe, Int.natCast_nonneg]
        refine k_poly_Linear hla ?_
        rw [← dv_line, lin_hor]
        simp -implicitDefEqProofs only [go_sem, wrs, wru, Int.toNat_natCast, Nat.zero_add, Bool.not_false, Bool.not_true, Bool.or_true, Bool.false_or, List.contains_nil, Bool.or_false, Nat.reduceAdd, Nat.reduceMul, Nat.reduceSub, Nat.reduceBEq, Nat.reduceEqDiff, Nat.reduceLT, Nat.reduceLeDiff, Int.reduceToNat, Int.reduceLT, Int.reduceLE, Int.reduceAdd, Int.reduceSub, Int.reduceMul, Int.reduceNeg, Int.reduceEq, Int.reduceBEq, Int.reduceMod, Int.reduceGT, Int.reduceGE, Int.reduceBNe, Nat.reduceBNe, Int.natCast_nonneg]
        refine k_ref_NegR ?_
        simp -implicitDefEqProofs only [go_sem, wrs, wru, Int.toNat_natCast, Nat.zero_add, Bool.not_false, Bool.not_true, Bool.or_true, Bool.false_or, List.contains_nil, Bool.or_false, Nat.reduceAdd, Nat.reduceMul, Nat.reduceSub, Nat.reduceBEq, Nat.reduceEqDiff, Nat.reduceLT, Nat.reduceLeDiff, Int.reduceToNat, Int.reduceLT, Int.reduceLE, Int.reduceAdd, Int.reduceSub, Int.reduceMul, Int.reduceNeg, Int.reduceEq, Int.reduceBEq, Int.reduceMod, Int.reduceGT, Int.reduceGE, Int.reduceBNe, Nat.reduceBNe, Int.natCast_nonneg, zero_ff, put_lit, of_one]
        refine c_r12_Divide (b := [0 - z, 1]) hla (by simp) fun u w f hu => ?_
        have hu1 : (dv a [0 - z, 1]).1 = u := by rw [← hu]
        have hl1 := dv_len a b
        have hl2 := dv_len a [0 - z, 1]
        have hl3 := cut_le a
        rw [hu1] at hl2
        rw [hu1]
        rw [← hd] at hl1
        dsimp only at hl1
        have tq : q.take q.length = q := List.take_length
        have tr : r.take r.length = r := List.take_length
        have tu : u.take u.length = u := List.take_length
        simp -implicitDefEqProofs only [go_sem, wrs, wru, Int.toNat_natCast, Nat.zero_add, Bool.not_false, Bool.not_true, Bool.or_true, Bool.false_or, List.contains_nil, Bool.or_false, Nat.reduceAdd, Nat.reduceMul, Nat.reduceSub, Nat.reduceBEq, Nat.reduceEqDiff, Nat.reduceLT, Nat.reduceLeDiff, Int.reduceToNat, Int.reduceLT, Int.reduceLE, Int.reduceAdd, Int.reduceSub, Int.reduceMul, Int.reduceNeg, Int.reduceEq, Int.reduceBEq, Int.reduceMod, Int.reduceGT, Int.reduceGE, Int.reduceBNe, Nat.reduceBNe, Int.natCast_nonneg, tq, tr, tu, beq_self_eq_true]
        refine k_law14_Same (by omega) ?_
        simp -implicitDefEqProofs only [go_sem, wrs, wru, Int.toNat_natCast, Nat.zero_add, Bool.not_false, Bool.not_true, Bool.or_true, Bool.false_or, List.contains_nil, Bool.or_false, Nat.reduceAdd, Nat.reduceMul, Nat.reduceSub, Nat.reduceBEq, Nat.reduceEqDiff, Nat.reduceLT, Nat.reduceLeDiff, Int.reduceToNat, Int.reduceLT, Int.reduceLE, Int.reduceAdd, Int.reduceSub, Int.reduceMul, Int.reduceNeg, Int.reduceEq, Int.reduceBEq, Int.reduceMod, Int.reduceGT, Int.reduceGE, Int.reduceBNe, Nat.reduceBNe, Int.natCast_nonneg, tq, tr, tu, decide_true]
        refine k_law14_Same (by omega) ?_
        simp -implicitDefEqProofs only [go_sem, wrs, wru, Int.toNat_natCast, Nat.zero_add, Bool.not_false, Bool.not_true, Bool.or_true, Bool.false_or, List.contains_nil, Bool.or_false, Nat.reduceAdd, Nat.reduceMul, Nat.reduceSub, Nat.reduceBEq, Nat.reduceEqDiff, Nat.reduceLT, Nat.reduceLeDiff, Int.reduceToNat, Int.reduceLT, Int.reduceLE, Int.reduceAdd, Int.reduceSub, Int.reduceMul, Int.reduceNeg, Int.reduceEq, Int.reduceBEq, Int.reduceMod, Int.reduceGT, Int.reduceGE, Int.reduceBNe, Nat.reduceBNe, Int.natCast_nonneg, tq, tr, tu, decide_true]
        refine k_law14_Same (by omega) ?_
        simp -implicitDefEqProofs only [go_sem, wrs, wru, Int.toNat_natCast, Nat.zero_add, Bool.not_false, Bool.not_true, Bool.or_true, Bool.false_or, List.contains_nil, Bool.or_false, Nat.reduceAdd, Nat.reduceMul, Nat.reduceSub, Nat.reduceBEq, Nat.reduceEqDiff, Nat.reduceLT, Nat.reduceLeDiff, Int.reduceToNat, Int.reduceLT, Int.reduceLE, Int.reduceAdd, Int.reduceSub, Int.reduceMul, Int.reduceNeg, Int.reduceEq, Int.reduceBEq, Int.reduceMod, Int.reduceGT, Int.reduceGE, Int.reduceBNe, Nat.reduceBNe, Int.natCast_nonneg, tq, tr, tu, decide_true]
        refine k_r12_At hla ?_
        simp -implicitDefEqProofs only [go_sem, wrs, wru, Int.toNat_natCast, Nat.zero_add, Bool.not_false, Bool.not_true, Bool.or_true, Bool.false_or, List.contains_nil, Bool.or_false, Nat.reduceAdd, Nat.reduceMul, Nat.reduceSub, Nat.reduceBEq, Nat.reduceEqDiff, Nat.reduceLT, Nat.reduceLeDiff, Int.reduceToNat, Int.reduceLT, Int.reduceLE, Int.reduceAdd, Int.reduceSub, Int.reduceMul, Int.reduceNeg, Int.reduceEq, Int.reduceBEq, Int.reduceMod, Int.reduceGT, Int.reduceGE, Int.reduceBNe, Nat.reduceBNe, Int.natCast_nonneg, decide_true]
        exact ret_plain rfl hK
      · rw [decide_eq_false hz2]
        simp -implicitDefEqProofs only [go_sem, wrs, wru, Int.toNat_natCast, Nat.zero_add, Bool.not_false, Bool.not_true, Bool.or_true, Bool.false_or, List.contains_nil, Bool.or_false, Nat.reduceAdd, Nat.reduceMul, Nat.reduceSub, Nat.reduceBEq, Nat.reduceEqDiff, Nat.reduceLT, Nat.reduceLeDiff, Int.reduceToNat, Int.reduceLT, Int.reduceLE, Int.reduceAdd, Int.reduceSub, Int.reduceMul, Int.reduceNeg, Int.reduceEq, Int.reduceBEq, Int.reduceMod, Int.reduceGT, Int.reduceGE, Int.reduceBNe, Nat.reduceBNe, Int.natCast_nonneg]
        exact ret_plain rfl hK
    · simp -implicitDefEqProofs only [go_sem, wrs, wru, Int.toNat_natCast, Nat.zero_add, Bool.not_false, Bool.not_true, Bool.or_true, Bool.false_or, List.contains_nil, Bool.or_false, Nat.reduceAdd, Nat.reduceMul, Nat.reduceSub, Nat.reduceBEq, Nat.reduceEqDiff, Nat.reduceLT, Nat.reduceLeDiff, Int.reduceToNat, Int.reduceLT, Int.reduceLE, Int.reduceAdd, Int.reduceSub, Int.reduceMul, Int.reduceNeg, Int.reduceEq, Int.reduceBEq, Int.reduceMod, Int.reduceGT, Int.reduceGE, Int.reduceBNe, Nat.reduceBNe, Int.natCast_nonneg]
      exact ret_plain rfl hK
  · simp -implicitDefEqProofs only [go_sem, wrs, wru, Int.toNat_natCast, Nat.zero_add, Bool.not_false, Bool.not_true, Bool.or_true, Bool.false_or, List.contains_nil, Bool.or_false, Nat.reduceAdd, Nat.reduceMul, Nat.reduceSub, Nat.reduceBEq, Nat.reduceEqDiff, Nat.reduceLT, Nat.reduceLeDiff, Int.reduceToNat, Int.reduceLT, Int.reduceLE, Int.reduceAdd, Int.reduceSub, Int.reduceMul, Int.reduceNeg, Int.reduceEq, Int.reduceBEq, Int.reduceMod, Int.reduceGT, Int.reduceGE, Int.reduceBNe, Nat.reduceBNe, Int.natCast_nonneg]
    exact ret_plain rfl hK
end Go.Proofs.Try.PMT
