/- Contracts of lagrange.Z, intaglioref12.Z, ideal.may, Holds, intagliolaw30.multiple. No conditions beyond what each names. -/
import Derived.Test.YtjibihaamkplbaaGl
import Derived.Test.YtjibihaamkplbaaWDiv
import Derived.Test.YtjibihaamkplbaaGp
import Derived.Test.YtjibihaamkplbaaPCI
import Derived.Test.YtjibihaamkplbaaPV7
import Derived.Test.YtjibihaamkplbaaPL18
set_option linter.all false
namespace Go.Proofs.Try.PMT
open Go Go.Proofs.PM Go.Proofs.PL Go.Proofs.Try
set_option maxRecDepth 4000
theorem k_may {L : Nat} (hL : L ≤ 6) {K : PV → List Ob → Prop} (hK : K (bo true) []) : PSpec prog 43 [i64 L] [] K := by
  refine sp_ideal_may ?_
  simp only [pc_ideal_may]
  have h1 : (L : Int) ≥ 0 := by omega
  have h2 : (L : Int) ≤ 6 := by omega
  simp -implicitDefEqProofs only [go_sem, wrs, wru, Int.toNat_natCast, Nat.zero_add, Bool.not_false, Bool.not_true, Bool.or_true, Bool.false_or, List.contains_nil, Bool.or_false, Nat.reduceAdd, Nat.reduceMul, Nat.reduceSub, Nat.reduceBEq, Nat.reduceEqDiff, Nat.reduceLT, Nat.reduceLeDiff, Int.reduceToNat, Int.reduceLT, Int.reduceLE, Int.reduceAdd, Int.reduceSub, Int.reduceMul, Int.reduceNeg, Int.reduceEq, Int.reduceBEq, Int.reduceMod, Int.reduceGT, Int.reduceGE, Int.reduceBNe, Nat.reduceBNe, Int.natCast_nonneg, h1, h2, decide_true]
  exact ret_plain rfl hK
theorem k_Holds {f : List F} {L : Nat} (hf : f.length ≤ 1000000) (hL : L ≤ 6) {K : PV → List Ob → Prop} (hK : K (bo (hol (2 ^ L) f)) []) : PSpec prog 29 [.vsl false (.arr 4 .one) (ffs f), i64 L] [] K := by
  refine sp_ideal_Holds ?_
  simp only [pc_ideal_Holds]
  simp -implicitDefEqProofs only [go_sem, wrs, wru, Int.toNat_natCast, Nat.zero_add, Bool.not_false, Bool.not_true, Bool.or_true, Bool.false_or, List.contains_nil, Bool.or_false, Nat.reduceAdd, Nat.reduceMul, Nat.reduceSub, Nat.reduceBEq, Nat.reduceEqDiff, Nat.reduceLT, Nat.reduceLeDiff, Int.reduceToNat, Int.reduceLT, Int.reduceLE, Int.reduceAdd, Int.reduceSub, Int.reduceMul, Int.reduceNeg, Int.reduceEq, Int.reduceBEq, Int.reduceMod, Int.reduceGT, Int.reduceGE, Int.reduceBNe, Nat.reduceBNe, Int.natCast_nonneg]
  refine k_may hL ?_
  simp -implicitDefEqProofs only [go_sem, wrs, wru, Int.toNat_natCast, Nat.zero_add, Bool.not_false, Bool.not_true, Bool.or_true, Bool.false_or, List.contains_nil, Bool.or_false, Nat.reduceAdd, Nat.reduceMul, Nat.reduceSub, Nat.reduceBEq, Nat.reduceEqDiff, Nat.reduceLT, Nat.reduceLeDiff, Int.reduceToNat, Int.reduceLT, Int.reduceLE, Int.reduceAdd, Int.reduceSub, Int.reduceMul, Int.reduceNeg, Int.reduceEq, Int.reduceBEq, Int.reduceMod, Int.reduceGT, Int.reduceGE, Int.reduceBNe, Nat.reduceBNe, Int.natCast_nonneg]
  refine k_poly_Vanish hf (by omega) fun q e hqe => ?_
  have he : hol (2 ^ L) f = (e == 0) := by rw [hol, ← hqe]; rfl
  rw [he] at hK
  simp -implicitDefEqProofs only [go_sem, wrs, wru, Int.toNat_natCast, Nat.zero_add, Bool.not_false, Bool.not_true, Bool.or_true, Bool.false_or, List.contains_nil, Bool.or_false, Nat.reduceAdd, Nat.reduceMul, Nat.reduceSub, Nat.reduceBEq, Nat.reduceEqDiff, Nat.reduceLT, Nat.reduceLeDiff, Int.reduceToNat, Int.reduceLT, Int.reduceLE, Int.reduceAdd, Int.reduceSub, Int.reduceMul, Int.reduceNeg, Int.reduceEq, Int.reduceBEq, Int.reduceMod, Int.reduceGT, Int.reduceGE, Int.reduceBNe, Nat.reduceBNe, Int.natCast_nonneg]
  exact ret_plain rfl hK
theorem k_multiple {f : List F} {L : Nat} (hf : f.length ≤ 1000000) (hL : L ≤ 9) {K : PV → List Ob → Prop} (hK : K (bo (hol (2 ^ L) f)) []) : PSpec prog 15 [.vsl false (.arr 4 .one) (ffs f), i64 L] [] K := by
  refine sp_intagliolaw30_multiple ?_
  simp only [pc_intagliolaw30_multiple]
  have hp : 2 ^ L ≤ 2 ^ 9 := Nat.pow_le_pow_right (by decide) hL
  have hp0 := Nat.two_pow_pos L
  have hvl := vnl_len (2 ^ L)
  have hdv := hol_dv hp0 f
  have hsh := shl1 (show L < 63 by omega)
  obtain ⟨n, hn⟩ : ∃ n, 2 ^ L = n := ⟨_, rfl⟩
  rw [hn] at hp hp0 hvl hdv hK hsh
  have tk : (vnl n).take (n + 1) = vnl n := List.take_of_length_le (by omega)
  simp -implicitDefEqProofs only [go_sem, wrs, wru, Int.toNat_natCast, Nat.zero_add, Bool.not_false, Bool.not_true, Bool.or_true, Bool.false_or, List.contains_nil, Bool.or_false, Nat.reduceAdd, Nat.reduceMul, Nat.reduceSub, Nat.reduceBEq, Nat.reduceEqDiff, Nat.reduceLT, Nat.reduceLeDiff, Int.reduceToNat, Int.reduceLT, Int.reduceLE, Int.reduceAdd, Int.reduceSub, Int.reduceMul, Int.reduceNeg, Int.reduceEq, Int.reduceBEq, Int.reduceMod, Int.reduceGT, Int.reduceGE, Int.reduceBNe, Nat.reduceBNe, Int.natCast_nonneg, ↓hsh]
  refine k_r12_Vanishing hp0 (by omega) ?_
  simp -implicitDefEqProofs only [go_sem, wrs, wru, Int.toNat_natCast, Nat.zero_add, Bool.not_false, Bool.not_true, Bool.or_true, Bool.false_or, List.contains_nil, Bool.or_false, Nat.reduceAdd, Nat.reduceMul, Nat.reduceSub, Nat.reduceBEq, Nat.reduceEqDiff, Nat.reduceLT, Nat.reduceLeDiff, Int.reduceToNat, Int.reduceLT, Int.reduceLE, Int.reduceAdd, Int.reduceSub, Int.reduceMul, Int.reduceNeg, Int.reduceEq, Int.reduceBEq, Int.reduceMod, Int.reduceGT, Int.reduceGE, Int.reduceBNe, Nat.reduceBNe, Int.natCast_nonneg, tk]
  refine c_r12_Divide (by omega) (by omega) fun q r e hqr => ?_
  rw [← hqr] at hdv
  have he : ((r.length : Int) == 0) = hol n f := by
    rw [← hdv]
    by_cases h : r.length = 0
    · rw [decide_eq_true h, beq_iff_eq]; omega
    · rw [decide_eq_false h, beq_eq_false_iff_ne]; omega
  simp -implicitDefEqProofs only [go_sem, wrs, wru, Int.toNat_natCast, Nat.zero_add, Bool.not_false, Bool.not_true, Bool.or_true, Bool.false_or, List.contains_nil, Bool.or_false, Nat.reduceAdd, Nat.reduceMul, Nat.reduceSub, Nat.reduceBEq, Nat.reduceEqDiff, Nat.reduceLT, Nat.reduceLeDiff, Int.reduceToNat, Int.reduceLT, Int.reduceLE, Int.reduceAdd, Int.reduceSub, Int.reduceMul, Int.reduceNeg, Int.reduceEq, Int.reduceBEq, Int.reduceMod, Int.reduceGT, Int.reduceGE, Int.reduceBNe, Nat.reduceBNe, Int.natCast_nonneg, he]
  exact ret_plain rfl hK
end Go.Proofs.Try.PMT
