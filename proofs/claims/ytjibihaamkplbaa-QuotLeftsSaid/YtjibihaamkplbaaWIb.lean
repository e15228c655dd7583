/- Contracts of ideal.count, Passes, Mix, Mixes, intaglioref25.Fold. No conditions beyond what each names. -/
import Derived.Test.YtjibihaamkplbaaWIa
set_option linter.all false
namespace Go.Proofs.Try.PMT
open Go Go.Proofs.PM Go.Proofs.PL Go.Proofs.Try
set_option maxRecDepth 4000
@[go_sem] theorem leaf_vp {b : Bool} {c : PV} : (PV.vp b c).leaf = true := rfl
@[go_sem] theorem has1_vsl {b : Bool} {s : Sh} {es : List PV} : Sh.one.has (.vsl b s es) = true := rfl
@[go_sem] theorem cnv_capv {ρ : Nat → Option Nat} {fr : Bool} {os : Nat → Option Ob} {v : Value} : cnv ρ fr os 3 (.vp false (.val v)) = .vp false (.val v) := cnv_fre rfl
theorem fre_capf {l : List F} : (PV.vp false (.vsl false (.arr 4 .one) (ffs l))).fre = true := by simp only [PV.fre, freL_ffs]; rfl
theorem fre_capl {gs : List (List F)} : (PV.vp false (.vsl false .one (llF gs))).fre = true := by simp only [PV.fre, freL_llF]; rfl
@[go_sem] theorem cnv_capf {ρ : Nat → Option Nat} {fr : Bool} {os : Nat → Option Ob} {l : List F} : cnv ρ fr os 3 (.vp false (.vsl false (.arr 4 .one) (ffs l))) = .vp false (.vsl false (.arr 4 .one) (ffs l)) := cnv_fre fre_capf
@[go_sem] theorem cnv_capl {ρ : Nat → Option Nat} {fr : Bool} {os : Nat → Option Ob} {gs : List (List F)} : cnv ρ fr os 3 (.vp false (.vsl false .one (llF gs))) = .vp false (.vsl false .one (llF gs)) := cnv_fre fre_capl
@[go_sem] theorem cnv_fnP {ρ : Nat → Option Nat} {fr : Bool} {os : Nat → Option Ob} {f : FuncId} {v : Value} {a b : List F} : cnv ρ fr os 3 (.fn f [.vp false (.val v), .vp false (.vsl false (.arr 4 .one) (ffs a)), .vp false (.vsl false (.arr 4 .one) (ffs b))]) = .fn f [.vp false (.val v), .vp false (.vsl false (.arr 4 .one) (ffs a)), .vp false (.vsl false (.arr 4 .one) (ffs b))] :=
  cnv_fre (by simp only [PV.fre, freL, freL_ffs]; rfl)
@[go_sem] theorem cnv_fnM {ρ : Nat → Option Nat} {fr : Bool} {os : Nat → Option Ob} {f : FuncId} {v : Value} {gs : List (List F)} : cnv ρ fr os 3 (.fn f [.vp false (.vsl false .one (llF gs)), .vp false (.val v)]) = .fn f [.vp false (.vsl false .one (llF gs)), .vp false (.val v)] :=
  cnv_fre (by simp only [PV.fre, freL, freL_llF]; rfl)
theorem k_r25_one {K : PV → List Ob → Prop} (hK : K (ff 1) []) : PSpec prog 63 [] [] K := by
  refine sp_intaglioref25_one ?_
  simp only [pc_intaglioref25_one]
  simp -implicitDefEqProofs only [go_sem, wrs, wru, Int.toNat_natCast, Nat.zero_add, Bool.not_false, Bool.not_true, Bool.or_true, Bool.false_or, List.contains_nil, Bool.or_false, Nat.reduceAdd, Nat.reduceMul, Nat.reduceSub, Nat.reduceBEq, Nat.reduceEqDiff, Nat.reduceLT, Nat.reduceLeDiff, Int.reduceToNat, Int.reduceLT, Int.reduceLE, Int.reduceAdd, Int.reduceSub, Int.reduceMul, Int.reduceNeg, Int.reduceEq, Int.reduceBEq, Int.reduceMod, Int.reduceGT, Int.reduceGE, Int.reduceBNe, Nat.reduceBNe, Int.natCast_nonneg]
  refine k_ref_OfR (lit_rng rfl) ?_
  simp -implicitDefEqProofs only [go_sem, wrs, wru, Int.toNat_natCast, Nat.zero_add, Bool.not_false, Bool.not_true, Bool.or_true, Bool.false_or, List.contains_nil, Bool.or_false, Nat.reduceAdd, Nat.reduceMul, Nat.reduceSub, Nat.reduceBEq, Nat.reduceEqDiff, Nat.reduceLT, Nat.reduceLeDiff, Int.reduceToNat, Int.reduceLT, Int.reduceLE, Int.reduceAdd, Int.reduceSub, Int.reduceMul, Int.reduceNeg, Int.reduceEq, Int.reduceBEq, Int.reduceMod, Int.reduceGT, Int.reduceGE, Int.reduceBNe, Nat.reduceBNe, Int.natCast_nonneg, of_one]
  exact ret_plain rfl hK
theorem k_r25_mul {x y : F} {K : PV → List Ob → Prop} (hK : K (ff (x * y)) []) : PSpec prog 59 [ff x, ff y] [] K := by
  refine sp_intaglioref25_mul ?_
  simp only [pc_intaglioref25_mul]
  simp -implicitDefEqProofs only [go_sem, wrs, wru, Int.toNat_natCast, Nat.zero_add, Bool.not_false, Bool.not_true, Bool.or_true, Bool.false_or, List.contains_nil, Bool.or_false, Nat.reduceAdd, Nat.reduceMul, Nat.reduceSub, Nat.reduceBEq, Nat.reduceEqDiff, Nat.reduceLT, Nat.reduceLeDiff, Int.reduceToNat, Int.reduceLT, Int.reduceLE, Int.reduceAdd, Int.reduceSub, Int.reduceMul, Int.reduceNeg, Int.reduceEq, Int.reduceBEq, Int.reduceMod, Int.reduceGT, Int.reduceGE, Int.reduceBNe, Nat.reduceBNe, Int.natCast_nonneg]
  refine k_ref_MulR ?_
  simp -implicitDefEqProofs only [go_sem, wrs, wru, Int.toNat_natCast, Nat.zero_add, Bool.not_false, Bool.not_true, Bool.or_true, Bool.false_or, List.contains_nil, Bool.or_false, Nat.reduceAdd, Nat.reduceMul, Nat.reduceSub, Nat.reduceBEq, Nat.reduceEqDiff, Nat.reduceLT, Nat.reduceLeDiff, Int.reduceToNat, Int.reduceLT, Int.reduceLE, Int.reduceAdd, Int.reduceSub, Int.reduceMul, Int.reduceNeg, Int.reduceEq, Int.reduceBEq, Int.reduceMod, Int.reduceGT, Int.reduceGE, Int.reduceBNe, Nat.reduceBNe, Int.natCast_nonneg]
  exact ret_plain rfl hK
end Go.Proofs.Try.PMT
