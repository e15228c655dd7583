/- The contract of intagliolaw30.begun. No conditions. -/
import Derived.Test.YtjibihaamkplbaaWIb
set_option linter.all false
namespace Go.Proofs.Try.PMT
open Go Go.Proofs.PM Go.Proofs.PL Go.Proofs.Try
set_option maxRecDepth 4000
theorem cnv_row2 {fr : Bool} {os : Nat → Option Ob} {id lo len : Nat} {e : TypeId} {s : Sh} {es : List PV} (ho : os id = some (.row e s es)) (h : plainL es = true) : cnv (fun _ => none) fr os 2 (.osl id [] lo len) = .vsl fr s ((es.drop lo).take len) := by
  show cnvW (fun _ => none) fr os (cnv (fun _ => none) fr os 1) _ = _
  have e1 : (Ob.row e s es).sh.offs [] = some (0, .arr es.length s) := rfl
  have e2 : (Ob.row e s es).con.get [] = some (.agg es) := rfl
  simp only [cnvW, ho, e1, e2]
  congr 1
  have hm : ∀ l : List PV, (∀ p, p ∈ l → p.plain = true) → l.map (cnv (fun _ => none) fr os 1) = l := fun l hl => by
    induction l with
    | nil => rfl
    | cons p l ih => rw [List.map_cons, cnv_plain (hl p (by simp)), ih fun q hq => hl q (by simp [hq])]
  exact hm _ fun p hp => plainL_iff.1 h p (List.mem_of_mem_drop (List.mem_of_mem_take hp))
theorem cnvO_own1 {os : Nat → Option Ob} {j n : Nat} {e e' : TypeId} {s : Sh} {es : List PV} (h1 : os j = some (.row e' s es)) (h2 : plainL es = true) : cnvO false os 0 1 (.ob (.row e .one [.osl j [] 0 n])) = .vsl false .one [.vsl false s (es.take n)] := by
  have e1 : (Ob.row e .one [.osl j [] 0 n]).sh.offs [] = some (0, .arr 1 .one) := rfl
  have e2 : (Ob.row e .one [.osl j [] 0 n]).con.get [] = some (.agg [.osl j [] 0 n]) := rfl
  have e3 := cnv_row2 (fr := false) (lo := 0) (len := n) h1 h2
  simp only [cnvO, e1, e2, List.drop_zero, List.take_succ_cons, List.take_zero, List.map_cons, List.map_nil, e3]
theorem ib1 : hol (2 ^ 1) (vnl 2) = true := by decide +kernel
theorem ib2 : hol (2 ^ 1) [1] = false := by decide +kernel
theorem ib3 : cntS (pas 1 (vnl 2) [1]) [of 5, of 6] 2 = 2 := by decide +kernel
theorem ib4 : cntS (mxs 1 [[1]]) [of 3] 1 = 0 := by decide +kernel
theorem k_law30_begun {K : PV → List Ob → Prop} (hK : K (bo true) []) : PSpec prog 6 [] [] K := by
  refine sp_intagliolaw30_begun ?_
  simp only [pc_intagliolaw30_begun]
  have l1 := lit 1 (by omega)
  rw [of_one] at l1
  simp -implicitDefEqProofs only [go_sem, wrs, wru, Int.toNat_natCast, Nat.zero_add, Bool.not_false, Bool.not_true, Bool.or_true, Bool.false_or, List.contains_nil, Bool.or_false, Nat.reduceAdd, Nat.reduceMul, Nat.reduceSub, Nat.reduceBEq, Nat.reduceEqDiff, Nat.reduceLT, Nat.reduceLeDiff, Int.reduceToNat, Int.reduceLT, Int.reduceLE, Int.reduceAdd, Int.reduceSub, Int.reduceMul, Int.reduceNeg, Int.reduceEq, Int.reduceBEq, Int.reduceMod, Int.reduceGT, Int.reduceGE, Int.reduceBNe, Nat.reduceBNe, Int.natCast_nonneg]
  refine k_r12_Vanishing (by decide) (by decide) ?_
  have vl : (vnl 2).length = 3 := vnl_len 2
  have v1 := ib1
  have v3 := ib3
  generalize vnl 2 = V at *
  have tk : V.take 3 = V := List.take_of_length_le (by omega)
  simp -implicitDefEqProofs only [go_sem, wrs, wru, Int.toNat_natCast, Nat.zero_add, Bool.not_false, Bool.not_true, Bool.or_true, Bool.false_or, List.contains_nil, Bool.or_false, Nat.reduceAdd, Nat.reduceMul, Nat.reduceSub, Nat.reduceBEq, Nat.reduceEqDiff, Nat.reduceLT, Nat.reduceLeDiff, Int.reduceToNat, Int.reduceLT, Int.reduceLE, Int.reduceAdd, Int.reduceSub, Int.reduceMul, Int.reduceNeg, Int.reduceEq, Int.reduceBEq, Int.reduceMod, Int.reduceGT, Int.reduceGE, Int.reduceBNe, Nat.reduceBNe, Int.natCast_nonneg, tk]
  refine k_Holds (L := 1) (by omega) (by decide) ?_
  rw [v1]
  simp -implicitDefEqProofs only [go_sem, wrs, wru, Int.toNat_natCast, Nat.zero_add, Bool.not_false, Bool.not_true, Bool.or_true, Bool.false_or, List.contains_nil, Bool.or_false, Nat.reduceAdd, Nat.reduceMul, Nat.reduceSub, Nat.reduceBEq, Nat.reduceEqDiff, Nat.reduceLT, Nat.reduceLeDiff, Int.reduceToNat, Int.reduceLT, Int.reduceLE, Int.reduceAdd, Int.reduceSub, Int.reduceMul, Int.reduceNeg, Int.reduceEq, Int.reduceBEq, Int.reduceMod, Int.reduceGT, Int.reduceGE, Int.reduceBNe, Nat.reduceBNe, Int.natCast_nonneg, l1]
  repeat (with_reducible refine And.intro (by first | omega | decide) ?_)
  refine k_Holds (f := [1]) (L := 1) (by decide) (by decide) ?_
  rw [ib2]
  simp -implicitDefEqProofs only [go_sem, wrs, wru, Int.toNat_natCast, Nat.zero_add, Bool.not_false, Bool.not_true, Bool.or_true, Bool.false_or, List.contains_nil, Bool.or_false, Nat.reduceAdd, Nat.reduceMul, Nat.reduceSub, Nat.reduceBEq, Nat.reduceEqDiff, Nat.reduceLT, Nat.reduceLeDiff, Int.reduceToNat, Int.reduceLT, Int.reduceLE, Int.reduceAdd, Int.reduceSub, Int.reduceMul, Int.reduceNeg, Int.reduceEq, Int.reduceBEq, Int.reduceMod, Int.reduceGT, Int.reduceGE, Int.reduceBNe, Nat.reduceBNe, Int.natCast_nonneg, l1, lit 5 (by omega), lit 6 (by omega), tk]
  repeat (with_reducible refine And.intro (by first | omega | decide) ?_)
  refine k_Passes (t := [1]) (zs := [of 5, of 6]) (L := 1) (by decide) (by omega) (by decide) (by simp) ?_
  rw [show cntS (pas 1 V [1]) [of 5, of 6] ([of 5, of 6] : List F).length = 2 from v3]
  simp -implicitDefEqProofs only [go_sem, wrs, wru, Int.toNat_natCast, Nat.zero_add, Bool.not_false, Bool.not_true, Bool.or_true, Bool.false_or, List.contains_nil, Bool.or_false, Nat.reduceAdd, Nat.reduceMul, Nat.reduceSub, Nat.reduceBEq, Nat.reduceEqDiff, Nat.reduceLT, Nat.reduceLeDiff, Int.reduceToNat, Int.reduceLT, Int.reduceLE, Int.reduceAdd, Int.reduceSub, Int.reduceMul, Int.reduceNeg, Int.reduceEq, Int.reduceBEq, Int.reduceMod, Int.reduceGT, Int.reduceGE, Int.reduceBNe, Nat.reduceBNe, Int.natCast_nonneg, l1, lit 3 (by omega)]
  repeat (with_reducible refine And.intro (by first | omega | decide) ?_)
  rw [cnvO_own1 (es := [ff 1]) rfl rfl]
  refine k_Mixes (gs := [[1]]) (zs := [of 3]) (L := 1) (B := 1) (by decide) (by decide) (fun i => ?_) (by decide) (by simp) ?_
  · rcases i with _ | i
    · exact Nat.le_refl 1
    · exact Nat.zero_le 1
  rw [show cntS (mxs 1 [[1]]) [of 3] ([of 3] : List F).length = 0 from ib4]
  simp -implicitDefEqProofs only [go_sem, wrs, wru, Int.toNat_natCast, Nat.zero_add, Bool.not_false, Bool.not_true, Bool.or_true, Bool.false_or, List.contains_nil, Bool.or_false, Nat.reduceAdd, Nat.reduceMul, Nat.reduceSub, Nat.reduceBEq, Nat.reduceEqDiff, Nat.reduceLT, Nat.reduceLeDiff, Int.reduceToNat, Int.reduceLT, Int.reduceLE, Int.reduceAdd, Int.reduceSub, Int.reduceMul, Int.reduceNeg, Int.reduceEq, Int.reduceBEq, Int.reduceMod, Int.reduceGT, Int.reduceGE, Int.reduceBNe, Nat.reduceBNe, Int.natCast_nonneg]
  exact ret_plain rfl hK
end Go.Proofs.Try.PMT
