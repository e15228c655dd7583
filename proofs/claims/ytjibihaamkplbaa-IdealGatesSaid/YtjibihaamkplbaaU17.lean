/- Contracts of intaglioref1.InvR (through Less of the order and 2), intagliolaw14's May and Same. No conditions beyond what each names. -/
import Derived.Test.YtjibihaamkplbaaU15
import Derived.Test.YtjibihaamkplbaaU16
import Derived.Test.YtjibihaamkplbaaU0
set_option linter.all false
namespace Go.Proofs.Try.PMT
open Go Go.Proofs.PM Go.Proofs.PL Go.Proofs.Try
set_option maxRecDepth 4000

@[reducible] def mdL : List Nat := [18446744069414584321, 6034159408538082302, 3691218898639771653, 8353516859464449352]
theorem Zpe {K : PV → List Ob → Prop} (hK : K (i64 1) []) : PSpec prog 81 [.vsl false .one (us mdL), .vsl false .one (us [2])] [] K := by
 refine Zgn ?_
 simp only [Zbx]
 simp -implicitDefEqProofs only [go_sem, Nat.zero_add, Nat.reduceAdd, Nat.reduceSub, Nat.reduceLT, Int.reduceNeg]
 refine Zof (l := mdL) (by decide) (by decide) (by decide) ?_
 simp -implicitDefEqProofs only [go_sem, Nat.zero_add, Nat.reduceAdd, Nat.reduceLT, Nat.reduceLeDiff, Int.reduceNeg]
 refine Zof (l := [2]) (by decide) (by decide) (by decide) ?_
 simp -implicitDefEqProofs only [go_sem, Nat.zero_add, Nat.reduceAdd, Nat.reduceEqDiff, Nat.reduceLeDiff, Int.reduceLT, Int.reduceNeg, Int.reduceBNe]
 exact Zb rfl hK

theorem Ztr {K : PV → List Ob → Prop} (hK : K (.tup [.osl 0 [] 0 4, i64 0]) [.row 26 .one (us [18446744069414584319, 6034159408538082302, 3691218898639771653, 8353516859464449352])]) : PSpec prog 31 [.vsl false .one (us mdL), .vsl false .one (us [2])] [] K := by
 refine Zjm ?_
 simp only [Zc7]
 simp -implicitDefEqProofs only [go_sem, Nat.zero_add, Nat.reduceAdd, Nat.reduceSub, Nat.reduceLT]
 refine Zpe ?_
 simp -implicitDefEqProofs only [go_sem, Nat.reduceAdd, Nat.reduceEqDiff, Int.reduceLT]
 refine Zp 5 ?_
 simp -implicitDefEqProofs only [go_sem, Nat.zero_add, Nat.reduceAdd, Nat.reduceLT, Int.reduceLT, Int.reduceGT]
 refine Zd2 (l := mdL) (i := 0) ?_
 simp -implicitDefEqProofs only [go_sem, Nat.reduceLT]
 refine Zd2 (l := [2]) (i := 0) ?_
 simp -implicitDefEqProofs only [go_sem, Nat.reduceLT]
 refine Zoj (by decide) (by decide) (by decide) (by decide) (by decide) ?_
 simp -implicitDefEqProofs only [go_sem, wrs, Nat.zero_add, Nat.reduceAdd, Nat.reduceMul, Nat.reduceEqDiff, Nat.reduceLT, Nat.reduceLeDiff, Int.reduceLT, Int.reduceLE, Int.reduceAdd, Int.reduceSub, Int.reduceNeg, Int.reduceMod, Int.reduceGT, List.take_succ_cons, List.take_zero]
 repeat (with_reducible refine And.intro (by first | omega | decide) ?_)
 refine Zd2 (l := mdL) (i := 1) ?_
 simp -implicitDefEqProofs only [go_sem, Nat.reduceLT]
 refine Zd2 (l := [2]) (i := 1) ?_
 simp -implicitDefEqProofs only [go_sem, Nat.reduceLT]
 refine Zoj (by decide) (by decide) (by decide) (by decide) (by decide) ?_
 simp -implicitDefEqProofs only [go_sem, wrs, Nat.zero_add, Nat.reduceAdd, Nat.reduceMul, Nat.reduceEqDiff, Nat.reduceLT, Nat.reduceLeDiff, Int.reduceLT, Int.reduceLE, Int.reduceAdd, Int.reduceNeg, Int.reduceGT, List.take_succ_cons, List.take_zero]
 repeat (with_reducible refine And.intro (by first | omega | decide) ?_)
 refine Zd2 (l := mdL) (i := 2) ?_
 simp -implicitDefEqProofs only [go_sem, Nat.reduceLT]
 refine Zd2 (l := [2]) (i := 2) ?_
 simp -implicitDefEqProofs only [go_sem, Nat.reduceLT]
 refine Zoj (by decide) (by decide) (by decide) (by decide) (by decide) ?_
 simp -implicitDefEqProofs only [go_sem, wrs, Nat.zero_add, Nat.reduceAdd, Nat.reduceMul, Nat.reduceEqDiff, Nat.reduceLT, Nat.reduceLeDiff, Int.reduceLT, Int.reduceLE, Int.reduceAdd, Int.reduceNeg, Int.reduceGT, List.take_succ_cons, List.take_zero]
 repeat (with_reducible refine And.intro (by first | omega | decide) ?_)
 refine Zd2 (l := mdL) (i := 3) ?_
 simp -implicitDefEqProofs only [go_sem, Nat.reduceLT]
 refine Zd2 (l := [2]) (i := 3) ?_
 simp -implicitDefEqProofs only [go_sem, Nat.reduceLT]
 refine Zoj (by decide) (by decide) (by decide) (by decide) (by decide) ?_
 simp -implicitDefEqProofs only [go_sem, wrs, Nat.zero_add, Bool.not_false, Bool.or_true, List.contains_nil, Nat.reduceAdd, Nat.reduceMul, Nat.reduceEqDiff, Nat.reduceLT, Nat.reduceLeDiff, Int.reduceLT, Int.reduceLE, Int.reduceAdd, Int.reduceNeg, Int.reduceGT, List.take_succ_cons, List.take_zero]
 repeat (with_reducible refine And.intro (by first | omega | decide) ?_)
 refine Zof (l := [18446744069414584319, 6034159408538082302, 3691218898639771653, 8353516859464449352]) (by decide) (by decide) (by decide) ?_
 simp -implicitDefEqProofs only [go_sem, Nat.zero_add, Nat.reduceAdd, Nat.reduceEqDiff, Nat.reduceLeDiff]
 refine Zy [(10, 0)] [.row 26 .one (us [18446744069414584319, 6034159408538082302, 3691218898639771653, 8353516859464449352])] [.osl 0 [] 0 4, i64 0] rfl rfl ?_ ?_ hK
 ·simp -implicitDefEqProofs only [go_sem, Nat.zero_add, Nat.reduceEqDiff, Nat.reduceLT]
 ·simp -implicitDefEqProofs only [go_sem]

theorem Zwj {x : F} {K : PV → List Ob → Prop} (h0 : x = 0 → K (.tup [ff 0, i64 7]) []) (hK : x ≠ 0 → K (.tup [ff (inv x), i64 0]) []) : PSpec prog 9 [ff x] [] K := by
 refine Zjn ?_
 simp only [Zc8]
 simp -implicitDefEqProofs only [go_sem, Nat.zero_add, Nat.reduceAdd, Nat.reduceSub, Nat.reduceEqDiff, Zr]
 refine Zj (fun h => ?_) (fun h => ?_)
 ·simp only [decide_eq_true_eq] at h
  subst h
  simp -implicitDefEqProofs only [go_sem, Nat.reduceEqDiff]
  exact Zb rfl (h0 rfl)
 ·simp only [decide_eq_false_iff_not] at h
  simp -implicitDefEqProofs only [go_sem, Nat.reduceLT]
  refine Zoe ?_
  simp -implicitDefEqProofs only [go_sem, Nat.zero_add, Bool.not_false, Bool.or_true, List.contains_nil, Nat.reduceAdd, Nat.reduceEqDiff, Nat.reduceLT, Nat.reduceLeDiff, List.take_succ_cons, List.take_zero]
  refine Ztr ?_
  simp -implicitDefEqProofs only [go_sem, Nat.zero_add, Bool.not_false, Bool.or_true, List.contains_nil, Nat.reduceAdd, Nat.reduceEqDiff, Nat.reduceLT, Nat.reduceLeDiff]
  refine Zi1 (e := [18446744069414584319, 6034159408538082302, 3691218898639771653, 8353516859464449352]) (by decide) (by decide) ?_
  rw [show nv [18446744069414584319, 6034159408538082302, 3691218898639771653, 8353516859464449352] = 52435875175126190479447740508185965837690552500527637822603658699938581184511 by decide]
  simp -implicitDefEqProofs only [go_sem, Nat.reduceEqDiff]
  exact Zb rfl (hK h)

theorem Zhl {l : List Int} (hr : ∀ n, n ∈ l → 0 ≤ n ∧ n < 115792089237316195423570985008687907853269984665640564039457584007913129639936) (hl : l.length ≤ 4398046511104) {most : Int} {K : PV → List Ob → Prop}
  (hT : (∀ n, n ∈ l → n < 52435875175126190479447740508185965837690552500527637822603658699938581184513) → (l.length : Int) ≤ most → K (bo true) []) (hF : K (bo false) []) : PSpec prog 7 [.vsl false (.arr 4 .one) (frs l), i64 most] [] K := by
 refine Zju ?_
 simp only [Zdf]
 simp -implicitDefEqProofs only [go_sem, Nat.zero_add, Nat.reduceAdd, Nat.reduceSub]
 refine Zw (ι := { i : Nat // i ≤ l.length ∧ ∀ j, j < i → l.getD j 0 < 52435875175126190479447740508185965837690552500527637822603658699938581184513 }) [4, 5, 6, 7, 8, 9, 10, 11, 12, 13, 14, 15, 16, 17] (fun i => [(5, i64 i.1)]) (fun _ => []) 0 (fun i => l.length - i.1) ⟨0, Nat.zero_le _, fun j hj => absurd hj (Nat.not_lt_zero _)⟩ ?_ ?_
 ·rw [Zg]
  refine Zd [] rfl rfl rfl ?_ ?_
  ·simp -implicitDefEqProofs only [go_sem]
  ·simp -implicitDefEqProofs only [go_sem]
 intro ⟨i, hi, hlt⟩ G hG
 simp -implicitDefEqProofs only [go_sem, Nat.zero_add, Zoa]
 refine Zj (fun h => ?_) (fun h => ?_)
 ·simp only [decide_eq_true_eq] at h
  have hii : i < l.length := by omega
  have w3 : IntKind.i64.wrap ((i : Int) + 1) = ((i + 1 : Nat) : Int) := by rw [wrs (by omega) (by omega)]; omega
  have hm : l.getD i 0 ∈ l := by
   rw [List.getD_eq_getElem?_getD, List.getElem?_eq_getElem hii]; exact List.getElem_mem hii
  simp -implicitDefEqProofs only [go_sem, Int.toNat_natCast, Nat.zero_add, Nat.reduceLT, Int.natCast_nonneg, Z1d hii, h, Zoa]
  refine Zpu (hr _ hm) ?_
  simp -implicitDefEqProofs only [go_sem, Nat.zero_add]
  refine Zj (fun h' => ?_) (fun h' => ?_)
  ·simp -implicitDefEqProofs only [go_sem, Nat.zero_add]
   exact Zb rfl hF
  ·simp only [Bool.not_eq_false', decide_eq_true_eq] at h'
   simp -implicitDefEqProofs only [go_sem, Nat.zero_add, w3]
   refine hG _ ⟨i + 1, by omega, fun j hj => ?_⟩ (by simp only; omega) ?_
   ·by_cases e : j = i
    ·subst e; exact h'
    ·exact hlt j (by omega)
   ·rw [Zg]
    refine Zd [] rfl rfl rfl ?_ ?_
    ·simp -implicitDefEqProofs only [go_sem]
    ·simp -implicitDefEqProofs only [go_sem]
 simp only [decide_eq_false_iff_not] at h
 obtain rfl : i = l.length := by omega
 simp -implicitDefEqProofs only [go_sem, Nat.zero_add, Zoa]
 refine Zb rfl ?_
 simp only [Zb1]
 by_cases hm : (l.length : Int) ≤ most
 ·rw [decide_eq_true hm]
  refine hT (fun n hn => ?_) hm
  obtain ⟨j, hj, rfl⟩ := List.getElem_of_mem hn
  have := hlt j hj
  rwa [List.getD_eq_getElem?_getD, List.getElem?_eq_getElem hj] at this
 ·rw [decide_eq_false hm]
  exact hF

theorem Zmu {a b : List F} (ha : a.length ≤ 4398046511104) {K : PV → List Ob → Prop} (hK : K (bo (decide (a = b))) []) : PSpec prog 27 [.vsl false (.arr 4 .one) (ffs a), .vsl false (.arr 4 .one) (ffs b)] [] K := by
 refine Zih ?_
 simp only [Zcn]
 simp -implicitDefEqProofs only [go_sem, Nat.zero_add, Nat.reduceAdd, Nat.reduceSub]
 refine Zj (fun h => ?_) (fun h => ?_)
 ·simp only [bne_iff_ne, ne_eq] at h
  rw [decide_eq_false (fun e => h (by rw [e]))] at hK
  simp -implicitDefEqProofs only [go_sem, Nat.zero_add]
  exact Zb rfl hK
 simp only [bne_eq_false_iff_eq] at h
 have hab : a.length = b.length := by omega
 simp -implicitDefEqProofs only [go_sem, Nat.zero_add]
 refine Zw (ι := { i : Nat // i ≤ a.length ∧ ∀ j, j < i → a.getD j 0 = b.getD j 0 }) [4, 5, 11, 12, 13, 14, 15, 16, 17, 18, 19, 20, 21, 22, 23, 24, 25] (fun i => [(5, i64 i.1)]) (fun _ => []) 0 (fun i => a.length - i.1) ⟨0, Nat.zero_le _, fun j hj => absurd hj (Nat.not_lt_zero _)⟩ ?_ ?_
 ·rw [Zg]
  refine Zd [] rfl rfl rfl ?_ ?_
  ·simp -implicitDefEqProofs only [go_sem]
  ·simp -implicitDefEqProofs only [go_sem]
 intro ⟨i, hi, hlt⟩ G hG
 simp -implicitDefEqProofs only [go_sem, Nat.zero_add]
 refine Zj (fun h => ?_) (fun h => ?_)
 ·simp only [decide_eq_true_eq] at h
  have hii : i < a.length := by omega
  have hib : i < b.length := by omega
  have h2 : (i : Int) < (b.length : Int) := by omega
  have w3 : IntKind.i64.wrap ((i : Int) + 1) = ((i + 1 : Nat) : Int) := by rw [wrs (by omega) (by omega)]; omega
  simp -implicitDefEqProofs only [go_sem, Int.toNat_natCast, Nat.zero_add, Nat.reduceMul, Int.natCast_nonneg, Z4 hii, Z4 hib, h, h2]
  refine Zj (fun h' => ?_) (fun h' => ?_)
  ·simp only [Bool.not_eq_true', decide_eq_false_iff_not] at h'
   rw [decide_eq_false (fun e => h' (by rw [e]))] at hK
   simp -implicitDefEqProofs only [go_sem]
   exact Zb rfl hK
  ·simp only [Bool.not_eq_false', decide_eq_true_eq] at h'
   simp -implicitDefEqProofs only [go_sem, w3]
   refine hG _ ⟨i + 1, by omega, fun j hj => ?_⟩ (by simp only; omega) ?_
   ·by_cases e : j = i
    ·subst e; exact h'
    ·exact hlt j (by omega)
   ·rw [Zg]
    refine Zd [] rfl rfl rfl ?_ ?_
    ·simp -implicitDefEqProofs only [go_sem]
    ·simp -implicitDefEqProofs only [go_sem]
 simp only [decide_eq_false_iff_not] at h
 obtain rfl : i = a.length := by omega
 have e : a = b := List.ext_getElem hab fun j h1 h2 => by
  have := hlt j h1
  rwa [List.getD_eq_getElem?_getD, List.getElem?_eq_getElem h1, List.getD_eq_getElem?_getD, List.getElem?_eq_getElem h2] at this
 rw [decide_eq_true e] at hK
 simp -implicitDefEqProofs only [go_sem, Nat.zero_add]
 exact Zb rfl hK
end Go.Proofs.Try.PMT

namespace Go.Proofs.Try.PMT
open Go Go.Proofs.PM Go.Proofs.PL Go.Proofs.Try
set_option maxRecDepth 4000

theorem Zq2 {l : List F} (hl : l.length ≤ 4398046511104) {K : PV → List Ob → Prop} (hK : K (i64 ((cut l).length - 1)) []) : PSpec prog 111 [.vsl false (.arr 4 .one) (ffs l)] [] K := by
 refine Zo6 ?_
 simp only [Zfw]
 simp -implicitDefEqProofs only [go_sem, Nat.zero_add, Nat.reduceSub, Nat.reduceLT]
 refine Zbc hl ?_
 have h := Zcc l
 have hw : IntKind.i64.wrap (((cut l).length : Int) - 1) = ((cut l).length : Int) - 1 := wrs (by omega) (by omega)
 simp -implicitDefEqProofs only [go_sem, Nat.zero_add, Nat.reduceLeDiff, hw]
 exact Zb rfl hK

theorem Z0r {n : Nat} (hn : n ≤ 4398046511104) : (if (0 : Int) > IntKind.i64.wrap ((n : Int) - 1) then 0 else IntKind.i64.wrap ((n : Int) - 1)) = ((n - 1 : Nat) : Int) := by
 rw [wrs (by omega) (by omega)]
 split <;> omega

theorem Zq1 {l : List F} {z : F} (hl : l.length ≤ 4398046511104) {K : PV → List Ob → Prop} (hK : K (.tup [.osl 0 [] 0 (cut (lin l z).2).length, ff (lin l z).1]) [.row 28 (.arr 4 .one) (ffs (cut (lin l z).2))]) : PSpec prog 92 [.vsl false (.arr 4 .one) (ffs l), ff z] [] K := by
 refine Zo5 ?_
 simp only [Zfv]
 simp -implicitDefEqProofs only [go_sem, Nat.zero_add, Nat.reduceAdd, Nat.reduceSub, Nat.reduceEqDiff]
 refine Zld (ι := { k : Nat // k ≤ l.length }) (fun k => ⟨[.vsl false (.arr 4 .one) (ffs l), .any, .any, .ptr 0 [], .osl 3 [] 0 (l.length - 1), .ptr 2 [], i64 ((l.length - k.1 : Nat) : Int), .any, .any, .any, .any, .any, .any, .any, .any, .any, .any, .any, .any, .any, .any, .any, .any, .any, .any, .any, .any, .any, .any, .any, .any, .any, .any, .any, .any, .any],
  osB [(0, .ob (.var (.arr 4 .one) (ff z))), (2, .ob (.var (.arr 4 .one) (ff (linS l z k.1).1))), (3, .ob (.row 28 (.arr 4 .one) (ffs (linS l z k.1).2)))], 4, 0⟩) (fun k => l.length - k.1) ?_ ?_
 ·intro ⟨k, hk⟩ G hG
  dsimp only at hk hG
  have hlen := Zqw l z k
  by_cases he : k = l.length
  ·subst he
   have h0 : IntKind.i64.wrap (((l.length - l.length : Nat) : Int) - 1) = -1 := by rw [Nat.sub_self]; rfl
   have htk : (linS l z l.length).2.take (l.length - 1) = (linS l z l.length).2 := by rw [← hlen, List.take_length]
   simp -implicitDefEqProofs only [go_sem, Bool.not_false, Bool.or_true, List.contains_nil, Nat.reduceAdd, Nat.reduceMul, Nat.reduceEqDiff, Nat.reduceLT, Int.reduceLT, Int.reduceNeg, h0, htk]
   refine Zbc (by rw [hlen]; omega) ?_
   simp -implicitDefEqProofs only [go_sem, Nat.zero_add, Nat.reduceAdd, Nat.reduceMul, Nat.reduceEqDiff, Nat.reduceLeDiff, Int.reduceNeg]
   refine Zy [(20, 0)] [.row 28 (.arr 4 .one) (ffs (cut (lin l z).2))] [.osl 0 [] 0 (cut (lin l z).2).length, ff (lin l z).1] rfl rfl ?_ ?_ hK
   ·simp -implicitDefEqProofs only [go_sem, Nat.zero_add, Nat.reduceEqDiff, Nat.reduceLT, ob_eq, Ob.row.injEq]
    rfl
   ·simp -implicitDefEqProofs only [go_sem]
    rfl
  ·have hw : IntKind.i64.wrap (((l.length - k : Nat) : Int) - 1) = ((l.length - (k + 1) : Nat) : Int) := by rw [wrs (by omega) (by omega)]; omega
   have hn : ¬ (((l.length - (k + 1) : Nat) : Int) < 0) := by omega
   have hlt : l.length - (k + 1) < l.length := by omega
   simp -implicitDefEqProofs only [go_sem, Int.toNat_natCast, Nat.reduceAdd, Nat.reduceMul, Nat.reduceEqDiff, Nat.reduceLT, Int.natCast_nonneg, hw, hn, Z4 hlt]
   repeat (with_reducible refine And.intro (by first | omega | decide) ?_)
   refine Zi4 ?_
   simp -implicitDefEqProofs only [go_sem, Nat.reduceAdd, Nat.reduceMul, Nat.reduceLT]
   refine Zne ?_
   simp -implicitDefEqProofs only [go_sem, Nat.reduceAdd, Nat.reduceMul, Nat.reduceEqDiff]
   have hS1 : (linS l z (k + 1)).1 = l.getD (l.length - (k + 1)) 0 + (linS l z k).1 * z := rfl
   refine Zj (fun h => ?_) (fun h => ?_)
   ·simp only [decide_eq_true_eq] at h
    have hw2 : IntKind.i64.wrap (((l.length - (k + 1) : Nat) : Int) - 1) = ((l.length - (k + 1) - 1 : Nat) : Int) := by rw [wrs (by omega) (by omega)]; omega
    have hS2 : (linS l z (k + 1)).2 = (linS l z k).2.set (l.length - (k + 1) - 1) (l.getD (l.length - (k + 1)) 0 + (linS l z k).1 * z) := by
     simp only [linS]; rw [if_pos (by omega)]
    simp -implicitDefEqProofs only [go_sem, Int.toNat_natCast, Nat.zero_add, Nat.reduceEqDiff, Int.natCast_nonneg, hw2]
    repeat (with_reducible refine And.intro (by first | omega | decide) ?_)
    refine hG _ ⟨k + 1, by omega⟩ (by simp only; omega) ?_
    refine Zd [(0, 0), (2, 2), (3, 3)] rfl rfl rfl ?_ ?_
    ·simp -implicitDefEqProofs only [go_sem, Nat.reduceEqDiff, Nat.reduceLT, hS1, hS2]
    ·simp -implicitDefEqProofs only [go_sem, Nat.reduceEqDiff]
   ·simp only [decide_eq_false_iff_not] at h
    have hS2 : (linS l z (k + 1)).2 = (linS l z k).2 := by
     simp only [linS]; rw [if_neg (by omega)]
    simp -implicitDefEqProofs only [go_sem]
    refine hG _ ⟨k + 1, by omega⟩ (by simp only; omega) ?_
    refine Zd [(0, 0), (2, 2), (3, 3)] rfl rfl rfl ?_ ?_
    ·simp -implicitDefEqProofs only [go_sem, Nat.reduceEqDiff, Nat.reduceLT, hS1, hS2]
    ·simp -implicitDefEqProofs only [go_sem, Nat.reduceEqDiff]
 ·intro G hG
  simp -implicitDefEqProofs only [go_sem, Int.toNat_natCast, Nat.reduceAdd, Nat.reduceEqDiff, Int.natCast_nonneg, Zr, Z0r hl]
  repeat (with_reducible refine And.intro (by first | omega | decide) ?_)
  refine Zsf _ ?_ (Zob (hG ⟨0, Nat.zero_le _⟩))
  refine Zd [(0, 0), (2, 2), (3, 3)] rfl rfl rfl ?_ ?_
  ·simp -implicitDefEqProofs only [go_sem, Nat.reduceEqDiff, Nat.reduceLT, linS]
  ·simp -implicitDefEqProofs only [go_sem, Nat.reduceEqDiff]

theorem Zsk {l : List F} {x : F} (hl : l.length ≤ 4398046511104) {K : PV → List Ob → Prop} (hK : K (ff (lin l x).1) []) : PSpec prog 47 [.vsl false (.arr 4 .one) (ffs l), ff x] [] K := by
 refine Zv6 ?_
 simp only [Zly]
 simp -implicitDefEqProofs only [go_sem, Nat.zero_add, Nat.reduceAdd, Nat.reduceSub, Nat.reduceEqDiff, Nat.reduceLT]
 refine Zq1 hl ?_
 simp -implicitDefEqProofs only [go_sem, Nat.zero_add, Nat.reduceAdd, Nat.reduceEqDiff, Nat.reduceLT, Nat.reduceLeDiff]
 repeat (with_reducible refine And.intro (by first | omega | decide) ?_)
 exact Zb rfl hK
end Go.Proofs.Try.PMT

namespace Go.Proofs.Try.PMT
open Go Go.Proofs.PM Go.Proofs.PL Go.Proofs.Try
set_option maxRecDepth 4000

theorem Z4n (x y : F) : x * (y * wi) * mi = x * y := by
 have h := wi_mi
 generalize wi = w at *
 generalize mi = m at *
 grind
theorem Zwp {a b : List F} (ha : a.length ≤ 4398046511104) (hb : b.length ≤ 4398046511104) {K : PV → List Ob → Prop}
  (h0 : ((cut a).length = 0 ∨ (cut b).length = 0) → K (.tup [.osl 0 [] 0 0, i64 0]) [.row 28 (.arr 4 .one) []])
  (h1 : (cut a).length ≠ 0 → (cut b).length ≠ 0 → 512 < (cut a).length + (cut b).length - 1 → K (.tup [.osl 0 [] 0 0, i64 8]) [.row 28 (.arr 4 .one) []])
  (h2 : (cut a).length ≠ 0 → (cut b).length ≠ 0 → (cut a).length + (cut b).length - 1 ≤ 512 → K (.tup [.osl 0 [] 0 ((cut a).length + (cut b).length - 1), i64 0]) [.row 28 (.arr 4 .one) (ffs (mulL ((cut a).length + (cut b).length - 1) (cut a) (cut b)))]) : PSpec prog 125 [.vsl false (.arr 4 .one) (ffs a), .vsl false (.arr 4 .one) (ffs b)] [] K := by
 refine Ztb ?_
 simp only [Zkn]
 simp -implicitDefEqProofs only [go_sem, Nat.zero_add, Nat.reduceAdd, Nat.reduceSub, Nat.reduceLT]
 refine Zbc ha ?_
 simp -implicitDefEqProofs only [go_sem, Nat.zero_add, Nat.reduceAdd, Nat.reduceEqDiff, Nat.reduceLT, Nat.reduceLeDiff]
 refine Zbc hb ?_
 have la := Zcc a
 have lb := Zcc b
 generalize cut a = A at *
 generalize cut b = B at *
 simp -implicitDefEqProofs only [go_sem, Nat.zero_add, Nat.reduceAdd, Nat.reduceEqDiff, Nat.reduceLeDiff]
 by_cases hA : A.length = 0
 ·have e1 : ((A.length : Int) == 0) = true := by simp [hA]
  simp -implicitDefEqProofs only [go_sem, Nat.reduceAdd, Nat.reduceEqDiff, e1]
  refine Zy [(3, 0)] [.row 28 (.arr 4 .one) []] [.osl 0 [] 0 0, i64 0] rfl rfl ?_ ?_ (h0 (.inl hA))
  ·simp -implicitDefEqProofs only [go_sem, Nat.zero_add, Nat.reduceEqDiff, Nat.reduceLT]
  ·simp -implicitDefEqProofs only [go_sem]
 have e1 : ((A.length : Int) == 0) = false := by simp [hA]
 by_cases hB : B.length = 0
 ·have e2 : ((B.length : Int) == 0) = true := by simp [hB]
  simp -implicitDefEqProofs only [go_sem, Nat.reduceAdd, Nat.reduceEqDiff, e1, e2]
  refine Zy [(3, 0)] [.row 28 (.arr 4 .one) []] [.osl 0 [] 0 0, i64 0] rfl rfl ?_ ?_ (h0 (.inr hB))
  ·simp -implicitDefEqProofs only [go_sem, Nat.zero_add, Nat.reduceEqDiff, Nat.reduceLT]
  ·simp -implicitDefEqProofs only [go_sem]
 have e2 : ((B.length : Int) == 0) = false := by simp [hB]
 have w1 : IntKind.i64.wrap ((A.length : Int) + (B.length : Int)) = ((A.length + B.length : Nat) : Int) := by rw [wrs (by omega) (by omega)]; omega
 have w2 : IntKind.i64.wrap (((A.length + B.length : Nat) : Int) - 1) = ((A.length + B.length - 1 : Nat) : Int) := by rw [wrs (by omega) (by omega)]; omega
 simp -implicitDefEqProofs only [go_sem, Nat.reduceEqDiff, e1, e2, w1, w2]
 refine Zj (fun h => ?_) (fun h => ?_)
 ·simp only [decide_eq_true_eq] at h
  simp -implicitDefEqProofs only [go_sem, Nat.reduceAdd, Nat.reduceEqDiff]
  refine Zy [(3, 0)] [.row 28 (.arr 4 .one) []] [.osl 0 [] 0 0, i64 8] rfl rfl ?_ ?_ (h1 hA hB (by omega))
  ·simp -implicitDefEqProofs only [go_sem, Nat.zero_add, Nat.reduceEqDiff, Nat.reduceLT]
  ·simp -implicitDefEqProofs only [go_sem]
 simp only [decide_eq_false_iff_not] at h
 have h2 := h2 hA hB (by omega)
 clear h0 h1
 simp -implicitDefEqProofs only [go_sem, Nat.reduceEqDiff]
 refine Zw (ι := { i : Nat // i ≤ B.length }) [4, 6, 7, 35, 36, 37, 38, 39, 40, 41, 42, 43, 44, 45] (fun i => [(35, i64 i.1)])
  (fun i => [(1, .ob (.row 28 (.arr 4 .one) (ffs A))), (2, .ob (.row 28 (.arr 4 .one) (ffs (whS wi B i.1))))]) 3 (fun i => B.length - i.1) ⟨0, Nat.zero_le _⟩ ?_ ?_
 ·rw [Zg]
  refine Zd [(1, 1), (2, 2)] rfl rfl rfl ?_ ?_
  ·simp -implicitDefEqProofs only [go_sem, Nat.reduceEqDiff, Nat.reduceLT, whS]
  ·simp -implicitDefEqProofs only [go_sem, Nat.reduceEqDiff]
 intro ⟨i, hi⟩ G hG
 have wl := Zp6 wi B i
 simp -implicitDefEqProofs only [go_sem]
 refine Zj (fun h => ?_) (fun h => ?_)
 ·simp only [decide_eq_true_eq] at h
  have hii : i < (whS wi B i).length := by omega
  have w3 : IntKind.i64.wrap ((i : Int) + 1) = ((i + 1 : Nat) : Int) := by rw [wrs (by omega) (by omega)]; omega
  simp -implicitDefEqProofs only [go_sem, Int.toNat_natCast, Nat.zero_add, Nat.reduceAdd, Nat.reduceEqDiff, Nat.reduceLT, Int.natCast_nonneg, Z4 hii, h]
  refine Zi3 ?_
  simp -implicitDefEqProofs only [go_sem, Int.toNat_natCast, Nat.zero_add, Nat.reduceEqDiff, Int.natCast_nonneg, Z4 hii, h, w3]
  refine hG _ ⟨i + 1, by omega⟩ (by simp only; omega) ?_
  rw [Zg]
  refine Zd [(1, 1), (2, 2)] rfl rfl rfl ?_ ?_
  ·simp -implicitDefEqProofs only [go_sem, Nat.reduceEqDiff, Nat.reduceLT, whS]
  ·simp -implicitDefEqProofs only [go_sem, Nat.reduceEqDiff]
 simp only [decide_eq_false_iff_not] at h
 obtain rfl : i = B.length := by omega
 clear hG wl
 simp -implicitDefEqProofs only [go_sem, Int.toNat_natCast, Nat.reduceAdd, Nat.reduceEqDiff, Int.natCast_nonneg, w1, w2, Zr]
 repeat (with_reducible refine And.intro (by first | omega | decide) ?_)
 have hW : ∀ j, j < B.length → (whS wi B B.length).getD j 0 = B.getD j 0 * wi := fun j hj => by rw [Zs5 wi B B.length j (Nat.le_refl _), if_pos hj]
 have hWl := Zp6 wi B B.length
 generalize whS wi B B.length = W at *
 have hn1 : A.length + B.length - 1 + 1 = A.length + B.length := by omega
 generalize hN : A.length + B.length - 1 = N at *
 refine Zw (ι := { i : Nat // i ≤ A.length }) [4, 9, 10, 11, 12, 55, 56, 57, 58, 59, 60, 61, 62, 63, 64, 65, 66, 67, 68, 69, 70, 71, 72, 73, 74, 75, 76, 77, 78, 79, 80, 81, 82, 83] (fun i => [(55, i64 i.1)])
  (fun i => [(1, .ob (.row 28 (.arr 4 .one) (ffs A))), (2, .ob (.row 28 (.arr 4 .one) (ffs W))), (3, .ob (.row 28 (.arr 4 .one) (ffs (mulI N A B i.1))))]) 4 (fun i => A.length - i.1) ⟨0, Nat.zero_le _⟩ ?_ ?_
 ·rw [Zg]
  refine Zd [(1, 1), (2, 2), (3, 3)] rfl rfl rfl ?_ ?_
  ·simp -implicitDefEqProofs only [go_sem, Nat.reduceEqDiff, Nat.reduceLT, mulI]
  ·simp -implicitDefEqProofs only [go_sem, Nat.reduceEqDiff]
 intro ⟨i, hi⟩ G hG
 have ml := Zk9 N A B i
 simp -implicitDefEqProofs only [go_sem]
 refine Zj (fun h => ?_) (fun h => ?_)
 ·simp only [decide_eq_true_eq] at h
  have hii : i < A.length := by omega
  have w3 : IntKind.i64.wrap ((i : Int) + 1) = ((i + 1 : Nat) : Int) := by rw [wrs (by omega) (by omega)]; omega
  simp -implicitDefEqProofs only [go_sem, Int.toNat_natCast, Nat.zero_add, Nat.reduceAdd, Nat.reduceEqDiff, Int.natCast_nonneg, Z4 hii, h]
  refine Zw (ι := { j : Nat // j ≤ B.length }) [4, 11, 12, 62, 63, 64, 65, 66, 67, 68, 69, 70, 71, 72, 73, 74, 75, 76, 77, 78, 79, 80, 81, 82] (fun j => [(62, i64 j.1)])
   (fun j => [(1, .ob (.row 28 (.arr 4 .one) (ffs A))), (2, .ob (.row 28 (.arr 4 .one) (ffs W))), (3, .ob (.row 28 (.arr 4 .one) (ffs (mulJ (A.getD i 0) i B (mulI N A B i) j.1)))), (4, .ob (.var (.arr 4 .one) (ff (A.getD i 0))))]) 5 (fun j => B.length - j.1) ⟨0, Nat.zero_le _⟩ ?_ ?_
  ·rw [Zg]
   refine Zd [(1, 1), (2, 2), (3, 3), (4, 4)] rfl rfl rfl ?_ ?_
   ·simp -implicitDefEqProofs only [go_sem, Nat.reduceEqDiff, Nat.reduceLT, mulJ]
   ·simp -implicitDefEqProofs only [go_sem, Nat.reduceEqDiff]
  intro ⟨j, hj⟩ G' hG'
  have mj := Zk8 (A.getD i 0) i B (mulI N A B i) j
  simp -implicitDefEqProofs only [go_sem]
  refine Zj (fun h' => ?_) (fun h' => ?_)
  ·simp only [decide_eq_true_eq] at h'
   have hjj : j < W.length := by omega
   have hij : i + j < (mulJ (A.getD i 0) i B (mulI N A B i) j).length := by omega
   have hijN : ((i + j : Nat) : Int) < (N : Int) := by omega
   have w4 : IntKind.i64.wrap ((i : Int) + (j : Int)) = ((i + j : Nat) : Int) := by rw [wrs (by omega) (by omega)]; omega
   have w5 : IntKind.i64.wrap ((j : Int) + 1) = ((j + 1 : Nat) : Int) := by rw [wrs (by omega) (by omega)]; omega
   simp -implicitDefEqProofs only [go_sem, Int.toNat_natCast, Nat.zero_add, Nat.reduceAdd, Nat.reduceMul, Nat.reduceEqDiff, Nat.reduceLT, Int.natCast_nonneg, Z4 hjj, h', w4, Z4 hij, hijN]
   refine Zgj ?_
   simp -implicitDefEqProofs only [go_sem, Nat.reduceAdd, Nat.reduceMul, Nat.reduceLT]
   refine Zne ?_
   simp -implicitDefEqProofs only [go_sem, Int.toNat_natCast, Nat.zero_add, Nat.reduceAdd, Nat.reduceMul, Nat.reduceEqDiff, Int.natCast_nonneg, Z4 hij, hijN, w5]
   refine hG' _ ⟨j + 1, by omega⟩ (by simp only; omega) ?_
   rw [Zg]
   refine Zd [(1, 1), (2, 2), (3, 3), (4, 4)] rfl rfl rfl ?_ ?_
   ·simp -implicitDefEqProofs only [go_sem, Nat.reduceEqDiff, Nat.reduceLT, mulJ, hW j (by omega), Z4n]
   ·simp -implicitDefEqProofs only [go_sem, Nat.reduceEqDiff]
  ·simp only [decide_eq_false_iff_not] at h'
   obtain rfl : j = B.length := by omega
   clear hG'
   simp -implicitDefEqProofs only [go_sem, Nat.reduceEqDiff, w3]
   refine hG _ ⟨i + 1, by omega⟩ (by simp only; omega) ?_
   rw [Zg]
   refine Zd [(1, 1), (2, 2), (3, 3)] rfl rfl rfl ?_ ?_
   ·simp -implicitDefEqProofs only [go_sem, Nat.reduceEqDiff, Nat.reduceLT, mulI]
   ·simp -implicitDefEqProofs only [go_sem, Nat.reduceEqDiff]
 simp only [decide_eq_false_iff_not] at h
 obtain rfl : i = A.length := by omega
 clear hG
 simp -implicitDefEqProofs only [go_sem]
 refine Zy [(3, 0)] [.row 28 (.arr 4 .one) (ffs (mulL N A B))] [.osl 0 [] 0 N, i64 0] rfl rfl ?_ ?_ h2
 ·simp -implicitDefEqProofs only [go_sem, Nat.zero_add, Nat.reduceEqDiff, Nat.reduceLT, ob_eq, Ob.row.injEq]
  rfl
 ·simp -implicitDefEqProofs only [go_sem]
end Go.Proofs.Try.PMT

namespace Go.Proofs.Try.PMT
open Go Go.Proofs.PM Go.Proofs.PL Go.Proofs.Try
set_option maxRecDepth 4000

end Go.Proofs.Try.PMT

namespace Go.Proofs.Try.PMT
open Go Go.Proofs.PM Go.Proofs.PL Go.Proofs.Try
set_option maxRecDepth 4000

theorem Zdk {l : List F} (hl : l.length ≤ 4398046511104) {K : PV → List Ob → Prop} (hK : K (.osl 0 [] 0 (cut l).length) [.row 28 (.arr 4 .one) (ffs (cut l))]) : PSpec prog 75 [.vsl false (.arr 4 .one) (ffs l)] [] K := by
 refine Zjs ?_
 simp only [Zdd]
 simp -implicitDefEqProofs only [go_sem, Nat.zero_add, Nat.reduceSub]
 refine Zw (ι := { n : Nat // n ≤ l.length ∧ top l n = top l l.length }) [3, 6, 7, 8, 9, 10, 11, 12, 13, 14, 15, 16, 17, 18] (fun n => [(3, i64 n.1)]) (fun _ => [(0, .ob (.row 28 (.arr 4 .one) []))]) 1 (fun n => n.1) ⟨l.length, Nat.le_refl _, rfl⟩ ?_ ?_
 ·rw [Zg]
  refine Zd [(0, 0)] rfl rfl rfl ?_ ?_
  ·simp -implicitDefEqProofs only [go_sem, Nat.reduceLT]
  ·simp -implicitDefEqProofs only [go_sem]
 ·intro ⟨n, hn, ht⟩ G hG
  dsimp only at hG
  rcases n with _ | k
  ·have htop : top l 0 = 0 := rfl
   have hcut : cut l = l.take 0 := by rw [cut, ← ht, htop]
   have hc : (l.take 0).length = 0 := by rw [List.length_take]; omega
   simp -implicitDefEqProofs only [go_sem, Nat.zero_add, Nat.reduceAdd, Nat.reduceMul, Nat.reduceEqDiff, Int.reduceLE, Int.reduceGT, Int.natCast_nonneg, hc]
   repeat (with_reducible refine And.intro (by first | omega | decide) ?_)
   rw [hcut, hc] at hK
   refine Zy [(2, 0)] [.row 28 (.arr 4 .one) (ffs (l.take 0))] [.osl 0 [] 0 0] rfl rfl ?_ ?_ hK
   ·simp -implicitDefEqProofs only [go_sem, Nat.zero_add, Nat.reduceEqDiff, Nat.reduceLT]
   ·simp -implicitDefEqProofs only [go_sem]
  ·have hw : IntKind.i64.wrap (((k + 1 : Nat) : Int) - 1) = (k : Int) := by rw [wrs (by omega) (by omega)]; omega
   have hk : ((k : Int) < (l.length : Int)) := by omega
   simp -implicitDefEqProofs only [go_sem, Int.toNat_natCast, Int.natCast_nonneg, Z2s, hw, Zr, Z4 (show k < l.length by omega), hk]
   refine Zj (fun h => ?_) (fun h => ?_)
   ·simp only [decide_eq_true_eq] at h
    simp -implicitDefEqProofs only [go_sem, hw]
    refine hG _ ⟨k, by omega, by rw [← ht, top, if_pos h]⟩ (by simp only; omega) ?_
    rw [Zg]
    refine Zd [(0, 0)] rfl rfl rfl ?_ ?_
    ·simp -implicitDefEqProofs only [go_sem, Nat.reduceLT]
    ·simp -implicitDefEqProofs only [go_sem]
   ·simp only [decide_eq_false_iff_not] at h
    have htop : top l (k + 1) = k + 1 := by rw [top, if_neg h]
    have hcut : cut l = l.take (k + 1) := by rw [cut, ← ht, htop]
    have hc : (l.take (k + 1)).length = k + 1 := by rw [List.length_take]; omega
    simp -implicitDefEqProofs only [go_sem, Int.toNat_natCast, Nat.zero_add, Nat.reduceAdd, Nat.reduceEqDiff, Nat.reduceLeDiff, Int.reduceLE, Int.natCast_nonneg, hc]
    repeat (with_reducible refine And.intro (by first | omega | decide) ?_)
    rw [hcut, hc] at hK
    refine Zy [(2, 0)] [.row 28 (.arr 4 .one) (ffs (l.take (k + 1)))] [.osl 0 [] 0 (k + 1)] rfl rfl ?_ ?_ hK
    ·simp -implicitDefEqProofs only [go_sem, Nat.zero_add, Nat.reduceEqDiff, Nat.reduceLT]
    ·simp -implicitDefEqProofs only [go_sem]

theorem Z0y {l : List F} {x : F} (hl : l.length ≤ 4398046511104) {K : PV → List Ob → Prop} (hK : K (ff (hor x l)) []) : PSpec prog 12 [.vsl false (.arr 4 .one) (ffs l), ff x] [] K := by
 refine Zkg ?_
 simp only [Zdx]
 have hw : IntKind.i64.wrap ((l.length : Int) - 1) = (l.length : Int) - 1 := wrs (by omega) (by omega)
 simp -implicitDefEqProofs only [go_sem, Nat.zero_add, Nat.reduceAdd, Nat.reduceSub, Nat.reduceEqDiff, Zr, hw]
 refine Zw (ι := { i : Nat // i ≤ l.length }) [6, 10, 11, 12, 13, 14, 15, 16, 17, 18, 19, 20, 21] (fun i => [(6, i64 ((i.1 : Int) - 1))])
  (fun i => [(0, .ob (.var (.arr 4 .one) (ff x))), (1, .ob (.var (.arr 4 .one) (ff 0))), (2, .ob (.var (.arr 4 .one) (ff (hor x (l.drop i.1)))))]) 3 (fun i => i.1) ⟨l.length, Nat.le_refl _⟩ ?_ ?_
 ·rw [Zg]
  refine Zd [(0, 0), (1, 1), (2, 2)] rfl rfl rfl ?_ ?_
  ·simp -implicitDefEqProofs only [go_sem, Nat.reduceEqDiff, Nat.reduceLT, Zyw x l _ (Nat.le_refl _)]
  ·simp -implicitDefEqProofs only [go_sem, Nat.reduceEqDiff]
 intro ⟨i, hi⟩ G hG
 dsimp only at hi hG
 rcases i with _ | k
 ·simp -implicitDefEqProofs only [go_sem, Nat.reduceEqDiff, Int.reduceSub, Int.reduceNeg, Int.reduceGE]
  refine Zb rfl ?_
  simp only [Zb1]
  exact hK
 ·have h1 : ((k + 1 : Nat) : Int) - 1 = (k : Int) := by omega
  have h2 : IntKind.i64.wrap ((k : Int) - 1) = (k : Int) - 1 := wrs (by omega) (by omega)
  have hge : decide ((k : Int) ≥ 0) = true := by simp
  have hk : k < l.length := by omega
  have hk2 : (k : Int) < (l.length : Int) := by omega
  have hd := Zu3 x l k hk
  simp -implicitDefEqProofs only [go_sem, Int.toNat_natCast, Nat.reduceAdd, Nat.reduceMul, Nat.reduceEqDiff, Nat.reduceLT, Int.natCast_nonneg, h1, Z4 hk, hk2]
  refine Zbj ?_
  simp -implicitDefEqProofs only [go_sem, Nat.reduceAdd, Nat.reduceMul, Nat.reduceLT]
  refine Ze9 ?_
  simp -implicitDefEqProofs only [go_sem, Nat.reduceAdd, Nat.reduceMul, Nat.reduceEqDiff, h2]
  refine hG _ ⟨k, by omega⟩ (by simp only; omega) ?_
  rw [Zg]
  refine Zd [(0, 0), (1, 1), (2, 2)] rfl rfl rfl ?_ ?_
  ·simp -implicitDefEqProofs only [go_sem, Nat.reduceEqDiff, Nat.reduceLT, ob_eq, Ob.var.injEq]
   rw [hd]
   exact congrArg ff (by grind)
  ·simp -implicitDefEqProofs only [go_sem, Nat.reduceEqDiff]

end Go.Proofs.Try.PMT

namespace Go.Proofs.Try.PMT
open Go Go.Proofs.PM Go.Proofs.PL Go.Proofs.Try
set_option maxRecDepth 4000

theorem Zoh {n : Nat} (h0 : 0 < n) (hn : n ≤ 1000000) {K : PV → List Ob → Prop} (hK : K (.osl 0 [] 0 (n + 1)) [.row 28 (.arr 4 .one) (ffs (vnl n))]) : PSpec prog 28 [i64 n] [] K := by
 obtain ⟨N, hN⟩ : ∃ N, N = n + 1 := ⟨_, rfl⟩
 rw [vnl, ← hN] at hK
 refine Zfi ?_
 simp only [Zbp]
 have w1 : IntKind.i64.wrap ((n : Int) + 1) = (N : Int) := by rw [wrs (by omega) (by omega)]; omega
 have h1 : (0 : Int) < (N : Int) := by omega
 have h2 : (n : Int) < (N : Int) := by omega
 simp -implicitDefEqProofs only [go_sem, Int.toNat_natCast, Nat.zero_add, Nat.reduceAdd, Nat.reduceSub, Nat.reduceEqDiff, Nat.reduceLT, Int.natCast_nonneg, w1, Zr]
 repeat (with_reducible refine And.intro (by first | omega | decide) ?_)
 refine Zbd (Zs rfl) ?_
 simp -implicitDefEqProofs only [go_sem, Nat.reduceLT, Zfq]
 refine Zi2 ?_
 simp -implicitDefEqProofs only [go_sem, Nat.reduceLT]
 refine Zbd (Zs rfl) ?_
 simp -implicitDefEqProofs only [go_sem, Int.toNat_natCast, Nat.zero_add, Nat.reduceEqDiff, Int.reduceLE, Int.natCast_nonneg, Zfq, h1, h2]
 repeat (with_reducible refine And.intro (by first | omega | decide) ?_)
 refine Zy [(1, 0)] [.row 28 (.arr 4 .one) (ffs (((List.replicate N (0 : F)).set 0 (0 - 1)).set n 1))] [.osl 0 [] 0 N] rfl rfl ?_ ?_ hK
 ·simp -implicitDefEqProofs only [go_sem, Nat.zero_add, Nat.reduceEqDiff, Nat.reduceLT]
 ·simp -implicitDefEqProofs only [go_sem]

theorem Zyp {A B : List F} (ha : A.length ≤ 1000000) (hb : B.length ≤ 1000000) {K : PV → List Ob → Prop} (hK : K (.osl 0 [] 0 (cut (mulL (A.length + B.length) A B)).length) [.row 28 (.arr 4 .one) (ffs (cut (mulL (A.length + B.length) A B)))]) : PSpec prog 40 [.vsl false (.arr 4 .one) (ffs A), .vsl false (.arr 4 .one) (ffs B)] [] K := by
 refine Zjq ?_
 simp only [Zdb]
 have w1 : IntKind.i64.wrap ((A.length : Int) + (B.length : Int)) = ((A.length + B.length : Nat) : Int) := by rw [wrs (by omega) (by omega)]; omega
 simp -implicitDefEqProofs only [go_sem, Int.toNat_natCast, Nat.zero_add, Nat.reduceAdd, Nat.reduceSub, Nat.reduceEqDiff, Int.natCast_nonneg, w1, Zr]
 repeat (with_reducible refine And.intro (by first | omega | decide) ?_)
 generalize hN : A.length + B.length = N at *
 refine Zw (ι := { i : Nat // i ≤ A.length }) [4, 6, 7, 14, 15, 16, 17, 18, 19, 20, 21, 22, 23, 24, 25, 26, 27, 28, 29, 30, 31, 32, 33, 34, 35, 36, 37, 38, 39, 40, 41, 42, 43, 44, 45, 46] (fun i => [(6, i64 i.1)])
  (fun i => [(1, .ob (.row 28 (.arr 4 .one) (ffs (mulI N A B i.1))))]) 2 (fun i => A.length - i.1) ⟨0, Nat.zero_le _⟩ ?_ ?_
 ·rw [Zg]
  refine Zd [(1, 1)] rfl rfl rfl ?_ ?_
  ·simp -implicitDefEqProofs only [go_sem, Nat.reduceEqDiff, Nat.reduceLT, mulI]
  ·simp -implicitDefEqProofs only [go_sem]
 intro ⟨i, hi⟩ G hG
 simp -implicitDefEqProofs only [go_sem]
 have ml := Zk9 N A B i
 refine Zj (fun h => ?_) (fun h => ?_)
 ·simp only [decide_eq_true_eq] at h
  have hii : i < A.length := by omega
  have w3 : IntKind.i64.wrap ((i : Int) + 1) = ((i + 1 : Nat) : Int) := by rw [wrs (by omega) (by omega)]; omega
  simp -implicitDefEqProofs only [go_sem, h, decide_true]
  refine Zw (ι := { j : Nat // j ≤ B.length }) [4, 7, 20, 21, 22, 23, 24, 25, 26, 27, 28, 29, 30, 31, 32, 33, 34, 35, 36, 37, 38, 39, 40, 41, 42, 43, 44, 45, 46] (fun j => [(7, i64 j.1)])
   (fun j => [(1, .ob (.row 28 (.arr 4 .one) (ffs (mulJ (A.getD i 0) i B (mulI N A B i) j.1))))]) 2 (fun j => B.length - j.1) ⟨0, Nat.zero_le _⟩ ?_ ?_
  ·rw [Zg]
   refine Zd [(1, 1)] rfl rfl rfl ?_ ?_
   ·simp -implicitDefEqProofs only [go_sem, Nat.reduceLT, mulJ]
   ·simp -implicitDefEqProofs only [go_sem]
  intro ⟨j, hj⟩ G' hG'
  simp -implicitDefEqProofs only [go_sem]
  have mj := Zk8 (A.getD i 0) i B (mulI N A B i) j
  refine Zj (fun h' => ?_) (fun h' => ?_)
  ·simp only [decide_eq_true_eq] at h'
   have hjj : j < B.length := by omega
   have hij : i + j < (mulJ (A.getD i 0) i B (mulI N A B i) j).length := by omega
   have hijN : ((i + j : Nat) : Int) < (N : Int) := by omega
   have w4 : IntKind.i64.wrap ((i : Int) + (j : Int)) = ((i + j : Nat) : Int) := by rw [wrs (by omega) (by omega)]; omega
   have w5 : IntKind.i64.wrap ((j : Int) + 1) = ((j + 1 : Nat) : Int) := by rw [wrs (by omega) (by omega)]; omega
   simp -implicitDefEqProofs only [go_sem, Int.toNat_natCast, Nat.zero_add, Nat.reduceAdd, Nat.reduceMul, Nat.reduceLT, Int.natCast_nonneg, Z4 hii, Z4 hjj, h, h', w4, Z4 hij, hijN]
   refine Zbj ?_
   simp -implicitDefEqProofs only [go_sem, Nat.reduceAdd, Nat.reduceMul, Nat.reduceLT]
   refine Ze9 ?_
   simp -implicitDefEqProofs only [go_sem, Int.toNat_natCast, Nat.zero_add, Nat.reduceAdd, Nat.reduceMul, Int.natCast_nonneg, Z4 hij, hijN, w5]
   refine hG' _ ⟨j + 1, by omega⟩ (by simp only; omega) ?_
   rw [Zg]
   refine Zd [(1, 1)] rfl rfl rfl ?_ ?_
   ·simp -implicitDefEqProofs only [go_sem, Nat.reduceLT, mulJ]
   ·simp -implicitDefEqProofs only [go_sem]
  ·simp only [decide_eq_false_iff_not] at h'
   obtain rfl : j = B.length := by omega
   clear hG'
   simp -implicitDefEqProofs only [go_sem, Bool.not_false, Bool.or_true, List.contains_nil, Nat.reduceEqDiff, Nat.reduceLT, w3]
   refine hG _ ⟨i + 1, by omega⟩ (by simp only; omega) ?_
   rw [Zg]
   refine Zd [(1, 1)] rfl rfl rfl ?_ ?_
   ·simp -implicitDefEqProofs only [go_sem, Nat.reduceLT, mulI]
   ·simp -implicitDefEqProofs only [go_sem]
 simp only [decide_eq_false_iff_not] at h
 obtain rfl : i = A.length := by omega
 clear hG
 have tk : (mulI N A B A.length).take N = mulI N A B A.length := List.take_of_length_le (by omega)
 simp -implicitDefEqProofs only [go_sem, Bool.not_false, Bool.or_true, List.contains_nil, Nat.reduceLT, tk]
 refine Zdk (by omega) ?_
 simp -implicitDefEqProofs only [go_sem, Nat.zero_add, Nat.reduceAdd, Nat.reduceEqDiff, Nat.reduceLeDiff]
 refine Zy [(2, 0)] [.row 28 (.arr 4 .one) (ffs (cut (mulL N A B)))] [.osl 0 [] 0 (cut (mulL N A B)).length] rfl rfl ?_ ?_ hK
 ·simp -implicitDefEqProofs only [go_sem, Nat.zero_add, Nat.reduceEqDiff, Nat.reduceLT, ob_eq, Ob.row.injEq]
  rfl
 ·simp -implicitDefEqProofs only [go_sem]
  rfl

theorem Z10 {k : Nat} (hk : k ≤ 9) : binI .shl .i64 1 (k : Int) = .int .i64 ((2 ^ k : Nat) : Int) := by
 have : k = 0 ∨ k = 1 ∨ k = 2 ∨ k = 3 ∨ k = 4 ∨ k = 5 ∨ k = 6 ∨ k = 7 ∨ k = 8 ∨ k = 9 := by omega
 rcases this with rfl | rfl | rfl | rfl | rfl | rfl | rfl | rfl | rfl | rfl <;> rfl

theorem Zqz {a : List F} {log : Nat} (ha : a.length ≤ 1000000) (hlog : log ≤ 9) {K : PV → List Ob → Prop} (hK : ∀ q e, (q, e) = van (2 ^ log) a → K (.tup [.osl 0 [] 0 q.length, i64 e]) [.row 28 (.arr 4 .one) (ffs q)]) : PSpec prog 78 [.vsl false (.arr 4 .one) (ffs a), i64 log] [] K := by
 have hn0 : 0 < 2 ^ log := Nat.two_pow_pos _
 have hn9 : 2 ^ log ≤ 2 ^ 9 := Nat.pow_le_pow_right (by decide) hlog
 have la := Zcc a
 have hshl := Z10 hlog
 simp only [van] at hK
 refine Zo4 ?_
 simp only [Zfu]
 generalize hn : 2 ^ log = n at *
 have hn512 : n ≤ 512 := hn9
 refine Zld (ι := { k : Nat // k ≤ (cut a).length - n }) (fun k => ⟨[.any, .any, .any, .any, .any, .any, .osl 1 [] 0 (cut a).length, i64 n, .osl 2 [] 0 ((cut a).length - n), i64 (((cut a).length - n - k.1 : Nat) : Int), .any, .any, .any, .any, .any, .any, .any, .any, .any, .any, .any, .any, .any, .any, .any, .any, .any, .any, .any, .any, .any, .any, .any, .any, .any, .any, .any, .any, .any, .any, .any, .any, .any, .any, .any, .any, .any, .any, .any, .any, .any, .any, .any, .any, .any, .any, .any, .any, .any, .any, .any, .any, .any, .any, .any],
  osB [(1, .ob (.row 28 (.arr 4 .one) (ffs (vanS n ((cut a).length - n) (cut a) k.1).2))), (2, .ob (.row 28 (.arr 4 .one) (ffs (vanS n ((cut a).length - n) (cut a) k.1).1)))], 3, 0⟩) (fun k => (cut a).length - n - k.1) ?_ ?_
 ·intro ⟨k, hk⟩ G hG
  simp -implicitDefEqProofs only [go_sem]
  dsimp only at hk hG
  generalize cut a = A at *
  obtain ⟨m, hm⟩ : ∃ m, A.length - n = m := ⟨_, rfl⟩
  rw [hm] at hk hG hK ⊢
  by_cases he : k = m
  ·subst he
   have h0 : IntKind.i64.wrap (((k - k : Nat) : Int) - 1) = -1 := by rw [Nat.sub_self]; rfl
   clear hG
   simp -implicitDefEqProofs only [go_sem, Bool.not_false, Bool.or_true, List.contains_nil, Nat.reduceEqDiff, Nat.reduceLT, Int.reduceNeg, Int.reduceGE, h0]
   have l1 := (Zky n k A k).1
   have l2 := (Zky n k A k).2
   generalize (vanS n k A k).1 = q at *
   generalize (vanS n k A k).2 = r at *
   have t1 : q.take k = q := by rw [← l1, List.take_length]
   have t2 : r.take A.length = r := by rw [← l2, List.take_length]
   simp -implicitDefEqProofs only [go_sem, Int.reduceNeg, t2]
   refine Zq2 (by omega) ?_
   simp -implicitDefEqProofs only [go_sem, Int.reduceNeg]
   refine Zj (fun h => ?_) (fun h => ?_)
   ·simp only [decide_eq_true_eq] at h
    have hK := hK [] 18 (by rw [if_neg (by omega)])
    simp -implicitDefEqProofs only [go_sem, Nat.reduceAdd, Nat.reduceEqDiff, Int.reduceNeg]
    refine Zy [(3, 0)] [.row 28 (.arr 4 .one) []] [.osl 0 [] 0 0, i64 18] rfl rfl ?_ ?_ hK
    ·simp -implicitDefEqProofs only [go_sem, Nat.zero_add, Nat.reduceEqDiff, Nat.reduceLT]
    ·simp -implicitDefEqProofs only [go_sem]
   ·simp only [decide_eq_false_iff_not] at h
    have hK := hK (cut q) 0 (by rw [if_pos (by omega)])
    simp -implicitDefEqProofs only [go_sem, Bool.not_false, Bool.or_true, List.contains_nil, Nat.reduceEqDiff, Nat.reduceLT, Int.reduceNeg, t1]
    refine Zbc (by omega) ?_
    simp -implicitDefEqProofs only [go_sem, Nat.zero_add, Nat.reduceAdd, Nat.reduceEqDiff, Nat.reduceLeDiff, Int.reduceNeg]
    refine Zy [(3, 0)] [.row 28 (.arr 4 .one) (ffs (cut q))] [.osl 0 [] 0 (cut q).length, i64 0] rfl rfl ?_ ?_ hK
    ·simp -implicitDefEqProofs only [go_sem, Nat.zero_add, Nat.reduceEqDiff, Nat.reduceLT]
    ·simp -implicitDefEqProofs only [go_sem]
  ·clear hK
   obtain ⟨i, hi⟩ : ∃ i, m - (k + 1) = i := ⟨_, rfl⟩
   have hw : IntKind.i64.wrap (((m - k : Nat) : Int) - 1) = (i : Int) := by rw [wrs (by omega) (by omega)]; omega
   have hge : decide ((i : Int) ≥ 0) = true := by simp
   have w1 : IntKind.i64.wrap ((i : Int) + (n : Int)) = ((i + n : Nat) : Int) := by rw [wrs (by omega) (by omega)]; omega
   have l1 := (Zky n m A k).1
   have l2 := (Zky n m A k).2
   have hS : vanS n m A (k + 1) = ((vanS n m A k).1.set i ((vanS n m A k).2.getD (i + n) 0), ((vanS n m A k).2.set i ((vanS n m A k).2.getD i 0 + (vanS n m A k).2.getD (i + n) 0)).set (i + n) 0) := by rw [← hi]; rfl
   have hS1 := congrArg Prod.fst hS
   have hS2 := congrArg Prod.snd hS
   dsimp only at hS1 hS2
   clear hS
   generalize (vanS n m A k).1 = q at *
   generalize (vanS n m A k).2 = r at *
   have hin : i + n < r.length := by omega
   have hi2 : i < r.length := by omega
   have b1 : ((i + n : Nat) : Int) < (A.length : Int) := by omega
   have b2 : (i : Int) < (A.length : Int) := by omega
   have b3 : (i : Int) < (m : Int) := by omega
   have hq : i < (q.set i (r.getD (i + n) 0)).length := by rw [List.length_set]; omega
   have hqg : (q.set i (r.getD (i + n) 0)).getD i 0 = r.getD (i + n) 0 := Zq8 (by omega)
   simp -implicitDefEqProofs only [go_sem, Int.toNat_natCast, Nat.zero_add, Nat.reduceAdd, Nat.reduceMul, Nat.reduceEqDiff, Nat.reduceLT, Int.natCast_nonneg, hw, w1, Z4 hin, Z4 hi2, b1, b2, b3, Z4 hq, hqg, Zr]
   refine Zne ?_
   simp -implicitDefEqProofs only [go_sem, Int.toNat_natCast, Nat.zero_add, Nat.reduceAdd, Nat.reduceMul, Nat.reduceEqDiff, Int.natCast_nonneg, Z4 hi2, b1, b2]
   refine hG _ ⟨k + 1, by omega⟩ (by simp only; omega) ?_
   refine Zd [(1, 1), (2, 2)] rfl rfl rfl ?_ ?_
   ·simp -implicitDefEqProofs only [go_sem, Nat.reduceEqDiff, Nat.reduceLT, hS1, hS2]
   ·simp -implicitDefEqProofs only [go_sem, Nat.reduceEqDiff, hi]
 ·intro G hG
  have w0 : IntKind.u64.wrap (log : Int) = (log : Int) := wru (by omega) (by omega)
  have h1 : ¬ ((log : Int) < 0) := by omega
  have h2 : ¬ ((log : Int) > 9) := by omega
  simp -implicitDefEqProofs only [go_sem, Nat.zero_add, Nat.reduceAdd, Nat.reduceSub, Nat.reduceLT, h1, h2]
  refine Zbc (by omega) ?_
  generalize cut a = A at *
  have w2 : IntKind.i64.wrap ((A.length : Int) - (n : Int)) = (A.length : Int) - (n : Int) := wrs (by omega) (by omega)
  have hmx : (if (0 : Int) > (A.length : Int) - (n : Int) then 0 else (A.length : Int) - (n : Int)) = ((A.length - n : Nat) : Int) := by split <;> omega
  simp -implicitDefEqProofs only [go_sem, Int.toNat_natCast, Nat.zero_add, Nat.reduceAdd, Nat.reduceEqDiff, Nat.reduceLeDiff, Int.natCast_nonneg, w0, ↓hshl, w2, hmx, Zr]
  repeat (with_reducible refine And.intro (by first | omega | decide) ?_)
  refine Zsf _ ?_ (Zob (hG ⟨0, Nat.zero_le _⟩))
  refine Zd [(1, 1), (2, 2)] rfl rfl rfl ?_ ?_
  ·simp -implicitDefEqProofs only [go_sem, Nat.reduceEqDiff, Nat.reduceLT, vanS]
  ·simp -implicitDefEqProofs only [go_sem, Nat.reduceEqDiff]
end Go.Proofs.Try.PMT

namespace Go.Proofs.Try.PMT
open Go Go.Proofs.PM Go.Proofs.PL Go.Proofs.Try
set_option maxRecDepth 4000

theorem Zlc {l : List F} {i : Nat} (hl : l.length ≤ 4398046511104) {K : PV → List Ob → Prop} (hK : K (ff (l.getD i 0)) []) : PSpec prog 126 [.vsl false (.arr 4 .one) (ffs l), i64 i] [] K := by
 refine Zv5 ?_
 simp only [Zlu]
 simp -implicitDefEqProofs only [go_sem, Nat.zero_add, Nat.reduceAdd, Nat.reduceSub]
 refine Zj (fun h => ?_) (fun h => ?_)
 ·simp only [decide_eq_true_eq] at h
  have hi : i < l.length := by omega
  simp -implicitDefEqProofs only [go_sem, Int.toNat_natCast, Int.natCast_nonneg, h, Z4 hi]
  exact Zb rfl hK
 ·simp only [decide_eq_false_iff_not] at h
  rw [Zdz (by omega)] at hK
  simp -implicitDefEqProofs only [go_sem, Zr]
  exact Zb rfl hK

@[go_sem] theorem Z1q {ρ : Nat → Option Nat} {fr : Bool} {os : Nat → Option Ob} {k : F} : cnv ρ fr os 3 (.vp false (ff k)) = .vp false (ff k) := by
 have h : cnvW ρ fr os (cnv ρ fr os 2) (ff k) = ff k := @cnv_ff ρ fr os 3 k
 show cnvW ρ fr os (cnv ρ fr os 2) (.vp false (ff k)) = _
 rw [cnvW, h]; rfl
@[go_sem] theorem cnv_fnff {ρ : Nat → Option Nat} {fr : Bool} {os : Nat → Option Ob} {f : FuncId} {k : F} : cnv ρ fr os 3 (.fn f [.vp false (ff k)]) = .fn f [.vp false (ff k)] := by
 have h : cnvW ρ fr os (cnv ρ fr os 2) (.vp false (ff k)) = .vp false (ff k) := @Z1q ρ fr os k
 show cnvW ρ fr os (cnv ρ fr os 2) (.fn f [.vp false (ff k)]) = _
 rw [cnvW, cnvL, cnvL, h]
@[go_sem] theorem leaf_vpff {k : F} : (PV.vp false (ff k)).leaf = true := rfl

theorem Zmt {a b : List F} {g : F → F → F} {f : FuncId} (ha : a.length ≤ 1000000) (hb : b.length ≤ 1000000)
  (hf : ∀ (x y : F) (K : PV → List Ob → Prop), K (ff (g x y)) [] → PSpec prog f [ff x, ff y] [] K)
  {K : PV → List Ob → Prop} (hK : K (.osl 0 [] 0 (cut (bth g a b)).length) [.row 28 (.arr 4 .one) (ffs (cut (bth g a b)))]) : PSpec prog 122 [.vsl false (.arr 4 .one) (ffs a), .vsl false (.arr 4 .one) (ffs b), .fn f []] [] K := by
 refine Zmn ?_
 simp only [Zfp]
 rw [bth] at hK
 obtain ⟨N, hN⟩ : ∃ N, max a.length b.length = N := ⟨_, rfl⟩
 rw [hN] at hK
 have hx : (if (b.length : Int) > (a.length : Int) then (b.length : Int) else (a.length : Int)) = (N : Int) := by
  rw [← hN]
  by_cases h : (b.length : Int) > (a.length : Int)
  ·rw [if_pos h, Nat.max_eq_right (by omega)]
  ·rw [if_neg h, Nat.max_eq_left (by omega)]
 have hN2 : N ≤ 1000000 := by omega
 obtain ⟨r, hr⟩ : ∃ r : Nat → F, (fun i => g (a.getD i 0) (b.getD i 0)) = r := ⟨_, rfl⟩
 rw [hr] at hK
 have hri : ∀ i, g (a.getD i 0) (b.getD i 0) = r i := fun i => by rw [← hr]
 simp -implicitDefEqProofs only [go_sem, Int.toNat_natCast, Nat.zero_add, Nat.reduceAdd, Nat.reduceSub, Nat.reduceEqDiff, Int.natCast_nonneg, hx, Zr]
 repeat (with_reducible refine And.intro (by first | omega | decide) ?_)
 refine Zw (ι := { i : Nat // i ≤ N }) [6, 8, 17, 18, 19, 20, 21, 22, 23, 24, 25, 26, 27, 28, 29, 30, 31] (fun i => [(17, i64 i.1)])
  (fun i => [(1, .ob (.row 28 (.arr 4 .one) (ffs (fil N r i.1))))]) 2 (fun i => N - i.1) ⟨0, Nat.zero_le _⟩ ?_ ?_
 ·rw [Zg]
  refine Zd [(1, 1)] rfl rfl rfl ?_ ?_
  ·simp -implicitDefEqProofs only [go_sem, Nat.reduceEqDiff, Nat.reduceLT, fil]
  ·simp -implicitDefEqProofs only [go_sem]
 intro ⟨i, hi⟩ G hG
 have fl := Zmg N r i
 simp -implicitDefEqProofs only [go_sem]
 refine Zj (fun h => ?_) (fun h => ?_)
 ·simp only [decide_eq_true_eq] at h
  have w3 : IntKind.i64.wrap ((i : Int) + 1) = ((i + 1 : Nat) : Int) := by rw [wrs (by omega) (by omega)]; omega
  simp -implicitDefEqProofs only [go_sem, Nat.reduceLT, h]
  refine Zlc (by omega) ?_
  simp -implicitDefEqProofs only [go_sem, Nat.reduceLT]
  refine Zlc (by omega) ?_
  simp -implicitDefEqProofs only [go_sem]
  repeat (with_reducible refine And.intro (by first | omega | decide) ?_)
  refine hf _ _ _ ?_
  simp -implicitDefEqProofs only [go_sem, Int.toNat_natCast, Nat.zero_add, Int.natCast_nonneg, h, w3]
  refine hG _ ⟨i + 1, by omega⟩ (by simp only; omega) ?_
  rw [Zg]
  refine Zd [(1, 1)] rfl rfl rfl ?_ ?_
  ·simp -implicitDefEqProofs only [go_sem, Nat.reduceLT, fil, hri]
  ·simp -implicitDefEqProofs only [go_sem]
 simp only [decide_eq_false_iff_not] at h
 obtain rfl : i = N := by omega
 clear hG
 rw [← Zt1] at hK
 have tk : (fil i r i).take i = fil i r i := List.take_of_length_le (by omega)
 simp -implicitDefEqProofs only [go_sem, Bool.not_false, Bool.or_true, List.contains_nil, Nat.reduceLT, tk]
 refine Zbc (by omega) ?_
 simp -implicitDefEqProofs only [go_sem, Nat.zero_add, Nat.reduceAdd, Nat.reduceEqDiff, Nat.reduceLeDiff]
 refine Zy [(2, 0)] [.row 28 (.arr 4 .one) (ffs (cut (fil i r i)))] [.osl 0 [] 0 (cut (fil i r i)).length] rfl rfl ?_ ?_ hK
 ·simp -implicitDefEqProofs only [go_sem, Nat.zero_add, Nat.reduceEqDiff, Nat.reduceLT]
 ·simp -implicitDefEqProofs only [go_sem]

theorem Zsh {a b : List F} {g : F → F → F} {f : FuncId} {k : F} (ha : a.length ≤ 1000000) (hb : b.length ≤ 1000000)
  (hf : ∀ (x y : F) (K : PV → List Ob → Prop), K (ff (g x y)) [] → PSpec prog f [ff x, ff y, .vp false (ff k)] [] K)
  {K : PV → List Ob → Prop} (hK : K (.osl 0 [] 0 (cut (bth g a b)).length) [.row 28 (.arr 4 .one) (ffs (cut (bth g a b)))]) : PSpec prog 122 [.vsl false (.arr 4 .one) (ffs a), .vsl false (.arr 4 .one) (ffs b), .fn f [.vp false (ff k)]] [] K := by
 refine Zmn ?_
 simp only [Zfp]
 rw [bth] at hK
 obtain ⟨N, hN⟩ : ∃ N, max a.length b.length = N := ⟨_, rfl⟩
 rw [hN] at hK
 have hx : (if (b.length : Int) > (a.length : Int) then (b.length : Int) else (a.length : Int)) = (N : Int) := by
  rw [← hN]
  by_cases h : (b.length : Int) > (a.length : Int)
  ·rw [if_pos h, Nat.max_eq_right (by omega)]
  ·rw [if_neg h, Nat.max_eq_left (by omega)]
 have hN2 : N ≤ 1000000 := by omega
 obtain ⟨r, hr⟩ : ∃ r : Nat → F, (fun i => g (a.getD i 0) (b.getD i 0)) = r := ⟨_, rfl⟩
 rw [hr] at hK
 have hri : ∀ i, g (a.getD i 0) (b.getD i 0) = r i := fun i => by rw [← hr]
 simp -implicitDefEqProofs only [go_sem, Int.toNat_natCast, Nat.zero_add, Nat.reduceAdd, Nat.reduceSub, Nat.reduceEqDiff, Int.natCast_nonneg, hx, Zr]
 repeat (with_reducible refine And.intro (by first | omega | decide) ?_)
 refine Zw (ι := { i : Nat // i ≤ N }) [6, 8, 17, 18, 19, 20, 21, 22, 23, 24, 25, 26, 27, 28, 29, 30, 31] (fun i => [(17, i64 i.1)])
  (fun i => [(1, .ob (.row 28 (.arr 4 .one) (ffs (fil N r i.1))))]) 2 (fun i => N - i.1) ⟨0, Nat.zero_le _⟩ ?_ ?_
 ·rw [Zg]
  refine Zd [(1, 1)] rfl rfl rfl ?_ ?_
  ·simp -implicitDefEqProofs only [go_sem, Nat.reduceEqDiff, Nat.reduceLT, fil]
  ·simp -implicitDefEqProofs only [go_sem]
 intro ⟨i, hi⟩ G hG
 have fl := Zmg N r i
 simp -implicitDefEqProofs only [go_sem]
 refine Zj (fun h => ?_) (fun h => ?_)
 ·simp only [decide_eq_true_eq] at h
  have w3 : IntKind.i64.wrap ((i : Int) + 1) = ((i + 1 : Nat) : Int) := by rw [wrs (by omega) (by omega)]; omega
  simp -implicitDefEqProofs only [go_sem, Nat.reduceLT, h]
  refine Zlc (by omega) ?_
  simp -implicitDefEqProofs only [go_sem, Nat.reduceLT]
  refine Zlc (by omega) ?_
  simp -implicitDefEqProofs only [go_sem]
  repeat (with_reducible refine And.intro (by first | omega | decide) ?_)
  refine hf _ _ _ ?_
  simp -implicitDefEqProofs only [go_sem, Int.toNat_natCast, Nat.zero_add, Int.natCast_nonneg, h, w3]
  refine hG _ ⟨i + 1, by omega⟩ (by simp only; omega) ?_
  rw [Zg]
  refine Zd [(1, 1)] rfl rfl rfl ?_ ?_
  ·simp -implicitDefEqProofs only [go_sem, Nat.reduceLT, fil, hri]
  ·simp -implicitDefEqProofs only [go_sem]
 simp only [decide_eq_false_iff_not] at h
 obtain rfl : i = N := by omega
 clear hG
 rw [← Zt1] at hK
 have tk : (fil i r i).take i = fil i r i := List.take_of_length_le (by omega)
 simp -implicitDefEqProofs only [go_sem, Bool.not_false, Bool.or_true, List.contains_nil, Nat.reduceLT, tk]
 refine Zbc (by omega) ?_
 simp -implicitDefEqProofs only [go_sem, Nat.zero_add, Nat.reduceAdd, Nat.reduceEqDiff, Nat.reduceLeDiff]
 refine Zy [(2, 0)] [.row 28 (.arr 4 .one) (ffs (cut (fil i r i)))] [.osl 0 [] 0 (cut (fil i r i)).length] rfl rfl ?_ ?_ hK
 ·simp -implicitDefEqProofs only [go_sem, Nat.zero_add, Nat.reduceEqDiff, Nat.reduceLT]
 ·simp -implicitDefEqProofs only [go_sem]

theorem Zmb {a b : List F} (ha : a.length ≤ 1000000) (hb : b.length ≤ 1000000) {K : PV → List Ob → Prop} (hK : K (.osl 0 [] 0 (cut (bth (fun x y => x + y) a b)).length) [.row 28 (.arr 4 .one) (ffs (cut (bth (fun x y => x + y) a b)))]) : PSpec prog 112 [.vsl false (.arr 4 .one) (ffs a), .vsl false (.arr 4 .one) (ffs b)] [] K := by
 refine Ztd ?_
 simp only [Zkp]
 simp -implicitDefEqProofs only [go_sem, Nat.zero_add, Nat.reduceAdd, Nat.reduceSub, Nat.reduceLT]
 refine Zmt (g := fun x y => x + y) ha hb (fun x y K h => Zne h) ?_
 generalize cut (bth (fun x y => x + y) a b) = R at *
 simp -implicitDefEqProofs only [go_sem, Nat.zero_add, Nat.reduceAdd, Nat.reduceEqDiff, Nat.reduceLeDiff]
 refine Zy [(1, 0)] [.row 28 (.arr 4 .one) (ffs R)] [.osl 0 [] 0 R.length] rfl rfl ?_ ?_ hK
 ·simp -implicitDefEqProofs only [go_sem, Nat.zero_add, Nat.reduceEqDiff, Nat.reduceLT]
 ·simp -implicitDefEqProofs only [go_sem]

theorem Zwo {a b : List F} (ha : a.length ≤ 1000000) (hb : b.length ≤ 1000000) {K : PV → List Ob → Prop} (hK : K (.osl 0 [] 0 (cut (bth (fun x y => x - y) a b)).length) [.row 28 (.arr 4 .one) (ffs (cut (bth (fun x y => x - y) a b)))]) : PSpec prog 120 [.vsl false (.arr 4 .one) (ffs a), .vsl false (.arr 4 .one) (ffs b)] [] K := by
 refine Zta ?_
 simp only [Zkl]
 simp -implicitDefEqProofs only [go_sem, Nat.zero_add, Nat.reduceAdd, Nat.reduceSub, Nat.reduceLT]
 refine Zmt (g := fun x y => x - y) ha hb (fun x y K h => Zu0 h) ?_
 generalize cut (bth (fun x y => x - y) a b) = R at *
 simp -implicitDefEqProofs only [go_sem, Nat.zero_add, Nat.reduceAdd, Nat.reduceEqDiff, Nat.reduceLeDiff]
 refine Zy [(1, 0)] [.row 28 (.arr 4 .one) (ffs R)] [.osl 0 [] 0 R.length] rfl rfl ?_ ?_ hK
 ·simp -implicitDefEqProofs only [go_sem, Nat.zero_add, Nat.reduceEqDiff, Nat.reduceLT]
 ·simp -implicitDefEqProofs only [go_sem]

theorem Zq0 {x y k : F} {K : PV → List Ob → Prop} (hK : K (ff (x * k)) []) : PSpec prog 123 [ff x, ff y, .vp false (ff k)] [] K := by
 refine Zm0 ?_
 simp only [Zeu]
 simp -implicitDefEqProofs only [go_sem, Nat.zero_add, Nat.reduceAdd, Nat.reduceSub, Nat.reduceEqDiff, Nat.reduceLT]
 refine Zi4 ?_
 simp -implicitDefEqProofs only [go_sem, Nat.reduceEqDiff]
 exact Zb rfl hK

theorem Zsj {a : List F} {k : F} (ha : a.length ≤ 1000000) {K : PV → List Ob → Prop} (hK : K (.osl 0 [] 0 (cut (bth (fun x _ => x * k) a [])).length) [.row 28 (.arr 4 .one) (ffs (cut (bth (fun x _ => x * k) a [])))]) : PSpec prog 113 [.vsl false (.arr 4 .one) (ffs a), ff k] [] K := by
 refine Zqc ?_
 simp only [Zgt]
 simp -implicitDefEqProofs only [go_sem, Nat.zero_add, Nat.reduceAdd, Nat.reduceSub, Nat.reduceEqDiff, Nat.reduceLT]
 refine Zsh (b := []) (g := fun x _ => x * k) ha (by simp) (fun x y K h => Zq0 h) ?_
 generalize cut (bth (fun x _ => x * k) a []) = R at *
 simp -implicitDefEqProofs only [go_sem, Nat.zero_add, Nat.reduceAdd, Nat.reduceEqDiff, Nat.reduceLeDiff]
 refine Zy [(2, 0)] [.row 28 (.arr 4 .one) (ffs R)] [.osl 0 [] 0 R.length] rfl rfl ?_ ?_ hK
 ·simp -implicitDefEqProofs only [go_sem, Nat.zero_add, Nat.reduceEqDiff, Nat.reduceLT]
 ·simp -implicitDefEqProofs only [go_sem]
end Go.Proofs.Try.PMT
