/- Products of polynomials as calls tell them: coefficients, values, sums, the top. No conditions. -/
import Derived.Test.YtjibihaamkplbaaU0
import Derived.Test.YtjibihaamkplbaaU17
import Derived.Test.YtjibihaamkplbaaU13
import Derived.Test.YtjibihaamkplbaaU11
import Derived.Test.YtjibihaamkplbaaU14
set_option linter.all false
namespace Go.Proofs.PL
def addl : List F → List F → List F
 | [], m => m
 | x :: l, [] => x :: l
 | x :: l, y :: m => (x + y) :: addl l m
theorem Zpy (x : F) : x + 0 = x := by grind
theorem Zoo (x : F) : 0 + x = x := by grind
theorem Zsv (x : F) : x * 0 = 0 := by grind
theorem Zpz (x : F) : 0 * x = 0 := by grind
theorem Zi8 : ∀ (l m : List F) (k : Nat), (addl l m).getD k 0 = l.getD k 0 + m.getD k 0
 | [], m, k => by simp only [addl, List.getD_nil]; rw [Zoo]
 | x :: l, [], k => by simp only [addl, List.getD_nil]; rw [Zpy]
 | x :: l, y :: m, 0 => by simp only [addl, List.getD_cons_zero]
 | x :: l, y :: m, k + 1 => by simp only [addl, List.getD_cons_succ]; exact Zi8 l m k
theorem Z1a (z x : F) (l : List F) : hor z (x :: l) = x + hor z l * z := rfl
theorem Zu4 (z : F) : ∀ l m : List F, hor z (addl l m) = hor z l + hor z m
 | [], m => by simp only [addl]; exact (Zoo _).symm
 | x :: l, [] => by simp only [addl]; exact (Zpy _).symm
 | x :: l, y :: m => by
  simp only [addl, Z1a]
  rw [Zu4 z l m]
  generalize hor z l = p
  generalize hor z m = q
  grind
def sca (x : F) (l : List F) : List F := l.map fun y => x * y
theorem Znq (x : F) : ∀ (l : List F) (k : Nat), (sca x l).getD k 0 = x * l.getD k 0
 | [], k => by simp only [sca, List.map_nil, List.getD_nil]; rw [Zsv]
 | y :: l, 0 => by simp only [sca, List.map_cons, List.getD_cons_zero]
 | y :: l, k + 1 => by simp only [sca, List.map_cons, List.getD_cons_succ]; exact Znq x l k
def conv : List F → List F → List F
 | [], _ => []
 | x :: a, b => addl (sca x b) (0 :: conv a b)
theorem Znb (f : Nat → F) : ∀ n, sm (n + 1) f = f 0 + sm n (fun i => f (i + 1))
 | 0 => by simp only [sm]; rw [Zoo, Zpy]
 | n + 1 => by
  rw [sm, Znb f n]
  simp only [sm]
  generalize sm n (fun i => f (i + 1)) = p
  generalize f (n + 1) = q
  generalize f 0 = r
  grind
theorem Zft : ∀ (a b : List F) (k : Nat), (conv a b).getD k 0 = sm a.length (tm a b k)
 | [], b, k => by simp only [conv, List.getD_nil, List.length_nil, sm]
 | x :: a, b, 0 => by
  simp only [conv]
  rw [Zi8, Znq, List.length_cons, Znb, Znn (f := fun i => tm (x :: a) b 0 (i + 1)) a.length (fun i _ => by simp only [tm]; rw [if_neg (by omega)])]
  simp only [tm, List.getD_cons_zero, Nat.sub_zero]
  rw [if_pos (Nat.le_refl _)]
 | x :: a, b, k + 1 => by
  simp only [conv]
  rw [Zi8, Znq, List.length_cons, Znb, List.getD_cons_succ, Zft a b k]
  have e : tm (x :: a) b (k + 1) 0 = x * b.getD (k + 1) 0 := by simp only [tm, List.getD_cons_zero, Nat.sub_zero]; rw [if_pos (Nat.zero_le _)]
  rw [e]
  refine congrArg (fun y => x * b.getD (k + 1) 0 + y) (Zfn _ fun i _ => ?_)
  simp only [tm, List.getD_cons_succ]
  by_cases h : i ≤ k
  ·rw [if_pos h, if_pos (by omega), Nat.add_sub_add_right]
  ·rw [if_neg h, if_neg (by omega)]
/-- What poly.Mul tells. -/
def pm (a b : List F) : List F := if (cut a).length = 0 ∨ (cut b).length = 0 then [] else mulL ((cut a).length + (cut b).length - 1) (cut a) (cut b)
theorem Zum (a b : List F) : (pm a b).length = if (cut a).length = 0 ∨ (cut b).length = 0 then 0 else (cut a).length + (cut b).length - 1 := by
 rw [pm]
 split
 ·rfl
 ·exact Zk9 ..
theorem pm_le (a b : List F) : (pm a b).length ≤ a.length + b.length := by
 have h1 := Zcc a
 have h2 := Zcc b
 rw [Zum]
 split <;> omega
theorem Z2n {l : List F} (h : l.length = 0) : l = [] := List.length_eq_zero_iff.1 h
theorem Zvh : ∀ a : List F, ∀ k, (conv a []).getD k 0 = 0
 | [], k => by simp only [conv, List.getD_nil]
 | x :: a, 0 => by simp only [conv, Zi8, Znq, List.getD_nil, List.getD_cons_zero]; rw [Zsv]; exact zz
 | x :: a, k + 1 => by simp only [conv, Zi8, Znq, List.getD_nil, List.getD_cons_succ]; rw [Zvh a k, Zsv]; exact zz
theorem Zxt (a b : List F) (k : Nat) : (pm a b).getD k 0 = (conv (cut a) (cut b)).getD k 0 := by
 rw [pm]
 by_cases h : (cut a).length = 0 ∨ (cut b).length = 0
 ·rw [if_pos h, List.getD_nil]
  rcases h with h | h
  ·rw [Z2n h]; rfl
  ·rw [Z2n h, Zvh]
 ·rw [if_neg h, Zus (by omega), Zft]
theorem pm_top (a b : List F) (h : ¬ ((cut a).length = 0 ∨ (cut b).length = 0)) : (pm a b).getD ((pm a b).length - 1) 0 ≠ 0 := by
 have ha := Zre a (fun e => h (.inl e))
 have hb := Zre b (fun e => h (.inr e))
 rw [Zxt, Zum, if_neg h, Zft]
 obtain ⟨p, hp⟩ : ∃ p, (cut a).length = p + 1 := ⟨(cut a).length - 1, by omega⟩
 obtain ⟨q, hq⟩ : ∃ q, (cut b).length = q + 1 := ⟨(cut b).length - 1, by omega⟩
 rw [hp, Nat.add_sub_cancel] at ha
 rw [hq, Nat.add_sub_cancel] at hb
 rw [hp, hq, show p + 1 + (q + 1) - 1 - 1 = p + q by omega, sm, Znn (f := tm (cut a) (cut b) (p + q)) p (fun i hi => by
  simp only [tm]
  rw [if_pos (by omega), Zdz (l := cut b) (by omega), Zsv]), Zoo]
 simp only [tm]
 rw [if_pos (by omega), Nat.add_sub_cancel_left]
 exact fun e => (Zx7 e).elim ha hb
theorem Z2h (a b : List F) : cut (pm a b) = pm a b := by
 by_cases h : (cut a).length = 0 ∨ (cut b).length = 0
 ·rw [pm, if_pos h]; rfl
 ·have ht := pm_top a b h
  have hl := Zum a b
  rw [if_neg h] at hl
  exact Zor (n := (pm a b).length - 1) (by omega) ht
theorem Zzo (a b : List F) (k : Nat) : (bth (fun x y => x + y) a b).getD k 0 = a.getD k 0 + b.getD k 0 := Zt9 (fun x y => x + y) zz a b k
theorem Z3e (a b : List F) (k : Nat) : (bth (fun x y => x - y) a b).getD k 0 = a.getD k 0 - b.getD k 0 := Zt9 (fun x y => x - y) (by decide +kernel) a b k
theorem Z51 (z : F) (a b : List F) : hor z (cut (bth (fun x y => x + y) a b)) = hor z a + hor z b := by
 rw [Zok z _ (addl a b) (fun k => by rw [Zei, Zzo, Zi8]), Zu4]
end Go.Proofs.PL

namespace Go.Proofs.Try.PMT
open Go Go.Proofs.PM Go.Proofs.PL Go.Proofs.Try
set_option maxRecDepth 4000

theorem take1 (x : PV) : List.take 1 [x] = [x] := rfl
theorem len1 (x : PV) : [x].length = 1 := rfl
theorem has1 (x : F) : [ff x].all (Sh.arr 4 .one).has = true := rfl
theorem Zrd (n : Nat) (f : Nat → F) : ffs (PL.tab (n + 1) f) = ffs (PL.tab n f) ++ [ff (f n)] := by rw [PL.tab_succ]; simp [ffs]

theorem Zsi {l : List F} {z : F} (hl : l.length ≤ 1000000) {K : PV → List Ob → Prop} (hK : K (.osl 0 [] 0 (cut (shS z (cut l) (cut l).length).1).length) [.row 28 (.arr 4 .one) (ffs (cut (shS z (cut l) (cut l).length).1))]) : PSpec prog 121 [.vsl false (.arr 4 .one) (ffs l), ff z] [] K := by
 refine Zqb ?_
 simp only [Zgs]
 simp -implicitDefEqProofs only [go_sem, Nat.zero_add, Nat.reduceAdd, Nat.reduceSub, Nat.reduceEqDiff, Nat.reduceLT]
 refine Zbc (by omega) ?_
 have lA := Zcc l
 generalize cut l = A at *
 simp -implicitDefEqProofs only [go_sem, Nat.zero_add, Nat.reduceAdd, Nat.reduceEqDiff, Nat.reduceLT, Nat.reduceLeDiff]
 refine Zmc (Zs rfl) ?_
 simp -implicitDefEqProofs only [go_sem, Nat.reduceAdd, Nat.reduceEqDiff, Zfq]
 refine Zw (ι := { i : Nat // i ≤ A.length }) [4, 7, 8, 14, 15, 16, 17, 18, 19, 20, 21, 22, 23, 24, 25, 26, 27, 28] (fun i => [(14, i64 i.1)])
  (fun i => [(0, .ob (.var (.arr 4 .one) (ff z))), (2, .ob (.row 28 (.arr 4 .one) (ffs (shS z A i.1).1))), (3, .ob (.var (.arr 4 .one) (ff (shS z A i.1).2)))]) 4 (fun i => A.length - i.1) ⟨0, Nat.zero_le _⟩ ?_ ?_
 ·rw [Zg]
  refine Zd [(0, 0), (2, 2), (3, 3)] rfl rfl rfl ?_ ?_
  ·simp -implicitDefEqProofs only [go_sem, Nat.reduceEqDiff, Nat.reduceLT, shS]
  ·simp -implicitDefEqProofs only [go_sem, Nat.reduceEqDiff]
 intro ⟨i, hi⟩ G hG
 have sl := Zqh z A i
 simp -implicitDefEqProofs only [go_sem]
 refine Zj (fun h => ?_) (fun h => ?_)
 ·simp only [decide_eq_true_eq] at h
  have hii : i < (shS z A i).1.length := by omega
  have w3 : IntKind.i64.wrap ((i : Int) + 1) = ((i + 1 : Nat) : Int) := by rw [wrs (by omega) (by omega)]; omega
  simp -implicitDefEqProofs only [go_sem, Int.toNat_natCast, Nat.zero_add, Nat.reduceAdd, Nat.reduceEqDiff, Nat.reduceLT, Int.natCast_nonneg, h, Z4 hii]
  refine Zi4 ?_
  simp -implicitDefEqProofs only [go_sem, Int.toNat_natCast, Nat.zero_add, Nat.reduceEqDiff, Nat.reduceLT, Int.natCast_nonneg, h, Z4 hii]
  refine Zi4 ?_
  simp -implicitDefEqProofs only [go_sem, Nat.reduceEqDiff, w3]
  refine hG _ ⟨i + 1, by omega⟩ (by simp only; omega) ?_
  rw [Zg]
  refine Zd [(0, 0), (2, 2), (3, 3)] rfl rfl rfl ?_ ?_
  ·simp -implicitDefEqProofs only [go_sem, Nat.reduceEqDiff, Nat.reduceLT, shS]
  ·simp -implicitDefEqProofs only [go_sem, Nat.reduceEqDiff]
 simp only [decide_eq_false_iff_not] at h
 obtain rfl : i = A.length := by omega
 clear hG
 have tk : (shS z A A.length).1.take A.length = (shS z A A.length).1 := List.take_of_length_le (by omega)
 simp -implicitDefEqProofs only [go_sem, Bool.not_false, Bool.or_true, List.contains_nil, Nat.reduceEqDiff, Nat.reduceLT, tk]
 refine Zbc (by omega) ?_
 generalize cut (shS z A A.length).1 = R at *
 simp -implicitDefEqProofs only [go_sem, Nat.zero_add, Nat.reduceAdd, Nat.reduceEqDiff, Nat.reduceLeDiff]
 refine Zy [(4, 0)] [.row 28 (.arr 4 .one) (ffs R)] [.osl 0 [] 0 R.length] rfl rfl ?_ ?_ hK
 ·simp -implicitDefEqProofs only [go_sem, Nat.zero_add, Nat.reduceEqDiff, Nat.reduceLT]
 ·simp -implicitDefEqProofs only [go_sem]

theorem Zuz {l : List F} {i : Nat} (hl : l.length ≤ 4398046511104) {K : PV → List Ob → Prop} (hK : K (ff (l.getD i 0)) []) : PSpec prog 91 [.vsl false (.arr 4 .one) (ffs l), i64 i] [] K := by
 refine Zkd ?_
 simp only [Zdu]
 simp -implicitDefEqProofs only [go_sem, Nat.zero_add, Nat.reduceAdd, Nat.reduceSub]
 refine Zj (fun h => ?_) (fun h => ?_)
 ·simp only [decide_eq_true_eq] at h
  have hi : i < l.length := by omega
  simp -implicitDefEqProofs only [go_sem, Int.toNat_natCast, Int.natCast_nonneg, h, Z4 hi]
  exact Zb rfl hK
 ·simp only [decide_eq_false_iff_not] at h
  rw [Zdz (by omega)] at hK
  simp -implicitDefEqProofs only [go_sem, Zr]
  exact Zb rfl hK

theorem Zoi {a b : List F} (ha : a.length ≤ 1000000) (hb : b.length ≤ 1000000) {K : PV → List Ob → Prop} (hK : K (.osl 0 [] 0 (cut (bth (fun x y => x + y) a b)).length) [.row 28 (.arr 4 .one) (ffs (cut (bth (fun x y => x + y) a b)))]) : PSpec prog 42 [.vsl false (.arr 4 .one) (ffs a), .vsl false (.arr 4 .one) (ffs b)] [] K := by
 refine Zjt ?_
 simp only [Zde]
 rw [bth] at hK
 obtain ⟨N, hN⟩ : ∃ N, max a.length b.length = N := ⟨_, rfl⟩
 rw [hN] at hK
 have hx : (if (b.length : Int) > (a.length : Int) then (b.length : Int) else (a.length : Int)) = (N : Int) := by
  rw [← hN]
  by_cases h : (b.length : Int) > (a.length : Int)
  ·rw [if_pos h, Nat.max_eq_right (by omega)]
  ·rw [if_neg h, Nat.max_eq_left (by omega)]
 have hN2 : N ≤ 1000000 := by omega
 obtain ⟨r, hr⟩ : ∃ r : Nat → F, (fun i => a.getD i 0 + b.getD i 0) = r := ⟨_, rfl⟩
 rw [hr] at hK
 have hri : ∀ i, a.getD i 0 + b.getD i 0 = r i := fun i => by rw [← hr]
 simp -implicitDefEqProofs only [go_sem, Nat.zero_add, Nat.reduceAdd, Nat.reduceSub, Nat.reduceEqDiff]
 refine Zw (ι := { i : Nat // i ≤ N }) [4, 5, 6, 7, 8, 9, 10, 11, 12, 13, 14, 15, 16, 17, 18, 19, 20, 21, 22, 23, 24, 25] (fun i => [(5, .osl 1 [] 0 i.1), (6, i64 i.1)])
  (fun i => [(1, .ob (.row 28 (.arr 4 .one) (ffs (PL.tab i.1 r))))]) 2 (fun i => N - i.1) ⟨0, Nat.zero_le _⟩ ?_ ?_
 ·rw [Zg]
  refine Zd [(1, 1)] rfl rfl rfl ?_ ?_
  ·simp -implicitDefEqProofs only [go_sem, Nat.reduceEqDiff, Nat.reduceLT, ob_eq, Ob.row.injEq, PL.tab]
   try rfl
  ·simp -implicitDefEqProofs only [go_sem]
 intro ⟨i, hi⟩ G hG
 have tl := PL.tab_len i r
 simp -implicitDefEqProofs only [go_sem, hx]
 refine Zj (fun h => ?_) (fun h => ?_)
 ·simp only [decide_eq_true_eq] at h
  have w3 : IntKind.i64.wrap ((i : Int) + 1) = ((i + 1 : Nat) : Int) := by rw [wrs (by omega) (by omega)]; omega
  simp -implicitDefEqProofs only [go_sem, Nat.reduceLT, h]
  refine Zuz (by omega) ?_
  simp -implicitDefEqProofs only [go_sem, Nat.reduceLT]
  refine Zuz (by omega) ?_
  simp -implicitDefEqProofs only [go_sem, Nat.reduceLT]
  refine Ze9 ?_
  simp -implicitDefEqProofs only [go_sem, Nat.reduceAdd, Nat.reduceEqDiff, Nat.reduceLT, Nat.reduceLeDiff, w3, tl, take1, len1, has1, true_and]
  repeat (with_reducible refine And.intro (by first | omega | decide) ?_)
  refine hG _ ⟨i + 1, by omega⟩ (by simp only; omega) ?_
  rw [Zg]
  refine Zd [(3, 1)] rfl rfl rfl ?_ ?_
  ·simp -implicitDefEqProofs only [go_sem, Nat.reduceEqDiff, Nat.reduceLT, ← Zrd, hri]
  ·simp -implicitDefEqProofs only [go_sem]
 simp only [decide_eq_false_iff_not] at h
 obtain rfl : i = N := by omega
 clear hG
 have tk : (PL.tab i r).take i = PL.tab i r := List.take_of_length_le (by omega)
 simp -implicitDefEqProofs only [go_sem, Bool.not_false, Bool.or_true, List.contains_nil, Nat.reduceLT, tk]
 refine Zdk (by omega) ?_
 generalize cut (PL.tab i r) = R at *
 simp -implicitDefEqProofs only [go_sem, Nat.zero_add, Nat.reduceAdd, Nat.reduceEqDiff, Nat.reduceLeDiff]
 refine Zy [(2, 0)] [.row 28 (.arr 4 .one) (ffs R)] [.osl 0 [] 0 R.length] rfl rfl ?_ ?_ hK
 ·simp -implicitDefEqProofs only [go_sem, Nat.zero_add, Nat.reduceEqDiff, Nat.reduceLT]
 ·simp -implicitDefEqProofs only [go_sem]

theorem Ztt {a : List F} {z : F} (ha : a.length ≤ 1000000) {K : PV → List Ob → Prop} (hK : K (.osl 0 [] 0 (cut (bth (fun x _ => x * z) a [])).length) [.row 28 (.arr 4 .one) (ffs (cut (bth (fun x _ => x * z) a [])))]) : PSpec prog 39 [.vsl false (.arr 4 .one) (ffs a), ff z] [] K := by
 refine Zht ?_
 simp only [Zb8]
 rw [bth, show max a.length ([] : List F).length = a.length by simp] at hK
 obtain ⟨r, hr⟩ : ∃ r : Nat → F, (fun i => a.getD i 0 * z) = r := ⟨_, rfl⟩
 rw [hr] at hK
 have hri : ∀ i, a.getD i 0 * z = r i := fun i => by rw [← hr]
 simp -implicitDefEqProofs only [go_sem, Nat.zero_add, Nat.reduceAdd, Nat.reduceSub, Nat.reduceEqDiff]
 refine Zw (ι := { i : Nat // i ≤ a.length }) [4, 5, 6, 7, 8, 9, 10, 11, 12, 13, 14, 15, 16, 17, 18, 19, 20, 21] (fun i => [(5, .osl 2 [] 0 i.1), (6, i64 i.1)])
  (fun i => [(0, .ob (.var (.arr 4 .one) (ff z))), (2, .ob (.row 28 (.arr 4 .one) (ffs (PL.tab i.1 r))))]) 3 (fun i => a.length - i.1) ⟨0, Nat.zero_le _⟩ ?_ ?_
 ·rw [Zg]
  refine Zd [(0, 0), (2, 2)] rfl rfl rfl ?_ ?_
  ·simp -implicitDefEqProofs only [go_sem, Nat.reduceEqDiff, Nat.reduceLT, ob_eq, Ob.row.injEq, PL.tab]
   try rfl
  ·simp -implicitDefEqProofs only [go_sem, Nat.reduceEqDiff]
 intro ⟨i, hi⟩ G hG
 have tl := PL.tab_len i r
 simp -implicitDefEqProofs only [go_sem]
 refine Zj (fun h => ?_) (fun h => ?_)
 ·simp only [decide_eq_true_eq] at h
  have hii : i < a.length := by omega
  have w3 : IntKind.i64.wrap ((i : Int) + 1) = ((i + 1 : Nat) : Int) := by rw [wrs (by omega) (by omega)]; omega
  simp -implicitDefEqProofs only [go_sem, Int.toNat_natCast, Nat.reduceAdd, Nat.reduceMul, Nat.reduceEqDiff, Nat.reduceLT, Int.natCast_nonneg, h, Z4 hii]
  refine Zbj ?_
  simp -implicitDefEqProofs only [go_sem, Nat.reduceAdd, Nat.reduceMul, Nat.reduceEqDiff, Nat.reduceLT, Nat.reduceLeDiff, w3, tl, take1, len1, has1, true_and]
  repeat (with_reducible refine And.intro (by first | omega | decide) ?_)
  refine hG _ ⟨i + 1, by omega⟩ (by simp only; omega) ?_
  rw [Zg]
  refine Zd [(0, 0), (131, 2)] rfl rfl rfl ?_ ?_
  ·simp -implicitDefEqProofs only [go_sem, Nat.reduceEqDiff, Nat.reduceLT, ← Zrd, hri]
  ·simp -implicitDefEqProofs only [go_sem, Nat.reduceEqDiff]
 simp only [decide_eq_false_iff_not] at h
 obtain rfl : i = a.length := by omega
 clear hG
 have tk : (PL.tab a.length r).take a.length = PL.tab a.length r := List.take_of_length_le (by omega)
 simp -implicitDefEqProofs only [go_sem, Bool.not_false, Bool.or_true, List.contains_nil, Nat.reduceEqDiff, Nat.reduceLT, tk]
 refine Zdk (by omega) ?_
 generalize cut (PL.tab a.length r) = R at *
 simp -implicitDefEqProofs only [go_sem, Nat.zero_add, Nat.reduceAdd, Nat.reduceEqDiff, Nat.reduceLeDiff]
 refine Zy [(3, 0)] [.row 28 (.arr 4 .one) (ffs R)] [.osl 0 [] 0 R.length] rfl rfl ?_ ?_ hK
 ·simp -implicitDefEqProofs only [go_sem, Nat.zero_add, Nat.reduceEqDiff, Nat.reduceLT]
 ·simp -implicitDefEqProofs only [go_sem]
end Go.Proofs.Try.PMT

namespace Go.Proofs.Try.PMT
open Go Go.Proofs.PM Go.Proofs.PL Go.Proofs.Try
set_option maxRecDepth 4000

end Go.Proofs.Try.PMT

namespace Go.Proofs.Try.PMT
open Go Go.Proofs.PM Go.Proofs.PL Go.Proofs.Try
set_option maxRecDepth 4000

end Go.Proofs.Try.PMT

namespace Go.Proofs.PM
open Go Go.Proofs.PL
set_option maxRecDepth 4000
theorem or_lt {a b : Nat} (ha : a < 18446744073709551616) (hb : b < 18446744073709551616) : a ||| b < 18446744073709551616 := Nat.or_lt_two_pow (n := 64) ha hb
theorem Z5q {a k : Nat} (hk : k < 64) : binI .shl .u64 (a : Int) (k : Int) = .int .u64 ((a * 2 ^ k % 18446744073709551616 : Nat) : Int) := by
 simp only [binI, Int.toNat_natCast]
 rw [Nat.min_eq_left (by show k ≤ 64; omega), Zh7, Int.natCast_emod, Int.natCast_mul, Int.natCast_pow]
 rfl
end Go.Proofs.PM

namespace Go.Proofs.Try.PMT
open Go Go.Proofs.PM Go.Proofs.Try
def Zdc : Pc := (.seq (.rgn [⟨(some 2), none, .mv (.cst (.val (.int .i64 0)))⟩]) (.seq (.seq (.rgn [⟨(some 3), none, .mv (.cst (.val (.int .i64 0)))⟩]) (.block 0 (.loop (.seq (.seq (.rgn [⟨(some 4), none, .mv (.tmp 3)⟩, ⟨(some 5), none, .bin .leq (.tmp 4) (.cst (.val (.int .i64 9)))⟩]) (.cond (.tmp 5) .skip (.exit 0))) (.seq (.block 1 (.seq (.rgn [⟨(some 8), none, .mv (.tmp 0)⟩, ⟨(some 9), none, .mv (.tmp 3)⟩, ⟨(some 10), none, .bin .shl (.cst (.val (.int .i64 1))) (.tmp 9)⟩, ⟨(some 11), none, .bin .eql (.tmp 8) (.tmp 10)⟩]) (.cond (.tmp 11) (.seq (.rgn [⟨(some 12), none, .mv (.tmp 3)⟩, ⟨(some 2), none, .mv (.tmp 12)⟩]) .ret) .skip))) (.rgn [⟨(some 6), none, .mv (.tmp 3)⟩, ⟨(some 7), none, .bin .add (.tmp 6) (.cst (.val (.int .i64 1)))⟩, ⟨(some 3), none, .mv (.tmp 7)⟩])))))) (.seq (.rgn [⟨(some 2), none, .mv (.cst (.val (.int .i64 (-1))))⟩]) .ret)))
theorem Zhd : f124.body.bind (Zc TT 90) = some Zdc := by kernel_rfl
theorem Zjr {args : List PV} {own : List Ob} {K : PV → List Ob → Prop} (h : pwp prog Zdc (retQ [.tmp 2] own K) (stIn 13 args own)) : PSpec prog 124 args own K := spec func124 Zhd (by kernel_rfl) (by kernel_rfl) h
def Zdw : Pc := (.seq (.rgn [⟨(some 2), none, .nil 28 (.arr 4 .one)⟩, ⟨(some 3), none, .mv (.cst (.val (.int .i64 0)))⟩]) (.seq (.rgn [⟨(some 10), none, .mv (.tmp 0)⟩, ⟨(some 11), none, .len (.tmp 10)⟩, ⟨(some 12), none, .call 124 false [((.tmp 11), none)]⟩, ⟨(some 4), none, .mv (.tmp 12)⟩]) (.seq (.seq (.rgn [⟨(some 13), none, .mv (.tmp 4)⟩, ⟨(some 14), none, .bin .lss (.tmp 13) (.cst (.val (.int .i64 0)))⟩]) (.cond (.tmp 14) (.seq (.rgn [⟨(some 2), none, .nil 28 (.arr 4 .one)⟩, ⟨(some 3), none, .mv (.cst (.val (.int .i64 1)))⟩]) .ret) .skip)) (.seq (.rgn [⟨(some 16), none, .mv (.tmp 4)⟩, ⟨(some 17), none, .call 19 false [((.tmp 16), none)]⟩, ⟨(some 15), none, .mv (.tmp 17)⟩, ⟨(some 18), none, .ext (.tmp 15) 0⟩, ⟨(some 19), none, .ext (.tmp 15) 1⟩, ⟨(some 5), none, .alloc (.arr 4 .one) (.agg [(.val (.int .u64 0)), (.val (.int .u64 0)), (.val (.int .u64 0)), (.val (.int .u64 0))])⟩, ⟨none, none, .store (.arr 4 .one) (.tmp 5) (.tmp 18)⟩, ⟨(some 6), none, .mv (.tmp 19)⟩]) (.seq (.rgn [⟨(some 7), none, .nil 28 (.arr 4 .one)⟩]) (.seq (.rgn [⟨(some 20), none, .call 35 false [((.cst (.val (.int .u64 1))), none)]⟩, ⟨(some 8), none, .alloc (.arr 4 .one) (.agg [(.val (.int .u64 0)), (.val (.int .u64 0)), (.val (.int .u64 0)), (.val (.int .u64 0))])⟩, ⟨none, none, .store (.arr 4 .one) (.tmp 8) (.tmp 20)⟩]) (.seq (.seq (.rgn [⟨(some 9), none, .mv (.cst (.val (.int .i64 0)))⟩]) (.block 0 (.loop (.seq (.seq (.rgn [⟨(some 21), none, .mv (.tmp 9)⟩, ⟨(some 22), none, .mv (.tmp 0)⟩, ⟨(some 23), none, .len (.tmp 22)⟩, ⟨(some 24), none, .bin .lss (.tmp 21) (.tmp 23)⟩]) (.cond (.tmp 24) .skip (.exit 0))) (.seq (.block 1 (.seq (.rgn [⟨(some 27), none, .mv (.tmp 7)⟩, ⟨(some 28), none, .mv (.tmp 0)⟩, ⟨(some 29), none, .load (.arr 4 .one) (.tmp 8)⟩, ⟨(some 30), none, .call 12 false [((.tmp 28), (some (.arr 4 .one))), ((.tmp 29), none)]⟩, ⟨(some 31), none, .bsl 28 (.arr 4 .one) (.agg [(.val (.int .u64 0)), (.val (.int .u64 0)), (.val (.int .u64 0)), (.val (.int .u64 0))]) 1 [(0, (.tmp 30))]⟩, ⟨(some 32), none, .app 28 (.arr 4 .one) 32 (.tmp 27) (.tmp 31)⟩, ⟨(some 7), none, .mv (.tmp 32)⟩]) (.rgn [⟨(some 33), none, .load (.arr 4 .one) (.tmp 8)⟩, ⟨(some 34), none, .load (.arr 4 .one) (.tmp 5)⟩, ⟨(some 35), none, .call 11 false [((.tmp 33), none), ((.tmp 34), none)]⟩, ⟨none, none, .store (.arr 4 .one) (.tmp 8) (.tmp 35)⟩]))) (.rgn [⟨(some 25), none, .mv (.tmp 9)⟩, ⟨(some 26), none, .bin .add (.tmp 25) (.cst (.val (.int .i64 1)))⟩, ⟨(some 9), none, .mv (.tmp 26)⟩])))))) (.seq (.rgn [⟨(some 36), none, .mv (.tmp 7)⟩, ⟨(some 2), none, .mv (.tmp 36)⟩, ⟨(some 3), none, .mv (.cst (.val (.int .i64 0)))⟩]) .ret))))))))
theorem Zh4 : f117.body.bind (Zc TT 90) = some Zdw := by kernel_rfl
theorem Zkf {args : List PV} {own : List Ob} {K : PV → List Ob → Prop} (h : pwp prog Zdw (retQ [.tmp 2, .tmp 3] own K) (stIn 37 args own)) : PSpec prog 117 args own K := spec func117 Zh4 (by kernel_rfl) (by kernel_rfl) h
def Zcm : Pc := (.seq (.rgn [⟨(some 2), none, .nil 28 (.arr 4 .one)⟩, ⟨(some 3), none, .mv (.cst (.val (.int .i64 0)))⟩]) (.seq (.rgn [⟨(some 12), none, .mv (.tmp 0)⟩, ⟨(some 13), none, .call 117 false [((.tmp 12), (some (.arr 4 .one)))]⟩, ⟨(some 11), none, .mv (.tmp 13)⟩, ⟨(some 14), none, .ext (.tmp 11) 0⟩, ⟨(some 15), none, .ext (.tmp 11) 1⟩, ⟨(some 4), none, .mv (.tmp 14)⟩, ⟨(some 5), none, .mv (.tmp 15)⟩]) (.seq (.seq (.rgn [⟨(some 16), none, .mv (.tmp 5)⟩, ⟨(some 17), none, .bin .neq (.tmp 16) (.cst (.val (.int .i64 0)))⟩]) (.cond (.tmp 17) (.seq (.rgn [⟨(some 18), none, .mv (.tmp 5)⟩, ⟨(some 2), none, .nil 28 (.arr 4 .one)⟩, ⟨(some 3), none, .mv (.tmp 18)⟩]) .ret) .skip)) (.seq (.rgn [⟨(some 19), none, .mv (.tmp 0)⟩, ⟨(some 20), none, .len (.tmp 19)⟩, ⟨(some 6), none, .mv (.tmp 20)⟩]) (.seq (.rgn [⟨(some 22), none, .mv (.tmp 6)⟩, ⟨(some 23), none, .cvi .u64 (.tmp 22)⟩, ⟨(some 24), none, .call 35 false [((.tmp 23), none)]⟩, ⟨(some 25), none, .call 9 false [((.tmp 24), none)]⟩, ⟨(some 21), none, .mv (.tmp 25)⟩, ⟨(some 26), none, .ext (.tmp 21) 0⟩, ⟨(some 27), none, .ext (.tmp 21) 1⟩, ⟨(some 7), none, .alloc (.arr 4 .one) (.agg [(.val (.int .u64 0)), (.val (.int .u64 0)), (.val (.int .u64 0)), (.val (.int .u64 0))])⟩, ⟨none, none, .store (.arr 4 .one) (.tmp 7) (.tmp 26)⟩, ⟨(some 8), none, .mv (.tmp 27)⟩]) (.seq (.rgn [⟨(some 28), none, .mv (.tmp 6)⟩, ⟨(some 29), none, .mksl 28 (.arr 4 .one) 32 (.agg [(.val (.int .u64 0)), (.val (.int .u64 0)), (.val (.int .u64 0)), (.val (.int .u64 0))]) (.tmp 28) (.tmp 28)⟩, ⟨(some 9), none, .mv (.tmp 29)⟩]) (.seq (.seq (.rgn [⟨(some 10), none, .mv (.cst (.val (.int .i64 0)))⟩]) (.block 0 (.loop (.seq (.seq (.rgn [⟨(some 30), none, .mv (.tmp 10)⟩, ⟨(some 31), none, .mv (.tmp 6)⟩, ⟨(some 32), none, .bin .lss (.tmp 30) (.tmp 31)⟩]) (.cond (.tmp 32) .skip (.exit 0))) (.seq (.block 1 (.drgn 14 [⟨0, .no, ⟨(some 35), none, .mv (.tmp 9)⟩⟩, ⟨1, .no, ⟨(some 36), none, .mv (.tmp 10)⟩⟩, ⟨2, .no, ⟨(some 37), none, .mv (.tmp 4)⟩⟩, ⟨3, .no, ⟨(some 38), none, .mv (.tmp 6)⟩⟩, ⟨4, .no, ⟨(some 39), none, .mv (.tmp 10)⟩⟩, ⟨5, .no, ⟨(some 40), none, .bin .sub (.tmp 38) (.tmp 39)⟩⟩, ⟨6, .no, ⟨(some 41), none, .mv (.tmp 6)⟩⟩, ⟨7, .no, ⟨(some 42), none, .bin .rem (.tmp 40) (.tmp 41)⟩⟩, ⟨8, .no, ⟨(some 43), none, .iaddrs (.arr 4 .one) (.tmp 37) (.tmp 42)⟩⟩, ⟨9, .no, ⟨(some 44), none, .load (.arr 4 .one) (.tmp 43)⟩⟩, ⟨10, .no, ⟨(some 45), none, .load (.arr 4 .one) (.tmp 7)⟩⟩, ⟨11, .no, ⟨(some 46), none, .call 11 false [((.tmp 44), none), ((.tmp 45), none)]⟩⟩, ⟨12, .no, ⟨(some 47), none, .iaddrs (.arr 4 .one) (.tmp 35) (.tmp 36)⟩⟩, ⟨13, .no, ⟨none, none, .store (.arr 4 .one) (.tmp 47) (.tmp 46)⟩⟩])) (.rgn [⟨(some 33), none, .mv (.tmp 10)⟩, ⟨(some 34), none, .bin .add (.tmp 33) (.cst (.val (.int .i64 1)))⟩, ⟨(some 10), none, .mv (.tmp 34)⟩])))))) (.seq (.rgn [⟨(some 48), none, .mv (.tmp 9)⟩, ⟨(some 2), none, .mv (.tmp 48)⟩, ⟨(some 3), none, .mv (.cst (.val (.int .i64 0)))⟩]) .ret))))))))
theorem Zgg : f105.body.bind (Zc TT 90) = some Zcm := by kernel_rfl
theorem Zig {args : List PV} {own : List Ob} {K : PV → List Ob → Prop} (h : pwp prog Zcm (retQ [.tmp 2, .tmp 3] own K) (stIn 49 args own)) : PSpec prog 105 args own K := spec func105 Zgg (by kernel_rfl) (by kernel_rfl) h
end Go.Proofs.Try.PMT

namespace Go.Proofs.PL
theorem Z2c (a b : List F) (k : Nat) : ∀ d, sm (a.length + d) (tm a b k) = (conv a b).getD k 0
 | 0 => (Zft a b k).symm
 | d + 1 => by
  rw [show a.length + (d + 1) = (a.length + d) + 1 by omega, sm, Z2c a b k d]
  have e : tm a b k (a.length + d) = 0 := by
   simp only [tm]
   rw [Zdz (l := a) (by omega), Zpz]
   split <;> rfl
  rw [e, Zpy]
theorem Zxd {a : List F} (b : List F) (k : Nat) {M : Nat} (h : a.length ≤ M) : sm M (tm a b k) = (conv a b).getD k 0 := by
 obtain ⟨d, rfl⟩ := Nat.exists_eq_add_of_le h
 exact Z2c a b k d
theorem Zy9 {a s : List F} (c : List F) (k : Nat) (h : ∀ k, s.getD k 0 = a.getD k 0) : (conv s c).getD k 0 = (conv a c).getD k 0 := by
 rw [← Zxd c k (show s.length ≤ s.length + a.length by omega), ← Zxd c k (show a.length ≤ s.length + a.length by omega)]
 exact Zfn _ fun i _ => by simp only [tm, h]
theorem Zmd {x : F} (h : x ≠ 0) : x * inv x = 1 := by
 have e : (52435875175126190479447740508185965837690552500527637822603658699938581184511 : Nat) = N1 - 1 := by decide +kernel
 rw [inv, e]
 exact Zyu x h
end Go.Proofs.PL

namespace Go.Proofs.PL

theorem Zlr (f : Nat → F) (c : F) : ∀ n, sm n f * c = sm n (fun i => f i * c)
 | 0 => by simp only [sm]; exact Zpz c
 | n + 1 => by simp only [sm]; rw [← Zlr f c n]; grind
theorem Zxf (f g : Nat → F) : ∀ n, sm n f + sm n g = sm n (fun i => f i + g i)
 | 0 => by simp only [sm]; exact zz
 | n + 1 => by simp only [sm]; rw [← Zxf f g n]; grind
theorem Zxc (f : Nat → Nat → F) (n : Nat) : ∀ m, sm m (fun i => sm n (fun j => f i j)) = sm n (fun j => sm m (fun i => f i j))
 | 0 => by simp only [sm]; exact (Znn n fun _ _ => rfl).symm
 | m + 1 => by simp only [sm]; rw [Zxc f n m, Zxf]
theorem Zrv {f : Nat → F} {k : Nat} : ∀ n, k < n → (∀ i, i < n → i ≠ k → f i = 0) → sm n f = f k
 | 0, h, _ => by omega
 | n + 1, h, hz => by
  simp only [sm]
  by_cases e : k = n
  ·subst e
   rw [Znn k (fun i hi => hz i (by omega) (by omega)), Zoo]
  ·rw [Zrv n (by omega) (fun i hi h => hz i (by omega) h), hz n (by omega) (by omega), Zpy]
theorem Zu2 (z : F) (l : List F) : hor z l = sm l.length fun i => l.getD i 0 * z ^ i := by
 induction l with
 | nil => rfl
 | cons x l ih =>
  rw [hor, ih, List.length_cons, Znb, Zlr]
  simp only [List.getD_cons_zero, List.getD_cons_succ]
  rw [Zbw, show x * 1 = x by grind]
  congr 1
  refine Zfn _ fun i _ => ?_
  rw [Zbk]; grind
theorem neg1 : (0 - 1 : F) + 1 = 0 := by decide +kernel
theorem m1 (x y : F) : x - y = x + y * (0 - 1) := by
 have h := neg1
 generalize (0 - 1 : F) = e at *
 grind
theorem m2 (c p q : F) : c * (p * ((0 - 1) * q)) = c * p * q * (0 - 1) := by
 generalize (0 - 1 : F) = e at *
 grind
/-- Values at the powers of one. -/
def gol (w : F) (a : List F) : List F := tab a.length fun k => hor (w ^ k) a
theorem Zmf (w : F) (a : List F) : (gol w a).length = a.length := tab_len ..
end Go.Proofs.PL

namespace Go.Proofs.PL

/-- The root of the order 2 ^ L. -/
def rt (L : Nat) : F := (of 7) ^ (N1 / 2 ^ L)
theorem N1_dvd : N1 = N1 / 2 ^ 32 * 2 ^ 32 := by decide +kernel
theorem Zv0 {L : Nat} (h : L ≤ 32) : N1 / 2 ^ L * 2 ^ L = N1 := by
 have e : N1 = (N1 / 2 ^ 32 * 2 ^ (32 - L)) * 2 ^ L := by
  rw [Nat.mul_assoc, ← Nat.pow_add, show 32 - L + L = 32 by omega]; exact N1_dvd
 exact Nat.div_mul_cancel ⟨_, (Nat.mul_comm ..).symm ▸ e⟩
theorem Z26 {L : Nat} (h : L ≤ 32) : 0 < N1 / 2 ^ L :=
 Nat.div_pos (Nat.le_trans (Nat.pow_le_pow_right (by decide) h) (by decide +kernel)) (Nat.two_pow_pos _)
theorem Zlt {L : Nat} (h : L ≤ 32) : rt L ^ 2 ^ L = 1 := by rw [rt, ← Ze2, Zv0 h, Znf]
theorem rt_ne {L k : Nat} (h : L ≤ 32) (h0 : 0 < k) (h1 : k < 2 ^ L) : rt L ^ k ≠ 1 := by
 rw [rt, ← Ze2]
 refine Z2t (Nat.mul_pos (Z26 h) h0) ?_
 have := Nat.mul_lt_mul_of_pos_left h1 (Z26 h)
 rwa [Zv0 h] at this
theorem rt_sq {L : Nat} (h : L + 1 ≤ 32) : rt (L + 1) * rt (L + 1) = rt L := by
 rw [rt, ← Zf8, rt]
 congr 1
 have h1 := Zv0 h
 have h2 := Zv0 (L := L) (by omega)
 have : N1 / 2 ^ (L + 1) * 2 * 2 ^ L = N1 / 2 ^ L * 2 ^ L := by rw [h2, Nat.mul_assoc, Nat.mul_comm 2, ← Nat.pow_succ, h1]
 have := Nat.eq_of_mul_eq_mul_right (Nat.two_pow_pos L) this
 omega
theorem Z2d {L : Nat} (h : L ≤ 32) (k : Nat) : rt L ^ k = rt L ^ (k % 2 ^ L) := by
 conv => lhs; rw [← Nat.div_add_mod k (2 ^ L)]
 rw [Zf8, Ze2, Zlt h, Zeg]; grind
theorem rt_nz {L : Nat} (h : L ≤ 32) : rt L ≠ 0 := fun e => by
 have h1 := Zlt h
 have hp := Nat.two_pow_pos L
 rw [e, show 2 ^ L = 2 ^ L - 1 + 1 by omega, Zbk, Zsv] at h1
 exact Zn6 h1.symm
theorem Zxp {L k : Nat} (h : L ≤ 32) (hk : k ≤ 2 ^ L) : inv (rt L) ^ k = rt L ^ ((2 ^ L - k) % 2 ^ L) := by
 rw [← Z2d h]
 have h1 : rt L ^ k * inv (rt L) ^ k = 1 := by rw [← Zms, Zmd (rt_nz h), Zeg]
 have h2 : rt L ^ (2 ^ L - k) * rt L ^ k = 1 := by rw [← Zf8, Nat.sub_add_cancel hk, Zlt h]
 generalize rt L ^ k = x at *
 generalize inv (rt L) ^ k = y at *
 generalize rt L ^ (2 ^ L - k) = z at *
 have e : y = z * x * y := by rw [h2]; grind
 rw [e, show z * x * y = z * (x * y) by grind, h1]; grind
theorem ri_ne {L k : Nat} (h : L ≤ 32) (h0 : 0 < k) (h1 : k < 2 ^ L) : inv (rt L) ^ k ≠ 1 := by
 rw [Zxp h (by omega), ← Z2d h]
 exact rt_ne h (by omega) (by omega)
theorem Zxq {L : Nat} (h : L ≤ 32) : inv (rt L) ^ 2 ^ L = 1 := by
 rw [Zxp h (Nat.le_refl _), Nat.sub_self, Nat.zero_mod, Zbw]
theorem root32 : rt 32 = of 10238227357739495823651030575849232062558860180284477541189508159991286009131 := by
 rw [rt, ← bq_eq (of 7) 256 (N1 / 2 ^ 32) (by decide +kernel)]; decide +kernel

/-! ### sums of powers -/
theorem gsum (x : F) : ∀ n, sm n (fun i => x ^ i) * (x - 1) = x ^ n - 1
 | 0 => by simp only [sm]; rw [Zbw, Zpz]; decide +kernel
 | n + 1 => by
  have ih := gsum x n
  simp only [sm]
  rw [Zbk]
  generalize sm n (fun i => x ^ i) = s at *
  generalize x ^ n = p at *
  grind
theorem Zyx {x : F} {n : Nat} (h : x ^ n = 1) (h1 : x ≠ 1) : sm n (fun i => x ^ i) = 0 := by
 have e := gsum x n
 rw [h] at e
 rcases Zx7 (show sm n (fun i => x ^ i) * (x - 1) = 0 by rw [e]; decide +kernel) with e | e
 ·exact e
 ·exact absurd (by grind) h1
theorem Zxe : ∀ n : Nat, sm n (fun _ => (1 : F)) = of (n : Int)
 | 0 => rfl
 | n + 1 => by simp only [sm]; rw [Zxe n, show ((n + 1 : Nat) : Int) = (n : Int) + 1 by omega, Zk6, Zfq]
/-- Twice: so many times what there was. -/
theorem Zsr {u v : F} {n : Nat} {a : List F} (ha : a.length = n) (huv : u * v = 1) (hu : u ^ n = 1) (hv : v ^ n = 1) (nu : ∀ d, 0 < d → d < n → u ^ d ≠ 1) (nv : ∀ d, 0 < d → d < n → v ^ d ≠ 1)
  {k : Nat} (hk : k < n) : hor (v ^ k) (gol u a) = of (n : Int) * a.getD k 0 := by
 rw [Zu2, Zmf, ha]
 rw [show sm n (fun i => (gol u a).getD i 0 * (v ^ k) ^ i) = sm n (fun i => sm n (fun j => a.getD j 0 * (u ^ j * v ^ k) ^ i)) from ?_]
 ·rw [Zxc]
  rw [Zrv (k := k) n hk]
  ·rw [← Zms, huv, Zeg]
   simp only [Zeg]
   rw [show (fun _ : Nat => a.getD k 0 * (1 : F)) = fun i => (fun _ : Nat => (1 : F)) i * a.getD k 0 from funext fun _ => by grind, ← Zlr, Zxe]
  ·intro j hj hjk
   rw [show (fun i => a.getD j 0 * (u ^ j * v ^ k) ^ i) = fun i => (fun i => (u ^ j * v ^ k) ^ i) i * a.getD j 0 from funext fun _ => by grind, ← Zlr, Zyx, Zpz]
   ·rw [Zms, ← Ze2, ← Ze2, Nat.mul_comm j, Nat.mul_comm k, Ze2, Ze2, hu, hv, Zeg, Zeg]; grind
   ·by_cases h : j < k
    ·rw [show u ^ j * v ^ k = v ^ (k - j) from ?_]
     ·exact nv _ (by omega) (by omega)
     ·rw [show v ^ k = v ^ j * v ^ (k - j) by rw [← Zf8]; congr 1; omega]
      have e : u ^ j * v ^ j = 1 := by rw [← Zms, huv, Zeg]
      generalize u ^ j = x at *
      generalize v ^ j = y at *
      generalize v ^ (k - j) = z at *
      rw [show x * (y * z) = x * y * z by grind, e]; grind
    ·rw [show u ^ j * v ^ k = u ^ (j - k) from ?_]
     ·exact nu _ (by omega) (by omega)
     ·rw [show u ^ j = u ^ k * u ^ (j - k) by rw [← Zf8]; congr 1; omega]
      have e : u ^ k * v ^ k = 1 := by rw [← Zms, huv, Zeg]
      generalize u ^ k = x at *
      generalize v ^ k = y at *
      generalize u ^ (j - k) = z at *
      rw [show x * z * y = x * y * z by grind, e]; grind
 ·refine Zfn _ fun i hi => ?_
  rw [gol, Zct, if_pos (by omega), Zu2, Zlr, ha]
  refine Zfn _ fun j _ => ?_
  rw [Zms, ← Ze2 u, ← Ze2 u, Nat.mul_comm i j]; grind

/-- Back from values. -/
def bak (v : F) (a : List F) : List F := tab a.length fun k => hor (v ^ k) a * inv (of (a.length : Int))
theorem Zml (v : F) (a : List F) : (bak v a).length = a.length := tab_len ..
theorem Zyf {n : Nat} (h0 : 0 < n) (h : n ≤ 4294967296) : of (n : Int) ≠ 0 := fun e => by
 have : vi (of (n : Int)) = 0 := by rw [e, show vi 0 = 0 by decide]
 rw [vi_of, Md_eq] at this
 omega
theorem p2_le {L : Nat} (h : L ≤ 32) : 2 ^ L ≤ 4294967296 := Nat.pow_le_pow_right (n := 2) (by decide) h
theorem Z5s {L : Nat} {a : List F} (h : L ≤ 32) (ha : a.length = 2 ^ L) : bak (inv (rt L)) (gol (rt L) a) = a := by
 refine Zfr (by rw [Zml, Zmf]) fun k => ?_
 rw [bak, Zct, Zmf]
 by_cases hk : k < a.length
 ·rw [if_pos hk, Zsr ha (Zmd (rt_nz h)) (Zlt h) (Zxq h) (fun d h0 h1 => rt_ne h h0 h1) (fun d h0 h1 => ri_ne h h0 h1) (by omega), ← ha]
  have := Zmd (Zyf (n := a.length) (by omega) (by rw [ha]; exact p2_le h))
  generalize inv (of (a.length : Int)) = z at *
  generalize of (a.length : Int) = y at *
  generalize a.getD k 0 = x at *
  rw [show y * x * z = x * (y * z) by grind, this]; grind
 ·rw [if_neg hk, Zdz (by omega)]
theorem Zty (z c : F) (f : Nat → F) (n : Nat) : hor z (tab n fun k => f k * c) = hor z (tab n f) * c := by
 rw [Zu2, Zu2, Zlr, tab_len, tab_len]
 refine Zfn _ fun i hi => ?_
 rw [Zct, Zct, if_pos hi, if_pos hi]; grind
theorem Z49 {L : Nat} {a : List F} (h : L ≤ 32) (ha : a.length = 2 ^ L) : gol (rt L) (bak (inv (rt L)) a) = a := by
 refine Zfr (by rw [Zmf, Zml]) fun k => ?_
 rw [gol, Zct, Zml]
 by_cases hk : k < a.length
 ·rw [if_pos hk, bak, Zty]
  have h2 := Zsr ha (show inv (rt L) * rt L = 1 by rw [← Zmd (rt_nz h)]; grind) (Zxq h) (Zlt h) (fun d h0 h1 => ri_ne h h0 h1) (fun d h0 h1 => rt_ne h h0 h1) (k := k) (by omega)
  rw [gol, ← ha] at h2
  rw [h2]
  have := Zmd (Zyf (n := a.length) (by omega) (by rw [ha]; exact p2_le h))
  generalize inv (of (a.length : Int)) = z at *
  generalize of (a.length : Int) = y at *
  generalize a.getD k 0 = x at *
  rw [show y * x * z = x * (y * z) by grind, this]; grind
 ·rw [if_neg hk, Zdz (by omega)]
/-- As the document has it: from the values' other end. -/
theorem Z5r {L : Nat} {a : List F} (h : L ≤ 32) (ha : a.length = 2 ^ L) : (tab a.length fun k => (gol (rt L) a).getD ((a.length - k) % a.length) 0 * inv (of (a.length : Int))) = bak (inv (rt L)) a := by
 refine Zfr (by rw [tab_len, Zml]) fun k => ?_
 rw [bak, Zct, Zct]
 by_cases hk : k < a.length
 ·rw [if_pos hk, if_pos hk, gol, Zct, if_pos (Nat.mod_lt _ (by omega)), Zxp h (by omega), ha]
 ·rw [if_neg hk, if_neg hk]
/-- The place's log; 10: none. -/
def lg (n : Nat) : Option Nat := (List.range 10).find? fun i => n == 2 ^ i
theorem Zye {n L : Nat} (h : lg n = some L) : n = 2 ^ L ∧ L ≤ 9 := by
 have h1 := List.find?_some h
 have h2 := List.mem_of_find?_eq_some h
 simp only [beq_iff_eq] at h1
 exact ⟨h1, by have := List.mem_range.1 h2; omega⟩
theorem lg_pow {L : Nat} (h : L ≤ 9) : lg (2 ^ L) = some L := by
 have : ∀ L, L < 10 → lg (2 ^ L) = some L := by decide +kernel
 exact this L (by omega)
end Go.Proofs.PL

namespace Go.Proofs.PL
def lgI (n : Nat) : Int := match lg n with
 | some L => L
 | none => -1
/-- Values at all roots; 1: no such length. -/
def goR (l : List F) : List F × Int := match lg l.length with
 | some L => (gol (rt L) l, 0)
 | none => ([], 1)
def bkR (l : List F) : List F × Int := match lg l.length with
 | some L => (bak (inv (rt L)) l, 0)
 | none => ([], 1)
theorem Zva {l : List F} {L : Nat} (h : lg l.length = some L) : goR l = (gol (rt L) l, 0) := by simp only [goR, h]
theorem Zvb {l : List F} (h : lg l.length = none) : goR l = ([], 1) := by simp only [goR, h]
theorem Zrj {l : List F} {L : Nat} (h : lg l.length = some L) : bkR l = (bak (inv (rt L)) l, 0) := by simp only [bkR, h]
theorem Zrk {l : List F} (h : lg l.length = none) : bkR l = ([], 1) := by simp only [bkR, h]
theorem Zuv {n L : Nat} (h : lg n = some L) : lgI n = L := by simp only [lgI, h]
theorem Zuw {n : Nat} (h : lg n = none) : lgI n = -1 := by simp only [lgI, h]
theorem lg_no {n : Nat} (h : ∀ j, j < 10 → n ≠ 2 ^ j) : lg n = none := by
 cases hl : lg n with
 | none => rfl
 | some L =>
  obtain ⟨h1, h2⟩ := Zye hl
  exact absurd h1 (h L (by omega))
/-- Each times a power. -/
def scl (z : F) (l : List F) : List F := tab l.length fun i => l.getD i 0 * z ^ i
theorem Zxk (z : F) (l : List F) : (scl z l).length = l.length := tab_len ..
theorem Zxl (z : F) (l : List F) (i : Nat) : (scl z l).getD i 0 = l.getD i 0 * z ^ i := by
 rw [scl, Zct]
 split
 ·rfl
 ·rw [Zdz (l := l) (by omega)]; grind
theorem Z3q {y z : F} (h : y * z = 1) (l : List F) : scl z (scl y l) = l := by
 refine Zfr (by rw [Zxk, Zxk]) fun i => ?_
 rw [Zxl, Zxl]
 have e : y ^ i * z ^ i = 1 := by rw [← Zms, h, Zeg]
 generalize y ^ i = a at *
 generalize z ^ i = b at *
 rw [show l.getD i 0 * a * b = l.getD i 0 * (a * b) by grind, e]; grind
end Go.Proofs.PL

namespace Go.Proofs.Try.PMT
open Go Go.Proofs.PM Go.Proofs.PL Go.Proofs.Try
set_option maxRecDepth 4000

theorem borr (a b : Nat) : binI .or .u64 (a : Int) (b : Int) = .int .u64 ((a % 18446744073709551616 ||| b % 18446744073709551616 : Nat) : Int) := by
 have h := or_lt (a := a % 18446744073709551616) (b := b % 18446744073709551616) (Nat.mod_lt _ (by decide)) (Nat.mod_lt _ (by decide))
 simp only [binI]
 rw [show IntKind.u64.bits = 64 from rfl, BitVec.toNat_or, BitVec.ofInt_natCast, BitVec.ofInt_natCast, BitVec.toNat_ofNat, BitVec.toNat_ofNat, wru (by omega) (by show ((a % 18446744073709551616 ||| b % 18446744073709551616 : Nat) : Int) ≤ _; omega)]
def rvS (m k x : Nat) : Nat := (x / 2 ^ k &&& m) % 18446744073709551616 ||| ((x &&& m) * 2 ^ k % 18446744073709551616) % 18446744073709551616
def rb64 (x : Nat) : Nat := (fun y => y / 2 ^ 32 % 18446744073709551616 ||| (y * 2 ^ 32 % 18446744073709551616) % 18446744073709551616) (rvS 281470681808895 16 (rvS 71777214294589695 8 x))
def r64 (x : Nat) : Nat := rb64 (rvS 1085102592571150095 4 (rvS 3689348814741910323 2 (rvS 6148914691236517205 1 x)))
end Go.Proofs.Try.PMT

namespace Go.Proofs.Try.PMT
open Go Go.Proofs.PM Go.Proofs.PL Go.Proofs.Try
set_option maxRecDepth 4000

theorem shr1 (x : Nat) : binI .shr .u64 (x : Int) 1 = .int .u64 ((x / 2 : Nat) : Int) := Zua (k := 1) (by decide)
theorem shl63 (x : Nat) : binI .shl .u64 (x : Int) 63 = .int .u64 ((x % 2 * 9223372036854775808 : Nat) : Int) := by
 have h := Z5q (a := x) (k := 63) (by decide)
 have e : x * 2 ^ 63 % 18446744073709551616 = x % 2 * 9223372036854775808 := by omega
 rw [e] at h
 exact h
theorem or63 (x b : Nat) (hx : x < 18446744073709551616) : binI .or .u64 ((x / 2 : Nat) : Int) ((b % 2 * 9223372036854775808 : Nat) : Int) = .int .u64 ((x / 2 + b % 2 * 9223372036854775808 : Nat) : Int) := by
 rw [borr, Nat.mod_eq_of_lt (by omega), Nat.mod_eq_of_lt (by omega)]
 congr 2
 have h := Nat.shiftLeft_add_eq_or_of_lt (a := b % 2) (b := x / 2) (i := 63) (by omega)
 rw [Nat.shiftLeft_eq] at h
 have e : b % 2 * 2 ^ 63 = b % 2 * 9223372036854775808 := by rw [show (2 : Nat) ^ 63 = 9223372036854775808 by decide]
 rw [e] at h
 rw [Nat.or_comm, ← h, Nat.add_comm]
theorem or0 (x : Nat) (hx : x < 18446744073709551616) : binI .or .u64 ((x / 2 : Nat) : Int) 0 = .int .u64 ((x / 2 : Nat) : Int) := by
 have h := borr (x / 2) 0
 rw [Nat.mod_eq_of_lt (by omega), Nat.zero_mod, Nat.or_zero] at h
 exact h
/-- A number's four limbs. -/
def fn4 (n : Nat) : PV := .agg [u ((n % 18446744073709551616 : Nat) : Int), u ((n / 18446744073709551616 % 18446744073709551616 : Nat) : Int), u ((n / 340282366920938463463374607431768211456 % 18446744073709551616 : Nat) : Int), u ((n / 6277101735386680763835789423207666416102355444464034512896 % 18446744073709551616 : Nat) : Int)]
theorem Zy2 (n : Nat) (h : n < 115792089237316195423570985008687907853269984665640564039457584007913129639936) : ∃ d0 d1 d2 d3 : Nat, d0 < 18446744073709551616 ∧ d1 < 18446744073709551616 ∧ d2 < 18446744073709551616 ∧ d3 < 18446744073709551616 ∧ d0 + 18446744073709551616 * d1 + 340282366920938463463374607431768211456 * d2 + 6277101735386680763835789423207666416102355444464034512896 * d3 = n ∧ fn4 n = .agg [u (d0 : Int), u (d1 : Int), u (d2 : Int), u (d3 : Int)] :=
 ⟨_, _, _, _, by omega, by omega, by omega, by omega, by omega, rfl⟩
theorem Z2v {d0 d1 d2 d3 n : Nat} (h0 : d0 < 18446744073709551616) (h1 : d1 < 18446744073709551616) (h2 : d2 < 18446744073709551616) (h3 : d3 < 18446744073709551616) (hn : d0 + 18446744073709551616 * d1 + 340282366920938463463374607431768211456 * d2 + 6277101735386680763835789423207666416102355444464034512896 * d3 = n) : PV.agg [u (d0 : Int), u (d1 : Int), u (d2 : Int), u (d3 : Int)] = fn4 n := by
 have e0 : n % 18446744073709551616 = d0 := by omega
 have e1 : n / 18446744073709551616 % 18446744073709551616 = d1 := by omega
 have e2 : n / 340282366920938463463374607431768211456 % 18446744073709551616 = d2 := by omega
 have e3 : n / 6277101735386680763835789423207666416102355444464034512896 % 18446744073709551616 = d3 := by omega
 unfold fn4
 rw [e0, e1, e2, e3]
@[go_sem] theorem plain_fn4 {n : Nat} : (fn4 n).plain = true := rfl
@[go_sem] theorem has_fn4 {n : Nat} : (Sh.arr 4 Sh.one).has (fn4 n) = true := rfl
@[go_sem] theorem tP_fn4 {ρ : Nat → Option Nat} {q : PV} {x : Nat} {qs ps : List PV} : tP ρ (q :: qs) (fn4 x :: ps) = (cnv ρ true (fun _ => none) 3 q = fn4 x ∧ tP ρ qs ps) := rfl

theorem half4 {d0 d1 d2 d3 n : Nat} (h : d0 + 18446744073709551616 * d1 + 340282366920938463463374607431768211456 * d2 + 6277101735386680763835789423207666416102355444464034512896 * d3 = n) :
  (d0 / 2 + d1 % 2 * 9223372036854775808) + 18446744073709551616 * (d1 / 2 + d2 % 2 * 9223372036854775808) + 340282366920938463463374607431768211456 * (d2 / 2 + d3 % 2 * 9223372036854775808) + 6277101735386680763835789423207666416102355444464034512896 * (d3 / 2) = n / 2 := by omega
theorem root_e (L : Nat) : N1 / 2 ^ (L + 1) = N1 / 2 ^ L / 2 := by rw [Nat.pow_succ, Nat.div_div_eq_div_mul]
theorem N1_lt (L : Nat) : N1 / 2 ^ L < 115792089237316195423570985008687907853269984665640564039457584007913129639936 := Nat.lt_of_le_of_lt (Nat.div_le_self _ _) (by decide +kernel)


theorem Zyr {L : Nat} (hL : L ≤ 32) {K : PV → List Ob → Prop} (hK : K (.tup [ff (rt L), i64 0]) []) : PSpec prog 98 [i64 L] [] K := by
 refine Zv8 ?_
 simp only [Zl3]
 have h0 : ¬ ((L : Int) < 0) := by omega
 have h1 : ¬ ((L : Int) > 32) := by omega
 obtain ⟨e, hE⟩ : ∃ e : Nat → Nat, ∀ j, N1 / 2 ^ j = e j := ⟨_, fun _ => rfl⟩
 have e0 : e 0 = 52435875175126190479447740508185965837690552500527637822603658699938581184512 := by rw [← hE]; decide +kernel
 have eS : ∀ j, e (j + 1) = e j / 2 := fun j => by rw [← hE, ← hE]; exact root_e j
 have eL : ∀ j, e j < 115792089237316195423570985008687907853269984665640564039457584007913129639936 := fun j => by rw [← hE]; exact N1_lt j
 have eR : rt L = of 7 ^ e L := by rw [← hE]; rfl
 clear hE
 simp -implicitDefEqProofs only [go_sem, Nat.zero_add, Nat.reduceSub, Nat.reduceLT, h0, h1, decide_false]
 refine Zfs ?_
 simp -implicitDefEqProofs only [go_sem, wru, Nat.zero_add, Nat.reduceAdd, Nat.reduceEqDiff, Int.reduceLT, Int.reduceLE, Int.reduceSub]
 refine Zw (ι := { j : Nat // j ≤ L }) [5, 6, 20, 21, 22, 23, 24, 25, 26, 27, 28, 29, 30, 31, 32, 33, 34, 35, 36, 37, 38] (fun j => [(20, i64 j.1)])
  (fun j => [(0, .ob (.var (.arr 4 .one) (ff 0))), (1, .ob (.var (.arr 4 .one) (fn4 (e j.1))))]) 2 (fun j => L - j.1) ⟨0, Nat.zero_le _⟩ ?_ ?_
 ·rw [Zg]
  refine Zd [(0, 0), (1, 1)] rfl rfl rfl ?_ ?_
  ·simp -implicitDefEqProofs only [go_sem, Nat.reduceEqDiff, Nat.reduceLT, ob_eq, Ob.var.injEq, Zr]
   exact Z2v (d0 := 18446744069414584320) (d1 := 6034159408538082302) (d2 := 3691218898639771653) (d3 := 8353516859464449352) (by decide) (by decide) (by decide) (by decide) (by rw [e0])
  ·simp -implicitDefEqProofs only [go_sem, Nat.reduceEqDiff]
 intro ⟨j, hj⟩ G hG
 simp -implicitDefEqProofs only [go_sem]
 obtain ⟨d0, d1, d2, d3, g0, g1, g2, g3, hn, e4⟩ := Zy2 (e j) (eL j)
 rw [e4]
 refine Zj (fun h => ?_) (fun h => ?_)
 ·simp only [decide_eq_true_eq] at h
  have w3 : IntKind.i64.wrap ((j : Int) + 1) = ((j + 1 : Nat) : Int) := by rw [wrs (by omega) (by omega)]; omega
  simp -implicitDefEqProofs only [go_sem, h]
  refine Zp 5 ?_
  simp -implicitDefEqProofs only [go_sem, wrs, Nat.reduceAdd, Nat.reduceMul, Nat.reduceEqDiff, Nat.reduceLT, Int.reduceToNat, Int.reduceLT, Int.reduceLE, Int.reduceSub, Int.reduceNeg, Int.reduceGE, ↓shr1, ↓shl63, ↓or0 d3 g3, ↓or63 d2 d3 g2, ↓or63 d1 d2 g1, ↓or63 d0 d1 g0, w3]
  refine hG _ ⟨j + 1, by omega⟩ (by simp only; omega) ?_
  rw [Zg]
  refine Zd [(0, 0), (1, 1)] rfl rfl rfl ?_ ?_
  ·simp -implicitDefEqProofs only [go_sem, Nat.reduceEqDiff, Nat.reduceLT, ob_eq, Ob.var.injEq]
   rw [eS]
   exact Z2v (by omega) (by omega) (by omega) (by omega) (half4 hn)
  ·simp -implicitDefEqProofs only [go_sem, Nat.reduceEqDiff, Int.reduceNeg]
 simp only [decide_eq_false_iff_not] at h
 obtain rfl : j = L := by omega
 clear hG
 simp -implicitDefEqProofs only [go_sem, Nat.reduceAdd, Nat.reduceMul, Nat.reduceEqDiff, Nat.reduceLT, Int.reduceToNat, Int.reduceLE]
 refine Zmc (Zs rfl) ?_
 simp -implicitDefEqProofs only [go_sem, Bool.not_false, Bool.or_true, List.contains_nil, Nat.reduceAdd, Nat.reduceMul, Nat.reduceEqDiff, Nat.reduceLT, List.take_succ_cons, List.take_zero]
 refine Z0z (e := [d0, d1, d2, d3]) (Nat.le_refl 4) (by simp; omega) ?_
 rw [show nv [d0, d1, d2, d3] = e j by simp only [nv]; omega, ← eR]
 simp -implicitDefEqProofs only [go_sem, Nat.reduceAdd, Nat.reduceMul, Nat.reduceEqDiff]
 exact Zb rfl hK

end Go.Proofs.Try.PMT

namespace Go.Proofs.Try.PMT
open Go Go.Proofs.PM Go.Proofs.PL Go.Proofs.Try
set_option maxRecDepth 4000

/-- A root, squared so many times. -/
theorem sq_pow (r : F) (j : Nat) : r ^ 2 ^ j * r ^ 2 ^ j = r ^ 2 ^ (j + 1) := by rw [← Zf8, ← Nat.mul_two, ← Nat.pow_succ]

end Go.Proofs.Try.PMT
