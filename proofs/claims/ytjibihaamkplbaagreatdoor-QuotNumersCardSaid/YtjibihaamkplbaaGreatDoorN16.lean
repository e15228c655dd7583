/- Contracts of intaglioref1.InvR (through Less of the order and 2), intagliolaw14's May and Same. No conditions beyond what each names. -/
import Derived.Test.YtjibihaamkplbaaGreatDoorN14
import Derived.Test.YtjibihaamkplbaaGreatDoorN15
import Derived.Test.YtjibihaamkplbaaGreatDoorN0
set_option linter.all false
namespace Go.Proofs.Tryz.PMT
open Go Go.Proofs.PM Go.Proofs.PL Go.Proofs.Tryz
variable {K:PV→List Ob→Prop}
set_option maxRecDepth 4000

@[reducible] def mdL:List Nat:=[18446744069414584321,6034159408538082302,3691218898639771653,8353516859464449352]
theorem Zrt (hK:K (i64 1) []):PSpec prog 126 [.vsl false .one (us mdL),.vsl false .one (us [2])] [] K:=by
 refine Zhl ?_
 simp only [qzS,qzN,qzG,qzT,qzI,qzF,qzZ,Zb7]
 simp -implicitDefEqProofs only [go_sem,Nat.reduceAdd,Nat.reduceSub,Nat.reduceLT,Int.reduceNeg]
 refine Zqo (l:=mdL) (by decide) (by decide) (by decide) ?_
 simp -implicitDefEqProofs only [go_sem,Nat.reduceAdd,Nat.reduceLT,Nat.reduceLeDiff,Int.reduceNeg]
 refine Zqo (l:=[2]) (by decide) (by decide) (by decide) ?_
 simp -implicitDefEqProofs only [go_sem,Nat.reduceAdd,Nat.reduceEqDiff,Nat.reduceLeDiff,Int.reduceLT,Int.reduceNeg,Int.reduceBNe]
 exact Zb rfl hK

theorem Zw1 (hK:K (.tup [.osl 0 [] 0 4,i64 0]) [.row 26 .one (us [18446744069414584319,6034159408538082302,3691218898639771653,8353516859464449352])]):PSpec prog 122 [.vsl false .one (us mdL),.vsl false .one (us [2])] [] K:=by
 refine Zk9 ?_
 simp only [qzS,qzN,qzG,qzT,qzI,qzF,qzZ,Zdq]
 simp -implicitDefEqProofs only [go_sem,Nat.reduceAdd,Nat.reduceSub,Nat.reduceLT]
 refine Zrt ?_
 simp -implicitDefEqProofs only [go_sem,Nat.reduceAdd,Nat.reduceEqDiff,Int.reduceLT]
 refine Zl 5 ?_
 simp -implicitDefEqProofs only [go_sem,Nat.reduceAdd,Nat.reduceLT,Int.reduceLT,Int.reduceGT]
 refine Zem (l:=mdL) (i:=0) ?_
 simp -implicitDefEqProofs only [go_sem,Nat.reduceLT]
 refine Zem (l:=[2]) (i:=0) ?_
 simp -implicitDefEqProofs only [go_sem,Nat.reduceLT]
 refine Zqv (by decide) (by decide) (by decide) (by decide) (by decide) ?_
 simp -implicitDefEqProofs only [go_sem,Nat.reduceAdd,Nat.reduceMul,Nat.reduceEqDiff,Nat.reduceLT,Nat.reduceLeDiff,Int.reduceLT,Int.reduceLE,Int.reduceAdd,Int.reduceSub,Int.reduceNeg,Int.reduceMod,Int.reduceGT,List.take_succ_cons,List.take_zero]
 repeat (with_reducible refine And.intro (by first | omega | decide) ?_)
 refine Zem (l:=mdL) (i:=1) ?_
 simp -implicitDefEqProofs only [go_sem,Nat.reduceLT]
 refine Zem (l:=[2]) (i:=1) ?_
 simp -implicitDefEqProofs only [go_sem,Nat.reduceLT]
 refine Zqv (by decide) (by decide) (by decide) (by decide) (by decide) ?_
 simp -implicitDefEqProofs only [go_sem,Nat.reduceAdd,Nat.reduceMul,Nat.reduceEqDiff,Nat.reduceLT,Nat.reduceLeDiff,Int.reduceLT,Int.reduceLE,Int.reduceAdd,Int.reduceNeg,Int.reduceGT,List.take_succ_cons,List.take_zero]
 repeat (with_reducible refine And.intro (by first | omega | decide) ?_)
 refine Zem (l:=mdL) (i:=2) ?_
 simp -implicitDefEqProofs only [go_sem,Nat.reduceLT]
 refine Zem (l:=[2]) (i:=2) ?_
 simp -implicitDefEqProofs only [go_sem,Nat.reduceLT]
 refine Zqv (by decide) (by decide) (by decide) (by decide) (by decide) ?_
 simp -implicitDefEqProofs only [go_sem,Nat.reduceAdd,Nat.reduceMul,Nat.reduceEqDiff,Nat.reduceLT,Nat.reduceLeDiff,Int.reduceLT,Int.reduceLE,Int.reduceAdd,Int.reduceNeg,Int.reduceGT,List.take_succ_cons,List.take_zero]
 repeat (with_reducible refine And.intro (by first | omega | decide) ?_)
 refine Zem (l:=mdL) (i:=3) ?_
 simp -implicitDefEqProofs only [go_sem,Nat.reduceLT]
 refine Zem (l:=[2]) (i:=3) ?_
 simp -implicitDefEqProofs only [go_sem,Nat.reduceLT]
 refine Zqv (by decide) (by decide) (by decide) (by decide) (by decide) ?_
 simp -implicitDefEqProofs only [go_sem,Nat.reduceAdd,Nat.reduceMul,Nat.reduceEqDiff,Nat.reduceLT,Nat.reduceLeDiff,Int.reduceLT,Int.reduceLE,Int.reduceAdd,Int.reduceNeg,Int.reduceGT,List.take_succ_cons,List.take_zero]
 repeat (with_reducible refine And.intro (by first | omega | decide) ?_)
 refine Zqo (l:=[18446744069414584319,6034159408538082302,3691218898639771653,8353516859464449352]) (by decide) (by decide) (by decide) ?_
 simp -implicitDefEqProofs only [go_sem,Nat.reduceAdd,Nat.reduceEqDiff,Nat.reduceLeDiff]
 refine Zt [(10,0)] [.row 26 .one (us [18446744069414584319,6034159408538082302,3691218898639771653,8353516859464449352])] [.osl 0 [] 0 4,i64 0] rfl rfl ?_ ?_ hK
 ·simp -implicitDefEqProofs only [go_sem,Nat.reduceEqDiff,Nat.reduceLT]
 ·simp -implicitDefEqProofs only [go_sem]

theorem Zsd {x:F} (h0:x = 0→K (.tup [ff 0,i64 7]) []) (hK:x ≠ 0→K (.tup [ff (inv x),i64 0]) []):PSpec prog 109 [ff x] [] K:=by
 refine Zla ?_
 simp only [qzS,qzN,qzG,qzT,qzI,qzF,qzZ,Zdr]
 simp -implicitDefEqProofs only [go_sem,Nat.reduceAdd,Nat.reduceSub,Nat.reduceEqDiff,Zq]
 refine Zi (fun h=>?_) (fun h=>?_)
 ·simp only [decide_eq_true_eq] at h
  subst h
  simp -implicitDefEqProofs only [go_sem,Nat.reduceEqDiff]
  exact Zb rfl (h0 rfl)
 ·simp only [decide_eq_false_iff_not] at h
  simp -implicitDefEqProofs only [go_sem,Nat.reduceLT]
  refine Zqn ?_
  simp -implicitDefEqProofs only [go_sem,Nat.reduceAdd,Nat.reduceEqDiff,Nat.reduceLT,Nat.reduceLeDiff,List.take_succ_cons,List.take_zero]
  refine Zw1 ?_
  simp -implicitDefEqProofs only [go_sem,Nat.reduceAdd,Nat.reduceEqDiff,Nat.reduceLT,Nat.reduceLeDiff]
  refine Zki (e:=[18446744069414584319,6034159408538082302,3691218898639771653,8353516859464449352]) (by decide) (by decide) ?_
  rw [show nv [18446744069414584319,6034159408538082302,3691218898639771653,8353516859464449352] = 52435875175126190479447740508185965837690552500527637822603658699938581184511 by decide]
  simp -implicitDefEqProofs only [go_sem,Nat.reduceEqDiff]
  exact Zb rfl (hK h)

theorem Ze4 {l:List Int} (hr:∀ n,n ∈ l→0 ≤ n ∧ n < 115792089237316195423570985008687907853269984665640564039457584007913129639936) (hl:l.length ≤ 4398046511104) {most:Int}
  (hT:(∀ n,n ∈ l→n < 52435875175126190479447740508185965837690552500527637822603658699938581184513)→(l.length:Int) ≤ most→K (bo true) []) (hF:K (bo false) []):PSpec prog 9 [.vsl false (.arr 4 .one) (frs l),i64 most] [] K:=by
 refine Zli ?_
 simp only [qzS,qzN,qzG,qzT,qzI,qzF,qzZ,Zdz]
 simp -implicitDefEqProofs only [go_sem,Nat.reduceAdd,Nat.reduceSub]
 refine Zv (ι:={ i:Nat // i ≤ l.length ∧ ∀ j,j < i→l.getD j 0 < 52435875175126190479447740508185965837690552500527637822603658699938581184513 }) [4,5,6,7,8,9,10,11,12,13,14,15,16,17] (fun i=>[(5,i64 i.1)]) (fun _=>[]) 0 (fun i=>l.length - i.1) ⟨0,Nat.zero_le _,fun j hj=>absurd hj (Nat.not_lt_zero _)⟩ ?_ ?_
 ·rw [Zg]
  refine Zc [] rfl rfl rfl ?_ ?_
  ·simp -implicitDefEqProofs only [go_sem]
  ·simp -implicitDefEqProofs only [go_sem]
 intro ⟨i,hi,hlt⟩ G hG
 simp -implicitDefEqProofs only [go_sem,Zqi]
 refine Zi (fun h=>?_) (fun h=>?_)
 ·simp only [decide_eq_true_eq] at h
  have hii:i < l.length:=by omega
  have w3:IntKind.i64.wrap ((i:Int) + 1) = ((i + 1:Nat):Int):=by rw [wrs (by omega) (by omega)]; omega
  have hm:l.getD i 0 ∈ l:=by
   rw [List.getD_eq_getElem?_getD,List.getElem?_eq_getElem hii]; exact List.getElem_mem hii
  simp -implicitDefEqProofs only [go_sem,Nat.reduceLT,Z4r hii,h,Zqi]
  refine Zsc (hr _ hm) ?_
  simp -implicitDefEqProofs only [go_sem]
  refine Zi (fun h'=>?_) (fun h'=>?_)
  ·simp -implicitDefEqProofs only [go_sem]
   exact Zb rfl hF
  ·simp only [Bool.not_eq_false',decide_eq_true_eq] at h'
   simp -implicitDefEqProofs only [go_sem,w3]
   refine hG _ ⟨i + 1,by omega,fun j hj=>?_⟩ (by simp only; omega) ?_
   ·by_cases e:j = i
    ·subst e; exact h'
    ·exact hlt j (by omega)
   ·rw [Zg]
    refine Zc [] rfl rfl rfl ?_ ?_
    ·simp -implicitDefEqProofs only [go_sem]
    ·simp -implicitDefEqProofs only [go_sem]
 simp only [decide_eq_false_iff_not] at h
 obtain rfl:i = l.length:=by omega
 simp -implicitDefEqProofs only [go_sem,Zqi]
 refine Zb rfl ?_
 simp only [Zce]
 by_cases hm:(l.length:Int) ≤ most
 ·rw [decide_eq_true hm]
  refine hT (fun n hn=>?_) hm
  obtain ⟨j,hj,rfl⟩:=List.getElem_of_mem hn
  have:=hlt j hj
  rwa [List.getD_eq_getElem?_getD,List.getElem?_eq_getElem hj] at this
 ·rw [decide_eq_false hm]
  exact hF

theorem Zbt {a b:List F} (ha:a.length ≤ 4398046511104) (hK:K (bo (decide (a = b))) []):PSpec prog 25 [.vsl false (.arr 4 .one) (ffs a),.vsl false (.arr 4 .one) (ffs b)] [] K:=by
 refine Zjv ?_
 simp only [qzS,qzN,qzG,qzT,qzI,qzF,qzZ,Zc4]
 simp -implicitDefEqProofs only [go_sem,Nat.reduceAdd,Nat.reduceSub]
 refine Zi (fun h=>?_) (fun h=>?_)
 ·simp only [bne_iff_ne,ne_eq] at h
  rw [decide_eq_false (fun e=>h (by rw [e]))] at hK
  simp -implicitDefEqProofs only [go_sem]
  exact Zb rfl hK
 simp only [bne_eq_false_iff_eq] at h
 have hab:a.length = b.length:=by omega
 simp -implicitDefEqProofs only [go_sem]
 refine Zv (ι:={ i:Nat // i ≤ a.length ∧ ∀ j,j < i→a.getD j 0 = b.getD j 0 }) [4,5,11,12,13,14,15,16,17,18,19,20,21,22,23,24,25] (fun i=>[(5,i64 i.1)]) (fun _=>[]) 0 (fun i=>a.length - i.1) ⟨0,Nat.zero_le _,fun j hj=>absurd hj (Nat.not_lt_zero _)⟩ ?_ ?_
 ·rw [Zg]
  refine Zc [] rfl rfl rfl ?_ ?_
  ·simp -implicitDefEqProofs only [go_sem]
  ·simp -implicitDefEqProofs only [go_sem]
 intro ⟨i,hi,hlt⟩ G hG
 simp -implicitDefEqProofs only [go_sem]
 refine Zi (fun h=>?_) (fun h=>?_)
 ·simp only [decide_eq_true_eq] at h
  have hii:i < a.length:=by omega
  have hib:i < b.length:=by omega
  have h2:(i:Int) < (b.length:Int):=by omega
  have w3:IntKind.i64.wrap ((i:Int) + 1) = ((i + 1:Nat):Int):=by rw [wrs (by omega) (by omega)]; omega
  simp -implicitDefEqProofs only [go_sem,Nat.reduceMul,Zy hii,Zy hib,h,h2]
  refine Zi (fun h'=>?_) (fun h'=>?_)
  ·simp only [Bool.not_eq_true',decide_eq_false_iff_not] at h'
   rw [decide_eq_false (fun e=>h' (by rw [e]))] at hK
   simp -implicitDefEqProofs only [go_sem]
   exact Zb rfl hK
  ·simp only [Bool.not_eq_false',decide_eq_true_eq] at h'
   simp -implicitDefEqProofs only [go_sem,w3]
   refine hG _ ⟨i + 1,by omega,fun j hj=>?_⟩ (by simp only; omega) ?_
   ·by_cases e:j = i
    ·subst e; exact h'
    ·exact hlt j (by omega)
   ·rw [Zg]
    refine Zc [] rfl rfl rfl ?_ ?_
    ·simp -implicitDefEqProofs only [go_sem]
    ·simp -implicitDefEqProofs only [go_sem]
 simp only [decide_eq_false_iff_not] at h
 obtain rfl:i = a.length:=by omega
 have e:a = b:=List.ext_getElem hab fun j h1 h2=>by
  have:=hlt j h1
  rwa [List.getD_eq_getElem?_getD,List.getElem?_eq_getElem h1,List.getD_eq_getElem?_getD,List.getElem?_eq_getElem h2] at this
 rw [decide_eq_true e] at hK
 simp -implicitDefEqProofs only [go_sem]
 exact Zb rfl hK
end Go.Proofs.Tryz.PMT

namespace Go.Proofs.Tryz.PMT
open Go Go.Proofs.PM Go.Proofs.PL Go.Proofs.Tryz
variable {K:PV→List Ob→Prop}
set_option maxRecDepth 4000

theorem Ztv {l:List F} (hl:l.length ≤ 4398046511104) (hK:K (i64 ((cut l).length - 1)) []):PSpec prog 108 [.vsl false (.arr 4 .one) (ffs l)] [] K:=by
 refine Zri ?_
 simp only [qzS,qzN,qzG,qzT,qzI,qzF,qzZ,Zgi]
 simp -implicitDefEqProofs only [go_sem,Nat.reduceSub,Nat.reduceLT]
 refine Zba hl ?_
 have h:=Zbr l
 have hw:IntKind.i64.wrap (((cut l).length:Int) - 1) = ((cut l).length:Int) - 1:=wrs (by omega) (by omega)
 simp -implicitDefEqProofs only [go_sem,Nat.reduceLeDiff,hw]
 exact Zb rfl hK

end Go.Proofs.Tryz.PMT

namespace Go.Proofs.Tryz.PMT
open Go Go.Proofs.PM Go.Proofs.PL Go.Proofs.Tryz
variable {K:PV→List Ob→Prop}
set_option maxRecDepth 4000

theorem Z8d (x y:F):x * (y * wi) * mi = x * y:=by
 have h:=wi_mi
 generalize wi = w at *
 generalize mi = m at *
 grind
theorem Zzy {a b:List F} (ha:a.length ≤ 4398046511104) (hb:b.length ≤ 4398046511104)
  (h0:((cut a).length = 0 ∨ (cut b).length = 0)→K (.tup [.osl 0 [] 0 0,i64 0]) [.row 28 (.arr 4 .one) []])
  (h1:(cut a).length ≠ 0→(cut b).length ≠ 0→512 < (cut a).length + (cut b).length - 1→K (.tup [.osl 0 [] 0 0,i64 8]) [.row 28 (.arr 4 .one) []])
  (h2:(cut a).length ≠ 0→(cut b).length ≠ 0→(cut a).length + (cut b).length - 1 ≤ 512→K (.tup [.osl 0 [] 0 ((cut a).length + (cut b).length - 1),i64 0]) [.row 28 (.arr 4 .one) (ffs (mulL ((cut a).length + (cut b).length - 1) (cut a) (cut b)))]):PSpec prog 96 [.vsl false (.arr 4 .one) (ffs a),.vsl false (.arr 4 .one) (ffs b)] [] K:=by
 refine Zwf ?_
 simp only [qzS,qzN,qzG,qzT,qzI,qzF,qzZ,Zmf]
 simp -implicitDefEqProofs only [go_sem,Nat.reduceAdd,Nat.reduceSub,Nat.reduceLT]
 refine Zba ha ?_
 simp -implicitDefEqProofs only [go_sem,Nat.reduceAdd,Nat.reduceEqDiff,Nat.reduceLT,Nat.reduceLeDiff]
 refine Zba hb ?_
 have la:=Zbr a
 have lb:=Zbr b
 generalize cut a = A at *
 generalize cut b = B at *
 simp -implicitDefEqProofs only [go_sem,Nat.reduceAdd,Nat.reduceEqDiff,Nat.reduceLeDiff]
 by_cases hA:A.length = 0
 ·have e1:((A.length:Int) == 0) = true:=by simp [hA]
  simp -implicitDefEqProofs only [go_sem,Nat.reduceAdd,Nat.reduceEqDiff,e1]
  refine Zt [(3,0)] [.row 28 (.arr 4 .one) []] [.osl 0 [] 0 0,i64 0] rfl rfl ?_ ?_ (h0 (.inl hA))
  ·simp -implicitDefEqProofs only [go_sem,Nat.reduceEqDiff,Nat.reduceLT]
  ·simp -implicitDefEqProofs only [go_sem]
 have e1:((A.length:Int) == 0) = false:=by simp [hA]
 by_cases hB:B.length = 0
 ·have e2:((B.length:Int) == 0) = true:=by simp [hB]
  simp -implicitDefEqProofs only [go_sem,Nat.reduceAdd,Nat.reduceEqDiff,e1,e2]
  refine Zt [(3,0)] [.row 28 (.arr 4 .one) []] [.osl 0 [] 0 0,i64 0] rfl rfl ?_ ?_ (h0 (.inr hB))
  ·simp -implicitDefEqProofs only [go_sem,Nat.reduceEqDiff,Nat.reduceLT]
  ·simp -implicitDefEqProofs only [go_sem]
 have e2:((B.length:Int) == 0) = false:=by simp [hB]
 have w1:IntKind.i64.wrap ((A.length:Int) + (B.length:Int)) = ((A.length + B.length:Nat):Int):=by rw [wrs (by omega) (by omega)]; omega
 have w2:IntKind.i64.wrap (((A.length + B.length:Nat):Int) - 1) = ((A.length + B.length - 1:Nat):Int):=by rw [wrs (by omega) (by omega)]; omega
 simp -implicitDefEqProofs only [go_sem,Nat.reduceEqDiff,e1,e2,w1,w2]
 refine Zi (fun h=>?_) (fun h=>?_)
 ·simp only [decide_eq_true_eq] at h
  simp -implicitDefEqProofs only [go_sem,Nat.reduceAdd,Nat.reduceEqDiff]
  refine Zt [(3,0)] [.row 28 (.arr 4 .one) []] [.osl 0 [] 0 0,i64 8] rfl rfl ?_ ?_ (h1 hA hB (by omega))
  ·simp -implicitDefEqProofs only [go_sem,Nat.reduceEqDiff,Nat.reduceLT]
  ·simp -implicitDefEqProofs only [go_sem]
 simp only [decide_eq_false_iff_not] at h
 have h2:=h2 hA hB (by omega)
 clear h0 h1
 simp -implicitDefEqProofs only [go_sem,Nat.reduceEqDiff]
 refine Zv (ι:={ i:Nat // i ≤ B.length }) [4,6,7,35,36,37,38,39,40,41,42,43,44,45] (fun i=>[(35,i64 i.1)])
  (fun i=>[(1,.ob (.row 28 (.arr 4 .one) (ffs A))),(2,.ob (.row 28 (.arr 4 .one) (ffs (whS wi B i.1))))]) 3 (fun i=>B.length - i.1) ⟨0,Nat.zero_le _⟩ ?_ ?_
 ·rw [Zg]
  refine Zc [(1,1),(2,2)] rfl rfl rfl ?_ ?_
  ·simp -implicitDefEqProofs only [go_sem,Nat.reduceEqDiff,Nat.reduceLT,whS]
  ·simp -implicitDefEqProofs only [go_sem,Nat.reduceEqDiff]
 intro ⟨i,hi⟩ G hG
 have wl:=Zlv wi B i
 simp -implicitDefEqProofs only [go_sem]
 refine Zi (fun h=>?_) (fun h=>?_)
 ·simp only [decide_eq_true_eq] at h
  have hii:i < (whS wi B i).length:=by omega
  have w3:IntKind.i64.wrap ((i:Int) + 1) = ((i + 1:Nat):Int):=by rw [wrs (by omega) (by omega)]; omega
  simp -implicitDefEqProofs only [go_sem,Nat.reduceAdd,Nat.reduceEqDiff,Nat.reduceLT,Zy hii,h]
  refine Zkm ?_
  simp -implicitDefEqProofs only [go_sem,Nat.reduceEqDiff,Zy hii,h,w3]
  refine hG _ ⟨i + 1,by omega⟩ (by simp only; omega) ?_
  rw [Zg]
  refine Zc [(1,1),(2,2)] rfl rfl rfl ?_ ?_
  ·simp -implicitDefEqProofs only [go_sem,Nat.reduceEqDiff,Nat.reduceLT,whS]
  ·simp -implicitDefEqProofs only [go_sem,Nat.reduceEqDiff]
 simp only [decide_eq_false_iff_not] at h
 obtain rfl:i = B.length:=by omega
 clear hG wl
 simp -implicitDefEqProofs only [go_sem,Nat.reduceAdd,Nat.reduceEqDiff,w1,w2,Zq]
 repeat (with_reducible refine And.intro (by first | omega | decide) ?_)
 have hW:∀ j,j < B.length→(whS wi B B.length).getD j 0 = B.getD j 0 * wi:=fun j hj=>by rw [Zss wi B B.length j (Nat.le_refl _),if_pos hj]
 have hWl:=Zlv wi B B.length
 generalize whS wi B B.length = W at *
 have hn1:A.length + B.length - 1 + 1 = A.length + B.length:=by omega
 generalize hN:A.length + B.length - 1 = N at *
 refine Zv (ι:={ i:Nat // i ≤ A.length }) [4,9,10,11,12,55,56,57,58,59,60,61,62,63,64,65,66,67,68,69,70,71,72,73,74,75,76,77,78,79,80,81,82,83] (fun i=>[(55,i64 i.1)])
  (fun i=>[(1,.ob (.row 28 (.arr 4 .one) (ffs A))),(2,.ob (.row 28 (.arr 4 .one) (ffs W))),(3,.ob (.row 28 (.arr 4 .one) (ffs (mulI N A B i.1))))]) 4 (fun i=>A.length - i.1) ⟨0,Nat.zero_le _⟩ ?_ ?_
 ·rw [Zg]
  refine Zc [(1,1),(2,2),(3,3)] rfl rfl rfl ?_ ?_
  ·simp -implicitDefEqProofs only [go_sem,Nat.reduceEqDiff,Nat.reduceLT,mulI]
  ·simp -implicitDefEqProofs only [go_sem,Nat.reduceEqDiff]
 intro ⟨i,hi⟩ G hG
 have ml:=Zm8 N A B i
 simp -implicitDefEqProofs only [go_sem]
 refine Zi (fun h=>?_) (fun h=>?_)
 ·simp only [decide_eq_true_eq] at h
  have hii:i < A.length:=by omega
  have w3:IntKind.i64.wrap ((i:Int) + 1) = ((i + 1:Nat):Int):=by rw [wrs (by omega) (by omega)]; omega
  simp -implicitDefEqProofs only [go_sem,Nat.reduceAdd,Nat.reduceEqDiff,Zy hii,h]
  refine Zv (ι:={ j:Nat // j ≤ B.length }) [4,11,12,62,63,64,65,66,67,68,69,70,71,72,73,74,75,76,77,78,79,80,81,82] (fun j=>[(62,i64 j.1)])
   (fun j=>[(1,.ob (.row 28 (.arr 4 .one) (ffs A))),(2,.ob (.row 28 (.arr 4 .one) (ffs W))),(3,.ob (.row 28 (.arr 4 .one) (ffs (mulJ (A.getD i 0) i B (mulI N A B i) j.1)))),(4,.ob (.var (.arr 4 .one) (ff (A.getD i 0))))]) 5 (fun j=>B.length - j.1) ⟨0,Nat.zero_le _⟩ ?_ ?_
  ·rw [Zg]
   refine Zc [(1,1),(2,2),(3,3),(4,4)] rfl rfl rfl ?_ ?_
   ·simp -implicitDefEqProofs only [go_sem,Nat.reduceEqDiff,Nat.reduceLT,mulJ]
   ·simp -implicitDefEqProofs only [go_sem,Nat.reduceEqDiff]
  intro ⟨j,hj⟩ G' hG'
  have mj:=Zm7 (A.getD i 0) i B (mulI N A B i) j
  simp -implicitDefEqProofs only [go_sem]
  refine Zi (fun h'=>?_) (fun h'=>?_)
  ·simp only [decide_eq_true_eq] at h'
   have hjj:j < W.length:=by omega
   have hij:i + j < (mulJ (A.getD i 0) i B (mulI N A B i) j).length:=by omega
   have hijN:((i + j:Nat):Int) < (N:Int):=by omega
   have w4:IntKind.i64.wrap ((i:Int) + (j:Int)) = ((i + j:Nat):Int):=by rw [wrs (by omega) (by omega)]; omega
   have w5:IntKind.i64.wrap ((j:Int) + 1) = ((j + 1:Nat):Int):=by rw [wrs (by omega) (by omega)]; omega
   simp -implicitDefEqProofs only [go_sem,Nat.reduceAdd,Nat.reduceMul,Nat.reduceEqDiff,Nat.reduceLT,Zy hjj,h',w4,Zy hij,hijN]
   refine Zhg ?_
   simp -implicitDefEqProofs only [go_sem,Nat.reduceAdd,Nat.reduceMul,Nat.reduceLT]
   refine Zbm ?_
   simp -implicitDefEqProofs only [go_sem,Nat.reduceAdd,Nat.reduceMul,Nat.reduceEqDiff,Zy hij,hijN,w5]
   refine hG' _ ⟨j + 1,by omega⟩ (by simp only; omega) ?_
   rw [Zg]
   refine Zc [(1,1),(2,2),(3,3),(4,4)] rfl rfl rfl ?_ ?_
   ·simp -implicitDefEqProofs only [go_sem,Nat.reduceEqDiff,Nat.reduceLT,mulJ,hW j (by omega),Z8d]
   ·simp -implicitDefEqProofs only [go_sem,Nat.reduceEqDiff]
  ·simp only [decide_eq_false_iff_not] at h'
   obtain rfl:j = B.length:=by omega
   clear hG'
   simp -implicitDefEqProofs only [go_sem,Nat.reduceEqDiff,w3]
   refine hG _ ⟨i + 1,by omega⟩ (by simp only; omega) ?_
   rw [Zg]
   refine Zc [(1,1),(2,2),(3,3)] rfl rfl rfl ?_ ?_
   ·simp -implicitDefEqProofs only [go_sem,Nat.reduceEqDiff,Nat.reduceLT,mulI]
   ·simp -implicitDefEqProofs only [go_sem,Nat.reduceEqDiff]
 simp only [decide_eq_false_iff_not] at h
 obtain rfl:i = A.length:=by omega
 clear hG
 simp -implicitDefEqProofs only [go_sem]
 refine Zt [(3,0)] [.row 28 (.arr 4 .one) (ffs (mulL N A B))] [.osl 0 [] 0 N,i64 0] rfl rfl ?_ ?_ h2
 ·simp -implicitDefEqProofs only [go_sem,Nat.reduceEqDiff,Nat.reduceLT,ob_eq,Ob.row.injEq]
  rfl
 ·simp -implicitDefEqProofs only [go_sem]
end Go.Proofs.Tryz.PMT

namespace Go.Proofs.Tryz.PMT
open Go Go.Proofs.PM Go.Proofs.PL Go.Proofs.Tryz
set_option maxRecDepth 4000

end Go.Proofs.Tryz.PMT

namespace Go.Proofs.Tryz.PMT
open Go Go.Proofs.PM Go.Proofs.PL Go.Proofs.Tryz
variable {K:PV→List Ob→Prop}
set_option maxRecDepth 4000

theorem Zbd {l:List F} (hl:l.length ≤ 4398046511104) (hK:K (.osl 0 [] 0 (cut l).length) [.row 28 (.arr 4 .one) (ffs (cut l))]):PSpec prog 65 [.vsl false (.arr 4 .one) (ffs l)] [] K:=by
 refine Zlf ?_
 simp only [qzS,qzN,qzG,qzT,qzI,qzF,qzZ,Zdw]
 simp -implicitDefEqProofs only [go_sem,Nat.reduceSub]
 refine Zv (ι:={ n:Nat // n ≤ l.length ∧ top l n = top l l.length }) [3,6,7,8,9,10,11,12,13,14,15,16,17,18] (fun n=>[(3,i64 n.1)]) (fun _=>[(0,.ob (.row 28 (.arr 4 .one) []))]) 1 (fun n=>n.1) ⟨l.length,Nat.le_refl _,rfl⟩ ?_ ?_
 ·rw [Zg]
  refine Zc [(0,0)] rfl rfl rfl ?_ ?_
  ·simp -implicitDefEqProofs only [go_sem,Nat.reduceLT]
  ·simp -implicitDefEqProofs only [go_sem]
 ·intro ⟨n,hn,ht⟩ G hG
  dsimp only at hG
  rcases n with _ | k
  ·have htop:top l 0 = 0:=rfl
   have hcut:cut l = l.take 0:=by rw [cut,← ht,htop]
   have hc:(l.take 0).length = 0:=by rw [List.length_take]; omega
   simp -implicitDefEqProofs only [go_sem,Nat.reduceAdd,Nat.reduceMul,Nat.reduceEqDiff,Int.reduceLE,Int.reduceGT,hc]
   repeat (with_reducible refine And.intro (by first | omega | decide) ?_)
   rw [hcut,hc] at hK
   refine Zt [(2,0)] [.row 28 (.arr 4 .one) (ffs (l.take 0))] [.osl 0 [] 0 0] rfl rfl ?_ ?_ hK
   ·simp -implicitDefEqProofs only [go_sem,Nat.reduceEqDiff,Nat.reduceLT]
   ·simp -implicitDefEqProofs only [go_sem]
  ·have hw:IntKind.i64.wrap (((k + 1:Nat):Int) - 1) = (k:Int):=by rw [wrs (by omega) (by omega)]; omega
   have hk:((k:Int) < (l.length:Int)):=by omega
   simp -implicitDefEqProofs only [go_sem,Z6a,hw,Zq,Zy (show k < l.length by omega),hk]
   refine Zi (fun h=>?_) (fun h=>?_)
   ·simp only [decide_eq_true_eq] at h
    simp -implicitDefEqProofs only [go_sem,hw]
    refine hG _ ⟨k,by omega,by rw [← ht,top,if_pos h]⟩ (by simp only; omega) ?_
    rw [Zg]
    refine Zc [(0,0)] rfl rfl rfl ?_ ?_
    ·simp -implicitDefEqProofs only [go_sem,Nat.reduceLT]
    ·simp -implicitDefEqProofs only [go_sem]
   ·simp only [decide_eq_false_iff_not] at h
    have htop:top l (k + 1) = k + 1:=by rw [top,if_neg h]
    have hcut:cut l = l.take (k + 1):=by rw [cut,← ht,htop]
    have hc:(l.take (k + 1)).length = k + 1:=by rw [List.length_take]; omega
    simp -implicitDefEqProofs only [go_sem,Nat.reduceAdd,Nat.reduceEqDiff,Nat.reduceLeDiff,Int.reduceLE,hc]
    repeat (with_reducible refine And.intro (by first | omega | decide) ?_)
    rw [hcut,hc] at hK
    refine Zt [(2,0)] [.row 28 (.arr 4 .one) (ffs (l.take (k + 1)))] [.osl 0 [] 0 (k + 1)] rfl rfl ?_ ?_ hK
    ·simp -implicitDefEqProofs only [go_sem,Nat.reduceEqDiff,Nat.reduceLT]
    ·simp -implicitDefEqProofs only [go_sem]

theorem Z4g {l:List F} {x:F} (hl:l.length ≤ 4398046511104) (hK:K (ff (hor x l)) []):PSpec prog 16 [.vsl false (.arr 4 .one) (ffs l),ff x] [] K:=by
 refine Zl6 ?_
 simp only [qzS,qzN,qzG,qzT,qzI,qzF,qzZ,Zeg]
 have hw:IntKind.i64.wrap ((l.length:Int) - 1) = (l.length:Int) - 1:=wrs (by omega) (by omega)
 simp -implicitDefEqProofs only [go_sem,Nat.reduceAdd,Nat.reduceSub,Nat.reduceEqDiff,Zq,hw]
 refine Zv (ι:={ i:Nat // i ≤ l.length }) [6,10,11,12,13,14,15,16,17,18,19,20,21] (fun i=>[(6,i64 ((i.1:Int) - 1))])
  (fun i=>[(0,.ob (.var (.arr 4 .one) (ff x))),(1,.ob (.var (.arr 4 .one) (ff 0))),(2,.ob (.var (.arr 4 .one) (ff (hor x (l.drop i.1)))))]) 3 (fun i=>i.1) ⟨l.length,Nat.le_refl _⟩ ?_ ?_
 ·rw [Zg]
  refine Zc [(0,0),(1,1),(2,2)] rfl rfl rfl ?_ ?_
  ·simp -implicitDefEqProofs only [go_sem,Nat.reduceEqDiff,Nat.reduceLT,Z8v x l _ (Nat.le_refl _)]
  ·simp -implicitDefEqProofs only [go_sem,Nat.reduceEqDiff]
 intro ⟨i,hi⟩ G hG
 dsimp only at hi hG
 rcases i with _ | k
 ·simp -implicitDefEqProofs only [go_sem,Nat.reduceEqDiff,Int.reduceSub,Int.reduceNeg,Int.reduceGE]
  refine Zb rfl ?_
  simp only [Zce]
  exact hK
 ·have h1:((k + 1:Nat):Int) - 1 = (k:Int):=by omega
  have h2:IntKind.i64.wrap ((k:Int) - 1) = (k:Int) - 1:=wrs (by omega) (by omega)
  have hge:decide ((k:Int) ≥ 0) = true:=by simp
  have hk:k < l.length:=by omega
  have hk2:(k:Int) < (l.length:Int):=by omega
  have hd:=Z4n x l k hk
  simp -implicitDefEqProofs only [go_sem,Nat.reduceAdd,Nat.reduceMul,Nat.reduceEqDiff,Nat.reduceLT,h1,Zy hk,hk2]
  refine Zbh ?_
  simp -implicitDefEqProofs only [go_sem,Nat.reduceAdd,Nat.reduceMul,Nat.reduceLT]
  refine Zfy ?_
  simp -implicitDefEqProofs only [go_sem,Nat.reduceAdd,Nat.reduceMul,Nat.reduceEqDiff,h2]
  refine hG _ ⟨k,by omega⟩ (by simp only; omega) ?_
  rw [Zg]
  refine Zc [(0,0),(1,1),(2,2)] rfl rfl rfl ?_ ?_
  ·simp -implicitDefEqProofs only [go_sem,Nat.reduceEqDiff,Nat.reduceLT,ob_eq,Ob.var.injEq]
   rw [hd]
   exact congrArg ff (by grind)
  ·simp -implicitDefEqProofs only [go_sem,Nat.reduceEqDiff]

set_option maxHeartbeats 1000000 in
theorem Zvg {a b:List F} (ha:a.length ≤ 4398046511104) (hb:b.length ≤ 4398046511104)
  (h0:(cut b).length = 0→K (.tup [.osl 0 [] 0 0,.osl 1 [] 0 0,i64 7]) [.row 28 (.arr 4 .one) [],.row 28 (.arr 4 .one) []])
  (h1:(cut b).length ≠ 0→∀ q r,(q,r) = divG (inv ((cut b).getD ((cut b).length - 1) 0)) (cut b) (cut a).length ((cut a).length + 1 - (cut b).length) (cut a) ((cut a).length + 1 - (cut b).length)→K (.tup [.osl 0 [] 0 (cut q).length,.osl 1 [] 0 (cut r).length,i64 0]) [.row 28 (.arr 4 .one) (ffs (cut q)),.row 28 (.arr 4 .one) (ffs (cut r))]):PSpec prog 73 [.vsl false (.arr 4 .one) (ffs a),.vsl false (.arr 4 .one) (ffs b)] [] K:=by
 refine Zhm ?_
 simp only [qzS,qzN,qzG,qzT,qzI,qzF,qzZ,Zb8]
 simp -implicitDefEqProofs only [go_sem,Nat.reduceAdd,Nat.reduceSub,Nat.reduceEqDiff,Nat.reduceLT]
 have hlast:=Zpl b
 have la:=Zbr a
 have lb:=Zbr b
 refine Zbd ha ?_
 simp -implicitDefEqProofs only [go_sem,Nat.reduceAdd,Nat.reduceEqDiff,Nat.reduceLT,Nat.reduceLeDiff]
 refine Zbd hb ?_
 generalize cut a = A at *
 generalize cut b = B at *
 simp -implicitDefEqProofs only [go_sem,Nat.reduceAdd,Nat.reduceEqDiff,Nat.reduceLeDiff]
 by_cases hB:B.length = 0
 ·have e1:((B.length:Int) == 0) = true:=by simp [hB]
  simp -implicitDefEqProofs only [go_sem,Nat.reduceAdd,Nat.reduceEqDiff,e1]
  refine Zt [(4,0),(5,1)] [.row 28 (.arr 4 .one) [],.row 28 (.arr 4 .one) []] [.osl 0 [] 0 0,.osl 1 [] 0 0,i64 7] rfl rfl ?_ ?_ (h0 hB)
  ·simp -implicitDefEqProofs only [go_sem,Nat.reduceAdd,Nat.reduceEqDiff,Nat.reduceLT]
  ·simp -implicitDefEqProofs only [go_sem,Nat.reduceEqDiff]
 have e1:((B.length:Int) == 0) = false:=by simp [hB]
 have w1:IntKind.i64.wrap ((B.length:Int) - 1) = ((B.length - 1:Nat):Int):=by rw [wrs (by omega) (by omega)]; omega
 have h2:((B.length - 1:Nat):Int) < (B.length:Int):=by omega
 have h3:B.length - 1 < B.length:=by omega
 have hlast:=hlast hB
 have h1:=h1 hB
 clear h0
 simp -implicitDefEqProofs only [go_sem,Nat.reduceEqDiff,Nat.reduceLT,e1,w1,h2,Zy h3]
 refine Zsd (fun h=>absurd h hlast) (fun _=>?_)
 have w2:IntKind.i64.wrap ((A.length:Int) - (B.length:Int)) = (A.length:Int) - (B.length:Int):=wrs (by omega) (by omega)
 simp -implicitDefEqProofs only [go_sem,Nat.reduceAdd,Nat.reduceEqDiff,Nat.reduceLT,Zq,w2]
 repeat (with_reducible refine And.intro (by first | omega | decide) ?_)
 generalize inv (B.getD (B.length - 1) 0) = t at *
 generalize hn:A.length + 1 - B.length = n at *
 refine Zv (ι:={ k:Nat // k ≤ n }) [4,5,10,11,12,38,39,40,41,42,43,44,45,46,47,48,49,50,51,52,53,54,55,56,57,58,59,60,61,62,63,64,65,66,67,68,69,70,71,72,73,74,75,76,77,78,79] (fun k=>[(10,i64 ((A.length:Int) - (B.length:Int) - (k.1:Int)))])
  (fun k=>[(2,.ob (.row 28 (.arr 4 .one) (ffs (divG t B A.length n A k.1).2))),(3,.ob (.row 28 (.arr 4 .one) (ffs B))),(4,.ob (.var (.arr 4 .one) (ff t))),(5,.ob (.row 28 (.arr 4 .one) (ffs (divG t B A.length n A k.1).1)))]) 6 (fun k=>n - k.1) ⟨0,Nat.zero_le _⟩ ?_ ?_
 ·rw [Zg]
  refine Zc [(2,2),(3,3),(4,4),(5,5)] rfl rfl rfl ?_ ?_
  ·simp -implicitDefEqProofs only [go_sem,Nat.reduceEqDiff,Nat.reduceLT,divG]
  ·simp -implicitDefEqProofs only [go_sem,Nat.reduceEqDiff,Value.int.injEq]
   simp
 intro ⟨k,hk⟩ G hG
 simp -implicitDefEqProofs only [go_sem]
 have l1:=(Zpk t B A.length n A k).1
 have l2:=(Zpk t B A.length n A k).2
 refine Zi (fun h=>?_) (fun h=>?_)
 ·simp only [decide_eq_true_eq] at h
  have hkn:k < n:=by omega
  obtain ⟨i,hi⟩:∃ i,n - (k + 1) = i:=⟨_,rfl⟩
  have hI:(A.length:Int) - (B.length:Int) - (k:Int) = (i:Int):=by omega
  have w3:IntKind.i64.wrap ((i:Int) + (B.length:Int)) = ((i + B.length:Nat):Int):=by rw [wrs (by omega) (by omega)]; omega
  have w4:IntKind.i64.wrap (((i + B.length:Nat):Int) - 1) = ((i + B.length - 1:Nat):Int):=by rw [wrs (by omega) (by omega)]; omega
  have w5:IntKind.i64.wrap ((i:Int) - 1) = (A.length:Int) - (B.length:Int) - ((k + 1:Nat):Int):=by rw [wrs (by omega) (by omega)]; omega
  have hS:divG t B A.length n A (k + 1) = ((divG t B A.length n A k).1.set i ((divG t B A.length n A k).2.getD (i + B.length - 1) 0 * t),subJ ((divG t B A.length n A k).2.getD (i + B.length - 1) 0 * t) i B (divG t B A.length n A k).2 B.length):=by rw [← hi]; rfl
  have hS1:=congrArg Prod.fst hS
  have hS2:=congrArg Prod.snd hS
  dsimp only at hS1 hS2
  clear hS h1
  have hlt:i + B.length - 1 < (divG t B A.length n A k).2.length:=by omega
  have hi1:((i + B.length - 1:Nat):Int) < (A.length:Int):=by omega
  have hi2:(i:Int) < (A.length:Int):=by omega
  generalize (divG t B A.length n A k).1 = q at *
  generalize (divG t B A.length n A k).2 = r at *
  rw [hI]
  simp -implicitDefEqProofs only [go_sem,Nat.reduceAdd,Nat.reduceMul,Nat.reduceEqDiff,Nat.reduceLT,w3,w4,Zy hlt,hi1]
  refine Zbh ?_
  generalize hc:r.getD (i + B.length - 1) 0 * t = c at *
  simp -implicitDefEqProofs only [go_sem,Nat.reduceAdd,Nat.reduceMul,Nat.reduceEqDiff,hi2]
  refine Zv (ι:={ j:Nat // j ≤ B.length }) [4,5,12,56,57,58,59,60,61,62,63,64,65,66,67,68,69,70,71,72,73,74,75,76,77,78,79] (fun j=>[(11,.ptr 6 []),(12,i64 j.1)])
   (fun j=>[(2,.ob (.row 28 (.arr 4 .one) (ffs (subJ c i B r j.1)))),(3,.ob (.row 28 (.arr 4 .one) (ffs B))),(4,.ob (.var (.arr 4 .one) (ff t))),(5,.ob (.row 28 (.arr 4 .one) (ffs (q.set i c)))),(6,.ob (.var (.arr 4 .one) (ff c)))]) 7 (fun j=>B.length - j.1) ⟨0,Nat.zero_le _⟩ ?_ ?_
  ·rw [Zg]
   refine Zc [(2,2),(3,3),(4,4),(5,5),(166,6)] rfl rfl rfl ?_ ?_
   ·simp -implicitDefEqProofs only [go_sem,Nat.reduceEqDiff,Nat.reduceLT,subJ]
   ·simp -implicitDefEqProofs only [go_sem,Nat.reduceEqDiff]
  intro ⟨j,hj⟩ G' hG'
  simp -implicitDefEqProofs only [go_sem,Nat.reduceEqDiff]
  have sl:=Zmy c i B r j
  refine Zi (fun h'=>?_) (fun h'=>?_)
  ·simp only [decide_eq_true_eq] at h'
   have hjj:j < B.length:=by omega
   have hij:i + j < (subJ c i B r j).length:=by omega
   have hijN:((i + j:Nat):Int) < (A.length:Int):=by omega
   have w6:IntKind.i64.wrap ((i:Int) + (j:Int)) = ((i + j:Nat):Int):=by rw [wrs (by omega) (by omega)]; omega
   have w7:IntKind.i64.wrap ((j:Int) + 1) = ((j + 1:Nat):Int):=by rw [wrs (by omega) (by omega)]; omega
   simp -implicitDefEqProofs only [go_sem,Nat.reduceAdd,Nat.reduceMul,Nat.reduceEqDiff,Nat.reduceLT,Zy hjj,h',w6,Zy hij,hijN]
   refine Zbh ?_
   simp -implicitDefEqProofs only [go_sem,Nat.reduceAdd,Nat.reduceMul,Nat.reduceLT]
   refine Zsb ?_
   simp -implicitDefEqProofs only [go_sem,Nat.reduceAdd,Nat.reduceMul,Nat.reduceEqDiff,Zy hij,hijN,w7]
   refine hG' _ ⟨j + 1,by omega⟩ (by simp only; omega) ?_
   rw [Zg]
   refine Zc [(2,2),(3,3),(4,4),(5,5),(6,6)] rfl rfl rfl ?_ ?_
   ·simp -implicitDefEqProofs only [go_sem,Nat.reduceEqDiff,Nat.reduceLT,subJ]
   ·simp -implicitDefEqProofs only [go_sem,Nat.reduceEqDiff]
  ·simp only [decide_eq_false_iff_not] at h'
   obtain rfl:j = B.length:=by omega
   clear hG'
   simp -implicitDefEqProofs only [go_sem,Nat.reduceEqDiff,Nat.reduceLT,w5]
   refine hG _ ⟨k + 1,by omega⟩ (by simp only; omega) ?_
   rw [Zg]
   refine Zc [(2,2),(3,3),(4,4),(5,5)] rfl rfl rfl ?_ ?_
   ·simp -implicitDefEqProofs only [go_sem,Nat.reduceEqDiff,Nat.reduceLT,hS1,hS2]
   ·simp -implicitDefEqProofs only [go_sem,Nat.reduceEqDiff]
 simp only [decide_eq_false_iff_not] at h
 obtain rfl:k = n:=by omega
 clear hG
 have h1:=h1 _ _ rfl
 generalize (divG t B A.length k A k).1 = q at *
 generalize (divG t B A.length k A k).2 = r at *
 have t1:q.take A.length = q:=by rw [← l1,List.take_length]
 have t2:r.take A.length = r:=by rw [← l2,List.take_length]
 simp -implicitDefEqProofs only [go_sem,Nat.reduceEqDiff,Nat.reduceLT,t1]
 refine Zbd (by omega) ?_
 simp -implicitDefEqProofs only [go_sem,Nat.reduceAdd,Nat.reduceEqDiff,Nat.reduceLT,Nat.reduceLeDiff,t2]
 refine Zbd (by omega) ?_
 simp -implicitDefEqProofs only [go_sem,Nat.reduceAdd,Nat.reduceEqDiff,Nat.reduceLeDiff]
 refine Zt [(6,0),(7,1)] [.row 28 (.arr 4 .one) (ffs (cut q)),.row 28 (.arr 4 .one) (ffs (cut r))] [.osl 0 [] 0 (cut q).length,.osl 1 [] 0 (cut r).length,i64 0] rfl rfl ?_ ?_ h1
 ·simp -implicitDefEqProofs only [go_sem,Nat.reduceAdd,Nat.reduceEqDiff,Nat.reduceLT]
 ·simp -implicitDefEqProofs only [go_sem,Nat.reduceEqDiff]
end Go.Proofs.Tryz.PMT

namespace Go.Proofs.Tryz.PMT
open Go Go.Proofs.PM Go.Proofs.PL Go.Proofs.Tryz
variable {K:PV→List Ob→Prop}
set_option maxRecDepth 4000

theorem Zqq {n:Nat} (h0:0 < n) (hn:n ≤ 1000000) (hK:K (.osl 0 [] 0 (n + 1)) [.row 28 (.arr 4 .one) (ffs (vnl n))]):PSpec prog 21 [i64 n] [] K:=by
 obtain ⟨N,hN⟩:∃ N,N = n + 1:=⟨_,rfl⟩
 rw [vnl,← hN] at hK
 refine Zf8 ?_
 simp only [qzS,qzN,qzG,qzT,qzI,qzF,qzZ,Zby]
 have w1:IntKind.i64.wrap ((n:Int) + 1) = (N:Int):=by rw [wrs (by omega) (by omega)]; omega
 have h1:(0:Int) < (N:Int):=by omega
 have h2:(n:Int) < (N:Int):=by omega
 simp -implicitDefEqProofs only [go_sem,Nat.reduceAdd,Nat.reduceSub,Nat.reduceEqDiff,Nat.reduceLT,w1,Zq]
 repeat (with_reducible refine And.intro (by first | omega | decide) ?_)
 refine Zbi (Zs rfl) ?_
 simp -implicitDefEqProofs only [go_sem,Nat.reduceLT,Zew]
 refine Zkj ?_
 simp -implicitDefEqProofs only [go_sem,Nat.reduceLT]
 refine Zbi (Zs rfl) ?_
 simp -implicitDefEqProofs only [go_sem,Nat.reduceEqDiff,Int.reduceLE,Zew,h1,h2]
 repeat (with_reducible refine And.intro (by first | omega | decide) ?_)
 refine Zt [(1,0)] [.row 28 (.arr 4 .one) (ffs (((List.replicate N (0:F)).set 0 (0 - 1)).set n 1))] [.osl 0 [] 0 N] rfl rfl ?_ ?_ hK
 ·simp -implicitDefEqProofs only [go_sem,Nat.reduceEqDiff,Nat.reduceLT]
 ·simp -implicitDefEqProofs only [go_sem]

theorem Z12 {A B:List F} (ha:A.length ≤ 1000000) (hb:B.length ≤ 1000000) (hK:K (.osl 0 [] 0 (cut (mulL (A.length + B.length) A B)).length) [.row 28 (.arr 4 .one) (ffs (cut (mulL (A.length + B.length) A B)))]):PSpec prog 18 [.vsl false (.arr 4 .one) (ffs A),.vsl false (.arr 4 .one) (ffs B)] [] K:=by
 refine Zld ?_
 simp only [qzS,qzN,qzG,qzT,qzI,qzF,qzZ,Zdu]
 have w1:IntKind.i64.wrap ((A.length:Int) + (B.length:Int)) = ((A.length + B.length:Nat):Int):=by rw [wrs (by omega) (by omega)]; omega
 simp -implicitDefEqProofs only [go_sem,Nat.reduceAdd,Nat.reduceSub,Nat.reduceEqDiff,w1,Zq]
 repeat (with_reducible refine And.intro (by first | omega | decide) ?_)
 generalize hN:A.length + B.length = N at *
 refine Zv (ι:={ i:Nat // i ≤ A.length }) [4,6,7,14,15,16,17,18,19,20,21,22,23,24,25,26,27,28,29,30,31,32,33,34,35,36,37,38,39,40,41,42,43,44,45,46] (fun i=>[(6,i64 i.1)])
  (fun i=>[(1,.ob (.row 28 (.arr 4 .one) (ffs (mulI N A B i.1))))]) 2 (fun i=>A.length - i.1) ⟨0,Nat.zero_le _⟩ ?_ ?_
 ·rw [Zg]
  refine Zc [(1,1)] rfl rfl rfl ?_ ?_
  ·simp -implicitDefEqProofs only [go_sem,Nat.reduceEqDiff,Nat.reduceLT,mulI]
  ·simp -implicitDefEqProofs only [go_sem]
 intro ⟨i,hi⟩ G hG
 simp -implicitDefEqProofs only [go_sem]
 have ml:=Zm8 N A B i
 refine Zi (fun h=>?_) (fun h=>?_)
 ·simp only [decide_eq_true_eq] at h
  have hii:i < A.length:=by omega
  have w3:IntKind.i64.wrap ((i:Int) + 1) = ((i + 1:Nat):Int):=by rw [wrs (by omega) (by omega)]; omega
  simp -implicitDefEqProofs only [go_sem,h,decide_true]
  refine Zv (ι:={ j:Nat // j ≤ B.length }) [4,7,20,21,22,23,24,25,26,27,28,29,30,31,32,33,34,35,36,37,38,39,40,41,42,43,44,45,46] (fun j=>[(7,i64 j.1)])
   (fun j=>[(1,.ob (.row 28 (.arr 4 .one) (ffs (mulJ (A.getD i 0) i B (mulI N A B i) j.1))))]) 2 (fun j=>B.length - j.1) ⟨0,Nat.zero_le _⟩ ?_ ?_
  ·rw [Zg]
   refine Zc [(1,1)] rfl rfl rfl ?_ ?_
   ·simp -implicitDefEqProofs only [go_sem,Nat.reduceLT,mulJ]
   ·simp -implicitDefEqProofs only [go_sem]
  intro ⟨j,hj⟩ G' hG'
  simp -implicitDefEqProofs only [go_sem]
  have mj:=Zm7 (A.getD i 0) i B (mulI N A B i) j
  refine Zi (fun h'=>?_) (fun h'=>?_)
  ·simp only [decide_eq_true_eq] at h'
   have hjj:j < B.length:=by omega
   have hij:i + j < (mulJ (A.getD i 0) i B (mulI N A B i) j).length:=by omega
   have hijN:((i + j:Nat):Int) < (N:Int):=by omega
   have w4:IntKind.i64.wrap ((i:Int) + (j:Int)) = ((i + j:Nat):Int):=by rw [wrs (by omega) (by omega)]; omega
   have w5:IntKind.i64.wrap ((j:Int) + 1) = ((j + 1:Nat):Int):=by rw [wrs (by omega) (by omega)]; omega
   simp -implicitDefEqProofs only [go_sem,Nat.reduceAdd,Nat.reduceMul,Nat.reduceLT,Zy hii,Zy hjj,h,h',w4,Zy hij,hijN]
   refine Zbh ?_
   simp -implicitDefEqProofs only [go_sem,Nat.reduceAdd,Nat.reduceMul,Nat.reduceLT]
   refine Zfy ?_
   simp -implicitDefEqProofs only [go_sem,Nat.reduceAdd,Nat.reduceMul,Zy hij,hijN,w5]
   refine hG' _ ⟨j + 1,by omega⟩ (by simp only; omega) ?_
   rw [Zg]
   refine Zc [(1,1)] rfl rfl rfl ?_ ?_
   ·simp -implicitDefEqProofs only [go_sem,Nat.reduceLT,mulJ]
   ·simp -implicitDefEqProofs only [go_sem]
  ·simp only [decide_eq_false_iff_not] at h'
   obtain rfl:j = B.length:=by omega
   clear hG'
   simp -implicitDefEqProofs only [go_sem,Nat.reduceEqDiff,Nat.reduceLT,w3]
   refine hG _ ⟨i + 1,by omega⟩ (by simp only; omega) ?_
   rw [Zg]
   refine Zc [(1,1)] rfl rfl rfl ?_ ?_
   ·simp -implicitDefEqProofs only [go_sem,Nat.reduceLT,mulI]
   ·simp -implicitDefEqProofs only [go_sem]
 simp only [decide_eq_false_iff_not] at h
 obtain rfl:i = A.length:=by omega
 clear hG
 have tk:(mulI N A B A.length).take N = mulI N A B A.length:=List.take_of_length_le (by omega)
 simp -implicitDefEqProofs only [go_sem,Nat.reduceLT,tk]
 refine Zbd (by omega) ?_
 simp -implicitDefEqProofs only [go_sem,Nat.reduceAdd,Nat.reduceEqDiff,Nat.reduceLeDiff]
 refine Zt [(2,0)] [.row 28 (.arr 4 .one) (ffs (cut (mulL N A B)))] [.osl 0 [] 0 (cut (mulL N A B)).length] rfl rfl ?_ ?_ hK
 ·simp -implicitDefEqProofs only [go_sem,Nat.reduceEqDiff,Nat.reduceLT,ob_eq,Ob.row.injEq]
  rfl
 ·simp -implicitDefEqProofs only [go_sem]
  rfl

theorem Z5e {k:Nat} (hk:k ≤ 9):binI .shl .i64 1 (k:Int) = .int .i64 ((2 ^ k:Nat):Int):=by
 have:k = 0 ∨ k = 1 ∨ k = 2 ∨ k = 3 ∨ k = 4 ∨ k = 5 ∨ k = 6 ∨ k = 7 ∨ k = 8 ∨ k = 9:=by omega
 rcases this with rfl | rfl | rfl | rfl | rfl | rfl | rfl | rfl | rfl | rfl <;> rfl

theorem Ztt {a:List F} {log:Nat} (ha:a.length ≤ 1000000) (hlog:log ≤ 9) (hK:∀ q e,(q,e) = van (2 ^ log) a→K (.tup [.osl 0 [] 0 q.length,i64 e]) [.row 28 (.arr 4 .one) (ffs q)]):PSpec prog 72 [.vsl false (.arr 4 .one) (ffs a),i64 log] [] K:=by
 have hn0:0 < 2 ^ log:=Nat.two_pow_pos _
 have hn9:2 ^ log ≤ 2 ^ 9:=Nat.pow_le_pow_right (by decide) hlog
 have la:=Zbr a
 have hshl:=Z5e hlog
 simp only [van] at hK
 refine Zrh ?_
 simp only [qzS,qzN,qzG,qzT,qzI,qzF,qzZ,Zgh]
 generalize hn:2 ^ log = n at *
 have hn512:n ≤ 512:=hn9
 refine Ziu (ι:={ k:Nat // k ≤ (cut a).length - n }) (fun k=>⟨[.any,.any,.any,.any,.any,.any,.osl 1 [] 0 (cut a).length,i64 n,.osl 2 [] 0 ((cut a).length - n),i64 (((cut a).length - n - k.1:Nat):Int),.any,.any,.any,.any,.any,.any,.any,.any,.any,.any,.any,.any,.any,.any,.any,.any,.any,.any,.any,.any,.any,.any,.any,.any,.any,.any,.any,.any,.any,.any,.any,.any,.any,.any,.any,.any,.any,.any,.any,.any,.any,.any,.any,.any,.any,.any,.any,.any,.any,.any,.any,.any,.any,.any,.any],
  osB [(1,.ob (.row 28 (.arr 4 .one) (ffs (vanS n ((cut a).length - n) (cut a) k.1).2))),(2,.ob (.row 28 (.arr 4 .one) (ffs (vanS n ((cut a).length - n) (cut a) k.1).1)))],3,0⟩) (fun k=>(cut a).length - n - k.1) ?_ ?_
 ·intro ⟨k,hk⟩ G hG
  simp -implicitDefEqProofs only [go_sem]
  dsimp only at hk hG
  generalize cut a = A at *
  obtain ⟨m,hm⟩:∃ m,A.length - n = m:=⟨_,rfl⟩
  rw [hm] at hk hG hK ⊢
  by_cases he:k = m
  ·subst he
   have h0:IntKind.i64.wrap (((k - k:Nat):Int) - 1) = -1:=by rw [Nat.sub_self]; rfl
   clear hG
   simp -implicitDefEqProofs only [go_sem,Nat.reduceEqDiff,Nat.reduceLT,Int.reduceNeg,Int.reduceGE,h0]
   have l1:=(Zhk n k A k).1
   have l2:=(Zhk n k A k).2
   generalize (vanS n k A k).1 = q at *
   generalize (vanS n k A k).2 = r at *
   have t1:q.take k = q:=by rw [← l1,List.take_length]
   have t2:r.take A.length = r:=by rw [← l2,List.take_length]
   simp -implicitDefEqProofs only [go_sem,Int.reduceNeg,t2]
   refine Ztv (by omega) ?_
   simp -implicitDefEqProofs only [go_sem,Int.reduceNeg]
   refine Zi (fun h=>?_) (fun h=>?_)
   ·simp only [decide_eq_true_eq] at h
    have hK:=hK [] 18 (by rw [if_neg (by omega)])
    simp -implicitDefEqProofs only [go_sem,Nat.reduceAdd,Nat.reduceEqDiff,Int.reduceNeg]
    refine Zt [(3,0)] [.row 28 (.arr 4 .one) []] [.osl 0 [] 0 0,i64 18] rfl rfl ?_ ?_ hK
    ·simp -implicitDefEqProofs only [go_sem,Nat.reduceEqDiff,Nat.reduceLT]
    ·simp -implicitDefEqProofs only [go_sem]
   ·simp only [decide_eq_false_iff_not] at h
    have hK:=hK (cut q) 0 (by rw [if_pos (by omega)])
    simp -implicitDefEqProofs only [go_sem,Nat.reduceEqDiff,Nat.reduceLT,Int.reduceNeg,t1]
    refine Zba (by omega) ?_
    simp -implicitDefEqProofs only [go_sem,Nat.reduceAdd,Nat.reduceEqDiff,Nat.reduceLeDiff,Int.reduceNeg]
    refine Zt [(3,0)] [.row 28 (.arr 4 .one) (ffs (cut q))] [.osl 0 [] 0 (cut q).length,i64 0] rfl rfl ?_ ?_ hK
    ·simp -implicitDefEqProofs only [go_sem,Nat.reduceEqDiff,Nat.reduceLT]
    ·simp -implicitDefEqProofs only [go_sem]
  ·clear hK
   obtain ⟨i,hi⟩:∃ i,m - (k + 1) = i:=⟨_,rfl⟩
   have hw:IntKind.i64.wrap (((m - k:Nat):Int) - 1) = (i:Int):=by rw [wrs (by omega) (by omega)]; omega
   have hge:decide ((i:Int) ≥ 0) = true:=by simp
   have w1:IntKind.i64.wrap ((i:Int) + (n:Int)) = ((i + n:Nat):Int):=by rw [wrs (by omega) (by omega)]; omega
   have l1:=(Zhk n m A k).1
   have l2:=(Zhk n m A k).2
   have hS:vanS n m A (k + 1) = ((vanS n m A k).1.set i ((vanS n m A k).2.getD (i + n) 0),((vanS n m A k).2.set i ((vanS n m A k).2.getD i 0 + (vanS n m A k).2.getD (i + n) 0)).set (i + n) 0):=by rw [← hi]; rfl
   have hS1:=congrArg Prod.fst hS
   have hS2:=congrArg Prod.snd hS
   dsimp only at hS1 hS2
   clear hS
   generalize (vanS n m A k).1 = q at *
   generalize (vanS n m A k).2 = r at *
   have hin:i + n < r.length:=by omega
   have hi2:i < r.length:=by omega
   have b1:((i + n:Nat):Int) < (A.length:Int):=by omega
   have b2:(i:Int) < (A.length:Int):=by omega
   have b3:(i:Int) < (m:Int):=by omega
   have hq:i < (q.set i (r.getD (i + n) 0)).length:=by rw [List.length_set]; omega
   have hqg:(q.set i (r.getD (i + n) 0)).getD i 0 = r.getD (i + n) 0:=Zt3 (by omega)
   simp -implicitDefEqProofs only [go_sem,Nat.reduceAdd,Nat.reduceMul,Nat.reduceEqDiff,Nat.reduceLT,hw,w1,Zy hin,Zy hi2,b1,b2,b3,Zy hq,hqg,Zq]
   refine Zbm ?_
   simp -implicitDefEqProofs only [go_sem,Nat.reduceAdd,Nat.reduceMul,Nat.reduceEqDiff,Zy hi2,b1,b2]
   refine hG _ ⟨k + 1,by omega⟩ (by simp only; omega) ?_
   refine Zc [(1,1),(2,2)] rfl rfl rfl ?_ ?_
   ·simp -implicitDefEqProofs only [go_sem,Nat.reduceEqDiff,Nat.reduceLT,hS1,hS2]
   ·simp -implicitDefEqProofs only [go_sem,Nat.reduceEqDiff,hi]
 ·intro G hG
  have w0:IntKind.u64.wrap (log:Int) = (log:Int):=wru (by omega) (by omega)
  have h1:¬ ((log:Int) < 0):=by omega
  have h2:¬ ((log:Int) > 9):=by omega
  simp -implicitDefEqProofs only [go_sem,Nat.reduceAdd,Nat.reduceSub,Nat.reduceLT,h1,h2]
  refine Zba (by omega) ?_
  generalize cut a = A at *
  have w2:IntKind.i64.wrap ((A.length:Int) - (n:Int)) = (A.length:Int) - (n:Int):=wrs (by omega) (by omega)
  have hmx:(if (0:Int) > (A.length:Int) - (n:Int) then 0 else (A.length:Int) - (n:Int)) = ((A.length - n:Nat):Int):=by split <;> omega
  simp -implicitDefEqProofs only [go_sem,Nat.reduceAdd,Nat.reduceEqDiff,Nat.reduceLeDiff,w0,↓hshl,w2,hmx,Zq]
  repeat (with_reducible refine And.intro (by first | omega | decide) ?_)
  refine Zve _ ?_ (Zqj (hG ⟨0,Nat.zero_le _⟩))
  refine Zc [(1,1),(2,2)] rfl rfl rfl ?_ ?_
  ·simp -implicitDefEqProofs only [go_sem,Nat.reduceEqDiff,Nat.reduceLT,vanS]
  ·simp -implicitDefEqProofs only [go_sem,Nat.reduceEqDiff]
end Go.Proofs.Tryz.PMT
