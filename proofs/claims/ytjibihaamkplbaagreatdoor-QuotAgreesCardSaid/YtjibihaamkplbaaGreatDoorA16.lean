/- Contracts of intaglioref12.Cut, At, Divide. No conditions beyond what each names. -/
import Derived.Test.YtjibihaamkplbaaGreatDoorA15
import Derived.Test.YtjibihaamkplbaaGreatDoorA0
import Derived.Test.YtjibihaamkplbaaGreatDoorA13
import Derived.Test.YtjibihaamkplbaaGreatDoorA11
set_option linter.all false
namespace Go.Proofs.Tryz.PMT
open Go Go.Proofs.PM Go.Proofs.PL Go.Proofs.Tryz
variable {K:PV→List Ob→Prop}
set_option maxRecDepth 4000

theorem Zl4 {l:List F} (hl:l.length ≤ 4398046511104) (hK:K (.osl 0 [] 0 (cut l).length) [.row 28 (.arr 4 .one) (ffs (cut l))]):PSpec prog 65 [.vsl false (.arr 4 .one) (ffs l)] [] K:=by
 refine Zkd ?_
 simp only [qzS,qzN,qzG,qzT,qzI,qzF,qzZ,Zdn]
 simp -implicitDefEqProofs only [go_sem,Nat.reduceSub]
 refine Zv (ι:={ n:Nat // n ≤ l.length ∧ top l n = top l l.length }) [3,6,7,8,9,10,11,12,13,14,15,16,17,18] (fun n=>[(3,i64 n.1)]) (fun _=>[(0,.ob (.row 28 (.arr 4 .one) []))]) 1 (fun n=>n.1) ⟨l.length,Nat.le_refl _,rfl⟩ ?_ ?_
 ·rw [Zg]
  refine Ze [(0,0)] rfl rfl rfl ?_ ?_
  ·simp -implicitDefEqProofs only [go_sem,Nat.reduceLT]
  ·simp -implicitDefEqProofs only [go_sem]
 ·intro ⟨n,hn,ht⟩ G hG
  dsimp only at hG
  rcases n with _ | k
  ·have htop:top l 0 = 0:=rfl
   have hcut:cut l = l.take 0:=by rw [cut,← ht,htop]
   have hc:(l.take 0).length = 0:=by rw [List.length_take]; omega
   simp -implicitDefEqProofs only [go_sem,Nat.reduceAdd,Nat.reduceMul,Nat.reduceEqDiff,Int.reduceLE,Int.reduceGT,hc]
   repeat (with_reducible refine And.intro (by first | omega | decide) ?_)
   rw [hcut,hc] at hK
   refine Z0 [(2,0)] [.row 28 (.arr 4 .one) (ffs (l.take 0))] [.osl 0 [] 0 0] rfl rfl ?_ ?_ hK
   ·simp -implicitDefEqProofs only [go_sem,Nat.reduceEqDiff,Nat.reduceLT]
   ·simp -implicitDefEqProofs only [go_sem]
  ·have hw:IntKind.i64.wrap (((k + 1:Nat):Int) - 1) = (k:Int):=by rw [wrs (by omega) (by omega)]; omega
   have hk:((k:Int) < (l.length:Int)):=by omega
   simp -implicitDefEqProofs only [go_sem,Z4n,hw,Zr,Z7 (show k < l.length by omega),hk]
   refine Zj (fun h=>?_) (fun h=>?_)
   ·simp only [decide_eq_true_eq] at h
    simp -implicitDefEqProofs only [go_sem,hw]
    refine hG _ ⟨k,by omega,by rw [← ht,top,if_pos h]⟩ (by simp only; omega) ?_
    rw [Zg]
    refine Ze [(0,0)] rfl rfl rfl ?_ ?_
    ·simp -implicitDefEqProofs only [go_sem,Nat.reduceLT]
    ·simp -implicitDefEqProofs only [go_sem]
   ·simp only [decide_eq_false_iff_not] at h
    have htop:top l (k + 1) = k + 1:=by rw [top,if_neg h]
    have hcut:cut l = l.take (k + 1):=by rw [cut,← ht,htop]
    have hc:(l.take (k + 1)).length = k + 1:=by rw [List.length_take]; omega
    simp -implicitDefEqProofs only [go_sem,Nat.reduceAdd,Nat.reduceEqDiff,Nat.reduceLeDiff,Int.reduceLE,hc]
    repeat (with_reducible refine And.intro (by first | omega | decide) ?_)
    rw [hcut,hc] at hK
    refine Z0 [(2,0)] [.row 28 (.arr 4 .one) (ffs (l.take (k + 1)))] [.osl 0 [] 0 (k + 1)] rfl rfl ?_ ?_ hK
    ·simp -implicitDefEqProofs only [go_sem,Nat.reduceEqDiff,Nat.reduceLT]
    ·simp -implicitDefEqProofs only [go_sem]

theorem Zbd {l:List F} {x:F} (hl:l.length ≤ 4398046511104) (hK:K (ff (hor x l)) []):PSpec prog 16 [.vsl false (.arr 4 .one) (ffs l),ff x] [] K:=by
 refine Zk3 ?_
 simp only [qzS,qzN,qzG,qzT,qzI,qzF,qzZ,Zd8]
 have hw:IntKind.i64.wrap ((l.length:Int) - 1) = (l.length:Int) - 1:=wrs (by omega) (by omega)
 simp -implicitDefEqProofs only [go_sem,Nat.reduceAdd,Nat.reduceSub,Nat.reduceEqDiff,Zr,hw]
 refine Zv (ι:={ i:Nat // i ≤ l.length }) [6,10,11,12,13,14,15,16,17,18,19,20,21] (fun i=>[(6,i64 ((i.1:Int) - 1))])
  (fun i=>[(0,.ob (.var (.arr 4 .one) (ff x))),(1,.ob (.var (.arr 4 .one) (ff 0))),(2,.ob (.var (.arr 4 .one) (ff (hor x (l.drop i.1)))))]) 3 (fun i=>i.1) ⟨l.length,Nat.le_refl _⟩ ?_ ?_
 ·rw [Zg]
  refine Ze [(0,0),(1,1),(2,2)] rfl rfl rfl ?_ ?_
  ·simp -implicitDefEqProofs only [go_sem,Nat.reduceEqDiff,Nat.reduceLT,Z7f x l _ (Nat.le_refl _)]
  ·simp -implicitDefEqProofs only [go_sem,Nat.reduceEqDiff]
 intro ⟨i,hi⟩ G hG
 dsimp only at hi hG
 rcases i with _ | k
 ·simp -implicitDefEqProofs only [go_sem,Nat.reduceEqDiff,Int.reduceSub,Int.reduceNeg,Int.reduceGE]
  refine Zb rfl ?_
  simp only [Zcd]
  exact hK
 ·have h1:((k + 1:Nat):Int) - 1 = (k:Int):=by omega
  have h2:IntKind.i64.wrap ((k:Int) - 1) = (k:Int) - 1:=wrs (by omega) (by omega)
  have hge:decide ((k:Int) ≥ 0) = true:=by simp
  have hk:k < l.length:=by omega
  have hk2:(k:Int) < (l.length:Int):=by omega
  have hd:=Z2z x l k hk
  simp -implicitDefEqProofs only [go_sem,Nat.reduceAdd,Nat.reduceMul,Nat.reduceEqDiff,Nat.reduceLT,h1,Z7 hk,hk2]
  refine Zbx ?_
  simp -implicitDefEqProofs only [go_sem,Nat.reduceAdd,Nat.reduceMul,Nat.reduceLT]
  refine Zfj ?_
  simp -implicitDefEqProofs only [go_sem,Nat.reduceAdd,Nat.reduceMul,Nat.reduceEqDiff,h2]
  refine hG _ ⟨k,by omega⟩ (by simp only; omega) ?_
  rw [Zg]
  refine Ze [(0,0),(1,1),(2,2)] rfl rfl rfl ?_ ?_
  ·simp -implicitDefEqProofs only [go_sem,Nat.reduceEqDiff,Nat.reduceLT,ob_eq,Ob.var.injEq]
   rw [hd]
   exact congrArg ff (by grind)
  ·simp -implicitDefEqProofs only [go_sem,Nat.reduceEqDiff]

end Go.Proofs.Tryz.PMT

namespace Go.Proofs.Tryz.PMT
open Go Go.Proofs.PM Go.Proofs.PL Go.Proofs.Tryz
variable {K:PV→List Ob→Prop}
set_option maxRecDepth 4000

theorem Zph {n:Nat} (h0:0 < n) (hn:n ≤ 1000000) (hK:K (.osl 0 [] 0 (n + 1)) [.row 28 (.arr 4 .one) (ffs (vnl n))]):PSpec prog 21 [i64 n] [] K:=by
 obtain ⟨N,hN⟩:∃ N,N = n + 1:=⟨_,rfl⟩
 rw [vnl,← hN] at hK
 refine Zfs ?_
 simp only [qzS,qzN,qzG,qzT,qzI,qzF,qzZ,Zbv]
 have w1:IntKind.i64.wrap ((n:Int) + 1) = (N:Int):=by rw [wrs (by omega) (by omega)]; omega
 have h1:(0:Int) < (N:Int):=by omega
 have h2:(n:Int) < (N:Int):=by omega
 simp -implicitDefEqProofs only [go_sem,Nat.reduceAdd,Nat.reduceSub,Nat.reduceEqDiff,Nat.reduceLT,w1,Zr]
 repeat (with_reducible refine And.intro (by first | omega | decide) ?_)
 refine Zbq (Zs rfl) ?_
 simp -implicitDefEqProofs only [go_sem,Nat.reduceLT,Zfd]
 refine Zjj ?_
 simp -implicitDefEqProofs only [go_sem,Nat.reduceLT]
 refine Zbq (Zs rfl) ?_
 simp -implicitDefEqProofs only [go_sem,Nat.reduceEqDiff,Int.reduceLE,Zfd,h1,h2]
 repeat (with_reducible refine And.intro (by first | omega | decide) ?_)
 refine Z0 [(1,0)] [.row 28 (.arr 4 .one) (ffs (((List.replicate N (0:F)).set 0 (0 - 1)).set n 1))] [.osl 0 [] 0 N] rfl rfl ?_ ?_ hK
 ·simp -implicitDefEqProofs only [go_sem,Nat.reduceEqDiff,Nat.reduceLT]
 ·simp -implicitDefEqProofs only [go_sem]

theorem Z0d {A B:List F} (ha:A.length ≤ 1000000) (hb:B.length ≤ 1000000) (hK:K (.osl 0 [] 0 (cut (mulL (A.length + B.length) A B)).length) [.row 28 (.arr 4 .one) (ffs (cut (mulL (A.length + B.length) A B)))]):PSpec prog 18 [.vsl false (.arr 4 .one) (ffs A),.vsl false (.arr 4 .one) (ffs B)] [] K:=by
 refine Zkb ?_
 simp only [qzS,qzN,qzG,qzT,qzI,qzF,qzZ,Zdl]
 have w1:IntKind.i64.wrap ((A.length:Int) + (B.length:Int)) = ((A.length + B.length:Nat):Int):=by rw [wrs (by omega) (by omega)]; omega
 simp -implicitDefEqProofs only [go_sem,Nat.reduceAdd,Nat.reduceSub,Nat.reduceEqDiff,w1,Zr]
 repeat (with_reducible refine And.intro (by first | omega | decide) ?_)
 generalize hN:A.length + B.length = N at *
 refine Zv (ι:={ i:Nat // i ≤ A.length }) [4,6,7,14,15,16,17,18,19,20,21,22,23,24,25,26,27,28,29,30,31,32,33,34,35,36,37,38,39,40,41,42,43,44,45,46] (fun i=>[(6,i64 i.1)])
  (fun i=>[(1,.ob (.row 28 (.arr 4 .one) (ffs (mulI N A B i.1))))]) 2 (fun i=>A.length - i.1) ⟨0,Nat.zero_le _⟩ ?_ ?_
 ·rw [Zg]
  refine Ze [(1,1)] rfl rfl rfl ?_ ?_
  ·simp -implicitDefEqProofs only [go_sem,Nat.reduceEqDiff,Nat.reduceLT,mulI]
  ·simp -implicitDefEqProofs only [go_sem]
 intro ⟨i,hi⟩ G hG
 simp -implicitDefEqProofs only [go_sem]
 have ml:=Zl1 N A B i
 refine Zj (fun h=>?_) (fun h=>?_)
 ·simp only [decide_eq_true_eq] at h
  have hii:i < A.length:=by omega
  have w3:IntKind.i64.wrap ((i:Int) + 1) = ((i + 1:Nat):Int):=by rw [wrs (by omega) (by omega)]; omega
  simp -implicitDefEqProofs only [go_sem,h,decide_true]
  refine Zv (ι:={ j:Nat // j ≤ B.length }) [4,7,20,21,22,23,24,25,26,27,28,29,30,31,32,33,34,35,36,37,38,39,40,41,42,43,44,45,46] (fun j=>[(7,i64 j.1)])
   (fun j=>[(1,.ob (.row 28 (.arr 4 .one) (ffs (mulJ (A.getD i 0) i B (mulI N A B i) j.1))))]) 2 (fun j=>B.length - j.1) ⟨0,Nat.zero_le _⟩ ?_ ?_
  ·rw [Zg]
   refine Ze [(1,1)] rfl rfl rfl ?_ ?_
   ·simp -implicitDefEqProofs only [go_sem,Nat.reduceLT,mulJ]
   ·simp -implicitDefEqProofs only [go_sem]
  intro ⟨j,hj⟩ G' hG'
  simp -implicitDefEqProofs only [go_sem]
  have mj:=Zl0 (A.getD i 0) i B (mulI N A B i) j
  refine Zj (fun h'=>?_) (fun h'=>?_)
  ·simp only [decide_eq_true_eq] at h'
   have hjj:j < B.length:=by omega
   have hij:i + j < (mulJ (A.getD i 0) i B (mulI N A B i) j).length:=by omega
   have hijN:((i + j:Nat):Int) < (N:Int):=by omega
   have w4:IntKind.i64.wrap ((i:Int) + (j:Int)) = ((i + j:Nat):Int):=by rw [wrs (by omega) (by omega)]; omega
   have w5:IntKind.i64.wrap ((j:Int) + 1) = ((j + 1:Nat):Int):=by rw [wrs (by omega) (by omega)]; omega
   simp -implicitDefEqProofs only [go_sem,Nat.reduceAdd,Nat.reduceMul,Nat.reduceLT,Z7 hii,Z7 hjj,h,h',w4,Z7 hij,hijN]
   refine Zbx ?_
   simp -implicitDefEqProofs only [go_sem,Nat.reduceAdd,Nat.reduceMul,Nat.reduceLT]
   refine Zfj ?_
   simp -implicitDefEqProofs only [go_sem,Nat.reduceAdd,Nat.reduceMul,Z7 hij,hijN,w5]
   refine hG' _ ⟨j + 1,by omega⟩ (by simp only; omega) ?_
   rw [Zg]
   refine Ze [(1,1)] rfl rfl rfl ?_ ?_
   ·simp -implicitDefEqProofs only [go_sem,Nat.reduceLT,mulJ]
   ·simp -implicitDefEqProofs only [go_sem]
  ·simp only [decide_eq_false_iff_not] at h'
   obtain rfl:j = B.length:=by omega
   clear hG'
   simp -implicitDefEqProofs only [go_sem,Nat.reduceEqDiff,Nat.reduceLT,w3]
   refine hG _ ⟨i + 1,by omega⟩ (by simp only; omega) ?_
   rw [Zg]
   refine Ze [(1,1)] rfl rfl rfl ?_ ?_
   ·simp -implicitDefEqProofs only [go_sem,Nat.reduceLT,mulI]
   ·simp -implicitDefEqProofs only [go_sem]
 simp only [decide_eq_false_iff_not] at h
 obtain rfl:i = A.length:=by omega
 clear hG
 have tk:(mulI N A B A.length).take N = mulI N A B A.length:=List.take_of_length_le (by omega)
 simp -implicitDefEqProofs only [go_sem,Nat.reduceLT,tk]
 refine Zl4 (by omega) ?_
 simp -implicitDefEqProofs only [go_sem,Nat.reduceAdd,Nat.reduceEqDiff,Nat.reduceLeDiff]
 refine Z0 [(2,0)] [.row 28 (.arr 4 .one) (ffs (cut (mulL N A B)))] [.osl 0 [] 0 (cut (mulL N A B)).length] rfl rfl ?_ ?_ hK
 ·simp -implicitDefEqProofs only [go_sem,Nat.reduceEqDiff,Nat.reduceLT,ob_eq,Ob.row.injEq]
  rfl
 ·simp -implicitDefEqProofs only [go_sem]
  rfl

end Go.Proofs.Tryz.PMT

namespace Go.Proofs.Tryz.PMT
open Go Go.Proofs.PM Go.Proofs.PL Go.Proofs.Tryz
variable {K:PV→List Ob→Prop}
set_option maxRecDepth 4000

theorem Zl5 {l:List F} {i:Nat} (hl:l.length ≤ 4398046511104) (hK:K (ff (l.getD i 0)) []):PSpec prog 118 [.vsl false (.arr 4 .one) (ffs l),i64 i] [] K:=by
 refine Zxo ?_
 simp only [qzS,qzN,qzG,qzT,qzI,qzF,qzZ,Zmn]
 simp -implicitDefEqProofs only [go_sem,Nat.reduceAdd,Nat.reduceSub]
 refine Zj (fun h=>?_) (fun h=>?_)
 ·simp only [decide_eq_true_eq] at h
  have hi:i < l.length:=by omega
  simp -implicitDefEqProofs only [go_sem,h,Z7 hi]
  exact Zb rfl hK
 ·simp only [decide_eq_false_iff_not] at h
  rw [Zdr (by omega)] at hK
  simp -implicitDefEqProofs only [go_sem,Zr]
  exact Zb rfl hK

@[go_sem] theorem Z3f {ρ:Nat→Option Nat} {fr:Bool} {os:Nat→Option Ob} {k:F}:cnv ρ fr os 3 (.vp false (ff k)) = .vp false (ff k):=by
 have h:cnvW ρ fr os (cnv ρ fr os 2) (ff k) = ff k:=@cnv_ff ρ fr os 3 k
 show cnvW ρ fr os (cnv ρ fr os 2) (.vp false (ff k)) = _
 rw [cnvW,h]; rfl
@[go_sem] theorem cnv_fnff {ρ:Nat→Option Nat} {fr:Bool} {os:Nat→Option Ob} {f:FuncId} {k:F}:cnv ρ fr os 3 (.fn f [.vp false (ff k)]) = .fn f [.vp false (ff k)]:=by
 have h:cnvW ρ fr os (cnv ρ fr os 2) (.vp false (ff k)) = .vp false (ff k):=@Z3f ρ fr os k
 show cnvW ρ fr os (cnv ρ fr os 2) (.fn f [.vp false (ff k)]) = _
 rw [cnvW,cnvL,cnvL,h]
@[go_sem] theorem leaf_vpff {k:F}:(PV.vp false (ff k)).leaf = true:=rfl

theorem Znh {a b:List F} {g:F→F→F} {f:FuncId} (ha:a.length ≤ 1000000) (hb:b.length ≤ 1000000)
  (hf:∀ (x y:F) (K:PV→List Ob→Prop),K (ff (g x y)) []→PSpec prog f [ff x,ff y] [] K)
  (hK:K (.osl 0 [] 0 (cut (bth g a b)).length) [.row 28 (.arr 4 .one) (ffs (cut (bth g a b)))]):PSpec prog 98 [.vsl false (.arr 4 .one) (ffs a),.vsl false (.arr 4 .one) (ffs b),.fn f []] [] K:=by
 refine Zna ?_
 simp only [qzS,qzN,qzG,qzT,qzI,qzF,qzZ,Zfy]
 rw [bth] at hK
 obtain ⟨N,hN⟩:∃ N,max a.length b.length = N:=⟨_,rfl⟩
 rw [hN] at hK
 have hx:(if (b.length:Int) > (a.length:Int) then (b.length:Int) else (a.length:Int)) = (N:Int):=by
  rw [← hN]
  by_cases h:(b.length:Int) > (a.length:Int)
  ·rw [if_pos h,Nat.max_eq_right (by omega)]
  ·rw [if_neg h,Nat.max_eq_left (by omega)]
 have hN2:N ≤ 1000000:=by omega
 obtain ⟨r,hr⟩:∃ r:Nat→F,(fun i=>g (a.getD i 0) (b.getD i 0)) = r:=⟨_,rfl⟩
 rw [hr] at hK
 have hri:∀ i,g (a.getD i 0) (b.getD i 0) = r i:=fun i=>by rw [← hr]
 simp -implicitDefEqProofs only [go_sem,Nat.reduceAdd,Nat.reduceSub,Nat.reduceEqDiff,hx,Zr]
 repeat (with_reducible refine And.intro (by first | omega | decide) ?_)
 refine Zv (ι:={ i:Nat // i ≤ N }) [6,8,17,18,19,20,21,22,23,24,25,26,27,28,29,30,31] (fun i=>[(17,i64 i.1)])
  (fun i=>[(1,.ob (.row 28 (.arr 4 .one) (ffs (fil N r i.1))))]) 2 (fun i=>N - i.1) ⟨0,Nat.zero_le _⟩ ?_ ?_
 ·rw [Zg]
  refine Ze [(1,1)] rfl rfl rfl ?_ ?_
  ·simp -implicitDefEqProofs only [go_sem,Nat.reduceEqDiff,Nat.reduceLT,fil]
  ·simp -implicitDefEqProofs only [go_sem]
 intro ⟨i,hi⟩ G hG
 have fl:=Zm0 N r i
 simp -implicitDefEqProofs only [go_sem]
 refine Zj (fun h=>?_) (fun h=>?_)
 ·simp only [decide_eq_true_eq] at h
  have w3:IntKind.i64.wrap ((i:Int) + 1) = ((i + 1:Nat):Int):=by rw [wrs (by omega) (by omega)]; omega
  simp -implicitDefEqProofs only [go_sem,Nat.reduceLT,h]
  refine Zl5 (by omega) ?_
  simp -implicitDefEqProofs only [go_sem,Nat.reduceLT]
  refine Zl5 (by omega) ?_
  simp -implicitDefEqProofs only [go_sem]
  repeat (with_reducible refine And.intro (by first | omega | decide) ?_)
  refine hf _ _ _ ?_
  simp -implicitDefEqProofs only [go_sem,h,w3]
  refine hG _ ⟨i + 1,by omega⟩ (by simp only; omega) ?_
  rw [Zg]
  refine Ze [(1,1)] rfl rfl rfl ?_ ?_
  ·simp -implicitDefEqProofs only [go_sem,Nat.reduceLT,fil,hri]
  ·simp -implicitDefEqProofs only [go_sem]
 simp only [decide_eq_false_iff_not] at h
 obtain rfl:i = N:=by omega
 clear hG
 rw [← Zvn] at hK
 have tk:(fil i r i).take i = fil i r i:=List.take_of_length_le (by omega)
 simp -implicitDefEqProofs only [go_sem,Nat.reduceLT,tk]
 refine Zba (by omega) ?_
 simp -implicitDefEqProofs only [go_sem,Nat.reduceAdd,Nat.reduceEqDiff,Nat.reduceLeDiff]
 refine Z0 [(2,0)] [.row 28 (.arr 4 .one) (ffs (cut (fil i r i)))] [.osl 0 [] 0 (cut (fil i r i)).length] rfl rfl ?_ ?_ hK
 ·simp -implicitDefEqProofs only [go_sem,Nat.reduceEqDiff,Nat.reduceLT]
 ·simp -implicitDefEqProofs only [go_sem]

theorem Ztx {a b:List F} {g:F→F→F} {f:FuncId} {k:F} (ha:a.length ≤ 1000000) (hb:b.length ≤ 1000000)
  (hf:∀ (x y:F) (K:PV→List Ob→Prop),K (ff (g x y)) []→PSpec prog f [ff x,ff y,.vp false (ff k)] [] K)
  (hK:K (.osl 0 [] 0 (cut (bth g a b)).length) [.row 28 (.arr 4 .one) (ffs (cut (bth g a b)))]):PSpec prog 98 [.vsl false (.arr 4 .one) (ffs a),.vsl false (.arr 4 .one) (ffs b),.fn f [.vp false (ff k)]] [] K:=by
 refine Zna ?_
 simp only [qzS,qzN,qzG,qzT,qzI,qzF,qzZ,Zfy]
 rw [bth] at hK
 obtain ⟨N,hN⟩:∃ N,max a.length b.length = N:=⟨_,rfl⟩
 rw [hN] at hK
 have hx:(if (b.length:Int) > (a.length:Int) then (b.length:Int) else (a.length:Int)) = (N:Int):=by
  rw [← hN]
  by_cases h:(b.length:Int) > (a.length:Int)
  ·rw [if_pos h,Nat.max_eq_right (by omega)]
  ·rw [if_neg h,Nat.max_eq_left (by omega)]
 have hN2:N ≤ 1000000:=by omega
 obtain ⟨r,hr⟩:∃ r:Nat→F,(fun i=>g (a.getD i 0) (b.getD i 0)) = r:=⟨_,rfl⟩
 rw [hr] at hK
 have hri:∀ i,g (a.getD i 0) (b.getD i 0) = r i:=fun i=>by rw [← hr]
 simp -implicitDefEqProofs only [go_sem,Nat.reduceAdd,Nat.reduceSub,Nat.reduceEqDiff,hx,Zr]
 repeat (with_reducible refine And.intro (by first | omega | decide) ?_)
 refine Zv (ι:={ i:Nat // i ≤ N }) [6,8,17,18,19,20,21,22,23,24,25,26,27,28,29,30,31] (fun i=>[(17,i64 i.1)])
  (fun i=>[(1,.ob (.row 28 (.arr 4 .one) (ffs (fil N r i.1))))]) 2 (fun i=>N - i.1) ⟨0,Nat.zero_le _⟩ ?_ ?_
 ·rw [Zg]
  refine Ze [(1,1)] rfl rfl rfl ?_ ?_
  ·simp -implicitDefEqProofs only [go_sem,Nat.reduceEqDiff,Nat.reduceLT,fil]
  ·simp -implicitDefEqProofs only [go_sem]
 intro ⟨i,hi⟩ G hG
 have fl:=Zm0 N r i
 simp -implicitDefEqProofs only [go_sem]
 refine Zj (fun h=>?_) (fun h=>?_)
 ·simp only [decide_eq_true_eq] at h
  have w3:IntKind.i64.wrap ((i:Int) + 1) = ((i + 1:Nat):Int):=by rw [wrs (by omega) (by omega)]; omega
  simp -implicitDefEqProofs only [go_sem,Nat.reduceLT,h]
  refine Zl5 (by omega) ?_
  simp -implicitDefEqProofs only [go_sem,Nat.reduceLT]
  refine Zl5 (by omega) ?_
  simp -implicitDefEqProofs only [go_sem]
  repeat (with_reducible refine And.intro (by first | omega | decide) ?_)
  refine hf _ _ _ ?_
  simp -implicitDefEqProofs only [go_sem,h,w3]
  refine hG _ ⟨i + 1,by omega⟩ (by simp only; omega) ?_
  rw [Zg]
  refine Ze [(1,1)] rfl rfl rfl ?_ ?_
  ·simp -implicitDefEqProofs only [go_sem,Nat.reduceLT,fil,hri]
  ·simp -implicitDefEqProofs only [go_sem]
 simp only [decide_eq_false_iff_not] at h
 obtain rfl:i = N:=by omega
 clear hG
 rw [← Zvn] at hK
 have tk:(fil i r i).take i = fil i r i:=List.take_of_length_le (by omega)
 simp -implicitDefEqProofs only [go_sem,Nat.reduceLT,tk]
 refine Zba (by omega) ?_
 simp -implicitDefEqProofs only [go_sem,Nat.reduceAdd,Nat.reduceEqDiff,Nat.reduceLeDiff]
 refine Z0 [(2,0)] [.row 28 (.arr 4 .one) (ffs (cut (fil i r i)))] [.osl 0 [] 0 (cut (fil i r i)).length] rfl rfl ?_ ?_ hK
 ·simp -implicitDefEqProofs only [go_sem,Nat.reduceEqDiff,Nat.reduceLT]
 ·simp -implicitDefEqProofs only [go_sem]

theorem Zq2 {a b:List F} (ha:a.length ≤ 1000000) (hb:b.length ≤ 1000000) (hK:K (.osl 0 [] 0 (cut (bth (fun x y=>x + y) a b)).length) [.row 28 (.arr 4 .one) (ffs (cut (bth (fun x y=>x + y) a b)))]):PSpec prog 97 [.vsl false (.arr 4 .one) (ffs a),.vsl false (.arr 4 .one) (ffs b)] [] K:=by
 refine Zur ?_
 simp only [qzS,qzN,qzG,qzT,qzI,qzF,qzZ,Zle]
 simp -implicitDefEqProofs only [go_sem,Nat.reduceAdd,Nat.reduceSub,Nat.reduceLT]
 refine Znh (g:=fun x y=>x + y) ha hb (fun x y K h=>Zbo h) ?_
 generalize cut (bth (fun x y=>x + y) a b) = R at *
 simp -implicitDefEqProofs only [go_sem,Nat.reduceAdd,Nat.reduceEqDiff,Nat.reduceLeDiff]
 refine Z0 [(1,0)] [.row 28 (.arr 4 .one) (ffs R)] [.osl 0 [] 0 R.length] rfl rfl ?_ ?_ hK
 ·simp -implicitDefEqProofs only [go_sem,Nat.reduceEqDiff,Nat.reduceLT]
 ·simp -implicitDefEqProofs only [go_sem]

theorem Zx5 {a b:List F} (ha:a.length ≤ 1000000) (hb:b.length ≤ 1000000) (hK:K (.osl 0 [] 0 (cut (bth (fun x y=>x - y) a b)).length) [.row 28 (.arr 4 .one) (ffs (cut (bth (fun x y=>x - y) a b)))]):PSpec prog 56 [.vsl false (.arr 4 .one) (ffs a),.vsl false (.arr 4 .one) (ffs b)] [] K:=by
 refine Zuo ?_
 simp only [qzS,qzN,qzG,qzT,qzI,qzF,qzZ,Zla]
 simp -implicitDefEqProofs only [go_sem,Nat.reduceAdd,Nat.reduceSub,Nat.reduceLT]
 refine Znh (g:=fun x y=>x - y) ha hb (fun x y K h=>Zey h) ?_
 generalize cut (bth (fun x y=>x - y) a b) = R at *
 simp -implicitDefEqProofs only [go_sem,Nat.reduceAdd,Nat.reduceEqDiff,Nat.reduceLeDiff]
 refine Z0 [(1,0)] [.row 28 (.arr 4 .one) (ffs R)] [.osl 0 [] 0 R.length] rfl rfl ?_ ?_ hK
 ·simp -implicitDefEqProofs only [go_sem,Nat.reduceEqDiff,Nat.reduceLT]
 ·simp -implicitDefEqProofs only [go_sem]

theorem Zsb {x y k:F} (hK:K (ff (x * k)) []):PSpec prog 99 [ff x,ff y,.vp false (ff k)] [] K:=by
 refine Znq ?_
 simp only [qzS,qzN,qzG,qzT,qzI,qzF,qzZ,Ze6]
 simp -implicitDefEqProofs only [go_sem,Nat.reduceAdd,Nat.reduceSub,Nat.reduceEqDiff,Nat.reduceLT]
 refine Zz ?_
 simp -implicitDefEqProofs only [go_sem,Nat.reduceEqDiff]
 exact Zb rfl hK

theorem Ztz {a:List F} {k:F} (ha:a.length ≤ 1000000) (hK:K (.osl 0 [] 0 (cut (bth (fun x _=>x * k) a [])).length) [.row 28 (.arr 4 .one) (ffs (cut (bth (fun x _=>x * k) a [])))]):PSpec prog 53 [.vsl false (.arr 4 .one) (ffs a),ff k] [] K:=by
 refine Zrl ?_
 simp only [qzS,qzN,qzG,qzT,qzI,qzF,qzZ,Zg5]
 simp -implicitDefEqProofs only [go_sem,Nat.reduceAdd,Nat.reduceSub,Nat.reduceEqDiff,Nat.reduceLT]
 refine Ztx (b:=[]) (g:=fun x _=>x * k) ha (by simp) (fun x y K h=>Zsb h) ?_
 generalize cut (bth (fun x _=>x * k) a []) = R at *
 simp -implicitDefEqProofs only [go_sem,Nat.reduceAdd,Nat.reduceEqDiff,Nat.reduceLeDiff]
 refine Z0 [(2,0)] [.row 28 (.arr 4 .one) (ffs R)] [.osl 0 [] 0 R.length] rfl rfl ?_ ?_ hK
 ·simp -implicitDefEqProofs only [go_sem,Nat.reduceEqDiff,Nat.reduceLT]
 ·simp -implicitDefEqProofs only [go_sem]
end Go.Proofs.Tryz.PMT

namespace Go.Proofs.PL
def addl:List F→List F→List F
 | [],m=>m
 | x :: l,[]=>x :: l
 | x :: l,y :: m=>(x + y) :: addl l m
theorem Znk (x:F):x + 0 = x:=by grind
theorem Zh7 (x:F):0 + x = x:=by grind
theorem Znj (x:F):x * 0 = 0:=by grind
theorem Zgr (x:F):0 * x = 0:=by grind
theorem Zh3:∀ (l m:List F) (k:Nat),(addl l m).getD k 0 = l.getD k 0 + m.getD k 0
 | [],m,k=>by simp only [addl,List.getD_nil]; rw [Zh7]
 | x :: l,[],k=>by simp only [addl,List.getD_nil]; rw [Znk]
 | x :: l,y :: m,0=>by simp only [addl,List.getD_cons_zero]
 | x :: l,y :: m,k + 1=>by simp only [addl,List.getD_cons_succ]; exact Zh3 l m k
theorem Zdx (z x:F) (l:List F):hor z (x :: l) = x + hor z l * z:=rfl
theorem Zob (z:F):∀ l m:List F,hor z (addl l m) = hor z l + hor z m
 | [],m=>by simp only [addl]; exact (Zh7 _).symm
 | x :: l,[]=>by simp only [addl]; exact (Znk _).symm
 | x :: l,y :: m=>by
  simp only [addl,Zdx]
  rw [Zob z l m]
  generalize hor z l = p
  generalize hor z m = q
  grind
def sca (x:F) (l:List F):List F:=l.map fun y=>x * y
theorem Zml (x:F):∀ (l:List F) (k:Nat),(sca x l).getD k 0 = x * l.getD k 0
 | [],k=>by simp only [sca,List.map_nil,List.getD_nil]; rw [Znj]
 | y :: l,0=>by simp only [sca,List.map_cons,List.getD_cons_zero]
 | y :: l,k + 1=>by simp only [sca,List.map_cons,List.getD_cons_succ]; exact Zml x l k
theorem Zvl (z x:F):∀ l:List F,hor z (sca x l) = x * hor z l
 | []=>(Znj x).symm
 | y :: l=>by
  have h:=Zvl z x l
  simp only [sca,List.map_cons,Zdx] at h ⊢
  rw [h]
  generalize hor z l = p
  grind
def conv:List F→List F→List F
 | [],_=>[]
 | x :: a,b=>addl (sca x b) (0 :: conv a b)
theorem Zwo (z:F):∀ a b:List F,hor z (conv a b) = hor z a * hor z b
 | [],b=>(Zgr (hor z b)).symm
 | x :: a,b=>by
  simp only [conv]
  rw [Zob,Zvl,Zdx,Zwo z a b,Zdx,Zh7]
  generalize hor z a = p
  generalize hor z b = q
  grind
theorem Zn7 (f:Nat→F):∀ n,sm (n + 1) f = f 0 + sm n (fun i=>f (i + 1))
 | 0=>by simp only [sm]; rw [Zh7,Znk]
 | n + 1=>by
  rw [sm,Zn7 f n]
  simp only [sm]
  generalize sm n (fun i=>f (i + 1)) = p
  generalize f (n + 1) = q
  generalize f 0 = r
  grind
theorem Zfz:∀ (a b:List F) (k:Nat),(conv a b).getD k 0 = sm a.length (tm a b k)
 | [],b,k=>by simp only [conv,List.getD_nil,List.length_nil,sm]
 | x :: a,b,0=>by
  simp only [conv]
  rw [Zh3,Zml,List.length_cons,Zn7,Zol (f:=fun i=>tm (x :: a) b 0 (i + 1)) a.length (fun i _=>by simp only [tm]; rw [if_neg (by omega)])]
  simp only [tm,List.getD_cons_zero,Nat.sub_zero]
  rw [if_pos (Nat.le_refl _)]
 | x :: a,b,k + 1=>by
  simp only [conv]
  rw [Zh3,Zml,List.length_cons,Zn7,List.getD_cons_succ,Zfz a b k]
  have e:tm (x :: a) b (k + 1) 0 = x * b.getD (k + 1) 0:=by simp only [tm,List.getD_cons_zero,Nat.sub_zero]; rw [if_pos (Nat.zero_le _)]
  rw [e]
  refine congrArg (fun y=>x * b.getD (k + 1) 0 + y) (Zb1 _ fun i _=>?_)
  simp only [tm,List.getD_cons_succ]
  by_cases h:i ≤ k
  ·rw [if_pos h,if_pos (by omega),Nat.add_sub_add_right]
  ·rw [if_neg h,if_neg (by omega)]
def pm (a b:List F):List F:=if (cut a).length = 0 ∨ (cut b).length = 0 then [] else mulL ((cut a).length + (cut b).length - 1) (cut a) (cut b)
theorem Zv9 (a b:List F):(pm a b).length = if (cut a).length = 0 ∨ (cut b).length = 0 then 0 else (cut a).length + (cut b).length - 1:=by
 rw [pm]
 split
 ·rfl
 ·exact Zl1 ..
theorem pm_le (a b:List F):(pm a b).length ≤ a.length + b.length:=by
 have h1:=Zce a
 have h2:=Zce b
 rw [Zv9]
 split <;> omega
theorem Z4f {l:List F} (h:l.length = 0):l = []:=List.length_eq_zero_iff.1 h
theorem Zw1:∀ a:List F,∀ k,(conv a []).getD k 0 = 0
 | [],k=>by simp only [conv,List.getD_nil]
 | x :: a,0=>by simp only [conv,Zh3,Zml,List.getD_nil,List.getD_cons_zero]; rw [Znj]; exact zz
 | x :: a,k + 1=>by simp only [conv,Zh3,Zml,List.getD_nil,List.getD_cons_succ]; rw [Zw1 a k,Znj]; exact zz
theorem Zwa (a b:List F) (k:Nat):(pm a b).getD k 0 = (conv (cut a) (cut b)).getD k 0:=by
 rw [pm]
 by_cases h:(cut a).length = 0 ∨ (cut b).length = 0
 ·rw [if_pos h,List.getD_nil]
  rcases h with h | h
  ·rw [Z4f h]; rfl
  ·rw [Z4f h,Zw1]
 ·rw [if_neg h,Zwg (by omega),Zfz]
theorem pm_top (a b:List F) (h:¬ ((cut a).length = 0 ∨ (cut b).length = 0)):(pm a b).getD ((pm a b).length - 1) 0 ≠ 0:=by
 have ha:=Zsn a (fun e=>h (.inl e))
 have hb:=Zsn b (fun e=>h (.inr e))
 rw [Zwa,Zv9,if_neg h,Zfz]
 obtain ⟨p,hp⟩:∃ p,(cut a).length = p + 1:=⟨(cut a).length - 1,by omega⟩
 obtain ⟨q,hq⟩:∃ q,(cut b).length = q + 1:=⟨(cut b).length - 1,by omega⟩
 rw [hp,Nat.add_sub_cancel] at ha
 rw [hq,Nat.add_sub_cancel] at hb
 rw [hp,hq,show p + 1 + (q + 1) - 1 - 1 = p + q by omega,sm,Zol (f:=tm (cut a) (cut b) (p + q)) p (fun i hi=>by
  simp only [tm]
  rw [if_pos (by omega),Zdr (l:=cut b) (by omega),Znj]),Zh7]
 simp only [tm]
 rw [if_pos (by omega),Nat.add_sub_cancel_left]
 exact fun e=>(Zo8 e).elim ha hb
theorem Z4a (a b:List F):cut (pm a b) = pm a b:=by
 by_cases h:(cut a).length = 0 ∨ (cut b).length = 0
 ·rw [pm,if_pos h]; rfl
 ·have ht:=pm_top a b h
  have hl:=Zv9 a b
  rw [if_neg h] at hl
  exact Zpr (n:=(pm a b).length - 1) (by omega) ht
theorem Zqt (z:F) (a b:List F):hor z (pm a b) = hor z a * hor z b:=by
 rw [Zej z _ _ (Zwa a b),Zwo,Zej z (cut a) a (Zb0 a),Zej z (cut b) b (Zb0 b)]
theorem Zp4 (a b:List F) (k:Nat):(bth (fun x y=>x + y) a b).getD k 0 = a.getD k 0 + b.getD k 0:=Zss (fun x y=>x + y) zz a b k
theorem Zys (a b:List F) (k:Nat):(bth (fun x y=>x - y) a b).getD k 0 = a.getD k 0 - b.getD k 0:=Zss (fun x y=>x - y) (by decide +kernel) a b k
theorem Z1h (z:F) (a b:List F):hor z (cut (bth (fun x y=>x + y) a b)) = hor z a + hor z b:=by
 rw [Zej z _ (addl a b) (fun k=>by rw [Zb0,Zp4,Zh3]),Zob]
end Go.Proofs.PL

namespace Go.Proofs.Tryz.PMT
open Go Go.Proofs.PM Go.Proofs.PL Go.Proofs.Tryz
variable {K:PV→List Ob→Prop}
set_option maxRecDepth 4000

theorem take1 (x:PV):List.take 1 [x] = [x]:=rfl
theorem len1 (x:PV):[x].length = 1:=rfl
theorem has1 (x:F):[ff x].all (Sh.arr 4 .one).has = true:=rfl
theorem Zvo (n:Nat) (f:Nat→F):ffs (PL.tab (n + 1) f) = ffs (PL.tab n f) ++ [ff (f n)]:=by rw [PL.tab_succ]; simp [ffs]

theorem Zty {l:List F} {z:F} (hl:l.length ≤ 1000000) (hK:K (.osl 0 [] 0 (cut (shS z (cut l) (cut l).length).1).length) [.row 28 (.arr 4 .one) (ffs (cut (shS z (cut l) (cut l).length).1))]):PSpec prog 49 [.vsl false (.arr 4 .one) (ffs l),ff z] [] K:=by
 refine Zrk ?_
 simp only [qzS,qzN,qzG,qzT,qzI,qzF,qzZ,Zg4]
 simp -implicitDefEqProofs only [go_sem,Nat.reduceAdd,Nat.reduceSub,Nat.reduceEqDiff,Nat.reduceLT]
 refine Zba (by omega) ?_
 have lA:=Zce l
 generalize cut l = A at *
 simp -implicitDefEqProofs only [go_sem,Nat.reduceAdd,Nat.reduceEqDiff,Nat.reduceLT,Nat.reduceLeDiff]
 refine Zcb (Zs rfl) ?_
 simp -implicitDefEqProofs only [go_sem,Nat.reduceAdd,Nat.reduceEqDiff,Zfd]
 refine Zv (ι:={ i:Nat // i ≤ A.length }) [4,7,8,14,15,16,17,18,19,20,21,22,23,24,25,26,27,28] (fun i=>[(14,i64 i.1)])
  (fun i=>[(0,.ob (.var (.arr 4 .one) (ff z))),(2,.ob (.row 28 (.arr 4 .one) (ffs (shS z A i.1).1))),(3,.ob (.var (.arr 4 .one) (ff (shS z A i.1).2)))]) 4 (fun i=>A.length - i.1) ⟨0,Nat.zero_le _⟩ ?_ ?_
 ·rw [Zg]
  refine Ze [(0,0),(2,2),(3,3)] rfl rfl rfl ?_ ?_
  ·simp -implicitDefEqProofs only [go_sem,Nat.reduceEqDiff,Nat.reduceLT,shS]
  ·simp -implicitDefEqProofs only [go_sem,Nat.reduceEqDiff]
 intro ⟨i,hi⟩ G hG
 have sl:=Zrs z A i
 simp -implicitDefEqProofs only [go_sem]
 refine Zj (fun h=>?_) (fun h=>?_)
 ·simp only [decide_eq_true_eq] at h
  have hii:i < (shS z A i).1.length:=by omega
  have w3:IntKind.i64.wrap ((i:Int) + 1) = ((i + 1:Nat):Int):=by rw [wrs (by omega) (by omega)]; omega
  simp -implicitDefEqProofs only [go_sem,Nat.reduceAdd,Nat.reduceEqDiff,Nat.reduceLT,h,Z7 hii]
  refine Zz ?_
  simp -implicitDefEqProofs only [go_sem,Nat.reduceEqDiff,Nat.reduceLT,h,Z7 hii]
  refine Zz ?_
  simp -implicitDefEqProofs only [go_sem,Nat.reduceEqDiff,w3]
  refine hG _ ⟨i + 1,by omega⟩ (by simp only; omega) ?_
  rw [Zg]
  refine Ze [(0,0),(2,2),(3,3)] rfl rfl rfl ?_ ?_
  ·simp -implicitDefEqProofs only [go_sem,Nat.reduceEqDiff,Nat.reduceLT,shS]
  ·simp -implicitDefEqProofs only [go_sem,Nat.reduceEqDiff]
 simp only [decide_eq_false_iff_not] at h
 obtain rfl:i = A.length:=by omega
 clear hG
 have tk:(shS z A A.length).1.take A.length = (shS z A A.length).1:=List.take_of_length_le (by omega)
 simp -implicitDefEqProofs only [go_sem,Nat.reduceEqDiff,Nat.reduceLT,tk]
 refine Zba (by omega) ?_
 generalize cut (shS z A A.length).1 = R at *
 simp -implicitDefEqProofs only [go_sem,Nat.reduceAdd,Nat.reduceEqDiff,Nat.reduceLeDiff]
 refine Z0 [(4,0)] [.row 28 (.arr 4 .one) (ffs R)] [.osl 0 [] 0 R.length] rfl rfl ?_ ?_ hK
 ·simp -implicitDefEqProofs only [go_sem,Nat.reduceEqDiff,Nat.reduceLT]
 ·simp -implicitDefEqProofs only [go_sem]

theorem Zwl {l:List F} {i:Nat} (hl:l.length ≤ 4398046511104) (hK:K (ff (l.getD i 0)) []):PSpec prog 64 [.vsl false (.arr 4 .one) (ffs l),i64 i] [] K:=by
 refine Zk0 ?_
 simp only [qzS,qzN,qzG,qzT,qzI,qzF,qzZ,Zd5]
 simp -implicitDefEqProofs only [go_sem,Nat.reduceAdd,Nat.reduceSub]
 refine Zj (fun h=>?_) (fun h=>?_)
 ·simp only [decide_eq_true_eq] at h
  have hi:i < l.length:=by omega
  simp -implicitDefEqProofs only [go_sem,h,Z7 hi]
  exact Zb rfl hK
 ·simp only [decide_eq_false_iff_not] at h
  rw [Zdr (by omega)] at hK
  simp -implicitDefEqProofs only [go_sem,Zr]
  exact Zb rfl hK

theorem Ztt {a b:List F} (ha:a.length ≤ 1000000) (hb:b.length ≤ 1000000) (hK:K (.osl 0 [] 0 (cut (bth (fun x y=>x + y) a b)).length) [.row 28 (.arr 4 .one) (ffs (cut (bth (fun x y=>x + y) a b)))]):PSpec prog 17 [.vsl false (.arr 4 .one) (ffs a),.vsl false (.arr 4 .one) (ffs b)] [] K:=by
 refine Zke ?_
 simp only [qzS,qzN,qzG,qzT,qzI,qzF,qzZ,Zdo]
 rw [bth] at hK
 obtain ⟨N,hN⟩:∃ N,max a.length b.length = N:=⟨_,rfl⟩
 rw [hN] at hK
 have hx:(if (b.length:Int) > (a.length:Int) then (b.length:Int) else (a.length:Int)) = (N:Int):=by
  rw [← hN]
  by_cases h:(b.length:Int) > (a.length:Int)
  ·rw [if_pos h,Nat.max_eq_right (by omega)]
  ·rw [if_neg h,Nat.max_eq_left (by omega)]
 have hN2:N ≤ 1000000:=by omega
 obtain ⟨r,hr⟩:∃ r:Nat→F,(fun i=>a.getD i 0 + b.getD i 0) = r:=⟨_,rfl⟩
 rw [hr] at hK
 have hri:∀ i,a.getD i 0 + b.getD i 0 = r i:=fun i=>by rw [← hr]
 simp -implicitDefEqProofs only [go_sem,Nat.reduceAdd,Nat.reduceSub,Nat.reduceEqDiff]
 refine Zv (ι:={ i:Nat // i ≤ N }) [4,5,6,7,8,9,10,11,12,13,14,15,16,17,18,19,20,21,22,23,24,25] (fun i=>[(5,.osl 1 [] 0 i.1),(6,i64 i.1)])
  (fun i=>[(1,.ob (.row 28 (.arr 4 .one) (ffs (PL.tab i.1 r))))]) 2 (fun i=>N - i.1) ⟨0,Nat.zero_le _⟩ ?_ ?_
 ·rw [Zg]
  refine Ze [(1,1)] rfl rfl rfl ?_ ?_
  ·simp -implicitDefEqProofs only [go_sem,Nat.reduceEqDiff,Nat.reduceLT,ob_eq,Ob.row.injEq,PL.tab]
   try rfl
  ·simp -implicitDefEqProofs only [go_sem]
 intro ⟨i,hi⟩ G hG
 have tl:=PL.tab_len i r
 simp -implicitDefEqProofs only [go_sem,hx]
 refine Zj (fun h=>?_) (fun h=>?_)
 ·simp only [decide_eq_true_eq] at h
  have w3:IntKind.i64.wrap ((i:Int) + 1) = ((i + 1:Nat):Int):=by rw [wrs (by omega) (by omega)]; omega
  simp -implicitDefEqProofs only [go_sem,Nat.reduceLT,h]
  refine Zwl (by omega) ?_
  simp -implicitDefEqProofs only [go_sem,Nat.reduceLT]
  refine Zwl (by omega) ?_
  simp -implicitDefEqProofs only [go_sem,Nat.reduceLT]
  refine Zfj ?_
  simp -implicitDefEqProofs only [go_sem,Nat.reduceAdd,Nat.reduceEqDiff,Nat.reduceLT,Nat.reduceLeDiff,w3,tl,take1,len1,has1,true_and]
  repeat (with_reducible refine And.intro (by first | omega | decide) ?_)
  refine hG _ ⟨i + 1,by omega⟩ (by simp only; omega) ?_
  rw [Zg]
  refine Ze [(3,1)] rfl rfl rfl ?_ ?_
  ·simp -implicitDefEqProofs only [go_sem,Nat.reduceEqDiff,Nat.reduceLT,← Zvo,hri]
  ·simp -implicitDefEqProofs only [go_sem]
 simp only [decide_eq_false_iff_not] at h
 obtain rfl:i = N:=by omega
 clear hG
 have tk:(PL.tab i r).take i = PL.tab i r:=List.take_of_length_le (by omega)
 simp -implicitDefEqProofs only [go_sem,Nat.reduceLT,tk]
 refine Zl4 (by omega) ?_
 generalize cut (PL.tab i r) = R at *
 simp -implicitDefEqProofs only [go_sem,Nat.reduceAdd,Nat.reduceEqDiff,Nat.reduceLeDiff]
 refine Z0 [(2,0)] [.row 28 (.arr 4 .one) (ffs R)] [.osl 0 [] 0 R.length] rfl rfl ?_ ?_ hK
 ·simp -implicitDefEqProofs only [go_sem,Nat.reduceEqDiff,Nat.reduceLT]
 ·simp -implicitDefEqProofs only [go_sem]

theorem Zve {a:List F} {z:F} (ha:a.length ≤ 1000000) (hK:K (.osl 0 [] 0 (cut (bth (fun x _=>x * z) a [])).length) [.row 28 (.arr 4 .one) (ffs (cut (bth (fun x _=>x * z) a [])))]):PSpec prog 66 [.vsl false (.arr 4 .one) (ffs a),ff z] [] K:=by
 refine Zh8 ?_
 simp only [qzS,qzN,qzG,qzT,qzI,qzF,qzZ,Zcj]
 rw [bth,show max a.length ([]:List F).length = a.length by simp] at hK
 obtain ⟨r,hr⟩:∃ r:Nat→F,(fun i=>a.getD i 0 * z) = r:=⟨_,rfl⟩
 rw [hr] at hK
 have hri:∀ i,a.getD i 0 * z = r i:=fun i=>by rw [← hr]
 simp -implicitDefEqProofs only [go_sem,Nat.reduceAdd,Nat.reduceSub,Nat.reduceEqDiff]
 refine Zv (ι:={ i:Nat // i ≤ a.length }) [4,5,6,7,8,9,10,11,12,13,14,15,16,17,18,19,20,21] (fun i=>[(5,.osl 2 [] 0 i.1),(6,i64 i.1)])
  (fun i=>[(0,.ob (.var (.arr 4 .one) (ff z))),(2,.ob (.row 28 (.arr 4 .one) (ffs (PL.tab i.1 r))))]) 3 (fun i=>a.length - i.1) ⟨0,Nat.zero_le _⟩ ?_ ?_
 ·rw [Zg]
  refine Ze [(0,0),(2,2)] rfl rfl rfl ?_ ?_
  ·simp -implicitDefEqProofs only [go_sem,Nat.reduceEqDiff,Nat.reduceLT,ob_eq,Ob.row.injEq,PL.tab]
   try rfl
  ·simp -implicitDefEqProofs only [go_sem,Nat.reduceEqDiff]
 intro ⟨i,hi⟩ G hG
 have tl:=PL.tab_len i r
 simp -implicitDefEqProofs only [go_sem]
 refine Zj (fun h=>?_) (fun h=>?_)
 ·simp only [decide_eq_true_eq] at h
  have hii:i < a.length:=by omega
  have w3:IntKind.i64.wrap ((i:Int) + 1) = ((i + 1:Nat):Int):=by rw [wrs (by omega) (by omega)]; omega
  simp -implicitDefEqProofs only [go_sem,Nat.reduceAdd,Nat.reduceMul,Nat.reduceEqDiff,Nat.reduceLT,h,Z7 hii]
  refine Zbx ?_
  simp -implicitDefEqProofs only [go_sem,Nat.reduceAdd,Nat.reduceMul,Nat.reduceEqDiff,Nat.reduceLT,Nat.reduceLeDiff,w3,tl,take1,len1,has1,true_and]
  repeat (with_reducible refine And.intro (by first | omega | decide) ?_)
  refine hG _ ⟨i + 1,by omega⟩ (by simp only; omega) ?_
  rw [Zg]
  refine Ze [(0,0),(131,2)] rfl rfl rfl ?_ ?_
  ·simp -implicitDefEqProofs only [go_sem,Nat.reduceEqDiff,Nat.reduceLT,← Zvo,hri]
  ·simp -implicitDefEqProofs only [go_sem,Nat.reduceEqDiff]
 simp only [decide_eq_false_iff_not] at h
 obtain rfl:i = a.length:=by omega
 clear hG
 have tk:(PL.tab a.length r).take a.length = PL.tab a.length r:=List.take_of_length_le (by omega)
 simp -implicitDefEqProofs only [go_sem,Nat.reduceEqDiff,Nat.reduceLT,tk]
 refine Zl4 (by omega) ?_
 generalize cut (PL.tab a.length r) = R at *
 simp -implicitDefEqProofs only [go_sem,Nat.reduceAdd,Nat.reduceEqDiff,Nat.reduceLeDiff]
 refine Z0 [(3,0)] [.row 28 (.arr 4 .one) (ffs R)] [.osl 0 [] 0 R.length] rfl rfl ?_ ?_ hK
 ·simp -implicitDefEqProofs only [go_sem,Nat.reduceEqDiff,Nat.reduceLT]
 ·simp -implicitDefEqProofs only [go_sem]
end Go.Proofs.Tryz.PMT

namespace Go.Proofs.Tryz.PMT
open Go Go.Proofs.PM Go.Proofs.PL Go.Proofs.Tryz
set_option maxRecDepth 4000

theorem Zu2 {n:Int} (h0:0 ≤ n) (h1:n < 18446744073709551616):(ff 0).put [0] (.val (.int .u64 n)) = ff (of n):=by
 rw [ff_zero,← Zu7 ⟨h0,h1⟩]; rfl
end Go.Proofs.Tryz.PMT

namespace Go.Proofs.Tryz.PMT
open Go Go.Proofs.PM Go.Proofs.PL Go.Proofs.Tryz
set_option maxRecDepth 4000

end Go.Proofs.Tryz.PMT

namespace Go.Proofs.PM
open Go Go.Proofs.PL
set_option maxRecDepth 4000
theorem ofI {a:Nat} (h:a < 18446744073709551616):(BitVec.ofInt 64 (a:Int)).toNat = a:=by
 rw [BitVec.ofInt_natCast,BitVec.toNat_ofNat]; exact Nat.mod_eq_of_lt h
theorem and_lt {a b:Nat} (hb:b < 18446744073709551616):a &&& b < 18446744073709551616:=Nat.lt_of_le_of_lt Nat.and_le_right hb
theorem or_lt {a b:Nat} (ha:a < 18446744073709551616) (hb:b < 18446744073709551616):a ||| b < 18446744073709551616:=Nat.or_lt_two_pow (n:=64) ha hb
theorem Zpy {a k:Nat} (hk:k < 64):binI .shl .u64 (a:Int) (k:Int) = .int .u64 ((a * 2 ^ k % 18446744073709551616:Nat):Int):=by
 simp only [binI,Int.toNat_natCast]
 rw [Nat.min_eq_left (by show k ≤ 64; omega),Zio,Int.natCast_emod,Int.natCast_mul,Int.natCast_pow]
 rfl
theorem Z1a {a b:Nat} (ha:a < 9223372036854775808) (hb:b < 9223372036854775808):binI .and .i64 (a:Int) (b:Int) = .int .i64 ((a &&& b:Nat):Int):=by
 have h:a &&& b < 9223372036854775808:=Nat.lt_of_le_of_lt Nat.and_le_right hb
 simp only [binI]
 rw [show IntKind.i64.bits = 64 from rfl,BitVec.toNat_and,ofI (by omega),ofI (by omega),wrs (by omega) (by omega)]
end Go.Proofs.PM

namespace Go.Proofs.Tryz.PMT
open Go Go.Proofs.PM Go.Proofs.Tryz
variable {args:List PV} {own:List Ob} {K:PV→List Ob→Prop}
def Zmp:Pc:=(.seq (.rgn [qzS 2 (.mv (qzI 0))]) (.seq (.seq (.rgn [qzS 3 (.mv (qzT 0)),qzS 4 (.bin .lss (qzT 3) (qzI 1)),qzS 5 (.mv (qzT 4)),qzG 6 5 false (.mv (qzT 0)),qzG 7 5 false (.bin .gtr (qzT 6) (qzI 512)),qzS 8 (.pick (qzT 5) (.cst (.val (.bool true))) (qzT 7)),qzS 9 (.mv (qzT 8)),qzG 10 9 false (.mv (qzT 0)),qzG 11 9 false (.mv (qzT 0)),qzG 12 9 false (.bin .sub (qzT 11) (qzI 1)),qzG 13 9 false (.bin .and (qzT 10) (qzT 12)),qzG 14 9 false (.bin .neq (qzT 13) (qzI 0)),qzS 15 (.pick (qzT 9) (.cst (.val (.bool true))) (qzT 14))]) (.cond (qzT 15) (.seq (.rgn [qzS 2 (.mv (qzI (-1)))]) .ret) .skip)) (.seq (.rgn [qzS 16 (.mv (qzT 0)),qzS 17 (.cvi .u64 (qzT 16)),qzS 18 (.call 124 false [((qzT 17),none)]),qzS 2 (.mv (qzT 18))]) .ret)))
theorem Zrv:f119.body.bind (Zc TT 90) = some Zmp:=by kernel_rfl
theorem Zxp (h:pwp prog Zmp (retQ [.tmp 2] own K) (stIn 19 args own)):PSpec prog 119 args own K:=spec func119 Zrv (by kernel_rfl) (by kernel_rfl) h
def Zf0:Pc:=(.seq (.rgn [qzS 4 (.nil 28 qzF)]) (.seq (.rgn [qzS 8 (.mv (qzT 0)),qzS 9 (.len (qzT 8)),qzS 10 (.mksl 28 qzF 32 qzZ (qzT 9) (qzT 9)),qzS 5 (.mv (qzT 10))]) (.seq (.seq (.rgn [qzS 11 (.mv (qzT 0)),qzS 12 (.len (qzT 11)),qzS 13 (.mv (qzI 0))]) (.block 0 (.loop (.seq (.rgn [qzS 14 (.bin .lss (qzT 13) (qzT 12))]) (.seq (.cond (qzT 14) .skip (.exit 0)) (.seq (.block 1 (.seq (.rgn [qzS 15 (.mv (qzT 13)),qzS 16 (.iaddrs qzF (qzT 11) (qzT 13)),qzS 17 (.load qzF (qzT 16)),qzS 7 (.alloc qzF qzZ),qzS 6 (.mv (qzT 15)),qzN (.store qzF (qzT 7) (qzT 17))]) (.drgn 12 [⟨0,.no,qzS 18 (.mv (qzT 5))⟩,⟨1,.no,qzS 19 (.mv (qzT 6))⟩,⟨2,.no,qzS 20 (.cvi .u64 (qzT 19))⟩,⟨3,.no,qzS 21 (.bin .shl (qzT 20) (.cst (.val (.int .u64 1))))⟩,⟨5,.no,qzS 23 (.mv (qzT 1))⟩,⟨6,.no,qzS 24 (.bin .sub (qzI 63) (qzT 23))⟩,⟨7,.no,qzS 25 (.cvi .u64 (qzT 24))⟩,⟨9,.no,qzS 27 (.load qzF (qzT 7))⟩,⟨4,(.av false [7]),qzS 22 (.call 131 false [((qzT 21),none)])⟩,⟨8,.no,qzS 26 (.bin .shr (qzT 22) (qzT 25))⟩,⟨10,.no,qzS 28 (.iaddrs qzF (qzT 18) (qzT 26))⟩,⟨11,.no,qzN (.store qzF (qzT 28) (qzT 27))⟩]))) (.rgn [qzS 29 (.bin .add (qzT 13) (qzI 1)),qzS 13 (.mv (qzT 29))]))))))) (.seq (.rgn [qzS 30 (.mv (qzT 5)),qzS 4 (.mv (qzT 30))]) .ret))))
theorem Zmo:f125.body.bind (Zc TT 90) = some Zf0:=by kernel_rfl
theorem Zp7 (h:pwp prog Zf0 (retQ [.tmp 4] own K) (stIn 31 args own)):PSpec prog 125 args own K:=spec func125 Zmo (by kernel_rfl) (by kernel_rfl) h
def Zlf:Pc:=(.seq (.rgn [qzS 5 (.box qzF (qzT 2)),qzS 6 (.nil 28 qzF)]) (.scopej 0 (.seq .skip (.seq (.seq (.rgn [qzS 19 (.mv (qzT 8)),qzS 20 (.mv (qzT 7)),qzS 21 (.len (qzT 20)),qzS 22 (.bin .geq (qzT 19) (qzT 21))]) (.cond (qzT 22) (.seq (.rgn [qzS 23 (.mv (qzT 7)),qzS 6 (.mv (qzT 23))]) .ret) .skip)) (.seq (.rgn [qzS 24 (.load qzF (qzT 5)),qzS 9 (.alloc qzF qzZ),qzN (.store qzF (qzT 9) (qzT 24))]) (.seq (.seq (.rgn [qzS 25 (.mv (qzT 7)),qzS 26 (.len (qzT 25)),qzS 10 (.mv (qzT 26))]) (.block 0 (.loop (.seq (.seq (.rgn [qzS 27 (.mv (qzT 10)),qzS 28 (.mv (qzT 8)),qzS 29 (.bin .mul (qzI 2) (qzT 28)),qzS 30 (.bin .gtr (qzT 27) (qzT 29))]) (.cond (qzT 30) .skip (.exit 0))) (.seq (.block 1 (.rgn [qzS 33 (.load qzF (qzT 9)),qzS 34 (.load qzF (qzT 9)),qzS 35 (.call 57 false [((qzT 33),none),((qzT 34),none)]),qzN (.store qzF (qzT 9) (qzT 35))])) (.rgn [qzS 31 (.mv (qzT 10)),qzS 32 (.bin .quo (qzT 31) (qzI 2)),qzS 10 (.mv (qzT 32))])))))) (.seq (.seq (.rgn [qzS 11 (.mv (qzI 0))]) (.block 2 (.loop (.seq (.seq (.rgn [qzS 36 (.mv (qzT 11)),qzS 37 (.mv (qzT 7)),qzS 38 (.len (qzT 37)),qzS 39 (.bin .lss (qzT 36) (qzT 38))]) (.cond (qzT 39) .skip (.exit 2))) (.seq (.block 3 (.seq (.rgn [qzS 44 (.call 54 false [((.cst (.val (.int .u64 1))),none)]),qzS 12 (.alloc qzF qzZ),qzN (.store qzF (qzT 12) (qzT 44))]) (.seq (.rgn [qzS 45 (.mv (qzT 11)),qzS 13 (.mv (qzT 45))]) (.block 4 (.loop (.seq (.seq (.rgn [qzS 46 (.mv (qzT 13)),qzS 47 (.mv (qzT 11)),qzS 48 (.mv (qzT 8)),qzS 49 (.bin .add (qzT 47) (qzT 48)),qzS 50 (.bin .lss (qzT 46) (qzT 49))]) (.cond (qzT 50) .skip (.exit 4))) (.seq (.block 5 (.seq (.drgn 16 [⟨0,.no,qzS 53 (.mv (qzT 7))⟩,⟨1,.no,qzS 54 (.mv (qzT 13))⟩,⟨2,.no,qzS 55 (.iaddrs qzF (qzT 53) (qzT 54))⟩,⟨3,.no,qzS 56 (.load qzF (qzT 55))⟩,⟨4,.no,qzS 57 (.mv (qzT 7))⟩,⟨5,.no,qzS 58 (.mv (qzT 13))⟩,⟨6,.no,qzS 59 (.mv (qzT 8))⟩,⟨7,.no,qzS 60 (.bin .add (qzT 58) (qzT 59))⟩,⟨8,.no,qzS 61 (.iaddrs qzF (qzT 57) (qzT 60))⟩,⟨9,.no,qzS 62 (.load qzF (qzT 61))⟩,⟨10,.no,qzS 63 (.load qzF (qzT 12))⟩,⟨12,.no,qzS 14 (.alloc qzF qzZ)⟩,⟨13,.no,qzS 15 (.alloc qzF qzZ)⟩,⟨11,(.av false [55,53,54]),qzS 64 (.call 57 false [((qzT 62),none),((qzT 63),none)])⟩,⟨14,.no,qzN (.store qzF (qzT 14) (qzT 56))⟩,⟨15,.no,qzN (.store qzF (qzT 15) (qzT 64))⟩]) (.seq (.drgn 16 [⟨0,.no,qzS 65 (.mv (qzT 7))⟩,⟨1,.no,qzS 66 (.mv (qzT 13))⟩,⟨2,.no,qzS 67 (.mv (qzT 7))⟩,⟨3,.no,qzS 68 (.mv (qzT 13))⟩,⟨4,.no,qzS 69 (.mv (qzT 8))⟩,⟨5,.no,qzS 70 (.bin .add (qzT 68) (qzT 69))⟩,⟨6,.no,qzS 71 (.load qzF (qzT 14))⟩,⟨7,.no,qzS 72 (.load qzF (qzT 15))⟩,⟨9,.no,qzS 74 (.load qzF (qzT 14))⟩,⟨10,.no,qzS 75 (.load qzF (qzT 15))⟩,⟨8,(.av false [15,14]),qzS 73 (.call 60 false [((qzT 71),none),((qzT 72),none)])⟩,⟨11,.no,qzS 76 (.call 63 false [((qzT 74),none),((qzT 75),none)])⟩,⟨12,.no,qzS 77 (.iaddrs qzF (qzT 65) (qzT 66))⟩,⟨13,.no,qzN (.store qzF (qzT 77) (qzT 73))⟩,⟨14,.no,qzS 78 (.iaddrs qzF (qzT 67) (qzT 70))⟩,⟨15,.no,qzN (.store qzF (qzT 78) (qzT 76))⟩]) (.rgn [qzS 79 (.load qzF (qzT 12)),qzS 80 (.load qzF (qzT 9)),qzS 81 (.call 57 false [((qzT 79),none),((qzT 80),none)]),qzN (.store qzF (qzT 12) (qzT 81))])))) (.rgn [qzS 51 (.mv (qzT 13)),qzS 52 (.bin .add (qzT 51) (qzI 1)),qzS 13 (.mv (qzT 52))])))))))) (.rgn [qzS 40 (.mv (qzT 11)),qzS 41 (.mv (qzT 8)),qzS 42 (.bin .mul (qzI 2) (qzT 41)),qzS 43 (.bin .add (qzT 40) (qzT 42)),qzS 11 (.mv (qzT 43))])))))) (.seq (.rgn [qzS 82 (.mv (qzT 8)),qzS 83 (.bin .mul (qzT 82) (qzI 2)),qzS 8 (.mv (qzT 83))]) (.goto 0))))))) (.seq (.rgn [qzS 16 (.mv (qzT 0)),qzS 17 (.mv (qzT 1)),qzS 18 (.call 125 false [((qzT 16),(some qzF)),((qzT 17),none)]),qzS 7 (.mv (qzT 18))]) (.seq (.rgn [qzS 8 (.mv (qzI 1))]) (.seq .label (.seq (.seq (.rgn [qzS 19 (.mv (qzT 8)),qzS 20 (.mv (qzT 7)),qzS 21 (.len (qzT 20)),qzS 22 (.bin .geq (qzT 19) (qzT 21))]) (.cond (qzT 22) (.seq (.rgn [qzS 23 (.mv (qzT 7)),qzS 6 (.mv (qzT 23))]) .ret) .skip)) (.seq (.rgn [qzS 24 (.load qzF (qzT 5)),qzS 9 (.alloc qzF qzZ),qzN (.store qzF (qzT 9) (qzT 24))]) (.seq (.seq (.rgn [qzS 25 (.mv (qzT 7)),qzS 26 (.len (qzT 25)),qzS 10 (.mv (qzT 26))]) (.block 0 (.loop (.seq (.seq (.rgn [qzS 27 (.mv (qzT 10)),qzS 28 (.mv (qzT 8)),qzS 29 (.bin .mul (qzI 2) (qzT 28)),qzS 30 (.bin .gtr (qzT 27) (qzT 29))]) (.cond (qzT 30) .skip (.exit 0))) (.seq (.block 1 (.rgn [qzS 33 (.load qzF (qzT 9)),qzS 34 (.load qzF (qzT 9)),qzS 35 (.call 57 false [((qzT 33),none),((qzT 34),none)]),qzN (.store qzF (qzT 9) (qzT 35))])) (.rgn [qzS 31 (.mv (qzT 10)),qzS 32 (.bin .quo (qzT 31) (qzI 2)),qzS 10 (.mv (qzT 32))])))))) (.seq (.seq (.rgn [qzS 11 (.mv (qzI 0))]) (.block 2 (.loop (.seq (.seq (.rgn [qzS 36 (.mv (qzT 11)),qzS 37 (.mv (qzT 7)),qzS 38 (.len (qzT 37)),qzS 39 (.bin .lss (qzT 36) (qzT 38))]) (.cond (qzT 39) .skip (.exit 2))) (.seq (.block 3 (.seq (.rgn [qzS 44 (.call 54 false [((.cst (.val (.int .u64 1))),none)]),qzS 12 (.alloc qzF qzZ),qzN (.store qzF (qzT 12) (qzT 44))]) (.seq (.rgn [qzS 45 (.mv (qzT 11)),qzS 13 (.mv (qzT 45))]) (.block 4 (.loop (.seq (.seq (.rgn [qzS 46 (.mv (qzT 13)),qzS 47 (.mv (qzT 11)),qzS 48 (.mv (qzT 8)),qzS 49 (.bin .add (qzT 47) (qzT 48)),qzS 50 (.bin .lss (qzT 46) (qzT 49))]) (.cond (qzT 50) .skip (.exit 4))) (.seq (.block 5 (.seq (.drgn 16 [⟨0,.no,qzS 53 (.mv (qzT 7))⟩,⟨1,.no,qzS 54 (.mv (qzT 13))⟩,⟨2,.no,qzS 55 (.iaddrs qzF (qzT 53) (qzT 54))⟩,⟨3,.no,qzS 56 (.load qzF (qzT 55))⟩,⟨4,.no,qzS 57 (.mv (qzT 7))⟩,⟨5,.no,qzS 58 (.mv (qzT 13))⟩,⟨6,.no,qzS 59 (.mv (qzT 8))⟩,⟨7,.no,qzS 60 (.bin .add (qzT 58) (qzT 59))⟩,⟨8,.no,qzS 61 (.iaddrs qzF (qzT 57) (qzT 60))⟩,⟨9,.no,qzS 62 (.load qzF (qzT 61))⟩,⟨10,.no,qzS 63 (.load qzF (qzT 12))⟩,⟨12,.no,qzS 14 (.alloc qzF qzZ)⟩,⟨13,.no,qzS 15 (.alloc qzF qzZ)⟩,⟨11,(.av false [55,53,54]),qzS 64 (.call 57 false [((qzT 62),none),((qzT 63),none)])⟩,⟨14,.no,qzN (.store qzF (qzT 14) (qzT 56))⟩,⟨15,.no,qzN (.store qzF (qzT 15) (qzT 64))⟩]) (.seq (.drgn 16 [⟨0,.no,qzS 65 (.mv (qzT 7))⟩,⟨1,.no,qzS 66 (.mv (qzT 13))⟩,⟨2,.no,qzS 67 (.mv (qzT 7))⟩,⟨3,.no,qzS 68 (.mv (qzT 13))⟩,⟨4,.no,qzS 69 (.mv (qzT 8))⟩,⟨5,.no,qzS 70 (.bin .add (qzT 68) (qzT 69))⟩,⟨6,.no,qzS 71 (.load qzF (qzT 14))⟩,⟨7,.no,qzS 72 (.load qzF (qzT 15))⟩,⟨9,.no,qzS 74 (.load qzF (qzT 14))⟩,⟨10,.no,qzS 75 (.load qzF (qzT 15))⟩,⟨8,(.av false [15,14]),qzS 73 (.call 60 false [((qzT 71),none),((qzT 72),none)])⟩,⟨11,.no,qzS 76 (.call 63 false [((qzT 74),none),((qzT 75),none)])⟩,⟨12,.no,qzS 77 (.iaddrs qzF (qzT 65) (qzT 66))⟩,⟨13,.no,qzN (.store qzF (qzT 77) (qzT 73))⟩,⟨14,.no,qzS 78 (.iaddrs qzF (qzT 67) (qzT 70))⟩,⟨15,.no,qzN (.store qzF (qzT 78) (qzT 76))⟩]) (.rgn [qzS 79 (.load qzF (qzT 12)),qzS 80 (.load qzF (qzT 9)),qzS 81 (.call 57 false [((qzT 79),none),((qzT 80),none)]),qzN (.store qzF (qzT 12) (qzT 81))])))) (.rgn [qzS 51 (.mv (qzT 13)),qzS 52 (.bin .add (qzT 51) (qzI 1)),qzS 13 (.mv (qzT 52))])))))))) (.rgn [qzS 40 (.mv (qzT 11)),qzS 41 (.mv (qzT 8)),qzS 42 (.bin .mul (qzI 2) (qzT 41)),qzS 43 (.bin .add (qzT 40) (qzT 42)),qzS 11 (.mv (qzT 43))])))))) (.seq (.rgn [qzS 82 (.mv (qzT 8)),qzS 83 (.bin .mul (qzT 82) (qzI 2)),qzS 8 (.mv (qzT 83))]) (.goto 0)))))))))))
theorem Zqe:f120.body.bind (Zc TT 90) = some Zlf:=by kernel_rfl
theorem Zus (h:pwp prog Zlf (retQ [.tmp 6] own K) (stIn 84 args own)):PSpec prog 120 args own K:=spec func120 Zqe (by kernel_rfl) (by kernel_rfl) h
def Zlg:Pc:=(.seq (.rgn [qzS 2 (.nil 28 qzF),qzS 3 (.mv (qzI 0))]) (.seq (.rgn [qzS 12 (.mv (qzT 0)),qzS 13 (.len (qzT 12)),qzS 14 (.call 119 false [((qzT 13),none)]),qzS 4 (.mv (qzT 14))]) (.seq (.seq (.rgn [qzS 15 (.mv (qzT 4)),qzS 16 (.bin .lss (qzT 15) (qzI 0))]) (.cond (qzT 16) (.seq (.rgn [qzS 2 (.nil 28 qzF),qzS 3 (.mv (qzI 1))]) .ret) .skip)) (.seq (.rgn [qzS 18 (.mv (qzT 4)),qzS 19 (.call 48 false [((qzT 18),none)]),qzS 17 (.mv (qzT 19)),qzS 20 (.ext (qzT 17) 0),qzS 21 (.ext (qzT 17) 1),qzS 5 (.alloc qzF qzZ),qzN (.store qzF (qzT 5) (qzT 20)),qzS 6 (.mv (qzT 21))]) (.seq (.rgn [qzS 23 (.load qzF (qzT 5)),qzS 24 (.call 106 false [((qzT 23),none)]),qzS 22 (.mv (qzT 24)),qzS 25 (.ext (qzT 22) 0),qzS 26 (.ext (qzT 22) 1),qzN (.store qzF (qzT 5) (qzT 25))]) (.seq (.rgn [qzS 28 (.mv (qzT 0)),qzS 29 (.len (qzT 28)),qzS 30 (.cvi .u64 (qzT 29)),qzS 31 (.call 54 false [((qzT 30),none)]),qzS 32 (.call 106 false [((qzT 31),none)]),qzS 27 (.mv (qzT 32)),qzS 33 (.ext (qzT 27) 0),qzS 34 (.ext (qzT 27) 1),qzS 7 (.alloc qzF qzZ),qzN (.store qzF (qzT 7) (qzT 33)),qzS 8 (.mv (qzT 34))]) (.seq (.rgn [qzS 35 (.mv (qzT 0)),qzS 36 (.mv (qzT 4)),qzS 37 (.load qzF (qzT 5)),qzS 38 (.call 120 false [((qzT 35),(some qzF)),((qzT 36),none),((qzT 37),none)]),qzS 9 (.mv (qzT 38))]) (.seq (.seq (.rgn [qzS 39 (.mv (qzT 9)),qzS 40 (.len (qzT 39)),qzS 41 (.mv (qzI 0))]) (.block 0 (.loop (.seq (.rgn [qzS 42 (.bin .lss (qzT 41) (qzT 40))]) (.seq (.cond (qzT 42) .skip (.exit 0)) (.seq (.block 1 (.seq (.rgn [qzS 43 (.mv (qzT 41)),qzS 44 (.iaddrs qzF (qzT 39) (qzT 41)),qzS 45 (.load qzF (qzT 44)),qzS 11 (.alloc qzF qzZ),qzS 10 (.mv (qzT 43)),qzN (.store qzF (qzT 11) (qzT 45))]) (.rgn [qzS 46 (.mv (qzT 9)),qzS 47 (.mv (qzT 10)),qzS 48 (.load qzF (qzT 11)),qzS 49 (.load qzF (qzT 7)),qzS 50 (.call 57 false [((qzT 48),none),((qzT 49),none)]),qzS 51 (.iaddrs qzF (qzT 46) (qzT 47)),qzN (.store qzF (qzT 51) (qzT 50))]))) (.rgn [qzS 52 (.bin .add (qzT 41) (qzI 1)),qzS 41 (.mv (qzT 52))]))))))) (.seq (.rgn [qzS 53 (.mv (qzT 9)),qzS 2 (.mv (qzT 53)),qzS 3 (.mv (qzI 0))]) .ret)))))))))
theorem Zqf:f100.body.bind (Zc TT 90) = some Zlg:=by kernel_rfl
theorem Zut (h:pwp prog Zlg (retQ [.tmp 2,.tmp 3] own K) (stIn 54 args own)):PSpec prog 100 args own K:=spec func100 Zqf (by kernel_rfl) (by kernel_rfl) h
def Zdm:Pc:=(.seq (.rgn [qzS 2 (.mv (qzI 0))]) (.seq (.seq (.rgn [qzS 3 (.mv (qzI 0))]) (.block 0 (.loop (.seq (.seq (.rgn [qzS 4 (.mv (qzT 3)),qzS 5 (.bin .leq (qzT 4) (qzI 9))]) (.cond (qzT 5) .skip (.exit 0))) (.seq (.block 1 (.seq (.rgn [qzS 8 (.mv (qzT 0)),qzS 9 (.mv (qzT 3)),qzS 10 (.bin .shl (qzI 1) (qzT 9)),qzS 11 (.bin .eql (qzT 8) (qzT 10))]) (.cond (qzT 11) (.seq (.rgn [qzS 12 (.mv (qzT 3)),qzS 2 (.mv (qzT 12))]) .ret) .skip))) (.rgn [qzS 6 (.mv (qzT 3)),qzS 7 (.bin .add (qzT 6) (qzI 1)),qzS 3 (.mv (qzT 7))])))))) (.seq (.rgn [qzS 2 (.mv (qzI (-1)))]) .ret)))
theorem Zhp:f123.body.bind (Zc TT 90) = some Zdm:=by kernel_rfl
theorem Zkc (h:pwp prog Zdm (retQ [.tmp 2] own K) (stIn 13 args own)):PSpec prog 123 args own K:=spec func123 Zhp (by kernel_rfl) (by kernel_rfl) h
def Zd7:Pc:=(.seq (.rgn [qzS 2 (.nil 28 qzF),qzS 3 (.mv (qzI 0))]) (.seq (.rgn [qzS 10 (.mv (qzT 0)),qzS 11 (.len (qzT 10)),qzS 12 (.call 123 false [((qzT 11),none)]),qzS 4 (.mv (qzT 12))]) (.seq (.seq (.rgn [qzS 13 (.mv (qzT 4)),qzS 14 (.bin .lss (qzT 13) (qzI 0))]) (.cond (qzT 14) (.seq (.rgn [qzS 2 (.nil 28 qzF),qzS 3 (.mv (qzI 1))]) .ret) .skip)) (.seq (.rgn [qzS 16 (.mv (qzT 4)),qzS 17 (.call 58 false [((qzT 16),none)]),qzS 15 (.mv (qzT 17)),qzS 18 (.ext (qzT 15) 0),qzS 19 (.ext (qzT 15) 1),qzS 5 (.alloc qzF qzZ),qzN (.store qzF (qzT 5) (qzT 18)),qzS 6 (.mv (qzT 19))]) (.seq (.rgn [qzS 7 (.nil 28 qzF)]) (.seq (.rgn [qzS 20 (.call 37 false [((.cst (.val (.int .u64 1))),none)]),qzS 8 (.alloc qzF qzZ),qzN (.store qzF (qzT 8) (qzT 20))]) (.seq (.seq (.rgn [qzS 9 (.mv (qzI 0))]) (.block 0 (.loop (.seq (.seq (.rgn [qzS 21 (.mv (qzT 9)),qzS 22 (.mv (qzT 0)),qzS 23 (.len (qzT 22)),qzS 24 (.bin .lss (qzT 21) (qzT 23))]) (.cond (qzT 24) .skip (.exit 0))) (.seq (.block 1 (.seq (.rgn [qzS 27 (.mv (qzT 7)),qzS 28 (.mv (qzT 0)),qzS 29 (.load qzF (qzT 8)),qzS 30 (.call 16 false [((qzT 28),(some qzF)),((qzT 29),none)]),qzS 31 (.bsl 28 qzF qzZ 1 [(0,(qzT 30))]),qzS 32 (.app 28 qzF 32 (qzT 27) (qzT 31)),qzS 7 (.mv (qzT 32))]) (.rgn [qzS 33 (.load qzF (qzT 8)),qzS 34 (.load qzF (qzT 5)),qzS 35 (.call 41 false [((qzT 33),none),((qzT 34),none)]),qzN (.store qzF (qzT 8) (qzT 35))]))) (.rgn [qzS 25 (.mv (qzT 9)),qzS 26 (.bin .add (qzT 25) (qzI 1)),qzS 9 (.mv (qzT 26))])))))) (.seq (.rgn [qzS 36 (.mv (qzT 7)),qzS 2 (.mv (qzT 36)),qzS 3 (.mv (qzI 0))]) .ret))))))))
theorem Zil:f113.body.bind (Zc TT 90) = some Zd7:=by kernel_rfl
theorem Zk2 (h:pwp prog Zd7 (retQ [.tmp 2,.tmp 3] own K) (stIn 37 args own)):PSpec prog 113 args own K:=spec func113 Zil (by kernel_rfl) (by kernel_rfl) h
def Zcy:Pc:=(.seq (.rgn [qzS 2 (.nil 28 qzF),qzS 3 (.mv (qzI 0))]) (.seq (.rgn [qzS 12 (.mv (qzT 0)),qzS 13 (.call 113 false [((qzT 12),(some qzF))]),qzS 11 (.mv (qzT 13)),qzS 14 (.ext (qzT 11) 0),qzS 15 (.ext (qzT 11) 1),qzS 4 (.mv (qzT 14)),qzS 5 (.mv (qzT 15))]) (.seq (.seq (.rgn [qzS 16 (.mv (qzT 5)),qzS 17 (.bin .neq (qzT 16) (qzI 0))]) (.cond (qzT 17) (.seq (.rgn [qzS 18 (.mv (qzT 5)),qzS 2 (.nil 28 qzF),qzS 3 (.mv (qzT 18))]) .ret) .skip)) (.seq (.rgn [qzS 19 (.mv (qzT 0)),qzS 20 (.len (qzT 19)),qzS 6 (.mv (qzT 20))]) (.seq (.rgn [qzS 22 (.mv (qzT 6)),qzS 23 (.cvi .u64 (qzT 22)),qzS 24 (.call 37 false [((qzT 23),none)]),qzS 25 (.call 109 false [((qzT 24),none)]),qzS 21 (.mv (qzT 25)),qzS 26 (.ext (qzT 21) 0),qzS 27 (.ext (qzT 21) 1),qzS 7 (.alloc qzF qzZ),qzN (.store qzF (qzT 7) (qzT 26)),qzS 8 (.mv (qzT 27))]) (.seq (.rgn [qzS 28 (.mv (qzT 6)),qzS 29 (.mksl 28 qzF 32 qzZ (qzT 28) (qzT 28)),qzS 9 (.mv (qzT 29))]) (.seq (.seq (.rgn [qzS 10 (.mv (qzI 0))]) (.block 0 (.loop (.seq (.seq (.rgn [qzS 30 (.mv (qzT 10)),qzS 31 (.mv (qzT 6)),qzS 32 (.bin .lss (qzT 30) (qzT 31))]) (.cond (qzT 32) .skip (.exit 0))) (.seq (.block 1 (.drgn 14 [⟨0,.no,qzS 35 (.mv (qzT 9))⟩,⟨1,.no,qzS 36 (.mv (qzT 10))⟩,⟨2,.no,qzS 37 (.mv (qzT 4))⟩,⟨3,.no,qzS 38 (.mv (qzT 6))⟩,⟨4,.no,qzS 39 (.mv (qzT 10))⟩,⟨5,.no,qzS 40 (.bin .sub (qzT 38) (qzT 39))⟩,⟨6,.no,qzS 41 (.mv (qzT 6))⟩,⟨7,.no,qzS 42 (.bin .rem (qzT 40) (qzT 41))⟩,⟨8,.no,qzS 43 (.iaddrs qzF (qzT 37) (qzT 42))⟩,⟨9,.no,qzS 44 (.load qzF (qzT 43))⟩,⟨10,.no,qzS 45 (.load qzF (qzT 7))⟩,⟨11,.no,qzS 46 (.call 41 false [((qzT 44),none),((qzT 45),none)])⟩,⟨12,.no,qzS 47 (.iaddrs qzF (qzT 35) (qzT 36))⟩,⟨13,.no,qzN (.store qzF (qzT 47) (qzT 46))⟩])) (.rgn [qzS 33 (.mv (qzT 10)),qzS 34 (.bin .add (qzT 33) (qzI 1)),qzS 10 (.mv (qzT 34))])))))) (.seq (.rgn [qzS 48 (.mv (qzT 9)),qzS 2 (.mv (qzT 48)),qzS 3 (.mv (qzI 0))]) .ret))))))))
theorem Zgk:f83.body.bind (Zc TT 90) = some Zcy:=by kernel_rfl
theorem Ziw (h:pwp prog Zcy (retQ [.tmp 2,.tmp 3] own K) (stIn 49 args own)):PSpec prog 83 args own K:=spec func83 Zgk (by kernel_rfl) (by kernel_rfl) h
end Go.Proofs.Tryz.PMT
