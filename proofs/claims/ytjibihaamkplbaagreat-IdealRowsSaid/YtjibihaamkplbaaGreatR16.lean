/- Contracts of intaglioref12.Cut, At, Divide. No conditions beyond what each names. -/
import Derived.Test.YtjibihaamkplbaaGreatR15
import Derived.Test.YtjibihaamkplbaaGreatR0
import Derived.Test.YtjibihaamkplbaaGreatR13
import Derived.Test.YtjibihaamkplbaaGreatR11
set_option linter.all false
namespace Go.Proofs.Tryz.PMT
open Go Go.Proofs.PM Go.Proofs.PL Go.Proofs.Tryz
variable {K:PV→List Ob→Prop}
set_option maxRecDepth 4000
theorem Zm9 {l:List F} (hl:l.length ≤ 4398046511104) (hK:K (.osl 0 [] 0 (cut l).length) [.row 25 (.arr 4 .one) (ffs (cut l))]):PSpec prog 64 [.vsl false (.arr 4 .one) (ffs l)] [] K:=by
 refine Zis ?_
 simp only [yS,yN,yG,yT,yI,yF,yZ,yM,yU,yL,yB,yR,Zer]
 simp -implicitDefEqProofs only [go_sem,Nat.reduceSub]
 refine Zx (ι:={ n:Nat // n ≤ l.length ∧ top l n = top l l.length }) [3,6,7,8,9,10,11,12,13,14,15,16,17,18] (fun n=>[(3,i64 n.1)]) (fun _=>[(0,.ob (.row 25 (.arr 4 .one) []))]) 1 (fun n=>n.1) ⟨l.length,Nat.le_refl _,rfl⟩ ?_ ?_
 ·rw [Zg]
  refine Ze [(0,0)] rfl rfl rfl ?_ ?_
  ·simp -implicitDefEqProofs only [go_sem,Nat.reduceLT]
  ·simp -implicitDefEqProofs only [go_sem]
 ·intro ⟨n,hn,ht⟩ G hG
  dsimp only at hG
  rcases n with _ | k
  ·have htop:top l 0 = 0:=rfl
   have hcut:cut l = l.take 0:=by rw [cut,← ht,htop]
   have hc:(l.take 0).length = 0:=by rw [List.length_take]; omega
   simp -implicitDefEqProofs only [go_sem,Nat.reduceAdd,Nat.reduceMul,Nat.reduceEqDiff,Int.reduceLE,Int.reduceGT,hc]
   repeat (with_reducible refine And.intro (by first | omega | decide) ?_)
   rw [hcut,hc] at hK
   refine Z4 [(2,0)] [.row 25 (.arr 4 .one) (ffs (l.take 0))] [.osl 0 [] 0 0] rfl rfl ?_ ?_ hK
   ·simp -implicitDefEqProofs only [go_sem,Nat.reduceEqDiff,Nat.reduceLT]
   ·simp -implicitDefEqProofs only [go_sem]
  ·have hw:IntKind.i64.wrap (((k + 1:Nat):Int) - 1) = (k:Int):=by rw [wrs (by omega) (by omega)]; omega
   have hk:((k:Int) < (l.length:Int)):=by omega
   simp -implicitDefEqProofs only [go_sem,Z2i,hw,Zn,Zu (show k < l.length by omega),hk]
   refine Zk (fun h=>?_) (fun h=>?_)
   ·simp only [decide_eq_true_eq] at h
    simp -implicitDefEqProofs only [go_sem,hw]
    refine hG _ ⟨k,by omega,by rw [← ht,top,if_pos h]⟩ (by simp only; omega) ?_
    rw [Zg]
    refine Ze [(0,0)] rfl rfl rfl ?_ ?_
    ·simp -implicitDefEqProofs only [go_sem,Nat.reduceLT]
    ·simp -implicitDefEqProofs only [go_sem]
   ·simp only [decide_eq_false_iff_not] at h
    have htop:top l (k + 1) = k + 1:=by rw [top,if_neg h]
    have hcut:cut l = l.take (k + 1):=by rw [cut,← ht,htop]
    have hc:(l.take (k + 1)).length = k + 1:=by rw [List.length_take]; omega
    simp -implicitDefEqProofs only [go_sem,Nat.reduceAdd,Nat.reduceEqDiff,Nat.reduceLeDiff,Int.reduceLE,hc]
    repeat (with_reducible refine And.intro (by first | omega | decide) ?_)
    rw [hcut,hc] at hK
    refine Z4 [(2,0)] [.row 25 (.arr 4 .one) (ffs (l.take (k + 1)))] [.osl 0 [] 0 (k + 1)] rfl rfl ?_ ?_ hK
    ·simp -implicitDefEqProofs only [go_sem,Nat.reduceEqDiff,Nat.reduceLT]
    ·simp -implicitDefEqProofs only [go_sem]
theorem Z0i {l:List F} {x:F} (hl:l.length ≤ 4398046511104) (hK:K (ff (hor x l)) []):PSpec prog 101 [.vsl false (.arr 4 .one) (ffs l),ff x] [] K:=by
 refine Zjh ?_
 simp only [yS,yN,yG,yT,yI,yF,yZ,yM,yU,yL,yB,yR,Zfc]
 have hw:IntKind.i64.wrap ((l.length:Int) - 1) = (l.length:Int) - 1:=wrs (by omega) (by omega)
 simp -implicitDefEqProofs only [go_sem,Nat.reduceAdd,Nat.reduceSub,Nat.reduceEqDiff,Zn,hw]
 refine Zx (ι:={ i:Nat // i ≤ l.length }) [6,10,11,12,13,14,15,16,17,18,19,20,21] (fun i=>[(6,i64 ((i.1:Int) - 1))])
  (fun i=>[(0,.ob (.var (.arr 4 .one) (ff x))),(1,.ob (.var (.arr 4 .one) (ff 0))),(2,.ob (.var (.arr 4 .one) (ff (hor x (l.drop i.1)))))]) 3 (fun i=>i.1) ⟨l.length,Nat.le_refl _⟩ ?_ ?_
 ·rw [Zg]
  refine Ze [(0,0),(1,1),(2,2)] rfl rfl rfl ?_ ?_
  ·simp -implicitDefEqProofs only [go_sem,Nat.reduceEqDiff,Nat.reduceLT,Znb x l _ (Nat.le_refl _)]
  ·simp -implicitDefEqProofs only [go_sem,Nat.reduceEqDiff]
 intro ⟨i,hi⟩ G hG
 dsimp only at hi hG
 rcases i with _ | k
 ·simp -implicitDefEqProofs only [go_sem,Nat.reduceEqDiff,Int.reduceSub,Int.reduceNeg,Int.reduceGE]
  refine Zd rfl ?_
  simp only [Zcd]
  exact hK
 ·have h1:((k + 1:Nat):Int) - 1 = (k:Int):=by omega
  have h2:IntKind.i64.wrap ((k:Int) - 1) = (k:Int) - 1:=wrs (by omega) (by omega)
  have hge:decide ((k:Int) ≥ 0) = true:=by simp
  have hk:k < l.length:=by omega
  have hk2:(k:Int) < (l.length:Int):=by omega
  have hd:=Zma x l k hk
  simp -implicitDefEqProofs only [go_sem,Nat.reduceAdd,Nat.reduceMul,Nat.reduceEqDiff,Nat.reduceLT,h1,Zu hk,hk2]
  refine Zbq ?_
  simp -implicitDefEqProofs only [go_sem,Nat.reduceAdd,Nat.reduceMul,Nat.reduceLT]
  refine Zb6 ?_
  simp -implicitDefEqProofs only [go_sem,Nat.reduceAdd,Nat.reduceMul,Nat.reduceEqDiff,h2]
  refine hG _ ⟨k,by omega⟩ (by simp only; omega) ?_
  rw [Zg]
  refine Ze [(0,0),(1,1),(2,2)] rfl rfl rfl ?_ ?_
  ·simp -implicitDefEqProofs only [go_sem,Nat.reduceEqDiff,Nat.reduceLT,ob_eq,Ob.var.injEq]
   rw [hd]
   exact congrArg ff (by grind)
  ·simp -implicitDefEqProofs only [go_sem,Nat.reduceEqDiff]
end Go.Proofs.Tryz.PMT
namespace Go.Proofs.Tryz.PMT
open Go Go.Proofs.PM Go.Proofs.PL Go.Proofs.Tryz
variable {K:PV→List Ob→Prop}
set_option maxRecDepth 4000
theorem Zhh {n:Nat} (h0:0 < n) (hn:n ≤ 1000000) (hK:K (.osl 0 [] 0 (n + 1)) [.row 25 (.arr 4 .one) (ffs (vnl n))]):PSpec prog 14 [i64 n] [] K:=by
 obtain ⟨N,hN⟩:∃ N,N = n + 1:=⟨_,rfl⟩
 rw [vnl,← hN] at hK
 refine Zfh ?_
 simp only [yS,yN,yG,yT,yI,yF,yZ,yM,yU,yL,yB,yR,Zch]
 have w1:IntKind.i64.wrap ((n:Int) + 1) = (N:Int):=by rw [wrs (by omega) (by omega)]; omega
 have h1:(0:Int) < (N:Int):=by omega
 have h2:(n:Int) < (N:Int):=by omega
 simp -implicitDefEqProofs only [go_sem,Nat.reduceAdd,Nat.reduceSub,Nat.reduceEqDiff,Nat.reduceLT,w1,Zn]
 repeat (with_reducible refine And.intro (by first | omega | decide) ?_)
 refine Zbb (Zt rfl) ?_
 simp -implicitDefEqProofs only [go_sem,Nat.reduceLT,Zf3]
 refine Zhy ?_
 simp -implicitDefEqProofs only [go_sem,Nat.reduceLT]
 refine Zbb (Zt rfl) ?_
 simp -implicitDefEqProofs only [go_sem,Nat.reduceEqDiff,Int.reduceLE,Zf3,h1,h2]
 repeat (with_reducible refine And.intro (by first | omega | decide) ?_)
 refine Z4 [(1,0)] [.row 25 (.arr 4 .one) (ffs (((List.replicate N (0:F)).set 0 (0 - 1)).set n 1))] [.osl 0 [] 0 N] rfl rfl ?_ ?_ hK
 ·simp -implicitDefEqProofs only [go_sem,Nat.reduceEqDiff,Nat.reduceLT]
 ·simp -implicitDefEqProofs only [go_sem]
theorem Zxp {A B:List F} (ha:A.length ≤ 1000000) (hb:B.length ≤ 1000000) (hK:K (.osl 0 [] 0 (cut (mulL (A.length + B.length) A B)).length) [.row 25 (.arr 4 .one) (ffs (cut (mulL (A.length + B.length) A B)))]):PSpec prog 39 [.vsl false (.arr 4 .one) (ffs A),.vsl false (.arr 4 .one) (ffs B)] [] K:=by
 refine Ziq ?_
 simp only [yS,yN,yG,yT,yI,yF,yZ,yM,yU,yL,yB,yR,Zep]
 have w1:IntKind.i64.wrap ((A.length:Int) + (B.length:Int)) = ((A.length + B.length:Nat):Int):=by rw [wrs (by omega) (by omega)]; omega
 simp -implicitDefEqProofs only [go_sem,Nat.reduceAdd,Nat.reduceSub,Nat.reduceEqDiff,w1,Zn]
 repeat (with_reducible refine And.intro (by first | omega | decide) ?_)
 generalize hN:A.length + B.length = N at *
 refine Zx (ι:={ i:Nat // i ≤ A.length }) [4,6,7,14,15,16,17,18,19,20,21,22,23,24,25,26,27,28,29,30,31,32,33,34,35,36,37,38,39,40,41,42,43,44,45,46] (fun i=>[(6,i64 i.1)])
  (fun i=>[(1,.ob (.row 25 (.arr 4 .one) (ffs (mulI N A B i.1))))]) 2 (fun i=>A.length - i.1) ⟨0,Nat.zero_le _⟩ ?_ ?_
 ·rw [Zg]
  refine Ze [(1,1)] rfl rfl rfl ?_ ?_
  ·simp -implicitDefEqProofs only [go_sem,Nat.reduceEqDiff,Nat.reduceLT,mulI]
  ·simp -implicitDefEqProofs only [go_sem]
 intro ⟨i,hi⟩ G hG
 simp -implicitDefEqProofs only [go_sem]
 have ml:=Zkd N A B i
 refine Zk (fun h=>?_) (fun h=>?_)
 ·simp only [decide_eq_true_eq] at h
  have hii:i < A.length:=by omega
  have w3:IntKind.i64.wrap ((i:Int) + 1) = ((i + 1:Nat):Int):=by rw [wrs (by omega) (by omega)]; omega
  simp -implicitDefEqProofs only [go_sem,h,decide_true]
  refine Zx (ι:={ j:Nat // j ≤ B.length }) [4,7,20,21,22,23,24,25,26,27,28,29,30,31,32,33,34,35,36,37,38,39,40,41,42,43,44,45,46] (fun j=>[(7,i64 j.1)])
   (fun j=>[(1,.ob (.row 25 (.arr 4 .one) (ffs (mulJ (A.getD i 0) i B (mulI N A B i) j.1))))]) 2 (fun j=>B.length - j.1) ⟨0,Nat.zero_le _⟩ ?_ ?_
  ·rw [Zg]
   refine Ze [(1,1)] rfl rfl rfl ?_ ?_
   ·simp -implicitDefEqProofs only [go_sem,Nat.reduceLT,mulJ]
   ·simp -implicitDefEqProofs only [go_sem]
  intro ⟨j,hj⟩ G' hG'
  simp -implicitDefEqProofs only [go_sem]
  have mj:=Zkc (A.getD i 0) i B (mulI N A B i) j
  refine Zk (fun h'=>?_) (fun h'=>?_)
  ·simp only [decide_eq_true_eq] at h'
   have hjj:j < B.length:=by omega
   have hij:i + j < (mulJ (A.getD i 0) i B (mulI N A B i) j).length:=by omega
   have hijN:((i + j:Nat):Int) < (N:Int):=by omega
   have w4:IntKind.i64.wrap ((i:Int) + (j:Int)) = ((i + j:Nat):Int):=by rw [wrs (by omega) (by omega)]; omega
   have w5:IntKind.i64.wrap ((j:Int) + 1) = ((j + 1:Nat):Int):=by rw [wrs (by omega) (by omega)]; omega
   simp -implicitDefEqProofs only [go_sem,Nat.reduceAdd,Nat.reduceMul,Nat.reduceLT,Zu hii,Zu hjj,h,h',w4,Zu hij,hijN]
   refine Zbq ?_
   simp -implicitDefEqProofs only [go_sem,Nat.reduceAdd,Nat.reduceMul,Nat.reduceLT]
   refine Zb6 ?_
   simp -implicitDefEqProofs only [go_sem,Nat.reduceAdd,Nat.reduceMul,Zu hij,hijN,w5]
   refine hG' _ ⟨j + 1,by omega⟩ (by simp only; omega) ?_
   rw [Zg]
   refine Ze [(1,1)] rfl rfl rfl ?_ ?_
   ·simp -implicitDefEqProofs only [go_sem,Nat.reduceLT,mulJ]
   ·simp -implicitDefEqProofs only [go_sem]
  ·simp only [decide_eq_false_iff_not] at h'
   obtain rfl:j = B.length:=by omega
   clear hG'
   simp -implicitDefEqProofs only [go_sem,Nat.reduceEqDiff,Nat.reduceLT,w3]
   refine hG _ ⟨i + 1,by omega⟩ (by simp only; omega) ?_
   rw [Zg]
   refine Ze [(1,1)] rfl rfl rfl ?_ ?_
   ·simp -implicitDefEqProofs only [go_sem,Nat.reduceLT,mulI]
   ·simp -implicitDefEqProofs only [go_sem]
 simp only [decide_eq_false_iff_not] at h
 obtain rfl:i = A.length:=by omega
 clear hG
 have tk:(mulI N A B A.length).take N = mulI N A B A.length:=List.take_of_length_le (by omega)
 simp -implicitDefEqProofs only [go_sem,Nat.reduceLT,tk]
 refine Zm9 (by omega) ?_
 simp -implicitDefEqProofs only [go_sem,Nat.reduceAdd,Nat.reduceEqDiff,Nat.reduceLeDiff]
 refine Z4 [(2,0)] [.row 25 (.arr 4 .one) (ffs (cut (mulL N A B)))] [.osl 0 [] 0 (cut (mulL N A B)).length] rfl rfl ?_ ?_ hK
 ·simp -implicitDefEqProofs only [go_sem,Nat.reduceEqDiff,Nat.reduceLT,ob_eq,Ob.row.injEq]
  rfl
 ·simp -implicitDefEqProofs only [go_sem]
  rfl
theorem Z1m {k:Nat} (hk:k ≤ 9):binI .shl .i64 1 (k:Int) = .int .i64 ((2 ^ k:Nat):Int):=by
 have:k = 0 ∨ k = 1 ∨ k = 2 ∨ k = 3 ∨ k = 4 ∨ k = 5 ∨ k = 6 ∨ k = 7 ∨ k = 8 ∨ k = 9:=by omega
 rcases this with rfl | rfl | rfl | rfl | rfl | rfl | rfl | rfl | rfl | rfl <;> rfl
theorem Zpl {a:List F} {log:Nat} (ha:a.length ≤ 1000000) (hlog:log ≤ 9) (hK:∀ q e,(q,e) = van (2 ^ log) a→K (.tup [.osl 0 [] 0 q.length,i64 e]) [.row 25 (.arr 4 .one) (ffs q)]):PSpec prog 44 [.vsl false (.arr 4 .one) (ffs a),i64 log] [] K:=by
 have hn0:0 < 2 ^ log:=Nat.two_pow_pos _
 have hn9:2 ^ log ≤ 2 ^ 9:=Nat.pow_le_pow_right (by decide) hlog
 have la:=Zbc a
 have hshl:=Z1m hlog
 simp only [van] at hK
 refine Znv ?_
 simp only [yS,yN,yG,yT,yI,yF,yZ,yM,yU,yL,yB,yR,Zix]
 generalize hn:2 ^ log = n at *
 have hn512:n ≤ 512:=hn9
 refine Zkk (ι:={ k:Nat // k ≤ (cut a).length - n }) (fun k=>⟨[.any,.any,.any,.any,.any,.any,.osl 1 [] 0 (cut a).length,i64 n,.osl 2 [] 0 ((cut a).length - n),i64 (((cut a).length - n - k.1:Nat):Int),.any,.any,.any,.any,.any,.any,.any,.any,.any,.any,.any,.any,.any,.any,.any,.any,.any,.any,.any,.any,.any,.any,.any,.any,.any,.any,.any,.any,.any,.any,.any,.any,.any,.any,.any,.any,.any,.any,.any,.any,.any,.any,.any,.any,.any,.any,.any,.any,.any,.any,.any,.any,.any,.any,.any],
  osB [(1,.ob (.row 25 (.arr 4 .one) (ffs (vanS n ((cut a).length - n) (cut a) k.1).2))),(2,.ob (.row 25 (.arr 4 .one) (ffs (vanS n ((cut a).length - n) (cut a) k.1).1)))],3,0⟩) (fun k=>(cut a).length - n - k.1) ?_ ?_
 ·intro ⟨k,hk⟩ G hG
  simp -implicitDefEqProofs only [go_sem]
  dsimp only at hk hG
  generalize cut a = A at *
  obtain ⟨m,hm⟩:∃ m,A.length - n = m:=⟨_,rfl⟩
  rw [hm] at hk hG hK ⊢
  by_cases he:k = m
  ·subst he
   have h0:IntKind.i64.wrap (((k - k:Nat):Int) - 1) = -1:=by rw [Nat.sub_self]; rfl
   clear hG
   simp -implicitDefEqProofs only [go_sem,Nat.reduceEqDiff,Nat.reduceLT,Int.reduceNeg,Int.reduceGE,h0]
   have l1:=(Zhp n k A k).1
   have l2:=(Zhp n k A k).2
   generalize (vanS n k A k).1 = q at *
   generalize (vanS n k A k).2 = r at *
   have t1:q.take k = q:=by rw [← l1,List.take_length]
   have t2:r.take A.length = r:=by rw [← l2,List.take_length]
   simp -implicitDefEqProofs only [go_sem,Int.reduceNeg,t2]
   refine Zpo (by omega) ?_
   simp -implicitDefEqProofs only [go_sem,Int.reduceNeg]
   refine Zk (fun h=>?_) (fun h=>?_)
   ·simp only [decide_eq_true_eq] at h
    have hK:=hK [] 18 (by rw [if_neg (by omega)])
    simp -implicitDefEqProofs only [go_sem,Nat.reduceAdd,Nat.reduceEqDiff,Int.reduceNeg]
    refine Z4 [(3,0)] [.row 25 (.arr 4 .one) []] [.osl 0 [] 0 0,i64 18] rfl rfl ?_ ?_ hK
    ·simp -implicitDefEqProofs only [go_sem,Nat.reduceEqDiff,Nat.reduceLT]
    ·simp -implicitDefEqProofs only [go_sem]
   ·simp only [decide_eq_false_iff_not] at h
    have hK:=hK (cut q) 0 (by rw [if_pos (by omega)])
    simp -implicitDefEqProofs only [go_sem,Nat.reduceEqDiff,Nat.reduceLT,Int.reduceNeg,t1]
    refine Zbf (by omega) ?_
    simp -implicitDefEqProofs only [go_sem,Nat.reduceAdd,Nat.reduceEqDiff,Nat.reduceLeDiff,Int.reduceNeg]
    refine Z4 [(3,0)] [.row 25 (.arr 4 .one) (ffs (cut q))] [.osl 0 [] 0 (cut q).length,i64 0] rfl rfl ?_ ?_ hK
    ·simp -implicitDefEqProofs only [go_sem,Nat.reduceEqDiff,Nat.reduceLT]
    ·simp -implicitDefEqProofs only [go_sem]
  ·clear hK
   obtain ⟨i,hi⟩:∃ i,m - (k + 1) = i:=⟨_,rfl⟩
   have hw:IntKind.i64.wrap (((m - k:Nat):Int) - 1) = (i:Int):=by rw [wrs (by omega) (by omega)]; omega
   have hge:decide ((i:Int) ≥ 0) = true:=by simp
   have w1:IntKind.i64.wrap ((i:Int) + (n:Int)) = ((i + n:Nat):Int):=by rw [wrs (by omega) (by omega)]; omega
   have l1:=(Zhp n m A k).1
   have l2:=(Zhp n m A k).2
   have hS:vanS n m A (k + 1) = ((vanS n m A k).1.set i ((vanS n m A k).2.getD (i + n) 0),((vanS n m A k).2.set i ((vanS n m A k).2.getD i 0 + (vanS n m A k).2.getD (i + n) 0)).set (i + n) 0):=by rw [← hi]; rfl
   have hS1:=congrArg Prod.fst hS
   have hS2:=congrArg Prod.snd hS
   dsimp only at hS1 hS2
   clear hS
   generalize (vanS n m A k).1 = q at *
   generalize (vanS n m A k).2 = r at *
   have hin:i + n < r.length:=by omega
   have hi2:i < r.length:=by omega
   have b1:((i + n:Nat):Int) < (A.length:Int):=by omega
   have b2:(i:Int) < (A.length:Int):=by omega
   have b3:(i:Int) < (m:Int):=by omega
   have hq:i < (q.set i (r.getD (i + n) 0)).length:=by rw [List.length_set]; omega
   have hqg:(q.set i (r.getD (i + n) 0)).getD i 0 = r.getD (i + n) 0:=Zpw (by omega)
   simp -implicitDefEqProofs only [go_sem,Nat.reduceAdd,Nat.reduceMul,Nat.reduceEqDiff,Nat.reduceLT,hw,w1,Zu hin,Zu hi2,b1,b2,b3,Zu hq,hqg,Zn]
   refine Zl9 ?_
   simp -implicitDefEqProofs only [go_sem,Nat.reduceAdd,Nat.reduceMul,Nat.reduceEqDiff,Zu hi2,b1,b2]
   refine hG _ ⟨k + 1,by omega⟩ (by simp only; omega) ?_
   refine Ze [(1,1),(2,2)] rfl rfl rfl ?_ ?_
   ·simp -implicitDefEqProofs only [go_sem,Nat.reduceEqDiff,Nat.reduceLT,hS1,hS2]
   ·simp -implicitDefEqProofs only [go_sem,Nat.reduceEqDiff,hi]
 ·intro G hG
  have w0:IntKind.u64.wrap (log:Int) = (log:Int):=wru (by omega) (by omega)
  have h1:¬ ((log:Int) < 0):=by omega
  have h2:¬ ((log:Int) > 9):=by omega
  simp -implicitDefEqProofs only [go_sem,Nat.reduceAdd,Nat.reduceSub,Nat.reduceLT,h1,h2]
  refine Zbf (by omega) ?_
  generalize cut a = A at *
  have w2:IntKind.i64.wrap ((A.length:Int) - (n:Int)) = (A.length:Int) - (n:Int):=wrs (by omega) (by omega)
  have hmx:(if (0:Int) > (A.length:Int) - (n:Int) then 0 else (A.length:Int) - (n:Int)) = ((A.length - n:Nat):Int):=by split <;> omega
  simp -implicitDefEqProofs only [go_sem,Nat.reduceAdd,Nat.reduceEqDiff,Nat.reduceLeDiff,w0,↓hshl,w2,hmx,Zn]
  repeat (with_reducible refine And.intro (by first | omega | decide) ?_)
  refine Zq5 _ ?_ (Zm2 (hG ⟨0,Nat.zero_le _⟩))
  refine Ze [(1,1),(2,2)] rfl rfl rfl ?_ ?_
  ·simp -implicitDefEqProofs only [go_sem,Nat.reduceEqDiff,Nat.reduceLT,vanS]
  ·simp -implicitDefEqProofs only [go_sem,Nat.reduceEqDiff]
end Go.Proofs.Tryz.PMT
namespace Go.Proofs.Tryz.PMT
open Go Go.Proofs.PM Go.Proofs.PL Go.Proofs.Tryz
variable {K:PV→List Ob→Prop}
set_option maxRecDepth 4000
theorem Zkj {l:List F} {i:Nat} (hl:l.length ≤ 4398046511104) (hK:K (ff (l.getD i 0)) []):PSpec prog 107 [.vsl false (.arr 4 .one) (ffs l),i64 i] [] K:=by
 refine Zu7 ?_
 simp only [yS,yN,yG,yT,yI,yF,yZ,yM,yU,yL,yB,yR,Zob]
 simp -implicitDefEqProofs only [go_sem,Nat.reduceAdd,Nat.reduceSub]
 refine Zk (fun h=>?_) (fun h=>?_)
 ·simp only [decide_eq_true_eq] at h
  have hi:i < l.length:=by omega
  simp -implicitDefEqProofs only [go_sem,h,Zu hi]
  exact Zd rfl hK
 ·simp only [decide_eq_false_iff_not] at h
  rw [Zbw (by omega)] at hK
  simp -implicitDefEqProofs only [go_sem,Zn]
  exact Zd rfl hK
@[go_sem] theorem Z1a {ρ:Nat→Option Nat} {fr:Bool} {os:Nat→Option Ob} {k:F}:cnv ρ fr os 3 (.vp false (ff k)) = .vp false (ff k):=by
 have h:cnvW ρ fr os (cnv ρ fr os 2) (ff k) = ff k:=@cnv_ff ρ fr os 3 k
 show cnvW ρ fr os (cnv ρ fr os 2) (.vp false (ff k)) = _
 rw [cnvW,h]; rfl
@[go_sem] theorem cnv_fnff {ρ:Nat→Option Nat} {fr:Bool} {os:Nat→Option Ob} {f:FuncId} {k:F}:cnv ρ fr os 3 (.fn f [.vp false (ff k)]) = .fn f [.vp false (ff k)]:=by
 have h:cnvW ρ fr os (cnv ρ fr os 2) (.vp false (ff k)) = .vp false (ff k):=@Z1a ρ fr os k
 show cnvW ρ fr os (cnv ρ fr os 2) (.fn f [.vp false (ff k)]) = _
 rw [cnvW,cnvL,cnvL,h]
@[go_sem] theorem leaf_vpff {k:F}:(PV.vp false (ff k)).leaf = true:=rfl
theorem Zlv {a b:List F} {g:F→F→F} {f:FuncId} (ha:a.length ≤ 1000000) (hb:b.length ≤ 1000000)
  (hf:∀ (x y:F) (K:PV→List Ob→Prop),K (ff (g x y)) []→PSpec prog f [ff x,ff y] [] K)
  (hK:K (.osl 0 [] 0 (cut (bth g a b)).length) [.row 25 (.arr 4 .one) (ffs (cut (bth g a b)))]):PSpec prog 98 [.vsl false (.arr 4 .one) (ffs a),.vsl false (.arr 4 .one) (ffs b),.fn f []] [] K:=by
 refine Zlm ?_
 simp only [yS,yN,yG,yT,yI,yF,yZ,yM,yU,yL,yB,yR,Zhb]
 rw [bth] at hK
 obtain ⟨N,hN⟩:∃ N,max a.length b.length = N:=⟨_,rfl⟩
 rw [hN] at hK
 have hx:(if (b.length:Int) > (a.length:Int) then (b.length:Int) else (a.length:Int)) = (N:Int):=by
  rw [← hN]
  by_cases h:(b.length:Int) > (a.length:Int)
  ·rw [if_pos h,Nat.max_eq_right (by omega)]
  ·rw [if_neg h,Nat.max_eq_left (by omega)]
 have hN2:N ≤ 1000000:=by omega
 obtain ⟨r,hr⟩:∃ r:Nat→F,(fun i=>g (a.getD i 0) (b.getD i 0)) = r:=⟨_,rfl⟩
 rw [hr] at hK
 have hri:∀ i,g (a.getD i 0) (b.getD i 0) = r i:=fun i=>by rw [← hr]
 simp -implicitDefEqProofs only [go_sem,Nat.reduceAdd,Nat.reduceSub,Nat.reduceEqDiff,hx,Zn]
 repeat (with_reducible refine And.intro (by first | omega | decide) ?_)
 refine Zx (ι:={ i:Nat // i ≤ N }) [6,8,17,18,19,20,21,22,23,24,25,26,27,28,29,30,31] (fun i=>[(17,i64 i.1)])
  (fun i=>[(1,.ob (.row 25 (.arr 4 .one) (ffs (fil N r i.1))))]) 2 (fun i=>N - i.1) ⟨0,Nat.zero_le _⟩ ?_ ?_
 ·rw [Zg]
  refine Ze [(1,1)] rfl rfl rfl ?_ ?_
  ·simp -implicitDefEqProofs only [go_sem,Nat.reduceEqDiff,Nat.reduceLT,fil]
  ·simp -implicitDefEqProofs only [go_sem]
 intro ⟨i,hi⟩ G hG
 have fl:=Zlg N r i
 simp -implicitDefEqProofs only [go_sem]
 refine Zk (fun h=>?_) (fun h=>?_)
 ·simp only [decide_eq_true_eq] at h
  have w3:IntKind.i64.wrap ((i:Int) + 1) = ((i + 1:Nat):Int):=by rw [wrs (by omega) (by omega)]; omega
  simp -implicitDefEqProofs only [go_sem,Nat.reduceLT,h]
  refine Zkj (by omega) ?_
  simp -implicitDefEqProofs only [go_sem,Nat.reduceLT]
  refine Zkj (by omega) ?_
  simp -implicitDefEqProofs only [go_sem]
  repeat (with_reducible refine And.intro (by first | omega | decide) ?_)
  refine hf _ _ _ ?_
  simp -implicitDefEqProofs only [go_sem,h,w3]
  refine hG _ ⟨i + 1,by omega⟩ (by simp only; omega) ?_
  rw [Zg]
  refine Ze [(1,1)] rfl rfl rfl ?_ ?_
  ·simp -implicitDefEqProofs only [go_sem,Nat.reduceLT,fil,hri]
  ·simp -implicitDefEqProofs only [go_sem]
 simp only [decide_eq_false_iff_not] at h
 obtain rfl:i = N:=by omega
 clear hG
 rw [← Zss] at hK
 have tk:(fil i r i).take i = fil i r i:=List.take_of_length_le (by omega)
 simp -implicitDefEqProofs only [go_sem,Nat.reduceLT,tk]
 refine Zbf (by omega) ?_
 simp -implicitDefEqProofs only [go_sem,Nat.reduceAdd,Nat.reduceEqDiff,Nat.reduceLeDiff]
 refine Z4 [(2,0)] [.row 25 (.arr 4 .one) (ffs (cut (fil i r i)))] [.osl 0 [] 0 (cut (fil i r i)).length] rfl rfl ?_ ?_ hK
 ·simp -implicitDefEqProofs only [go_sem,Nat.reduceEqDiff,Nat.reduceLT]
 ·simp -implicitDefEqProofs only [go_sem]
theorem Zra {a b:List F} {g:F→F→F} {f:FuncId} {k:F} (ha:a.length ≤ 1000000) (hb:b.length ≤ 1000000)
  (hf:∀ (x y:F) (K:PV→List Ob→Prop),K (ff (g x y)) []→PSpec prog f [ff x,ff y,.vp false (ff k)] [] K)
  (hK:K (.osl 0 [] 0 (cut (bth g a b)).length) [.row 25 (.arr 4 .one) (ffs (cut (bth g a b)))]):PSpec prog 98 [.vsl false (.arr 4 .one) (ffs a),.vsl false (.arr 4 .one) (ffs b),.fn f [.vp false (ff k)]] [] K:=by
 refine Zlm ?_
 simp only [yS,yN,yG,yT,yI,yF,yZ,yM,yU,yL,yB,yR,Zhb]
 rw [bth] at hK
 obtain ⟨N,hN⟩:∃ N,max a.length b.length = N:=⟨_,rfl⟩
 rw [hN] at hK
 have hx:(if (b.length:Int) > (a.length:Int) then (b.length:Int) else (a.length:Int)) = (N:Int):=by
  rw [← hN]
  by_cases h:(b.length:Int) > (a.length:Int)
  ·rw [if_pos h,Nat.max_eq_right (by omega)]
  ·rw [if_neg h,Nat.max_eq_left (by omega)]
 have hN2:N ≤ 1000000:=by omega
 obtain ⟨r,hr⟩:∃ r:Nat→F,(fun i=>g (a.getD i 0) (b.getD i 0)) = r:=⟨_,rfl⟩
 rw [hr] at hK
 have hri:∀ i,g (a.getD i 0) (b.getD i 0) = r i:=fun i=>by rw [← hr]
 simp -implicitDefEqProofs only [go_sem,Nat.reduceAdd,Nat.reduceSub,Nat.reduceEqDiff,hx,Zn]
 repeat (with_reducible refine And.intro (by first | omega | decide) ?_)
 refine Zx (ι:={ i:Nat // i ≤ N }) [6,8,17,18,19,20,21,22,23,24,25,26,27,28,29,30,31] (fun i=>[(17,i64 i.1)])
  (fun i=>[(1,.ob (.row 25 (.arr 4 .one) (ffs (fil N r i.1))))]) 2 (fun i=>N - i.1) ⟨0,Nat.zero_le _⟩ ?_ ?_
 ·rw [Zg]
  refine Ze [(1,1)] rfl rfl rfl ?_ ?_
  ·simp -implicitDefEqProofs only [go_sem,Nat.reduceEqDiff,Nat.reduceLT,fil]
  ·simp -implicitDefEqProofs only [go_sem]
 intro ⟨i,hi⟩ G hG
 have fl:=Zlg N r i
 simp -implicitDefEqProofs only [go_sem]
 refine Zk (fun h=>?_) (fun h=>?_)
 ·simp only [decide_eq_true_eq] at h
  have w3:IntKind.i64.wrap ((i:Int) + 1) = ((i + 1:Nat):Int):=by rw [wrs (by omega) (by omega)]; omega
  simp -implicitDefEqProofs only [go_sem,Nat.reduceLT,h]
  refine Zkj (by omega) ?_
  simp -implicitDefEqProofs only [go_sem,Nat.reduceLT]
  refine Zkj (by omega) ?_
  simp -implicitDefEqProofs only [go_sem]
  repeat (with_reducible refine And.intro (by first | omega | decide) ?_)
  refine hf _ _ _ ?_
  simp -implicitDefEqProofs only [go_sem,h,w3]
  refine hG _ ⟨i + 1,by omega⟩ (by simp only; omega) ?_
  rw [Zg]
  refine Ze [(1,1)] rfl rfl rfl ?_ ?_
  ·simp -implicitDefEqProofs only [go_sem,Nat.reduceLT,fil,hri]
  ·simp -implicitDefEqProofs only [go_sem]
 simp only [decide_eq_false_iff_not] at h
 obtain rfl:i = N:=by omega
 clear hG
 rw [← Zss] at hK
 have tk:(fil i r i).take i = fil i r i:=List.take_of_length_le (by omega)
 simp -implicitDefEqProofs only [go_sem,Nat.reduceLT,tk]
 refine Zbf (by omega) ?_
 simp -implicitDefEqProofs only [go_sem,Nat.reduceAdd,Nat.reduceEqDiff,Nat.reduceLeDiff]
 refine Z4 [(2,0)] [.row 25 (.arr 4 .one) (ffs (cut (fil i r i)))] [.osl 0 [] 0 (cut (fil i r i)).length] rfl rfl ?_ ?_ hK
 ·simp -implicitDefEqProofs only [go_sem,Nat.reduceEqDiff,Nat.reduceLT]
 ·simp -implicitDefEqProofs only [go_sem]
theorem Zlc {a b:List F} (ha:a.length ≤ 1000000) (hb:b.length ≤ 1000000) (hK:K (.osl 0 [] 0 (cut (bth (fun x y=>x + y) a b)).length) [.row 25 (.arr 4 .one) (ffs (cut (bth (fun x y=>x + y) a b)))]):PSpec prog 82 [.vsl false (.arr 4 .one) (ffs a),.vsl false (.arr 4 .one) (ffs b)] [] K:=by
 refine Zr4 ?_
 simp only [yS,yN,yG,yT,yI,yF,yZ,yM,yU,yL,yB,yR,Zmx]
 simp -implicitDefEqProofs only [go_sem,Nat.reduceAdd,Nat.reduceSub,Nat.reduceLT]
 refine Zlv (g:=fun x y=>x + y) ha hb (fun x y K h=>Zl9 h) ?_
 generalize cut (bth (fun x y=>x + y) a b) = R at *
 simp -implicitDefEqProofs only [go_sem,Nat.reduceAdd,Nat.reduceEqDiff,Nat.reduceLeDiff]
 refine Z4 [(1,0)] [.row 25 (.arr 4 .one) (ffs R)] [.osl 0 [] 0 R.length] rfl rfl ?_ ?_ hK
 ·simp -implicitDefEqProofs only [go_sem,Nat.reduceEqDiff,Nat.reduceLT]
 ·simp -implicitDefEqProofs only [go_sem]
theorem Zvp {a b:List F} (ha:a.length ≤ 1000000) (hb:b.length ≤ 1000000) (hK:K (.osl 0 [] 0 (cut (bth (fun x y=>x - y) a b)).length) [.row 25 (.arr 4 .one) (ffs (cut (bth (fun x y=>x - y) a b)))]):PSpec prog 93 [.vsl false (.arr 4 .one) (ffs a),.vsl false (.arr 4 .one) (ffs b)] [] K:=by
 refine Zr1 ?_
 simp only [yS,yN,yG,yT,yI,yF,yZ,yM,yU,yL,yB,yR,Zmu]
 simp -implicitDefEqProofs only [go_sem,Nat.reduceAdd,Nat.reduceSub,Nat.reduceLT]
 refine Zlv (g:=fun x y=>x - y) ha hb (fun x y K h=>Ztx h) ?_
 generalize cut (bth (fun x y=>x - y) a b) = R at *
 simp -implicitDefEqProofs only [go_sem,Nat.reduceAdd,Nat.reduceEqDiff,Nat.reduceLeDiff]
 refine Z4 [(1,0)] [.row 25 (.arr 4 .one) (ffs R)] [.osl 0 [] 0 R.length] rfl rfl ?_ ?_ hK
 ·simp -implicitDefEqProofs only [go_sem,Nat.reduceEqDiff,Nat.reduceLT]
 ·simp -implicitDefEqProofs only [go_sem]
theorem Zpm {x y k:F} (hK:K (ff (x * k)) []):PSpec prog 99 [ff x,ff y,.vp false (ff k)] [] K:=by
 refine Zl1 ?_
 simp only [yS,yN,yG,yT,yI,yF,yZ,yM,yU,yL,yB,yR,Zgr]
 simp -implicitDefEqProofs only [go_sem,Nat.reduceAdd,Nat.reduceSub,Nat.reduceEqDiff,Nat.reduceLT]
 refine Zh1 ?_
 simp -implicitDefEqProofs only [go_sem,Nat.reduceEqDiff]
 exact Zd rfl hK
theorem Zrc {a:List F} {k:F} (ha:a.length ≤ 1000000) (hK:K (.osl 0 [] 0 (cut (bth (fun x _=>x * k) a [])).length) [.row 25 (.arr 4 .one) (ffs (cut (bth (fun x _=>x * k) a [])))]):PSpec prog 83 [.vsl false (.arr 4 .one) (ffs a),ff k] [] K:=by
 refine Zo2 ?_
 simp only [yS,yN,yG,yT,yI,yF,yZ,yM,yU,yL,yB,yR,Zj3]
 simp -implicitDefEqProofs only [go_sem,Nat.reduceAdd,Nat.reduceSub,Nat.reduceEqDiff,Nat.reduceLT]
 refine Zra (b:=[]) (g:=fun x _=>x * k) ha (by simp) (fun x y K h=>Zpm h) ?_
 generalize cut (bth (fun x _=>x * k) a []) = R at *
 simp -implicitDefEqProofs only [go_sem,Nat.reduceAdd,Nat.reduceEqDiff,Nat.reduceLeDiff]
 refine Z4 [(2,0)] [.row 25 (.arr 4 .one) (ffs R)] [.osl 0 [] 0 R.length] rfl rfl ?_ ?_ hK
 ·simp -implicitDefEqProofs only [go_sem,Nat.reduceEqDiff,Nat.reduceLT]
 ·simp -implicitDefEqProofs only [go_sem]
end Go.Proofs.Tryz.PMT
namespace Go.Proofs.PL
def addl:List F→List F→List F
 | [],m=>m
 | x :: l,[]=>x :: l
 | x :: l,y :: m=>(x + y) :: addl l m
theorem Zeu (x:F):x + 0 = x:=by grind
theorem Zev (x:F):0 + x = x:=by grind
theorem Zgs (x:F):x * 0 = 0:=by grind
theorem Zdy (x:F):0 * x = 0:=by grind
theorem Zc5:∀ (l m:List F) (k:Nat),(addl l m).getD k 0 = l.getD k 0 + m.getD k 0
 | [],m,k=>by simp only [addl,List.getD_nil]; rw [Zev]
 | x :: l,[],k=>by simp only [addl,List.getD_nil]; rw [Zeu]
 | x :: l,y :: m,0=>by simp only [addl,List.getD_cons_zero]
 | x :: l,y :: m,k + 1=>by simp only [addl,List.getD_cons_succ]; exact Zc5 l m k
theorem Zc3 (z x:F) (l:List F):hor z (x :: l) = x + hor z l * z:=rfl
theorem Zmb (z:F):∀ l m:List F,hor z (addl l m) = hor z l + hor z m
 | [],m=>by simp only [addl]; exact (Zev _).symm
 | x :: l,[]=>by simp only [addl]; exact (Zeu _).symm
 | x :: l,y :: m=>by
  simp only [addl,Zc3]
  rw [Zmb z l m]
  generalize hor z l = p
  generalize hor z m = q
  grind
def sca (x:F) (l:List F):List F:=l.map fun y=>x * y
theorem Zgg (x:F):∀ (l:List F) (k:Nat),(sca x l).getD k 0 = x * l.getD k 0
 | [],k=>by simp only [sca,List.map_nil,List.getD_nil]; rw [Zgs]
 | y :: l,0=>by simp only [sca,List.map_cons,List.getD_cons_zero]
 | y :: l,k + 1=>by simp only [sca,List.map_cons,List.getD_cons_succ]; exact Zgg x l k
theorem Zxz (z x:F):∀ l:List F,hor z (sca x l) = x * hor z l
 | []=>(Zgs x).symm
 | y :: l=>by
  have h:=Zxz z x l
  simp only [sca,List.map_cons,Zc3] at h ⊢
  rw [h]
  generalize hor z l = p
  grind
def conv:List F→List F→List F
 | [],_=>[]
 | x :: a,b=>addl (sca x b) (0 :: conv a b)
theorem Zt2 (z:F):∀ a b:List F,hor z (conv a b) = hor z a * hor z b
 | [],b=>(Zdy (hor z b)).symm
 | x :: a,b=>by
  simp only [conv]
  rw [Zmb,Zxz,Zc3,Zt2 z a b,Zc3,Zev]
  generalize hor z a = p
  generalize hor z b = q
  grind
theorem Zl6 (f:Nat→F):∀ n,sm (n + 1) f = f 0 + sm n (fun i=>f (i + 1))
 | 0=>by simp only [sm]; rw [Zev,Zeu]
 | n + 1=>by
  rw [sm,Zl6 f n]
  simp only [sm]
  generalize sm n (fun i=>f (i + 1)) = p
  generalize f (n + 1) = q
  generalize f 0 = r
  grind
theorem Zez:∀ (a b:List F) (k:Nat),(conv a b).getD k 0 = sm a.length (tm a b k)
 | [],b,k=>by simp only [conv,List.getD_nil,List.length_nil,sm]
 | x :: a,b,0=>by
  simp only [conv]
  rw [Zc5,Zgg,List.length_cons,Zl6,Zk1 (f:=fun i=>tm (x :: a) b 0 (i + 1)) a.length (fun i _=>by simp only [tm]; rw [if_neg (by omega)])]
  simp only [tm,List.getD_cons_zero,Nat.sub_zero]
  rw [if_pos (Nat.le_refl _)]
 | x :: a,b,k + 1=>by
  simp only [conv]
  rw [Zc5,Zgg,List.length_cons,Zl6,List.getD_cons_succ,Zez a b k]
  have e:tm (x :: a) b (k + 1) 0 = x * b.getD (k + 1) 0:=by simp only [tm,List.getD_cons_zero,Nat.sub_zero]; rw [if_pos (Nat.zero_le _)]
  rw [e]
  refine congrArg (fun y=>x * b.getD (k + 1) 0 + y) (Zfj _ fun i _=>?_)
  simp only [tm,List.getD_cons_succ]
  by_cases h:i ≤ k
  ·rw [if_pos h,if_pos (by omega),Nat.add_sub_add_right]
  ·rw [if_neg h,if_neg (by omega)]
def pm (a b:List F):List F:=if (cut a).length = 0 ∨ (cut b).length = 0 then [] else mulL ((cut a).length + (cut b).length - 1) (cut a) (cut b)
theorem Zqo (a b:List F):(pm a b).length = if (cut a).length = 0 ∨ (cut b).length = 0 then 0 else (cut a).length + (cut b).length - 1:=by
 rw [pm]
 split
 ·rfl
 ·exact Zkd ..
theorem pm_le (a b:List F):(pm a b).length ≤ a.length + b.length:=by
 have h1:=Zbc a
 have h2:=Zbc b
 rw [Zqo]
 split <;> omega
theorem Z2c {l:List F} (h:l.length = 0):l = []:=List.length_eq_zero_iff.1 h
theorem Zug:∀ a:List F,∀ k,(conv a []).getD k 0 = 0
 | [],k=>by simp only [conv,List.getD_nil]
 | x :: a,0=>by simp only [conv,Zc5,Zgg,List.getD_nil,List.getD_cons_zero]; rw [Zgs]; exact zz
 | x :: a,k + 1=>by simp only [conv,Zc5,Zgg,List.getD_nil,List.getD_cons_succ]; rw [Zug a k,Zgs]; exact zz
theorem Zoa (a b:List F) (k:Nat):(pm a b).getD k 0 = (conv (cut a) (cut b)).getD k 0:=by
 rw [pm]
 by_cases h:(cut a).length = 0 ∨ (cut b).length = 0
 ·rw [if_pos h,List.getD_nil]
  rcases h with h | h
  ·rw [Z2c h]; rfl
  ·rw [Z2c h,Zug]
 ·rw [if_neg h,Ztr (by omega),Zez]
theorem pm_top (a b:List F) (h:¬ ((cut a).length = 0 ∨ (cut b).length = 0)):(pm a b).getD ((pm a b).length - 1) 0 ≠ 0:=by
 have ha:=Zko a (fun e=>h (.inl e))
 have hb:=Zko b (fun e=>h (.inr e))
 rw [Zoa,Zqo,if_neg h,Zez]
 obtain ⟨p,hp⟩:∃ p,(cut a).length = p + 1:=⟨(cut a).length - 1,by omega⟩
 obtain ⟨q,hq⟩:∃ q,(cut b).length = q + 1:=⟨(cut b).length - 1,by omega⟩
 rw [hp,Nat.add_sub_cancel] at ha
 rw [hq,Nat.add_sub_cancel] at hb
 rw [hp,hq,show p + 1 + (q + 1) - 1 - 1 = p + q by omega,sm,Zk1 (f:=tm (cut a) (cut b) (p + q)) p (fun i hi=>by
  simp only [tm]
  rw [if_pos (by omega),Zbw (l:=cut b) (by omega),Zgs]),Zev]
 simp only [tm]
 rw [if_pos (by omega),Nat.add_sub_cancel_left]
 exact fun e=>(Zsf e).elim ha hb
theorem Z15 (a b:List F):cut (pm a b) = pm a b:=by
 by_cases h:(cut a).length = 0 ∨ (cut b).length = 0
 ·rw [pm,if_pos h]; rfl
 ·have ht:=pm_top a b h
  have hl:=Zqo a b
  rw [if_neg h] at hl
  exact Zgl (n:=(pm a b).length - 1) (by omega) ht
theorem Ztk (z:F) (a b:List F):hor z (pm a b) = hor z a * hor z b:=by
 rw [Zd1 z _ _ (Zoa a b),Zt2,Zd1 z (cut a) a (Zbj a),Zd1 z (cut b) b (Zbj b)]
theorem Zs7 (a b:List F) (k:Nat):(bth (fun x y=>x + y) a b).getD k 0 = a.getD k 0 + b.getD k 0:=Zyw (fun x y=>x + y) zz a b k
theorem Z27 (a b:List F) (k:Nat):(bth (fun x y=>x - y) a b).getD k 0 = a.getD k 0 - b.getD k 0:=Zyw (fun x y=>x - y) (by decide +kernel) a b k
theorem Zp9 (z:F) (a b:List F):hor z (cut (bth (fun x y=>x + y) a b)) = hor z a + hor z b:=by
 rw [Zd1 z _ (addl a b) (fun k=>by rw [Zbj,Zs7,Zc5]),Zmb]
end Go.Proofs.PL
namespace Go.Proofs.Tryz.PMT
open Go Go.Proofs.PM Go.Proofs.PL Go.Proofs.Tryz
variable {K:PV→List Ob→Prop}
set_option maxRecDepth 4000
theorem take1 (x:PV):List.take 1 [x] = [x]:=rfl
theorem len1 (x:PV):[x].length = 1:=rfl
theorem has1 (x:F):[ff x].all (Sh.arr 4 .one).has = true:=rfl
theorem Zye (n:Nat) (f:Nat→F):ffs (PL.tab (n + 1) f) = ffs (PL.tab n f) ++ [ff (f n)]:=by rw [PL.tab_succ]; simp [ffs]
theorem Zrb {l:List F} {z:F} (hl:l.length ≤ 1000000) (hK:K (.osl 0 [] 0 (cut (shS z (cut l) (cut l).length).1).length) [.row 25 (.arr 4 .one) (ffs (cut (shS z (cut l) (cut l).length).1))]):PSpec prog 94 [.vsl false (.arr 4 .one) (ffs l),ff z] [] K:=by
 refine Zo1 ?_
 simp only [yS,yN,yG,yT,yI,yF,yZ,yM,yU,yL,yB,yR,Zj2]
 simp -implicitDefEqProofs only [go_sem,Nat.reduceAdd,Nat.reduceSub,Nat.reduceEqDiff,Nat.reduceLT]
 refine Zbf (by omega) ?_
 have lA:=Zbc l
 generalize cut l = A at *
 simp -implicitDefEqProofs only [go_sem,Nat.reduceAdd,Nat.reduceEqDiff,Nat.reduceLT,Nat.reduceLeDiff]
 refine Zld (Zt rfl) ?_
 simp -implicitDefEqProofs only [go_sem,Nat.reduceAdd,Nat.reduceEqDiff,Zf3]
 refine Zx (ι:={ i:Nat // i ≤ A.length }) [4,7,8,14,15,16,17,18,19,20,21,22,23,24,25,26,27,28] (fun i=>[(14,i64 i.1)])
  (fun i=>[(0,.ob (.var (.arr 4 .one) (ff z))),(2,.ob (.row 25 (.arr 4 .one) (ffs (shS z A i.1).1))),(3,.ob (.var (.arr 4 .one) (ff (shS z A i.1).2)))]) 4 (fun i=>A.length - i.1) ⟨0,Nat.zero_le _⟩ ?_ ?_
 ·rw [Zg]
  refine Ze [(0,0),(2,2),(3,3)] rfl rfl rfl ?_ ?_
  ·simp -implicitDefEqProofs only [go_sem,Nat.reduceEqDiff,Nat.reduceLT,shS]
  ·simp -implicitDefEqProofs only [go_sem,Nat.reduceEqDiff]
 intro ⟨i,hi⟩ G hG
 have sl:=Zo7 z A i
 simp -implicitDefEqProofs only [go_sem]
 refine Zk (fun h=>?_) (fun h=>?_)
 ·simp only [decide_eq_true_eq] at h
  have hii:i < (shS z A i).1.length:=by omega
  have w3:IntKind.i64.wrap ((i:Int) + 1) = ((i + 1:Nat):Int):=by rw [wrs (by omega) (by omega)]; omega
  simp -implicitDefEqProofs only [go_sem,Nat.reduceAdd,Nat.reduceEqDiff,Nat.reduceLT,h,Zu hii]
  refine Zh1 ?_
  simp -implicitDefEqProofs only [go_sem,Nat.reduceEqDiff,Nat.reduceLT,h,Zu hii]
  refine Zh1 ?_
  simp -implicitDefEqProofs only [go_sem,Nat.reduceEqDiff,w3]
  refine hG _ ⟨i + 1,by omega⟩ (by simp only; omega) ?_
  rw [Zg]
  refine Ze [(0,0),(2,2),(3,3)] rfl rfl rfl ?_ ?_
  ·simp -implicitDefEqProofs only [go_sem,Nat.reduceEqDiff,Nat.reduceLT,shS]
  ·simp -implicitDefEqProofs only [go_sem,Nat.reduceEqDiff]
 simp only [decide_eq_false_iff_not] at h
 obtain rfl:i = A.length:=by omega
 clear hG
 have tk:(shS z A A.length).1.take A.length = (shS z A A.length).1:=List.take_of_length_le (by omega)
 simp -implicitDefEqProofs only [go_sem,Nat.reduceEqDiff,Nat.reduceLT,tk]
 refine Zbf (by omega) ?_
 generalize cut (shS z A A.length).1 = R at *
 simp -implicitDefEqProofs only [go_sem,Nat.reduceAdd,Nat.reduceEqDiff,Nat.reduceLeDiff]
 refine Z4 [(4,0)] [.row 25 (.arr 4 .one) (ffs R)] [.osl 0 [] 0 R.length] rfl rfl ?_ ?_ hK
 ·simp -implicitDefEqProofs only [go_sem,Nat.reduceEqDiff,Nat.reduceLT]
 ·simp -implicitDefEqProofs only [go_sem]
theorem Ztw {l:List F} {i:Nat} (hl:l.length ≤ 4398046511104) (hK:K (ff (l.getD i 0)) []):PSpec prog 65 [.vsl false (.arr 4 .one) (ffs l),i64 i] [] K:=by
 refine Zje ?_
 simp only [yS,yN,yG,yT,yI,yF,yZ,yM,yU,yL,yB,yR,Ze9]
 simp -implicitDefEqProofs only [go_sem,Nat.reduceAdd,Nat.reduceSub]
 refine Zk (fun h=>?_) (fun h=>?_)
 ·simp only [decide_eq_true_eq] at h
  have hi:i < l.length:=by omega
  simp -implicitDefEqProofs only [go_sem,h,Zu hi]
  exact Zd rfl hK
 ·simp only [decide_eq_false_iff_not] at h
  rw [Zbw (by omega)] at hK
  simp -implicitDefEqProofs only [go_sem,Zn]
  exact Zd rfl hK
theorem Zxr {a b:List F} (ha:a.length ≤ 1000000) (hb:b.length ≤ 1000000) (hK:K (.osl 0 [] 0 (cut (bth (fun x y=>x + y) a b)).length) [.row 25 (.arr 4 .one) (ffs (cut (bth (fun x y=>x + y) a b)))]):PSpec prog 38 [.vsl false (.arr 4 .one) (ffs a),.vsl false (.arr 4 .one) (ffs b)] [] K:=by
 refine Zit ?_
 simp only [yS,yN,yG,yT,yI,yF,yZ,yM,yU,yL,yB,yR,Zes]
 rw [bth] at hK
 obtain ⟨N,hN⟩:∃ N,max a.length b.length = N:=⟨_,rfl⟩
 rw [hN] at hK
 have hx:(if (b.length:Int) > (a.length:Int) then (b.length:Int) else (a.length:Int)) = (N:Int):=by
  rw [← hN]
  by_cases h:(b.length:Int) > (a.length:Int)
  ·rw [if_pos h,Nat.max_eq_right (by omega)]
  ·rw [if_neg h,Nat.max_eq_left (by omega)]
 have hN2:N ≤ 1000000:=by omega
 obtain ⟨r,hr⟩:∃ r:Nat→F,(fun i=>a.getD i 0 + b.getD i 0) = r:=⟨_,rfl⟩
 rw [hr] at hK
 have hri:∀ i,a.getD i 0 + b.getD i 0 = r i:=fun i=>by rw [← hr]
 simp -implicitDefEqProofs only [go_sem,Nat.reduceAdd,Nat.reduceSub,Nat.reduceEqDiff]
 refine Zx (ι:={ i:Nat // i ≤ N }) [4,5,6,7,8,9,10,11,12,13,14,15,16,17,18,19,20,21,22,23,24,25] (fun i=>[(5,.osl 1 [] 0 i.1),(6,i64 i.1)])
  (fun i=>[(1,.ob (.row 25 (.arr 4 .one) (ffs (PL.tab i.1 r))))]) 2 (fun i=>N - i.1) ⟨0,Nat.zero_le _⟩ ?_ ?_
 ·rw [Zg]
  refine Ze [(1,1)] rfl rfl rfl ?_ ?_
  ·simp -implicitDefEqProofs only [go_sem,Nat.reduceEqDiff,Nat.reduceLT,ob_eq,Ob.row.injEq,PL.tab]
   try rfl
  ·simp -implicitDefEqProofs only [go_sem]
 intro ⟨i,hi⟩ G hG
 have tl:=PL.tab_len i r
 simp -implicitDefEqProofs only [go_sem,hx]
 refine Zk (fun h=>?_) (fun h=>?_)
 ·simp only [decide_eq_true_eq] at h
  have w3:IntKind.i64.wrap ((i:Int) + 1) = ((i + 1:Nat):Int):=by rw [wrs (by omega) (by omega)]; omega
  simp -implicitDefEqProofs only [go_sem,Nat.reduceLT,h]
  refine Ztw (by omega) ?_
  simp -implicitDefEqProofs only [go_sem,Nat.reduceLT]
  refine Ztw (by omega) ?_
  simp -implicitDefEqProofs only [go_sem,Nat.reduceLT]
  refine Zb6 ?_
  simp -implicitDefEqProofs only [go_sem,Nat.reduceAdd,Nat.reduceEqDiff,Nat.reduceLT,Nat.reduceLeDiff,w3,tl,take1,len1,has1,true_and]
  repeat (with_reducible refine And.intro (by first | omega | decide) ?_)
  refine hG _ ⟨i + 1,by omega⟩ (by simp only; omega) ?_
  rw [Zg]
  refine Ze [(3,1)] rfl rfl rfl ?_ ?_
  ·simp -implicitDefEqProofs only [go_sem,Nat.reduceEqDiff,Nat.reduceLT,← Zye,hri]
  ·simp -implicitDefEqProofs only [go_sem]
 simp only [decide_eq_false_iff_not] at h
 obtain rfl:i = N:=by omega
 clear hG
 have tk:(PL.tab i r).take i = PL.tab i r:=List.take_of_length_le (by omega)
 simp -implicitDefEqProofs only [go_sem,Nat.reduceLT,tk]
 refine Zm9 (by omega) ?_
 generalize cut (PL.tab i r) = R at *
 simp -implicitDefEqProofs only [go_sem,Nat.reduceAdd,Nat.reduceEqDiff,Nat.reduceLeDiff]
 refine Z4 [(2,0)] [.row 25 (.arr 4 .one) (ffs R)] [.osl 0 [] 0 R.length] rfl rfl ?_ ?_ hK
 ·simp -implicitDefEqProofs only [go_sem,Nat.reduceEqDiff,Nat.reduceLT]
 ·simp -implicitDefEqProofs only [go_sem]
end Go.Proofs.Tryz.PMT
namespace Go.Proofs.Tryz.PMT
open Go Go.Proofs.PM Go.Proofs.PL Go.Proofs.Tryz
set_option maxRecDepth 4000
end Go.Proofs.Tryz.PMT
namespace Go.Proofs.Tryz.PMT
open Go Go.Proofs.PM Go.Proofs.PL Go.Proofs.Tryz
set_option maxRecDepth 4000
end Go.Proofs.Tryz.PMT
namespace Go.Proofs.PM
open Go Go.Proofs.PL
set_option maxRecDepth 4000
theorem or_lt {a b:Nat} (ha:a < 18446744073709551616) (hb:b < 18446744073709551616):a ||| b < 18446744073709551616:=Nat.or_lt_two_pow (n:=64) ha hb
theorem Z5p {a k:Nat} (hk:k < 64):binI .shl .u64 (a:Int) (k:Int) = .int .u64 ((a * 2 ^ k % 18446744073709551616:Nat):Int):=by
 simp only [binI,Int.toNat_natCast]
 rw [Nat.min_eq_left (by show k ≤ 64; omega),Zgz,Int.natCast_emod,Int.natCast_mul,Int.natCast_pow]
 rfl
end Go.Proofs.PM
namespace Go.Proofs.Tryz.PMT
open Go Go.Proofs.PM Go.Proofs.Tryz
variable {args:List PV} {own:List Ob} {K:PV→List Ob→Prop}
def Zeq:Pc:=(yR [yS 2 (.mv (yI 0))] (.seq (yR [yS 3 (.mv (yI 0))] (.block 0 (.loop (.seq (yR [yM 4 3,yS 5 (.bin .leq (yT 4) (yI 9))] (.cond (yT 5) .skip (.exit 0))) (.seq (.block 1 (yR [yM 8 0,yM 9 3,yS 10 (.bin .shl (yI 1) (yT 9)),yB .eql 11 8 10] (.cond (yT 11) (yR [yM 12 3,yM 2 12] .ret) .skip))) (.rgn [yM 6 3,yS 7 (.bin .add (yT 6) (yI 1)),yM 3 7])))))) (yR [yS 2 (.mv (yI (-1)))] .ret)))
theorem Zir (h:pwp prog Zeq (retQ [.tmp 2] own K) (stIn 13 args own)):PSpec prog 100 args own K:=spec func100 (by kernel_rfl) (by kernel_rfl) (by kernel_rfl) h
def Zfb:Pc:=(yR [yS 2 (.nil 25 yF),yS 3 (.mv (yI 0))] (yR [yM 10 0,yS 11 (.len (yT 10)),yS 12 (.call 100 false [((yT 11),none)]),yM 4 12] (.seq (yR [yM 13 4,yS 14 (.bin .lss (yT 13) (yI 0))] (.cond (yT 14) (yR [yS 2 (.nil 25 yF),yS 3 (.mv (yI 1))] .ret) .skip)) (yR [yM 16 4,yS 17 (.call 66 false [((yT 16),none)]),yM 15 17,yS 18 (.ext (yT 15) 0),yS 19 (.ext (yT 15) 1),yS 5 (.alloc yF yZ),yN (.store yF (yT 5) (yT 18)),yM 6 19] (yR [yS 7 (.nil 25 yF)] (yR [yS 20 (.call 19 false [((yU 1),none)]),yS 8 (.alloc yF yZ),yN (.store yF (yT 8) (yT 20))] (.seq (yR [yS 9 (.mv (yI 0))] (.block 0 (.loop (.seq (yR [yM 21 9,yM 22 0,yS 23 (.len (yT 22)),yB .lss 24 21 23] (.cond (yT 24) .skip (.exit 0))) (.seq (.block 1 (yR [yM 27 7,yM 28 0,yS 29 (.load yF (yT 8)),yS 30 (.call 101 false [((yT 28),(some yF)),((yT 29),none)]),yS 31 (.bsl 25 yF yZ 1 [(0,(yT 30))]),yS 32 (.app 25 yF 32 (yT 27) (yT 31)),yM 7 32] (.rgn [yS 33 (.load yF (yT 8)),yS 34 (.load yF (yT 5)),yS 35 (.call 22 false [((yT 33),none),((yT 34),none)]),yN (.store yF (yT 8) (yT 35))]))) (.rgn [yM 25 9,yS 26 (.bin .add (yT 25) (yI 1)),yM 9 26])))))) (yR [yM 36 7,yM 2 36,yS 3 (.mv (yI 0))] .ret))))))))
theorem Zjg (h:pwp prog Zfb (retQ [.tmp 2,.tmp 3] own K) (stIn 37 args own)):PSpec prog 89 args own K:=spec func89 (by kernel_rfl) (by kernel_rfl) (by kernel_rfl) h
def Zdv:Pc:=(yR [yS 2 (.nil 25 yF),yS 3 (.mv (yI 0))] (yR [yM 12 0,yS 13 (.call 89 false [((yT 12),(some yF))]),yM 11 13,yS 14 (.ext (yT 11) 0),yS 15 (.ext (yT 11) 1),yM 4 14,yM 5 15] (.seq (yR [yM 16 5,yS 17 (.bin .neq (yT 16) (yI 0))] (.cond (yT 17) (yR [yM 18 5,yS 2 (.nil 25 yF),yM 3 18] .ret) .skip)) (yR [yM 19 0,yS 20 (.len (yT 19)),yM 6 20] (yR [yM 22 6,yS 23 (.cvi .u64 (yT 22)),yS 24 (.call 19 false [((yT 23),none)]),yS 25 (.call 71 false [((yT 24),none)]),yM 21 25,yS 26 (.ext (yT 21) 0),yS 27 (.ext (yT 21) 1),yS 7 (.alloc yF yZ),yN (.store yF (yT 7) (yT 26)),yM 8 27] (yR [yM 28 6,yS 29 (.mksl 25 yF 32 yZ (yT 28) (yT 28)),yM 9 29] (.seq (yR [yS 10 (.mv (yI 0))] (.block 0 (.loop (.seq (yR [yM 30 10,yM 31 6,yB .lss 32 30 31] (.cond (yT 32) .skip (.exit 0))) (.seq (.block 1 (.drgn 14 [⟨0,.no,yM 35 9⟩,⟨1,.no,yM 36 10⟩,⟨2,.no,yM 37 4⟩,⟨3,.no,yM 38 6⟩,⟨4,.no,yM 39 10⟩,⟨5,.no,yB .sub 40 38 39⟩,⟨6,.no,yM 41 6⟩,⟨7,.no,yB .rem 42 40 41⟩,⟨8,.no,yS 43 (.iaddrs yF (yT 37) (yT 42))⟩,⟨9,.no,yS 44 (.load yF (yT 43))⟩,⟨10,.no,yS 45 (.load yF (yT 7))⟩,⟨11,.no,yS 46 (.call 22 false [((yT 44),none),((yT 45),none)])⟩,⟨12,.no,yS 47 (.iaddrs yF (yT 35) (yT 36))⟩,⟨13,.no,yN (.store yF (yT 47) (yT 46))⟩])) (.rgn [yM 33 10,yS 34 (.bin .add (yT 33) (yI 1)),yM 10 34])))))) (yR [yM 48 9,yM 2 48,yS 3 (.mv (yI 0))] .ret))))))))
theorem Zg9 (h:pwp prog Zdv (retQ [.tmp 2,.tmp 3] own K) (stIn 49 args own)):PSpec prog 63 args own K:=spec func63 (by kernel_rfl) (by kernel_rfl) (by kernel_rfl) h
end Go.Proofs.Tryz.PMT
namespace Go.Proofs.PL
theorem Z1z (a b:List F) (k:Nat):∀ d,sm (a.length + d) (tm a b k) = (conv a b).getD k 0
 | 0=>(Zez a b k).symm
 | d + 1=>by
  rw [show a.length + (d + 1) = (a.length + d) + 1 by omega,sm,Z1z a b k d]
  have e:tm a b k (a.length + d) = 0:=by
   simp only [tm]
   rw [Zbw (l:=a) (by omega),Zdy]
   split <;> rfl
  rw [e,Zeu]
theorem Zwi {a:List F} (b:List F) (k:Nat) {M:Nat} (h:a.length ≤ M):sm M (tm a b k) = (conv a b).getD k 0:=by
 obtain ⟨d,rfl⟩:=Nat.exists_eq_add_of_le h
 exact Z1z a b k d
theorem sub00:(0:F) - 0 = 0:=by decide +kernel
theorem Zni {a s:List F} (c:List F) (k:Nat) (h:∀ k,s.getD k 0 = a.getD k 0):(conv s c).getD k 0 = (conv a c).getD k 0:=by
 rw [← Zwi c k (show s.length ≤ s.length + a.length by omega),← Zwi c k (show a.length ≤ s.length + a.length by omega)]
 exact Zfj _ fun i _=>by simp only [tm,h]
theorem Zyn {a:List F} (c:List F) (k:Nat) (h:∀ k,a.getD k 0 = 0):(conv a c).getD k 0 = 0:=by
 rw [Zez]
 exact Zk1 _ fun i _=>by
  simp only [tm,h]
  rw [Zdy]
  split <;> rfl
theorem Zuf (c:F) (b:List F):∀ (q:List F) (i:Nat),i < q.length→q.getD i 0 = 0→∀ k,(conv (q.set i c) b).getD k 0 = (conv q b).getD k 0 + if i ≤ k then c * b.getD (k - i) 0 else 0
 | [],i,h,_,_=>absurd h (by simp)
 | x :: q,0,_,h0,k=>by
  rw [List.getD_cons_zero] at h0
  subst h0
  simp only [List.set_cons_zero,conv,Zc5,Zgg,Nat.sub_zero]
  rw [if_pos (Nat.zero_le _)]
  generalize (0 :: conv q b).getD k 0 = x
  generalize b.getD k 0 = y
  rw [Zdy,Zev]
  grind
 | x :: q,i + 1,h,h0,0=>by
  rw [if_neg (by omega),Zeu]
  simp only [List.set_cons_succ,conv,Zc5,Zgg,List.getD_cons_zero]
 | x :: q,i + 1,h,h0,k + 1=>by
  rw [List.getD_cons_succ] at h0
  simp only [List.set_cons_succ,conv,Zc5,Zgg,List.getD_cons_succ]
  rw [Zuf c b q i (by simpa using h) h0 k,Nat.add_sub_add_right]
  have e:(if i + 1 ≤ k + 1 then c * b.getD (k - i) 0 else 0) = (if i ≤ k then c * b.getD (k - i) 0 else 0):=by
   by_cases hi:i ≤ k
   ·rw [if_pos hi,if_pos (by omega)]
   ·rw [if_neg hi,if_neg (by omega)]
  rw [e]
  generalize (if i ≤ k then c * b.getD (k - i) 0 else 0) = u
  generalize (conv q b).getD k 0 = v
  generalize b.getD (k + 1) 0 = w
  grind
theorem Zox (c:F) (i:Nat) (b r:List F):∀ k,i + k ≤ r.length→∀ j,(subJ c i b r k).getD j 0 = if i ≤ j ∧ j - i < k then r.getD j 0 - c * b.getD (j - i) 0 else r.getD j 0
 | 0,_,j=>by simp only [subJ]; rw [if_neg (by omega)]
 | k + 1,hk,j=>by
  simp only [subJ]
  rw [getD_set (by rw [Zl5]; omega),Zox c i b r k (by omega) (i + k),Zox c i b r k (by omega) j]
  by_cases e:i + k = j
  ·subst e
   rw [if_pos rfl,if_neg (by omega),if_pos (by omega),Nat.add_sub_cancel_left]
  ·rw [if_neg e]
   by_cases e2:i ≤ j ∧ j - i < k
   ·rw [if_pos e2,if_pos (by omega)]
   ·rw [if_neg e2,if_neg (by omega)]
theorem Zzm (c:F) (i:Nat) (b r:List F) (h:i + b.length ≤ r.length) (j:Nat):(subJ c i b r b.length).getD j 0 = if i ≤ j then r.getD j 0 - c * b.getD (j - i) 0 else r.getD j 0:=by
 rw [Zox c i b r _ h]
 by_cases e:i ≤ j
 ·rw [if_pos e]
  by_cases e2:j - i < b.length
  ·rw [if_pos ⟨e,e2⟩]
  ·rw [if_neg (by omega),Zbw (l:=b) (by omega),Zgs,sub_zero']
 ·rw [if_neg e,if_neg (by omega)]
where sub_zero' (x:F):x - 0 = x:=by grind
theorem Zyl {t:F} {B r0:List F} {p:Nat} (hB:B.length = p + 1) (ht:B.getD p 0 * t = 1):∀ k,k ≤ r0.length - p →
  (∀ j,(divS t B (r0.length - p) r0 k).2.getD j 0 + (conv (divS t B (r0.length - p) r0 k).1 B).getD j 0 = r0.getD j 0) ∧
  (∀ i,i < r0.length - p - k→(divS t B (r0.length - p) r0 k).1.getD i 0 = 0) ∧
  (∀ j,r0.length - p - k + p ≤ j→(divS t B (r0.length - p) r0 k).2.getD j 0 = 0)
 | 0,_=>by
  simp only [divS]
  refine ⟨fun j=>?_,fun i _=>Zk5 _ i,fun j h=>Zbw (l:=r0) (by omega)⟩
  rw [Zyn B j (Zk5 _),Zeu]
 | k + 1,hk=>by
  obtain ⟨h1,h2,h3⟩:=Zyl (r0:=r0) hB ht k (by omega)
  obtain ⟨l1,l2⟩:=Zp2 t B (r0.length - p) r0 k
  obtain ⟨i,hi⟩:∃ i,r0.length - p - (k + 1) = i:=⟨_,rfl⟩
  have hin:r0.length - p - k = i + 1:=by omega
  have hip:i + B.length ≤ r0.length:=by omega
  simp only [divS,hi]
  rw [show i + B.length - 1 = i + p by omega]
  rw [hin] at h2 h3
  generalize (divS t B (r0.length - p) r0 k).1 = q at *
  generalize (divS t B (r0.length - p) r0 k).2 = r at *
  obtain ⟨c,hc⟩:∃ c,r.getD (i + p) 0 * t = c:=⟨_,rfl⟩
  rw [hc]
  have hs:=Zzm c i B r (by omega)
  refine ⟨fun j=>?_,fun i' h=>?_,fun j h=>?_⟩
  ·rw [hs,Zuf c B q i (by omega) (h2 i (by omega)),← h1 j]
   generalize r.getD j 0 = x
   generalize (conv q B).getD j 0 = y
   by_cases e:i ≤ j
   ·rw [if_pos e,if_pos e]
    generalize c * B.getD (j - i) 0 = z
    grind
   ·rw [if_neg e,if_neg e,Zeu]
  ·rw [getD_set (by omega),if_neg (by omega)]
   exact h2 i' (by omega)
  ·rw [hs,if_pos (by omega)]
   by_cases e:j = i + p
   ·subst e
    rw [Nat.add_sub_cancel_left,← hc]
    generalize r.getD (i + p) 0 = x
    generalize B.getD p 0 = y at *
    have e2:x * t * y = x * (y * t):=by grind
    rw [e2,ht]
    grind
   ·rw [h3 j (by omega),Zbw (l:=B) (by omega),Zgs,sub00]
theorem Zhj {x:F} (h:x ≠ 0):x * inv x = 1:=by
 have e:(52435875175126190479447740508185965837690552500527637822603658699938581184511:Nat) = N1 - 1:=by decide +kernel
 rw [inv,e]
 exact Zxw x h
theorem Z2n (a b:List F) (h:(cut b).length ≠ 0):(dv a b).2.2 = 0 ∧ (∀ j,(dv a b).2.1.getD j 0 + (conv (dv a b).1 (cut b)).getD j 0 = a.getD j 0) ∧ (∀ j,(cut b).length ≤ j + 1→(dv a b).2.1.getD j 0 = 0):=by
 obtain ⟨p,hp⟩:∃ p,(cut b).length = p + 1:=⟨(cut b).length - 1,by omega⟩
 have ht:=Zko b h
 rw [hp,Nat.add_sub_cancel] at ht
 obtain ⟨h1,_,h3⟩:=Zyl (r0:=cut a) hp (Zhj ht) ((cut a).length - p) (Nat.le_refl _)
 have e1:(dv a b).1 = cut (divS (inv ((cut b).getD p 0)) (cut b) ((cut a).length - p) (cut a) ((cut a).length - p)).1:=by
  rw [dv,if_neg h,hp,Nat.add_sub_cancel,Nat.add_sub_add_right]
 have e2:(dv a b).2.1 = cut (divS (inv ((cut b).getD p 0)) (cut b) ((cut a).length - p) (cut a) ((cut a).length - p)).2:=by
  rw [dv,if_neg h,hp,Nat.add_sub_cancel,Nat.add_sub_add_right]
 have e3:(dv a b).2.2 = 0:=by rw [dv,if_neg h]
 refine ⟨e3,fun j=>?_,fun j hj=>?_⟩
 ·rw [e1,e2,Zbj,Zni (cut b) j (Zbj _),h1,Zbj]
 ·rw [e2,Zbj]
  exact h3 j (by omega)
theorem Z2p (a b:List F):cut (dv a b).1 = (dv a b).1 ∧ cut (dv a b).2.1 = (dv a b).2.1:=by
 rw [dv]
 split
 ·exact ⟨rfl,rfl⟩
 ·exact ⟨Zst _,Zst _⟩
theorem Z5a (a b:List F) (h:(cut b).length ≠ 0):cut (bth (fun x y=>x + y) (pm (dv a b).1 b) (dv a b).2.1) = cut a:=by
 obtain ⟨_,h1,_⟩:=Z2n a b h
 refine Zhm fun j=>?_
 rw [Zs7,Zoa,Zni (cut b) j (Zbj _),← h1 j]
 generalize (conv (dv a b).1 (cut b)).getD j 0 = x
 generalize (dv a b).2.1.getD j 0 = y
 grind
theorem Z01 (a b:List F) (h:(cut b).length ≠ 0):(cut (dv a b).2.1).length < (cut b).length:=by
 obtain ⟨_,_,h2⟩:=Z2n a b h
 have:=Zvz (l:=(dv a b).2.1) (n:=(cut b).length - 1) fun i hi=>h2 i (by omega)
 omega
theorem Zuh (z:F):∀ (L:List F),(conv L [0 - z,1]).getD 0 0 = L.getD 0 0 * (0 - z) ∧ ∀ k,(conv L [0 - z,1]).getD (k + 1) 0 = L.getD (k + 1) 0 * (0 - z) + L.getD k 0
 | []=>by
  simp only [conv,List.getD_nil]
  exact ⟨(Zdy _).symm,fun _=>by rw [Zdy,Zeu]⟩
 | x :: L=>by
  obtain ⟨h0,h1⟩:=Zuh z L
  simp only [conv,Zc5,Zgg,List.getD_cons_zero,List.getD_cons_succ]
  refine ⟨Zeu _,fun k=>?_⟩
  rcases k with _ | k
  ·rw [h0,List.getD_cons_zero,List.getD_cons_zero]
   generalize L.getD 0 0 * (0 - z) = y
   have e:x * 1 = x:=by grind
   rw [e]
   grind
  ·rw [h1,List.getD_cons_succ,List.getD_cons_succ,List.getD_nil,Zgs,Zev]
theorem Z0b (a:List F) (z:F):cut (bth (fun x y=>x + y) (pm (cut (lin a z).2) [0 - z,1]) [hor z a]) = cut a:=by
 refine Zhm fun j=>?_
 have hL:∀ k,(cut (cut (lin a z).2)).getD k 0 = hor z (a.drop (k + 1)):=fun k=>by rw [Zbj,Zbj,Zxj]
 have hd:∀ k,hor z (a.drop k) = a.getD k 0 + hor z (a.drop (k + 1)) * z:=fun k=>by
  by_cases h:k < a.length
  ·exact Zma z a k h
  ·rw [Znb z a k (by omega),Znb z a (k + 1) (by omega),Zbw (by omega),Zdy,Zeu]
 rw [Zs7,Zoa,Z08]
 obtain ⟨c0,c1⟩:=Zuh z (cut (cut (lin a z).2))
 rcases j with _ | j
 ·rw [c0,hL,List.getD_cons_zero]
  have e:=hd 0
  rw [List.drop_zero] at e
  rw [e]
  generalize hor z (a.drop (0 + 1)) = x
  generalize a.getD 0 0 = y
  have e0:x * (0 - z) + (y + x * z) = x * (0 - z + z) + y:=by grind
  have e1:(0:F) - z + z = 0:=by grind
  rw [e0,e1,Zgs,Zev]
 ·rw [c1,hL,hL,hd (j + 1),List.getD_cons_succ,List.getD_nil,Zeu]
  generalize hor z (a.drop (j + 1 + 1)) = x
  generalize a.getD (j + 1) 0 = y
  have e0:x * (0 - z) + (y + x * z) = x * (0 - z + z) + y:=by grind
  have e1:(0:F) - z + z = 0:=by grind
  rw [e0,e1,Zgs,Zev]
end Go.Proofs.PL
