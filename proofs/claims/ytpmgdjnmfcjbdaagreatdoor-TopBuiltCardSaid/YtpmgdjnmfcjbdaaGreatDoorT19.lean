/- Contracts of eval.Public, Cells. No conditions beyond what each names. -/
import Derived.Test.YtpmgdjnmfcjbdaaGreatDoorT18
import Derived.Test.YtpmgdjnmfcjbdaaGreatDoorT16
import Derived.Test.YtpmgdjnmfcjbdaaGreatDoorT17
import Derived.Test.YtpmgdjnmfcjbdaaGreatDoorT15
set_option linter.all false
namespace Go.Proofs.Tryz.PMT
open Go Go.Proofs.PM Go.Proofs.PL Go.Proofs.Tryz
variable {K:PV→List Ob→Prop}
set_option maxRecDepth 4000
abbrev nilS:PV:=.val (.slice none 0 0)
theorem Zuh {x:F} (hK:K (ff (0 - x)) []):PSpec prog 70 [ff x] [] K:=by
 refine Zsm ?_
 simp only [yS,yN,yG,yT,yI,yF,yZ,yM,yU,yL,yB,yR,pc_fr_Neg]
 simp -implicitDefEqProofs only [go_sem,Nat.reduceAdd,Nat.reduceSub,Nat.reduceEqDiff,Nat.reduceLT,Zn]
 refine Zh8 ?_
 simp -implicitDefEqProofs only [go_sem,Nat.reduceEqDiff]
 exact Zi rfl hK
theorem Zob {L:Nat} {p:List F} (hL1:1 ≤ L) (hL:L ≤ 6) (hpl:p.length ≤ 2 ^ L) (hK:K (.tup [.osl 0 [] 0 (2 ^ L),i64 0]) [.row 25 (.arr 4 .one) (ffs (upT (pubF p) (2 ^ L) p.length))]) :
  PSpec prog 39 [i64 L,.vsl false (.arr 4 .one) (ffs p)] [] K:=by
 refine Zjs ?_
 simp only [yS,yN,yG,yT,yI,yF,yZ,yM,yU,yL,yB,yR,pc_eval_Public]
 have hsh:=shl1 (show L < 63 by omega)
 have cu:IntKind.u64.wrap (L:Int) = (L:Int):=wru (by omega) (by omega)
 have hp:=Nat.two_pow_pos L
 have hn:2 ^ L ≤ 64:=Nat.pow_le_pow_right (n:=2) (by decide) hL
 obtain ⟨n,hn'⟩:∃ n,2 ^ L = n:=⟨_,rfl⟩
 rw [hn'] at hK hsh hp hpl hn
 have a1:¬ (L:Int) < 1:=by omega
 have a2:¬ (L:Int) > 6:=by omega
 have a3:¬ (p.length:Int) > (n:Int):=by omega
 simp -implicitDefEqProofs only [go_sem,Nat.reduceAdd,Nat.reduceSub,Nat.reduceEqDiff,a1,a2,a3,decide_false,cu,↓hsh,Zn]
 repeat (with_reducible refine And.intro (by first | omega | decide) ?_)
 rw [upT_0 (f:=pubF p)]
 refine Z2 (ι:={ t:Nat // t ≤ p.length }) [4,7,8,29,30,31,32,33,34,35,36,37,38,39] (fun t=>[(6,.osl 1 [] 0 n),(27,.vsl false (.arr 4 .one) (ffs p)),(28,i64 (p.length:Int)),(29,i64 t.1)]) (fun t=>[(0,.ob (.row 25 (.arr 4 .one) [])),(1,.ob (.row 25 (.arr 4 .one) (ffs (upT (pubF p) n t.1))))]) 2 (fun t=>p.length - t.1) ⟨0,Nat.zero_le _⟩ ?_ ?_
 ·rw [Zj]
  refine Zl [(0,0),(1,1)] rfl rfl rfl ?_ ?_
  ·simp -implicitDefEqProofs only [go_sem,Nat.reduceEqDiff,Nat.reduceLT]
  ·simp -implicitDefEqProofs only [go_sem,Nat.reduceEqDiff]
 intro ⟨t,ht⟩ G hG
 dsimp only at ht hG
 simp -implicitDefEqProofs only [go_sem]
 refine Zo (fun h2=>?_) (fun h2=>?_)
 ·simp only [decide_eq_true_eq] at h2
  have htr:t < p.length:=by omega
  have hti:(t:Int) < (n:Int):=by omega
  have cwt:IntKind.i64.wrap ((t:Int) + 1) = ((t + 1:Nat):Int):=by rw [wrs (by omega) (by omega)]; omega
  have hset:(ffs (upT (pubF p) n t)).set t (ff (0 - p.getD t 0)) = ffs (upT (pubF p) n (t + 1)):=by rw [← Zgh,ffs,ffs,List.map_set]; rfl
  simp -implicitDefEqProofs only [go_sem,Nat.reduceAdd,Nat.reduceEqDiff,Nat.reduceLT,Zbf htr,h2]
  repeat (with_reducible refine And.intro (by first | omega | decide) ?_)
  refine Zuh ?_
  simp -implicitDefEqProofs only [go_sem,Nat.reduceEqDiff,Zs,Zbv,hti,hset,cwt]
  repeat (with_reducible refine And.intro (by first | omega | decide) ?_)
  refine hG _ ⟨t + 1,by omega⟩ (by simp only; omega) ?_
  rw [Zj]
  refine Zl [(0,0),(1,1)] rfl rfl rfl ?_ ?_
  ·simp -implicitDefEqProofs only [go_sem,Nat.reduceEqDiff,Nat.reduceLT]
  ·simp -implicitDefEqProofs only [go_sem,Nat.reduceEqDiff]
 ·have htp:t = p.length:=by simp only [decide_eq_false_iff_not] at h2; omega
  subst htp
  simp -implicitDefEqProofs only [go_sem]
  refine Z8 [(1,0)] [.row 25 (.arr 4 .one) (ffs (upT (pubF p) n p.length))] [.osl 0 [] 0 n,i64 0] rfl rfl rfl rfl ?_ ?_ hK
  ·simp -implicitDefEqProofs only [go_sem,Nat.reduceEqDiff,Nat.reduceLT]
  ·simp -implicitDefEqProofs only [go_sem]
set_option maxHeartbeats 8000000 in
theorem Zrp {P V L:Nat} {R:List Rw} {S:List (Int × Int)} {v:List F} (h:CGt P V R S) (hv:v.length = V) (hL1:1 ≤ L) (hL:L ≤ 6) (hrl:R.length ≤ 2 ^ L) (hK:K (.tup [.agg [.osl 0 [] 0 (2 ^ L),.osl 1 [] 0 (2 ^ L),.osl 2 [] 0 (2 ^ L)],i64 0]) [.row 25 (.arr 4 .one) (ffs (upT (celF R v 0) (2 ^ L) R.length)),.row 25 (.arr 4 .one) (ffs (upT (celF R v 1) (2 ^ L) R.length)),.row 25 (.arr 4 .one) (ffs (upT (celF R v 2) (2 ^ L) R.length))]) :
  PSpec prog 38 [cirP P V R S,i64 L,.vsl false (.arr 4 .one) (ffs v)] [] K:=by
 have hg:=h
 obtain ⟨h1,h2,h3,h4,h5,h6,h7,h8⟩:=h
 refine Zkq ?_
 simp only [yS,yN,yG,yT,yI,yF,yZ,yM,yU,yL,yB,yR,pc_eval_Cells]
 have hsh:=shl1 (show L < 63 by omega)
 have cu:IntKind.u64.wrap (L:Int) = (L:Int):=wru (by omega) (by omega)
 have hp:=Nat.two_pow_pos L
 have hn:2 ^ L ≤ 64:=Nat.pow_le_pow_right (n:=2) (by decide) hL
 obtain ⟨n,hn'⟩:∃ n,2 ^ L = n:=⟨_,rfl⟩
 rw [hn'] at hK hsh hp hrl hn
 have a1:¬ (L:Int) < 1:=by omega
 have a2:¬ (L:Int) > 6:=by omega
 have a3:¬ (n:Int) < (R.length:Int):=by omega
 have a4:((v.length:Int) != (V:Int)) = false:=by rw [hv]; simp
 have a5:((v.length:Int) == (V:Int)) = true:=by rw [hv]; simp
 simp -implicitDefEqProofs only [go_sem,Nat.reduceAdd,Nat.reduceSub,Nat.reduceEqDiff,Nat.reduceLT,a1,a2,a3,a4,decide_false,cu,↓hsh,Zdz]
 refine Zmj hg ?_
 simp -implicitDefEqProofs only [go_sem,Nat.reduceAdd,Nat.reduceEqDiff,Int.reduceBNe,Zn]
 refine Zm 4 ?_
 simp -implicitDefEqProofs only [go_sem,Nat.reduceAdd,Nat.reduceEqDiff,Int.reduceLT,Int.reduceLE,cu,↓hsh]
 repeat (with_reducible refine And.intro (by first | omega | decide) ?_)
 rw [upT_0 (f:=celF R v 0)]
 refine Z2 (ι:={ i:Nat // i ≤ R.length }) [10,11,12,53,54,55,56,57,58,59,60,61,62,63,64,65,66,67,68,69,70,71,72,73] (fun i=>[(2,.vsl false (.arr 4 .one) (ffs v)),(3,.ptr 0 []),(6,.ptr 1 []),(8,.ptr 2 []),(9,i64 0),(41,i64 0),(51,.vsl false sRw (rws R)),(52,i64 (R.length:Int)),(53,i64 (i.1:Int))]) (fun i=>[(0,.ob (.var shBc (cirP P V R S))),(1,.ob (.var (.arr 3 .one) (.agg [nilS,nilS,nilS]))),(2,.ob (.var (.arr 3 .one) (.agg [.osl 3 [] 0 n,nilS,nilS]))),(3,.ob (.row 25 (.arr 4 .one) (ffs (upT (celF R v 0) n i.1))))]) 4 (fun i=>R.length - i.1) ⟨0,Nat.zero_le _⟩ ?_ ?_
 ·rw [Zj]
  refine Zq [(0,0),(1,1),(2,2),(3,3)] rfl rfl rfl ?_ ?_
  ·simp -implicitDefEqProofs only [go_sem,Nat.reduceAdd,Nat.reduceEqDiff,Nat.reduceLT,Zd,Za,Zc,Zg,Zb,Zf,Ze,Zr,Zz]
   try rfl
  ·simp -implicitDefEqProofs only [go_sem,Nat.reduceEqDiff,Zd,Za,Zc,Zg,Zb,Zf,Ze]
 intro ⟨i,hi⟩ G hG
 dsimp only at hi hG
 simp -implicitDefEqProofs only [go_sem]
 refine Zo (fun h=>?_) (fun h=>?_)
 ·simp only [decide_eq_true_eq] at h
  have hir:i < R.length:=by omega
  have ci:IntKind.i64.wrap ((i:Int) + 1) = ((i + 1:Nat):Int):=by rw [wrs (by omega) (by omega)]; omega
  have hri:=h6 _ (Zct (d:=default) hir)
  have hce:celF R v 0 i = va v (rwC (R.getD i default) 0):=rfl
  obtain ⟨r,hr⟩:∃ r,R.getD i default = r:=⟨_,rfl⟩
  rw [hr] at hri hce
  have q8:=r.hq
  have hrw:rwC r 0 = r.a:=rfl
  have hin:(i:Int) < (n:Int):=by omega
  have hrr:-1 ≤ r.a ∧ r.a < V:=by have:=hri.1; have:=hri.2.1; have:=hri.2.2; omega
  simp -implicitDefEqProofs only [go_sem,Nat.reduceAdd,Nat.reduceEqDiff,Int.reduceLT,Int.reduceLE,Zdg hir,hr,rwP,h,Zs,q8]
  repeat (with_reducible refine And.intro (by first | omega | decide) ?_)
  by_cases hw:r.a ≥ 0
  ·obtain ⟨w,hwe⟩:∃ w:Nat,r.a = (w:Int):=⟨r.a.toNat,by omega⟩
   have hwv:w < v.length:=by omega
   have hwi:(w:Int) < (v.length:Int):=by omega
   have hw0:(w:Int) ≥ 0:=by omega
   have hcv:celF R v 0 i = v.getD w 0:=by rw [hce,hrw,hwe,Zfv]
   have hset:(ffs (upT (celF R v 0) n i)).set i (ff (v.getD w 0)) = ffs (upT (celF R v 0) n (i + 1)):=by rw [← Zgh,hcv,ffs,ffs,List.map_set]
   rw [hwe]
   simp -implicitDefEqProofs only [go_sem,Nat.reduceAdd,Nat.reduceMul,Nat.reduceEqDiff,Int.reduceLT,Int.reduceLE,hw0,decide_true,Zbf hwv,Zs,Zbv,hwi,hin,hset,ci]
   repeat (with_reducible refine And.intro (by first | omega | decide) ?_)
   refine hG _ ⟨i + 1,by omega⟩ (by simp only; omega) ?_
   rw [Zj]
   refine Zq [(0,0),(1,1),(2,2),(3,3)] rfl rfl rfl ?_ ?_
   ·simp -implicitDefEqProofs only [go_sem,Nat.reduceAdd,Nat.reduceEqDiff,Nat.reduceLT,Zd,Za,Zc,Zg,Zb,Zf,Ze,Zr,Zz]
   ·simp -implicitDefEqProofs only [go_sem,Nat.reduceEqDiff,Zd,Za,Zc,Zg,Zb,Zf,Ze]
  ·have hcv:celF R v 0 i = 0:=by rw [hce,hrw]; exact Zsd (by omega)
   have hsk:upT (celF R v 0) n i = upT (celF R v 0) n (i + 1):=Zh3 hcv
   simp -implicitDefEqProofs only [go_sem,hw,decide_false,ci]
   refine hG _ ⟨i + 1,by omega⟩ (by simp only; omega) ?_
   rw [Zj]
   refine Zq [(0,0),(1,1),(2,2),(3,3)] rfl rfl rfl ?_ ?_
   ·simp -implicitDefEqProofs only [go_sem,Nat.reduceAdd,Nat.reduceEqDiff,Nat.reduceLT,Zd,Za,Zc,Zg,Zb,Zf,Ze,Zr,Zz,hsk]
   ·simp -implicitDefEqProofs only [go_sem,Nat.reduceEqDiff,Zd,Za,Zc,Zg,Zb,Zf,Ze]
 have hiR0:i = R.length:=by simp only [decide_eq_false_iff_not] at h; omega
 subst hiR0
 clear hG h
 simp -implicitDefEqProofs only [go_sem,Nat.reduceAdd,Nat.reduceEqDiff,Int.reduceToNat,Int.reduceLT,Int.reduceLE,Int.reduceAdd,Int.reduceNeg,cu,↓hsh]
 repeat (with_reducible refine And.intro (by first | omega | decide) ?_)
 rw [upT_0 (f:=celF R v 1)]
 refine Z2 (ι:={ i:Nat // i ≤ R.length }) [10,11,12,53,54,55,56,57,58,59,60,61,62,63,64,65,66,67,68,69,70,71,72,73] (fun i=>[(2,.vsl false (.arr 4 .one) (ffs v)),(3,.ptr 0 []),(6,.ptr 1 []),(8,.ptr 2 []),(9,i64 1),(41,i64 1),(51,.vsl false sRw (rws R)),(52,i64 (R.length:Int)),(53,i64 (i.1:Int))]) (fun i=>[(0,.ob (.var shBc (cirP P V R S))),(1,.ob (.var (.arr 3 .one) (.agg [nilS,nilS,nilS]))),(2,.ob (.var (.arr 3 .one) (.agg [.osl 3 [] 0 n,.osl 4 [] 0 n,nilS]))),(3,.ob (.row 25 (.arr 4 .one) (ffs (upT (celF R v 0) n R.length)))),(4,.ob (.row 25 (.arr 4 .one) (ffs (upT (celF R v 1) n i.1))))]) 5 (fun i=>R.length - i.1) ⟨0,Nat.zero_le _⟩ ?_ ?_
 ·rw [Zj]
  refine Zq [(0,0),(1,1),(2,2),(3,3),(4,4)] rfl rfl rfl ?_ ?_
  ·simp -implicitDefEqProofs only [go_sem,Nat.reduceAdd,Nat.reduceEqDiff,Nat.reduceLT,Zd,Za,Zc,Zg,Zb,Zf,Ze,Zr,Zz]
   try rfl
  ·simp -implicitDefEqProofs only [go_sem,Nat.reduceEqDiff,Zd,Za,Zc,Zg,Zb,Zf,Ze]
 intro ⟨i,hi⟩ G hG
 dsimp only at hi hG
 simp -implicitDefEqProofs only [go_sem]
 refine Zo (fun h=>?_) (fun h=>?_)
 ·simp only [decide_eq_true_eq] at h
  have hir:i < R.length:=by omega
  have ci:IntKind.i64.wrap ((i:Int) + 1) = ((i + 1:Nat):Int):=by rw [wrs (by omega) (by omega)]; omega
  have hri:=h6 _ (Zct (d:=default) hir)
  have hce:celF R v 1 i = va v (rwC (R.getD i default) 1):=rfl
  obtain ⟨r,hr⟩:∃ r,R.getD i default = r:=⟨_,rfl⟩
  rw [hr] at hri hce
  have q8:=r.hq
  have hrw:rwC r 1 = r.b:=rfl
  have hin:(i:Int) < (n:Int):=by omega
  have hrr:-1 ≤ r.b ∧ r.b < V:=by have:=hri.1; have:=hri.2.1; have:=hri.2.2; omega
  simp -implicitDefEqProofs only [go_sem,Nat.reduceAdd,Nat.reduceEqDiff,Int.reduceToNat,Int.reduceLT,Int.reduceLE,Zdg hir,hr,rwP,h,Zs,q8]
  repeat (with_reducible refine And.intro (by first | omega | decide) ?_)
  by_cases hw:r.b ≥ 0
  ·obtain ⟨w,hwe⟩:∃ w:Nat,r.b = (w:Int):=⟨r.b.toNat,by omega⟩
   have hwv:w < v.length:=by omega
   have hwi:(w:Int) < (v.length:Int):=by omega
   have hw0:(w:Int) ≥ 0:=by omega
   have hcv:celF R v 1 i = v.getD w 0:=by rw [hce,hrw,hwe,Zfv]
   have hset:(ffs (upT (celF R v 1) n i)).set i (ff (v.getD w 0)) = ffs (upT (celF R v 1) n (i + 1)):=by rw [← Zgh,hcv,ffs,ffs,List.map_set]
   rw [hwe]
   simp -implicitDefEqProofs only [go_sem,Nat.reduceAdd,Nat.reduceMul,Nat.reduceEqDiff,Int.reduceToNat,Int.reduceLT,Int.reduceLE,hw0,decide_true,Zbf hwv,Zs,Zbv,hwi,hin,hset,ci]
   repeat (with_reducible refine And.intro (by first | omega | decide) ?_)
   refine hG _ ⟨i + 1,by omega⟩ (by simp only; omega) ?_
   rw [Zj]
   refine Zq [(0,0),(1,1),(2,2),(3,3),(4,4)] rfl rfl rfl ?_ ?_
   ·simp -implicitDefEqProofs only [go_sem,Nat.reduceAdd,Nat.reduceEqDiff,Nat.reduceLT,Zd,Za,Zc,Zg,Zb,Zf,Ze,Zr,Zz]
   ·simp -implicitDefEqProofs only [go_sem,Nat.reduceEqDiff,Zd,Za,Zc,Zg,Zb,Zf,Ze]
  ·have hcv:celF R v 1 i = 0:=by rw [hce,hrw]; exact Zsd (by omega)
   have hsk:upT (celF R v 1) n i = upT (celF R v 1) n (i + 1):=Zh3 hcv
   simp -implicitDefEqProofs only [go_sem,hw,decide_false,ci]
   refine hG _ ⟨i + 1,by omega⟩ (by simp only; omega) ?_
   rw [Zj]
   refine Zq [(0,0),(1,1),(2,2),(3,3),(4,4)] rfl rfl rfl ?_ ?_
   ·simp -implicitDefEqProofs only [go_sem,Nat.reduceAdd,Nat.reduceEqDiff,Nat.reduceLT,Zd,Za,Zc,Zg,Zb,Zf,Ze,Zr,Zz,hsk]
   ·simp -implicitDefEqProofs only [go_sem,Nat.reduceEqDiff,Zd,Za,Zc,Zg,Zb,Zf,Ze]
 have hiR1:i = R.length:=by simp only [decide_eq_false_iff_not] at h; omega
 subst hiR1
 clear hG h
 simp -implicitDefEqProofs only [go_sem,Nat.reduceAdd,Nat.reduceEqDiff,Int.reduceToNat,Int.reduceLT,Int.reduceLE,Int.reduceAdd,Int.reduceNeg,cu,↓hsh]
 repeat (with_reducible refine And.intro (by first | omega | decide) ?_)
 rw [upT_0 (f:=celF R v 2)]
 refine Z2 (ι:={ i:Nat // i ≤ R.length }) [10,11,12,53,54,55,56,57,58,59,60,61,62,63,64,65,66,67,68,69,70,71,72,73] (fun i=>[(2,.vsl false (.arr 4 .one) (ffs v)),(3,.ptr 0 []),(6,.ptr 1 []),(8,.ptr 2 []),(9,i64 2),(41,i64 2),(51,.vsl false sRw (rws R)),(52,i64 (R.length:Int)),(53,i64 (i.1:Int))]) (fun i=>[(0,.ob (.var shBc (cirP P V R S))),(1,.ob (.var (.arr 3 .one) (.agg [nilS,nilS,nilS]))),(2,.ob (.var (.arr 3 .one) (.agg [.osl 3 [] 0 n,.osl 4 [] 0 n,.osl 5 [] 0 n]))),(3,.ob (.row 25 (.arr 4 .one) (ffs (upT (celF R v 0) n R.length)))),(4,.ob (.row 25 (.arr 4 .one) (ffs (upT (celF R v 1) n R.length)))),(5,.ob (.row 25 (.arr 4 .one) (ffs (upT (celF R v 2) n i.1))))]) 6 (fun i=>R.length - i.1) ⟨0,Nat.zero_le _⟩ ?_ ?_
 ·rw [Zj]
  refine Zq [(0,0),(1,1),(2,2),(3,3),(4,4),(5,5)] rfl rfl rfl ?_ ?_
  ·simp -implicitDefEqProofs only [go_sem,Nat.reduceAdd,Nat.reduceEqDiff,Nat.reduceLT,Zd,Za,Zc,Zg,Zb,Zf,Ze,Zr,Zz]
   try rfl
  ·simp -implicitDefEqProofs only [go_sem,Nat.reduceEqDiff,Zd,Za,Zc,Zg,Zb,Zf,Ze]
 intro ⟨i,hi⟩ G hG
 dsimp only at hi hG
 simp -implicitDefEqProofs only [go_sem]
 refine Zo (fun h=>?_) (fun h=>?_)
 ·simp only [decide_eq_true_eq] at h
  have hir:i < R.length:=by omega
  have ci:IntKind.i64.wrap ((i:Int) + 1) = ((i + 1:Nat):Int):=by rw [wrs (by omega) (by omega)]; omega
  have hri:=h6 _ (Zct (d:=default) hir)
  have hce:celF R v 2 i = va v (rwC (R.getD i default) 2):=rfl
  obtain ⟨r,hr⟩:∃ r,R.getD i default = r:=⟨_,rfl⟩
  rw [hr] at hri hce
  have q8:=r.hq
  have hrw:rwC r 2 = r.c:=rfl
  have hin:(i:Int) < (n:Int):=by omega
  have hrr:-1 ≤ r.c ∧ r.c < V:=by have:=hri.1; have:=hri.2.1; have:=hri.2.2; omega
  simp -implicitDefEqProofs only [go_sem,Nat.reduceAdd,Nat.reduceEqDiff,Int.reduceToNat,Int.reduceLT,Int.reduceLE,Zdg hir,hr,rwP,h,Zs,q8]
  repeat (with_reducible refine And.intro (by first | omega | decide) ?_)
  by_cases hw:r.c ≥ 0
  ·obtain ⟨w,hwe⟩:∃ w:Nat,r.c = (w:Int):=⟨r.c.toNat,by omega⟩
   have hwv:w < v.length:=by omega
   have hwi:(w:Int) < (v.length:Int):=by omega
   have hw0:(w:Int) ≥ 0:=by omega
   have hcv:celF R v 2 i = v.getD w 0:=by rw [hce,hrw,hwe,Zfv]
   have hset:(ffs (upT (celF R v 2) n i)).set i (ff (v.getD w 0)) = ffs (upT (celF R v 2) n (i + 1)):=by rw [← Zgh,hcv,ffs,ffs,List.map_set]
   rw [hwe]
   simp -implicitDefEqProofs only [go_sem,Nat.reduceAdd,Nat.reduceMul,Nat.reduceEqDiff,Int.reduceToNat,Int.reduceLT,Int.reduceLE,hw0,decide_true,Zbf hwv,Zs,Zbv,hwi,hin,hset,ci]
   repeat (with_reducible refine And.intro (by first | omega | decide) ?_)
   refine hG _ ⟨i + 1,by omega⟩ (by simp only; omega) ?_
   rw [Zj]
   refine Zq [(0,0),(1,1),(2,2),(3,3),(4,4),(5,5)] rfl rfl rfl ?_ ?_
   ·simp -implicitDefEqProofs only [go_sem,Nat.reduceAdd,Nat.reduceEqDiff,Nat.reduceLT,Zd,Za,Zc,Zg,Zb,Zf,Ze,Zr,Zz]
   ·simp -implicitDefEqProofs only [go_sem,Nat.reduceEqDiff,Zd,Za,Zc,Zg,Zb,Zf,Ze]
  ·have hcv:celF R v 2 i = 0:=by rw [hce,hrw]; exact Zsd (by omega)
   have hsk:upT (celF R v 2) n i = upT (celF R v 2) n (i + 1):=Zh3 hcv
   simp -implicitDefEqProofs only [go_sem,hw,decide_false,ci]
   refine hG _ ⟨i + 1,by omega⟩ (by simp only; omega) ?_
   rw [Zj]
   refine Zq [(0,0),(1,1),(2,2),(3,3),(4,4),(5,5)] rfl rfl rfl ?_ ?_
   ·simp -implicitDefEqProofs only [go_sem,Nat.reduceAdd,Nat.reduceEqDiff,Nat.reduceLT,Zd,Za,Zc,Zg,Zb,Zf,Ze,Zr,Zz,hsk]
   ·simp -implicitDefEqProofs only [go_sem,Nat.reduceEqDiff,Zd,Za,Zc,Zg,Zb,Zf,Ze]
 have hiR2:i = R.length:=by simp only [decide_eq_false_iff_not] at h; omega
 subst hiR2
 clear hG h
 simp -implicitDefEqProofs only [go_sem,Nat.reduceAdd,Nat.reduceEqDiff,Int.reduceLT,Int.reduceLE,Int.reduceAdd,Int.reduceNeg]
 refine Z8 [(3,0),(4,1),(5,2)] [.row 25 (.arr 4 .one) (ffs (upT (celF R v 0) n R.length)),.row 25 (.arr 4 .one) (ffs (upT (celF R v 1) n R.length)),.row 25 (.arr 4 .one) (ffs (upT (celF R v 2) n R.length))] [.agg [.osl 0 [] 0 n,.osl 1 [] 0 n,.osl 2 [] 0 n],i64 0] rfl rfl rfl rfl ?_ ?_ hK
 ·simp -implicitDefEqProofs only [go_sem,Nat.reduceAdd,Nat.reduceEqDiff,Nat.reduceLT]
 ·simp -implicitDefEqProofs only [go_sem,Nat.reduceEqDiff,Zd,Za,Zb,Zr,Zz]
end Go.Proofs.Tryz.PMT
namespace Go.Proofs.Tryz.PMT
open Go Go.Proofs.PM Go.Proofs.PL Go.Proofs.Tryz
variable {K:PV→List Ob→Prop}
set_option maxRecDepth 4000
def iniL (V k:Nat):List Int:=(List.range V).map fun i:Nat=>if i < k then (i:Int) else 0
theorem Zi8 {V k:Nat}:(iniL V k).length = V:=by simp only [iniL,List.length_map,List.length_range]
theorem ini_0 {V:Nat}:List.replicate V (PV.val (.int .i64 0)) = isl (iniL V 0):=by
 have h:iniL V 0 = List.replicate V 0:=by
  rw [List.eq_replicate_iff]
  refine ⟨Zi8,fun b hb=>?_⟩
  obtain ⟨i,_,rfl⟩:=List.mem_map.1 hb
  exact if_neg (Nat.not_lt_zero i)
 rw [h,isl,List.map_replicate]
theorem Z1t {V k:Nat}:(iniL V k).set k (k:Int) = iniL V (k + 1):=by
 refine List.ext_getElem (by rw [List.length_set,Zi8,Zi8]) fun i h1 h2=>?_
 rw [List.getElem_set]
 simp only [iniL,List.getElem_map,List.getElem_range]
 by_cases e:k = i
 ·subst e
  rw [if_pos rfl,if_pos (by omega)]
 ·rw [if_neg e]
  by_cases e2:i < k
  ·rw [if_pos e2,if_pos (by omega)]
  ·rw [if_neg e2,if_neg (by omega)]
theorem Z1u {S:List (Int × Int)} {V:Nat}:iniL V V = itr S V 0:=by
 refine List.ext_getElem (by simp [iniL,itr]) fun i h1 h2=>?_
 simp only [iniL,itr,List.getElem_map,List.getElem_range]
 rw [Zi8] at h1
 exact if_pos h1
set_option maxHeartbeats 4000000 in
theorem Zrd {P V:Nat} {R:List Rw} {S:List (Int × Int)} (h:CGt P V R S) (hK:ClsI S V (clsF S V)→K (.osl 0 [] 0 V) [.row 3 .one (isl (clsF S V))]):PSpec prog 36 [cirP P V R S] [] K:=by
 have hg:=h
 obtain ⟨h1,h2,h3,h4,h5,h6,h7,h8⟩:=h
 refine Zim ?_
 simp only [yS,yN,yG,yT,yI,yF,yZ,yM,yU,yL,yB,yR,pc_wire_Classes]
 simp -implicitDefEqProofs only [go_sem,Nat.reduceAdd,Nat.reduceSub,Nat.reduceEqDiff]
 refine Zdu (ι:={ k:Nat // Itr S V k }) (fun k=>⟨[.any,.ptr 0 [],.any,.osl 1 [] 0 V,.any,.any,.any,.any,.any,.any,.any,.any,.any,.any,.any,.any,.any,.any,.any,.any,.any,.any,.any,.any,.any,.any,.any,.any,.any,.any,.any,.any,.any,.any,.any,.any,.any,.any,.any,.any,.any,.any,.any,.any,.any,.any,.any,.any,.any,.any,.any,.any,.any,.any,.any,.any,.any,.any,.any,.any,.any,.any,.any,.any,.any,.any,.any,.any,.any,.any,.any,.any,.any,.any,.any,.any,.any,.any,.any,.any,.any,.any,.any,.any,.any,.any],osB [(0,.ob (.var shBc (cirP P V R S))),(1,.ob (.row 3 .one (isl (itr S V k.1))))],2,0⟩) (fun k=>(sumI (itr S V k.1)).toNat) ?_ ?_
 ·intro ⟨k,hk⟩ G hG
  dsimp only at hG
  simp -implicitDefEqProofs only [go_sem,Nat.reduceEqDiff]
  refine Z2 (ι:={ x:Nat × Bool // x.1 ≤ S.length ∧ Pss S V (itr S V k) (ps1 (S.take x.1) (itr S V k)) x.2 }) [2,5,7,8,9,10,11,28,29,30,31,32,33,34,35,36,37,38,39,40,41,42,43,44,45,46,47,48,49,50,51,52,53,54,55,56,57,58,59,60,61,62,63,64,65,66,67,68,69,70,71,72,73,74,75,76,77,78,79,80,81,82,83,84,85] (fun x=>[(1,.ptr 0 []),(3,.osl 1 [] 0 V),(5,bo x.1.2),(29,.vsl false (.arr 2 .one) (sms S)),(30,i64 (S.length:Int)),(31,i64 (x.1.1:Int))]) (fun x=>[(0,.ob (.var shBc (cirP P V R S))),(1,.ob (.row 3 .one (isl (ps1 (S.take x.1.1) (itr S V k)))))]) 2 (fun x=>S.length - x.1.1) ⟨(0,false),Nat.zero_le _,by rw [List.take_zero]; exact pss_0 hk⟩ ?_ ?_
  ·rw [Zj]
   refine Zq [(0,0),(1,1)] rfl rfl rfl ?_ ?_
   ·simp -implicitDefEqProofs only [go_sem,Nat.reduceEqDiff,Nat.reduceLT,ob_eq,Ob.row.injEq,Zd,Za,Zc,Zg,Zb,Zf,Ze,List.take_zero]
    rfl
   ·simp -implicitDefEqProofs only [go_sem,Nat.reduceEqDiff,Ze]
  intro ⟨⟨j,t⟩,hj,hps⟩ G2 hG2
  dsimp only at hj hps hG2
  simp -implicitDefEqProofs only [go_sem]
  refine Zo (fun h=>?_) (fun h=>?_)
  ·simp only [decide_eq_true_eq] at h
   have hjr:j < S.length:=by omega
   have cj:IntKind.i64.wrap ((j:Int) + 1) = ((j + 1:Nat):Int):=by rw [wrs (by omega) (by omega)]; omega
   have hmem:=Zct (d:=(0,0)) hjr
   have hsj:=h8 _ hmem
   have htk:=Zwj (l:=itr S V k) hjr
   obtain ⟨⟨x,y⟩,hxy⟩:∃ p,S.getD j (0,0) = p:=⟨_,rfl⟩
   rw [hxy] at hsj hmem htk
   dsimp only at hsj
   obtain ⟨a,rfl⟩:∃ a:Nat,x = (a:Int):=⟨x.toNat,by omega⟩
   obtain ⟨b,rfl⟩:∃ b:Nat,y = (b:Int):=⟨y.toNat,by omega⟩
   obtain ⟨m,hm⟩:∃ m,ps1 (S.take j) (itr S V k) = m:=⟨_,rfl⟩
   rw [hm] at hps htk
   have hml:=hps.cls.len
   have haV:a < V:=by omega
   have hbV:b < V:=by omega
   have ga:=Zgz (l:=m) (i:=a) (by omega)
   have gb:=Zgz (l:=m) (i:=b) (by omega)
   rw [hm]
   simp -implicitDefEqProofs only [go_sem,Nat.reduceAdd,Nat.reduceMul,Nat.reduceEqDiff,Int.reduceToNat,Int.reduceLT,Int.reduceLE,Zia hjr,hxy,smP,h,ga,gb,hml,Zhf]
   repeat (with_reducible refine And.intro (by first | omega | decide) ?_)
   by_cases e:m.getD a 0 = m.getD b 0
   ·have e':(m.getD a 0 != m.getD b 0) = false:=by rw [e]; simp
    have hpr:prS m ((a:Int),(b:Int)) = m:=if_pos e
    rw [hpr] at htk
    simp -implicitDefEqProofs only [go_sem,e',cj]
    refine hG2 _ ⟨(j + 1,t),by omega,by rw [htk]; exact hps⟩ (by simp only; omega) ?_
    rw [Zj]
    refine Zq [(0,0),(1,1)] rfl rfl rfl ?_ ?_
    ·simp -implicitDefEqProofs only [go_sem,Nat.reduceEqDiff,Nat.reduceLT,Zd,Za,Zc,Zg,Zb,Zf,Ze,htk]
    ·simp -implicitDefEqProofs only [go_sem,Nat.reduceEqDiff,Ze]
   ·have e':(m.getD a 0 != m.getD b 0) = true:=bne_iff_ne.2 e
    have hpr:prS m ((a:Int),(b:Int)) = (m.set a (if m.getD b 0 < m.getD a 0 then m.getD b 0 else m.getD a 0)).set b (if m.getD b 0 < m.getD a 0 then m.getD b 0 else m.getD a 0):=if_neg e
    have hpn:=pss_ne hps hmem hsj e
    rw [← htk] at hpn
    rw [hpr] at htk
    simp -implicitDefEqProofs only [go_sem,Nat.reduceAdd,Nat.reduceMul,Nat.reduceEqDiff,Int.reduceToNat,Int.reduceLT,Int.reduceLE,e',hml,Zhf,Znr,List.length_set,← htk,cj]
    repeat (with_reducible refine And.intro (by first | omega | decide) ?_)
    refine hG2 _ ⟨(j + 1,true),by omega,hpn⟩ (by simp only; omega) ?_
    rw [Zj]
    refine Zq [(0,0),(1,1)] rfl rfl rfl ?_ ?_
    ·simp -implicitDefEqProofs only [go_sem,Nat.reduceEqDiff,Nat.reduceLT,Zd,Za,Zc,Zg,Zb,Zf,Ze]
    ·simp -implicitDefEqProofs only [go_sem,Nat.reduceEqDiff,Ze]
  have hjS:j = S.length:=by simp only [decide_eq_false_iff_not] at h; omega
  subst hjS
  rw [List.take_length] at hps
  clear hG2 h
  rw [List.take_length]
  simp -implicitDefEqProofs only [go_sem,Nat.reduceEqDiff]
  refine Z2 (ι:={ x:Nat × Bool // x.1 ≤ V ∧ Pss S V (itr S V k) (ps2 x.1 (ps1 S (itr S V k))) x.2 }) [5,7,8,9,31,32,33,34,35,36,37,38,39,40,41,42,43,44,45,46,47,48,49,50,51,52,53,54,55,56,57,58,59,60,61,62] (fun x=>[(1,.ptr 0 []),(3,.osl 1 [] 0 V),(5,bo x.1.2),(63,.osl 1 [] 0 V),(64,i64 (V:Int)),(65,i64 (x.1.1:Int))]) (fun x=>[(0,.ob (.var shBc (cirP P V R S))),(1,.ob (.row 3 .one (isl (ps2 x.1.1 (ps1 S (itr S V k))))))]) 2 (fun x=>V - x.1.1) ⟨(0,t),Nat.zero_le _,hps⟩ ?_ ?_
  ·rw [Zj]
   refine Zq [(0,0),(1,1)] rfl rfl rfl ?_ ?_
   ·simp -implicitDefEqProofs only [go_sem,Nat.reduceEqDiff,Nat.reduceLT,ob_eq,Ob.row.injEq,Zd,Za,Zc,Zg,Zb,Zf,Ze]
    try rfl
   ·simp -implicitDefEqProofs only [go_sem,Nat.reduceEqDiff,Ze]
  intro ⟨⟨i,t2⟩,hi,hps2⟩ G2 hG2
  dsimp only at hi hps2 hG2
  simp -implicitDefEqProofs only [go_sem]
  refine Zo (fun h=>?_) (fun h=>?_)
  ·simp only [decide_eq_true_eq] at h
   have hiV:i < V:=by omega
   have ci:IntKind.i64.wrap ((i:Int) + 1) = ((i + 1:Nat):Int):=by rw [wrs (by omega) (by omega)]; omega
   have htk:ps2 (i + 1) (ps1 S (itr S V k)) = ixS (ps2 i (ps1 S (itr S V k))) i:=Zwi
   obtain ⟨m,hm⟩:∃ m,ps2 i (ps1 S (itr S V k)) = m:=⟨_,rfl⟩
   rw [hm] at hps2 htk
   have hml:=hps2.cls.len
   have hr:=hps2.cls.rng i hiV
   obtain ⟨u,hu⟩:∃ u:Nat,m.getD i 0 = (u:Int):=⟨(m.getD i 0).toNat,by omega⟩
   have huV:u < V:=by omega
   have gi:=Zgz (l:=m) (i:=i) (by omega)
   have gu:=Zgz (l:=m) (i:=u) (by omega)
   rw [hu] at gi
   have huI:(u:Int) < (V:Int):=by omega
   rw [hm]
   simp -implicitDefEqProofs only [go_sem,Nat.reduceEqDiff,h,gi,gu,hml,Zhf,huI]
   repeat (with_reducible refine And.intro (by first | omega | decide) ?_)
   by_cases e:m.getD u 0 < (u:Int)
   ·have hpn:=Z0o hps2 hiV (by rw [hu]; exact e)
    have hix:ixS m i = m.set i (m.getD u 0):=by rw [ixS,hu,Int.toNat_natCast,if_pos e]
    rw [← htk] at hpn
    rw [hix] at htk
    simp -implicitDefEqProofs only [go_sem,Nat.reduceEqDiff,e,decide_true,hml,Zhf,Znr,gu,huI,h,← htk,ci]
    repeat (with_reducible refine And.intro (by first | omega | decide) ?_)
    refine hG2 _ ⟨(i + 1,true),by omega,hpn⟩ (by simp only; omega) ?_
    rw [Zj]
    refine Zq [(0,0),(1,1)] rfl rfl rfl ?_ ?_
    ·simp -implicitDefEqProofs only [go_sem,Nat.reduceEqDiff,Nat.reduceLT,Zd,Za,Zc,Zg,Zb,Zf,Ze]
    ·simp -implicitDefEqProofs only [go_sem,Nat.reduceEqDiff,Ze]
   ·have hix:ixS m i = m:=by rw [ixS,hu,Int.toNat_natCast,if_neg e]
    rw [hix] at htk
    simp -implicitDefEqProofs only [go_sem,e,decide_false,ci]
    refine hG2 _ ⟨(i + 1,t2),by omega,by rw [htk]; exact hps2⟩ (by simp only; omega) ?_
    rw [Zj]
    refine Zq [(0,0),(1,1)] rfl rfl rfl ?_ ?_
    ·simp -implicitDefEqProofs only [go_sem,Nat.reduceEqDiff,Nat.reduceLT,Zd,Za,Zc,Zg,Zb,Zf,Ze,htk]
    ·simp -implicitDefEqProofs only [go_sem,Nat.reduceEqDiff,Ze]
  have hiV:i = V:=by simp only [decide_eq_false_iff_not] at h; omega
  subst hiV
  have hps3:Pss S i (itr S i k) (itr S i (k + 1)) t2:=hps2
  have eit:ps2 i (ps1 S (itr S i k)) = itr S i (k + 1):=rfl
  clear hG2 h
  rw [eit]
  simp -implicitDefEqProofs only [go_sem]
  cases t2 with
  | true =>
   simp -implicitDefEqProofs only [go_sem]
   refine hG _ ⟨k + 1,(Zpi hk hps3).1⟩ (Zpi hk hps3).2 ?_
   refine Zq [(0,0),(1,1)] rfl rfl rfl ?_ ?_
   ·simp -implicitDefEqProofs only [go_sem,Nat.reduceEqDiff,Nat.reduceLT,Zd,Za,Zc,Zg,Zb,Zf,Ze]
   ·simp -implicitDefEqProofs only [go_sem,Nat.reduceEqDiff]
  | false =>
   have hend:=Z1k hk hps3
   have e3:itr S i (k + 1) = clsF S i:=by
    rcases hps3.tn with ⟨_,h⟩ | ⟨h,_⟩
    ·rw [h]; exact hend.1
    ·cases h
   rw [e3]
   simp -implicitDefEqProofs only [go_sem]
   refine Z8 [(1,0)] [.row 3 .one (isl (clsF S i))] [.osl 0 [] 0 i] rfl rfl rfl rfl ?_ ?_ (hK hend.2)
   ·simp -implicitDefEqProofs only [go_sem,Nat.reduceEqDiff,Nat.reduceLT]
   ·simp -implicitDefEqProofs only [go_sem]
 ·intro G hG
  simp -implicitDefEqProofs only [go_sem,Nat.reduceEqDiff,Nat.reduceLT,Zdz]
  refine Zmj hg ?_
  simp -implicitDefEqProofs only [go_sem,Nat.reduceAdd,Nat.reduceEqDiff,Int.reduceBNe,ini_0]
  repeat (with_reducible refine And.intro (by first | omega | decide) ?_)
  refine Z2 (ι:={ k:Nat // k ≤ V }) [2,5,10,11,17,65,66,67,68,69,70,71,72,73,74,75,76,77,78,79,80,81,82,83] (fun k=>[(1,.ptr 0 []),(3,.osl 1 [] 0 V),(18,.osl 1 [] 0 V),(19,i64 (V:Int)),(20,i64 (k.1:Int))]) (fun k=>[(0,.ob (.var shBc (cirP P V R S))),(1,.ob (.row 3 .one (isl (iniL V k.1))))]) 2 (fun k=>V - k.1) ⟨0,Nat.zero_le _⟩ ?_ ?_
  ·rw [Zj]
   refine Zq [(0,0),(2,1)] rfl rfl rfl ?_ ?_
   ·simp -implicitDefEqProofs only [go_sem,Nat.reduceEqDiff,Nat.reduceLT,Zd,Za,Zc,Zg,Zb,Zf,Ze]
   ·simp -implicitDefEqProofs only [go_sem,Nat.reduceEqDiff,Zd,Za,Zc,Zg,Zb,Zf,Ze]
  intro ⟨k,hk⟩ G2 hG2
  dsimp only at hk hG2
  simp -implicitDefEqProofs only [go_sem]
  refine Zo (fun h=>?_) (fun h=>?_)
  ·simp only [decide_eq_true_eq] at h
   have ck:IntKind.i64.wrap ((k:Int) + 1) = ((k + 1:Nat):Int):=by rw [wrs (by omega) (by omega)]; omega
   simp -implicitDefEqProofs only [go_sem,Nat.reduceEqDiff,h,Zi8,Zhf,Znr,Z1t,ck]
   repeat (with_reducible refine And.intro (by first | omega | decide) ?_)
   refine hG2 _ ⟨k + 1,by omega⟩ (by simp only; omega) ?_
   rw [Zj]
   refine Zq [(0,0),(1,1)] rfl rfl rfl ?_ ?_
   ·simp -implicitDefEqProofs only [go_sem,Nat.reduceEqDiff,Nat.reduceLT,Zd,Za,Zc,Zg,Zb,Zf,Ze]
   ·simp -implicitDefEqProofs only [go_sem,Nat.reduceEqDiff,Zd,Za,Zc,Zg,Zb,Zf,Ze]
  have hkV:k = V:=by simp only [decide_eq_false_iff_not] at h; omega
  subst hkV
  rw [Z1u (S:=S)]
  simp -implicitDefEqProofs only [go_sem]
  refine Zhu _ ?_ (Zey (hG ⟨0,itr_0⟩))
  refine Zq [(0,0),(1,1)] rfl rfl rfl ?_ ?_
  ·simp -implicitDefEqProofs only [go_sem,Nat.reduceEqDiff,Nat.reduceLT,Zd,Za,Zc,Zg,Zb,Zf,Ze]
  ·simp -implicitDefEqProofs only [go_sem,Nat.reduceEqDiff]
end Go.Proofs.Tryz.PMT
namespace Go.Proofs.Tryz.PMT
open Go Go.Proofs.PM Go.Proofs.PL Go.Proofs.Tryz
variable {K:PV→List Ob→Prop}
set_option maxRecDepth 4000
theorem log_ex {n:Nat} (h:n ≤ 64):∃ L:Nat,(1 ≤ L ∧ L ≤ 6) ∧ n ≤ 2 ^ L ∧ (L = 1 ∨ 2 ^ (L - 1) < n):=by
 by_cases h1:n ≤ 2
 ·exact ⟨1,by omega,h1,.inl rfl⟩
 by_cases h2:n ≤ 4
 ·exact ⟨2,by omega,h2,.inr (by show 2 ^ 1 < n; omega)⟩
 by_cases h3:n ≤ 8
 ·exact ⟨3,by omega,h3,.inr (by show 2 ^ 2 < n; omega)⟩
 by_cases h4:n ≤ 16
 ·exact ⟨4,by omega,h4,.inr (by show 2 ^ 3 < n; omega)⟩
 by_cases h5:n ≤ 32
 ·exact ⟨5,by omega,h5,.inr (by show 2 ^ 4 < n; omega)⟩
 ·exact ⟨6,by omega,h,.inr (by show 2 ^ 5 < n; omega)⟩
set_option maxHeartbeats 8000000 in
theorem Zhh {P V:Nat} {R:List Rw} {S:List (Int × Int)} {p v:List F} (h:CGt P V R S) (hp:p.length = P) (hv:v.length = V)
  (hK:∀ L:Nat,(1 ≤ L ∧ L ≤ 6)→R.length ≤ 2 ^ L→(L = 1 ∨ 2 ^ (L - 1) < R.length)→ClsI S V (clsF S V)→K (.tup [i64 (ckR V R S p v L).1,i64 (ckR V R S p v L).2]) []) :
  PSpec prog 12 [cirP P V R S,.vsl false (.arr 4 .one) (ffs p),.vsl false (.arr 4 .one) (ffs v)] [] K:=by
 refine Zkp ?_
 simp only [yS,yN,yG,yT,yI,yF,yZ,yM,yU,yL,yB,yR,pc_eval_Check]
 simp -implicitDefEqProofs only [go_sem,Nat.reduceAdd,Nat.reduceSub]
 have a4:((p.length:Int) != (P:Int)) = false:=by rw [hp]; simp
 have a5:((p.length:Int) == (P:Int)) = true:=by rw [hp]; simp
 have a6:((v.length:Int) != (V:Int)) = false:=by rw [hv]; simp
 have a7:((v.length:Int) == (V:Int)) = true:=by rw [hv]; simp
 refine Zdu (ι:={ x:Nat × Nat // (1 ≤ x.1 ∧ x.1 ≤ 6) ∧ R.length ≤ 2 ^ x.1 ∧ (x.1 = 1 ∨ 2 ^ (x.1 - 1) < R.length) ∧ x.2 < 2 ^ x.1 ∧ ClsI S V (clsF S V) ∧ (∀ k,k < V→clsE S V v k = false) ∧ ∀ k,k < x.2→chkE R p v (2 ^ x.1) k = 0 })
  (fun x=>⟨[.any,.any,.any,.ptr 0 [],.any,.any,.any,.any,.any,.any,.any,.any,.ptr 1 [],.any,.osl 5 [] 0 (2 ^ x.1.1),.any,i64 (x.1.2:Int),.any,.any,.any,.any,.any,.any,.any,.any,.any,.any,.any,.any,.any,.any,.any,.any,.any,.any,.any,.any,.any,.any,.any,.any,.any,.any,.any,.any,.any,.any,.any,.any,.any,.any,.any,.any,.any,.any,.any,.any,.any,.any,.any,.any,.any,.any,.any,.any,.any,.any,.any,.any,.any,.any,.any,.any,.any,.any,.any,.any,.any,.any,.any,.any,.any,.any,.any,.any,.any,.any,.any,.any,.any,.any,.any,.any,.any,.any,.any,.any,.any,.any,.any,.any,.any,.any,.any,.any,.any,.any,.any,.any,.any,.any,.any,.any,.any,.any,.any,.any,.any,.any,.any,.any,.any],osB [(0,.ob (.var shBc (cirP P V R S))),(1,.ob (.var (.arr 3 .one) (.agg [.osl 2 [] 0 (2 ^ x.1.1),.osl 3 [] 0 (2 ^ x.1.1),.osl 4 [] 0 (2 ^ x.1.1)]))),(2,.ob (.row 25 (.arr 4 .one) (ffs (upT (celF R v 0) (2 ^ x.1.1) R.length)))),(3,.ob (.row 25 (.arr 4 .one) (ffs (upT (celF R v 1) (2 ^ x.1.1) R.length)))),(4,.ob (.row 25 (.arr 4 .one) (ffs (upT (celF R v 2) (2 ^ x.1.1) R.length)))),(5,.ob (.row 25 (.arr 4 .one) (ffs (upT (pubF p) (2 ^ x.1.1) p.length))))],6,0⟩) (fun x=>2 ^ x.1.1 - x.1.2) ?_ ?_
 ·intro ⟨⟨L,i⟩,hL,hrl,hLm,hi,hcl,hcz,hz⟩ G hG
  dsimp only at hL hrl hLm hi hz hG
  have hn0:=Nat.two_pow_pos L
  have hn:2 ^ L ≤ 64:=Nat.pow_le_pow_right (n:=2) (by decide) hL.2
  have hKL:=hK L hL hrl hLm hcl
  have hrow:∀ (hne:chkE R p v (2 ^ L) i ≠ 0),ckR V R S p v L = ((i:Int),12):=fun hne=>ck_row hcz hi hne hz
  have hall:(∀ k,k < 2 ^ L→chkE R p v (2 ^ L) k = 0)→ckR V R S p v L = (0,0):=fun ha=>ck_ok hcz ha
  have hE:∀ q:List F,(q = if i < R.length then (R.getD i default).q else [0,0,0,0,0,0,0,0])→gval (fun k=>q.getD k 0) ((upT (celF R v 0) (2 ^ L) R.length).getD i 0) ((upT (celF R v 1) (2 ^ L) R.length).getD i 0) ((upT (celF R v 2) (2 ^ L) R.length).getD i 0) ((upT (celF R v 0) (2 ^ L) R.length).getD ((i + 1) % 2 ^ L) 0) + (upT (pubF p) (2 ^ L) p.length).getD i 0 = chkE R p v (2 ^ L) i:=fun q hq=>by
   have hg:∀ a b c x:F,gval (fun k=>q.getD k 0) a b c x = gval (fun k=>if i < R.length then (R.getD i default).q.getD k 0 else 0) a b c x:=fun a b c x=>by
    refine Zhl 8 (fun k hk=>?_) (fun _ _=>rfl)
    rw [hq]
    by_cases hr:i < R.length
    ·rw [if_pos hr,if_pos hr]
    ·rw [if_neg hr,if_neg hr]
     rcases (by omega:k = 0 ∨ k = 1 ∨ k = 2 ∨ k = 3 ∨ k = 4 ∨ k = 5 ∨ k = 6 ∨ k = 7) with rfl | rfl | rfl | rfl | rfl | rfl | rfl | rfl <;> rfl
   rw [chkE,hg]
  obtain ⟨n,hn'⟩:∃ n,2 ^ L = n:=⟨_,rfl⟩
  have n2:2 ≤ 2 ^ L:=by
   have:=Nat.pow_le_pow_right (n:=2) (by decide) hL.1
   simpa using this
  rw [hn'] at hn0 hn n2 hi hz hrow hall hE
  have cw:IntKind.i64.wrap ((i:Int) + 1) = ((i + 1:Nat):Int):=by rw [wrs (by omega) (by omega)]; omega
  have c0:=Zbf (l:=upT (celF R v 0) n R.length) (i:=i) (by rw [Zbv]; omega)
  have c1:=Zbf (l:=upT (celF R v 1) n R.length) (i:=i) (by rw [Zbv]; omega)
  have c2:=Zbf (l:=upT (celF R v 2) n R.length) (i:=i) (by rw [Zbv]; omega)
  have c3:=Zbf (l:=upT (celF R v 0) n R.length) (i:=(i + 1) % n) (by rw [Zbv]; exact Nat.mod_lt _ hn0)
  have c4:=Zbf (l:=upT (pubF p) n p.length) (i:=i) (by rw [Zbv]; omega)
  have hmn:(((i + 1) % n:Nat):Int) < (n:Int):=by have:=Nat.mod_lt (i + 1) hn0; omega
  have htm:((i + 1:Nat):Int).tmod (n:Int) = (((i + 1) % n:Nat):Int):=(Int.ofNat_tmod (i + 1) n).symm
  have hin:(i:Int) < (n:Int):=by omega
  have nn0:(n:Int) ≠ 0:=by omega
  simp -implicitDefEqProofs only [go_sem,Nat.reduceAdd,Nat.reduceEqDiff,Zn]
  rw [hn']
  refine Zo (fun hr=>?_) (fun hr=>?_)
  ·simp only [decide_eq_true_eq] at hr
   have hr1:i < R.length:=by omega
   have q8:((R.getD i default).q.length == 8) = true:=by rw [(R.getD i default).hq]; rfl
   have hE':=hE (R.getD i default).q (if_pos hr1).symm
   simp -implicitDefEqProofs only [go_sem,Nat.reduceAdd,Nat.reduceMul,Nat.reduceEqDiff,Nat.reduceLT,Int.reduceToNat,Int.reduceLT,Int.reduceLE,Zdg hr1,rwP,cw,htm,q8,c0,c1,c2,c3,c4,hr,hin,hmn,Zbv,Zs]
   repeat (with_reducible refine And.intro (by first | omega | decide) ?_)
   refine Zhv (q:=(R.getD i default).q) (R.getD i default).hq ?_
   simp -implicitDefEqProofs only [go_sem,Nat.reduceAdd,Nat.reduceMul,Nat.reduceLT]
   refine Zh9 ?_
   rw [hE']
   simp -implicitDefEqProofs only [go_sem,Nat.reduceAdd,Nat.reduceMul]
   by_cases hch:chkE R p v n i = 0
   ·simp -implicitDefEqProofs only [go_sem,Nat.reduceEqDiff,decide_eq_true hch,cw]
    have hz':∀ k,k < i + 1→chkE R p v (2 ^ L) k = 0:=fun k hk=>by
     rw [hn']
     by_cases hk2:k < i
     ·exact hz k hk2
     ·have:k = i:=by omega
      rw [this]; exact hch
    by_cases hl:((i + 1:Nat):Int) < (n:Int)
    ·simp -implicitDefEqProofs only [go_sem,hl,decide_true]
     refine hG _ ⟨(L,i + 1),hL,hrl,hLm,by rw [hn']; omega,hcl,hcz,hz'⟩ (by show 2 ^ L - (i + 1) < 2 ^ L - i; omega) ?_
     refine Zq [(0,0),(1,1),(2,2),(3,3),(4,4),(5,5)] rfl rfl rfl ?_ ?_
     ·simp -implicitDefEqProofs only [go_sem,Nat.reduceAdd,Nat.reduceEqDiff,Nat.reduceLT,Zd,Za,Zc,Zg,Zb,Zf,Ze,Zr,Zz,hn']
     ·simp -implicitDefEqProofs only [go_sem,Nat.reduceEqDiff,hn']
    ·simp -implicitDefEqProofs only [go_sem,hl,decide_false]
     rw [hall fun k hk=>by have:=hz' k (by omega); rwa [hn'] at this] at hKL
     exact Zi (ps:=[i64 0,i64 0]) rfl hKL
   ·simp -implicitDefEqProofs only [go_sem,decide_eq_false hch]
    rw [hrow hch] at hKL
    exact Zi (ps:=[i64 i,i64 12]) rfl hKL
  ·simp only [decide_eq_false_iff_not] at hr
   have hr1:¬ i < R.length:=by omega
   have hE':=hE [0,0,0,0,0,0,0,0] (if_neg hr1).symm
   have z8:[ff 0,ff 0,ff 0,ff 0,ff 0,ff 0,ff 0,ff 0] = ffs [0,0,0,0,0,0,0,0]:=rfl
   simp -implicitDefEqProofs only [go_sem,Nat.reduceAdd,Nat.reduceMul,Nat.reduceEqDiff,Nat.reduceLT,Int.reduceToNat,Int.reduceLT,Int.reduceLE,cw,htm,c0,c1,c2,c3,c4,hin,hmn,Zbv,Zs,z8]
   repeat (with_reducible refine And.intro (by first | omega | decide) ?_)
   refine Zhv (q:=[0,0,0,0,0,0,0,0]) rfl ?_
   simp -implicitDefEqProofs only [go_sem,Nat.reduceAdd,Nat.reduceMul,Nat.reduceLT]
   refine Zh9 ?_
   rw [hE']
   simp -implicitDefEqProofs only [go_sem,Nat.reduceAdd,Nat.reduceMul]
   by_cases hch:chkE R p v n i = 0
   ·simp -implicitDefEqProofs only [go_sem,Nat.reduceEqDiff,decide_eq_true hch,cw]
    have hz':∀ k,k < i + 1→chkE R p v (2 ^ L) k = 0:=fun k hk=>by
     rw [hn']
     by_cases hk2:k < i
     ·exact hz k hk2
     ·have:k = i:=by omega
      rw [this]; exact hch
    by_cases hl:((i + 1:Nat):Int) < (n:Int)
    ·simp -implicitDefEqProofs only [go_sem,hl,decide_true]
     refine hG _ ⟨(L,i + 1),hL,hrl,hLm,by rw [hn']; omega,hcl,hcz,hz'⟩ (by show 2 ^ L - (i + 1) < 2 ^ L - i; omega) ?_
     refine Zq [(0,0),(1,1),(2,2),(3,3),(4,4),(5,5)] rfl rfl rfl ?_ ?_
     ·simp -implicitDefEqProofs only [go_sem,Nat.reduceAdd,Nat.reduceEqDiff,Nat.reduceLT,Zd,Za,Zc,Zg,Zb,Zf,Ze,Zr,Zz,hn']
     ·simp -implicitDefEqProofs only [go_sem,Nat.reduceEqDiff,hn']
    ·simp -implicitDefEqProofs only [go_sem,hl,decide_false]
     rw [hall fun k hk=>by have:=hz' k (by omega); rwa [hn'] at this] at hKL
     exact Zi (ps:=[i64 0,i64 0]) rfl hKL
   ·simp -implicitDefEqProofs only [go_sem,decide_eq_false hch]
    rw [hrow hch] at hKL
    exact Zi (ps:=[i64 i,i64 12]) rfl hKL
 ·intro G hG
  simp -implicitDefEqProofs only [go_sem,Nat.reduceLT,Zdz]
  refine Zmj h ?_
  simp -implicitDefEqProofs only [go_sem,Nat.reduceLT,Int.reduceBNe,a4,a6,Zdz]
  refine Zrd h fun hcl=>?_
  have hcl':=hcl.len
  simp -implicitDefEqProofs only [go_sem,Nat.reduceAdd,Nat.reduceEqDiff,Nat.reduceLeDiff]
  refine Z2 (ι:={ i:Nat // i ≤ V ∧ ∀ k,k < i→clsE S V v k = false }) [6,7,16,17,18,70,71,72,73,74,75,76,77,78,79,80,81,82,83,84,85,86,87,88,89,90,91,92,93,94,95,96,97,98,99,100,101,102,103,104,105,106,107,108,109,110,111,112,113,114,115,116,117,118,119,120,121] (fun i=>[(1,.vsl false (.arr 4 .one) (ffs p)),(2,.vsl false (.arr 4 .one) (ffs v)),(3,.ptr 0 []),(37,.osl 1 [] 0 V),(38,i64 (V:Int)),(39,i64 (i.1:Int))]) (fun _=>[(0,.ob (.var shBc (cirP P V R S))),(1,.ob (.row 3 .one (isl (clsF S V))))]) 2 (fun i=>V - i.1) ⟨0,Nat.zero_le _,fun k hk=>absurd hk (Nat.not_lt_zero k)⟩ ?_ ?_
  ·rw [Zj]
   refine Zq [(0,0),(1,1)] rfl rfl rfl ?_ ?_
   ·simp -implicitDefEqProofs only [go_sem,Nat.reduceEqDiff,Nat.reduceLT,Zd,Za,Zc,Zg,Zb,Zf,Ze]
   ·simp -implicitDefEqProofs only [go_sem,Nat.reduceEqDiff,Zd,Za,Zc,Zg,Zb,Zf,Ze]
  intro ⟨i,hi,hcz⟩ G2 hG2
  dsimp only at hi hcz hG2
  simp -implicitDefEqProofs only [go_sem]
  refine Zo (fun h2=>?_) (fun h2=>?_)
  ·simp only [decide_eq_true_eq] at h2
   have hiV:i < V:=by omega
   have ci:IntKind.i64.wrap ((i:Int) + 1) = ((i + 1:Nat):Int):=by rw [wrs (by have:=h.v200; omega) (by have:=h.v200; omega)]; omega
   have hr:=hcl.rng i hiV
   have hce:clsE S V v i = !decide (v.getD i 0 = v.getD ((clsF S V).getD i 0).toNat 0):=rfl
   obtain ⟨u,hu⟩:∃ u:Nat,(clsF S V).getD i 0 = (u:Int):=⟨((clsF S V).getD i 0).toNat,by omega⟩
   rw [hu,Int.toNat_natCast] at hce
   have gi:=Zgz (l:=clsF S V) (i:=i) (by rw [hcl']; exact hiV)
   rw [hu] at gi
   have g1:=Zbf (l:=v) (i:=i) (by omega)
   have g2:=Zbf (l:=v) (i:=u) (by omega)
   have huI:(u:Int) < (v.length:Int):=by omega
   have hiI:(i:Int) < (v.length:Int):=by omega
   simp -implicitDefEqProofs only [go_sem,Nat.reduceAdd,Nat.reduceMul,Nat.reduceEqDiff,h2,gi,g1,g2,huI,hiI,hcl',Zhf,Zs]
   repeat (with_reducible refine And.intro (by first | omega | decide) ?_)
   by_cases e:v.getD i 0 = v.getD u 0
   ·rw [decide_eq_true e] at hce
    simp -implicitDefEqProofs only [go_sem,decide_eq_true e,ci]
    refine hG2 _ ⟨i + 1,by omega,fun k hk=>?_⟩ (by simp only; omega) ?_
    ·by_cases hk2:k < i
     ·exact hcz k hk2
     ·have:k = i:=by omega
      rw [this]; exact hce
    rw [Zj]
    refine Zq [(0,0),(1,1)] rfl rfl rfl ?_ ?_
    ·simp -implicitDefEqProofs only [go_sem,Nat.reduceEqDiff,Nat.reduceLT,Zd,Za,Zc,Zg,Zb,Zf,Ze]
    ·simp -implicitDefEqProofs only [go_sem,Nat.reduceEqDiff,Zd,Za,Zc,Zg,Zb,Zf,Ze]
   ·rw [decide_eq_false e] at hce
    obtain ⟨L,hL,hrl,hLm⟩:=log_ex h.r64
    have hKL:=hK L hL hrl hLm hcl
    rw [ck_cls hiV hce hcz] at hKL
    simp -implicitDefEqProofs only [go_sem,decide_eq_false e]
    exact Zi (ps:=[i64 i,i64 13]) rfl hKL
  have hiV:i = V:=by simp only [decide_eq_false_iff_not] at h2; omega
  subst hiV
  clear hG2 h2
  simp -implicitDefEqProofs only [go_sem,Nat.reduceEqDiff,Nat.reduceLT,Zdz]
  refine k_bLog h.r64 fun L hL hrl hLm=>?_
  simp -implicitDefEqProofs only [go_sem,Nat.reduceEqDiff,Nat.reduceLT,Zdz]
  refine Zrp h hv hL.1 hL.2 hrl ?_
  simp -implicitDefEqProofs only [go_sem,Nat.reduceAdd,Nat.reduceEqDiff,Nat.reduceLT,Nat.reduceLeDiff]
  refine Zob hL.1 hL.2 (by have:=h.pr; omega) ?_
  simp -implicitDefEqProofs only [go_sem,Nat.reduceAdd,Nat.reduceEqDiff,Nat.reduceLT,Nat.reduceLeDiff]
  refine Zhu _ ?_ (Zey (hG ⟨(L,0),hL,hrl,hLm,Nat.two_pow_pos L,hcl,hcz,fun k hk=>absurd hk (Nat.not_lt_zero k)⟩))
  refine Zq [(0,0),(5,1),(2,2),(3,3),(4,4),(6,5)] rfl rfl rfl ?_ ?_
  ·simp -implicitDefEqProofs only [go_sem,Nat.reduceAdd,Nat.reduceEqDiff,Nat.reduceLT,Zd,Za,Zc,Zg,Zb,Zf,Ze,Zr,Zz]
  ·simp -implicitDefEqProofs only [go_sem,Nat.reduceEqDiff]
end Go.Proofs.Tryz.PMT
namespace Go.Proofs.PM
open Go Go.Proofs.PL
def mks:List F→Nat
 | []=>0
 | x :: l=>(if x = 0 then 0 else 1) + 2 * mks l
theorem Zpa:∀ l:List F,mks l < 2 ^ l.length
 | []=>by simp [mks]
 | x :: l=>by
  have:=Zpa l
  simp only [mks,List.length_cons,Nat.pow_succ]
  split <;> omega
theorem Zkx:∀ (l:List F) (x:F),mks (l ++ [x]) = mks l + (if x = 0 then 0 else 2 ^ l.length)
 | [],x=>by simp [mks]
 | y :: l,x=>by
  have:=Zkx l x
  simp only [mks,List.cons_append,this,List.length_cons,Nat.pow_succ]
  split <;> split <;> omega
theorem Zt0:∀ (l:List F) (i:Nat),i < l.length→mks l / 2 ^ i % 2 = if l.getD i 0 = 0 then 0 else 1
 | [],i,h=>by simp at h
 | x :: l,0,_=>by
  simp only [mks,Nat.pow_zero,Nat.div_one,List.getD_cons_zero]
  split <;> omega
 | x :: l,i + 1,h=>by
  have:=Zt0 l i (by simpa using h)
  simp only [List.getD_cons_succ]
  rw [← this,mks,Nat.pow_succ,Nat.mul_comm (2 ^ i),← Nat.div_div_eq_div_mul]
  congr 2
  split <;> omega
def qbs:List F→List Int
 | []=>[]
 | x :: l=>(if x = 0 then [] else enc 32 (vi x).toNat) ++ qbs l
theorem Znx:∀ l m:List F,qbs (l ++ m) = qbs l ++ qbs m
 | [],m=>rfl
 | x :: l,m=>by simp only [List.cons_append,qbs,Znx l m,List.append_assoc]
theorem Ziw:∀ l:List F,(qbs l).length ≤ 32 * l.length
 | []=>by simp [qbs]
 | x :: l=>by
  have:=Ziw l
  simp only [qbs,List.length_append,List.length_cons]
  split
  ·simp only [List.length_nil]; omega
  ·rw [Zdl]; omega
theorem Zgi {l:List F} {i:Nat} (h:i < l.length):l.take (i + 1) = l.take i ++ [l.getD i 0]:=by
 rw [List.take_add_one,List.getElem?_eq_getElem h,List.getD_eq_getElem?_getD,List.getElem?_eq_getElem h]; rfl
theorem Zpw {l:List F} {i:Nat} (h:i < l.length):l.drop i = l.getD i 0 :: l.drop (i + 1):=by
 rw [List.drop_eq_getElem_cons h,List.getD_eq_getElem?_getD,List.getElem?_eq_getElem h]; rfl
theorem Ztz {l:List F} {i:Nat} (h:i < l.length) (e:l.getD i 0 = 0):mks (l.take (i + 1)) = mks (l.take i):=by
 rw [Zgi h,Zkx,if_pos e,Nat.add_zero]
theorem Zty {l:List F} {i:Nat} (h:i < l.length) (e:l.getD i 0 ≠ 0):mks (l.take i) ||| 2 ^ i = mks (l.take (i + 1)):=by
 have hl:(l.take i).length = i:=by rw [List.length_take]; omega
 have hlt:=Zpa (l.take i)
 rw [hl] at hlt
 rw [Zgi h,Zkx,if_neg e,hl,Nat.or_comm]
 have:=Zyv (a:=1) hlt
 rw [Nat.one_mul] at this
 rw [this]; omega
theorem Zte {l:List F} {i:Nat} (h:i < l.length) (e:l.getD i 0 = 0):qbs (l.take (i + 1)) = qbs (l.take i):=by
 rw [Zgi h,Znx,qbs,if_pos e]; simp [qbs]
theorem Ztd {l:List F} {i:Nat} (h:i < l.length) (e:l.getD i 0 ≠ 0):qbs (l.take i) ++ enc 32 (vi (l.getD i 0)).toNat = qbs (l.take (i + 1)):=by
 rw [Zgi h,Znx,qbs,if_neg e]; simp [qbs]
theorem Ztg {l:List F} {i:Nat} (h:i < l.length) (e:l.getD i 0 = 0):qbs (l.drop i) = qbs (l.drop (i + 1)):=by
 rw [Zpw h,qbs,if_pos e]; rfl
theorem Ztf {l:List F} {i:Nat} (h:i < l.length) (e:l.getD i 0 ≠ 0):qbs (l.drop i) = enc 32 (vi (l.getD i 0)).toNat ++ qbs (l.drop (i + 1)):=by
 rw [Zpw h,qbs,if_neg e]
def w8 (x:Int):Int:=x % 256
def encR (r:Rw):List Int:=(mks r.q:Int) :: (qbs r.q ++ [w8 r.a,w8 r.b,w8 r.c])
def encS (p:Int × Int):List Int:=[w8 p.1,w8 p.2]
def encRs (l:List Rw):List Int:=l.flatMap encR
def encSs (l:List (Int × Int)):List Int:=l.flatMap encS
def encC (P V:Int) (R:List Rw) (S:List (Int × Int)):List Int:=[P,V,(R.length:Int),(S.length:Int)] ++ (encRs R ++ encSs S)
theorem Zxj (r:Rw):(encR r).length ≤ 260:=by
 have:=Ziw r.q
 rw [r.hq] at this
 simp only [encR,List.length_cons,List.length_append,List.length_nil]; omega
theorem Ze2:∀ l:List Rw,(encRs l).length ≤ 260 * l.length
 | []=>by simp [encRs]
 | r :: l=>by
  have:=Ze2 l
  have:=Zxj r
  simp only [encRs,List.flatMap_cons,List.length_append,List.length_cons] at *; omega
theorem Zg0:∀ l:List (Int × Int),(encSs l).length = 2 * l.length
 | []=>by simp [encSs]
 | p :: l=>by
  have:=Zg0 l
  simp only [encSs,List.flatMap_cons,List.length_append,List.length_cons,encS,List.length_nil] at *; omega
section
variable {α:Type} {l:List α} {i:Nat} {d:α}
theorem Zd1 (h:i < l.length):l.take (i + 1) = l.take i ++ [l.getD i d]:=by
 rw [List.take_add_one,List.getElem?_eq_getElem h,List.getD_eq_getElem?_getD,List.getElem?_eq_getElem h]; rfl
theorem Zmv (h:i < l.length):l.drop i = l.getD i d :: l.drop (i + 1):=by
 rw [List.drop_eq_getElem_cons h,List.getD_eq_getElem?_getD,List.getElem?_eq_getElem h]; rfl
end
theorem Zry {l:List Rw} {i:Nat} (h:i < l.length):encRs (l.take i) ++ encR (l.getD i default) = encRs (l.take (i + 1)):=by
 rw [Zd1 (d:=default) h,encRs,encRs,List.flatMap_append]; simp
theorem Zrw {l:List (Int × Int)} {i:Nat} (h:i < l.length):encSs (l.take i) ++ encS (l.getD i (0,0)) = encSs (l.take (i + 1)):=by
 rw [Zd1 (d:=(0,0)) h,encSs,encSs,List.flatMap_append]; simp
theorem Zrz {l:List Rw} {i:Nat} (h:i < l.length):encRs (l.drop i) = encR (l.getD i default) ++ encRs (l.drop (i + 1)):=by
 rw [Zmv (d:=default) h]; simp [encRs]
theorem Zrx {l:List (Int × Int)} {i:Nat} (h:i < l.length):encSs (l.drop i) = encS (l.getD i (0,0)) ++ encSs (l.drop (i + 1)):=by
 rw [Zmv (d:=(0,0)) h]; simp [encSs]
theorem Zm6 {x:Int} (h:-1 ≤ x ∧ x < 250):(if w8 x = 255 then -1 else w8 x) = x ∧ (w8 x = 255→x = -1) ∧ (w8 x ≠ 255→w8 x = x) ∧ 0 ≤ w8 x ∧ w8 x < 256:=by
 unfold w8; split <;> omega
theorem Z2o {a b:Nat} (ha:a < 256) (hb:b < 256):binI .or .u8 (a:Int) (b:Int) = .int .u8 ((a ||| b:Nat):Int):=by
 have h:a ||| b < 256:=Nat.or_lt_two_pow (n:=8) ha hb
 simp only [binI]
 rw [show IntKind.u8.bits = 8 from rfl,BitVec.toNat_or,BitVec.ofInt_natCast,BitVec.toNat_ofNat,BitVec.ofInt_natCast,BitVec.toNat_ofNat,Nat.mod_eq_of_lt ha,Nat.mod_eq_of_lt hb,IntKind.wrap_u8]
 congr 1; omega
theorem Z2r {a:Nat}:a &&& 1 = a % 2:=Nat.and_one_is_mod a
end Go.Proofs.PM
