/- Contracts of intaglioref20.Public, Cells. No conditions beyond what each names. -/
import Derived.Test.YtjibihaamkplbaaGreatR22
import Derived.Test.YtjibihaamkplbaaGreatR14
import Derived.Test.YtjibihaamkplbaaGreatR18
import Derived.Test.YtjibihaamkplbaaGreatR11
import Derived.Test.YtjibihaamkplbaaGreatR15
import Derived.Test.YtjibihaamkplbaaGreatR16
import Derived.Test.YtjibihaamkplbaaGreatR0
import Derived.Test.YtjibihaamkplbaaGreatR17
import Derived.Test.YtjibihaamkplbaaGreatR19
set_option linter.all false
namespace Go.Proofs.Tryz.PMT
open Go Go.Proofs.PM Go.Proofs.PL Go.Proofs.Tryz
variable {K:PV→List Ob→Prop}
set_option maxRecDepth 4000
def pbL (pubs:List F) (n t:Nat):List F:=(List.range n).map fun i=>if i < t then 0 - pubs.getD i 0 else 0
theorem Zfe {pubs:List F} {n t:Nat}:(pbL pubs n t).length = n:=by simp only [pbL,List.length_map,List.length_range]
theorem pbL_0 {pubs:List F} {n:Nat}:List.replicate n (0:F) = pbL pubs n 0:=by
 have h:pbL pubs n 0 = List.replicate n 0:=by
  rw [List.eq_replicate_iff]
  refine ⟨Zfe,fun b hb=>?_⟩
  obtain ⟨i,_,rfl⟩:=List.mem_map.1 hb
  exact if_neg (Nat.not_lt_zero i)
 exact h.symm
theorem Zzy {pubs:List F} {n t:Nat} (h:t < n):(pbL pubs n t).set t (0 - pubs.getD t 0) = pbL pubs n (t + 1):=by
 refine List.ext_getElem (by rw [List.length_set,Zfe,Zfe]) fun i h1 h2=>?_
 rw [List.getElem_set]
 simp only [pbL,List.getElem_map,List.getElem_range]
 by_cases e:t = i
 ·subst e
  rw [if_pos rfl,if_pos (by omega)]
 ·rw [if_neg e]
  by_cases e2:i < t
  ·rw [if_pos e2,if_pos (by omega)]
  ·rw [if_neg e2,if_neg (by omega)]
set_option maxHeartbeats 4000000 in
theorem Zhf {L:Nat} {pubs:List F} (hL1:1 ≤ L) (hL:L ≤ 6) (hpl:pubs.length ≤ 2 ^ L) (hK:K (.tup [.osl 0 [] 0 (2 ^ L),i64 0]) [.row 25 (.arr 4 .one) (ffs (pbL pubs (2 ^ L) pubs.length))]) :
  PSpec prog 33 [i64 L,.vsl false (.arr 4 .one) (ffs pubs)] [] K:=by
 refine Zgc ?_
 simp only [yS,yN,yG,yT,yI,yF,yZ,yM,yU,yL,yB,yR,Zcw]
 have hsh:=shl1 (show L < 63 by omega)
 have hp:=Nat.two_pow_pos L
 have hn:2 ^ L ≤ 64:=Nat.pow_le_pow_right (n:=2) (by decide) hL
 obtain ⟨n,hn'⟩:∃ n,2 ^ L = n:=⟨_,rfl⟩
 rw [hn'] at hK hsh hp hpl hn
 have a1:¬ (L:Int) < 1:=by omega
 have a2:¬ (L:Int) > 6:=by omega
 have a3:¬ (pubs.length:Int) > (n:Int):=by omega
 simp -implicitDefEqProofs only [go_sem,Nat.reduceAdd,Nat.reduceSub,Nat.reduceEqDiff,a1,a2,a3,decide_false,↓hsh,Zn]
 repeat (with_reducible refine And.intro (by first | omega | decide) ?_)
 rw [pbL_0 (pubs:=pubs)]
 refine Zx (ι:={ t:Nat // t ≤ pubs.length }) [7,24,25,26,27,28,29,30,31,32,33,34,35,36,37] (fun t=>[(7,i64 t.1)]) (fun t=>[(0,.ob (.row 25 (.arr 4 .one) [])),(1,.ob (.row 25 (.arr 4 .one) (ffs (pbL pubs n t.1))))]) 2 (fun t=>pubs.length - t.1) ⟨0,Nat.zero_le _⟩ ?_ ?_
 ·rw [Zg]
  refine Ze [(0,0),(1,1)] rfl rfl rfl ?_ ?_
  ·simp -implicitDefEqProofs only [go_sem,Nat.reduceEqDiff,Nat.reduceLT]
  ·simp -implicitDefEqProofs only [go_sem,Nat.reduceEqDiff]
 intro ⟨t,ht⟩ G hG
 simp -implicitDefEqProofs only [go_sem]
 refine Zk (fun h2=>?_) (fun h2=>?_)
 ·simp only [decide_eq_true_eq] at h2
  have htr:t < pubs.length:=by omega
  have hti:(t:Int) < (n:Int):=by omega
  have cwt:IntKind.i64.wrap ((t:Int) + 1) = ((t + 1:Nat):Int):=by rw [wrs (by omega) (by omega)]; omega
  simp -implicitDefEqProofs only [go_sem,Nat.reduceLT,Zu htr,h2]
  repeat (with_reducible refine And.intro (by first | omega | decide) ?_)
  refine Zhy ?_
  simp -implicitDefEqProofs only [go_sem,Nat.reduceEqDiff,Z9,Zfe,hti,Zzy (pubs:=pubs) (show t < n by omega),cwt]
  repeat (with_reducible refine And.intro (by first | omega | decide) ?_)
  refine hG _ ⟨t + 1,by omega⟩ (by show pubs.length - (t + 1) < pubs.length - t; omega) ?_
  rw [Zg]
  refine Ze [(0,0),(1,1)] rfl rfl rfl ?_ ?_
  ·simp -implicitDefEqProofs only [go_sem,Nat.reduceEqDiff,Nat.reduceLT]
  ·simp -implicitDefEqProofs only [go_sem,Nat.reduceEqDiff]
 simp only [decide_eq_false_iff_not] at h2
 obtain rfl:t = pubs.length:=by omega
 clear hG h2
 simp -implicitDefEqProofs only [go_sem]
 refine Z4 [(1,0)] [.row 25 (.arr 4 .one) (ffs (pbL pubs n pubs.length))] [.osl 0 [] 0 n,i64 0] rfl rfl ?_ ?_ hK
 ·simp -implicitDefEqProofs only [go_sem,Nat.reduceEqDiff,Nat.reduceLT]
 ·simp -implicitDefEqProofs only [go_sem]
end Go.Proofs.Tryz.PMT
namespace Go.Proofs.Tryz.PMT
open Go Go.Proofs.PM Go.Proofs.PL Go.Proofs.Tryz
variable {K:PV→List Ob→Prop}
set_option maxRecDepth 4000
def celV (rows:List Rw) (vals:List F) (L x:Nat):F:=va vals (atV rows L x)
def celL (rows:List Rw) (vals:List F) (L j m:Nat):List F:=(List.range m).map fun i=>celV rows vals L (j * 2 ^ L + i)
theorem cel_0 {rows:List Rw} {vals:List F} {L j:Nat}:celL rows vals L j 0 = []:=rfl
theorem cel_len {rows:List Rw} {vals:List F} {L j m:Nat}:(celL rows vals L j m).length = m:=by simp only [celL,List.length_map,List.length_range]
theorem Zh6 {rows:List Rw} {vals:List F} {L j m:Nat} {t:F} (h:celV rows vals L (j * 2 ^ L + m) = t):ffs (celL rows vals L j m) ++ [ff t] = ffs (celL rows vals L j (m + 1)):=by
 simp only [celL,ffs,List.range_succ,List.map_append,List.map_cons,List.map_nil,h]
def clO (P V L n:Nat) (rows:List Rw) (same:List (Int × Int)) (vals:List F) (x:Nat):List (Nat × Cel) :=
 [(0,.ob (.var shC (cV P V rows same))),(1,.ob (.var (.arr 3 .one) (.agg [nilW,nilW,nilW]))),(2,.ob (.var (.arr 3 .one) (.agg [.osl 3 [] 0 (min x n),.osl 4 [] 0 (min (x - n) n),.osl 5 [] 0 (min (x - 2 * n) n)]))),
  (3,.ob (.row 25 (.arr 4 .one) (ffs (celL rows vals L 0 (min x n))))),(4,.ob (.row 25 (.arr 4 .one) (ffs (celL rows vals L 1 (min (x - n) n))))),(5,.ob (.row 25 (.arr 4 .one) (ffs (celL rows vals L 2 (min (x - 2 * n) n)))))]
set_option maxHeartbeats 8000000 in
theorem Zm8 {P V L:Nat} {rows:List Rw} {same:List (Int × Int)} {vals:List F} (h:CG P V rows same) (hv:vals.length = V) (hL1:1 ≤ L) (hL:L ≤ 6) (hrl:rows.length ≤ 2 ^ L) (hK:K (.tup [.agg [.osl 0 [] 0 (2 ^ L),.osl 1 [] 0 (2 ^ L),.osl 2 [] 0 (2 ^ L)],i64 0]) [.row 25 (.arr 4 .one) (ffs (celL rows vals L 0 (2 ^ L))),.row 25 (.arr 4 .one) (ffs (celL rows vals L 1 (2 ^ L))),.row 25 (.arr 4 .one) (ffs (celL rows vals L 2 (2 ^ L)))]) :
  PSpec prog 32 [cV P V rows same,i64 L,.vsl false (.arr 4 .one) (ffs vals)] [] K:=by
 refine Zgw ?_
 simp only [yS,yN,yG,yT,yI,yF,yZ,yM,yU,yL,yB,yR,Zda,cV,sR]
 have hsh:=shl1 (show L < 63 by omega)
 have hp:=Nat.two_pow_pos L
 have hn:2 ^ L ≤ 64:=Nat.pow_le_pow_right (n:=2) (by decide) hL
 have hs3:binI .shl .i64 3 (L:Int) = .int .i64 ((3 * 2 ^ L:Nat):Int):=by
  rcases (by omega:L = 1 ∨ L = 2 ∨ L = 3 ∨ L = 4 ∨ L = 5 ∨ L = 6) with rfl | rfl | rfl | rfl | rfl | rfl <;> rfl
 have hsr:∀ x:Nat,binI .shr .i64 (x:Int) (L:Int) = .int .i64 ((x / 2 ^ L:Nat):Int):=fun x=>by
  simp only [binI,Int.toNat_natCast]
  rw [Nat.min_eq_left (by show L ≤ 64; omega),Int.fdiv_eq_ediv_of_nonneg _ (Int.le_of_lt (Int.pow_pos (by decide)))]
  norm_cast
 have hfd:∀ x:Nat,(x:Int).fdiv (2 ^ min L 64) = ((x / 2 ^ L:Nat):Int):=fun x=>by
  rw [Nat.min_eq_left (by show L ≤ 64; omega),Int.fdiv_eq_ediv_of_nonneg _ (Int.le_of_lt (Int.pow_pos (by decide)))]
  norm_cast
 obtain ⟨n,hn'⟩:∃ n,2 ^ L = n:=⟨_,rfl⟩
 rw [hn'] at hK hsh hp hrl hn hs3 hsr
 simp only [hn'] at hfd
 have a1:¬ (L:Int) < 1:=by omega
 have a2:¬ (L:Int) > 6:=by omega
 have a3:¬ (n:Int) < (rows.length:Int):=by omega
 have a4:((vals.length:Int) != (V:Int)) = false:=by rw [hv]; simp
 have a5:((vals.length:Int) == (V:Int)) = true:=by rw [hv]; simp
 simp -implicitDefEqProofs only [go_sem,Nat.reduceAdd,Nat.reduceMul,Nat.reduceSub,Nat.reduceEqDiff,a1,a2,a3,a4,decide_false,↓hsh]
 refine Zx (ι:={ x:Nat // x ≤ 3 * n }) [0,9,10,11,12,13,14,15,16,17,18,19,20,21,22,23,24,25,26,27,28,29,30,31,32,34,35,36,37,38,39,40,41,42,43,44,45,46,47,48,49,50,51,52,53,54,55,56,57,58,59,60,61] (fun x=>[(9,i64 x.1)]) (fun x=>clO P V L n rows same vals x.1) 6 (fun x=>3 * n - x.1) ⟨0,Nat.zero_le _⟩ ?_ ?_
 ·rw [Zg]
  refine Zbx 2 [0] 25 (.arr 4 .one) rfl rfl rfl rfl ?_
  refine Zbx 2 [1] 25 (.arr 4 .one) rfl rfl rfl rfl ?_
  refine Zbx 2 [2] 25 (.arr 4 .one) rfl rfl rfl rfl ?_
  simp -implicitDefEqProofs only [go_sem,Nat.reduceAdd,Nat.reduceEqDiff]
  refine Zv [(0,0),(1,1),(2,2),(339,3),(340,4),(341,5)] rfl rfl rfl ?_ ?_
  ·simp -implicitDefEqProofs only [go_sem,Nat.reduceAdd,Nat.reduceEqDiff,Nat.reduceLT,ob_eq,Ob.row.injEq,clO,cV,sR,shC,nilW,Nat.zero_min,Nat.zero_sub,cel_0,Zf,Za,Zc,Zh,Zb,Zi,Zj,Zr,Zw]
   exact ⟨rfl,rfl,rfl⟩
  ·simp -implicitDefEqProofs only [go_sem,Nat.reduceEqDiff]
 intro ⟨x,hx⟩ G hG
 have cw:IntKind.i64.wrap ((x:Int) + 1) = ((x + 1:Nat):Int):=by rw [wrs (by omega) (by omega)]; omega
 simp -implicitDefEqProofs only [go_sem,clO,cV,sR,shC,nilW,↓hs3,Zn]
 refine Zk (fun hlt=>?_) (fun hlt=>?_)
 rotate_left
 ·simp only [decide_eq_false_iff_not] at hlt
  obtain rfl:x = 3 * n:=by omega
  have m0:min (3 * n) n = n:=by omega
  have m1:min (3 * n - n) n = n:=by omega
  have m2:min (3 * n - 2 * n) n = n:=by omega
  simp -implicitDefEqProofs only [go_sem,Nat.reduceAdd,Nat.reduceEqDiff,m0,m1,m2]
  refine Zbu [(3,0),(4,1),(5,2)] [.row 25 (.arr 4 .one) (ffs (celL rows vals L 0 n)),.row 25 (.arr 4 .one) (ffs (celL rows vals L 1 n)),.row 25 (.arr 4 .one) (ffs (celL rows vals L 2 n))] [.agg [.osl 0 [] 0 n,.osl 1 [] 0 n,.osl 2 [] 0 n],i64 0] rfl rfl rfl rfl ?_ ?_ hK
  ·simp -implicitDefEqProofs only [go_sem,Nat.reduceAdd,Nat.reduceEqDiff,Nat.reduceLT]
  ·simp -implicitDefEqProofs only [go_sem,Nat.reduceEqDiff,Zf,Za,Zb,Zr,Zw]
 simp only [decide_eq_true_eq] at hlt
 simp -implicitDefEqProofs only [go_sem,Nat.reduceAdd,Nat.reduceEqDiff,Nat.reduceLT,Zf9]
 refine Zpk hL (by rw [hn']; omega) ?_
 simp -implicitDefEqProofs only [go_sem]
 have hvr:=Zs3 (L:=L) (x:=x) h.rin
 have hsx:=hsr x
 by_cases hv0:atV rows L x ≥ 0
 rotate_left
 ·have hcx:celV rows vals L x = 0:=by
   unfold celV
   exact va_neg (by omega)
  simp -implicitDefEqProofs only [go_sem,Nat.reduceAdd,Nat.reduceMul,Nat.reduceEqDiff,Nat.reduceLT,hv0,decide_false]
  rcases (by omega:x < n ∨ (n ≤ x ∧ x < 2 * n) ∨ (2 * n ≤ x)) with e | e | e
  ·have tq:(x:Int).fdiv (2 ^ min L 64) = 0:=by
    have e1:x / n = 0:=(Nat.div_eq_iff hp).2 ⟨by omega,by omega⟩
    rw [hfd,e1]; rfl
   have m0:min (x) n = x:=by omega
   have k0:min (x + 1) n = x + 1:=by omega
   have m1:min (x - n) n = 0:=by omega
   have k1:min (x + 1 - n) n = 0:=by omega
   have m2:min (x - 2 * n) n = 0:=by omega
   have k2:min (x + 1 - 2 * n) n = 0:=by omega
   have hap:=Zh6 (rows:=rows) (vals:=vals) (L:=L) (j:=0) (m:=x) (t:=0) (by rw [hn',show 0 * n + (x) = x by omega]; exact hcx)
   simp -implicitDefEqProofs only [go_sem,Nat.reduceAdd,Nat.reduceMul,Nat.reduceEqDiff,Nat.reduceLeDiff,Int.reduceLT,Int.reduceLE,m0,m1,m2,tq,hap,cw,tk1,cel_len,Z9,List.length_cons,List.length_nil]
   repeat (with_reducible refine And.intro (by first | omega | decide) ?_)
   refine hG _ ⟨x + 1,by omega⟩ (by show 3 * n - (x + 1) < 3 * n - x; omega) ?_
   rw [Zg]
   refine Zv [(0,0),(1,1),(2,2),(167,3),(4,4),(5,5)] rfl rfl rfl ?_ ?_
   ·simp -implicitDefEqProofs only [go_sem,Nat.reduceAdd,Nat.reduceEqDiff,Nat.reduceLT,clO,cV,sR,shC,nilW,k0,k1,k2,cel_0,Zf,Za,Zc,Zh,Zb,Zi,Zj,Zr,Zw]
   ·simp -implicitDefEqProofs only [go_sem,Nat.reduceEqDiff]
  ·have tq:(x:Int).fdiv (2 ^ min L 64) = 1:=by
    have e1:x / n = 1:=(Nat.div_eq_iff hp).2 ⟨by omega,by omega⟩
    rw [hfd,e1]; rfl
   have m0:min (x) n = n:=by omega
   have k0:min (x + 1) n = n:=by omega
   have m1:min (x - n) n = x - n:=by omega
   have k1:min (x + 1 - n) n = x - n + 1:=by omega
   have m2:min (x - 2 * n) n = 0:=by omega
   have k2:min (x + 1 - 2 * n) n = 0:=by omega
   have hap:=Zh6 (rows:=rows) (vals:=vals) (L:=L) (j:=1) (m:=x - n) (t:=0) (by rw [hn',show 1 * n + (x - n) = x by omega]; exact hcx)
   simp -implicitDefEqProofs only [go_sem,Nat.reduceAdd,Nat.reduceMul,Nat.reduceEqDiff,Nat.reduceLeDiff,Int.reduceToNat,Int.reduceLT,Int.reduceLE,m0,m1,m2,tq,hap,cw,tk1,cel_len,Z9,List.length_cons,List.length_nil]
   repeat (with_reducible refine And.intro (by first | omega | decide) ?_)
   refine hG _ ⟨x + 1,by omega⟩ (by show 3 * n - (x + 1) < 3 * n - x; omega) ?_
   rw [Zg]
   refine Zv [(0,0),(1,1),(2,2),(3,3),(167,4),(5,5)] rfl rfl rfl ?_ ?_
   ·simp -implicitDefEqProofs only [go_sem,Nat.reduceAdd,Nat.reduceEqDiff,Nat.reduceLT,clO,cV,sR,shC,nilW,k0,k1,k2,cel_0,Zf,Za,Zc,Zh,Zb,Zi,Zj,Zr,Zw]
   ·simp -implicitDefEqProofs only [go_sem,Nat.reduceEqDiff]
  ·have tq:(x:Int).fdiv (2 ^ min L 64) = 2:=by
    have e1:x / n = 2:=(Nat.div_eq_iff hp).2 ⟨by omega,by omega⟩
    rw [hfd,e1]; rfl
   have m0:min (x) n = n:=by omega
   have k0:min (x + 1) n = n:=by omega
   have m1:min (x - n) n = n:=by omega
   have k1:min (x + 1 - n) n = n:=by omega
   have m2:min (x - 2 * n) n = x - 2 * n:=by omega
   have k2:min (x + 1 - 2 * n) n = x - 2 * n + 1:=by omega
   have hap:=Zh6 (rows:=rows) (vals:=vals) (L:=L) (j:=2) (m:=x - 2 * n) (t:=0) (by rw [hn',show 2 * n + (x - 2 * n) = x by omega]; exact hcx)
   simp -implicitDefEqProofs only [go_sem,Nat.reduceAdd,Nat.reduceMul,Nat.reduceEqDiff,Nat.reduceLeDiff,Int.reduceToNat,Int.reduceLT,Int.reduceLE,m0,m1,m2,tq,hap,cw,tk1,cel_len,Z9,List.length_cons,List.length_nil]
   repeat (with_reducible refine And.intro (by first | omega | decide) ?_)
   refine hG _ ⟨x + 1,by omega⟩ (by show 3 * n - (x + 1) < 3 * n - x; omega) ?_
   rw [Zg]
   refine Zv [(0,0),(1,1),(2,2),(3,3),(4,4),(167,5)] rfl rfl rfl ?_ ?_
   ·simp -implicitDefEqProofs only [go_sem,Nat.reduceAdd,Nat.reduceEqDiff,Nat.reduceLT,clO,cV,sR,shC,nilW,k0,k1,k2,Zf,Za,Zc,Zh,Zb,Zi,Zj,Zr,Zw]
   ·simp -implicitDefEqProofs only [go_sem,Nat.reduceEqDiff]
 obtain ⟨v,hve⟩:∃ v:Nat,atV rows L x = (v:Int):=⟨(atV rows L x).toNat,by omega⟩
 have hvV:v < vals.length:=by have:=hvr.2 hv0; omega
 have v0:(v:Int) ≥ 0:=by omega
 have hcx:celV rows vals L x = vals.getD v 0:=by
  unfold celV
  rw [hve,Zmk]
 rw [hve]
 simp -implicitDefEqProofs only [go_sem,Nat.reduceAdd,Nat.reduceMul,Nat.reduceEqDiff,Nat.reduceLT,v0,decide_true,Zu hvV,Z9]
 repeat (with_reducible refine And.intro (by first | omega | decide) ?_)
 rcases (by omega:x < n ∨ (n ≤ x ∧ x < 2 * n) ∨ (2 * n ≤ x)) with e | e | e
 ·have tq:(x:Int).fdiv (2 ^ min L 64) = 0:=by
   have e1:x / n = 0:=(Nat.div_eq_iff hp).2 ⟨by omega,by omega⟩
   rw [hfd,e1]; rfl
  have m0:min (x) n = x:=by omega
  have k0:min (x + 1) n = x + 1:=by omega
  have m1:min (x - n) n = 0:=by omega
  have k1:min (x + 1 - n) n = 0:=by omega
  have m2:min (x - 2 * n) n = 0:=by omega
  have k2:min (x + 1 - 2 * n) n = 0:=by omega
  have hap:=Zh6 (rows:=rows) (vals:=vals) (L:=L) (j:=0) (m:=x) (t:=vals.getD v 0) (by rw [hn',show 0 * n + (x) = x by omega]; exact hcx)
  simp -implicitDefEqProofs only [go_sem,Nat.reduceAdd,Nat.reduceMul,Nat.reduceEqDiff,Nat.reduceLeDiff,Int.reduceLT,Int.reduceLE,m0,m1,m2,tq,hap,cw,tk1,cel_len,Z9,List.length_cons,List.length_nil]
  repeat (with_reducible refine And.intro (by first | omega | decide) ?_)
  refine hG _ ⟨x + 1,by omega⟩ (by show 3 * n - (x + 1) < 3 * n - x; omega) ?_
  rw [Zg]
  refine Zv [(0,0),(1,1),(2,2),(167,3),(4,4),(5,5)] rfl rfl rfl ?_ ?_
  ·simp -implicitDefEqProofs only [go_sem,Nat.reduceAdd,Nat.reduceEqDiff,Nat.reduceLT,clO,cV,sR,shC,nilW,k0,k1,k2,cel_0,Zf,Za,Zc,Zh,Zb,Zi,Zj,Zr,Zw]
  ·simp -implicitDefEqProofs only [go_sem,Nat.reduceEqDiff]
 ·have tq:(x:Int).fdiv (2 ^ min L 64) = 1:=by
   have e1:x / n = 1:=(Nat.div_eq_iff hp).2 ⟨by omega,by omega⟩
   rw [hfd,e1]; rfl
  have m0:min (x) n = n:=by omega
  have k0:min (x + 1) n = n:=by omega
  have m1:min (x - n) n = x - n:=by omega
  have k1:min (x + 1 - n) n = x - n + 1:=by omega
  have m2:min (x - 2 * n) n = 0:=by omega
  have k2:min (x + 1 - 2 * n) n = 0:=by omega
  have hap:=Zh6 (rows:=rows) (vals:=vals) (L:=L) (j:=1) (m:=x - n) (t:=vals.getD v 0) (by rw [hn',show 1 * n + (x - n) = x by omega]; exact hcx)
  simp -implicitDefEqProofs only [go_sem,Nat.reduceAdd,Nat.reduceMul,Nat.reduceEqDiff,Nat.reduceLeDiff,Int.reduceToNat,Int.reduceLT,Int.reduceLE,m0,m1,m2,tq,hap,cw,tk1,cel_len,Z9,List.length_cons,List.length_nil]
  repeat (with_reducible refine And.intro (by first | omega | decide) ?_)
  refine hG _ ⟨x + 1,by omega⟩ (by show 3 * n - (x + 1) < 3 * n - x; omega) ?_
  rw [Zg]
  refine Zv [(0,0),(1,1),(2,2),(3,3),(167,4),(5,5)] rfl rfl rfl ?_ ?_
  ·simp -implicitDefEqProofs only [go_sem,Nat.reduceAdd,Nat.reduceEqDiff,Nat.reduceLT,clO,cV,sR,shC,nilW,k0,k1,k2,cel_0,Zf,Za,Zc,Zh,Zb,Zi,Zj,Zr,Zw]
  ·simp -implicitDefEqProofs only [go_sem,Nat.reduceEqDiff]
 ·have tq:(x:Int).fdiv (2 ^ min L 64) = 2:=by
   have e1:x / n = 2:=(Nat.div_eq_iff hp).2 ⟨by omega,by omega⟩
   rw [hfd,e1]; rfl
  have m0:min (x) n = n:=by omega
  have k0:min (x + 1) n = n:=by omega
  have m1:min (x - n) n = n:=by omega
  have k1:min (x + 1 - n) n = n:=by omega
  have m2:min (x - 2 * n) n = x - 2 * n:=by omega
  have k2:min (x + 1 - 2 * n) n = x - 2 * n + 1:=by omega
  have hap:=Zh6 (rows:=rows) (vals:=vals) (L:=L) (j:=2) (m:=x - 2 * n) (t:=vals.getD v 0) (by rw [hn',show 2 * n + (x - 2 * n) = x by omega]; exact hcx)
  simp -implicitDefEqProofs only [go_sem,Nat.reduceAdd,Nat.reduceMul,Nat.reduceEqDiff,Nat.reduceLeDiff,Int.reduceToNat,Int.reduceLT,Int.reduceLE,m0,m1,m2,tq,hap,cw,tk1,cel_len,Z9,List.length_cons,List.length_nil]
  repeat (with_reducible refine And.intro (by first | omega | decide) ?_)
  refine hG _ ⟨x + 1,by omega⟩ (by show 3 * n - (x + 1) < 3 * n - x; omega) ?_
  rw [Zg]
  refine Zv [(0,0),(1,1),(2,2),(3,3),(4,4),(167,5)] rfl rfl rfl ?_ ?_
  ·simp -implicitDefEqProofs only [go_sem,Nat.reduceAdd,Nat.reduceEqDiff,Nat.reduceLT,clO,cV,sR,shC,nilW,k0,k1,k2,Zf,Za,Zc,Zh,Zb,Zi,Zj,Zr,Zw]
  ·simp -implicitDefEqProofs only [go_sem,Nat.reduceEqDiff]
end Go.Proofs.Tryz.PMT
namespace Go.Proofs.Tryz.PMT
open Go Go.Proofs.PM Go.Proofs.PL Go.Proofs.Tryz
variable {K:PV→List Ob→Prop}
set_option maxRecDepth 4000
def csF (x:F):Nat→F
 | 0=>x
 | j + 1=>csF x j * of 7
theorem Zso {j:Nat} {x:F} (hj:j ≤ 100) (hK:K (ff (csF x j)) []):PSpec prog 70 [i64 j,ff x] [] K:=by
 refine Zgt ?_
 simp only [yS,yN,yG,yT,yI,yF,yZ,yM,yU,yL,yB,yR,Zc7]
 simp -implicitDefEqProofs only [go_sem,Nat.reduceAdd,Nat.reduceSub,Nat.reduceEqDiff,Zn]
 refine Zx (ι:={ i:Nat // i ≤ j }) [0,5,6,7,8,9,10,11] (fun i=>[(0,i64 ((j - i.1:Nat):Int)),(3,.ptr 0 []),(4,.ptr 1 [])])
  (fun i=>[(0,.ob (.var (.arr 4 .one) (ff (csF x i.1)))),(1,.ob (.var (.arr 4 .one) (ff 0)))]) 2 (fun i=>j - i.1) ⟨0,Nat.zero_le _⟩ ?_ ?_
 ·rw [Zg]
  refine Ze [(0,0),(1,1)] rfl rfl rfl ?_ ?_
  ·simp -implicitDefEqProofs only [go_sem,Nat.reduceEqDiff,Nat.reduceLT,csF]
  ·simp -implicitDefEqProofs only [go_sem,Nat.reduceEqDiff,Nat.sub_zero]
 intro ⟨i,hi⟩ G hG
 simp -implicitDefEqProofs only [go_sem]
 refine Zk (fun h=>?_) (fun h=>?_)
 ·simp only [decide_eq_true_eq] at h
  have cw:IntKind.i64.wrap (((j - i:Nat):Int) - 1) = ((j - (i + 1):Nat):Int):=by rw [wrs (by omega) (by omega)]; omega
  simp -implicitDefEqProofs only [go_sem,Nat.reduceAdd,Nat.reduceMul,Nat.reduceEqDiff,Nat.reduceLT]
  refine Zbb (Zt rfl) ?_
  simp -implicitDefEqProofs only [go_sem,Nat.reduceAdd,Nat.reduceMul,Nat.reduceLT]
  refine Zbr ?_
  simp -implicitDefEqProofs only [go_sem,Nat.reduceAdd,Nat.reduceMul,Nat.reduceEqDiff,cw]
  refine hG _ ⟨i + 1,by omega⟩ (by simp only; omega) ?_
  rw [Zg]
  refine Ze [(0,0),(1,1)] rfl rfl rfl ?_ ?_
  ·simp -implicitDefEqProofs only [go_sem,Nat.reduceEqDiff,Nat.reduceLT,csF]
  ·simp -implicitDefEqProofs only [go_sem,Nat.reduceEqDiff]
 ·simp only [decide_eq_false_iff_not] at h
  obtain rfl:i = j:=by omega
  simp -implicitDefEqProofs only [go_sem,Nat.reduceEqDiff]
  exact Zd rfl hK
end Go.Proofs.Tryz.PMT
namespace Go.Proofs.Tryz.PMT
open Go Go.Proofs.PM Go.Proofs.Tryz
variable {args:List PV} {own:List Ob} {K:PV→List Ob→Prop}
def Zdc:Pc:=(yR [yS 1 (.box (.cons .one (.cons (.arr 8 .one) (.cons (.arr 3 .one) (.cons (.arr 3 .one) .nil)))) (yT 0)),yS 2 (.alloc (.cons .one (.cons (.arr 8 .one) (.cons (.arr 3 .one) (.cons (.arr 3 .one) .nil)))) (.agg [(.val (.int .i64 0)),(.agg [(.val (.slice none 0 0)),(.val (.slice none 0 0)),(.val (.slice none 0 0)),(.val (.slice none 0 0)),(.val (.slice none 0 0)),(.val (.slice none 0 0)),(.val (.slice none 0 0)),(.val (.slice none 0 0))]),(.agg [(.val (.slice none 0 0)),(.val (.slice none 0 0)),(.val (.slice none 0 0))]),(.agg [(.val (.slice none 0 0)),(.val (.slice none 0 0)),(.val (.slice none 0 0))])]))] (yR [yS 3 (.faddr (.cons .one (.cons (.arr 8 .one) (.cons (.arr 3 .one) (.cons (.arr 3 .one) .nil)))) 0 (yT 1)),yS 4 (.load .one (yT 3)),yS 5 (.faddr (.cons .one (.cons (.arr 8 .one) (.cons (.arr 3 .one) (.cons (.arr 3 .one) .nil)))) 1 (yT 1)),yS 6 (.load (.arr 8 .one) (yT 5)),yS 7 (.faddr (.cons .one (.cons (.arr 8 .one) (.cons (.arr 3 .one) (.cons (.arr 3 .one) .nil)))) 2 (yT 1)),yS 8 (.load (.arr 3 .one) (yT 7)),yS 9 (.faddr (.cons .one (.cons (.arr 8 .one) (.cons (.arr 3 .one) (.cons (.arr 3 .one) .nil)))) 3 (yT 1)),yS 10 (.load (.arr 3 .one) (yT 9)),yS 11 (.build (.cons .one (.cons (.arr 8 .one) (.cons (.arr 3 .one) (.cons (.arr 3 .one) .nil)))) (.agg [(.val (.int .i64 0)),(.agg [(.val (.slice none 0 0)),(.val (.slice none 0 0)),(.val (.slice none 0 0)),(.val (.slice none 0 0)),(.val (.slice none 0 0)),(.val (.slice none 0 0)),(.val (.slice none 0 0)),(.val (.slice none 0 0))]),(.agg [(.val (.slice none 0 0)),(.val (.slice none 0 0)),(.val (.slice none 0 0))]),(.agg [(.val (.slice none 0 0)),(.val (.slice none 0 0)),(.val (.slice none 0 0))])]) [(0,(yT 4)),(1,(yT 6)),(2,(yT 8)),(3,(yT 10))]),yN (.store (.cons .one (.cons (.arr 8 .one) (.cons (.arr 3 .one) (.cons (.arr 3 .one) .nil)))) (yT 2) (yT 11))] .ret))
theorem Zgy (h:pwp prog Zdc (retQ [.cell 2 (.cons .one (.cons (.arr 8 .one) (.cons (.arr 3 .one) (.cons (.arr 3 .one) .nil))))] own K) (stIn 12 args own)):PSpec prog 12 args own K:=spec func12 (by kernel_rfl) (by kernel_rfl) (by kernel_rfl) h
def Zj5:Pc:=(yR [yS 3 (.box (.cons .one (.cons (.arr 8 .one) (.cons (.arr 3 .one) (.cons (.arr 3 .one) .nil)))) (yT 0)),yS 4 (.box (.arr 3 .one) (yT 1)),yS 6 (.nil 25 yF),yS 7 (.mv (yI 0))] (yR [yS 8 (.load (.cons .one (.cons (.arr 8 .one) (.cons (.arr 3 .one) (.cons (.arr 3 .one) .nil)))) (yT 3)),yS 9 (.load (.arr 3 .one) (yT 4)),yM 10 2,yS 11 (.call 42 false [((yT 8),none),((yT 9),none),((yT 10),(some yF))]),yS 12 (.ext (yT 11) 0),yS 13 (.ext (yT 11) 1),yM 6 12,yM 7 13] .ret))
theorem Zo4 (h:pwp prog Zj5 (retQ [.tmp 6,.tmp 7] own K) (stIn 14 args own)):PSpec prog 11 args own K:=spec func11 (by kernel_rfl) (by kernel_rfl) (by kernel_rfl) h
def Zj1:Pc:=(yR [yS 3 (.box (.cons .one (.cons (.arr 8 .one) (.cons (.arr 3 .one) (.cons (.arr 3 .one) .nil)))) (yT 0)),yS 4 (.box (.arr 3 .one) (yT 1)),yS 6 (.nil 25 yF),yS 7 (.mv (yI 0))] (.seq (yR [yS 11 (.faddr (.cons .one (.cons (.arr 8 .one) (.cons (.arr 3 .one) (.cons (.arr 3 .one) .nil)))) 0 (yT 3)),yS 12 (.load .one (yT 11)),yS 13 (.bin .lss (yT 12) (yI 1)),yM 14 13,yG 15 14 false (.faddr (.cons .one (.cons (.arr 8 .one) (.cons (.arr 3 .one) (.cons (.arr 3 .one) .nil)))) 0 (yT 3)),yG 16 14 false (.load .one (yT 15)),yG 17 14 false (.bin .gtr (yT 16) (yI 6)),yS 18 (.pick (yT 14) (yL true) (yT 17))] (.cond (yT 18) (yR [yS 6 (.nil 25 yF),yS 7 (.mv (yI 1))] .ret) .skip)) (yR [yS 19 (.faddr (.cons .one (.cons (.arr 8 .one) (.cons (.arr 3 .one) (.cons (.arr 3 .one) .nil)))) 0 (yT 3)),yS 20 (.load .one (yT 19)),yS 21 (.cvi .u64 (yT 20)),yS 22 (.bin .shl (yI 1) (yT 21)),yM 8 22] (.seq (yR [yM 23 2,yS 24 (.call 72 false [((yT 23),(some yF))]),yS 25 (.len (yT 24)),yM 26 8,yB .gtr 27 25 26,yM 28 27,yG 29 28 false (.load (.arr 3 .one) (yT 4)),yG 30 28 false (.mv (yT 8)),yG 31 28 false (.bin .add (yT 30) (yI 2)),yG 32 28 false (.call 73 false [((yT 29),none),((yT 31),none)]),yS 33 (.pick (yT 28) (yL true) (yT 32))] (.cond (yT 33) (yR [yS 6 (.nil 25 yF),yS 7 (.mv (yI 8))] .ret) .skip)) (yR [yS 34 (.build (.cons .one .nil) (.agg [(.val (.int .i64 0))]) []),yS 35 (.box (.cons .one .nil) (yT 34)),yM 9 35] (yR [yM 36 9,yS 37 (.load (.cons .one (.cons (.arr 8 .one) (.cons (.arr 3 .one) (.cons (.arr 3 .one) .nil)))) (yT 3)),yS 38 (.load (.arr 3 .one) (yT 4)),yM 39 2,yS 40 (.call 74 false [((yT 36),none),((yT 37),none),((yT 38),none),((yT 39),(some yF))]),yM 10 40] (.seq (yR [yM 41 9,yS 42 (.nilc (yT 41)),yS 43 (.faddr (.cons .one .nil) 0 (yT 42)),yS 44 (.load .one (yT 43)),yS 45 (.bin .neq (yT 44) (yI 0))] (.cond (yT 45) (.seq (.drgn 6 [⟨0,.no,yM 46 9⟩,⟨1,.no,yS 47 (.nilc (yT 46))⟩,⟨2,.no,yS 48 (.faddr (.cons .one .nil) 0 (yT 47))⟩,⟨3,.no,yS 49 (.load .one (yT 48))⟩,⟨4,.no,yS 6 (.nil 25 yF)⟩,⟨5,.no,yM 7 49⟩]) .ret) .skip)) (yR [yM 50 10,yM 6 50,yS 7 (.mv (yI 0))] .ret))))))))
theorem Zo0 (h:pwp prog Zj1 (retQ [.tmp 6,.tmp 7] own K) (stIn 51 args own)):PSpec prog 42 args own K:=spec func42 (by kernel_rfl) (by kernel_rfl) (by kernel_rfl) h
def Zlq:Pc:=(yR [yS 2 (.box (.arr 3 .one) (yT 0)),yS 4 (.mv (yL false))] (.seq (yR [yS 7 (.load (.arr 3 .one) (yT 2)),yS 8 (.mv (yI 0))] (.block 0 (.loop (yR [yS 9 (.bin .lss (yT 8) (yI 3))] (.seq (.cond (yT 9) .skip (.exit 0)) (.seq (.block 1 (yR [yS 10 (.idx 3 .one (yT 7) (yT 8)),yM 6 10] (yR [yM 11 6,yS 12 (.call 72 false [((yT 11),(some yF))]),yS 13 (.len (yT 12)),yM 14 1,yB .gtr 15 13 14] (.cond (yT 15) (yR [yS 4 (.mv (yL true))] .ret) .skip)))) (.rgn [yS 16 (.bin .add (yT 8) (yI 1)),yM 8 16]))))))) (yR [yS 4 (.mv (yL false))] .ret)))
theorem Zqf (h:pwp prog Zlq (retQ [.tmp 4] own K) (stIn 17 args own)):PSpec prog 73 args own K:=spec func73 (by kernel_rfl) (by kernel_rfl) (by kernel_rfl) h
def Zfm:Pc:=(yR [yS 5 (.box (.cons .one (.cons (.arr 8 .one) (.cons (.arr 3 .one) (.cons (.arr 3 .one) .nil)))) (yT 1)),yS 6 (.box (.arr 3 .one) (yT 2)),yS 8 (.nil 25 yF)] (yR [yS 20 (.faddr (.cons .one (.cons (.arr 8 .one) (.cons (.arr 3 .one) (.cons (.arr 3 .one) .nil)))) 0 (yT 5)),yS 21 (.load .one (yT 20)),yS 22 (.call 91 false [((yT 21),none)]),yM 19 22,yS 23 (.ext (yT 19) 0),yS 24 (.ext (yT 19) 1),yS 9 (.alloc yF yZ),yN (.store yF (yT 9) (yT 23)),yM 10 24] (.seq (.drgn 9 [⟨0,.no,yS 25 (.iaddra 3 .one (yT 6) (yI 0))⟩,⟨1,.no,yS 26 (.load .one (yT 25))⟩,⟨2,.no,yS 27 (.iaddra 3 .one (yT 6) (yI 1))⟩,⟨3,.no,yS 28 (.load .one (yT 27))⟩,⟨4,.no,yS 29 (.iaddra 3 .one (yT 6) (yI 2))⟩,⟨5,.no,yS 30 (.load .one (yT 29))⟩,⟨6,.no,yM 11 26⟩,⟨7,.no,yM 12 28⟩,⟨8,.no,yM 13 30⟩]) (yR [yM 31 0,yM 32 11,yM 33 11,yS 34 (.bsl 32 .one (.val (.slice none 0 0)) 2 [(0,(yT 32)),(1,(yT 33))]),yS 35 (.call 92 false [((yT 31),none),((yT 34),(some .one))]),yM 14 35] (.seq (.drgn 31 [⟨0,.no,yM 36 0⟩,⟨1,.no,yM 37 11⟩,⟨2,.no,yM 38 12⟩,⟨3,.no,yS 39 (.bsl 32 .one (.val (.slice none 0 0)) 2 [(0,(yT 37)),(1,(yT 38))])⟩,⟨5,.no,yM 41 11⟩,⟨6,.no,yM 42 12⟩,⟨7,.no,yM 43 13⟩,⟨10,.no,yM 46 14⟩,⟨11,.no,yM 47 11⟩,⟨13,.no,yM 49 0⟩,⟨14,.no,yM 50 14⟩,⟨15,.no,yM 51 14⟩,⟨16,.no,yM 52 11⟩,⟨17,.no,yS 53 (.bsl 32 .one (.val (.slice none 0 0)) 3 [(0,(yT 50)),(1,(yT 51)),(2,(yT 52))])⟩,⟨19,.no,yM 55 13⟩,⟨21,.no,yM 57 11⟩,⟨22,.no,yM 58 12⟩,⟨24,.no,yM 60 11⟩,⟨25,.no,yS 61 (.load yF (yT 9))⟩,⟨29,.no,yS 15 (.alloc (.arr 8 .one) (.agg [(.val (.slice none 0 0)),(.val (.slice none 0 0)),(.val (.slice none 0 0)),(.val (.slice none 0 0)),(.val (.slice none 0 0)),(.val (.slice none 0 0)),(.val (.slice none 0 0)),(.val (.slice none 0 0))]))⟩,⟨4,(.av false [9,50,51,52]),yS 40 (.call 92 false [((yT 36),none),((yT 39),(some .one))])⟩,⟨8,(.av false [9,50,51,52]),yS 44 (.call 78 false [((yU 1),none)])⟩,⟨9,.no,yS 45 (.bsl 25 yF yZ 1 [(0,(yT 44))])⟩,⟨12,(.av false [44,9,50,51,52]),yS 48 (.call 93 false [((yT 46),(some yF)),((yT 47),(some yF))])⟩,⟨18,(.av false [44,9]),yS 54 (.call 92 false [((yT 49),none),((yT 53),(some .one))])⟩,⟨20,(.av false [44,9]),yS 56 (.call 93 false [((yT 54),(some yF)),((yT 55),(some yF))])⟩,⟨23,(.av false [44,9]),yS 59 (.call 82 false [((yT 57),(some yF)),((yT 58),(some yF))])⟩,⟨26,(.av false [44]),yS 62 (.call 94 false [((yT 60),(some yF)),((yT 61),none)])⟩,⟨27,(.av false [44]),yS 63 (.call 93 false [((yT 59),(some yF)),((yT 62),(some yF))])⟩,⟨28,.no,yS 64 (.build (.arr 8 .one) (.agg [(.val (.slice none 0 0)),(.val (.slice none 0 0)),(.val (.slice none 0 0)),(.val (.slice none 0 0)),(.val (.slice none 0 0)),(.val (.slice none 0 0)),(.val (.slice none 0 0)),(.val (.slice none 0 0))]) [(0,(yT 40)),(1,(yT 41)),(2,(yT 42)),(3,(yT 43)),(4,(yT 45)),(5,(yT 48)),(6,(yT 56)),(7,(yT 63))])⟩,⟨30,.no,yN (.store (.arr 8 .one) (yT 15) (yT 64))⟩]) (yR [yM 65 3,yS 66 (.call 72 false [((yT 65),(some yF))]),yM 16 66] (.seq (yR [yS 67 (.load (.arr 8 .one) (yT 15)),yS 68 (.mv (yI 0))] (.block 0 (.loop (yR [yS 69 (.bin .lss (yT 68) (yI 8))] (.seq (.cond (yT 69) .skip (.exit 0)) (.seq (.block 1 (yR [yM 70 68,yS 71 (.idx 8 .one (yT 67) (yT 68)),yM 17 70,yM 18 71] (.rgn [yM 72 16,yM 73 0,yM 74 17,yS 75 (.faddr (.cons .one (.cons (.arr 8 .one) (.cons (.arr 3 .one) (.cons (.arr 3 .one) .nil)))) 1 (yT 5)),yS 76 (.iaddra 8 .one (yT 75) (yT 74)),yS 77 (.load .one (yT 76)),yM 78 18,yS 79 (.bsl 32 .one (.val (.slice none 0 0)) 2 [(0,(yT 77)),(1,(yT 78))]),yS 80 (.call 92 false [((yT 73),none),((yT 79),(some .one))]),yS 81 (.call 82 false [((yT 72),(some yF)),((yT 80),(some yF))]),yM 16 81]))) (.rgn [yS 82 (.bin .add (yT 68) (yI 1)),yM 68 82]))))))) (yR [yM 83 16,yM 8 83] .ret))))))))
theorem Zjw (h:pwp prog Zfm (retQ [.tmp 8] own K) (stIn 84 args own)):PSpec prog 74 args own K:=spec func74 (by kernel_rfl) (by kernel_rfl) (by kernel_rfl) h
def Zdz:Pc:=(yR [yS 4 (.nil 25 yF)] (yR [yS 10 (.call 78 false [((yU 1),none)]),yS 11 (.bsl 25 yF yZ 1 [(0,(yT 10))]),yM 5 11] (.seq (yR [yM 12 1,yS 13 (.len (yT 12)),yS 14 (.mv (yI 0))] (.block 0 (.loop (yR [yB .lss 15 14 13] (.seq (.cond (yT 15) .skip (.exit 0)) (.seq (.block 1 (yR [yS 16 (.iaddrs .one (yT 12) (yT 14)),yS 17 (.load .one (yT 16)),yM 7 17] (yR [yM 19 5,yM 20 7,yS 21 (.call 106 false [((yT 19),(some yF)),((yT 20),(some yF))]),yM 18 21,yS 22 (.ext (yT 18) 0),yS 23 (.ext (yT 18) 1),yM 8 22,yM 9 23] (.seq (yR [yM 24 9,yS 25 (.bin .neq (yT 24) (yI 0)),yM 26 25,yG 27 26 true (.mv (yT 0)),yG 28 26 true (.nilc (yT 27)),yG 29 26 true (.faddr (.cons .one .nil) 0 (yT 28)),yG 30 26 true (.load .one (yT 29)),yG 31 26 true (.bin .eql (yT 30) (yI 0)),yS 32 (.pick (yT 26) (yT 31) (yL false))] (.cond (yT 32) (.rgn [yM 33 0,yM 34 9,yS 35 (.nilc (yT 33)),yS 36 (.faddr (.cons .one .nil) 0 (yT 35)),yN (.store .one (yT 36) (yT 34))]) .skip)) (.rgn [yM 37 8,yM 5 37]))))) (.rgn [yS 38 (.bin .add (yT 14) (yI 1)),yM 14 38]))))))) (yR [yM 39 5,yM 4 39] .ret))))
theorem Zgq (h:pwp prog Zdz (retQ [.tmp 4] own K) (stIn 40 args own)):PSpec prog 92 args own K:=spec func92 (by kernel_rfl) (by kernel_rfl) (by kernel_rfl) h
end Go.Proofs.Tryz.PMT
namespace Go.Proofs.Tryz.PMT
open Go Go.Proofs.PM Go.Proofs.PL Go.Proofs.Tryz
variable {K:PV→List Ob→Prop}
set_option maxRecDepth 4000
abbrev vF (b:Bool) (l:List F):PV:=.vsl b (.arr 4 .one) (ffs l)
abbrev pA (L:Nat) (q s v:Nat→List F):PV:=.agg [.val (.int .i64 (L:Int)),.agg [vF false (q 0),vF false (q 1),vF false (q 2),vF false (q 3),vF false (q 4),vF false (q 5),vF false (q 6),vF false (q 7)],.agg [vF false (s 0),vF false (s 1),vF false (s 2)],.agg [vF false (v 0),vF false (v 1),vF false (v 2)]]
set_option maxHeartbeats 4000000 in
theorem Zpq {L:Nat} {q s v:Nat→List F} (hK:K (pA L q s v) []):PSpec prog 12 [pA L q s v] [] K:=by
 refine Zgy ?_
 simp only [yS,yN,yG,yT,yI,yF,yZ,yM,yU,yL,yB,yR,Zdc,pA,vF]
 simp -implicitDefEqProofs only [go_sem,Nat.reduceAdd,Nat.reduceMul,Nat.reduceSub,Nat.reduceEqDiff]
 refine Zbu (n:=0) (own:=[]) [] [] [pA L q s v] rfl rfl rfl rfl ?_ ?_ hK
 ·simp -implicitDefEqProofs only [go_sem]
 ·simp -implicitDefEqProofs only [go_sem,pA,vF,Zf,Za,Zc,Zz,Zh,Zb,Zs,Bool.false_and]
end Go.Proofs.Tryz.PMT
namespace Go.Proofs.Tryz.PMT
open Go Go.Proofs.PM Go.Proofs.PL Go.Proofs.Tryz
variable {K:PV→List Ob→Prop}
set_option maxRecDepth 4000
theorem Zhi {a b:List F} (ha:a.length ≤ 200) (hb:b.length ≤ 200) (hK:K (.tup [.osl 0 [] 0 (pm a b).length,i64 0]) [.row 25 (.arr 4 .one) (ffs (pm a b))]):PSpec prog 106 [.vsl false (.arr 4 .one) (ffs a),.vsl false (.arr 4 .one) (ffs b)] [] K:=by
 have h1:=Zbc a
 have h2:=Zbc b
 have hl:=Zqo a b
 refine Zvq (by omega) (by omega) (fun h=>?_) (fun _ _ h=>absurd h (by omega)) (fun n1 n2 _=>?_)
 ·rw [pm,if_pos h] at hK
  exact hK
 ·have h:¬ ((cut a).length = 0 ∨ (cut b).length = 0):=fun h=>h.elim n1 n2
  rw [if_neg h] at hl
  rw [hl] at hK
  rw [pm,if_neg h] at hK
  exact hK
end Go.Proofs.Tryz.PMT
namespace Go.Proofs.PL
theorem Zw0 (a b:List F):pm (cut a) b = pm a b:=by
 rw [pm,pm,Zst]
theorem Z14 (a:List F):pm [1] a = cut a:=by
 rw [← Z15]
 refine Zhm fun i=>?_
 have h1:(1:F) ≠ 0:=by decide
 have hc:cut [(1:F)] = [1]:=Zgl (n:=0) rfl h1
 rw [Zoa,hc,Zez]
 show sm 1 (tm [1] (cut a) i) = _
 rw [sm,sm,Zev]
 simp only [tm,List.getD_cons_zero,Nat.sub_zero]
 rw [if_pos (Nat.zero_le _),Zbj]
 generalize a.getD i 0 = x
 grind
theorem r12_pm (a b:List F):cut (mulL (a.length + b.length) a b) = pm a b:=by
 rw [← Z15]
 refine Zhm fun i=>?_
 rw [Ztr (by omega),Zoa,← Zez]
 rw [Zni (cut b) _ (Zbj a),Zez,Zez]
 exact Zfj _ fun j _=>by simp only [tm,Zbj]
end Go.Proofs.PL
namespace Go.Proofs.Tryz.PMT
open Go Go.Proofs.PM Go.Proofs.PL Go.Proofs.Tryz
variable {K:PV→List Ob→Prop}
set_option maxRecDepth 4000
theorem Zr9 {e:TypeId} {s:Sh} {x:F}:Ob.row e s [ff x] = .row e s (ffs [x]):=rfl
set_option maxHeartbeats 4000000 in
theorem Zbv {a b:List F} {x y:Bool} (ha:a.length ≤ 100) (hb:b.length ≤ 100) (hK:K (.osl 1 [] 0 (pm a b).length) [.var (.cons .one .nil) (.agg [i64 0]),.row 25 (.arr 4 .one) (ffs (pm a b))]):PSpec prog 92 [.ptr 0 [],.vsl false .one [vF x a,vF y b]] [.var (.cons .one .nil) (.agg [i64 0])] K:=by
 refine Zgq ?_
 simp only [yS,yN,yG,yT,yI,yF,yZ,yM,yU,yL,yB,yR,Zdz,vF]
 simp -implicitDefEqProofs only [go_sem,Nat.reduceAdd,Nat.reduceSub,Nat.reduceEqDiff,Nat.reduceLT]
 refine Zld (by omega) ?_
 have hp1:(pm [1] a).length ≤ 200:=by have:=pm_le [1] a; simp only [List.length_cons,List.length_nil] at this; omega
 have hpab:pm (pm [1] a) b = pm a b:=by rw [Z14,Zw0]
 have t1:List.take 1 [(1:F)] = [1]:=rfl
 simp -implicitDefEqProofs only [go_sem,Nat.reduceAdd,Nat.reduceEqDiff,Nat.reduceLT,of_1,Zr9]
 refine Zp 3 ?_
 simp -implicitDefEqProofs only [go_sem,Nat.reduceAdd,Nat.reduceEqDiff,Nat.reduceLT,Int.reduceLT,Int.reduceLE,t1,Zb9]
 refine Zhi (a:=[1]) (by decide) (by omega) ?_
 simp -implicitDefEqProofs only [go_sem,Nat.reduceAdd,Nat.reduceEqDiff,Nat.reduceLT,Nat.reduceLeDiff,Int.reduceToNat,Int.reduceLT,Int.reduceLE,Int.reduceAdd,Int.reduceNeg,Int.reduceBNe,Zb9,List.take_length]
 refine Zhi (by omega) (by omega) ?_
 simp -implicitDefEqProofs only [go_sem,Nat.reduceAdd,Nat.reduceEqDiff,Nat.reduceLT,Nat.reduceLeDiff,Int.reduceLT,Int.reduceLE,Int.reduceAdd,Int.reduceNeg,Int.reduceBNe,hpab]
 refine Zbu [(0,0),(4,1)] [.var (.cons .one .nil) (.agg [i64 0]),.row 25 (.arr 4 .one) (ffs (pm a b))] [.osl 1 [] 0 (pm a b).length] rfl rfl rfl rfl ?_ ?_ hK
 ·simp -implicitDefEqProofs only [go_sem,Nat.reduceAdd,Nat.reduceEqDiff,Nat.reduceLT,Zf,Z5,Za,Zc]
 ·simp -implicitDefEqProofs only [go_sem,Nat.reduceEqDiff]
set_option maxHeartbeats 4000000 in
theorem Zsp {a b c:List F} {x y z:Bool} (ha:a.length ≤ 50) (hb:b.length ≤ 50) (hc:c.length ≤ 50) (hK:K (.osl 1 [] 0 (pm (pm a b) c).length) [.var (.cons .one .nil) (.agg [i64 0]),.row 25 (.arr 4 .one) (ffs (pm (pm a b) c))]):PSpec prog 92 [.ptr 0 [],.vsl false .one [vF x a,vF y b,vF z c]] [.var (.cons .one .nil) (.agg [i64 0])] K:=by
 refine Zgq ?_
 simp only [yS,yN,yG,yT,yI,yF,yZ,yM,yU,yL,yB,yR,Zdz,vF]
 simp -implicitDefEqProofs only [go_sem,Nat.reduceAdd,Nat.reduceSub,Nat.reduceEqDiff,Nat.reduceLT]
 refine Zld (by omega) ?_
 have hp1:(pm [1] a).length ≤ 51:=by have:=pm_le [1] a; simp only [List.length_cons,List.length_nil] at this; omega
 have hpab:pm (pm [1] a) b = pm a b:=by rw [Z14,Zw0]
 have hp2:(pm a b).length ≤ 100:=by have:=pm_le a b; omega
 have t1:List.take 1 [(1:F)] = [1]:=rfl
 simp -implicitDefEqProofs only [go_sem,Nat.reduceAdd,Nat.reduceEqDiff,Nat.reduceLT,of_1,Zr9]
 refine Zp 4 ?_
 simp -implicitDefEqProofs only [go_sem,Nat.reduceAdd,Nat.reduceEqDiff,Nat.reduceLT,Int.reduceLT,Int.reduceLE,t1,Zb9]
 refine Zhi (a:=[1]) (by decide) (by omega) ?_
 simp -implicitDefEqProofs only [go_sem,Nat.reduceAdd,Nat.reduceEqDiff,Nat.reduceLT,Nat.reduceLeDiff,Int.reduceToNat,Int.reduceLT,Int.reduceLE,Int.reduceAdd,Int.reduceNeg,Int.reduceBNe,Zb9,List.take_length]
 refine Zhi (by omega) (by omega) ?_
 simp -implicitDefEqProofs only [go_sem,Nat.reduceAdd,Nat.reduceEqDiff,Nat.reduceLT,Nat.reduceLeDiff,Int.reduceToNat,Int.reduceLT,Int.reduceLE,Int.reduceAdd,Int.reduceNeg,Int.reduceBNe,hpab,Zb9,List.take_length]
 refine Zhi (by omega) (by omega) ?_
 simp -implicitDefEqProofs only [go_sem,Nat.reduceAdd,Nat.reduceEqDiff,Nat.reduceLT,Nat.reduceLeDiff,Int.reduceLT,Int.reduceLE,Int.reduceAdd,Int.reduceNeg,Int.reduceBNe]
 refine Zbu [(0,0),(5,1)] [.var (.cons .one .nil) (.agg [i64 0]),.row 25 (.arr 4 .one) (ffs (pm (pm a b) c))] [.osl 1 [] 0 (pm (pm a b) c).length] rfl rfl rfl rfl ?_ ?_ hK
 ·simp -implicitDefEqProofs only [go_sem,Nat.reduceAdd,Nat.reduceEqDiff,Nat.reduceLT,Zf,Z5,Za,Zc]
 ·simp -implicitDefEqProofs only [go_sem,Nat.reduceEqDiff]
end Go.Proofs.Tryz.PMT
namespace Go.Proofs.Tryz.PMT
open Go Go.Proofs.PM Go.Proofs.PL Go.Proofs.Tryz
variable {K:PV→List Ob→Prop}
set_option maxRecDepth 4000
set_option maxHeartbeats 4000000 in
theorem Zsm {a b c:List F} {x y z:Bool} {m:Nat} (ha:a.length ≤ 100) (hb:b.length ≤ 100) (hc:c.length ≤ 100) (h1:(cut a).length > m ∨ (cut b).length > m ∨ (cut c).length > m→K (bo true) []) (h0:(cut a).length ≤ m→(cut b).length ≤ m→(cut c).length ≤ m→K (bo false) []) :
  PSpec prog 73 [.agg [vF x a,vF y b,vF z c],i64 m] [] K:=by
 refine Zqf ?_
 simp only [yS,yN,yG,yT,yI,yF,yZ,yM,yU,yL,yB,yR,Zlq,vF]
 simp -implicitDefEqProofs only [go_sem,Nat.reduceAdd,Nat.reduceSub]
 refine Zp 4 ?_
 simp -implicitDefEqProofs only [go_sem,Nat.reduceAdd,Nat.reduceLT,Int.reduceLT,Int.reduceLE]
 refine Zbf (by omega) ?_
 simp -implicitDefEqProofs only [go_sem,Nat.reduceAdd,Nat.reduceEqDiff,Nat.reduceLeDiff]
 by_cases e1:((cut a).length:Int) > m
 ·simp -implicitDefEqProofs only [go_sem,e1,decide_true]
  exact Zd rfl (h1 (.inl (by omega)))
 simp -implicitDefEqProofs only [go_sem,Nat.reduceAdd,Nat.reduceLT,Int.reduceToNat,Int.reduceLT,Int.reduceLE,Int.reduceAdd,Int.reduceNeg,e1,decide_false]
 refine Zbf (by omega) ?_
 simp -implicitDefEqProofs only [go_sem,Nat.reduceAdd,Nat.reduceEqDiff,Nat.reduceLeDiff]
 by_cases e2:((cut b).length:Int) > m
 ·simp -implicitDefEqProofs only [go_sem,e2,decide_true]
  exact Zd rfl (h1 (.inr (.inl (by omega))))
 simp -implicitDefEqProofs only [go_sem,Nat.reduceAdd,Nat.reduceLT,Int.reduceToNat,Int.reduceLT,Int.reduceLE,Int.reduceAdd,Int.reduceNeg,e2,decide_false]
 refine Zbf (by omega) ?_
 simp -implicitDefEqProofs only [go_sem,Nat.reduceAdd,Nat.reduceEqDiff,Nat.reduceLeDiff]
 by_cases e3:((cut c).length:Int) > m
 ·simp -implicitDefEqProofs only [go_sem,e3,decide_true]
  exact Zd rfl (h1 (.inr (.inr (by omega))))
 simp -implicitDefEqProofs only [go_sem,Int.reduceLT,Int.reduceLE,Int.reduceAdd,Int.reduceNeg,e3,decide_false]
 exact Zd rfl (h0 (by omega) (by omega) (by omega))
end Go.Proofs.Tryz.PMT
namespace Go.Proofs.Tryz.PMT
open Go Go.Proofs.PM Go.Proofs.PL Go.Proofs.Tryz
set_option maxRecDepth 4000
end Go.Proofs.Tryz.PMT
namespace Go.Proofs.Tryz.PMT
open Go Go.Proofs.PM Go.Proofs.PL Go.Proofs.Tryz
set_option maxRecDepth 4000
end Go.Proofs.Tryz.PMT
namespace Go.Proofs.PL
def adc (a b:List F):List F:=cut (bth (fun x y=>x + y) a b)
def sbc (a b:List F):List F:=cut (bth (fun x y=>x - y) a b)
def shf (z:F) (a:List F):List F:=cut (shS z (cut a) (cut a).length).1
theorem Zur (a b:List F):(adc a b).length ≤ max a.length b.length:=Nat.le_trans (Zbc _) (Nat.le_of_eq (Zhn ..))
theorem Zwp (a b:List F):(sbc a b).length ≤ max a.length b.length:=Nat.le_trans (Zbc _) (Nat.le_of_eq (Zhn ..))
theorem Z10 (z:F) (a:List F):(shf z a).length ≤ a.length:=Nat.le_trans (Zbc _) (by rw [Zo7]; exact Zbc a)
theorem Zwr (a b:List F) (k:Nat):(sbc a b).getD k 0 = a.getD k 0 - b.getD k 0:=by rw [sbc,Zbj,Z27]
theorem Z3f (z:F) (a:List F) (k:Nat):(shf z a).getD k 0 = a.getD k 0 * z ^ k:=by
 rw [shf,Zbj,Zr6 z (cut a) _ (Nat.le_refl _),Zbj]
 by_cases h:k < (cut a).length
 ·rw [if_pos h]
 ·rw [if_neg h,← Zbj a k,Zbw (l:=cut a) (by omega),Zdy]
theorem Zy3 (z:F) (a b:List F):hor z (adc a b) = hor z a + hor z b:=Zp9 z a b
theorem Zt1 (z:F):∀ a:List F,hor z (a.map fun x=>0 - x) = 0 - hor z a
 | []=>by show (0:F) = 0 - 0; decide +kernel
 | x :: a=>by
  rw [List.map_cons,Zc3,Zc3,Zt1 z a]
  generalize hor z a = y
  grind
theorem Zxe:∀ (a:List F) (i:Nat),(a.map fun x=>0 - x).getD i 0 = 0 - a.getD i 0
 | [],i=>by simp only [List.map_nil,List.getD_nil]; decide +kernel
 | x :: a,0=>by simp only [List.map_cons,List.getD_cons_zero]
 | x :: a,i + 1=>by simp only [List.map_cons,List.getD_cons_succ]; exact Zxe a i
theorem Zwq (z:F) (a b:List F):hor z (sbc a b) = hor z a - hor z b:=by
 rw [Zd1 z (sbc a b) (addl a (b.map fun x=>0 - x)) (fun i=>by rw [Zwr,Zc5,Zxe]; generalize a.getD i 0 = p; generalize b.getD i 0 = q; grind),Zmb,Zt1]
 generalize hor z a = p
 generalize hor z b = q
 grind
theorem Zth (z:F) (n:Nat):z ^ (n + 1) = z ^ n * z:=by grind
theorem Z13 (v w c z:F):v * (c * (w * z)) = v * (c * z * w):=by grind
theorem Zwx (y w z x c:F):c * (y + w * (z * x)) = y * (c * 1) + (c * z * w) * x:=by grind
theorem Zx0 (x z:F):∀ (a b:List F) (c:F),(∀ i,b.getD i 0 = a.getD i 0 * (c * z ^ i))→hor x b = c * hor (z * x) a
 | [],b,c,h=>by
  have h0:∀ i,b.getD i 0 = ([]:List F).getD i 0:=fun i=>by rw [h i,List.getD_nil,Zdy]
  rw [Zd1 x b [] h0]
  show (0:F) = c * 0
  rw [Zgs]
 | y :: a,[],c,h=>by
  have ih:=Zx0 x z a [] (c * z) fun i=>by
   have:=h (i + 1)
   rw [List.getD_cons_succ,List.getD_nil,Zth] at this
   rw [List.getD_nil,← Z13]
   exact this
  have h0:=h 0
  rw [List.getD_nil,List.getD_cons_zero,show z ^ 0 = (1:F) from by grind] at h0
  rw [Zc3]
  show (0:F) = _
  have ih':(0:F) = c * z * hor (z * x) a:=ih
  generalize hor (z * x) a = w at *
  rw [Zwx,← h0,← ih',Zdy]
  exact zz.symm
 | y :: a,b0 :: b,c,h=>by
  have ih:=Zx0 x z a b (c * z) fun i=>by
   have:=h (i + 1)
   rw [List.getD_cons_succ,List.getD_cons_succ,Zth] at this
   rw [← Z13]
   exact this
  have h0:=h 0
  rw [List.getD_cons_zero,List.getD_cons_zero,show z ^ 0 = (1:F) from by grind] at h0
  rw [Zc3,Zc3,ih,h0]
  exact (Zwx ..).symm
theorem Z3e (x z:F) (a:List F):hor x (shf z a) = hor (z * x) a:=by
 rw [Zx0 x z a (shf z a) 1 fun i=>by rw [Z3f]; generalize z ^ i = w; generalize a.getD i 0 = v; grind]
 generalize hor (z * x) a = w
 grind
def gtL (z:F) (a b c:List F):Nat→List F
 | 0=>pm a b
 | 1=>a
 | 2=>b
 | 3=>c
 | 4=>[1]
 | 5=>sbc (pm a a) a
 | 6=>sbc (pm (pm (pm a a) (pm a a)) a) c
 | 7=>sbc (adc a b) (shf z a)
 | _=>[]
def gtS (z:F) (q:Nat→List F) (a b c p:List F):Nat→List F
 | 0=>cut p
 | i + 1=>adc (gtS z q a b c p i) (pm (q i) (gtL z a b c i))
theorem Zn9 {a b:List F} {n m:Nat} (ha:a.length ≤ n) (hb:b.length ≤ m):(pm a b).length ≤ n + m:=by
 have:=pm_le a b
 omega
theorem Zx5 {z:F} {a b c:List F} {m:Nat} (ha:a.length ≤ m) (hb:b.length ≤ m) (hc:c.length ≤ m) (i:Nat):(gtL z a b c i).length ≤ 5 * m + 1:=by
 have h2:=Zn9 ha ha
 have h4:=Zn9 h2 h2
 have h5:=Zn9 h4 ha
 match i with
 | 0=>exact Nat.le_trans (Zn9 ha hb) (by omega)
 | 1=>show a.length ≤ _; omega
 | 2=>show b.length ≤ _; omega
 | 3=>show c.length ≤ _; omega
 | 4=>show 1 ≤ _; omega
 | 5=>exact Nat.le_trans (Zwp ..) (by omega)
 | 6=>exact Nat.le_trans (Zwp ..) (by omega)
 | 7 =>
  have h1:=Zur a b
  have h3:=Z10 z a
  exact Nat.le_trans (Zwp ..) (by omega)
 | i + 8=>exact Nat.zero_le _
theorem Zon {z:F} {q:Nat→List F} {a b c p:List F} {m k:Nat} (ha:a.length ≤ m) (hb:b.length ≤ m) (hc:c.length ≤ m) (hp:p.length ≤ k) (hq:∀ i,(q i).length ≤ k):∀ i,(gtS z q a b c p i).length ≤ k + (5 * m + 1)
 | 0=>Nat.le_trans (Zbc _) (by omega)
 | i + 1=>by
  have h1:=Zon (z:=z) ha hb hc hp hq i
  have h2:=Zn9 (hq i) (Zx5 (z:=z) ha hb hc i)
  exact Nat.le_trans (Zur ..) (by omega)
theorem Z47 (x z:F) (q:Nat→List F) (a b c p:List F):hor x (gtS z q a b c p 8) = hor x p + gval (fun i=>hor x (q i)) (hor x a) (hor x b) (hor x c) (hor (z * x) a):=by
 have h1:hor x [(1:F)] = 1:=by rw [Zc3]; show (1:F) + 0 * x = 1; rw [Zdy]; exact Zeu 1
 simp only [gtS,Zy3,Ztk,gtL,Zwq,Z3e,h1,gval,dotS,gvL,List.getD_cons_zero,List.getD_cons_succ]
 rw [Zd1 x (cut p) p (Zbj p)]
 generalize hor (z * x) a = n
 generalize hor x p = p
 generalize hor x a = a
 generalize hor x b = b
 generalize hor x c = c
 generalize hor x (q 0) = q0
 generalize hor x (q 1) = q1
 generalize hor x (q 2) = q2
 generalize hor x (q 3) = q3
 generalize hor x (q 4) = q4
 generalize hor x (q 5) = q5
 generalize hor x (q 6) = q6
 generalize hor x (q 7) = q7
 generalize q0 * (a * b) = u0
 generalize q1 * a = u1
 generalize q2 * b = u2
 generalize q3 * c = u3
 generalize q4 * 1 = u4
 generalize q5 * (a * a - a) = u5
 generalize q6 * (a * a * (a * a) * a - c) = u6
 generalize q7 * (a + b - n) = u7
 grind
end Go.Proofs.PL
namespace Go.Proofs.Tryz.PMT
open Go Go.Proofs.PM Go.Proofs.PL Go.Proofs.Tryz
variable {K:PV→List Ob→Prop}
set_option maxRecDepth 4000
theorem Zvo {a b:List F} (ha:a.length ≤ 1000000) (hb:b.length ≤ 1000000) (hK:K (.osl 0 [] 0 (adc a b).length) [.row 25 (.arr 4 .one) (ffs (adc a b))]):PSpec prog 82 [.vsl false (.arr 4 .one) (ffs a),.vsl false (.arr 4 .one) (ffs b)] [] K:=Zlc ha hb hK
theorem Zlb {a b:List F} (ha:a.length ≤ 1000000) (hb:b.length ≤ 1000000) (hK:K (.osl 0 [] 0 (sbc a b).length) [.row 25 (.arr 4 .one) (ffs (sbc a b))]):PSpec prog 93 [.vsl false (.arr 4 .one) (ffs a),.vsl false (.arr 4 .one) (ffs b)] [] K:=Zvp ha hb hK
theorem Zvn {l:List F} {z:F} (hl:l.length ≤ 1000000) (hK:K (.osl 0 [] 0 (shf z l).length) [.row 25 (.arr 4 .one) (ffs (shf z l))]):PSpec prog 94 [.vsl false (.arr 4 .one) (ffs l),ff z] [] K:=Zrb hl hK
theorem Zhg {a b:List F} (ha:a.length ≤ 1000000) (hb:b.length ≤ 1000000) (hK:K (.osl 0 [] 0 (adc a b).length) [.row 25 (.arr 4 .one) (ffs (adc a b))]):PSpec prog 38 [.vsl false (.arr 4 .one) (ffs a),.vsl false (.arr 4 .one) (ffs b)] [] K:=Zxr ha hb hK
theorem Zki {a b:List F} (ha:a.length ≤ 1000000) (hb:b.length ≤ 1000000) (hK:K (.osl 0 [] 0 (pm a b).length) [.row 25 (.arr 4 .one) (ffs (pm a b))]):PSpec prog 39 [.vsl false (.arr 4 .one) (ffs a),.vsl false (.arr 4 .one) (ffs b)] [] K:=by
 refine Zxp ha hb ?_
 rw [r12_pm]; exact hK
theorem Zcu (z:F) (q:Nat→List F) (a b c p:List F) (i:Nat) (h1:(gtS z q a b c p i).length ≤ 1000000) (h2:(pm (q i) (gtL z a b c i)).length ≤ 1000000) (hK:K (.osl 0 [] 0 (gtS z q a b c p (i + 1)).length) [.row 25 (.arr 4 .one) (ffs (gtS z q a b c p (i + 1)))]) :
  PSpec prog 82 [.vsl false (.arr 4 .one) (ffs (gtS z q a b c p i)),.vsl false (.arr 4 .one) (ffs (pm (q i) (gtL z a b c i)))] [] K:=Zlc h1 h2 hK
end Go.Proofs.Tryz.PMT
namespace Go.Proofs.PM
open Go Go.Proofs.PL
theorem Zul {ρ:Nat→Option Nat} {os:Nat→Option Ob} {j m:Nat} {e':TypeId} {l:List F} (hj:ρ j = none) (h3:os j = some (.row e' (.arr 4 .one) (ffs l))) (hm:m = l.length):cnv ρ false os 2 (.osl j [] 0 m) = .vsl false (.arr 4 .one) (ffs l):=by
 have e1:(Ob.row e' (.arr 4 .one) (ffs l)).sh.offs [] = some (0,.arr (ffs l).length (.arr 4 .one)):=rfl
 have e2:(Ob.row e' (.arr 4 .one) (ffs l)).con.get [] = some (.agg (ffs l)):=rfl
 show cnvW ρ false os (cnv ρ false os 1) (.osl j [] 0 m) = _
 simp only [cnvW,hj,h3,e1,e2,List.drop_zero,Zb9,hm,List.take_length]
 rw [Zht fun p hp=>Zbg (plainL_iff.1 Zs p hp)]
theorem Zp6 {ρ:Nat→Option Nat} {os:Nat→Option Ob} {l:List F}:cnv ρ false os 2 (.vsl false (.arr 4 .one) (ffs l)) = .vsl false (.arr 4 .one) (ffs l):=by
 show cnvW ρ false os (cnv ρ false os 1) _ = _
 rw [Zh,Zb Zs]; rfl
theorem Z1c {ρ:Nat→Option Nat} {os:Nat→Cel} {id j m:Nat} {e e':TypeId} {a l:List F} (h1:ρ id = none) (hj:ρ j = none) (h2:os id = .ob (.row e .one [.osl j [] 0 m,.osl j [] 0 m,.vsl false (.arr 4 .one) (ffs a)])) (h3:os j = .ob (.row e' (.arr 4 .one) (ffs l))) (hm:m = l.length) :
  cnv ρ false (fun i=>(os i).get) 3 (.osl id [] 0 3) = .vsl false .one [.vsl false (.arr 4 .one) (ffs l),.vsl false (.arr 4 .one) (ffs l),.vsl false (.arr 4 .one) (ffs a)]:=by
 have g2:(os id).get = some (.row e .one [.osl j [] 0 m,.osl j [] 0 m,.vsl false (.arr 4 .one) (ffs a)]):=by rw [h2]; rfl
 have g3:(fun i=>(os i).get) j = some (.row e' (.arr 4 .one) (ffs l)):=by show (os j).get = _; rw [h3]; rfl
 have e1:(Ob.row e .one [.osl j [] 0 m,.osl j [] 0 m,.vsl false (.arr 4 .one) (ffs a)]).sh.offs [] = some (0,.arr 3 .one):=rfl
 have e2:(Ob.row e .one [.osl j [] 0 m,.osl j [] 0 m,.vsl false (.arr 4 .one) (ffs a)]).con.get [] = some (.agg [.osl j [] 0 m,.osl j [] 0 m,.vsl false (.arr 4 .one) (ffs a)]):=rfl
 show cnvW ρ false (fun i=>(os i).get) (cnv ρ false (fun i=>(os i).get) 2) (.osl id [] 0 3) = _
 simp only [cnvW,h1,g2,e1,e2,List.drop_zero,List.take_succ_cons,List.take_nil,List.map_cons,List.map_nil,Zul (os:=fun i=>(os i).get) hj g3 hm,Zp6]
theorem Zkp {ρ:Nat→Option Nat} {os:Nat→Cel} {id j m:Nat} {e e':TypeId} {a l:List F} (h1:ρ id = none) (hj:ρ j = none) (h2:os id = .ob (.row e .one [.vsl false (.arr 4 .one) (ffs a),.osl j [] 0 m])) (h3:os j = .ob (.row e' (.arr 4 .one) (ffs l))) (hm:m = l.length) :
  cnv ρ false (fun i=>(os i).get) 3 (.osl id [] 0 2) = .vsl false .one [.vsl false (.arr 4 .one) (ffs a),.vsl false (.arr 4 .one) (ffs l)]:=by
 have g2:(os id).get = some (.row e .one [.vsl false (.arr 4 .one) (ffs a),.osl j [] 0 m]):=by rw [h2]; rfl
 have g3:(fun i=>(os i).get) j = some (.row e' (.arr 4 .one) (ffs l)):=by show (os j).get = _; rw [h3]; rfl
 have e1:(Ob.row e .one [.vsl false (.arr 4 .one) (ffs a),.osl j [] 0 m]).sh.offs [] = some (0,.arr 2 .one):=rfl
 have e2:(Ob.row e .one [.vsl false (.arr 4 .one) (ffs a),.osl j [] 0 m]).con.get [] = some (.agg [.vsl false (.arr 4 .one) (ffs a),.osl j [] 0 m]):=rfl
 show cnvW ρ false (fun i=>(os i).get) (cnv ρ false (fun i=>(os i).get) 2) (.osl id [] 0 2) = _
 simp only [cnvW,h1,g2,e1,e2,List.drop_zero,List.take_succ_cons,List.take_nil,List.map_cons,List.map_nil,Zul (os:=fun i=>(os i).get) hj g3 hm,Zp6]
theorem Zsu {ρ:Nat→Option Nat} {os:Nat→Cel} {id:Nat} {e:TypeId} {a l:List F} (h1:ρ id = none) (h2:os id = .ob (.row e .one [.vsl false (.arr 4 .one) (ffs a),.vsl false (.arr 4 .one) (ffs l)])) :
  cnv ρ false (fun i=>(os i).get) 3 (.osl id [] 0 2) = .vsl false .one [.vsl false (.arr 4 .one) (ffs a),.vsl false (.arr 4 .one) (ffs l)]:=by
 have g2:(os id).get = some (.row e .one [.vsl false (.arr 4 .one) (ffs a),.vsl false (.arr 4 .one) (ffs l)]):=by rw [h2]; rfl
 have e1:(Ob.row e .one [.vsl false (.arr 4 .one) (ffs a),.vsl false (.arr 4 .one) (ffs l)]).sh.offs [] = some (0,.arr 2 .one):=rfl
 have e2:(Ob.row e .one [.vsl false (.arr 4 .one) (ffs a),.vsl false (.arr 4 .one) (ffs l)]).con.get [] = some (.agg [.vsl false (.arr 4 .one) (ffs a),.vsl false (.arr 4 .one) (ffs l)]):=rfl
 show cnvW ρ false (fun i=>(os i).get) (cnv ρ false (fun i=>(os i).get) 2) (.osl id [] 0 2) = _
 simp only [cnvW,h1,g2,e1,e2,List.drop_zero,List.take_succ_cons,List.take_nil,List.map_cons,List.map_nil,Zp6]
end Go.Proofs.PM
