/- Contracts of intaglioref25.coset, Scalars, quot.Left, intaglioref25.Left. No conditions beyond what each names. -/
import Derived.Test.YtjibihaamkplbaaGreatDoorN20
import Derived.Test.YtjibihaamkplbaaGreatDoorN26
import Derived.Test.YtjibihaamkplbaaGreatDoorN25
set_option linter.all false
namespace Go.Proofs.Tryz.PMT
open Go Go.Proofs.PM Go.Proofs.PL Go.Proofs.Tryz
variable {K:PV→List Ob→Prop}
set_option maxRecDepth 4000
def csF (x:F):Nat→F
 | 0=>x
 | j + 1=>csF x j * of 7
theorem Zw9 {j:Nat} {x:F} (hj:j ≤ 100) (hK:K (ff (csF x j)) []):PSpec prog 70 [i64 j,ff x] [] K:=by
 refine Zi1 ?_
 simp only [qzS,qzN,qzG,qzT,qzI,qzF,qzZ,Zcj]
 simp -implicitDefEqProofs only [go_sem,Nat.reduceAdd,Nat.reduceSub,Nat.reduceEqDiff,Zq]
 refine Zv (ι:={ i:Nat // i ≤ j }) [0,5,6,7,8,9,10,11] (fun i=>[(0,i64 ((j - i.1:Nat):Int)),(3,.ptr 0 []),(4,.ptr 1 [])])
  (fun i=>[(0,.ob (.var (.arr 4 .one) (ff (csF x i.1)))),(1,.ob (.var (.arr 4 .one) (ff 0)))]) 2 (fun i=>j - i.1) ⟨0,Nat.zero_le _⟩ ?_ ?_
 ·rw [Zg]
  refine Zc [(0,0),(1,1)] rfl rfl rfl ?_ ?_
  ·simp -implicitDefEqProofs only [go_sem,Nat.reduceEqDiff,Nat.reduceLT,csF]
  ·simp -implicitDefEqProofs only [go_sem,Nat.reduceEqDiff,Nat.sub_zero]
 intro ⟨i,hi⟩ G hG
 simp -implicitDefEqProofs only [go_sem]
 refine Zi (fun h=>?_) (fun h=>?_)
 ·simp only [decide_eq_true_eq] at h
  have cw:IntKind.i64.wrap (((j - i:Nat):Int) - 1) = ((j - (i + 1):Nat):Int):=by rw [wrs (by omega) (by omega)]; omega
  simp -implicitDefEqProofs only [go_sem,Nat.reduceAdd,Nat.reduceMul,Nat.reduceEqDiff,Nat.reduceLT]
  refine Zbi (Zs rfl) ?_
  simp -implicitDefEqProofs only [go_sem,Nat.reduceAdd,Nat.reduceMul,Nat.reduceLT]
  refine Zj5 ?_
  simp -implicitDefEqProofs only [go_sem,Nat.reduceAdd,Nat.reduceMul,Nat.reduceEqDiff,cw]
  refine hG _ ⟨i + 1,by omega⟩ (by simp only; omega) ?_
  rw [Zg]
  refine Zc [(0,0),(1,1)] rfl rfl rfl ?_ ?_
  ·simp -implicitDefEqProofs only [go_sem,Nat.reduceEqDiff,Nat.reduceLT,csF]
  ·simp -implicitDefEqProofs only [go_sem,Nat.reduceEqDiff]
 ·simp only [decide_eq_false_iff_not] at h
  obtain rfl:i = j:=by omega
  simp -implicitDefEqProofs only [go_sem,Nat.reduceEqDiff]
  exact Zb rfl hK
def hwF (st:F) (t:Nat→F):Nat→F
 | 0=>0
 | i + 1=>hwF st t i * st + t (4 - i)
theorem gq {A:List F} {a b c n:F}:gval (fun i=>((A.drop 9).take 8).getD i 0) a b c n = gval (fun i=>A.getD (9 + i) 0) a b c n :=
 Zsl 8 (fun i hi=>by rw [Zne hi,Z2a]) fun _ _=>rfl
set_option maxHeartbeats 4000000 in
theorem Zw5 {L:Nat} {b g a z v u p:F} {A O:List F} (hL:1 ≤ L) (hL6:L ≤ 6) (hA:A.length = 20) (hO:O.length = 2) (hz0:z ^ 2 ^ L - 1 = 0→K (.tup [ff 0,i64 15]) [])
  (hK:z ^ 2 ^ L - 1 ≠ 0→K (.tup [ff (leftF L b g a z (fun i=>A.getD i 0) (fun i=>O.getD i 0) p),i64 0]) []) :
  PSpec prog 15 [i64 L,.agg [ff b,ff g,ff a,ff z,ff v,ff u],.agg (ffs A),.agg (ffs O),ff p] [] K:=by
 refine Zup ?_
 simp only [qzS,qzN,qzG,qzT,qzI,qzF,qzZ,Zj0]
 have h1:¬ (L:Int) < 1:=by omega
 have h6:¬ (L:Int) > 6:=by omega
 have ga:∀ k,k < 20→(ffs A).getD k .any = ff (A.getD k 0):=fun k hk=>Zy (by omega)
 have go:∀ k,k < 2→(ffs O).getD k .any = ff (O.getD k 0):=fun k hk=>Zy (by omega)
 have ga0:=ga 0 (by decide)
 have ga1:=ga 1 (by decide)
 have ga2:=ga 2 (by decide)
 have ga3:=ga 3 (by decide)
 have ga4:=ga 4 (by decide)
 have ga5:=ga 5 (by decide)
 have ga6:=ga 6 (by decide)
 have ga7:=ga 7 (by decide)
 have ga8:=ga 8 (by decide)
 have ga17:=ga 17 (by decide)
 have ga18:=ga 18 (by decide)
 have ga19:=ga 19 (by decide)
 have go0:=go 0 (by decide)
 have go1:=go 1 (by decide)
 obtain ⟨l,hl⟩:∃ l,lagL L 0 z = l:=⟨_,rfl⟩
 obtain ⟨vv,hv⟩:∃ vv,gval (fun i=>A.getD (9 + i) 0) (A.getD 0 0) (A.getD 1 0) (A.getD 2 0) (O.getD 0 0) = vv:=⟨_,rfl⟩
 obtain ⟨zz,hzz⟩:∃ zz,z ^ 2 ^ L - 1 = zz:=⟨_,rfl⟩
 obtain ⟨o7,ho7⟩:∃ o7,of 7 = o7:=⟨_,rfl⟩
 obtain ⟨st,hst⟩:∃ st,(zz + 1) * z = st:=⟨_,rfl⟩
 obtain ⟨oV,hoV⟩:∃ oV,vv + p + a * ((A.getD 3 0 * (A.getD 0 0 + g + b * z) * (A.getD 1 0 + g + b * (z * o7)) * (A.getD 2 0 + g + b * (z * o7 * o7)) - O.getD 1 0 * (A.getD 0 0 + g + b * A.getD 17 0) * (A.getD 1 0 + g + b * A.getD 18 0) * (A.getD 2 0 + g + b * A.getD 19 0)) + a * (l * (A.getD 3 0 - 1))) = oV:=⟨_,rfl⟩
 have hfin:leftF L b g a z (fun i=>A.getD i 0) (fun i=>O.getD i 0) p = oV - zz * hwF st (fun i=>A.getD (4 + i) 0) 5:=by
  rw [← hoV]
  simp only [leftF,hl,hv,ho7]
  rw [Z61,hzz,hst]
  exact (Z39 vv p o7 zz a b g z l _ _ _ _ _ _ _ _ _ _ _ _ _ st hst.symm).symm
 rw [hzz,hfin] at hK
 rw [hzz] at hz0
 clear hfin
 simp -implicitDefEqProofs only [go_sem,Nat.reduceAdd,Nat.reduceSub,Nat.reduceEqDiff,Zbz,hA,hO,Zq]
 by_cases hz:zz = 0
 ·refine Ziu (ι:=Empty) (fun i=>nomatch i) (fun _=>0) (fun i=>nomatch i) fun G hG=>?_
  simp -implicitDefEqProofs only [go_sem,Nat.reduceEqDiff,Nat.reduceLT,h1,h6,decide_false]
  refine Zw7 (by omega) ?_
  rw [hzz]
  simp -implicitDefEqProofs only [go_sem,Nat.reduceAdd,Nat.reduceEqDiff,Nat.reduceLT,ff_beq,hz,decide_true]
  exact Zb rfl (hz0 hz)
 have hK:=hK hz
 clear hz0
 refine Ziu (ι:={ i:Nat // i ≤ 5 }) (fun i=>⟨[.any,.any,.any,.any,.any,.any,.any,.ptr 0 [],.any,.any,.ptr 1 [],i64 0,.ptr 2 [],.any,.ptr 3 [],.any,.any,.any,.any,.any,.any,.any,.any,.ptr 4 [],.ptr 5 [],i64 ((5 - i.1:Nat):Int),.any,.any,.any,.any,.any,.any,.any,.any,.any,.any,.any,.any,.any,.any,.any,.any,.any,.any,.any,.any,.any,.any,.any,.any,.any,.any,.any,.any,.any,.any,.any,.any,.any,.any,.any,.any,.any,.any,.any,.any,.any,.any,.any,.any,.any,.any,.any,.any,.any,.any,.any,.any,.any,.any,.any,.any,.any,.any,.any,.any,.any,.any,.any,.any,.any,.any,.any,.any,.any,.any,.any,.any,.any,.any,.any,.any,.any,.any,.any,.any,.any,.any,.any,.any,.any,.any,.any,.any,.any,.any,.any,.any,.any,.any,.any,.any,.any,.any,.any,.any,.any,.any,.any,.any,.any,.any,.any,.any,.any,.any,.any,.any,.any,.any,.any,.any,.any,.any,.any,.any],osB [(0,.ob (.var (.arr 20 (.arr 4 .one)) (.agg (ffs A)))),(1,.ob (.var (.arr 4 .one) (ff 0))),(2,.ob (.var (.arr 4 .one) (ff zz))),(3,.ob (.var (.arr 4 .one) (ff oV))),(4,.ob (.var (.arr 4 .one) (ff st))),(5,.ob (.var (.arr 4 .one) (ff (hwF st (fun i=>A.getD (4 + i) 0) i.1))))],6,0⟩) (fun i=>5 - i.1) ?_ ?_
 ·intro ⟨i,hi⟩ G hG
  dsimp only at hi hG
  by_cases he:i = 5
  ·subst he
   have cw:IntKind.i64.wrap (((5 - 5:Nat):Int) - 1) = -1:=by decide
   simp -implicitDefEqProofs only [go_sem,Nat.reduceAdd,Nat.reduceMul,Nat.reduceSub,Nat.reduceEqDiff,Nat.reduceLT,Int.reduceLE,Int.reduceSub,Int.reduceNeg,Int.reduceGE]
   refine Z4 ?_
   simp -implicitDefEqProofs only [go_sem,Nat.reduceAdd,Nat.reduceMul,Nat.reduceLT,Int.reduceNeg]
   refine Zfa ?_
   simp -implicitDefEqProofs only [go_sem,Nat.reduceAdd,Nat.reduceMul,Nat.reduceEqDiff,Int.reduceNeg]
   exact Zb rfl hK
  ·have cw:IntKind.i64.wrap (((5 - i:Nat):Int) - 1) = ((4 - i:Nat):Int):=by rw [wrs (by omega) (by omega)]; omega
   have hge:((4 - i:Nat):Int) ≥ 0:=by omega
   have cw2:IntKind.i64.wrap (4 + ((4 - i:Nat):Int)) = ((4 + (4 - i):Nat):Int):=by rw [wrs (by omega) (by omega)]; omega
   simp -implicitDefEqProofs only [go_sem,Nat.reduceAdd,Nat.reduceMul,Nat.reduceEqDiff,Nat.reduceLT,cw,cw2,hge,decide_true,ga (4 + (4 - i)) (by omega)]
   repeat (with_reducible refine And.intro (by first | omega | decide) ?_)
   refine Z4 ?_
   simp -implicitDefEqProofs only [go_sem,Nat.reduceAdd,Nat.reduceMul,Nat.reduceLT]
   refine Zbm ?_
   simp -implicitDefEqProofs only [go_sem,Nat.reduceAdd,Nat.reduceMul,Nat.reduceEqDiff]
   refine hG _ ⟨i + 1,by omega⟩ (by simp only; omega) ?_
   refine Zc [(0,0),(1,1),(2,2),(3,3),(4,4),(5,5)] rfl rfl rfl ?_ ?_
   ·simp -implicitDefEqProofs only [go_sem,Nat.reduceEqDiff,Nat.reduceLT,hwF,Zbz,hA]
   ·simp -implicitDefEqProofs only [go_sem,Nat.reduceEqDiff,show 5 - (i + 1) = 4 - i by omega]
 intro G hG
 simp -implicitDefEqProofs only [go_sem,Nat.reduceEqDiff,Nat.reduceLT,h1,h6,decide_false]
 refine Zw7 (by omega) ?_
 rw [hzz]
 simp -implicitDefEqProofs only [go_sem,Nat.reduceAdd,Nat.reduceMul,Nat.reduceSub,Nat.reduceEqDiff,Nat.reduceLT,Nat.reduceLeDiff,Int.reduceToNat,Int.reduceLT,Int.reduceLE,ga0,ga1,ga2,go0,ff_beq,hz,decide_false,Zeu,Zbl]
 repeat (with_reducible refine And.intro (by first | omega | decide) ?_)
 refine ⟨⟨20,rfl⟩,?_⟩
 refine Zvm (by rw [List.length_take,List.length_drop,hA]; rfl) ?_
 rw [gq,hv]
 simp -implicitDefEqProofs only [go_sem,Nat.reduceAdd,Nat.reduceMul,Nat.reduceLT]
 refine Zbm ?_
 simp -implicitDefEqProofs only [go_sem,Nat.reduceAdd,Nat.reduceMul,Nat.reduceEqDiff,Int.reduceToNat,Int.reduceLT,Int.reduceLE,ga3,go1]
 refine Zl 4 ?_
 simp -implicitDefEqProofs only [go_sem,Nat.reduceAdd,Nat.reduceMul,Nat.reduceEqDiff,Nat.reduceLT,Int.reduceLT,Int.reduceLE,Int.reduceAdd,Int.reduceNeg,ga0]
 refine Zbm ?_
 simp -implicitDefEqProofs only [go_sem,Nat.reduceAdd,Nat.reduceMul,Nat.reduceEqDiff,Nat.reduceLT]
 refine Z4 ?_
 simp -implicitDefEqProofs only [go_sem,Nat.reduceAdd,Nat.reduceMul,Nat.reduceLT]
 refine Zbm ?_
 simp -implicitDefEqProofs only [go_sem,Nat.reduceAdd,Nat.reduceMul,Nat.reduceLT]
 refine Z4 ?_
 simp -implicitDefEqProofs only [go_sem,Nat.reduceAdd,Nat.reduceMul,Nat.reduceEqDiff,Nat.reduceLT,Int.reduceToNat,Int.reduceLT,Int.reduceLE,Int.reduceAdd,Int.reduceNeg,ga17]
 refine Z4 ?_
 simp -implicitDefEqProofs only [go_sem,Nat.reduceAdd,Nat.reduceMul,Nat.reduceLT]
 refine Zbm ?_
 simp -implicitDefEqProofs only [go_sem,Nat.reduceAdd,Nat.reduceMul,Nat.reduceLT]
 refine Z4 ?_
 simp -implicitDefEqProofs only [go_sem,Nat.reduceAdd,Nat.reduceMul,Nat.reduceEqDiff,Nat.reduceLT]
 refine Zcc (Zs rfl) ?_
 simp -implicitDefEqProofs only [go_sem,Nat.reduceAdd,Nat.reduceMul,Nat.reduceLT,ho7]
 refine Z4 ?_
 simp -implicitDefEqProofs only [go_sem,Nat.reduceAdd,Nat.reduceMul,Nat.reduceEqDiff,Nat.reduceLT,Int.reduceToNat,Int.reduceLT,Int.reduceLE,Int.reduceAdd,Int.reduceNeg,ga1]
 refine Zbm ?_
 simp -implicitDefEqProofs only [go_sem,Nat.reduceAdd,Nat.reduceMul,Nat.reduceEqDiff,Nat.reduceLT]
 refine Z4 ?_
 simp -implicitDefEqProofs only [go_sem,Nat.reduceAdd,Nat.reduceMul,Nat.reduceLT]
 refine Zbm ?_
 simp -implicitDefEqProofs only [go_sem,Nat.reduceAdd,Nat.reduceMul,Nat.reduceLT]
 refine Z4 ?_
 simp -implicitDefEqProofs only [go_sem,Nat.reduceAdd,Nat.reduceMul,Nat.reduceEqDiff,Nat.reduceLT,Int.reduceToNat,Int.reduceLT,Int.reduceLE,Int.reduceAdd,Int.reduceNeg,ga18]
 refine Z4 ?_
 simp -implicitDefEqProofs only [go_sem,Nat.reduceAdd,Nat.reduceMul,Nat.reduceLT]
 refine Zbm ?_
 simp -implicitDefEqProofs only [go_sem,Nat.reduceAdd,Nat.reduceMul,Nat.reduceLT]
 refine Z4 ?_
 simp -implicitDefEqProofs only [go_sem,Nat.reduceAdd,Nat.reduceMul,Nat.reduceEqDiff,Nat.reduceLT]
 refine Zcc (Zs rfl) ?_
 simp -implicitDefEqProofs only [go_sem,Nat.reduceAdd,Nat.reduceMul,Nat.reduceLT,ho7]
 refine Z4 ?_
 simp -implicitDefEqProofs only [go_sem,Nat.reduceAdd,Nat.reduceMul,Nat.reduceEqDiff,Nat.reduceLT,Int.reduceToNat,Int.reduceLT,Int.reduceLE,Int.reduceAdd,Int.reduceNeg,ga2]
 refine Zbm ?_
 simp -implicitDefEqProofs only [go_sem,Nat.reduceAdd,Nat.reduceMul,Nat.reduceEqDiff,Nat.reduceLT]
 refine Z4 ?_
 simp -implicitDefEqProofs only [go_sem,Nat.reduceAdd,Nat.reduceMul,Nat.reduceLT]
 refine Zbm ?_
 simp -implicitDefEqProofs only [go_sem,Nat.reduceAdd,Nat.reduceMul,Nat.reduceLT]
 refine Z4 ?_
 simp -implicitDefEqProofs only [go_sem,Nat.reduceAdd,Nat.reduceMul,Nat.reduceEqDiff,Nat.reduceLT,Int.reduceToNat,Int.reduceLT,Int.reduceLE,Int.reduceAdd,Int.reduceNeg,ga19]
 refine Z4 ?_
 simp -implicitDefEqProofs only [go_sem,Nat.reduceAdd,Nat.reduceMul,Nat.reduceLT]
 refine Zbm ?_
 simp -implicitDefEqProofs only [go_sem,Nat.reduceAdd,Nat.reduceMul,Nat.reduceLT]
 refine Z4 ?_
 simp -implicitDefEqProofs only [go_sem,Nat.reduceAdd,Nat.reduceMul,Nat.reduceEqDiff,Nat.reduceLT]
 refine Zcc (Zs rfl) ?_
 simp -implicitDefEqProofs only [go_sem,Nat.reduceAdd,Nat.reduceMul,Nat.reduceLT,ho7]
 refine Z4 ?_
 simp -implicitDefEqProofs only [go_sem,Nat.reduceAdd,Nat.reduceMul,Nat.reduceEqDiff,Nat.reduceLT,Int.reduceLT,Int.reduceLE,Int.reduceAdd,Int.reduceNeg]
 refine Z8p (i:=0) (by omega) (Nat.two_pow_pos L) ?_
 rw [hl]
 simp -implicitDefEqProofs only [go_sem,Nat.reduceAdd,Nat.reduceMul,Nat.reduceEqDiff,Nat.reduceLT,Int.reduceToNat,Int.reduceLT,Int.reduceLE,ga3]
 refine Zcc (Zs rfl) ?_
 simp -implicitDefEqProofs only [go_sem,Nat.reduceAdd,Nat.reduceMul,Nat.reduceLT,Zew]
 refine Zfa ?_
 simp -implicitDefEqProofs only [go_sem,Nat.reduceAdd,Nat.reduceMul,Nat.reduceLT]
 refine Z4 ?_
 simp -implicitDefEqProofs only [go_sem,Nat.reduceAdd,Nat.reduceMul,Nat.reduceEqDiff,Nat.reduceLT]
 refine Zfa ?_
 simp -implicitDefEqProofs only [go_sem,Nat.reduceAdd,Nat.reduceMul,Nat.reduceLT]
 refine Z4 ?_
 simp -implicitDefEqProofs only [go_sem,Nat.reduceAdd,Nat.reduceMul,Nat.reduceLT]
 refine Zbm ?_
 simp -implicitDefEqProofs only [go_sem,Nat.reduceAdd,Nat.reduceMul,Nat.reduceLT]
 refine Z4 ?_
 simp -implicitDefEqProofs only [go_sem,Nat.reduceAdd,Nat.reduceMul,Nat.reduceLT]
 refine Zbm ?_
 rw [hoV]
 simp -implicitDefEqProofs only [go_sem,Nat.reduceAdd,Nat.reduceMul,Nat.reduceEqDiff,Nat.reduceLT]
 refine Zcc (Zs rfl) ?_
 simp -implicitDefEqProofs only [go_sem,Nat.reduceAdd,Nat.reduceMul,Nat.reduceLT,Zew]
 refine Zbm ?_
 simp -implicitDefEqProofs only [go_sem,Nat.reduceAdd,Nat.reduceMul,Nat.reduceLT]
 refine Z4 ?_
 rw [hst]
 simp -implicitDefEqProofs only [go_sem,Nat.reduceAdd,Nat.reduceMul,Nat.reduceEqDiff]
 refine Zve _ ?_ (Zqj (hG ⟨0,Nat.zero_le _⟩))
 refine Zc [(1,0),(4,1),(5,2),(230,3),(2472,4),(2504,5)] rfl rfl rfl ?_ ?_
 ·simp -implicitDefEqProofs only [go_sem,Nat.reduceEqDiff,Nat.reduceLT,Zbz,hA,hwF]
 ·simp -implicitDefEqProofs only [go_sem,Nat.reduceEqDiff,Nat.sub_zero]
end Go.Proofs.Tryz.PMT

namespace Go.Proofs.Tryz.PMT
open Go Go.Proofs.PM Go.Proofs.PL Go.Proofs.Tryz
variable {K:PV→List Ob→Prop}
set_option maxRecDepth 4000
theorem Zwn {e:TypeId} {s:Sh} {x y:F}:Ob.row e s [ff x,ff y] = .row e s (ffs [x,y]):=rfl
theorem Zyr:∀ j,csF 1 j = sv7 j
 | 0=>rfl
 | j + 1=>by show csF 1 j * of 7 = sv7 j * of 7; rw [Zyr j]
theorem Zmo {f:List F} {g b:F} (hf:f.length ≤ 1000000) (hK:K (.osl 0 [] 0 (sm3 f [0,b] [g]).length) [.row 28 (.arr 4 .one) (ffs (sm3 f [0,b] [g]))]):PSpec prog 17 [.vsl false (.arr 4 .one) (ffs f),.vsl false (.arr 4 .one) (ffs [g,b])] [] K:=by
 refine Zfi (b:=[g,b]) hf (show 2 ≤ 1000000 by decide) ?_
 rw [Z0x]; exact hK
theorem Zqp {f s g:List F} (hf:f.length ≤ 1000000) (hs:(adc s g).length ≤ 1000000) (hK:K (.osl 0 [] 0 (sm3 f s g).length) [.row 28 (.arr 4 .one) (ffs (sm3 f s g))]):PSpec prog 17 [.vsl false (.arr 4 .one) (ffs f),.vsl false (.arr 4 .one) (ffs (adc s g))] [] K:=by
 refine Zfi hf hs ?_
 rw [Zv5]; exact hK
theorem Zzv {f s g:List F} (hf:(adc f s).length ≤ 1000000) (hs:g.length ≤ 1000000) (hK:K (.osl 0 [] 0 (sm3 f s g).length) [.row 28 (.arr 4 .one) (ffs (sm3 f s g))]):PSpec prog 17 [.vsl false (.arr 4 .one) (ffs (adc f s)),.vsl false (.arr 4 .one) (ffs g)] [] K:=by
 refine Zfi hf hs ?_
 rw [← Z0y]; exact hK
theorem Zn9 (be ga:F) (z:List F) (w:Nat→List F) (j:Nat) (h1:(ovS be ga z w j).length ≤ 1000) (h2:(sm3 (w j) [0,be * sv7 j] [ga]).length ≤ 1000) (hK:K (.osl 0 [] 0 (ovS be ga z w (j + 1)).length) [.row 28 (.arr 4 .one) (ffs (ovS be ga z w (j + 1)))]) :
  PSpec prog 18 [.vsl false (.arr 4 .one) (ffs (ovS be ga z w j)),.vsl false (.arr 4 .one) (ffs (sm3 (w j) [0,be * sv7 j] [ga]))] [] K:=Zcb (by omega) (by omega) hK
theorem Zn7 (r be ga:F) (z:List F) (w s:Nat→List F) (j:Nat) (h1:(unS r be ga z w s j).length ≤ 1000) (h2:(sm3 (w j) (scc (s j) be) [ga]).length ≤ 1000) (hK:K (.osl 0 [] 0 (unS r be ga z w s (j + 1)).length) [.row 28 (.arr 4 .one) (ffs (unS r be ga z w s (j + 1)))]) :
  PSpec prog 18 [.vsl false (.arr 4 .one) (ffs (unS r be ga z w s j)),.vsl false (.arr 4 .one) (ffs (sm3 (w j) (scc (s j) be) [ga]))] [] K:=Zcb (by omega) (by omega) hK
theorem k_bgr {n:Nat} {z:List F} (h1:(l0L n).length ≤ 1000) (h2:(sbc z [1]).length ≤ 1000) (hK:K (.osl 0 [] 0 (bgL n z).length) [.row 28 (.arr 4 .one) (ffs (bgL n z))]) :
  PSpec prog 18 [.vsl false (.arr 4 .one) (ffs (l0L n)),.vsl false (.arr 4 .one) (ffs (sbc z [1]))] [] K:=Zcb (by omega) (by omega) hK
set_option maxHeartbeats 16000000 in
theorem Zmn {L:Nat} {q s v:Nat→List F} {a b c z p:List F} {be ga al ze vv uu:F} (hL1:1 ≤ L) (hL:L ≤ 6) (hq:∀ i,(q i).length ≤ 64) (hs:∀ i,(s i).length ≤ 18) (ha:a.length ≤ 18) (hb:b.length ≤ 18) (hc:c.length ≤ 18) (hz:z.length ≤ 20) (hp:p.length ≤ 64)
  (hbad:¬ (gOK L a b c p ∧ (cut z).length ≤ 2 ^ L + 3)→K (.tup [.osl 0 [] 0 0,i64 8]) [.row 28 (.arr 4 .one) []])
  (hK:gOK L a b c p ∧ (cut z).length ≤ 2 ^ L + 3→K (.tup [.osl 0 [] 0 (nuL L be ga al q s a b c z p).length,i64 0]) [.row 28 (.arr 4 .one) (ffs (nuL L be ga al q s a b c z p))]) :
  PSpec prog 22 [pA L q s v,.agg [vF false a,vF false b,vF false c],vF false z,vF false p,.agg [ff be,ff ga,ff al,ff ze,ff vv,ff uu]] [] K:=by
 have hG:=Zsh (z:=rt L) (q:=q) ha hb hc hp hq 8
 have hw:∀ j,(w3 a b c j).length ≤ 18:=fun j=>by
  match j with
  | 0=>exact ha
  | 1=>exact hb
  | j + 2=>exact hc
 have hO:=Zx3 (be:=be) (ga:=ga) (z:=z) (w:=w3 a b c) (m:=18) (k:=20) (by decide) hz hw
 have hU:=Zxu (r:=rt L) (be:=be) (ga:=ga) (z:=z) (w:=w3 a b c) (s:=s) (m:=18) (k:=20) (by decide) hz hw hs
 refine Zi3 ?_
 simp only [qzS,qzN,qzG,qzT,qzI,qzF,qzZ,Zcl,pA,vF]
 have hsh:=shl1 (show L < 63 by omega)
 have hn64:2 ^ L ≤ 64:=Nat.pow_le_pow_right (n:=2) (by decide) hL
 have hn0:=Nat.two_pow_pos L
 have hB:=Z20 (n:=2 ^ L) (k:=20) (by decide) hz
 have hl0:=Z1v (2 ^ L)
 simp only [nuL,nuG] at hK
 have cs0:csF 1 0 = sv7 0:=Zyr 0
 have cs1:csF 1 1 = sv7 1:=Zyr 1
 have cs2:csF 1 2 = sv7 2:=Zyr 2
 have hg:∀ {Q:Prop},gOK L a b c p ∧ Q→gOK L a b c p:=fun h=>h.1
 obtain ⟨n,hn⟩:∃ n,2 ^ L = n:=⟨_,rfl⟩
 rw [hn] at hbad hK hsh hn64 hB hl0 hn0
 have wn:IntKind.i64.wrap ((n:Int) + 3) = ((n + 3:Nat):Int):=by rw [wrs (by omega) (by omega)]; omega
 have lz:=Zbr z
 simp -implicitDefEqProofs only [go_sem,Nat.reduceAdd,Nat.reduceSub,Nat.reduceEqDiff,Nat.reduceLT,Zh,Za,Zf,Zw,Zk,Ze,Zx,Bool.false_and]
 refine Zzt (q:=q) (s:=s) (v:=v) (a:=a) (b:=b) (c:=c) (p:=p) hL1 hL hq ha hb hc hp (fun h=>?_) (fun h=>?_)
 ·simp -implicitDefEqProofs only [go_sem,Nat.reduceAdd,Nat.reduceEqDiff,Nat.reduceLT,Nat.reduceLeDiff,Int.reduceBNe,↓hsh]
  refine Zt [(5,0)] [.row 28 (.arr 4 .one) []] [.osl 0 [] 0 0,i64 8] rfl rfl ?_ ?_ (hbad fun h'=>h h'.1)
  ·simp -implicitDefEqProofs only [go_sem,Nat.reduceEqDiff,Nat.reduceLT]
  ·simp -implicitDefEqProofs only [go_sem]
 simp -implicitDefEqProofs only [go_sem,Nat.reduceAdd,Nat.reduceEqDiff,Nat.reduceLT,Nat.reduceLeDiff,Int.reduceBNe,↓hsh]
 refine Zbd (l:=z) (by omega) ?_
 by_cases hzn:((cut z).length:Int) > ((n + 3:Nat):Int)
 ·simp -implicitDefEqProofs only [go_sem,Nat.reduceAdd,Nat.reduceEqDiff,Nat.reduceLeDiff,wn,hzn,decide_true]
  refine Zt [(6,0)] [.row 28 (.arr 4 .one) []] [.osl 0 [] 0 0,i64 8] rfl rfl ?_ ?_ (hbad fun h=>by omega)
  ·simp -implicitDefEqProofs only [go_sem,Nat.reduceEqDiff,Nat.reduceLT]
  ·simp -implicitDefEqProofs only [go_sem]
 have hKe:=hK ⟨h,by omega⟩
 clear hbad hK
 simp -implicitDefEqProofs only [go_sem,Nat.reduceAdd,Nat.reduceEqDiff,Nat.reduceLT,Nat.reduceLeDiff,wn,hzn,decide_false]
 refine Zit (by omega) ?_
 simp -implicitDefEqProofs only [go_sem,Nat.reduceAdd,Nat.reduceEqDiff,Nat.reduceLT]
 refine Zvf (l:=z) (by omega) ?_
 have lsh:=Zrz (rt L) z
 simp -implicitDefEqProofs only [go_sem,Nat.reduceAdd,Nat.reduceEqDiff,Nat.reduceLeDiff]
 refine Zl 4 ?_
 simp -implicitDefEqProofs only [go_sem,Nat.reduceAdd,Nat.reduceMul,Nat.reduceEqDiff,Nat.reduceLT,Int.reduceLT,Int.reduceLE]
 have O0:=hO 0
 have U0:=hU 0
 have m0:=Zf1 a [0,be * sv7 0] [ga]
 have r0:=Zf1 a (scc (s 0) be) [ga]
 have x0:=Zgz (s 0) be
 have y0:=hs 0
 have q0:=Zi0 (scc (s 0) be) [ga]
 simp only [List.length_cons,List.length_nil] at m0 r0 q0
 refine Zhd ?_
 simp -implicitDefEqProofs only [go_sem,Nat.reduceAdd,Nat.reduceMul,Nat.reduceLT]
 refine Zw9 (j:=0) (by decide) ?_
 rw [cs0]
 simp -implicitDefEqProofs only [go_sem,Nat.reduceAdd,Nat.reduceMul,Nat.reduceLT]
 refine Zj5 ?_
 simp -implicitDefEqProofs only [go_sem,Nat.reduceAdd,Nat.reduceMul,Nat.reduceEqDiff,Nat.reduceLT,Zwn]
 refine Zmo (f:=a) (by omega) ?_
 simp -implicitDefEqProofs only [go_sem,Nat.reduceAdd,Nat.reduceMul,Nat.reduceEqDiff,Nat.reduceLT,Nat.reduceLeDiff,List.take_length]
 refine Zn9 be ga z (w3 a b c) 0 (by omega) (by show (sm3 a _ _).length ≤ _; omega) ?_
 simp -implicitDefEqProofs only [go_sem,Nat.reduceAdd,Nat.reduceMul,Nat.reduceEqDiff,Nat.reduceLT,Nat.reduceLeDiff,Int.reduceLT,Int.reduceLE,Zgg]
 refine Zj6 (a:=s 0) (by omega) ?_
 simp -implicitDefEqProofs only [go_sem,Nat.reduceAdd,Nat.reduceMul,Nat.reduceEqDiff,Nat.reduceLT,Nat.reduceLeDiff,List.take_length]
 refine Zfi (a:=scc (s 0) be) (b:=[ga]) (by omega) (show 1 ≤ 1000000 by decide) ?_
 simp -implicitDefEqProofs only [go_sem,Nat.reduceAdd,Nat.reduceMul,Nat.reduceEqDiff,Nat.reduceLT,Nat.reduceLeDiff,List.take_length]
 refine Zqp (f:=a) (s:=scc (s 0) be) (g:=[ga]) (by omega) (by omega) ?_
 simp -implicitDefEqProofs only [go_sem,Nat.reduceAdd,Nat.reduceMul,Nat.reduceEqDiff,Nat.reduceLT,Nat.reduceLeDiff,List.take_length]
 refine Zn7 (rt L) be ga z (w3 a b c) s 0 (by omega) (by show (sm3 a _ _).length ≤ _; omega) ?_
 simp -implicitDefEqProofs only [go_sem,Nat.reduceAdd,Nat.reduceMul,Nat.reduceEqDiff,Nat.reduceLT,Nat.reduceLeDiff,Int.reduceToNat,Int.reduceLT,Int.reduceLE,Int.reduceAdd,Int.reduceNeg,Zq]
 have O1:=hO 1
 have U1:=hU 1
 have m1:=Zf1 b [0,be * sv7 1] [ga]
 have r1:=Zf1 b (scc (s 1) be) [ga]
 have x1:=Zgz (s 1) be
 have y1:=hs 1
 have q1:=Zi0 (scc (s 1) be) [ga]
 simp only [List.length_cons,List.length_nil] at m1 r1 q1
 refine Zhd ?_
 simp -implicitDefEqProofs only [go_sem,Nat.reduceAdd,Nat.reduceMul,Nat.reduceLT]
 refine Zw9 (j:=1) (by decide) ?_
 rw [cs1]
 simp -implicitDefEqProofs only [go_sem,Nat.reduceAdd,Nat.reduceMul,Nat.reduceLT]
 refine Zj5 ?_
 simp -implicitDefEqProofs only [go_sem,Nat.reduceAdd,Nat.reduceMul,Nat.reduceEqDiff,Nat.reduceLT,Zwn]
 refine Zmo (f:=b) (by omega) ?_
 simp -implicitDefEqProofs only [go_sem,Nat.reduceAdd,Nat.reduceMul,Nat.reduceEqDiff,Nat.reduceLT,Nat.reduceLeDiff,List.take_length]
 refine Zn9 be ga z (w3 a b c) 1 (by omega) (by show (sm3 b _ _).length ≤ _; omega) ?_
 simp -implicitDefEqProofs only [go_sem,Nat.reduceAdd,Nat.reduceMul,Nat.reduceEqDiff,Nat.reduceLT,Nat.reduceLeDiff,Int.reduceToNat,Int.reduceLT,Int.reduceLE,Zgg]
 refine Zj6 (a:=s 1) (by omega) ?_
 simp -implicitDefEqProofs only [go_sem,Nat.reduceAdd,Nat.reduceMul,Nat.reduceEqDiff,Nat.reduceLT,Nat.reduceLeDiff,List.take_length]
 refine Zfi (a:=scc (s 1) be) (b:=[ga]) (by omega) (show 1 ≤ 1000000 by decide) ?_
 simp -implicitDefEqProofs only [go_sem,Nat.reduceAdd,Nat.reduceMul,Nat.reduceEqDiff,Nat.reduceLT,Nat.reduceLeDiff,List.take_length]
 refine Zqp (f:=b) (s:=scc (s 1) be) (g:=[ga]) (by omega) (by omega) ?_
 simp -implicitDefEqProofs only [go_sem,Nat.reduceAdd,Nat.reduceMul,Nat.reduceEqDiff,Nat.reduceLT,Nat.reduceLeDiff,List.take_length]
 refine Zn7 (rt L) be ga z (w3 a b c) s 1 (by omega) (by show (sm3 b _ _).length ≤ _; omega) ?_
 simp -implicitDefEqProofs only [go_sem,Nat.reduceAdd,Nat.reduceMul,Nat.reduceEqDiff,Nat.reduceLT,Nat.reduceLeDiff,Int.reduceToNat,Int.reduceLT,Int.reduceLE,Int.reduceAdd,Int.reduceNeg]
 have O2:=hO 2
 have U2:=hU 2
 have m2:=Zf1 c [0,be * sv7 2] [ga]
 have r2:=Zf1 c (scc (s 2) be) [ga]
 have x2:=Zgz (s 2) be
 have y2:=hs 2
 have q2:=Zi0 (scc (s 2) be) [ga]
 simp only [List.length_cons,List.length_nil] at m2 r2 q2
 refine Zhd ?_
 simp -implicitDefEqProofs only [go_sem,Nat.reduceAdd,Nat.reduceMul,Nat.reduceLT]
 refine Zw9 (j:=2) (by decide) ?_
 rw [cs2]
 simp -implicitDefEqProofs only [go_sem,Nat.reduceAdd,Nat.reduceMul,Nat.reduceLT]
 refine Zj5 ?_
 simp -implicitDefEqProofs only [go_sem,Nat.reduceAdd,Nat.reduceMul,Nat.reduceEqDiff,Nat.reduceLT,Zwn]
 refine Zmo (f:=c) (by omega) ?_
 simp -implicitDefEqProofs only [go_sem,Nat.reduceAdd,Nat.reduceMul,Nat.reduceEqDiff,Nat.reduceLT,Nat.reduceLeDiff,List.take_length]
 refine Zn9 be ga z (w3 a b c) 2 (by omega) (by show (sm3 c _ _).length ≤ _; omega) ?_
 simp -implicitDefEqProofs only [go_sem,Nat.reduceAdd,Nat.reduceMul,Nat.reduceEqDiff,Nat.reduceLT,Nat.reduceLeDiff,Int.reduceToNat,Int.reduceLT,Int.reduceLE,Zgg]
 refine Zj6 (a:=s 2) (by omega) ?_
 simp -implicitDefEqProofs only [go_sem,Nat.reduceAdd,Nat.reduceMul,Nat.reduceEqDiff,Nat.reduceLT,Nat.reduceLeDiff,List.take_length]
 refine Zfi (a:=scc (s 2) be) (b:=[ga]) (by omega) (show 1 ≤ 1000000 by decide) ?_
 simp -implicitDefEqProofs only [go_sem,Nat.reduceAdd,Nat.reduceMul,Nat.reduceEqDiff,Nat.reduceLT,Nat.reduceLeDiff,List.take_length]
 refine Zqp (f:=c) (s:=scc (s 2) be) (g:=[ga]) (by omega) (by omega) ?_
 simp -implicitDefEqProofs only [go_sem,Nat.reduceAdd,Nat.reduceMul,Nat.reduceEqDiff,Nat.reduceLT,Nat.reduceLeDiff,List.take_length]
 refine Zn7 (rt L) be ga z (w3 a b c) s 2 (by omega) (by show (sm3 c _ _).length ≤ _; omega) ?_
 simp -implicitDefEqProofs only [go_sem,Nat.reduceAdd,Nat.reduceMul,Nat.reduceEqDiff,Nat.reduceLT,Nat.reduceLeDiff,Int.reduceLT,Int.reduceLE,Int.reduceAdd,Int.reduceNeg]
 repeat (with_reducible refine And.intro (by first | omega | decide) ?_)
 have hn0i:(0:Int) < (n:Int):=by omega
 have huv:(List.replicate n (0:F)).set 0 1 = uv n 0:=rfl
 have htk:List.take n (uv n 0) = uv n 0:=List.take_of_length_le (by rw [Zuk]; omega)
 refine Zhd ?_
 simp -implicitDefEqProofs only [go_sem,Nat.reduceEqDiff,Nat.reduceLT,Int.reduceLE,hn0i,huv]
 repeat (with_reducible refine And.intro (by first | omega | decide) ?_)
 simp -implicitDefEqProofs only [go_sem,htk]
 refine Znb (l:=uv n 0) (by rw [Zuk]; omega) ?_
 simp -implicitDefEqProofs only [go_sem,Nat.reduceAdd,Nat.reduceEqDiff,Nat.reduceLT,Nat.reduceLeDiff]
 refine Zhd ?_
 simp -implicitDefEqProofs only [go_sem,Nat.reduceAdd,Nat.reduceEqDiff,Nat.reduceLT,Zgg]
 have ls1:=Zm2 z [1]
 simp only [List.length_cons,List.length_nil] at ls1
 refine Zj7 (a:=z) (b:=[1]) (by omega) (show 1 ≤ 1000000 by decide) ?_
 simp -implicitDefEqProofs only [go_sem,Nat.reduceAdd,Nat.reduceEqDiff,Nat.reduceLT,Nat.reduceLeDiff,List.take_length]
 refine k_bgr (n:=n) (z:=z) (by omega) (by omega) ?_
 simp -implicitDefEqProofs only [go_sem,Nat.reduceAdd,Nat.reduceMul,Nat.reduceEqDiff,Nat.reduceLT,Nat.reduceLeDiff,List.take_length]
 have O3:=hO 3
 have U3:=hU 3
 refine Zj7 (a:=ovS be ga z (w3 a b c) 3) (b:=unS (rt L) be ga z (w3 a b c) s 3) (by omega) (by omega) ?_
 have lsO:=Zm2 (ovS be ga z (w3 a b c) 3) (unS (rt L) be ga z (w3 a b c) s 3)
 simp -implicitDefEqProofs only [go_sem,Nat.reduceAdd,Nat.reduceMul,Nat.reduceEqDiff,Nat.reduceLT,Nat.reduceLeDiff,List.take_length]
 refine Zj6 (a:=sbc (ovS be ga z (w3 a b c) 3) (unS (rt L) be ga z (w3 a b c) s 3)) (k:=al) (by omega) ?_
 have lsS:=Zgz (sbc (ovS be ga z (w3 a b c) 3) (unS (rt L) be ga z (w3 a b c) s 3)) al
 simp -implicitDefEqProofs only [go_sem,Nat.reduceAdd,Nat.reduceMul,Nat.reduceEqDiff,Nat.reduceLT,Nat.reduceLeDiff,List.take_length]
 have lsA:=Zi0 (gtS (rt L) q a b c p 8) (scc (sbc (ovS be ga z (w3 a b c) 3) (unS (rt L) be ga z (w3 a b c) s 3)) al)
 refine Zfi (a:=gtS (rt L) q a b c p 8) (b:=scc (sbc (ovS be ga z (w3 a b c) 3) (unS (rt L) be ga z (w3 a b c) s 3)) al) (by omega) (by omega) ?_
 simp -implicitDefEqProofs only [go_sem,Nat.reduceAdd,Nat.reduceMul,Nat.reduceEqDiff,Nat.reduceLT,Nat.reduceLeDiff]
 refine Zj5 ?_
 simp -implicitDefEqProofs only [go_sem,Nat.reduceEqDiff,Nat.reduceLT,List.take_length]
 refine Zj6 (a:=bgL n z) (k:=al * al) (by omega) ?_
 have lsB:=Zgz (bgL n z) (al * al)
 simp -implicitDefEqProofs only [go_sem,Nat.reduceAdd,Nat.reduceEqDiff,Nat.reduceLT,Nat.reduceLeDiff,List.take_length]
 refine Zzv (f:=gtS (rt L) q a b c p 8) (s:=scc (sbc (ovS be ga z (w3 a b c) 3) (unS (rt L) be ga z (w3 a b c) s 3)) al) (g:=scc (bgL n z) (al * al)) (by omega) (by omega) ?_
 simp -implicitDefEqProofs only [go_sem,Nat.reduceAdd,Nat.reduceEqDiff,Nat.reduceLeDiff]
 refine Zt [(1790,0)] [.row 28 (.arr 4 .one) (ffs (sm3 (gtS (rt L) q a b c p 8) (scc (sbc (ovS be ga z (w3 a b c) 3) (unS (rt L) be ga z (w3 a b c) s 3)) al) (scc (bgL n z) (al * al))))] [.osl 0 [] 0 (sm3 (gtS (rt L) q a b c p 8) (scc (sbc (ovS be ga z (w3 a b c) 3) (unS (rt L) be ga z (w3 a b c) s 3)) al) (scc (bgL n z) (al * al))).length,i64 0] rfl rfl ?_ ?_ hKe
 ·simp -implicitDefEqProofs only [go_sem,Nat.reduceEqDiff,Nat.reduceLT]
 ·simp -implicitDefEqProofs only [go_sem]
end Go.Proofs.Tryz.PMT

namespace Go.Proofs.Tryz.PMT
open Go Go.Proofs.PM Go.Proofs.PL Go.Proofs.Tryz
variable {K:PV→List Ob→Prop}
set_option maxRecDepth 4000
def prt (n:Nat) (T:List F) (i:Nat):List F:=cut ((T.drop (min (i * n) T.length)).take (min ((i + 1) * n) T.length - min (i * n) T.length))
theorem Znt (n:Nat) (T:List F) (i:Nat):(prt n T i).length ≤ n:=by
 have:=Zbr ((T.drop (min (i * n) T.length)).take (min ((i + 1) * n) T.length - min (i * n) T.length))
 rw [prt]
 rw [List.length_take,List.length_drop] at this
 have e:(i + 1) * n = i * n + n:=by rw [Nat.succ_mul]
 omega
def pOs (n:Nat) (T:List F):Nat→List (Nat × Cel)
 | 0=>[(0,.ob (.row 28 (.arr 4 .one) (ffs T))),(1,.ob (.var (.arr 5 .one) (.agg [.val (.slice none 0 0),.val (.slice none 0 0),.val (.slice none 0 0),.val (.slice none 0 0),.val (.slice none 0 0)]))),(2,.ob (.var (.arr 5 .one) (.agg [.val (.slice none 0 0),.val (.slice none 0 0),.val (.slice none 0 0),.val (.slice none 0 0),.val (.slice none 0 0)])))]
 | 1=>[(0,.ob (.row 28 (.arr 4 .one) (ffs T))),(1,.ob (.var (.arr 5 .one) (.agg [.osl 3 [] 0 (prt n T 0).length,.val (.slice none 0 0),.val (.slice none 0 0),.val (.slice none 0 0),.val (.slice none 0 0)]))),(2,.ob (.var (.arr 5 .one) (.agg [.val (.slice none 0 0),.val (.slice none 0 0),.val (.slice none 0 0),.val (.slice none 0 0),.val (.slice none 0 0)]))),(3,.ob (.row 28 (.arr 4 .one) (ffs (prt n T 0))))]
 | 2=>[(0,.ob (.row 28 (.arr 4 .one) (ffs T))),(1,.ob (.var (.arr 5 .one) (.agg [.osl 3 [] 0 (prt n T 0).length,.osl 4 [] 0 (prt n T 1).length,.val (.slice none 0 0),.val (.slice none 0 0),.val (.slice none 0 0)]))),(2,.ob (.var (.arr 5 .one) (.agg [.val (.slice none 0 0),.val (.slice none 0 0),.val (.slice none 0 0),.val (.slice none 0 0),.val (.slice none 0 0)]))),(3,.ob (.row 28 (.arr 4 .one) (ffs (prt n T 0)))),(4,.ob (.row 28 (.arr 4 .one) (ffs (prt n T 1))))]
 | 3=>[(0,.ob (.row 28 (.arr 4 .one) (ffs T))),(1,.ob (.var (.arr 5 .one) (.agg [.osl 3 [] 0 (prt n T 0).length,.osl 4 [] 0 (prt n T 1).length,.osl 5 [] 0 (prt n T 2).length,.val (.slice none 0 0),.val (.slice none 0 0)]))),(2,.ob (.var (.arr 5 .one) (.agg [.val (.slice none 0 0),.val (.slice none 0 0),.val (.slice none 0 0),.val (.slice none 0 0),.val (.slice none 0 0)]))),(3,.ob (.row 28 (.arr 4 .one) (ffs (prt n T 0)))),(4,.ob (.row 28 (.arr 4 .one) (ffs (prt n T 1)))),(5,.ob (.row 28 (.arr 4 .one) (ffs (prt n T 2))))]
 | 4=>[(0,.ob (.row 28 (.arr 4 .one) (ffs T))),(1,.ob (.var (.arr 5 .one) (.agg [.osl 3 [] 0 (prt n T 0).length,.osl 4 [] 0 (prt n T 1).length,.osl 5 [] 0 (prt n T 2).length,.osl 6 [] 0 (prt n T 3).length,.val (.slice none 0 0)]))),(2,.ob (.var (.arr 5 .one) (.agg [.val (.slice none 0 0),.val (.slice none 0 0),.val (.slice none 0 0),.val (.slice none 0 0),.val (.slice none 0 0)]))),(3,.ob (.row 28 (.arr 4 .one) (ffs (prt n T 0)))),(4,.ob (.row 28 (.arr 4 .one) (ffs (prt n T 1)))),(5,.ob (.row 28 (.arr 4 .one) (ffs (prt n T 2)))),(6,.ob (.row 28 (.arr 4 .one) (ffs (prt n T 3))))]
 | _=>[]
theorem Zlo (a b:Nat):(if (b:Int) < (a:Int) then (b:Int) else (a:Int)) = ((min a b:Nat):Int):=by split <;> omega
set_option maxHeartbeats 4000000 in
theorem Zoq {t:List F} {L:Nat} (ht:t.length ≤ 1000000) (hL:1 ≤ L) (hL6:L ≤ 6) (hbig:(cut t).length > 5 * (2 ^ L + 1)→K (.tup [.agg [.val (.slice none 0 0),.val (.slice none 0 0),.val (.slice none 0 0),.val (.slice none 0 0),.val (.slice none 0 0)],i64 8]) [])
  (hK:(cut t).length ≤ 5 * (2 ^ L + 1)→K (.tup [.agg [.osl 0 [] 0 (prt (2 ^ L + 1) (cut t) 0).length,.osl 1 [] 0 (prt (2 ^ L + 1) (cut t) 1).length,.osl 2 [] 0 (prt (2 ^ L + 1) (cut t) 2).length,.osl 3 [] 0 (prt (2 ^ L + 1) (cut t) 3).length,.osl 4 [] 0 (prt (2 ^ L + 1) (cut t) 4).length],i64 0]) [.row 28 (.arr 4 .one) (ffs (prt (2 ^ L + 1) (cut t) 0)),.row 28 (.arr 4 .one) (ffs (prt (2 ^ L + 1) (cut t) 1)),.row 28 (.arr 4 .one) (ffs (prt (2 ^ L + 1) (cut t) 2)),.row 28 (.arr 4 .one) (ffs (prt (2 ^ L + 1) (cut t) 3)),.row 28 (.arr 4 .one) (ffs (prt (2 ^ L + 1) (cut t) 4))]):PSpec prog 30 [.vsl false (.arr 4 .one) (ffs t),i64 L] [] K:=by
 refine Zsz ?_
 simp only [qzS,qzN,qzG,qzT,qzI,qzF,qzZ,Zhs]
 have h1:¬ (L:Int) < 1:=by omega
 have h6:¬ (L:Int) > 6:=by omega
 have hp0:=Nat.two_pow_pos L
 have hp6:2 ^ L ≤ 2 ^ 6:=Nat.pow_le_pow_right (by decide) hL6
 have hsh:=shl1 (show L < 63 by omega)
 have huL:IntKind.u64.wrap (L:Int) = (L:Int):=wru (by omega) (by omega)
 have hcl:=Zbr t
 obtain ⟨n,hn⟩:∃ n,2 ^ L + 1 = n:=⟨_,rfl⟩
 have hn65:n ≤ 65:=by omega
 have nw:IntKind.i64.wrap (((2 ^ L:Nat):Int) + 1) = (n:Int):=by rw [wrs (by omega) (by omega)]; omega
 have n5:IntKind.i64.wrap (5 * (n:Int)) = ((5 * n:Nat):Int):=by rw [wrs (by omega) (by omega)]; omega
 simp -implicitDefEqProofs only [go_sem,Nat.reduceAdd,Nat.reduceSub]
 by_cases hb:(cut t).length > 5 * n
 ·have hbi:((cut t).length:Int) > ((5 * n:Nat):Int):=by omega
  refine Ziu (ι:=Empty) (fun i=>nomatch i) (fun _=>0) (fun i=>nomatch i) fun G hG=>?_
  simp -implicitDefEqProofs only [go_sem,Nat.reduceAdd,Nat.reduceEqDiff,Nat.reduceLT,h1,h6,decide_false]
  refine Zba (by omega) ?_
  simp -implicitDefEqProofs only [go_sem,Nat.reduceAdd,Nat.reduceEqDiff,Nat.reduceLeDiff,huL,↓hsh,nw,n5,hbi,decide_true]
  exact Zb rfl (hbig (by omega))
 have hKe:=hK (by omega)
 have hbi:¬ ((cut t).length:Int) > ((5 * n:Nat):Int):=by omega
 clear hbig
 obtain ⟨T,hT⟩:∃ T,cut t = T:=⟨_,rfl⟩
 rw [hT] at hcl hbi hKe hb
 have wm:∀ i:Nat,i ≤ 5→IntKind.i64.wrap ((i:Int) * (n:Int)) = ((i * n:Nat):Int):=fun i hi=>by
  have:i * n ≤ 5 * 65:=Nat.mul_le_mul hi hn65
  rw [← Int.natCast_mul,wrs (by omega) (by omega)]
 have m0:IntKind.i64.wrap (0 * (n:Int)) = ((0 * n:Nat):Int):=wm 0 (by decide)
 have m1:IntKind.i64.wrap (1 * (n:Int)) = ((1 * n:Nat):Int):=wm 1 (by decide)
 have m2:IntKind.i64.wrap (2 * (n:Int)) = ((2 * n:Nat):Int):=wm 2 (by decide)
 have m3:IntKind.i64.wrap (3 * (n:Int)) = ((3 * n:Nat):Int):=wm 3 (by decide)
 have m4:IntKind.i64.wrap (4 * (n:Int)) = ((4 * n:Nat):Int):=wm 4 (by decide)
 have m5:IntKind.i64.wrap (5 * (n:Int)) = ((5 * n:Nat):Int):=wm 5 (by decide)
 have pr0:cut ((T.drop (min (0 * n) T.length)).take (min (1 * n) T.length - min (0 * n) T.length)) = prt n T 0:=rfl
 have pr1:cut ((T.drop (min (1 * n) T.length)).take (min (2 * n) T.length - min (1 * n) T.length)) = prt n T 1:=rfl
 have pr2:cut ((T.drop (min (2 * n) T.length)).take (min (3 * n) T.length - min (2 * n) T.length)) = prt n T 2:=rfl
 have pr3:cut ((T.drop (min (3 * n) T.length)).take (min (4 * n) T.length - min (3 * n) T.length)) = prt n T 3:=rfl
 have pr4:cut ((T.drop (min (4 * n) T.length)).take (min (5 * n) T.length - min (4 * n) T.length)) = prt n T 4:=rfl
 have pl0:=Znt n T 0
 have pl1:=Znt n T 1
 have pl2:=Znt n T 2
 have pl3:=Znt n T 3
 have pl4:=Znt n T 4
 refine Ziu (ι:={ i:Nat // i ≤ 4 }) (fun i=>⟨[.osl 0 [] 0 T.length,.any,.any,.any,.ptr 2 [],i64 0,.ptr 1 [],i64 n,i64 i.1,.any,.any,.any,.any,.any,.any,.any,.any,.any,.any,.any,.any,.any,.any,.any,.any,.any,.any,.any,.any,.any,.any,.any,.any,.any,.any,.any,.any,.any,.any,.any,.any,.any,.any,.any,.any,.any,.any,.any,.any,.any,.any,.any,.any,.any,.any],osB (pOs n T i.1),8,0⟩) (fun i=>5 - i.1) ?_ ?_
 ·intro ⟨i,hi4⟩ G hG
  dsimp only at hi4 hG
  rcases (by omega:i = 0 ∨ i = 1 ∨ i = 2 ∨ i = 3 ∨ i = 4) with rfl | rfl | rfl | rfl | rfl
  ·simp -implicitDefEqProofs only [go_sem,Nat.reduceEqDiff,Nat.reduceLT,Int.reduceLE,Int.reduceAdd,Int.reduceNeg,pOs,m0,m1,↓Zlo,Zeu,Zbl]
   repeat (with_reducible refine And.intro (by first | omega | decide) ?_)
   refine Zba (by rw [List.length_take,List.length_drop]; omega) ?_
   rw [pr0]
   simp -implicitDefEqProofs only [go_sem,Nat.reduceAdd,Nat.reduceEqDiff,Nat.reduceLeDiff,Int.reduceLT,Int.reduceLE,Int.reduceAdd,Int.reduceNeg]
   refine hG _ ⟨1,by decide⟩ (by decide) ?_
   refine Z3 [(0,0),(1,1),(2,2),(8,3)] rfl rfl rfl ?_ ?_
   ·simp -implicitDefEqProofs only [go_sem,Nat.reduceAdd,Nat.reduceEqDiff,Nat.reduceLT,pOs,Zh,Z2,Za,Zf,Zu,Z0]
   ·simp -implicitDefEqProofs only [go_sem,Nat.reduceEqDiff]
  ·simp -implicitDefEqProofs only [go_sem,Nat.reduceEqDiff,Nat.reduceLT,Int.reduceLE,Int.reduceAdd,Int.reduceNeg,pOs,m1,m2,↓Zlo,Zeu,Zbl]
   repeat (with_reducible refine And.intro (by first | omega | decide) ?_)
   refine Zba (by rw [List.length_take,List.length_drop]; omega) ?_
   rw [pr1]
   simp -implicitDefEqProofs only [go_sem,Nat.reduceAdd,Nat.reduceEqDiff,Nat.reduceLeDiff,Int.reduceToNat,Int.reduceLT,Int.reduceLE,Int.reduceAdd,Int.reduceNeg]
   refine hG _ ⟨2,by decide⟩ (by decide) ?_
   refine Z3 [(0,0),(1,1),(2,2),(3,3),(8,4)] rfl rfl rfl ?_ ?_
   ·simp -implicitDefEqProofs only [go_sem,Nat.reduceAdd,Nat.reduceEqDiff,Nat.reduceLT,pOs,Zh,Z2,Za,Zf,Zu,Z0]
   ·simp -implicitDefEqProofs only [go_sem,Nat.reduceEqDiff]
  ·simp -implicitDefEqProofs only [go_sem,Nat.reduceEqDiff,Nat.reduceLT,Int.reduceLE,Int.reduceAdd,Int.reduceNeg,pOs,m2,m3,↓Zlo,Zeu,Zbl]
   repeat (with_reducible refine And.intro (by first | omega | decide) ?_)
   refine Zba (by rw [List.length_take,List.length_drop]; omega) ?_
   rw [pr2]
   simp -implicitDefEqProofs only [go_sem,Nat.reduceAdd,Nat.reduceEqDiff,Nat.reduceLeDiff,Int.reduceToNat,Int.reduceLT,Int.reduceLE,Int.reduceAdd,Int.reduceNeg]
   refine hG _ ⟨3,by decide⟩ (by decide) ?_
   refine Z3 [(0,0),(1,1),(2,2),(3,3),(4,4),(8,5)] rfl rfl rfl ?_ ?_
   ·simp -implicitDefEqProofs only [go_sem,Nat.reduceAdd,Nat.reduceEqDiff,Nat.reduceLT,pOs,Zh,Z2,Za,Zf,Zu,Z0]
   ·simp -implicitDefEqProofs only [go_sem,Nat.reduceEqDiff]
  ·simp -implicitDefEqProofs only [go_sem,Nat.reduceEqDiff,Nat.reduceLT,Int.reduceLE,Int.reduceAdd,Int.reduceNeg,pOs,m3,m4,↓Zlo,Zeu,Zbl]
   repeat (with_reducible refine And.intro (by first | omega | decide) ?_)
   refine Zba (by rw [List.length_take,List.length_drop]; omega) ?_
   rw [pr3]
   simp -implicitDefEqProofs only [go_sem,Nat.reduceAdd,Nat.reduceEqDiff,Nat.reduceLeDiff,Int.reduceToNat,Int.reduceLT,Int.reduceLE,Int.reduceAdd,Int.reduceNeg]
   refine hG _ ⟨4,by decide⟩ (by decide) ?_
   refine Z3 [(0,0),(1,1),(2,2),(3,3),(4,4),(5,5),(8,6)] rfl rfl rfl ?_ ?_
   ·simp -implicitDefEqProofs only [go_sem,Nat.reduceAdd,Nat.reduceEqDiff,Nat.reduceLT,pOs,Zh,Z2,Za,Zf,Zu,Z0]
   ·simp -implicitDefEqProofs only [go_sem,Nat.reduceEqDiff]
  ·simp -implicitDefEqProofs only [go_sem,Nat.reduceEqDiff,Nat.reduceLT,Int.reduceLE,Int.reduceAdd,Int.reduceNeg,pOs,m4,m5,↓Zlo,Zeu,Zbl]
   repeat (with_reducible refine And.intro (by first | omega | decide) ?_)
   refine Zba (by rw [List.length_take,List.length_drop]; omega) ?_
   rw [pr4]
   simp -implicitDefEqProofs only [go_sem,Nat.reduceAdd,Nat.reduceEqDiff,Nat.reduceLeDiff,Int.reduceToNat,Int.reduceLT,Int.reduceLE,Int.reduceAdd,Int.reduceNeg]
   rw [hn] at hKe
   refine Zt [(3,0),(4,1),(5,2),(6,3),(8,4)] [.row 28 (.arr 4 .one) (ffs (prt n T 0)),.row 28 (.arr 4 .one) (ffs (prt n T 1)),.row 28 (.arr 4 .one) (ffs (prt n T 2)),.row 28 (.arr 4 .one) (ffs (prt n T 3)),.row 28 (.arr 4 .one) (ffs (prt n T 4))] [.agg [.osl 0 [] 0 (prt n T 0).length,.osl 1 [] 0 (prt n T 1).length,.osl 2 [] 0 (prt n T 2).length,.osl 3 [] 0 (prt n T 3).length,.osl 4 [] 0 (prt n T 4).length],i64 0] rfl rfl ?_ ?_ hKe
   ·simp -implicitDefEqProofs only [go_sem,Nat.reduceAdd,Nat.reduceEqDiff,Nat.reduceLT]
   ·simp -implicitDefEqProofs only [go_sem,Nat.reduceEqDiff,Zh,Z2,Za,Zu,Z0]
 intro G hG
 simp -implicitDefEqProofs only [go_sem,Nat.reduceAdd,Nat.reduceEqDiff,Nat.reduceLT,h1,h6,decide_false]
 refine Zba (by omega) ?_
 rw [hT]
 simp -implicitDefEqProofs only [go_sem,Nat.reduceAdd,Nat.reduceEqDiff,Nat.reduceLeDiff,huL,↓hsh,nw,n5,hbi,decide_false]
 refine Zve _ ?_ (Zqj (hG ⟨0,Nat.zero_le _⟩))
 refine Z3 [(2,0),(1,1),(0,2)] rfl rfl rfl ?_ ?_
 ·simp -implicitDefEqProofs only [go_sem,Nat.reduceAdd,Nat.reduceEqDiff,Nat.reduceLT,pOs,Zh,Z2,Za,Zf]
 ·simp -implicitDefEqProofs only [go_sem,Nat.reduceEqDiff]
end Go.Proofs.Tryz.PMT

namespace Go.Proofs.PL
def qtV (n:Nat) (f:List F):List F:=(dv f (vnl n)).1
theorem Z07 (n:Nat) (f:List F):cut (qtV n f) = qtV n f:=(dv_cut f (vnl n)).1
theorem Z6x {n:Nat} (hn:0 < n) {f:List F} (h:hol n f = true):van n f = (qtV n f,0):=by
 have h1:=Z2j hn f
 rw [qtV,h1]
 rw [hol,decide_eq_true_eq] at h
 rw [van] at h ⊢
 split
 ·rfl
 ·rename_i hh; rw [if_neg hh] at h; exact absurd h (by decide)
theorem Z6w {n:Nat} {f:List F} (h:hol n f = false):van n f = ([],18):=by
 rw [hol,decide_eq_false_iff_not] at h
 rw [van] at h ⊢
 split
 ·rename_i hh; rw [if_pos hh] at h; exact absurd rfl h
 ·rfl
theorem Z86 {n:Nat} (hn:0 < n) {f q r:List F} {e:Int} (h:(q,r,e) = dv f (vnl n)):q = qtV n f ∧ (hol n f = true ↔ r.length = 0):=by
 have h1:=hol_dv hn f
 rw [← h] at h1
 refine ⟨by rw [qtV,← h],?_⟩
 rw [← h1,decide_eq_true_eq]
theorem Z5v (n:Nat) (hn:0 < n) (f:List F):(qtV n f).length ≤ f.length:=by
 rw [qtV,Z2j hn]
 refine Nat.le_trans (Zbr _) ?_
 rw [(Zhk n _ (cut f) _).1]
 have:=Zbr f
 omega
end Go.Proofs.PL
