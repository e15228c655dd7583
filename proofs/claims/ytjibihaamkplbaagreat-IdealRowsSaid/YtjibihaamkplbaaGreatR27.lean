/- The contract of intagliolaw27.Honest. No conditions beyond what each names. -/
import Derived.Test.YtjibihaamkplbaaGreatR24
import Derived.Test.YtjibihaamkplbaaGreatR23
import Derived.Test.YtjibihaamkplbaaGreatR26
import Derived.Test.YtjibihaamkplbaaGreatR18
import Derived.Test.YtjibihaamkplbaaGreatR17
import Derived.Test.YtjibihaamkplbaaGreatR16
import Derived.Test.YtjibihaamkplbaaGreatR19
import Derived.Test.YtjibihaamkplbaaGreatR14
import Derived.Test.YtjibihaamkplbaaGreatR20
import Derived.Test.YtjibihaamkplbaaGreatR22
import Derived.Test.YtjibihaamkplbaaGreatR15
import Derived.Test.YtjibihaamkplbaaGreatR11
set_option linter.all false
namespace Go.Proofs.Tryz.PMT
open Go Go.Proofs.PM Go.Proofs.PL Go.Proofs.Tryz
variable {K:PV→List Ob→Prop}
set_option maxRecDepth 4000
abbrev mdV (P V:Nat) (rows:List Rw) (same:List (Int × Int)) (pubs vals:List F) (steps:List Stp):PV:=.agg [cV P V rows same,vF false pubs,vF false vals,.vsl false shS (sts steps)]
def wiP (rows:List Rw) (vals B:List F) (L j:Nat):List F:=adc (cut (bkR (celL rows vals L j (2 ^ L))).1) (pm ((B.drop (2 * j)).take 2) (vnl (2 ^ L)))
def zeP (v B:List F) (L:Nat):List F:=adc (cut (bkR v).1) (pm ((B.drop 6).take 3) (vnl (2 ^ L)))
def puP (pubs:List F) (L:Nat):List F:=cut (bkR (pbL pubs (2 ^ L) pubs.length)).1
abbrev hoO (rows:List Rw) (vals B pubs v:List F) (L:Nat):List Ob:=[.row 25 (.arr 4 .one) (ffs (wiP rows vals B L 0)),.row 25 (.arr 4 .one) (ffs (wiP rows vals B L 1)),.row 25 (.arr 4 .one) (ffs (wiP rows vals B L 2)),.row 25 (.arr 4 .one) (ffs (zeP v B L)),.row 25 (.arr 4 .one) (ffs (puP pubs L))]
abbrev hoV (rows:List Rw) (l:List Int) (vals B pubs v:List F) (L:Nat) (is:Bool):PV:=.tup [polV rows l L,.agg [.osl 0 [] 0 (wiP rows vals B L 0).length,.osl 1 [] 0 (wiP rows vals B L 1).length,.osl 2 [] 0 (wiP rows vals B L 2).length],.osl 3 [] 0 (zeP v B L).length,.osl 4 [] 0 (puP pubs L).length,bo is]
theorem Znj {os:Nat→Cel} {i0 i1 i2 n0 n1 n2:Nat} {e:TypeId} {T:Nat→List F} (h0:os i0 = .ob (.row e (.arr 4 .one) (ffs (T 0)))) (h1:os i1 = .ob (.row e (.arr 4 .one) (ffs (T 1)))) (h2:os i2 = .ob (.row e (.arr 4 .one) (ffs (T 2)))) (g0:n0 = (T 0).length) (g1:n1 = (T 1).length) (g2:n2 = (T 2).length) :
  cnv (fun _=>none) false (fun i=>(os i).get) 3 (.agg [.osl i0 [] 0 n0,.osl i1 [] 0 n1,.osl i2 [] 0 n2]) = .agg [vF false (T 0),vF false (T 1),vF false (T 2)]:=by
 have key:∀ (j m:Nat) (l:List F),os j = .ob (.row e (.arr 4 .one) (ffs l))→m = l.length→cnvW (fun _=>none) false (fun i=>(os i).get) (cnv (fun _=>none) false (fun i=>(os i).get) 2) (.osl j [] 0 m) = vF false l:=fun j m l h hm=>by
  have g3:(os j).get = some (.row e (.arr 4 .one) (ffs l)):=by rw [h]; rfl
  have e1:(Ob.row e (.arr 4 .one) (ffs l)).sh.offs [] = some (0,.arr (ffs l).length (.arr 4 .one)):=rfl
  have e2:(Ob.row e (.arr 4 .one) (ffs l)).con.get [] = some (.agg (ffs l)):=rfl
  simp only [cnvW,g3,e1,e2,List.drop_zero,Zb9,hm,List.take_length]
  rw [Zht fun p hp=>Zbg (plainL_iff.1 Zs p hp)]
 rw [Zf,Za,Za,Za,Z5,key _ _ _ h0 g0,key _ _ _ h1 g1,key _ _ _ h2 g2]
set_option maxHeartbeats 16000000 in
theorem Zty {P V:Nat} {rows:List Rw} {same:List (Int × Int)} {pubs vals B:List F} {steps:List Stp} {be ga al ze vv uu:F} (h:CG P V rows same) (hv:vals.length = V) (hpb:pubs.length ≤ rows.length) (hB:B.length = 9)
  (hK:∀ (L:Nat) (l:List Int),1 ≤ L ∧ L ≤ 6→rows.length ≤ 2 ^ L→(L = 1 ∨ 2 ^ (L - 1) < rows.length)→ClsI same V l →
   ((∃ i j,i < 2 ^ L ∧ j < 3 ∧ unF be ga (fun j=>celL rows vals L j (2 ^ L)) (fun j=>nmL rows l L j (2 ^ L)) i j = 0)→K (hoV rows l vals B pubs [] L false) (hoO rows vals B pubs [] L))
   ∧ ((∀ i j,i < 2 ^ L→j < 3→unF be ga (fun j=>celL rows vals L j (2 ^ L)) (fun j=>nmL rows l L j (2 ^ L)) i j ≠ 0)→K (hoV rows l vals B pubs (rzL L be ga (fun j=>celL rows vals L j (2 ^ L)) (fun j=>nmL rows l L j (2 ^ L)) (2 ^ L)) L true) (hoO rows vals B pubs (rzL L be ga (fun j=>celL rows vals L j (2 ^ L)) (fun j=>nmL rows l L j (2 ^ L)) (2 ^ L)) L))) :
  PSpec prog 9 [mdV P V rows same pubs vals steps,.agg [ff be,ff ga,ff al,ff ze,ff vv,ff uu],.agg (ffs B)] [] K:=by
 refine Zgf ?_
 simp only [yS,yN,yG,yT,yI,yF,yZ,yM,yU,yL,yB,yR,Zcz,mdV,cV,sR,vF]
 have hb9:(B.length == 9) = true:=by rw [hB]; rfl
 simp -implicitDefEqProofs only [go_sem,Nat.reduceAdd,Nat.reduceSub,Nat.reduceEqDiff,Nat.reduceLT,Zf9,hb9,true_and]
 refine Z0g h fun L l hL hrl hLm hl=>?_
 have hKe:=hK L l hL hrl hLm hl
 clear hK
 have hsh:=shl1 (show L < 63 by omega)
 have hn0:=Nat.two_pow_pos L
 have hn:2 ^ L ≤ 64:=Nat.pow_le_pow_right (n:=2) (by decide) hL.2
 have hvl:=Zg0 (2 ^ L)
 have htv:List.take (2 ^ L + 1) (vnl (2 ^ L)) = vnl (2 ^ L):=List.take_of_length_le (by omega)
 simp -implicitDefEqProofs only [go_sem,Nat.reduceAdd,Nat.reduceEqDiff,Nat.reduceLT,Zjm,frzF,Zf9,Bool.true_or,Bool.and_self,true_and]
 refine Zm8 h hv hL.1 hL.2 hrl ?_
 simp -implicitDefEqProofs only [go_sem,Nat.reduceAdd,Nat.reduceEqDiff,Nat.reduceLT,Nat.reduceLeDiff,↓hsh]
 refine Zhh (n:=2 ^ L) (by omega) (by omega) ?_
 simp -implicitDefEqProofs only [go_sem,Nat.reduceAdd,Nat.reduceEqDiff,Nat.reduceLeDiff]
 refine Zp 4 ?_
 have hc:∀ j,List.take (2 ^ L) (celL rows vals L j (2 ^ L)) = celL rows vals L j (2 ^ L):=fun j=>List.take_of_length_le (by rw [cel_len]; omega)
 have hbk:∀ v:List F,(cut (bkR v).1).length ≤ v.length:=fun v=>Nat.le_trans (Zbc _) (Zuq v)
 have hb2:∀ j,((B.drop (2 * j)).take 2).length ≤ 2:=fun j=>by rw [List.length_take]; omega
 have hp2:∀ j,(pm ((B.drop (2 * j)).take 2) (vnl (2 ^ L))).length ≤ 2 + (2 ^ L + 1):=fun j=>by
  have h1:=pm_le ((B.drop (2 * j)).take 2) (vnl (2 ^ L))
  have h2:=hb2 j
  omega
 have hcl:∀ j,(cut (bkR (celL rows vals L j (2 ^ L))).1).length ≤ 2 ^ L:=fun j=>Nat.le_trans (hbk _) (by rw [cel_len]; omega)
 have hz0:List.drop 0 B = B:=rfl
 simp -implicitDefEqProofs only [go_sem,Nat.reduceEqDiff,Nat.reduceLT,Int.reduceLT,Int.reduceLE,hc 0]
 refine Zc2 (l:=celL rows vals L 0 (2 ^ L)) (by rw [cel_len]; omega) ?_
 simp -implicitDefEqProofs only [go_sem,Nat.reduceAdd,Nat.reduceEqDiff,Nat.reduceLT,Nat.reduceLeDiff,Int.reduceToNat,Int.reduceLE,Int.reduceAdd,Int.reduceMul,Int.reduceNeg,Zb9,Zkn,htv]
 repeat (with_reducible refine And.intro (by first | omega | decide) ?_)
 refine Zki (a:=(B.drop (2 * 0)).take 2) (b:=vnl (2 ^ L)) (by have:=hb2 0; omega) (by omega) ?_
 simp -implicitDefEqProofs only [go_sem,Nat.reduceAdd,Nat.reduceMul,Nat.reduceEqDiff,Nat.reduceLT,Nat.reduceLeDiff,List.take_length]
 refine Zhg (a:=cut (bkR (celL rows vals L 0 (2 ^ L))).1) (b:=pm ((B.drop (2 * 0)).take 2) (vnl (2 ^ L))) (by have:=hcl 0; omega) (by have:=hp2 0; omega) ?_
 simp -implicitDefEqProofs only [go_sem,Nat.reduceAdd,Nat.reduceMul,Nat.reduceEqDiff,Nat.reduceLT,Nat.reduceLeDiff,Int.reduceToNat,Int.reduceLT,Int.reduceLE,Int.reduceAdd,Int.reduceNeg,hc 1]
 refine Zc2 (l:=celL rows vals L 1 (2 ^ L)) (by rw [cel_len]; omega) ?_
 simp -implicitDefEqProofs only [go_sem,Nat.reduceAdd,Nat.reduceSub,Nat.reduceEqDiff,Nat.reduceLT,Nat.reduceLeDiff,Int.reduceToNat,Int.reduceLE,Int.reduceAdd,Int.reduceMul,Int.reduceNeg,Zb9,Zkn,htv]
 repeat (with_reducible refine And.intro (by first | omega | decide) ?_)
 refine Zki (a:=(B.drop (2 * 1)).take 2) (b:=vnl (2 ^ L)) (by have:=hb2 1; omega) (by omega) ?_
 simp -implicitDefEqProofs only [go_sem,Nat.reduceAdd,Nat.reduceMul,Nat.reduceEqDiff,Nat.reduceLT,Nat.reduceLeDiff,List.take_length]
 refine Zhg (a:=cut (bkR (celL rows vals L 1 (2 ^ L))).1) (b:=pm ((B.drop (2 * 1)).take 2) (vnl (2 ^ L))) (by have:=hcl 1; omega) (by have:=hp2 1; omega) ?_
 simp -implicitDefEqProofs only [go_sem,Nat.reduceAdd,Nat.reduceMul,Nat.reduceEqDiff,Nat.reduceLT,Nat.reduceLeDiff,Int.reduceToNat,Int.reduceLT,Int.reduceLE,Int.reduceAdd,Int.reduceNeg,hc 2]
 refine Zc2 (l:=celL rows vals L 2 (2 ^ L)) (by rw [cel_len]; omega) ?_
 simp -implicitDefEqProofs only [go_sem,Nat.reduceAdd,Nat.reduceSub,Nat.reduceEqDiff,Nat.reduceLT,Nat.reduceLeDiff,Int.reduceToNat,Int.reduceLE,Int.reduceAdd,Int.reduceMul,Int.reduceNeg,Zb9,Zkn,htv]
 repeat (with_reducible refine And.intro (by first | omega | decide) ?_)
 refine Zki (a:=(B.drop (2 * 2)).take 2) (b:=vnl (2 ^ L)) (by have:=hb2 2; omega) (by omega) ?_
 simp -implicitDefEqProofs only [go_sem,Nat.reduceAdd,Nat.reduceMul,Nat.reduceEqDiff,Nat.reduceLT,Nat.reduceLeDiff,List.take_length]
 refine Zhg (a:=cut (bkR (celL rows vals L 2 (2 ^ L))).1) (b:=pm ((B.drop (2 * 2)).take 2) (vnl (2 ^ L))) (by have:=hcl 2; omega) (by have:=hp2 2; omega) ?_
 simp -implicitDefEqProofs only [go_sem,Nat.reduceAdd,Nat.reduceMul,Nat.reduceEqDiff,Nat.reduceLT,Nat.reduceLeDiff,Int.reduceToNat,Int.reduceLT,Int.reduceLE,Int.reduceAdd,Int.reduceNeg]
 rw [Znj (e:=25) (T:=fun j=>celL rows vals L j (2 ^ L)) rfl rfl rfl cel_len.symm cel_len.symm cel_len.symm]
 simp -implicitDefEqProofs only [go_sem,Zf,Za,Zh,Zb,Zs,Bool.and_false]
 refine Zpj (W:=fun j=>celL rows vals L j (2 ^ L)) (S:=fun j=>nmL rows l L j (2 ^ L)) hL.1 hL.2 (fun j=>cel_len) (fun j=>Zdf) (fun hx=>?_) (fun hx=>?_)
 ·have hKf:=hKe.1 hx
  clear hKe
  have hzl:(cut (bkR ([]:List F)).1).length ≤ 2 ^ L:=Nat.le_trans (hbk _) (by first | exact Nat.zero_le _ | (rw [Zk3]; omega))
  have h63:((B.drop 6).take 3).length ≤ 3:=by rw [List.length_take]; omega
  have hp3:=pm_le ((B.drop 6).take 3) (vnl (2 ^ L))
  simp -implicitDefEqProofs only [go_sem,Nat.reduceAdd,Nat.reduceEqDiff,Nat.reduceLT,Nat.reduceLeDiff]
  refine Zc2 (l:=([]:List F)) (by first | decide | (rw [Zk3]; omega)) ?_
  simp -implicitDefEqProofs only [go_sem,Nat.reduceAdd,Nat.reduceSub,Nat.reduceEqDiff,Nat.reduceLT,Nat.reduceLeDiff,Int.reduceToNat,Int.reduceLE,Zb9,Zkn,htv]
  repeat (with_reducible refine And.intro (by first | omega | decide) ?_)
  refine Zki (a:=(B.drop 6).take 3) (b:=vnl (2 ^ L)) (by omega) (by omega) ?_
  simp -implicitDefEqProofs only [go_sem,Nat.reduceAdd,Nat.reduceEqDiff,Nat.reduceLT,Nat.reduceLeDiff,List.take_length]
  refine Zhg (a:=cut (bkR ([]:List F)).1) (b:=pm ((B.drop 6).take 3) (vnl (2 ^ L))) (by omega) (by omega) ?_
  simp -implicitDefEqProofs only [go_sem,Nat.reduceAdd,Nat.reduceEqDiff,Nat.reduceLT,Nat.reduceLeDiff]
  refine Zhf hL.1 hL.2 (by omega) ?_
  have hpt:List.take (2 ^ L) (pbL pubs (2 ^ L) pubs.length) = pbL pubs (2 ^ L) pubs.length:=List.take_of_length_le (by rw [Zfe]; omega)
  simp -implicitDefEqProofs only [go_sem,Nat.reduceAdd,Nat.reduceEqDiff,Nat.reduceLT,Nat.reduceLeDiff,hpt]
  refine Zc2 (l:=pbL pubs (2 ^ L) pubs.length) (by rw [Zfe]; omega) ?_
  simp -implicitDefEqProofs only [go_sem,Nat.reduceAdd,Nat.reduceMul,Nat.reduceEqDiff,Nat.reduceLT,Nat.reduceLeDiff,Int.reduceBEq,Bool.and_self]
  refine Zbu (n:=0) (own:=[]) [(16,0),(19,1),(22,2),(27,3),(29,4)] (hoO rows vals B pubs [] L) [polV rows l L,.agg [.osl 0 [] 0 (wiP rows vals B L 0).length,.osl 1 [] 0 (wiP rows vals B L 1).length,.osl 2 [] 0 (wiP rows vals B L 2).length],.osl 3 [] 0 (zeP [] B L).length,.osl 4 [] 0 (puP pubs L).length,bo false] rfl rfl rfl rfl ?_ ?_ hKf
  ·simp -implicitDefEqProofs only [go_sem,Nat.reduceAdd,Nat.reduceMul,Nat.reduceEqDiff,Nat.reduceLT,hoO,wiP,zeP,puP,Nat.mul_zero,Nat.mul_one,List.drop_zero]
  ·simp -implicitDefEqProofs only [go_sem,Nat.reduceMul,Nat.reduceEqDiff,Zjm,frzF,wiP,zeP,puP,Nat.mul_zero,Nat.mul_one,List.drop_zero,Zf,Za,Zc,Zz,Zh,Zb,Zs,Bool.and_self,Zr,Zw]
 ·have hKf:=hKe.2 hx
  clear hKe
  have hzl:(cut (bkR (rzL L be ga (fun j=>celL rows vals L j (2 ^ L)) (fun j=>nmL rows l L j (2 ^ L)) (2 ^ L))).1).length ≤ 2 ^ L:=Nat.le_trans (hbk _) (by first | exact Nat.zero_le _ | (rw [Zk3]; omega))
  have h63:((B.drop 6).take 3).length ≤ 3:=by rw [List.length_take]; omega
  have hp3:=pm_le ((B.drop 6).take 3) (vnl (2 ^ L))
  have hrt:List.take (2 ^ L) (rzL L be ga (fun j=>celL rows vals L j (2 ^ L)) (fun j=>nmL rows l L j (2 ^ L)) (2 ^ L)) = (rzL L be ga (fun j=>celL rows vals L j (2 ^ L)) (fun j=>nmL rows l L j (2 ^ L)) (2 ^ L)):=List.take_of_length_le (by rw [Zk3]; omega)
  simp -implicitDefEqProofs only [go_sem,Nat.reduceAdd,Nat.reduceEqDiff,Nat.reduceLT,Nat.reduceLeDiff,hrt]
  refine Zc2 (l:=(rzL L be ga (fun j=>celL rows vals L j (2 ^ L)) (fun j=>nmL rows l L j (2 ^ L)) (2 ^ L))) (by first | decide | (rw [Zk3]; omega)) ?_
  simp -implicitDefEqProofs only [go_sem,Nat.reduceAdd,Nat.reduceSub,Nat.reduceEqDiff,Nat.reduceLT,Nat.reduceLeDiff,Int.reduceToNat,Int.reduceLE,Zb9,Zkn,htv]
  repeat (with_reducible refine And.intro (by first | omega | decide) ?_)
  refine Zki (a:=(B.drop 6).take 3) (b:=vnl (2 ^ L)) (by omega) (by omega) ?_
  simp -implicitDefEqProofs only [go_sem,Nat.reduceAdd,Nat.reduceEqDiff,Nat.reduceLT,Nat.reduceLeDiff,List.take_length]
  refine Zhg (a:=cut (bkR (rzL L be ga (fun j=>celL rows vals L j (2 ^ L)) (fun j=>nmL rows l L j (2 ^ L)) (2 ^ L))).1) (b:=pm ((B.drop 6).take 3) (vnl (2 ^ L))) (by omega) (by omega) ?_
  simp -implicitDefEqProofs only [go_sem,Nat.reduceAdd,Nat.reduceEqDiff,Nat.reduceLT,Nat.reduceLeDiff]
  refine Zhf hL.1 hL.2 (by omega) ?_
  have hpt:List.take (2 ^ L) (pbL pubs (2 ^ L) pubs.length) = pbL pubs (2 ^ L) pubs.length:=List.take_of_length_le (by rw [Zfe]; omega)
  simp -implicitDefEqProofs only [go_sem,Nat.reduceAdd,Nat.reduceEqDiff,Nat.reduceLT,Nat.reduceLeDiff,hpt]
  refine Zc2 (l:=pbL pubs (2 ^ L) pubs.length) (by rw [Zfe]; omega) ?_
  simp -implicitDefEqProofs only [go_sem,Nat.reduceAdd,Nat.reduceMul,Nat.reduceEqDiff,Nat.reduceLT,Nat.reduceLeDiff,Bool.and_self]
  refine Zbu (n:=0) (own:=[]) [(16,0),(19,1),(22,2),(27,3),(29,4)] (hoO rows vals B pubs (rzL L be ga (fun j=>celL rows vals L j (2 ^ L)) (fun j=>nmL rows l L j (2 ^ L)) (2 ^ L)) L) [polV rows l L,.agg [.osl 0 [] 0 (wiP rows vals B L 0).length,.osl 1 [] 0 (wiP rows vals B L 1).length,.osl 2 [] 0 (wiP rows vals B L 2).length],.osl 3 [] 0 (zeP (rzL L be ga (fun j=>celL rows vals L j (2 ^ L)) (fun j=>nmL rows l L j (2 ^ L)) (2 ^ L)) B L).length,.osl 4 [] 0 (puP pubs L).length,bo true] rfl rfl rfl rfl ?_ ?_ hKf
  ·simp -implicitDefEqProofs only [go_sem,Nat.reduceAdd,Nat.reduceMul,Nat.reduceEqDiff,Nat.reduceLT,hoO,wiP,zeP,puP,Nat.mul_zero,Nat.mul_one,List.drop_zero]
  ·simp -implicitDefEqProofs only [go_sem,Nat.reduceMul,Nat.reduceEqDiff,Zjm,frzF,wiP,zeP,puP,Nat.mul_zero,Nat.mul_one,List.drop_zero,Zf,Za,Zc,Zz,Zh,Zb,Zs,Bool.and_self,Zr,Zw]
end Go.Proofs.Tryz.PMT
namespace Go.Proofs.PL
theorem f_mulc (a b:F):a * b = b * a:=by grind
structure InjB (s:Nat→Nat) (n:Nat):Prop where
 lt:∀ x,x < n→s x < n
 inj:∀ x y,x < n→y < n→s x = s y→x = y
end Go.Proofs.PL
namespace Go.Proofs.PL
theorem Z1r {n:Nat} (hn:0 < n):(cut (vnl n)).length ≠ 0:=by
 rw [Zrx hn,Zg0]; omega
theorem Z2o {n:Nat} (hn:0 < n) (f:List F) (x:F):hor x f = hor x (qtV n f) * (x ^ n - 1) + hor x (dv f (vnl n)).2.1:=by
 have h:=congrArg (hor x) (Z5a f (vnl n) (Z1r hn))
 rw [Zkl x f,Zp9,Ztk,Zv5 hn] at h
 exact h.symm
theorem Z3u {n:Nat} (hn:0 < n) (f:List F):(dv f (vnl n)).2.1.length ≤ n:=by
 have h:=Z01 f (vnl n) (Z1r hn)
 rw [Zrx hn,Zg0,(Z2p f (vnl n)).2] at h
 omega
theorem Zx3 {n:Nat} (hn:0 < n) (f:List F):hol n f = true ↔ (dv f (vnl n)).2.1.length = 0:=by
 rw [← hol_dv hn f,decide_eq_true_eq]
theorem Z42 {n:Nat} (hn:0 < n) {f:List F} (h:hol n f = true) (x:F):hor x f = hor x (qtV n f) * (x ^ n - 1):=by
 have h1:=Z2o hn f x
 rw [List.eq_nil_of_length_eq_zero ((Zx3 hn f).1 h)] at h1
 rw [h1]
 exact Zeu _
theorem Zo8 {L i:Nat} (hL:L ≤ 32):(rt L ^ i) ^ 2 ^ L = 1:=by
 rw [← Zc6,Nat.mul_comm,Zc6,Zjj hL,Zcj]
theorem Zyg (a:F):a - a = 0:=by grind
theorem Zyh (a:F):a * 0 = 0:=by grind
theorem Zx2 {L:Nat} (hL:L ≤ 32) {f:List F}:(∀ i,i < 2 ^ L→hor (rt L ^ i) f = 0)→hol (2 ^ L) f = true:=fun h=>by
 have hn:=Nat.two_pow_pos L
 rw [Zx3 hn]
 have hz:∀ i,(dv f (vnl (2 ^ L))).2.1.getD i 0 = 0:=by
  refine Zql (2 ^ L) _ (Z3u hn f) ((List.range (2 ^ L)).map fun i=>rt L ^ i) ?_ ?_ (by rw [List.length_map,List.length_range]; exact Nat.le_refl _)
  ·unfold List.Nodup
   rw [List.pairwise_map]
   refine List.Pairwise.imp_of_mem ?_ (List.nodup_range (n:=2 ^ L))
   intro a b ha hb hne e
   exact hne (rt_eq hL (List.mem_range.1 ha) (List.mem_range.1 hb) e)
  ·intro z hz
   obtain ⟨i,hi,rfl⟩:=List.mem_map.1 hz
   have h1:=Z2o hn f (rt L ^ i)
   rw [h i (List.mem_range.1 hi),Zo8 hL,Zyg,Zyh,Zev] at h1
   exact h1.symm
 have h2:cut (dv f (vnl (2 ^ L))).2.1 = cut []:=Zhm fun i=>by rw [hz i]; rfl
 rw [(Z2p f (vnl (2 ^ L))).2] at h2
 rw [h2]; rfl
theorem Zzi {L i:Nat} (hL:L ≤ 32):hor (rt L ^ i) (vnl (2 ^ L)) = 0:=by
 rw [Zv5 (Nat.two_pow_pos L),Zo8 hL,Zyg]
theorem Zs1 {L i:Nat} {v:List F} (hL:L ≤ 9) (hv:v.length = 2 ^ L) (hi:i < 2 ^ L):hor (rt L ^ i) (cut (bkR v).1) = v.getD i 0:=by
 rw [Zkl,Zmf (by rw [hv]; exact Z2f hL)]
 exact Z5s (Nat.le_trans hL (by decide)) hv hi
theorem Z5o {L i:Nat} {v c:List F} (hL:L ≤ 9) (hv:v.length = 2 ^ L) (hi:i < 2 ^ L):hor (rt L ^ i) (adc (cut (bkR v).1) (pm c (vnl (2 ^ L)))) = v.getD i 0:=by
 rw [Zy3,Ztk,Zs1 hL hv hi,Zzi (Nat.le_trans hL (by decide)),Zyh,Zeu]
theorem Z3n {L i:Nat} (hL:L ≤ 32):rt L * rt L ^ i = rt L ^ ((i + 1) % 2 ^ L):=by
 rw [← Zwu hL,Zbh]
 exact f_mulc ..
end Go.Proofs.PL
namespace Go.Proofs.Tryz.PMT
open Go Go.Proofs.PM Go.Proofs.PL Go.Proofs.Tryz
set_option maxRecDepth 4000
theorem Zpx {α:Type} {f:Nat→α} {n i:Nat} {d:α} (h:i < n):((List.range n).map f).getD i d = f i:=by
 rw [List.getD_eq_getElem?_getD,List.getElem?_eq_getElem (by rw [List.length_map,List.length_range]; exact h),List.getElem_map,List.getElem_range]
 rfl
theorem Zs0 {rows:List Rw} {vals:List F} {L j m i:Nat} (h:i < m):(celL rows vals L j m).getD i 0 = celV rows vals L (j * 2 ^ L + i):=Zpx h
theorem Zrm {q t:Nat→F}:∀ n,(∀ i,i < n→q i = 0)→dotS q t n = 0
 | 0,_=>rfl
 | n + 1,h=>by
  show dotS q t n + q n * t n = 0
  rw [Zrm n fun i hi=>h i (by omega),h n (by omega),Zdy]
  exact Zev 0
theorem Zx4 {q:Nat→F} {a b c x:F} (h:∀ i,i < 8→q i = 0):gval q a b c x = 0:=Zrm 8 h
theorem Z5e {rows:List Rw} {s n t i:Nat} (h:i < n):(colT rows s n t).getD i 0 = if i < t then (rows.getD i default).q.getD s 0 else 0:=Zpx h
theorem Z17 {pubs:List F} {n t i:Nat} (h:i < n):(pbL pubs n t).getD i 0 = if i < t then 0 - pubs.getD i 0 else 0:=Zpx h
end Go.Proofs.Tryz.PMT
namespace Go.Proofs.PL
theorem pm_lq {a b:List F} {n m:Nat} (ha:a.length ≤ n) (hb:b.length ≤ m):(pm a b).length ≤ n + m - 1:=by
 have h1:=Zbc a
 have h2:=Zbc b
 rw [Zqo]
 split <;> omega
theorem bl_lq {v c:List F} {n k:Nat} (hv:v.length ≤ n) (hc:c.length ≤ k):(adc (cut (bkR v).1) (pm c (vnl n))).length ≤ n + k:=by
 have h1:=pm_lq hc (Nat.le_of_eq (Zg0 n))
 have h2:=Nat.le_trans (Zbc _) (Nat.le_trans (Zuq v) hv)
 exact Nat.le_trans (Zur ..) (by omega)
end Go.Proofs.PL
namespace Go.Proofs.PL
theorem Z41 {L:Nat} (hL:L ≤ 32) {f:List F}:hol (2 ^ L) f = true ↔ ∀ i,i < 2 ^ L→hor (rt L ^ i) f = 0:=by
 refine ⟨fun h i _=>?_,Zx2 hL⟩
 rw [Z42 (Nat.two_pow_pos L) h,Zo8 hL,Zyg,Zyh]
theorem Zl8 {n L M:Nat} (hL:1 ≤ L) (hM:1 ≤ M) (h1:n ≤ 2 ^ L) (h2:L = 1 ∨ 2 ^ (L - 1) < n) (h3:n ≤ 2 ^ M) (h4:M = 1 ∨ 2 ^ (M - 1) < n):L = M:=by
 apply Decidable.byContradiction
 intro hne
 by_cases h:L < M
 ·have:=Nat.pow_le_pow_right (n:=2) (by decide) (show L ≤ M - 1 by omega)
  omega
 ·have:=Nat.pow_le_pow_right (n:=2) (by decide) (show M ≤ L - 1 by omega)
  omega
end Go.Proofs.PL
namespace Go.Proofs.PM
open Go
theorem PSpec.arg {P:Program} {f:FuncId} {args args':List PV} {own:List Ob} {K:PV→List Ob→Prop} (h:∀ E vs,RT E args vs→RT E args' vs) (hp:PSpec P f args' own K):PSpec P f args own K :=
 fun w vs blks cp ro0 h1 h2 h3 h4 h5 h6 h7=>hp w vs blks cp ro0 h1 h2 h3 h4 h5 (h _ _ h6) h7
theorem Z2z {E:Env} {fr:Bool} {s:Sh} {cs:List Value} (h:RF E (.val (.slice none 0 0)) cs):RF E (.vsl fr s []) cs:=by
 simp only [RF] at h ⊢
 exact ⟨none,0,h,Nat.le_refl _,.inl trivial⟩
theorem Zs9 {E:Env} {p p':PV} (hp:∀ cs,RF E p cs→RF E p' cs):∀ (ps:List PV) (cs:List Value),RC E (ps ++ [p]) cs→RC E (ps ++ [p']) cs
 | [],cs,h=>by
  simp only [List.nil_append,RC] at h ⊢
  obtain ⟨c1,c2,h1,h2,h3⟩:=h
  exact ⟨c1,c2,h1,hp _ h2,h3⟩
 | q :: ps,cs,h=>by
  simp only [List.cons_append,RC] at h ⊢
  obtain ⟨c1,c2,h1,h2,h3⟩:=h
  exact ⟨c1,c2,h1,h2,Zs9 hp ps c2 h3⟩
theorem Z52 {E:Env} {fr:Bool} {s:Sh} {ps args:List PV} {vs:List Value} (h:RT E (.agg (ps ++ [.val (.slice none 0 0)]) :: args) vs):RT E (.agg (ps ++ [.vsl fr s []]) :: args) vs:=by
 simp only [RT] at h ⊢
 obtain ⟨v,r,h1,h2,h3⟩:=h
 refine ⟨v,r,h1,?_,h3⟩
 simp only [R] at h2 ⊢
 obtain ⟨cs,h4,h5⟩:=h2
 exact ⟨cs,h4,Zs9 (fun _=>Z2z) ps _ h5⟩
theorem Zuv {E:Env} {fr:Bool} {s:Sh} {ps qs args:List PV} {vs:List Value} (h:RT E (.agg (.agg (ps ++ [.val (.slice none 0 0)]) :: qs) :: args) vs):RT E (.agg (.agg (ps ++ [.vsl fr s []]) :: qs) :: args) vs:=by
 simp only [RT] at h ⊢
 obtain ⟨v,r,h1,h2,h3⟩:=h
 refine ⟨v,r,h1,?_,h3⟩
 simp only [R] at h2 ⊢
 obtain ⟨cs,h4,h5⟩:=h2
 refine ⟨cs,h4,?_⟩
 simp only [RC] at h5 ⊢
 obtain ⟨c1,c2,g1,g2,g3⟩:=h5
 refine ⟨c1,c2,g1,?_,g3⟩
 simp only [RF] at g2 ⊢
 exact Zs9 (fun _=>Z2z) ps _ g2
end Go.Proofs.PM
namespace Go.Proofs.Tryz.PMT
open Go Go.Proofs.PM Go.Proofs.PL Go.Proofs.Tryz
set_option maxRecDepth 4000
def chkF (rows:List Rw) (vals pubs:List F) (L i:Nat):F :=
 gval (fun k=>if i < rows.length then (rows.getD i default).q.getD k 0 else 0) (celV rows vals L (0 * 2 ^ L + i)) (celV rows vals L (1 * 2 ^ L + i)) (celV rows vals L (2 * 2 ^ L + i)) (celV rows vals L (0 * 2 ^ L + (i + 1) % 2 ^ L)) + (if i < pubs.length then 0 - pubs.getD i 0 else 0)
theorem Zx9 {rows:List Rw} {vals pubs:List F} {L:Nat} (hL:L ≤ 9) {a b c p:List F} {i:Nat} (hi:i < 2 ^ L)
  (ha:∀ i,i < 2 ^ L→hor (rt L ^ i) a = celV rows vals L (0 * 2 ^ L + i)) (hb:hor (rt L ^ i) b = celV rows vals L (1 * 2 ^ L + i)) (hc:hor (rt L ^ i) c = celV rows vals L (2 * 2 ^ L + i))
  (hp:hor (rt L ^ i) p = if i < pubs.length then 0 - pubs.getD i 0 else 0):hor (rt L ^ i) (gtS (rt L) (qpL rows (2 ^ L)) a b c p 8) = chkF rows vals pubs L i:=by
 have hq:∀ k,hor (rt L ^ i) (qpL rows (2 ^ L) k) = if i < rows.length then (rows.getD i default).q.getD k 0 else 0:=fun k=>by
  rw [qpL,Zs1 hL Zfs hi,Z5e hi]
 rw [Z47,Z3n (Nat.le_trans hL (by decide)),ha i hi,hb,hc,hp,ha _ (Nat.mod_lt _ (Nat.two_pow_pos L)),chkF]
 have hg:∀ a b c x:F,gval (fun k=>hor (rt L ^ i) (qpL rows (2 ^ L) k)) a b c x = gval (fun k=>if i < rows.length then (rows.getD i default).q.getD k 0 else 0) a b c x:=fun a b c x =>
  Zop 8 (fun k _=>hq k) (fun _ _=>rfl)
 rw [hg]
 generalize gval (fun k=>if i < rows.length then (rows.getD i default).q.getD k 0 else 0) (celV rows vals L (0 * 2 ^ L + i)) (celV rows vals L (1 * 2 ^ L + i)) (celV rows vals L (2 * 2 ^ L + i)) (celV rows vals L (0 * 2 ^ L + (i + 1) % 2 ^ L)) = u
 generalize (if i < pubs.length then 0 - pubs.getD i 0 else 0) = v
 grind
theorem Zmd {rows:List Rw} {vals B pubs:List F} {L:Nat} (hL:L ≤ 9):hol (2 ^ L) (gtS (rt L) (qpL rows (2 ^ L)) (wiP rows vals B L 0) (wiP rows vals B L 1) (wiP rows vals B L 2) (puP pubs L) 8) = true ↔ ∀ i,i < 2 ^ L→chkF rows vals pubs L i = 0:=by
 have hw:∀ j i,i < 2 ^ L→hor (rt L ^ i) (wiP rows vals B L j) = celV rows vals L (j * 2 ^ L + i):=fun j i hi=>by
  rw [wiP,Z5o hL cel_len hi,Zs0 hi]
 have hp:∀ i,i < 2 ^ L→hor (rt L ^ i) (puP pubs L) = if i < pubs.length then 0 - pubs.getD i 0 else 0:=fun i hi=>by
  rw [puP,Zs1 hL Zfe hi,Z17 hi]
 rw [Z41 (Nat.le_trans hL (by decide))]
 refine ⟨fun h i hi=>?_,fun h i hi=>?_⟩
 ·rw [← h i hi]
  exact (Zx9 hL hi (hw 0) (hw 1 i hi) (hw 2 i hi) (hp i hi)).symm
 ·rw [Zx9 hL hi (hw 0) (hw 1 i hi) (hw 2 i hi) (hp i hi)]
  exact h i hi
end Go.Proofs.Tryz.PMT
namespace Go.Proofs.Tryz.PMT
open Go Go.Proofs.PM Go.Proofs.PL Go.Proofs.Tryz
variable {K:PV→List Ob→Prop}
set_option maxRecDepth 4000
theorem Z1g {V:Nat} {vals:List F} {l:List Int} (hl:ClsI [] V l) {i:Nat} (hi:i < V):vals.getD (l.getD i 0).toNat 0 = vals.getD i 0 :=
 hl.snd (fun i=>vals.getD i 0) (fun p hp=>by cases hp) i hi
set_option maxHeartbeats 16000000 in
theorem Zsl {P V:Nat} {rows:List Rw} {pubs vals:List F} (h:CG P V rows []) (hv:vals.length = V) (hp:pubs.length = P)
  (hK:∀ L,(1 ≤ L ∧ L ≤ 6)→rows.length ≤ 2 ^ L→(L = 1 ∨ 2 ^ (L - 1) < rows.length)→(∀ i,i < 2 ^ L→chkF rows vals pubs L i = 0)→K (.tup [i64 0,i64 0]) [])
  (hbad:∀ L (i:Nat),(1 ≤ L ∧ L ≤ 6)→rows.length ≤ 2 ^ L→(L = 1 ∨ 2 ^ (L - 1) < rows.length)→i < 2 ^ L→chkF rows vals pubs L i ≠ 0→K (.tup [i64 i,i64 12]) []) :
  PSpec prog 8 [cV P V rows [],.vsl false (.arr 4 .one) (ffs pubs),.vsl false (.arr 4 .one) (ffs vals)] [] K:=by
 refine Zgv ?_
 simp only [yS,yN,yG,yT,yI,yF,yZ,yM,yU,yL,yB,yR,Zc9,cV,sR]
 simp -implicitDefEqProofs only [go_sem,Nat.reduceAdd,Nat.reduceSub,Nat.reduceLT,Zf9]
 refine Zq7 h ?_
 have a4:((pubs.length:Int) != (P:Int)) = false:=by rw [hp]; simp
 have a5:((pubs.length:Int) == (P:Int)) = true:=by rw [hp]; simp
 have a6:((vals.length:Int) != (V:Int)) = false:=by rw [hv]; simp
 have a7:((vals.length:Int) == (V:Int)) = true:=by rw [hv]; simp
 simp -implicitDefEqProofs only [go_sem,Nat.reduceLT,Int.reduceBNe,a4,a6,Zf9]
 refine Zkh h.v200 h.s200 h.sin fun l hl=>?_
 simp -implicitDefEqProofs only [go_sem,Nat.reduceAdd,Nat.reduceEqDiff,Nat.reduceLeDiff]
 refine Zx (ι:={ i:Nat // i ≤ V }) [0,6,7,10,19,34,36,37,38,39,40,41,42,43,44,45,46,47,48,49,50,51,52,53,54] (fun i=>[(10,i64 i.1)]) (fun _=>[(0,.ob (.var shC (cV P V rows []))),(1,.ob (.row 3 .one (izs l)))]) 2 (fun i=>V - i.1) ⟨0,Nat.zero_le _⟩ ?_ ?_
 ·rw [Zg]
  refine Zv [(0,0),(1,1)] rfl rfl rfl ?_ ?_
  ·simp -implicitDefEqProofs only [go_sem,Nat.reduceEqDiff,Nat.reduceLT,cV,sR,shC,Zf,Za,Zc,Zh,Zb,Zi,Zj]
  ·simp -implicitDefEqProofs only [go_sem,Nat.reduceEqDiff]
 intro ⟨i,hi⟩ G hG
 simp -implicitDefEqProofs only [go_sem,Nat.reduceEqDiff,cV,sR,shC]
 refine Zk (fun hlt=>?_) (fun hlt=>?_)
 ·simp only [decide_eq_true_eq] at hlt
  have cw:IntKind.i64.wrap ((i:Int) + 1) = ((i + 1:Nat):Int):=by rw [wrs (by have:=h.v200; omega) (by have:=h.v200; omega)]; omega
  have hiV:i < V:=by omega
  have hil:i < l.length:=by rw [hl.len]; exact hiV
  have hr:=hl.rng i hiV
  have hcc:=Z1g (vals:=vals) hl hiV
  obtain ⟨u,hu⟩:∃ u:Nat,l.getD i 0 = (u:Int):=⟨(l.getD i 0).toNat,by omega⟩
  rw [hu] at hr hcc
  rw [Int.toNat_natCast] at hcc
  have g0:(izs l).getD i .any = i64 (u:Int):=by rw [Zca hil,izP,hu]
  have g1:=Zu (l:=vals) (i:=i) (by omega)
  have g2:=Zu (l:=vals) (i:=u) (by omega)
  simp -implicitDefEqProofs only [go_sem,Nat.reduceAdd,Nat.reduceMul,Nat.reduceEqDiff,cw,g0,g1,g2,hcc,ff_cmp,ff_beq]
  refine ⟨by omega,by omega,by omega,?_⟩
  refine hG _ ⟨i + 1,by omega⟩ (by show V - (i + 1) < V - i; omega) ?_
  rw [Zg]
  refine Zv [(0,0),(1,1)] rfl rfl rfl ?_ ?_
  ·simp -implicitDefEqProofs only [go_sem,Nat.reduceEqDiff,Nat.reduceLT,cV,sR,shC,Zf,Za,Zc,Zh,Zb,Zi,Zj]
  ·simp -implicitDefEqProofs only [go_sem,Nat.reduceEqDiff]
 simp only [decide_eq_false_iff_not] at hlt
 clear hG
 simp -implicitDefEqProofs only [go_sem,Nat.reduceEqDiff,Nat.reduceLT,Zf9]
 refine Zq8 h.r64 fun L hL hrl hLm=>?_
 have hK':=hK L hL hrl hLm
 have hbad':=hbad L
 simp -implicitDefEqProofs only [go_sem,Nat.reduceEqDiff,Nat.reduceLT,Zf9]
 refine Zm8 h hv hL.1 hL.2 hrl ?_
 simp -implicitDefEqProofs only [go_sem,Nat.reduceAdd,Nat.reduceEqDiff,Nat.reduceLT,Nat.reduceLeDiff]
 refine Zhf hL.1 hL.2 (by have:=h.pr; omega) ?_
 have hsh:=shl1 (show L < 63 by omega)
 simp -implicitDefEqProofs only [go_sem,Nat.reduceAdd,Nat.reduceEqDiff,Nat.reduceLT,Nat.reduceLeDiff,↓hsh]
 have hn0:=Nat.two_pow_pos L
 have hn:2 ^ L ≤ 64:=Nat.pow_le_pow_right (n:=2) (by decide) hL.2
 obtain ⟨n,hn'⟩:∃ n,2 ^ L = n:=⟨_,rfl⟩
 rw [hn'] at hn0 hn hK' hbad' hrl
 rw [hn']
 refine Zx (ι:={ i:Nat // i ≤ n ∧ ∀ k,k < i→chkF rows vals pubs L k = 0 }) [6,7,10,17,18,34,35,36,37,38,39,40,41,42,43,44,45,46,47,48,49,50,51,52,53,54,55,56,57,58,59,60,61,62,63,64,65,66,67,68,69,72,73,74,75,76,77,78,79,80,81,82,83,84,85,86,87,88,89,90,91,92,93,94,95,96,97,98,99,100,101,102,103,104,105,106,107,108,109,110,111,112,113,114,115,116,117,118,119,120] (fun i=>[(17,i64 i.1)]) (fun _=>[(0,.ob (.var shC (cV P V rows []))),(1,.ob (.row 3 .one (izs l))),(2,.ob (.row 25 (.arr 4 .one) (ffs (celL rows vals L 0 n)))),(3,.ob (.row 25 (.arr 4 .one) (ffs (celL rows vals L 1 n)))),(4,.ob (.row 25 (.arr 4 .one) (ffs (celL rows vals L 2 n)))),(5,.ob (.var (.arr 3 .one) (.agg [.osl 2 [] 0 n,.osl 3 [] 0 n,.osl 4 [] 0 n]))),(6,.ob (.row 25 (.arr 4 .one) (ffs (pbL pubs n pubs.length))))]) 7 (fun i=>n - i.1) ⟨0,Nat.zero_le _,fun k hk=>absurd hk (Nat.not_lt_zero k)⟩ ?_ ?_
 ·rw [Zg]
  refine Zv [(0,0),(1,1),(2,2),(3,3),(4,4),(5,5),(6,6)] rfl rfl rfl ?_ ?_
  ·simp -implicitDefEqProofs only [go_sem,Nat.reduceAdd,Nat.reduceEqDiff,Nat.reduceLT,cV,sR,shC,Zf,Za,Zc,Zh,Zb,Zi,Zj,Zr,Zw]
  ·simp -implicitDefEqProofs only [go_sem,Nat.reduceEqDiff]
 intro ⟨i,hi,hz⟩ G hG
 simp -implicitDefEqProofs only [go_sem,cV,sR,shC]
 refine Zk (fun hlt=>?_) (fun hlt=>?_)
 rotate_left
 ·simp only [decide_eq_false_iff_not] at hlt
  simp -implicitDefEqProofs only [go_sem]
  exact Zd rfl (hK' fun k hk=>hz k (by omega))
 simp only [decide_eq_true_eq] at hlt
 have hin:i < n:=by omega
 have cw:IntKind.i64.wrap ((i:Int) + 1) = ((i + 1:Nat):Int):=by rw [wrs (by omega) (by omega)]; omega
 have c0:=Zu (l:=celL rows vals L 0 n) (i:=i) (by rw [cel_len]; omega)
 have c1:=Zu (l:=celL rows vals L 1 n) (i:=i) (by rw [cel_len]; omega)
 have c2:=Zu (l:=celL rows vals L 2 n) (i:=i) (by rw [cel_len]; omega)
 have c3:=Zu (l:=celL rows vals L 0 n) (i:=(i + 1) % n) (by rw [cel_len]; exact Nat.mod_lt _ hn0)
 have c4:=Zu (l:=pbL pubs n pubs.length) (i:=i) (by rw [Zfe]; omega)
 rw [Zs0 hin] at c0 c1 c2
 rw [Zs0 (Nat.mod_lt _ hn0)] at c3
 rw [Z17 hin] at c4
 have hmn:(((i + 1) % n:Nat):Int) < (n:Int):=by have:=Nat.mod_lt (i + 1) hn0; omega
 have htm:((i + 1:Nat):Int).tmod (n:Int) = (((i + 1) % n:Nat):Int):=(Int.ofNat_tmod (i + 1) n).symm
 simp -implicitDefEqProofs only [go_sem,Nat.reduceAdd,Nat.reduceEqDiff]
 refine Zk (fun hr=>?_) (fun hr=>?_)
 ·simp only [decide_eq_true_eq] at hr
  have hr1:i < rows.length:=by omega
  have q8:((rows.getD i default).q.length == 8) = true:=by rw [(rows.getD i default).hq]; rfl
  have hE:gval (fun k=>(rows.getD i default).q.getD k 0) (celV rows vals L (0 * 2 ^ L + i)) (celV rows vals L (1 * 2 ^ L + i)) (celV rows vals L (2 * 2 ^ L + i)) (celV rows vals L (0 * 2 ^ L + (i + 1) % n)) + (if i < pubs.length then 0 - pubs.getD i 0 else 0) = chkF rows vals pubs L i:=by
   rw [chkF,hn']; simp only [if_pos hr1]
  simp -implicitDefEqProofs only [go_sem,Nat.reduceAdd,Nat.reduceMul,Nat.reduceEqDiff,Nat.reduceLT,Int.reduceToNat,Int.reduceLT,Int.reduceLE,Zh2 hr1,rwP,cw,htm,q8,c0,c1,c2,c3,c4,Zn]
  repeat (with_reducible refine And.intro (by first | omega | decide) ?_)
  refine Zm7 (q:=(rows.getD i default).q) (rows.getD i default).hq ?_
  simp -implicitDefEqProofs only [go_sem,Nat.reduceAdd,Nat.reduceMul,Nat.reduceLT]
  refine Zkg ?_
  rw [hE]
  simp -implicitDefEqProofs only [go_sem,Nat.reduceAdd,Nat.reduceMul]
  by_cases hch:chkF rows vals pubs L i = 0
  ·simp -implicitDefEqProofs only [go_sem,decide_eq_true hch,cw]
   refine hG _ ⟨i + 1,by omega,fun k hk=>?_⟩ (by show n - (i + 1) < n - i; omega) ?_
   ·by_cases hk2:k < i
    ·exact hz k hk2
    ·have:k = i:=by omega
     rw [this]; exact hch
   ·rw [Zg]
    refine Zv [(0,0),(1,1),(2,2),(3,3),(4,4),(5,5),(6,6)] rfl rfl rfl ?_ ?_
    ·simp -implicitDefEqProofs only [go_sem,Nat.reduceAdd,Nat.reduceEqDiff,Nat.reduceLT,cV,sR,shC,Zf,Za,Zc,Zh,Zb,Zi,Zj,Zr,Zw]
    ·simp -implicitDefEqProofs only [go_sem,Nat.reduceEqDiff]
  ·simp -implicitDefEqProofs only [go_sem,decide_eq_false hch]
   exact Zd rfl (hbad' i hL hrl hLm hin hch)
 ·simp only [decide_eq_false_iff_not] at hr
  have hr1:¬ i < rows.length:=by omega
  have z8:[ff 0,ff 0,ff 0,ff 0,ff 0,ff 0,ff 0,ff 0] = ffs (List.replicate 8 0):=rfl
  simp -implicitDefEqProofs only [go_sem,Nat.reduceAdd,Nat.reduceMul,Nat.reduceEqDiff,Nat.reduceLT,Int.reduceToNat,Int.reduceLT,Int.reduceLE,cw,htm,c0,c1,c2,c3,c4,Zn,z8]
  have hE:gval (fun k=>([0,0,0,0,0,0,0,0]:List F).getD k 0) (celV rows vals L (0 * 2 ^ L + i)) (celV rows vals L (1 * 2 ^ L + i)) (celV rows vals L (2 * 2 ^ L + i)) (celV rows vals L (0 * 2 ^ L + (i + 1) % n)) + (if i < pubs.length then 0 - pubs.getD i 0 else 0) = chkF rows vals pubs L i:=by
   rw [chkF,Zx4 fun k _=>if_neg hr1,Zx4 fun k hk=>by rcases (by omega:k = 0 ∨ k = 1 ∨ k = 2 ∨ k = 3 ∨ k = 4 ∨ k = 5 ∨ k = 6 ∨ k = 7) with rfl | rfl | rfl | rfl | rfl | rfl | rfl | rfl <;> rfl]
  repeat (with_reducible refine And.intro (by first | omega | decide) ?_)
  refine Zm7 (q:=[0,0,0,0,0,0,0,0]) rfl ?_
  simp -implicitDefEqProofs only [go_sem,Nat.reduceAdd,Nat.reduceMul,Nat.reduceLT]
  refine Zkg ?_
  rw [hE]
  simp -implicitDefEqProofs only [go_sem,Nat.reduceAdd,Nat.reduceMul]
  by_cases hch:chkF rows vals pubs L i = 0
  ·simp -implicitDefEqProofs only [go_sem,decide_eq_true hch,cw]
   refine hG _ ⟨i + 1,by omega,fun k hk=>?_⟩ (by show n - (i + 1) < n - i; omega) ?_
   ·by_cases hk2:k < i
    ·exact hz k hk2
    ·have:k = i:=by omega
     rw [this]; exact hch
   ·rw [Zg]
    refine Zv [(0,0),(1,1),(2,2),(3,3),(4,4),(5,5),(6,6)] rfl rfl rfl ?_ ?_
    ·simp -implicitDefEqProofs only [go_sem,Nat.reduceAdd,Nat.reduceEqDiff,Nat.reduceLT,cV,sR,shC,Zf,Za,Zc,Zh,Zb,Zi,Zj,Zr,Zw]
    ·simp -implicitDefEqProofs only [go_sem,Nat.reduceEqDiff]
  ·simp -implicitDefEqProofs only [go_sem,decide_eq_false hch]
   exact Zd rfl (hbad' i hL hrl hLm hin hch)
end Go.Proofs.Tryz.PMT
namespace Go.Proofs.Tryz.PMT
open Go Go.Proofs.PM Go.Proofs.PL Go.Proofs.Tryz
set_option maxRecDepth 4000
end Go.Proofs.Tryz.PMT
namespace Go.Proofs.Tryz.PMT
open Go Go.Proofs.PM Go.Proofs.PL Go.Proofs.Tryz
set_option maxRecDepth 4000
theorem Zgo {rows:List Rw} {vals B:List F} {L j:Nat}:(wiP rows vals B L j).length ≤ 2 ^ L + 2:=bl_lq (Nat.le_of_eq cel_len) (by rw [List.length_take]; omega)
theorem Zti {pubs:List F} {L:Nat}:(puP pubs L).length ≤ 2 ^ L:=Nat.le_trans (Zbc _) (Nat.le_trans (Zuq _) (Nat.le_of_eq Zfe))
end Go.Proofs.Tryz.PMT
namespace Go.Proofs.Tryz.PMT
open Go Go.Proofs.PM Go.Proofs.PL Go.Proofs.Tryz
variable {K:PV→List Ob→Prop}
set_option maxRecDepth 4000
set_option maxHeartbeats 4000000 in
theorem Z4v {bl:List Int} (hb:∀ x,x ∈ bl→0 ≤ x ∧ x ≤ 255) (hbl:bl.length ≤ 1000) (hK:∀ x,K (ff x) []):PSpec prog 41 [.vsl false .one (by8s bl)] [] K:=by
 refine Zg7 ?_
 simp only [yS,yN,yG,yT,yI,yF,yZ,yM,yU,yL,yB,yR,Zdt]
 simp -implicitDefEqProofs only [go_sem,Nat.reduceAdd,Nat.reduceSub,Nat.reduceEqDiff,Zn]
 refine Zx (ι:={ i:Nat // i ≤ bl.length } × F) [4,5,6,7,8,9,10,11,12,13,14,15,16,17,18,19,20] (fun i=>[(4,i64 i.1.1)]) (fun i=>[(0,.ob (.var (.arr 4 .one) (ff 0))),(1,.ob (.var (.arr 4 .one) (ff i.2)))]) 2 (fun i=>bl.length - i.1.1) ⟨⟨0,Nat.zero_le _⟩,0⟩ ?_ ?_
 ·rw [Zg]
  refine Ze [(0,0),(1,1)] rfl rfl rfl ?_ ?_
  ·simp -implicitDefEqProofs only [go_sem,Nat.reduceEqDiff,Nat.reduceLT]
  ·simp -implicitDefEqProofs only [go_sem,Nat.reduceEqDiff]
 intro ⟨⟨i,hi⟩,x⟩ G hG
 simp -implicitDefEqProofs only [go_sem]
 refine Zk (fun h2=>?_) (fun h2=>?_)
 ·simp only [decide_eq_true_eq] at h2
  have hil:i < bl.length:=by omega
  have hbi:=hb _ (Zf8 (l:=bl) (d:=0) hil)
  have cwi:IntKind.i64.wrap ((i:Int) + 1) = ((i + 1:Nat):Int):=by rw [wrs (by omega) (by omega)]; omega
  have cwb:IntKind.u64.wrap (bl.getD i 0) = bl.getD i 0:=wru (by omega) (by omega)
  simp -implicitDefEqProofs only [go_sem,Nat.reduceAdd,Nat.reduceMul,Nat.reduceEqDiff,Nat.reduceLT,Znf hil,by8P,h2,cwb]
  repeat (with_reducible refine And.intro (by first | omega | decide) ?_)
  refine Zbb (by omega) ?_
  simp -implicitDefEqProofs only [go_sem,Nat.reduceAdd,Nat.reduceMul,Nat.reduceLT]
  refine Zbq ?_
  simp -implicitDefEqProofs only [go_sem,Nat.reduceAdd,Nat.reduceMul,Nat.reduceLT]
  refine Zbb (by omega) ?_
  simp -implicitDefEqProofs only [go_sem,Nat.reduceAdd,Nat.reduceMul,Nat.reduceLT]
  refine Zb6 ?_
  simp -implicitDefEqProofs only [go_sem,Nat.reduceAdd,Nat.reduceMul,Nat.reduceEqDiff,cwi]
  refine hG _ ⟨⟨i + 1,by omega⟩,x * of 256 + of (bl.getD i 0)⟩ (by show bl.length - (i + 1) < bl.length - i; omega) ?_
  rw [Zg]
  refine Ze [(0,0),(1,1)] rfl rfl rfl ?_ ?_
  ·simp -implicitDefEqProofs only [go_sem,Nat.reduceEqDiff,Nat.reduceLT]
  ·simp -implicitDefEqProofs only [go_sem,Nat.reduceEqDiff]
 clear hG h2
 simp -implicitDefEqProofs only [go_sem,Nat.reduceEqDiff]
 exact Zd rfl (hK x)
set_option maxHeartbeats 8000000 in
theorem Zxv {bl:List Int} (hb:∀ x,x ∈ bl→0 ≤ x ∧ x ≤ 255) (hbl:bl.length ≤ 1000) (hK:∀ l:List F,l.length = 9→K (.agg (ffs l)) []):PSpec prog 10 [.vsl false .one (by8s bl)] [] K:=by
 refine Zha ?_
 simp only [yS,yN,yG,yT,yI,yF,yZ,yM,yU,yL,yB,yR,Zdw]
 have h9:(List.replicate 9 (0:F)).length = 9:=rfl
 have hz:[ff 0,ff 0,ff 0,ff 0,ff 0,ff 0,ff 0,ff 0,ff 0] = ffs (List.replicate 9 0):=rfl
 simp -implicitDefEqProofs only [go_sem,Nat.reduceAdd,Nat.reduceSub,Nat.reduceEqDiff,Zn,hz]
 refine Zx (ι:={ i:Nat // i ≤ 9 ∧ i ≤ bl.length } × { l:List F // l.length = 9 }) [4,5,6,7,8,9,10,11,12,13,14,15,16,17,18,19,20,21,22,23,24,25,26,27,28,29,30,31,32,33,34,35,36,37,38,39,40,41,42,43,44,45,46,47,48,49,50,51,52] (fun i=>[(4,i64 i.1.1)]) (fun i=>[(0,.ob (.var (.arr 9 (.arr 4 .one)) (.agg (ffs (List.replicate 9 0))))),(1,.ob (.var (.arr 9 (.arr 4 .one)) (.agg (ffs i.2.1))))]) 2 (fun i=>9 - i.1.1) ⟨⟨0,Nat.zero_le _,Nat.zero_le _⟩,⟨_,h9⟩⟩ ?_ ?_
 ·rw [Zg]
  refine Ze [(0,0),(1,1)] rfl rfl rfl ?_ ?_
  ·simp -implicitDefEqProofs only [go_sem,Nat.reduceAdd,Nat.reduceEqDiff,Nat.reduceLT,PV.plain]
  ·simp -implicitDefEqProofs only [go_sem,Nat.reduceEqDiff]
 intro ⟨⟨i,hi9,hi⟩,⟨l,hl⟩⟩ G hG
 simp -implicitDefEqProofs only [go_sem]
 by_cases h1:(i:Int) < 9
 rotate_left
 ·simp -implicitDefEqProofs only [go_sem,Nat.reduceEqDiff,h1,decide_false]
  exact ⟨by rw [hl]; rfl,Zd (ps:=[.agg (ffs l)]) (by show (PV.agg (ffs l)).plain = true; simp only [PV.plain]; exact Zs) (hK l hl)⟩
 by_cases h2:(i:Int) < (bl.length:Int)
 rotate_left
 ·simp -implicitDefEqProofs only [go_sem,Nat.reduceEqDiff,h1,h2,decide_true,decide_false]
  exact ⟨by rw [hl]; rfl,Zd (ps:=[.agg (ffs l)]) (by show (PV.agg (ffs l)).plain = true; simp only [PV.plain]; exact Zs) (hK l hl)⟩
 have hil:i < bl.length:=by omega
 have hbi:=hb _ (Zf8 (l:=bl) (d:=0) hil)
 have cwi:IntKind.i64.wrap ((i:Int) + 1) = ((i + 1:Nat):Int):=by rw [wrs (by omega) (by omega)]; omega
 have cwb:IntKind.u8.wrap (i:Int) = (i:Int):=by rw [IntKind.wrap_u8]; omega
 obtain ⟨y,hy⟩:∃ y,bl.getD i 0 = y:=⟨_,rfl⟩
 rw [hy] at hbi
 have hrow:[PV.val (.int .u8 y),.val (.int .u8 (i:Int)),.val (.int .u8 y),.val (.int .u8 y),.val (.int .u8 7),.val (.int .u8 y),.val (.int .u8 y),.val (.int .u8 y),.val (.int .u8 y),.val (.int .u8 y)] = by8s [y,(i:Int),y,y,7,y,y,y,y,y]:=rfl
 simp -implicitDefEqProofs only [go_sem,Nat.reduceAdd,Nat.reduceMul,Nat.reduceEqDiff,Nat.reduceLT,h1,h2,decide_true,Znf hil,by8P,hy,cwb,hrow]
 repeat (with_reducible refine And.intro (by first | omega | decide) ?_)
 refine Z4v (bl:=[y,(i:Int),y,y,7,y,y,y,y,y]) (fun x hx=>?_) (by simp) fun x=>?_
 ·simp only [List.mem_cons,List.not_mem_nil,or_false] at hx
  omega
 simp -implicitDefEqProofs only [go_sem,Nat.reduceAdd,Nat.reduceMul,Nat.reduceEqDiff,h1,cwi]
 repeat (with_reducible refine And.intro (by first | omega | decide) ?_)
 refine hG _ ⟨⟨i + 1,by omega,by omega⟩,⟨l.set i x,by rw [List.length_set]; exact hl⟩⟩ (by show 9 - (i + 1) < 9 - i; omega) ?_
 rw [Zg]
 refine Ze [(0,0),(1,1)] rfl rfl rfl ?_ ?_
 ·simp -implicitDefEqProofs only [go_sem,Nat.reduceAdd,Nat.reduceEqDiff,Nat.reduceLT,PV.plain,List.length_set,hl]
 ·simp -implicitDefEqProofs only [go_sem,Nat.reduceEqDiff]
end Go.Proofs.Tryz.PMT
namespace Go.Proofs.PM
open Go Go.ChangeShapes Go.WideShapes
section
variable {H:Type} {enc:TypeId × Value→H} {P:Program} {w:World} {base:Nat} {spare:Nat→Bool} {held:Bool}
end
end Go.Proofs.PM
namespace Go.Proofs.PM
open Go Go.ChangeShapes Go.WideShapes
section
variable {H:Type} {enc:TypeId × Value→H} {P:Program} {w:World} {base:Nat} {spare:Nat→Bool} {held:Bool}
theorem RF_by8 {E:Env} {n:Int}:RF E (by8P n) [.int .u8 n]:=by simp only [by8P,RF]
theorem rd_u8 {e:TypeId} {fuel:Nat} {cs:List Value} {x:DataW H × List MemPlace} (he:P.underlying e = some (.int .u8))
  (h:DataW.trod enc P w base spare held fuel e cs = some x):cs.length = 1 ∧ ∃ n:Int,(0 ≤ n ∧ n ≤ 255) ∧ ∀ E,RF E (by8P n) cs:=by
 obtain ⟨n,e1,_,hw⟩:=DataW.trod_int he h
 subst e1
 have hb:=bounds_u8 hw
 exact ⟨rfl,n,by omega,fun E=>RF_by8⟩
theorem arg_by8s {s t:TypeId} {v:Value} {d:DataW H} {ps:List MemPlace} (hs:P.underlying s = some (.slice t)) (ht:P.underlying t = some (.int .u8)) (c1:P.cellsOf t = 1) (hby:P.bytesOf t = 1) (hva:∀ cs,v ≠ .agg cs)
  (h:DataW.Trod enc P w base spare held s v d ps):∃ l:List Int,(∀ n,n ∈ l→0 ≤ n ∧ n ≤ 255) ∧ ((d.weights P s).all (· ≤ reachBytes) = true→l.length ≤ 140737488351232) ∧ ∀ E:Env,E.w = w→(∀ b,b < w.heap.size→E.ro false b)→R E (.vsl false .one (by8s l)) v:=by
 obtain ⟨fuel,h⟩:=h
 rcases Go.Deep.open_slice hs h with ⟨e1,_⟩ | ⟨a,len,cap,m,n,D,Pl,e1,hb,hlc,hcm,hm,hx,hel⟩
 ·refine ⟨[],by simp,fun _=>by simp,fun E _ _=>?_⟩
  have hv:v = .slice none 0 0:=by
   cases v <;> first | exact absurd rfl (hva _) | (simp [Value.cells] at e1 ⊢ <;> first | exact e1 | skip)
  subst hv
  simp only [R,RF,by8s,List.map_nil,List.length_nil]
  exact ⟨none,0,rfl,Nat.le_refl _,.inl trivial⟩
 ·have hv:v = .slice (some a) len cap:=by
   cases v <;> first | exact absurd rfl (hva _) | (simp [Value.cells] at e1 ⊢ <;> first | exact e1 | skip)
  subst hv
  have hml:len ≤ m:=by rw [hm]; split <;> omega
  obtain ⟨l,hl,hp⟩:=Zvi (n:=len) (p:=fun i (x:Int)=>(0 ≤ x ∧ x ≤ 255) ∧ ∃ cs,w.cells? base (a.add (i * 1)) 1 = some cs ∧ cs.length = 1 ∧ ∀ E,RF E (by8P x) cs) fun i hi=>by
   obtain ⟨cs,h1,h2⟩:=hel i (by omega)
   rw [c1] at h1
   obtain ⟨h3,x,h4,h5⟩:=rd_u8 ht h2
   exact ⟨x,h4,cs,h1,h3,h5⟩
  refine ⟨l,fun x hx=>?_,?_,fun E hE hro=>?_⟩
  ·obtain ⟨i,hi,rfl⟩:=List.getElem_of_mem hx
   exact (hp i hi).1
  ·have hd:d = .slice ((List.range len).map D) ((List.range (m - len)).map fun j=>D (len + j)):=(Prod.mk.inj hx).1
   intro hwt
   rw [hd] at hwt
   simp only [DataW.weights,hs,List.all_cons,Bool.and_eq_true,decide_eq_true_eq,List.length_map,List.length_range,hby,reachBytes] at hwt
   have h1:(len + (m - len)) * 1 ≤ 140737488351232:=of_decide_eq_true hwt.1
   rw [hl]
   omega
  ·simp only [R,RF,Ztv]
   refine ⟨some a,cap,by rw [hl],by omega,?_⟩
   by_cases h0:l.length = 0
   ·left
    have:l = []:=List.length_eq_zero_iff.1 h0
    rw [this]; rfl
   right
   obtain ⟨_,cs0,hc0,hl0,_⟩:=hp 0 (by omega)
   have ha0:a.add (0 * 1) = a:=by simp [Addr.add]
   rw [ha0] at hc0
   have hcell:∃ v0,w.cell? a = some v0:=by
    unfold World.cells? at hc0
    rw [if_pos hb] at hc0
    simp only [show List.range 1 = [0] from rfl,List.mapM_cons,Option.bind_eq_bind,Option.bind_eq_some_iff] at hc0
    obtain ⟨v0,hv0,_⟩:=hc0
    exact ⟨v0,by simpa [Addr.add] using hv0⟩
   obtain ⟨v0,hv0⟩:=hcell
   obtain ⟨hs0,hblk⟩:=Zyu hv0
   refine ⟨a.block,a.off,by cases a; simp_all,hro _ hblk,?_⟩
   refine RV_of _ _ fun i hi=>?_
   simp only [Ztv] at hi
   obtain ⟨_,cs,h1,h2,h3⟩:=hp i hi
   have hb2:base ≤ (a.add (i * 1)).block:=by unfold Addr.add; split <;> exact hb
   have hs2:(a.add (i * 1)).spot = none:=by unfold Addr.add; split <;> simp_all
   have h4:=Zv1 hb2 hs2 h1
   refine ⟨cs,h2,?_,by simpa [by8s] using h3 E⟩
   rw [hE]
   have e2:(a.add (i * 1)).block = a.block:=by unfold Addr.add; split <;> rfl
   have e3:(a.add (i * 1)).off = a.off + i * 1:=by
    unfold Addr.add
    split
    ·rename_i hz; rw [hz]; rfl
    ·rfl
   rw [e2,e3] at h4
   exact h4.2
end
end Go.Proofs.PM
namespace Go.Proofs.Tryz.PMT
open Go Go.Proofs.PM Go.Proofs.Tryz
variable {args:List PV} {own:List Ob} {K:PV→List Ob→Prop}
def Zci:Pc:=(yR [yS 6 (.box yF (yT 2)),yS 8 (.mv (yL false))] (.seq (yR [yS 20 (.call 4 false []),yS 21 (.not (yT 20))] (.cond (yT 21) (yR [yS 8 (.mv (yL false))] .ret) .skip)) (.seq (yR [yM 22 0,yS 23 (.len (yT 22)),yS 24 (.bin .gtr (yT 23) (yI 40)),yM 25 24,yG 26 25 false (.load yF (yT 6)),yG 27 25 false (.call 5 false [((yT 26),none)]),yG 28 25 false (.not (yT 27)),yS 29 (.pick (yT 25) (yL true) (yT 28)),yM 30 29,yG 31 30 false (.mv (yT 3)),yG 32 30 false (.len (yT 31)),yG 33 30 false (.bin .gtr (yT 32) (yI 20)),yS 34 (.pick (yT 30) (yL true) (yT 33))] (.cond (yT 34) (yR [yS 8 (.mv (yL true))] .ret) .skip)) (yR [yM 35 0,yS 36 (.call 6 false [((yT 35),(some .one)),((yI 6),none)]),yS 9 (.alloc (.cons (.cons .one (.cons .one (.cons .one (.cons .one .nil)))) (.cons .one (.cons .one (.cons .one .nil)))) (.agg [(.agg [(.val (.int .i64 0)),(.val (.int .i64 0)),(.val (.slice none 0 0)),(.val (.slice none 0 0))]),(.val (.slice none 0 0)),(.val (.slice none 0 0)),(.val (.slice none 0 0))])),yN (.store (.cons (.cons .one (.cons .one (.cons .one (.cons .one .nil)))) (.cons .one (.cons .one (.cons .one .nil)))) (yT 9) (yT 36))] (yR [yS 37 (.faddr (.cons (.cons .one (.cons .one (.cons .one (.cons .one .nil)))) (.cons .one (.cons .one (.cons .one .nil)))) 0 (yT 9)),yS 38 (.faddr (.cons .one (.cons .one (.cons .one (.cons .one .nil)))) 3 (yT 37)),yN (.store .one (yT 38) (.cst (.val (.slice none 0 0))))] (yR [yS 39 (.bsl 25 yF yZ 0 []),yS 40 (.faddr (.cons (.cons .one (.cons .one (.cons .one (.cons .one .nil)))) (.cons .one (.cons .one (.cons .one .nil)))) 2 (yT 9)),yS 41 (.load .one (yT 40)),yS 42 (.app 25 yF 32 (yT 39) (yT 41)),yS 43 (.faddr (.cons (.cons .one (.cons .one (.cons .one (.cons .one .nil)))) (.cons .one (.cons .one (.cons .one .nil)))) 2 (yT 9)),yN (.store .one (yT 43) (yT 42))] (yR [yM 44 1,yS 45 (.cvi .i64 (yT 44)),yS 46 (.faddr (.cons (.cons .one (.cons .one (.cons .one (.cons .one .nil)))) (.cons .one (.cons .one (.cons .one .nil)))) 2 (yT 9)),yS 47 (.load .one (yT 46)),yS 48 (.len (yT 47)),yB .rem 49 45 48,yM 10 49] (.seq (.drgn 12 [⟨0,.no,yS 50 (.faddr (.cons (.cons .one (.cons .one (.cons .one (.cons .one .nil)))) (.cons .one (.cons .one (.cons .one .nil)))) 2 (yT 9))⟩,⟨1,.no,yS 51 (.load .one (yT 50))⟩,⟨2,.no,yM 52 10⟩,⟨3,.no,yS 53 (.faddr (.cons (.cons .one (.cons .one (.cons .one (.cons .one .nil)))) (.cons .one (.cons .one (.cons .one .nil)))) 2 (yT 9))⟩,⟨4,.no,yS 54 (.load .one (yT 53))⟩,⟨5,.no,yM 55 10⟩,⟨6,.no,yS 56 (.iaddrs yF (yT 54) (yT 55))⟩,⟨7,.no,yS 57 (.load yF (yT 56))⟩,⟨8,.no,yS 58 (.load yF (yT 6))⟩,⟨9,(.av false [50,9]),yS 59 (.call 7 false [((yT 57),none),((yT 58),none)])⟩,⟨10,.no,yS 60 (.iaddrs yF (yT 51) (yT 52))⟩,⟨11,.no,yN (.store yF (yT 60) (yT 59))⟩]) (yR [yS 62 (.faddr (.cons (.cons .one (.cons .one (.cons .one (.cons .one .nil)))) (.cons .one (.cons .one (.cons .one .nil)))) 0 (yT 9)),yS 63 (.load (.cons .one (.cons .one (.cons .one (.cons .one .nil)))) (yT 62)),yS 64 (.faddr (.cons (.cons .one (.cons .one (.cons .one (.cons .one .nil)))) (.cons .one (.cons .one (.cons .one .nil)))) 1 (yT 9)),yS 65 (.load .one (yT 64)),yS 66 (.faddr (.cons (.cons .one (.cons .one (.cons .one (.cons .one .nil)))) (.cons .one (.cons .one (.cons .one .nil)))) 2 (yT 9)),yS 67 (.load .one (yT 66)),yS 68 (.call 8 false [((yT 63),none),((yT 65),(some yF)),((yT 67),(some yF))]),yM 61 68,yS 69 (.ext (yT 61) 0),yS 70 (.ext (yT 61) 1),yM 11 69,yM 12 70] (.seq (.drgn 18 [⟨0,.no,yS 72 (.load (.cons (.cons .one (.cons .one (.cons .one (.cons .one .nil)))) (.cons .one (.cons .one (.cons .one .nil)))) (yT 9))⟩,⟨1,.no,yS 73 (.build (.cons yF (.cons yF (.cons yF (.cons yF (.cons yF (.cons yF .nil)))))) (.agg [yZ,yZ,yZ,yZ,yZ,yZ]) [])⟩,⟨2,.no,yM 74 3⟩,⟨11,.no,yS 13 (.alloc (.cons .one (.cons (.arr 8 .one) (.cons (.arr 3 .one) (.cons (.arr 3 .one) .nil)))) (.agg [(.val (.int .i64 0)),(.agg [(.val (.slice none 0 0)),(.val (.slice none 0 0)),(.val (.slice none 0 0)),(.val (.slice none 0 0)),(.val (.slice none 0 0)),(.val (.slice none 0 0)),(.val (.slice none 0 0)),(.val (.slice none 0 0))]),(.agg [(.val (.slice none 0 0)),(.val (.slice none 0 0)),(.val (.slice none 0 0))]),(.agg [(.val (.slice none 0 0)),(.val (.slice none 0 0)),(.val (.slice none 0 0))])]))⟩,⟨12,.no,yS 14 (.alloc (.arr 3 .one) (.agg [(.val (.slice none 0 0)),(.val (.slice none 0 0)),(.val (.slice none 0 0))]))⟩,⟨3,(.av false [9]),yS 75 (.call 10 false [((yT 74),(some .one))])⟩,⟨4,(.av false []),yS 76 (.call 9 false [((yT 72),none),((yT 73),none),((yT 75),none)])⟩,⟨5,.no,yM 71 76⟩,⟨6,.no,yS 77 (.ext (yT 71) 0)⟩,⟨7,.no,yS 78 (.ext (yT 71) 1)⟩,⟨8,.no,yS 79 (.ext (yT 71) 2)⟩,⟨9,.no,yS 80 (.ext (yT 71) 3)⟩,⟨10,.no,yS 81 (.ext (yT 71) 4)⟩,⟨13,.no,yN (.store (.cons .one (.cons (.arr 8 .one) (.cons (.arr 3 .one) (.cons (.arr 3 .one) .nil)))) (yT 13) (yT 77))⟩,⟨14,.no,yN (.store (.arr 3 .one) (yT 14) (yT 78))⟩,⟨15,.no,yM 15 79⟩,⟨16,.no,yM 16 80⟩,⟨17,.no,yM 17 81⟩]) (.seq (.drgn 10 [⟨0,.no,yS 83 (.load (.cons .one (.cons (.arr 8 .one) (.cons (.arr 3 .one) (.cons (.arr 3 .one) .nil)))) (yT 13))⟩,⟨2,.no,yS 85 (.load (.arr 3 .one) (yT 14))⟩,⟨3,.no,yM 86 16⟩,⟨1,(.av false [14]),yS 84 (.call 1000012 false [((yT 83),none)])⟩,⟨4,.no,yS 87 (.call 11 false [((yT 84),none),((yT 85),none),((yT 86),(some yF))])⟩,⟨5,.no,yM 82 87⟩,⟨6,.no,yS 88 (.ext (yT 82) 0)⟩,⟨7,.no,yS 89 (.ext (yT 82) 1)⟩,⟨8,.no,yM 18 88⟩,⟨9,.no,yM 19 89⟩]) (yR [yM 90 19,yS 91 (.bin .eql (yT 90) (yI 0)),yM 92 91,yG 93 92 true (.mv (yT 18)),yG 94 92 true (.faddr (.cons .one (.cons (.arr 8 .one) (.cons (.arr 3 .one) (.cons (.arr 3 .one) .nil)))) 0 (yT 13)),yG 95 92 true (.load .one (yT 94)),yG 96 92 true (.call 13 false [((yT 93),(some yF)),((yT 95),none)]),yG 97 92 true (.mv (yT 12)),yG 98 92 true (.bin .eql (yT 97) (yI 0)),yG 99 92 true (.eqb false (yT 96) (yT 98)),yS 100 (.pick (yT 92) (yT 99) (yL false)),yM 101 100,yG 102 101 true (.mv (yT 12)),yG 103 101 true (.bin .eql (yT 102) (yI 0)),yG 104 101 true (.mv (yT 103)),yG 105 104 false (.mv (yT 12)),yG 106 104 false (.bin .eql (yT 105) (yI 12)),yG 107 101 true (.pick (yT 104) (yL true) (yT 106)),yS 108 (.pick (yT 101) (yT 107) (yL false)),yM 8 108] .ret))))))))))))
theorem Zfi (h:pwp prog Zci (retQ [.tmp 8] own K) (stIn 109 args own)):PSpec prog 3 args own K:=spec func3 (by kernel_rfl) (by kernel_rfl) (by kernel_rfl) h
end Go.Proofs.Tryz.PMT
