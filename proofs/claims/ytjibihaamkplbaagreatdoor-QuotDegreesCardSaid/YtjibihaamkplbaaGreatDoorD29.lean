/- The contract of intagliolaw27.Honest. No conditions beyond what each names. -/
import Derived.Test.YtjibihaamkplbaaGreatDoorD26
import Derived.Test.YtjibihaamkplbaaGreatDoorD25
import Derived.Test.YtjibihaamkplbaaGreatDoorD28
import Derived.Test.YtjibihaamkplbaaGreatDoorD24
import Derived.Test.YtjibihaamkplbaaGreatDoorD18
import Derived.Test.YtjibihaamkplbaaGreatDoorD15
import Derived.Test.YtjibihaamkplbaaGreatDoorD20
import Derived.Test.YtjibihaamkplbaaGreatDoorD14
import Derived.Test.YtjibihaamkplbaaGreatDoorD21
import Derived.Test.YtjibihaamkplbaaGreatDoorD23
import Derived.Test.YtjibihaamkplbaaGreatDoorD11
import Derived.Test.YtjibihaamkplbaaGreatDoorD16
set_option linter.all false
namespace Go.Proofs.Tryz.PMT
open Go Go.Proofs.PM Go.Proofs.PL Go.Proofs.Tryz
variable {K:PV→List Ob→Prop}
set_option maxRecDepth 4000
abbrev mdV (P V:Nat) (rows:List Rw) (same:List (Int × Int)) (pubs vals:List F) (steps:List Stp):PV:=.agg [cV P V rows same,vF false pubs,vF false vals,.vsl false shS (sts steps)]
def wiP (rows:List Rw) (vals B:List F) (L j:Nat):List F:=adc (cut (bkR (celL rows vals L j (2 ^ L))).1) (pm ((B.drop (2 * j)).take 2) (vnl (2 ^ L)))
def zeP (v B:List F) (L:Nat):List F:=adc (cut (bkR v).1) (pm ((B.drop 6).take 3) (vnl (2 ^ L)))
def puP (pubs:List F) (L:Nat):List F:=cut (bkR (pbL pubs (2 ^ L) pubs.length)).1
abbrev hoO (rows:List Rw) (vals B pubs v:List F) (L:Nat):List Ob:=[.row 28 (.arr 4 .one) (ffs (wiP rows vals B L 0)),.row 28 (.arr 4 .one) (ffs (wiP rows vals B L 1)),.row 28 (.arr 4 .one) (ffs (wiP rows vals B L 2)),.row 28 (.arr 4 .one) (ffs (zeP v B L)),.row 28 (.arr 4 .one) (ffs (puP pubs L))]
abbrev hoV (rows:List Rw) (l:List Int) (vals B pubs v:List F) (L:Nat) (is:Bool):PV:=.tup [polV rows l L,.agg [.osl 0 [] 0 (wiP rows vals B L 0).length,.osl 1 [] 0 (wiP rows vals B L 1).length,.osl 2 [] 0 (wiP rows vals B L 2).length],.osl 3 [] 0 (zeP v B L).length,.osl 4 [] 0 (puP pubs L).length,bo is]
theorem Zuv {os:Nat→Cel} {i0 i1 i2 n0 n1 n2:Nat} {e:TypeId} {T:Nat→List F} (h0:os i0 = .ob (.row e (.arr 4 .one) (ffs (T 0)))) (h1:os i1 = .ob (.row e (.arr 4 .one) (ffs (T 1)))) (h2:os i2 = .ob (.row e (.arr 4 .one) (ffs (T 2)))) (g0:n0 = (T 0).length) (g1:n1 = (T 1).length) (g2:n2 = (T 2).length) :
  cnv (fun _=>none) false (fun i=>(os i).get) 3 (.agg [.osl i0 [] 0 n0,.osl i1 [] 0 n1,.osl i2 [] 0 n2]) = .agg [vF false (T 0),vF false (T 1),vF false (T 2)]:=by
 have key:∀ (j m:Nat) (l:List F),os j = .ob (.row e (.arr 4 .one) (ffs l))→m = l.length→cnvW (fun _=>none) false (fun i=>(os i).get) (cnv (fun _=>none) false (fun i=>(os i).get) 2) (.osl j [] 0 m) = vF false l:=fun j m l h hm=>by
  have g3:(os j).get = some (.row e (.arr 4 .one) (ffs l)):=by rw [h]; rfl
  have e1:(Ob.row e (.arr 4 .one) (ffs l)).sh.offs [] = some (0,.arr (ffs l).length (.arr 4 .one)):=rfl
  have e2:(Ob.row e (.arr 4 .one) (ffs l)).con.get [] = some (.agg (ffs l)):=rfl
  simp only [cnvW,g3,e1,e2,List.drop_zero,Zbm,hm,List.take_length]
  rw [Zh6 fun p hp=>Zbs (plainL_iff.1 Zw p hp)]
 rw [Zg,Za,Za,Za,Z1,key _ _ _ h0 g0,key _ _ _ h1 g1,key _ _ _ h2 g2]
set_option maxHeartbeats 16000000 in
theorem Z2t {P V:Nat} {rows:List Rw} {same:List (Int × Int)} {pubs vals B:List F} {steps:List Stp} {be ga al ze vv uu:F} (h:CG P V rows same) (hv:vals.length = V) (hpb:pubs.length ≤ rows.length) (hB:B.length = 9)
  (hK:∀ (L:Nat) (l:List Int),1 ≤ L ∧ L ≤ 6→rows.length ≤ 2 ^ L→(L = 1 ∨ 2 ^ (L - 1) < rows.length)→ClsI same V l →
   ((∃ i j,i < 2 ^ L ∧ j < 3 ∧ unF be ga (fun j=>celL rows vals L j (2 ^ L)) (fun j=>nmL rows l L j (2 ^ L)) i j = 0)→K (hoV rows l vals B pubs [] L false) (hoO rows vals B pubs [] L))
   ∧ ((∀ i j,i < 2 ^ L→j < 3→unF be ga (fun j=>celL rows vals L j (2 ^ L)) (fun j=>nmL rows l L j (2 ^ L)) i j ≠ 0)→K (hoV rows l vals B pubs (rzL L be ga (fun j=>celL rows vals L j (2 ^ L)) (fun j=>nmL rows l L j (2 ^ L)) (2 ^ L)) L true) (hoO rows vals B pubs (rzL L be ga (fun j=>celL rows vals L j (2 ^ L)) (fun j=>nmL rows l L j (2 ^ L)) (2 ^ L)) L))) :
  PSpec prog 27 [mdV P V rows same pubs vals steps,.agg [ff be,ff ga,ff al,ff ze,ff vv,ff uu],.agg (ffs B)] [] K:=by
 refine Zgs ?_
 simp only [yS,yN,yG,yT,yI,yF,yZ,yM,yU,yL,yB,yR,Zc9,mdV,cV,sR,vF]
 have hb9:(B.length == 9) = true:=by rw [hB]; rfl
 simp -implicitDefEqProofs only [go_sem,Nat.reduceAdd,Nat.reduceSub,Nat.reduceEqDiff,Nat.reduceLT,Zk7,hb9,true_and]
 refine Z2o h fun L l hL hrl hLm hl=>?_
 have hKe:=hK L l hL hrl hLm hl
 clear hK
 have hsh:=shl1 (show L < 63 by omega)
 have hn0:=Nat.two_pow_pos L
 have hn:2 ^ L ≤ 64:=Nat.pow_le_pow_right (n:=2) (by decide) hL.2
 have hvl:=Zjn (2 ^ L)
 have htv:List.take (2 ^ L + 1) (vnl (2 ^ L)) = vnl (2 ^ L):=List.take_of_length_le (by omega)
 simp -implicitDefEqProofs only [go_sem,Nat.reduceAdd,Nat.reduceEqDiff,Nat.reduceLT,Zni,frzF,Zk7,Bool.true_or,Bool.and_self,true_and]
 refine Zud h hv hL.1 hL.2 hrl ?_
 simp -implicitDefEqProofs only [go_sem,Nat.reduceAdd,Nat.reduceEqDiff,Nat.reduceLT,Nat.reduceLeDiff,↓hsh]
 refine Zn1 (n:=2 ^ L) (by omega) (by omega) ?_
 simp -implicitDefEqProofs only [go_sem,Nat.reduceAdd,Nat.reduceEqDiff,Nat.reduceLeDiff]
 refine Zn 4 ?_
 have hc:∀ j,List.take (2 ^ L) (celL rows vals L j (2 ^ L)) = celL rows vals L j (2 ^ L):=fun j=>List.take_of_length_le (by rw [cel_len]; omega)
 have hbk:∀ v:List F,(cut (bkR v).1).length ≤ v.length:=fun v=>Nat.le_trans (Zbk _) (Zpt v)
 have hb2:∀ j,((B.drop (2 * j)).take 2).length ≤ 2:=fun j=>by rw [List.length_take]; omega
 have hp2:∀ j,(pm ((B.drop (2 * j)).take 2) (vnl (2 ^ L))).length ≤ 2 + (2 ^ L + 1):=fun j=>by
  have h1:=pm_le ((B.drop (2 * j)).take 2) (vnl (2 ^ L))
  have h2:=hb2 j
  omega
 have hcl:∀ j,(cut (bkR (celL rows vals L j (2 ^ L))).1).length ≤ 2 ^ L:=fun j=>Nat.le_trans (hbk _) (by rw [cel_len]; omega)
 have hz0:List.drop 0 B = B:=rfl
 simp -implicitDefEqProofs only [go_sem,Nat.reduceEqDiff,Nat.reduceLT,Int.reduceLT,Int.reduceLE,hc 0]
 refine Zdd (l:=celL rows vals L 0 (2 ^ L)) (by rw [cel_len]; omega) ?_
 simp -implicitDefEqProofs only [go_sem,Nat.reduceAdd,Nat.reduceEqDiff,Nat.reduceLT,Nat.reduceLeDiff,Int.reduceToNat,Int.reduceLE,Int.reduceAdd,Int.reduceMul,Int.reduceNeg,Zbm,Zdg,htv]
 repeat (with_reducible refine And.intro (by first | omega | decide) ?_)
 refine Zky (a:=(B.drop (2 * 0)).take 2) (b:=vnl (2 ^ L)) (by have:=hb2 0; omega) (by omega) ?_
 simp -implicitDefEqProofs only [go_sem,Nat.reduceAdd,Nat.reduceMul,Nat.reduceEqDiff,Nat.reduceLT,Nat.reduceLeDiff,List.take_length]
 refine Zhu (a:=cut (bkR (celL rows vals L 0 (2 ^ L))).1) (b:=pm ((B.drop (2 * 0)).take 2) (vnl (2 ^ L))) (by have:=hcl 0; omega) (by have:=hp2 0; omega) ?_
 simp -implicitDefEqProofs only [go_sem,Nat.reduceAdd,Nat.reduceMul,Nat.reduceEqDiff,Nat.reduceLT,Nat.reduceLeDiff,Int.reduceToNat,Int.reduceLT,Int.reduceLE,Int.reduceAdd,Int.reduceNeg,hc 1]
 refine Zdd (l:=celL rows vals L 1 (2 ^ L)) (by rw [cel_len]; omega) ?_
 simp -implicitDefEqProofs only [go_sem,Nat.reduceAdd,Nat.reduceSub,Nat.reduceEqDiff,Nat.reduceLT,Nat.reduceLeDiff,Int.reduceToNat,Int.reduceLE,Int.reduceAdd,Int.reduceMul,Int.reduceNeg,Zbm,Zdg,htv]
 repeat (with_reducible refine And.intro (by first | omega | decide) ?_)
 refine Zky (a:=(B.drop (2 * 1)).take 2) (b:=vnl (2 ^ L)) (by have:=hb2 1; omega) (by omega) ?_
 simp -implicitDefEqProofs only [go_sem,Nat.reduceAdd,Nat.reduceMul,Nat.reduceEqDiff,Nat.reduceLT,Nat.reduceLeDiff,List.take_length]
 refine Zhu (a:=cut (bkR (celL rows vals L 1 (2 ^ L))).1) (b:=pm ((B.drop (2 * 1)).take 2) (vnl (2 ^ L))) (by have:=hcl 1; omega) (by have:=hp2 1; omega) ?_
 simp -implicitDefEqProofs only [go_sem,Nat.reduceAdd,Nat.reduceMul,Nat.reduceEqDiff,Nat.reduceLT,Nat.reduceLeDiff,Int.reduceToNat,Int.reduceLT,Int.reduceLE,Int.reduceAdd,Int.reduceNeg,hc 2]
 refine Zdd (l:=celL rows vals L 2 (2 ^ L)) (by rw [cel_len]; omega) ?_
 simp -implicitDefEqProofs only [go_sem,Nat.reduceAdd,Nat.reduceSub,Nat.reduceEqDiff,Nat.reduceLT,Nat.reduceLeDiff,Int.reduceToNat,Int.reduceLE,Int.reduceAdd,Int.reduceMul,Int.reduceNeg,Zbm,Zdg,htv]
 repeat (with_reducible refine And.intro (by first | omega | decide) ?_)
 refine Zky (a:=(B.drop (2 * 2)).take 2) (b:=vnl (2 ^ L)) (by have:=hb2 2; omega) (by omega) ?_
 simp -implicitDefEqProofs only [go_sem,Nat.reduceAdd,Nat.reduceMul,Nat.reduceEqDiff,Nat.reduceLT,Nat.reduceLeDiff,List.take_length]
 refine Zhu (a:=cut (bkR (celL rows vals L 2 (2 ^ L))).1) (b:=pm ((B.drop (2 * 2)).take 2) (vnl (2 ^ L))) (by have:=hcl 2; omega) (by have:=hp2 2; omega) ?_
 simp -implicitDefEqProofs only [go_sem,Nat.reduceAdd,Nat.reduceMul,Nat.reduceEqDiff,Nat.reduceLT,Nat.reduceLeDiff,Int.reduceToNat,Int.reduceLT,Int.reduceLE,Int.reduceAdd,Int.reduceNeg]
 rw [Zuv (e:=28) (T:=fun j=>celL rows vals L j (2 ^ L)) rfl rfl rfl cel_len.symm cel_len.symm cel_len.symm]
 simp -implicitDefEqProofs only [go_sem,Zg,Za,Zh,Zc,Zw,Bool.and_false]
 refine Zqq (W:=fun j=>celL rows vals L j (2 ^ L)) (S:=fun j=>nmL rows l L j (2 ^ L)) hL.1 hL.2 (fun j=>cel_len) (fun j=>Zdc) (fun hx=>?_) (fun hx=>?_)
 ·have hKf:=hKe.1 hx
  clear hKe
  have hzl:(cut (bkR ([]:List F)).1).length ≤ 2 ^ L:=Nat.le_trans (hbk _) (by first | exact Nat.zero_le _ | (rw [Zhp]; omega))
  have h63:((B.drop 6).take 3).length ≤ 3:=by rw [List.length_take]; omega
  have hp3:=pm_le ((B.drop 6).take 3) (vnl (2 ^ L))
  simp -implicitDefEqProofs only [go_sem,Nat.reduceAdd,Nat.reduceEqDiff,Nat.reduceLT,Nat.reduceLeDiff]
  refine Zdd (l:=([]:List F)) (by first | decide | (rw [Zhp]; omega)) ?_
  simp -implicitDefEqProofs only [go_sem,Nat.reduceAdd,Nat.reduceSub,Nat.reduceEqDiff,Nat.reduceLT,Nat.reduceLeDiff,Int.reduceToNat,Int.reduceLE,Zbm,Zdg,htv]
  repeat (with_reducible refine And.intro (by first | omega | decide) ?_)
  refine Zky (a:=(B.drop 6).take 3) (b:=vnl (2 ^ L)) (by omega) (by omega) ?_
  simp -implicitDefEqProofs only [go_sem,Nat.reduceAdd,Nat.reduceEqDiff,Nat.reduceLT,Nat.reduceLeDiff,List.take_length]
  refine Zhu (a:=cut (bkR ([]:List F)).1) (b:=pm ((B.drop 6).take 3) (vnl (2 ^ L))) (by omega) (by omega) ?_
  simp -implicitDefEqProofs only [go_sem,Nat.reduceAdd,Nat.reduceEqDiff,Nat.reduceLT,Nat.reduceLeDiff]
  refine Zme hL.1 hL.2 (by omega) ?_
  have hpt:List.take (2 ^ L) (pbL pubs (2 ^ L) pubs.length) = pbL pubs (2 ^ L) pubs.length:=List.take_of_length_le (by rw [Zf5]; omega)
  simp -implicitDefEqProofs only [go_sem,Nat.reduceAdd,Nat.reduceEqDiff,Nat.reduceLT,Nat.reduceLeDiff,hpt]
  refine Zdd (l:=pbL pubs (2 ^ L) pubs.length) (by rw [Zf5]; omega) ?_
  simp -implicitDefEqProofs only [go_sem,Nat.reduceAdd,Nat.reduceMul,Nat.reduceEqDiff,Nat.reduceLT,Nat.reduceLeDiff,Int.reduceBEq,Bool.and_self]
  refine Zb1 (n:=0) (own:=[]) [(16,0),(19,1),(22,2),(27,3),(29,4)] (hoO rows vals B pubs [] L) [polV rows l L,.agg [.osl 0 [] 0 (wiP rows vals B L 0).length,.osl 1 [] 0 (wiP rows vals B L 1).length,.osl 2 [] 0 (wiP rows vals B L 2).length],.osl 3 [] 0 (zeP [] B L).length,.osl 4 [] 0 (puP pubs L).length,bo false] rfl rfl rfl rfl ?_ ?_ hKf
  ·simp -implicitDefEqProofs only [go_sem,Nat.reduceAdd,Nat.reduceMul,Nat.reduceEqDiff,Nat.reduceLT,hoO,wiP,zeP,puP,Nat.mul_zero,Nat.mul_one,List.drop_zero]
  ·simp -implicitDefEqProofs only [go_sem,Nat.reduceMul,Nat.reduceEqDiff,Zni,frzF,wiP,zeP,puP,Nat.mul_zero,Nat.mul_one,List.drop_zero,Zg,Za,Zd,Z0,Zh,Zc,Zw,Bool.and_self,Zr,Zt]
 ·have hKf:=hKe.2 hx
  clear hKe
  have hzl:(cut (bkR (rzL L be ga (fun j=>celL rows vals L j (2 ^ L)) (fun j=>nmL rows l L j (2 ^ L)) (2 ^ L))).1).length ≤ 2 ^ L:=Nat.le_trans (hbk _) (by first | exact Nat.zero_le _ | (rw [Zhp]; omega))
  have h63:((B.drop 6).take 3).length ≤ 3:=by rw [List.length_take]; omega
  have hp3:=pm_le ((B.drop 6).take 3) (vnl (2 ^ L))
  have hrt:List.take (2 ^ L) (rzL L be ga (fun j=>celL rows vals L j (2 ^ L)) (fun j=>nmL rows l L j (2 ^ L)) (2 ^ L)) = (rzL L be ga (fun j=>celL rows vals L j (2 ^ L)) (fun j=>nmL rows l L j (2 ^ L)) (2 ^ L)):=List.take_of_length_le (by rw [Zhp]; omega)
  simp -implicitDefEqProofs only [go_sem,Nat.reduceAdd,Nat.reduceEqDiff,Nat.reduceLT,Nat.reduceLeDiff,hrt]
  refine Zdd (l:=(rzL L be ga (fun j=>celL rows vals L j (2 ^ L)) (fun j=>nmL rows l L j (2 ^ L)) (2 ^ L))) (by first | decide | (rw [Zhp]; omega)) ?_
  simp -implicitDefEqProofs only [go_sem,Nat.reduceAdd,Nat.reduceSub,Nat.reduceEqDiff,Nat.reduceLT,Nat.reduceLeDiff,Int.reduceToNat,Int.reduceLE,Zbm,Zdg,htv]
  repeat (with_reducible refine And.intro (by first | omega | decide) ?_)
  refine Zky (a:=(B.drop 6).take 3) (b:=vnl (2 ^ L)) (by omega) (by omega) ?_
  simp -implicitDefEqProofs only [go_sem,Nat.reduceAdd,Nat.reduceEqDiff,Nat.reduceLT,Nat.reduceLeDiff,List.take_length]
  refine Zhu (a:=cut (bkR (rzL L be ga (fun j=>celL rows vals L j (2 ^ L)) (fun j=>nmL rows l L j (2 ^ L)) (2 ^ L))).1) (b:=pm ((B.drop 6).take 3) (vnl (2 ^ L))) (by omega) (by omega) ?_
  simp -implicitDefEqProofs only [go_sem,Nat.reduceAdd,Nat.reduceEqDiff,Nat.reduceLT,Nat.reduceLeDiff]
  refine Zme hL.1 hL.2 (by omega) ?_
  have hpt:List.take (2 ^ L) (pbL pubs (2 ^ L) pubs.length) = pbL pubs (2 ^ L) pubs.length:=List.take_of_length_le (by rw [Zf5]; omega)
  simp -implicitDefEqProofs only [go_sem,Nat.reduceAdd,Nat.reduceEqDiff,Nat.reduceLT,Nat.reduceLeDiff,hpt]
  refine Zdd (l:=pbL pubs (2 ^ L) pubs.length) (by rw [Zf5]; omega) ?_
  simp -implicitDefEqProofs only [go_sem,Nat.reduceAdd,Nat.reduceMul,Nat.reduceEqDiff,Nat.reduceLT,Nat.reduceLeDiff,Bool.and_self]
  refine Zb1 (n:=0) (own:=[]) [(16,0),(19,1),(22,2),(27,3),(29,4)] (hoO rows vals B pubs (rzL L be ga (fun j=>celL rows vals L j (2 ^ L)) (fun j=>nmL rows l L j (2 ^ L)) (2 ^ L)) L) [polV rows l L,.agg [.osl 0 [] 0 (wiP rows vals B L 0).length,.osl 1 [] 0 (wiP rows vals B L 1).length,.osl 2 [] 0 (wiP rows vals B L 2).length],.osl 3 [] 0 (zeP (rzL L be ga (fun j=>celL rows vals L j (2 ^ L)) (fun j=>nmL rows l L j (2 ^ L)) (2 ^ L)) B L).length,.osl 4 [] 0 (puP pubs L).length,bo true] rfl rfl rfl rfl ?_ ?_ hKf
  ·simp -implicitDefEqProofs only [go_sem,Nat.reduceAdd,Nat.reduceMul,Nat.reduceEqDiff,Nat.reduceLT,hoO,wiP,zeP,puP,Nat.mul_zero,Nat.mul_one,List.drop_zero]
  ·simp -implicitDefEqProofs only [go_sem,Nat.reduceMul,Nat.reduceEqDiff,Zni,frzF,wiP,zeP,puP,Nat.mul_zero,Nat.mul_one,List.drop_zero,Zg,Za,Zd,Z0,Zh,Zc,Zw,Bool.and_self,Zr,Zt]
end Go.Proofs.Tryz.PMT
namespace Go.Proofs.PL
def prF (g:Nat→F):Nat→F
 | 0=>1
 | n + 1=>prF g n * g n
def prL:List F→F
 | []=>1
 | a :: l=>a * prL l
theorem Z0i (a b:F):a * b = b * a:=by grind
theorem Zs0 (a b c:F):a * b * c = a * (b * c):=by grind
theorem Z0j (a:F):1 * a = a:=by grind
theorem Zs1 (a:F):a * 1 = a:=by grind
theorem Zyz:∀ l m:List F,prL (l ++ m) = prL l * prL m
 | [],m=>(Z0j _).symm
 | a :: l,m=>by
  show a * prL (l ++ m) = a * prL l * prL m
  rw [Zyz l m,Zs0]
theorem Zy0 (g:Nat→F):∀ n,prF g n = prL ((List.range n).map g)
 | 0=>rfl
 | n + 1=>by
  rw [List.range_succ,List.map_append,Zyz,← Zy0 g n]
  show prF g n * g n = prF g n * (g n * 1)
  rw [Zs1]
theorem Z11 {l m:List F} (h:l.Perm m):prL l = prL m:=by
 induction h with
 | nil=>rfl
 | cons x _ ih=>show x * prL _ = x * prL _; rw [ih]
 | swap x y l =>
  show y * (x * prL l) = x * (y * prL l)
  rw [← Zs0,← Zs0,Z0i y x]
 | trans _ _ h1 h2=>rw [h1,h2]
structure InjB (s:Nat→Nat) (n:Nat):Prop where
 lt:∀ x,x < n→s x < n
 inj:∀ x y,x < n→y < n→s x = s y→x = y
theorem Zsi {s:Nat→Nat}:∀ l:List Nat,l.Nodup→(∀ x y,x ∈ l→y ∈ l→s x = s y→x = y)→(l.map s).Nodup
 | [],_,_=>List.nodup_nil
 | a :: l,h,hi=>by
  obtain ⟨h1,h2⟩:=List.nodup_cons.1 h
  rw [List.map_cons,List.nodup_cons]
  refine ⟨fun hm=>?_,Zsi l h2 fun x y hx hy=>hi x y (by simp [hx]) (by simp [hy])⟩
  obtain ⟨y,hy,e⟩:=List.mem_map.1 hm
  have:=hi y a (by simp [hy]) (by simp) e
  exact h1 (this ▸ hy)
theorem Z12 {s:Nat→Nat} {n:Nat} (h:InjB s n) (g:Nat→F):prF (fun x=>g (s x)) n = prF g n:=by
 have hn:((List.range n).map s).Nodup:=Zsi _ List.nodup_range fun x y hx hy=>h.inj x y (List.mem_range.1 hx) (List.mem_range.1 hy)
 have hs:∀ x,x ∈ (List.range n).map s→x ∈ List.range n:=fun x hx=>by
  obtain ⟨y,hy,rfl⟩:=List.mem_map.1 hx
  exact List.mem_range.2 (h.lt y (List.mem_range.1 hy))
 have hp:((List.range n).map s).Perm (List.range n):=(List.perm_ext_iff_of_nodup hn List.nodup_range).2 fun x =>
  ⟨hs x,Zy6 _ _ hn hs (by rw [List.length_map]; exact Nat.le_refl _) x⟩
 have hp2:=hp.map g
 rw [List.map_map] at hp2
 rw [Zy0,Zy0,← Z11 hp2]
 rfl
theorem Zt1 (f g:Nat→F):∀ n,prF (fun i=>f i * g i) n = prF f n * prF g n
 | 0=>(Z0j 1).symm
 | n + 1=>by
  show prF (fun i=>f i * g i) n * (f n * g n) = prF f n * f n * (prF g n * g n)
  rw [Zt1 f g n]
  grind
theorem Zt2 (g:Nat→F) (n:Nat):∀ m,prF g (n + m) = prF g n * prF (fun i=>g (n + i)) m
 | 0=>(Zs1 _).symm
 | m + 1=>by
  show prF g (n + m) * g (n + m) = prF g n * (prF (fun i=>g (n + i)) m * g (n + m))
  rw [Zt2 g n m,Zs0]
theorem Znh {f g:Nat→F}:∀ n,(∀ i,i < n→f i = g i)→prF f n = prF g n
 | 0,_=>rfl
 | n + 1,h=>by
  show prF f n * f n = prF g n * g n
  rw [Znh n fun i hi=>h i (by omega),h n (by omega)]
theorem Z4f {g:Nat→F}:∀ n,(∀ i,i < n→g i ≠ 0)→prF g n ≠ 0
 | 0,_=>Zfq
 | n + 1,h=>fun e=>by
  rcases Zf6 (show prF g n * g n = 0 from e) with e | e
  ·exact Z4f n (fun i hi=>h i (by omega)) e
  ·exact h n (by omega) e
theorem Zrz (g:Nat→F) (n:Nat):prF g (3 * n) = prF (fun i=>g i * g (n + i) * g (2 * n + i)) n:=by
 rw [Zt1 (fun i=>g i * g (n + i)) (fun i=>g (2 * n + i)),Zt1 (fun i=>g i) (fun i=>g (n + i)),show 3 * n = 2 * n + n by omega,Zt2 g (2 * n) n,show 2 * n = n + n by omega,Zt2 g n n]
theorem rz_alg {R P o0 o1 o2 u0 u1 u2 i0 i1 i2:F} (h0:u0 * i0 = 1) (h1:u1 * i1 = 1) (h2:u2 * i2 = 1):R * (o0 * i0) * (o1 * i1) * (o2 * i2) * (P * (u0 * u1 * u2)) = R * P * (o0 * o1 * o2):=by
 have:R * (o0 * i0) * (o1 * i1) * (o2 * i2) * (P * (u0 * u1 * u2)) = R * P * (o0 * o1 * o2) * (u0 * i0) * (u1 * i1) * (u2 * i2):=by grind
 rw [this,h0,h1,h2]
 grind
theorem Zh5 (x:F) (hx:x ≠ 0):x * inv x = 1:=Zuo x hx
theorem Zys {L:Nat} {be ga:F} {W S:Nat→List F}:∀ n,(∀ i j,i < n→j < 3→unF be ga W S i j ≠ 0) →
  rzS L be ga W S n * prF (fun i=>unF be ga W S i 0 * unF be ga W S i 1 * unF be ga W S i 2) n = prF (fun i=>ovF L be ga W i 0 * ovF L be ga W i 1 * ovF L be ga W i 2) n
 | 0,_=>Z0j 1
 | n + 1,h=>by
  have ih:=Zys (L:=L) n fun i j hi hj=>h i j (by omega) hj
  have h0:=Zh5 _ (h n 0 (by omega) (by omega))
  have h1:=Zh5 _ (h n 1 (by omega) (by omega))
  have h2:=Zh5 _ (h n 2 (by omega) (by omega))
  show rzS L be ga W S n * (ovF L be ga W n 0 * inv (unF be ga W S n 0)) * (ovF L be ga W n 1 * inv (unF be ga W S n 1)) * (ovF L be ga W n 2 * inv (unF be ga W S n 2)) * (prF (fun i=>unF be ga W S i 0 * unF be ga W S i 1 * unF be ga W S i 2) n * (unF be ga W S n 0 * unF be ga W S n 1 * unF be ga W S n 2)) = prF (fun i=>ovF L be ga W i 0 * ovF L be ga W i 1 * ovF L be ga W i 2) n * (ovF L be ga W n 0 * ovF L be ga W n 1 * ovF L be ga W n 2)
  rw [rz_alg h0 h1 h2,ih]
theorem rz_one {n L:Nat} {be ga:F} {W S:Nat→List F} (g:Nat→F) (s:Nat→Nat) (hs:InjB s (3 * n)) (ho:∀ i j,i < n→j < 3→ovF L be ga W i j = g (j * n + i)) (hu:∀ i j,i < n→j < 3→unF be ga W S i j = g (s (j * n + i))) (hn:∀ i j,i < n→j < 3→unF be ga W S i j ≠ 0):rzS L be ga W S n = 1:=by
 have h1:=Zys (L:=L) n hn
 have hO:prF (fun i=>ovF L be ga W i 0 * ovF L be ga W i 1 * ovF L be ga W i 2) n = prF g (3 * n):=by
  rw [Zrz]
  refine Znh n fun i hi=>?_
  rw [ho i 0 hi (by omega),ho i 1 hi (by omega),ho i 2 hi (by omega),Nat.zero_mul,Nat.zero_add,Nat.one_mul]
 have hU:prF (fun i=>unF be ga W S i 0 * unF be ga W S i 1 * unF be ga W S i 2) n = prF g (3 * n):=by
  rw [← Z12 hs,Zrz]
  refine Znh n fun i hi=>?_
  rw [hu i 0 hi (by omega),hu i 1 hi (by omega),hu i 2 hi (by omega),Nat.zero_mul,Nat.zero_add,Nat.one_mul]
 have hnz:prF (fun i=>unF be ga W S i 0 * unF be ga W S i 1 * unF be ga W S i 2) n ≠ 0:=Z4f n fun i hi e=>by
  rcases Zf6 e with e | e
  ·rcases Zf6 e with e | e
   ·exact hn i 0 hi (by omega) e
   ·exact hn i 1 hi (by omega) e
  ·exact hn i 2 hi (by omega) e
 rw [hO] at h1
 rw [hU] at h1 hnz
 generalize prF g (3 * n) = P at *
 have h2:(rzS L be ga W S n - 1) * P = 0:=by
  generalize rzS L be ga W S n = R at *
  have:(R - 1) * P = R * P - P:=by grind
  rw [this,h1]; grind
 rcases Zf6 h2 with h3 | h3
 ·generalize rzS L be ga W S n = R at *
  have:R = (R - 1) + 1:=by grind
  rw [this,h3]; exact Zcn 1
 ·exact absurd h3 hnz
end Go.Proofs.PL
namespace Go.Proofs.PL
theorem Z3u {n:Nat} (hn:0 < n):(cut (vnl n)).length ≠ 0:=by
 rw [Ztf hn,Zjn]; omega
theorem dv_hor {n:Nat} (hn:0 < n) (f:List F) (x:F):hor x f = hor x (qtV n f) * (x ^ n - 1) + hor x (dv f (vnl n)).2.1:=by
 have h:=congrArg (hor x) (Z77 f (vnl n) (Z3u hn))
 rw [Zk1 x f,Zrh,Znj,Zxz hn] at h
 exact h.symm
theorem Z6e {n:Nat} (hn:0 < n) (f:List F):(dv f (vnl n)).2.1.length ≤ n:=by
 have h:=Z26 f (vnl n) (Z3u hn)
 rw [Ztf hn,Zjn,(Z0n f (vnl n)).2] at h
 omega
theorem Z7w {n:Nat} (hn:0 < n) (f:List F):hol n f = true ↔ (dv f (vnl n)).2.1.length = 0:=by
 rw [← hol_dv hn f,decide_eq_true_eq]
theorem Zvb {L i:Nat} (hL:L ≤ 32):(rt L ^ i) ^ 2 ^ L = 1:=by
 rw [← Zb2,Nat.mul_comm,Zb2,Zhq hL,Zb5]
theorem Zv4 (a:F):a - a = 0:=by grind
theorem Z0h (a:F):a * 0 = 0:=by grind
theorem Zz4 {L:Nat} (hL:L ≤ 32) {f:List F}:(∀ i,i < 2 ^ L→hor (rt L ^ i) f = 0)→hol (2 ^ L) f = true:=fun h=>by
 have hn:=Nat.two_pow_pos L
 rw [Z7w hn]
 have hz:∀ i,(dv f (vnl (2 ^ L))).2.1.getD i 0 = 0:=by
  refine Zrw (2 ^ L) _ (Z6e hn f) ((List.range (2 ^ L)).map fun i=>rt L ^ i) ?_ ?_ (by rw [List.length_map,List.length_range]; exact Nat.le_refl _)
  ·unfold List.Nodup
   rw [List.pairwise_map]
   refine List.Pairwise.imp_of_mem ?_ (List.nodup_range (n:=2 ^ L))
   intro a b ha hb hne e
   exact hne (rt_eq hL (List.mem_range.1 ha) (List.mem_range.1 hb) e)
  ·intro z hz
   obtain ⟨i,hi,rfl⟩:=List.mem_map.1 hz
   have h1:=dv_hor hn f (rt L ^ i)
   rw [h i (List.mem_range.1 hi),Zvb hL,Zv4,Z0h,Zcn] at h1
   exact h1.symm
 have h2:cut (dv f (vnl (2 ^ L))).2.1 = cut []:=Zga fun i=>by rw [hz i]; rfl
 rw [(Z0n f (vnl (2 ^ L))).2] at h2
 rw [h2]; rfl
theorem Z1m {L i:Nat} (hL:L ≤ 32):hor (rt L ^ i) (vnl (2 ^ L)) = 0:=by
 rw [Zxz (Nat.two_pow_pos L),Zvb hL,Zv4]
theorem Zrf {L i:Nat} {v:List F} (hL:L ≤ 9) (hv:v.length = 2 ^ L) (hi:i < 2 ^ L):hor (rt L ^ i) (cut (bkR v).1) = v.getD i 0:=by
 rw [Zk1,Zf3 (by rw [hv]; exact Zzl hL)]
 exact Z8q (Nat.le_trans hL (by decide)) hv hi
theorem Z0x {L i:Nat} {v c:List F} (hL:L ≤ 9) (hv:v.length = 2 ^ L) (hi:i < 2 ^ L):hor (rt L ^ i) (adc (cut (bkR v).1) (pm c (vnl (2 ^ L)))) = v.getD i 0:=by
 rw [Zri,Znj,Zrf hL hv hi,Z1m (Nat.le_trans hL (by decide)),Z0h,Zfu]
theorem Zyv {L i:Nat} (hL:L ≤ 32):rt L * rt L ^ i = rt L ^ ((i + 1) % 2 ^ L):=by
 rw [← Zva hL,Zbb]
 exact Z0i ..
theorem Z3z:∀ j,sv7 j = of 7 ^ j
 | 0=>(Zbl _).symm
 | j + 1=>by
  show sv7 j * of 7 = _
  rw [Z3z j,Zbb]
theorem Z52 {L:Nat} {be ga:F} {W S:Nat→List F} {i:Nat} (h:∀ j,j < 3→unF be ga W S i j ≠ 0) :
  rzS L be ga W S (i + 1) * unF be ga W S i 0 * unF be ga W S i 1 * unF be ga W S i 2 = rzS L be ga W S i * ovF L be ga W i 0 * ovF L be ga W i 1 * ovF L be ga W i 2:=by
 have h0:=Zh5 _ (h 0 (by omega))
 have h1:=Zh5 _ (h 1 (by omega))
 have h2:=Zh5 _ (h 2 (by omega))
 show rzS L be ga W S i * (ovF L be ga W i 0 * inv (unF be ga W S i 0)) * (ovF L be ga W i 1 * inv (unF be ga W S i 1)) * (ovF L be ga W i 2 * inv (unF be ga W S i 2)) * unF be ga W S i 0 * unF be ga W S i 1 * unF be ga W S i 2 = _
 generalize unF be ga W S i 0 = u0 at *
 generalize unF be ga W S i 1 = u1 at *
 generalize unF be ga W S i 2 = u2 at *
 generalize ovF L be ga W i 0 = o0 at *
 generalize ovF L be ga W i 1 = o1 at *
 generalize ovF L be ga W i 2 = o2 at *
 generalize rzS L be ga W S i = R at *
 generalize inv u0 = i0 at *
 generalize inv u1 = i1 at *
 generalize inv u2 = i2 at *
 have:R * (o0 * i0) * (o1 * i1) * (o2 * i2) * u0 * u1 * u2 = R * o0 * o1 * o2 * (u0 * i0) * (u1 * i1) * (u2 * i2):=by grind
 rw [this,h0,h1,h2,Zs1,Zs1,Zs1]
theorem nu_alg {g p q al l z:F} (hg:g = 0) (h1:p = q) (h2:l * (z - 1) = 0):g + (p - q) * al + l * (z - 1) * (al * al) = 0:=by
 rw [hg,h1,h2,Zv4,Zcr,Zcr,Zcn]
 exact Zcn 0
theorem Z63 {L:Nat} (hL:L ≤ 9) {be ga al:F} {q s:Nat→List F} {a b c z p:List F} {W S:Nat→List F} {i:Nat} (hi:i < 2 ^ L)
  (hw:∀ j,j < 3→hor (rt L ^ i) (w3 a b c j) = (W j).getD i 0) (hs:∀ j,j < 3→hor (rt L ^ i) (s j) = (S j).getD i 0)
  (hz:∀ i,i < 2 ^ L→hor (rt L ^ i) z = rzS L be ga W S i) (h1:rzS L be ga W S (2 ^ L) = 1) (hu:∀ j,j < 3→unF be ga W S i j ≠ 0)
  (hg:hor (rt L ^ i) (gtS (rt L) q a b c p 8) = 0):hor (rt L ^ i) (nuL L be ga al q s a b c z p) = 0:=by
 have hL2:L ≤ 32:=Nat.le_trans hL (by decide)
 rw [nuL,Z64 hL]
 refine nu_alg hg ?_ ?_
 ·have hzn:hor (rt L * rt L ^ i) z = rzS L be ga W S (i + 1):=by
   rw [Zyv hL2]
   by_cases e:i + 1 < 2 ^ L
   ·rw [Nat.mod_eq_of_lt e,hz _ e]
   ·have e2:i + 1 = 2 ^ L:=by omega
    rw [e2,Nat.mod_self,hz 0 (Nat.two_pow_pos L),h1]
    rfl
  rw [hzn,hz i hi,hw 0 (by omega),hw 1 (by omega),hw 2 (by omega),hs 0 (by omega),hs 1 (by omega),hs 2 (by omega)]
  have e:=Z52 (L:=L) hu
  have o:∀ j,(W j).getD i 0 + be * sv7 j * rt L ^ i + ga = ovF L be ga W i j:=fun j=>by rw [ovF,Zs0]
  have u:∀ j,(W j).getD i 0 + (S j).getD i 0 * be + ga = unF be ga W S i j:=fun j=>by rw [unF,Z0i]
  rw [o,o,o,u,u,u,e]
 ·rw [Z2n hL2 hi (Nat.two_pow_pos L)]
  by_cases e:i = 0
  ·subst e
   rw [hz 0 (Nat.two_pow_pos L)]
   show _ * ((1:F) - 1) = 0
   rw [Zv4,Z0h]
  ·rw [if_neg e]
   exact Zcr _
end Go.Proofs.PL
namespace Go.Proofs.Tryz.PMT
open Go Go.Proofs.PM Go.Proofs.PL Go.Proofs.Tryz
set_option maxRecDepth 4000
theorem Zro {p:Nat→Prop} [DecidablePred p] {x N:Nat} (hx:x < N) (hp:p x):∀ f d,d + f = N→∃ D,d ≤ D ∧ D ≤ N ∧ srch p x N d f = (x + D) % N ∧ p ((x + D) % N) ∧ ∀ e,d ≤ e→e < D→¬ p ((x + e) % N)
 | 0,d,h=>by
  have hm:(x + N) % N = x:=by rw [Nat.add_mod_right,Nat.mod_eq_of_lt hx]
  exact ⟨N,by omega,Nat.le_refl _,by rw [hm]; rfl,by rw [hm]; exact hp,fun e h1 h2=>by omega⟩
 | f + 1,d,h=>by
  by_cases hh:p ((x + d) % N)
  ·exact ⟨d,Nat.le_refl _,by omega,Zu7 hh,hh,fun e h1 h2=>by omega⟩
  ·obtain ⟨D,h1,h2,h3,h4,h5⟩:=Zro hx hp f (d + 1) (by omega)
   refine ⟨D,by omega,h2,by rw [Zm8 hh,h3],h4,fun e g1 g2=>?_⟩
   by_cases ed:e = d
   ·rw [ed]; exact hh
   ·exact h5 e (by omega) g2
theorem Zh3 {rows:List Rw} {l:List Int} {L x:Nat} (h:atV rows L x < 0):permF rows l L x = x:=if_pos h
theorem Zlm {rows:List Rw} {l:List Int} {L x:Nat} (hx:x < 3 * 2 ^ L) (h:¬ atV rows L x < 0):∃ D,1 ≤ D ∧ D ≤ 3 * 2 ^ L ∧ permF rows l L x = (x + D) % (3 * 2 ^ L) ∧ likeC rows l L x ((x + D) % (3 * 2 ^ L)) ∧ ∀ e,1 ≤ e→e < D→¬ likeC rows l L x ((x + e) % (3 * 2 ^ L)):=by
 have hs:=Zro (p:=likeC rows l L x) hx ⟨by omega,rfl⟩ (3 * 2 ^ L - 1) 1 (by omega)
 rw [permF,if_neg h]
 exact hs
theorem Zt7 {a N:Nat} (h:a < 2 * N):a % N = if a < N then a else a - N:=by
 by_cases e:a < N
 ·rw [if_pos e,Nat.mod_eq_of_lt e]
 ·rw [if_neg e,Nat.mod_eq_sub_mod (by omega),Nat.mod_eq_of_lt (by omega)]
theorem Zvg {N x y D E:Nat} (hx:x < N) (hy:y < N) (hD1:1 ≤ D) (hE:E ≤ N) (hDE:D ≤ E) (h:(x + D) % N = (y + E) % N) (hne:x ≠ y):1 ≤ E - D ∧ (y + (E - D)) % N = x:=by
 rw [Zt7 (by omega),Zt7 (by omega)] at h
 rw [Zt7 (by omega)]
 split at h <;> split at h <;> split <;> omega
theorem Z13 {rows:List Rw} {l:List Int} {L:Nat}:InjB (permF rows l L) (3 * 2 ^ L) where
 lt:=fun x hx=>by
  by_cases h:atV rows L x < 0
  ·rw [Zh3 h]; exact hx
  ·obtain ⟨D,_,_,h3,_⟩:=Zlm (l:=l) hx h
   rw [h3]
   exact Nat.mod_lt _ (by omega)
 inj:=fun x y hx hy e=>by
  by_cases ax:atV rows L x < 0
  ·by_cases ay:atV rows L y < 0
   ·rw [Zh3 ax,Zh3 ay] at e; exact e
   ·obtain ⟨E,_,_,h3,h4,_⟩:=Zlm (l:=l) hy ay
    rw [Zh3 ax,h3] at e
    have:=h4.1
    rw [← e] at this
    omega
  ·by_cases ay:atV rows L y < 0
   ·obtain ⟨D,_,_,h3,h4,_⟩:=Zlm (l:=l) hx ax
    rw [Zh3 ay,h3] at e
    have:=h4.1
    rw [e] at this
    omega
   ·obtain ⟨D,d1,d2,d3,d4,d5⟩:=Zlm (l:=l) hx ax
    obtain ⟨E,e1,e2,e3,e4,e5⟩:=Zlm (l:=l) hy ay
    rw [d3,e3] at e
    have k1:=d4.2
    have k2:=e4.2
    rw [← e] at k2
    rw [k1] at k2
    apply Decidable.byContradiction
    intro hne
    by_cases hDE:D ≤ E
    ·obtain ⟨g1,g2⟩:=Zvg hx hy d1 e2 hDE e hne
     refine e5 (E - D) g1 (by omega) ?_
     rw [g2]
     exact ⟨by omega,k2⟩
    ·obtain ⟨g1,g2⟩:=Zvg hy hx e1 d2 (by omega) e.symm (Ne.symm hne)
     refine d5 (D - E) g1 (by omega) ?_
     rw [g2]
     exact ⟨by omega,k2.symm⟩
theorem Z14 {g:Nat} {s:CS} (h:CInv g s) (hg:g ≤ 12) {l:List Int} (hl:ClsI s.bs s.vals.length l) {L x:Nat} (hx:x < 3 * 2 ^ L):celV (s.bp ++ s.br) s.vals L (permF (s.bp ++ s.br) l L x) = celV (s.bp ++ s.br) s.vals L x:=by
 by_cases ax:atV (s.bp ++ s.br) L x < 0
 ·rw [Zh3 ax]
 ·obtain ⟨D,_,_,h3,h4,_⟩:=Zlm (l:=l) hx ax
  rw [h3]
  have hr:=(cg_of h hg).rin
  have r1:=Zom (L:=L) (x:=x) hr
  have r2:=Zom (L:=L) (x:=(x + D) % (3 * 2 ^ L)) hr
  obtain ⟨k1,k2⟩:=h4
  generalize (x + D) % (3 * 2 ^ L) = y at *
  simp only [celV]
  generalize atV (s.bp ++ s.br) L x = u at *
  generalize atV (s.bp ++ s.br) L y = v at *
  obtain ⟨u,rfl⟩:∃ n:Nat,u = (n:Int):=⟨u.toNat,by omega⟩
  obtain ⟨v,rfl⟩:∃ n:Nat,v = (n:Int):=⟨v.toNat,by omega⟩
  rw [Zi8,Zi8]
  rw [Int.toNat_natCast,Int.toNat_natCast] at k2
  have hf:∀ p,p ∈ s.bs→(fun i=>s.vals.getD i 0) p.1.toNat = (fun i=>s.vals.getD i 0) p.2.toNat:=fun p hp=>by
   obtain ⟨b1,b2,b3⟩:=h.bsf p hp
   rw [va,va,if_neg (by omega),if_neg (by omega)] at b3
   exact b3
  have e1:=hl.snd (fun i=>s.vals.getD i 0) hf u (by have:=r1.2 (by omega); omega)
  have e2:=hl.snd (fun i=>s.vals.getD i 0) hf v (by have:=r2.2 (by omega); omega)
  rw [← e1,← e2,k2]
theorem Zk5 {α:Type} {f:Nat→α} {n i:Nat} {d:α} (h:i < n):((List.range n).map f).getD i d = f i:=by
 rw [List.getD_eq_getElem?_getD,List.getElem?_eq_getElem (by rw [List.length_map,List.length_range]; exact h),List.getElem_map,List.getElem_range]
 rfl
theorem Zl0 {rows:List Rw} {vals:List F} {L j m i:Nat} (h:i < m):(celL rows vals L j m).getD i 0 = celV rows vals L (j * 2 ^ L + i):=Zk5 h
theorem nm_get {rows:List Rw} {l:List Int} {L j m i:Nat} (h:i < m):(nmL rows l L j m).getD i 0 = nmV L (permF rows l L (j * 2 ^ L + i)):=Zk5 h
theorem nm_len {rows:List Rw} {l:List Int} {L j m:Nat}:(nmL rows l L j m).length = m:=by simp only [nmL,List.length_map,List.length_range]
theorem nmV_at {L i j:Nat} (hi:i < 2 ^ L):nmV L (j * 2 ^ L + i) = sv7 j * rt L ^ i:=by
 have hp:=Nat.two_pow_pos L
 rw [nmV,Z3z,Nat.mul_comm j,Nat.mul_add_div hp,Nat.div_eq_of_lt hi,Nat.add_zero,Nat.mul_add_mod,Nat.mod_eq_of_lt hi]
theorem ov_at {rows:List Rw} {vals:List F} {L:Nat} {be ga:F} {i j:Nat} (hi:i < 2 ^ L):ovF L be ga (fun j=>celL rows vals L j (2 ^ L)) i j = celV rows vals L (j * 2 ^ L + i) + be * nmV L (j * 2 ^ L + i) + ga:=by
 rw [ovF,Zl0 hi,nmV_at hi]
theorem jn_lt {n i j:Nat} (hi:i < n) (hj:j < 3):j * n + i < 3 * n:=by
 have:(j + 1) * n ≤ 3 * n:=Nat.mul_le_mul_right n hj
 rw [Nat.succ_mul] at this
 omega
theorem un_at {g:Nat} {s:CS} (h:CInv g s) (hg:g ≤ 12) {l:List Int} (hl:ClsI s.bs s.vals.length l) {L:Nat} {be ga:F} {i j:Nat} (hi:i < 2 ^ L) (hj:j < 3) :
  unF be ga (fun j=>celL (s.bp ++ s.br) s.vals L j (2 ^ L)) (fun j=>nmL (s.bp ++ s.br) l L j (2 ^ L)) i j = celV (s.bp ++ s.br) s.vals L (permF (s.bp ++ s.br) l L (j * 2 ^ L + i)) + be * nmV L (permF (s.bp ++ s.br) l L (j * 2 ^ L + i)) + ga:=by
 rw [unF,Zl0 hi,nm_get hi,Z14 h hg hl (jn_lt hi hj)]
theorem Z7u {g:Nat} {s:CS} (h:CInv g s) (hg:g ≤ 12) {l:List Int} (hl:ClsI s.bs s.vals.length l) {L:Nat} {be ga:F}
  (hu:∀ i j,i < 2 ^ L→j < 3→unF be ga (fun j=>celL (s.bp ++ s.br) s.vals L j (2 ^ L)) (fun j=>nmL (s.bp ++ s.br) l L j (2 ^ L)) i j ≠ 0) :
  rzS L be ga (fun j=>celL (s.bp ++ s.br) s.vals L j (2 ^ L)) (fun j=>nmL (s.bp ++ s.br) l L j (2 ^ L)) (2 ^ L) = 1 :=
 rz_one (fun x=>celV (s.bp ++ s.br) s.vals L x + be * nmV L x + ga) (permF (s.bp ++ s.br) l L) Z13 (fun _ _ hi _=>ov_at hi) (fun _ _ hi hj=>un_at h hg hl hi hj) hu
theorem Zs3 {q t:Nat→F}:∀ n,(∀ i,i < n→q i = 0)→dotS q t n = 0
 | 0,_=>rfl
 | n + 1,h=>by
  show dotS q t n + q n * t n = 0
  rw [Zs3 n fun i hi=>h i (by omega),h n (by omega),Zcr]
  exact Zcn 0
theorem Zz5 {q:Nat→F} {a b c x:F} (h:∀ i,i < 8→q i = 0):gval q a b c x = 0:=Zs3 8 h
theorem Zyq {vals:List F}:∀ {l:List Rw},SatR vals l→∀ k,k < l.length→∀ x,(k + 1 < l.length→x = va vals (l.getD (k + 1) default).a)→rval vals (l.getD k default) x = 0
 | _,.nil,k,hk,_,_=>by simp at hk
 | _,.one (l:=l) (r:=r) h h1,k,hk,x,hx=>by
  simp only [List.length_append,List.length_cons,List.length_nil] at hk hx
  by_cases e:k < l.length
  ·rw [Zcm e]
   refine Zyq h k e x fun h2=>?_
   rw [hx (by omega),Zcm h2]
  ·obtain rfl:k = l.length:=by omega
   rw [List.getD_eq_getElem?_getD,List.getElem?_append_right (Nat.le_refl _),Nat.sub_self]
   exact h1 x
 | _,.two (l:=l) (r:=r) (r':=r') h hq h1,k,hk,x,hx=>by
  simp only [List.length_append,List.length_cons,List.length_nil] at hk hx
  by_cases e:k < l.length
  ·rw [Zcm e]
   refine Zyq h k e x fun h2=>?_
   rw [hx (by omega),Zcm h2]
  ·by_cases e1:k = l.length
   ·subst e1
    have hx1:=hx (by omega)
    rw [List.getD_eq_getElem?_getD,List.getElem?_append_right (by omega),show l.length + 1 - l.length = 1 by omega] at hx1
    rw [List.getD_eq_getElem?_getD,List.getElem?_append_right (Nat.le_refl _),Nat.sub_self,hx1]
    exact h1
   ·obtain rfl:k = l.length + 1:=by omega
    rw [List.getD_eq_getElem?_getD,List.getElem?_append_right (by omega),show l.length + 1 - l.length = 1 by omega]
    show gval (fun i=>r'.q.getD i 0) _ _ _ _ = 0
    rw [hq]
    exact Zz5 (fun i _=>by rcases (by omega:i = 0 ∨ i = 1 ∨ i = 2 ∨ i = 3 ∨ i = 4 ∨ i = 5 ∨ i = 6 ∨ i = 7 ∨ 8 ≤ i) with rfl | rfl | rfl | rfl | rfl | rfl | rfl | rfl | h <;> first | rfl | exact Zbt h)
theorem Z8b {rows:List Rw} {s n t i:Nat} (h:i < n):(colT rows s n t).getD i 0 = if i < t then (rows.getD i default).q.getD s 0 else 0:=Zk5 h
theorem pb_get {pubs:List F} {n t i:Nat} (h:i < n):(pbL pubs n t).getD i 0 = if i < t then 0 - pubs.getD i 0 else 0:=Zk5 h
theorem Zoa {α:Type} {l m:List α} {i:Nat} {d:α} (h:l.length ≤ i):(l ++ m).getD i d = m.getD (i - l.length) d:=by
 rw [List.getD_eq_getElem?_getD,List.getD_eq_getElem?_getD,List.getElem?_append_right h]
theorem gv_pub {a b c x v:F} (h:a = v):0 - v + gval (fun i=>[(0:F),1,0,0,0,0,0,0].getD i 0) a b c x = 0:=by
 rw [gv_un,h]
 grind
theorem Zwg {rows:List Rw} {vals:List F} {L i j:Nat} (hi:i < 2 ^ L) (hr:i < rows.length):celV rows vals L (j * 2 ^ L + i) = va vals (rwC (rows.getD i default) j):=by
 have hp:=Nat.two_pow_pos L
 rw [celV,atV,Nat.mul_comm j,Nat.mul_add_mod,Nat.mul_add_div hp,Nat.mod_eq_of_lt hi,Nat.div_eq_of_lt hi,Nat.add_zero,if_pos hr]
theorem Z0b {g:Nat} {s:CS} (h:CInv g s) {L:Nat} (hL:L ≤ 9) (hrl:(s.bp ++ s.br).length ≤ 2 ^ L) {a b c p:List F} {i:Nat} (hi:i < 2 ^ L)
  (ha:∀ i,i < 2 ^ L→hor (rt L ^ i) a = celV (s.bp ++ s.br) s.vals L (0 * 2 ^ L + i)) (hb:hor (rt L ^ i) b = celV (s.bp ++ s.br) s.vals L (1 * 2 ^ L + i)) (hc:hor (rt L ^ i) c = celV (s.bp ++ s.br) s.vals L (2 * 2 ^ L + i))
  (hp:hor (rt L ^ i) p = if i < s.pubs.length then 0 - s.pubs.getD i 0 else 0):hor (rt L ^ i) (gtS (rt L) (qpL (s.bp ++ s.br) (2 ^ L)) a b c p 8) = 0:=by
 have hq:∀ k,hor (rt L ^ i) (qpL (s.bp ++ s.br) (2 ^ L) k) = if i < (s.bp ++ s.br).length then ((s.bp ++ s.br).getD i default).q.getD k 0 else 0:=fun k=>by
  rw [qpL,Zrf hL Zf2 hi,Z8b hi]
 rw [Z72,Zyv (Nat.le_trans hL (by decide)),ha i hi,hb,hc,hp,ha _ (Nat.mod_lt _ (Nat.two_pow_pos L))]
 by_cases hr:i < (s.bp ++ s.br).length
 ·rw [Zwg hi hr,Zwg hi hr,Zwg hi hr]
  have hg:∀ x:F,gval (fun k=>hor (rt L ^ i) (qpL (s.bp ++ s.br) (2 ^ L) k)) (va s.vals (rwC ((s.bp ++ s.br).getD i default) 0)) (va s.vals (rwC ((s.bp ++ s.br).getD i default) 1)) (va s.vals (rwC ((s.bp ++ s.br).getD i default) 2)) x = rval s.vals ((s.bp ++ s.br).getD i default) x:=fun x=>by
   rw [rval]
   exact Zlu 8 (fun k _=>by rw [hq k,if_pos hr]) (fun _ _=>rfl)
  rw [hg]
  by_cases hpb:i < s.bp.length
  ·obtain ⟨w,hw,h1,h2⟩:=h.bpf i hpb
   rw [if_pos (by rw [h.pl]; exact hpb),h2,Zcm hpb,h1]
   exact gv_pub Zi8
  ·rw [if_neg (by rw [h.pl]; exact hpb),Zcn,Zoa (by omega)]
   have hr2:=hr
   rw [List.length_append] at hr2
   refine Zyq h.sat _ (by omega) _ fun hk=>?_
   have hm:(i + 1) % 2 ^ L = i + 1:=Nat.mod_eq_of_lt (by rw [List.length_append] at hrl; omega)
   have hi1:i + 1 < 2 ^ L:=by rw [List.length_append] at hrl; omega
   rw [hm,Zwg hi1 (by rw [List.length_append]; omega),Zoa (by omega),show i + 1 - s.bp.length = i - s.bp.length + 1 by omega]
   rfl
 ·have hpl:¬ i < s.pubs.length:=by rw [h.pl]; rw [List.length_append] at hr; omega
  rw [if_neg hpl,Zcn]
  exact Zz5 fun k _=>by rw [hq k,if_neg hr]
theorem Z5g {x:F} {a b c:List F} {V:Nat→F} (ha:hor x a = V 0) (hb:hor x b = V 1) (hc:hor x c = V 2):∀ j,j < 3→hor x (w3 a b c j) = V j
 | 0,_=>ha
 | 1,_=>hb
 | 2,_=>hc
 | j + 3,h=>by omega
theorem Z7v {g:Nat} {s:CS} (h:CInv g s) (hg:g ≤ 12) {l:List Int} (hl:ClsI s.bs s.vals.length l) {L:Nat} (hL:L ≤ 9) (hrl:(s.bp ++ s.br).length ≤ 2 ^ L) {be ga al:F} {B:List F}
  (hu:∀ i j,i < 2 ^ L→j < 3→unF be ga (fun j=>celL (s.bp ++ s.br) s.vals L j (2 ^ L)) (fun j=>nmL (s.bp ++ s.br) l L j (2 ^ L)) i j ≠ 0) :
  hol (2 ^ L) (nuL L be ga al (qpL (s.bp ++ s.br) (2 ^ L)) (spL (s.bp ++ s.br) l L) (wiP (s.bp ++ s.br) s.vals B L 0) (wiP (s.bp ++ s.br) s.vals B L 1) (wiP (s.bp ++ s.br) s.vals B L 2) (zeP (rzL L be ga (fun j=>celL (s.bp ++ s.br) s.vals L j (2 ^ L)) (fun j=>nmL (s.bp ++ s.br) l L j (2 ^ L)) (2 ^ L)) B L) (puP s.pubs L)) = true:=by
 have hw:∀ j i,i < 2 ^ L→hor (rt L ^ i) (wiP (s.bp ++ s.br) s.vals B L j) = celV (s.bp ++ s.br) s.vals L (j * 2 ^ L + i):=fun j i hi=>by
  rw [wiP,Z0x hL cel_len hi,Zl0 hi]
 refine Zz4 (Nat.le_trans hL (by decide)) fun i hi=>?_
 refine Z63 hL (W:=fun j=>celL (s.bp ++ s.br) s.vals L j (2 ^ L)) (S:=fun j=>nmL (s.bp ++ s.br) l L j (2 ^ L)) hi ?_ ?_ ?_ (Z7u h hg hl hu) (fun j hj=>hu i j hi hj) ?_
 ·exact Z5g (V:=fun j=>(celL (s.bp ++ s.br) s.vals L j (2 ^ L)).getD i 0) ((hw 0 i hi).trans (Zl0 hi).symm) ((hw 1 i hi).trans (Zl0 hi).symm) ((hw 2 i hi).trans (Zl0 hi).symm)
 ·intro j _
  rw [spL,Zrf hL nm_len hi]
 ·intro i hi
  rw [zeP,Z0x hL Zhp hi]
  exact Zk5 hi
 ·refine Z0b h hL hrl hi (hw 0) (hw 1 i hi) (hw 2 i hi) ?_
  rw [puP,Zrf hL Zf5 hi,pb_get hi]
end Go.Proofs.Tryz.PMT
namespace Go.Proofs.PL
theorem pm_lq {a b:List F} {n m:Nat} (ha:a.length ≤ n) (hb:b.length ≤ m):(pm a b).length ≤ n + m - 1:=by
 have h1:=Zbk a
 have h2:=Zbk b
 rw [Zr0]
 split <;> omega
theorem gtL_lq {z:F} {a b c:List F} {m:Nat} (hm:1 ≤ m) (ha:a.length ≤ m) (hb:b.length ≤ m) (hc:c.length ≤ m) (i:Nat):(gtL z a b c i).length ≤ 5 * m - 4:=by
 have h2:=pm_lq ha ha
 have h4:=pm_lq h2 h2
 have h5:=pm_lq h4 ha
 match i with
 | 0=>exact Nat.le_trans (pm_lq ha hb) (by omega)
 | 1=>show a.length ≤ _; omega
 | 2=>show b.length ≤ _; omega
 | 3=>show c.length ≤ _; omega
 | 4=>show 1 ≤ _; omega
 | 5=>exact Nat.le_trans (Zg4 ..) (by omega)
 | 6=>exact Nat.le_trans (Zg4 ..) (by omega)
 | 7 =>
  have h1:=Zjj a b
  have h3:=Zo2 z a
  exact Nat.le_trans (Zg4 ..) (by omega)
 | i + 8=>exact Nat.zero_le _
theorem Z4u {z:F} {q:Nat→List F} {a b c p:List F} {m k:Nat} (hm:1 ≤ m) (ha:a.length ≤ m) (hb:b.length ≤ m) (hc:c.length ≤ m) (hp:p.length ≤ k) (hq:∀ i,(q i).length ≤ k):∀ i,(gtS z q a b c p i).length ≤ k + (5 * m - 4) - 1
 | 0=>Nat.le_trans (Zbk _) (by omega)
 | i + 1=>by
  have h1:=Z4u (z:=z) hm ha hb hc hp hq i
  have h2:=pm_lq (hq i) (gtL_lq (z:=z) hm ha hb hc i)
  exact Nat.le_trans (Zjj ..) (by omega)
theorem Z4i {be ga:F} {z:List F} {w:Nat→List F} {m k:Nat} (hm:2 ≤ m) (hz:z.length ≤ k) (hw:∀ j,(w j).length ≤ m):∀ j,(ovS be ga z w j).length ≤ k + j * (m - 1)
 | 0=>by simpa [ovS] using hz
 | j + 1=>by
  have h1:=Z4i (be:=be) (ga:=ga) hm hz hw j
  have h2:=Zg3 (w j) [0,be * sv7 j] [ga]
  have h3:=hw j
  simp only [List.length_cons,List.length_nil] at h2
  have h4:=pm_lq h1 (show (sm3 (w j) [0,be * sv7 j] [ga]).length ≤ m by omega)
  rw [Nat.succ_mul]
  show (pm _ _).length ≤ _
  omega
theorem Z3w {r be ga:F} {z:List F} {w s:Nat→List F} {m k:Nat} (hm:2 ≤ m) (hz:z.length ≤ k) (hw:∀ j,(w j).length ≤ m) (hs:∀ j,(s j).length ≤ m):∀ j,(unS r be ga z w s j).length ≤ k + j * (m - 1)
 | 0=>by
  have:=Zo2 r z
  show (shf r z).length ≤ _
  omega
 | j + 1=>by
  have h1:=Z3w (r:=r) (be:=be) (ga:=ga) hm hz hw hs j
  have h2:=Zg3 (w j) (scc (s j) be) [ga]
  have h3:=hw j
  have h5:=hs j
  have h6:=Zho (s j) be
  simp only [List.length_cons,List.length_nil] at h2
  have h4:=pm_lq h1 (show (sm3 (w j) (scc (s j) be) [ga]).length ≤ m by omega)
  rw [Nat.succ_mul]
  show (pm _ _).length ≤ _
  omega
theorem w3_le {a b c:List F} {m:Nat} (ha:a.length ≤ m) (hb:b.length ≤ m) (hc:c.length ≤ m):∀ j,(w3 a b c j).length ≤ m
 | 0=>ha
 | 1=>hb
 | j + 2=>hc
theorem nuL_lq {L n:Nat} (hn:2 ^ L = n) {be ga al:F} {q s:Nat→List F} {a b c z p:List F} (hq:∀ i,(q i).length ≤ n) (hs:∀ i,(s i).length ≤ n) (ha:a.length ≤ n + 2) (hb:b.length ≤ n + 2) (hc:c.length ≤ n + 2) (hz:z.length ≤ n + 3) (hp:p.length ≤ n):(nuL L be ga al q s a b c z p).length ≤ 6 * n + 5:=by
 have hn0:0 < n:=hn ▸ Nat.two_pow_pos L
 have h1:=Z4u (z:=rt L) (m:=n + 2) (by omega) ha hb hc hp hq 8
 have hw:=w3_le ha hb hc
 have h2:=Z4i (be:=be) (ga:=ga) (m:=n + 2) (by omega) hz hw 3
 have h3:=Z3w (r:=rt L) (be:=be) (ga:=ga) (m:=n + 2) (by omega) hz hw (fun j=>Nat.le_trans (hs j) (by omega)) 3
 have h4:=Zg4 z [1]
 simp only [List.length_cons,List.length_nil] at h4
 have h5:=pm_lq (Zzo n) (show (sbc z [1]).length ≤ n + 3 by omega)
 have h6:=Zg4 (ovS be ga z (w3 a b c) 3) (unS (rt L) be ga z (w3 a b c) s 3)
 have h7:=Zho (sbc (ovS be ga z (w3 a b c) 3) (unS (rt L) be ga z (w3 a b c) s 3)) al
 have h8:=Zho (bgL (2 ^ L) z) (al * al)
 have h9:(bgL (2 ^ L) z).length ≤ n + (n + 3) - 1:=by rw [hn]; exact h5
 rw [nuL,nuG]
 refine Nat.le_trans (Zg3 _ _ _) ?_
 omega
theorem qtV_lq {n:Nat} (hn:0 < n) (f:List F):(qtV n f).length ≤ f.length - n:=by
 rw [qtV,Zv6 hn]
 refine Nat.le_trans (Zbk _) ?_
 rw [(Zfx n _ (cut f) _).1]
 have:=Zbk f
 omega
theorem bl_lq {v c:List F} {n k:Nat} (hv:v.length ≤ n) (hc:c.length ≤ k):(adc (cut (bkR v).1) (pm c (vnl n))).length ≤ n + k:=by
 have h1:=pm_lq hc (Nat.le_of_eq (Zjn n))
 have h2:=Nat.le_trans (Zbk _) (Nat.le_trans (Zpt v) hv)
 exact Nat.le_trans (Zjj ..) (by omega)
end Go.Proofs.PL
namespace Go.Proofs.Tryz.PMT
open Go Go.Proofs.PM Go.Proofs.PL Go.Proofs.Tryz
set_option maxRecDepth 4000
end Go.Proofs.Tryz.PMT
namespace Go.Proofs.Tryz.PMT
open Go Go.Proofs.PM Go.Proofs.PL Go.Proofs.Tryz
set_option maxRecDepth 4000
theorem Zxx {rows:List Rw} {vals B:List F} {L j:Nat}:(wiP rows vals B L j).length ≤ 2 ^ L + 2:=bl_lq (Nat.le_of_eq cel_len) (by rw [List.length_take]; omega)
theorem zeP_le {v B:List F} {L:Nat} (hv:v.length ≤ 2 ^ L):(zeP v B L).length ≤ 2 ^ L + 3:=bl_lq hv (by rw [List.length_take]; omega)
theorem puP_le {pubs:List F} {L:Nat}:(puP pubs L).length ≤ 2 ^ L:=Nat.le_trans (Zbk _) (Nat.le_trans (Zpt _) (Nat.le_of_eq Zf5))
end Go.Proofs.Tryz.PMT
namespace Go.Proofs.Tryz.PMT
open Go Go.Proofs.PM Go.Proofs.PL Go.Proofs.Tryz
variable {K:PV→List Ob→Prop}
set_option maxRecDepth 4000
set_option maxHeartbeats 4000000 in
theorem Z7o {bl:List Int} (hb:∀ x,x ∈ bl→0 ≤ x ∧ x ≤ 255) (hbl:bl.length ≤ 1000) (hK:∀ x,K (ff x) []):PSpec prog 78 [.vsl false .one (by8s bl)] [] K:=by
 refine Zhj ?_
 simp only [yS,yN,yG,yT,yI,yF,yZ,yM,yU,yL,yB,yR,Zd5]
 simp -implicitDefEqProofs only [go_sem,Nat.reduceAdd,Nat.reduceSub,Nat.reduceEqDiff,Zo]
 refine Zu (ι:={ i:Nat // i ≤ bl.length } × F) [4,5,6,7,8,9,10,11,12,13,14,15,16,17,18,19,20] (fun i=>[(4,i64 i.1.1)]) (fun i=>[(0,.ob (.var (.arr 4 .one) (ff 0))),(1,.ob (.var (.arr 4 .one) (ff i.2)))]) 2 (fun i=>bl.length - i.1.1) ⟨⟨0,Nat.zero_le _⟩,0⟩ ?_ ?_
 ·rw [Zf]
  refine Ze [(0,0),(1,1)] rfl rfl rfl ?_ ?_
  ·simp -implicitDefEqProofs only [go_sem,Nat.reduceEqDiff,Nat.reduceLT]
  ·simp -implicitDefEqProofs only [go_sem,Nat.reduceEqDiff]
 intro ⟨⟨i,hi⟩,x⟩ G hG
 simp -implicitDefEqProofs only [go_sem]
 refine Zj (fun h2=>?_) (fun h2=>?_)
 ·simp only [decide_eq_true_eq] at h2
  have hil:i < bl.length:=by omega
  have hbi:=hb _ (Zgm (l:=bl) (d:=0) hil)
  have cwi:IntKind.i64.wrap ((i:Int) + 1) = ((i + 1:Nat):Int):=by rw [wrs (by omega) (by omega)]; omega
  have cwb:IntKind.u64.wrap (bl.getD i 0) = bl.getD i 0:=wru (by omega) (by omega)
  simp -implicitDefEqProofs only [go_sem,Nat.reduceAdd,Nat.reduceMul,Nat.reduceEqDiff,Nat.reduceLT,Zn9 hil,by8P,h2,cwb]
  repeat (with_reducible refine And.intro (by first | omega | decide) ?_)
  refine Zbi (by omega) ?_
  simp -implicitDefEqProofs only [go_sem,Nat.reduceAdd,Nat.reduceMul,Nat.reduceLT]
  refine Zbx ?_
  simp -implicitDefEqProofs only [go_sem,Nat.reduceAdd,Nat.reduceMul,Nat.reduceLT]
  refine Zbi (by omega) ?_
  simp -implicitDefEqProofs only [go_sem,Nat.reduceAdd,Nat.reduceMul,Nat.reduceLT]
  refine Zc2 ?_
  simp -implicitDefEqProofs only [go_sem,Nat.reduceAdd,Nat.reduceMul,Nat.reduceEqDiff,cwi]
  refine hG _ ⟨⟨i + 1,by omega⟩,x * of 256 + of (bl.getD i 0)⟩ (by show bl.length - (i + 1) < bl.length - i; omega) ?_
  rw [Zf]
  refine Ze [(0,0),(1,1)] rfl rfl rfl ?_ ?_
  ·simp -implicitDefEqProofs only [go_sem,Nat.reduceEqDiff,Nat.reduceLT]
  ·simp -implicitDefEqProofs only [go_sem,Nat.reduceEqDiff]
 clear hG h2
 simp -implicitDefEqProofs only [go_sem,Nat.reduceEqDiff]
 exact Zb rfl (hK x)
set_option maxHeartbeats 8000000 in
theorem Z7p {bl:List Int} (hb:∀ x,x ∈ bl→0 ≤ x ∧ x ≤ 255) (hbl:bl.length ≤ 1000) (hK:∀ l:List F,l.length = 9→K (.agg (ffs l)) []):PSpec prog 28 [.vsl false .one (by8s bl)] [] K:=by
 refine Zhm ?_
 simp only [yS,yN,yG,yT,yI,yF,yZ,yM,yU,yL,yB,yR,Zd8]
 have h9:(List.replicate 9 (0:F)).length = 9:=rfl
 have hz:[ff 0,ff 0,ff 0,ff 0,ff 0,ff 0,ff 0,ff 0,ff 0] = ffs (List.replicate 9 0):=rfl
 simp -implicitDefEqProofs only [go_sem,Nat.reduceAdd,Nat.reduceSub,Nat.reduceEqDiff,Zo,hz]
 refine Zu (ι:={ i:Nat // i ≤ 9 ∧ i ≤ bl.length } × { l:List F // l.length = 9 }) [4,5,6,7,8,9,10,11,12,13,14,15,16,17,18,19,20,21,22,23,24,25,26,27,28,29,30,31,32,33,34,35,36,37,38,39,40,41,42,43,44,45,46,47,48,49,50,51,52] (fun i=>[(4,i64 i.1.1)]) (fun i=>[(0,.ob (.var (.arr 9 (.arr 4 .one)) (.agg (ffs (List.replicate 9 0))))),(1,.ob (.var (.arr 9 (.arr 4 .one)) (.agg (ffs i.2.1))))]) 2 (fun i=>9 - i.1.1) ⟨⟨0,Nat.zero_le _,Nat.zero_le _⟩,⟨_,h9⟩⟩ ?_ ?_
 ·rw [Zf]
  refine Ze [(0,0),(1,1)] rfl rfl rfl ?_ ?_
  ·simp -implicitDefEqProofs only [go_sem,Nat.reduceAdd,Nat.reduceEqDiff,Nat.reduceLT,PV.plain]
  ·simp -implicitDefEqProofs only [go_sem,Nat.reduceEqDiff]
 intro ⟨⟨i,hi9,hi⟩,⟨l,hl⟩⟩ G hG
 simp -implicitDefEqProofs only [go_sem]
 by_cases h1:(i:Int) < 9
 rotate_left
 ·simp -implicitDefEqProofs only [go_sem,Nat.reduceEqDiff,h1,decide_false]
  exact ⟨by rw [hl]; rfl,Zb (ps:=[.agg (ffs l)]) (by show (PV.agg (ffs l)).plain = true; simp only [PV.plain]; exact Zw) (hK l hl)⟩
 by_cases h2:(i:Int) < (bl.length:Int)
 rotate_left
 ·simp -implicitDefEqProofs only [go_sem,Nat.reduceEqDiff,h1,h2,decide_true,decide_false]
  exact ⟨by rw [hl]; rfl,Zb (ps:=[.agg (ffs l)]) (by show (PV.agg (ffs l)).plain = true; simp only [PV.plain]; exact Zw) (hK l hl)⟩
 have hil:i < bl.length:=by omega
 have hbi:=hb _ (Zgm (l:=bl) (d:=0) hil)
 have cwi:IntKind.i64.wrap ((i:Int) + 1) = ((i + 1:Nat):Int):=by rw [wrs (by omega) (by omega)]; omega
 have cwb:IntKind.u8.wrap (i:Int) = (i:Int):=by rw [IntKind.wrap_u8]; omega
 obtain ⟨y,hy⟩:∃ y,bl.getD i 0 = y:=⟨_,rfl⟩
 rw [hy] at hbi
 have hrow:[PV.val (.int .u8 y),.val (.int .u8 (i:Int)),.val (.int .u8 y),.val (.int .u8 y),.val (.int .u8 7),.val (.int .u8 y),.val (.int .u8 y),.val (.int .u8 y),.val (.int .u8 y),.val (.int .u8 y)] = by8s [y,(i:Int),y,y,7,y,y,y,y,y]:=rfl
 simp -implicitDefEqProofs only [go_sem,Nat.reduceAdd,Nat.reduceMul,Nat.reduceEqDiff,Nat.reduceLT,h1,h2,decide_true,Zn9 hil,by8P,hy,cwb,hrow]
 repeat (with_reducible refine And.intro (by first | omega | decide) ?_)
 refine Z7o (bl:=[y,(i:Int),y,y,7,y,y,y,y,y]) (fun x hx=>?_) (by simp) fun x=>?_
 ·simp only [List.mem_cons,List.not_mem_nil,or_false] at hx
  omega
 simp -implicitDefEqProofs only [go_sem,Nat.reduceAdd,Nat.reduceMul,Nat.reduceEqDiff,h1,cwi]
 repeat (with_reducible refine And.intro (by first | omega | decide) ?_)
 refine hG _ ⟨⟨i + 1,by omega,by omega⟩,⟨l.set i x,by rw [List.length_set]; exact hl⟩⟩ (by show 9 - (i + 1) < 9 - i; omega) ?_
 rw [Zf]
 refine Ze [(0,0),(1,1)] rfl rfl rfl ?_ ?_
 ·simp -implicitDefEqProofs only [go_sem,Nat.reduceAdd,Nat.reduceEqDiff,Nat.reduceLT,PV.plain,List.length_set,hl]
 ·simp -implicitDefEqProofs only [go_sem,Nat.reduceEqDiff]
end Go.Proofs.Tryz.PMT
namespace Go.Proofs.Tryz.PMT
open Go Go.Proofs.PM Go.Proofs.Tryz
end Go.Proofs.Tryz.PMT
namespace Go.Proofs.Tryz.PMT
open Go Go.Proofs.PM Go.Proofs.PL Go.Proofs.Tryz
set_option maxRecDepth 4000
theorem Zk9 {os:Nat→Cel} {j m:Nat} {e:TypeId} {sh:Sh} {l:List PV} (h:os j = .ob (.row e sh l)) (hm:m = l.length) (hp:Zbc l = true) :
  cnvW (fun _=>none) false (fun i=>(os i).get) (cnv (fun _=>none) false (fun i=>(os i).get) 2) (.osl j [] 0 m) = .vsl false sh l:=by
 have g3:(os j).get = some (.row e sh l):=by rw [h]; rfl
 have e1:(Ob.row e sh l).sh.offs [] = some (0,.arr l.length sh):=rfl
 have e2:(Ob.row e sh l).con.get [] = some (.agg l):=rfl
 simp only [cnvW,g3,e1,e2,List.drop_zero,hm,List.take_length]
 rw [Zh6 fun p hq=>Zbs (plainL_iff.1 hp p hq)]
theorem Z8d {os:Nat→Cel} {i1 i2 i3 i4 i5 n1 n2 n3 n4 n5:Nat} {e1 e2 e3 e4 e5:TypeId} {P V:Int} {R:List Rw} {S:List (Int × Int)} {pubs vals:List F} {steps:List Stp}
  (h1:os i1 = .ob (.row e1 shR (rws R))) (h2:os i2 = .ob (.row e2 (.arr 2 .one) (sms S))) (h3:os i3 = .ob (.row e3 (.arr 4 .one) (ffs pubs))) (h4:os i4 = .ob (.row e4 (.arr 4 .one) (ffs vals))) (h5:os i5 = .ob (.row e5 shS (sts steps)))
  (g1:n1 = R.length) (g2:n2 = S.length) (g3:n3 = pubs.length) (g4:n4 = vals.length) (g5:n5 = steps.length) :
  cnv (fun _=>none) false (fun id=>(os id).get) 3 (.agg [.agg [.val (.int .i64 P),.val (.int .i64 V),.osl i1 [] 0 n1,.osl i2 [] 0 n2],.osl i3 [] 0 n3,.osl i4 [] 0 n4,.osl i5 [] 0 n5]) = .agg [.agg [.val (.int .i64 P),.val (.int .i64 V),.vsl false shR (rws R),.vsl false (.arr 2 .one) (sms S)],.vsl false (.arr 4 .one) (ffs pubs),.vsl false (.arr 4 .one) (ffs vals),.vsl false shS (sts steps)]:=by
 rw [Zg,Za,Za,Za,Za,Z1,Z0,Za,Za,Za,Za,Z1,Zd,Zd,
  Zk9 h1 (by rw [Z7j,g1]) Zi,Zk9 h2 (by rw [Z7i,g2]) Zk,Zk9 h3 (by rw [Zba,g3]) Zw,Zk9 h4 (by rw [Zba,g4]) Zw,Zk9 h5 (by rw [Z7h,g5]) Zge]
end Go.Proofs.Tryz.PMT
