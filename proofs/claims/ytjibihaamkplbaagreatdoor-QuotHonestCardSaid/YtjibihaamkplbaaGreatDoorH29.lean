/- The contract of intagliolaw27.Honest. No conditions beyond what each names. -/
import Derived.Test.YtjibihaamkplbaaGreatDoorH26
import Derived.Test.YtjibihaamkplbaaGreatDoorH25
import Derived.Test.YtjibihaamkplbaaGreatDoorH28
import Derived.Test.YtjibihaamkplbaaGreatDoorH27
import Derived.Test.YtjibihaamkplbaaGreatDoorH24
import Derived.Test.YtjibihaamkplbaaGreatDoorH18
import Derived.Test.YtjibihaamkplbaaGreatDoorH15
set_option linter.all false
namespace Go.Proofs.Tryz.PMT
open Go Go.Proofs.PM Go.Proofs.PL Go.Proofs.Tryz
variable {K:PV→List Ob→Prop}
set_option maxRecDepth 4000
abbrev mdV (P V:Nat) (rows:List Rw) (same:List (Int × Int)) (pubs vals:List F) (steps:List Stp):PV:=.agg [cV P V rows same,vF false pubs,vF false vals,.vsl false shS (sts steps)]
def wiP (rows:List Rw) (vals B:List F) (L j:Nat):List F:=adc (cut (bkR (celL rows vals L j (2 ^ L))).1) (pm ((B.drop (2 * j)).take 2) (vnl (2 ^ L)))
def zeP (v B:List F) (L:Nat):List F:=adc (cut (bkR v).1) (pm ((B.drop 6).take 3) (vnl (2 ^ L)))
def puP (pubs:List F) (L:Nat):List F:=cut (bkR (pbL pubs (2 ^ L) pubs.length)).1
abbrev hoO (rows:List Rw) (vals B pubs v:List F) (L:Nat):List Ob:=[.row 28 (.arr 4 .one) (ffs (wiP rows vals B L 0)),.row 28 (.arr 4 .one) (ffs (wiP rows vals B L 1)),.row 28 (.arr 4 .one) (ffs (wiP rows vals B L 2)),.row 28 (.arr 4 .one) (ffs (zeP v B L)),.row 28 (.arr 4 .one) (ffs (puP pubs L))]
abbrev hoV (rows:List Rw) (l:List Int) (vals B pubs v:List F) (L:Nat) (is:Bool):PV:=.tup [polV rows l L,.agg [.osl 0 [] 0 (wiP rows vals B L 0).length,.osl 1 [] 0 (wiP rows vals B L 1).length,.osl 2 [] 0 (wiP rows vals B L 2).length],.osl 3 [] 0 (zeP v B L).length,.osl 4 [] 0 (puP pubs L).length,bo is]
theorem Zu5 {os:Nat→Cel} {i0 i1 i2 n0 n1 n2:Nat} {e:TypeId} {T:Nat→List F} (h0:os i0 = .ob (.row e (.arr 4 .one) (ffs (T 0)))) (h1:os i1 = .ob (.row e (.arr 4 .one) (ffs (T 1)))) (h2:os i2 = .ob (.row e (.arr 4 .one) (ffs (T 2)))) (g0:n0 = (T 0).length) (g1:n1 = (T 1).length) (g2:n2 = (T 2).length) :
  cnv (fun _=>none) false (fun i=>(os i).get) 3 (.agg [.osl i0 [] 0 n0,.osl i1 [] 0 n1,.osl i2 [] 0 n2]) = .agg [vF false (T 0),vF false (T 1),vF false (T 2)]:=by
 have key:∀ (j m:Nat) (l:List F),os j = .ob (.row e (.arr 4 .one) (ffs l))→m = l.length→cnvW (fun _=>none) false (fun i=>(os i).get) (cnv (fun _=>none) false (fun i=>(os i).get) 2) (.osl j [] 0 m) = vF false l:=fun j m l h hm=>by
  have g3:(os j).get = some (.row e (.arr 4 .one) (ffs l)):=by rw [h]; rfl
  have e1:(Ob.row e (.arr 4 .one) (ffs l)).sh.offs [] = some (0,.arr (ffs l).length (.arr 4 .one)):=rfl
  have e2:(Ob.row e (.arr 4 .one) (ffs l)).con.get [] = some (.agg (ffs l)):=rfl
  simp only [cnvW,g3,e1,e2,List.drop_zero,Zbn,hm,List.take_length]
  rw [Zg1 fun p hp=>Zbo (plainL_iff.1 Zv p hp)]
 rw [Zg,Za,Za,Za,Z0,key _ _ _ h0 g0,key _ _ _ h1 g1,key _ _ _ h2 g2]
set_option maxHeartbeats 16000000 in
theorem Z26 {P V:Nat} {rows:List Rw} {same:List (Int × Int)} {pubs vals B:List F} {steps:List Stp} {be ga al ze vv uu:F} (h:CG P V rows same) (hv:vals.length = V) (hpb:pubs.length ≤ rows.length) (hB:B.length = 9)
  (hK:∀ (L:Nat) (l:List Int),1 ≤ L ∧ L ≤ 6→rows.length ≤ 2 ^ L→(L = 1 ∨ 2 ^ (L - 1) < rows.length)→ClsI same V l →
   ((∃ i j,i < 2 ^ L ∧ j < 3 ∧ unF be ga (fun j=>celL rows vals L j (2 ^ L)) (fun j=>nmL rows l L j (2 ^ L)) i j = 0)→K (hoV rows l vals B pubs [] L false) (hoO rows vals B pubs [] L))
   ∧ ((∀ i j,i < 2 ^ L→j < 3→unF be ga (fun j=>celL rows vals L j (2 ^ L)) (fun j=>nmL rows l L j (2 ^ L)) i j ≠ 0)→K (hoV rows l vals B pubs (rzL L be ga (fun j=>celL rows vals L j (2 ^ L)) (fun j=>nmL rows l L j (2 ^ L)) (2 ^ L)) L true) (hoO rows vals B pubs (rzL L be ga (fun j=>celL rows vals L j (2 ^ L)) (fun j=>nmL rows l L j (2 ^ L)) (2 ^ L)) L))) :
  PSpec prog 27 [mdV P V rows same pubs vals steps,.agg [ff be,ff ga,ff al,ff ze,ff vv,ff uu],.agg (ffs B)] [] K:=by
 refine Zgw ?_
 simp only [yS,yN,yG,yT,yI,yF,yZ,yM,yU,yL,yB,yR,Zdb,mdV,cV,sR,vF]
 have hb9:(B.length == 9) = true:=by rw [hB]; rfl
 simp -implicitDefEqProofs only [go_sem,Nat.reduceAdd,Nat.reduceSub,Nat.reduceEqDiff,Nat.reduceLT,Zlf,hb9,true_and]
 refine Z21 h fun L l hL hrl hLm hl=>?_
 have hKe:=hK L l hL hrl hLm hl
 clear hK
 have hsh:=shl1 (show L < 63 by omega)
 have hn0:=Nat.two_pow_pos L
 have hn:2 ^ L ≤ 64:=Nat.pow_le_pow_right (n:=2) (by decide) hL.2
 have hvl:=Zjv (2 ^ L)
 have htv:List.take (2 ^ L + 1) (vnl (2 ^ L)) = vnl (2 ^ L):=List.take_of_length_le (by omega)
 simp -implicitDefEqProofs only [go_sem,Nat.reduceAdd,Nat.reduceEqDiff,Nat.reduceLT,Znq,frzF,Zlf,Bool.true_or,Bool.and_self,true_and]
 refine Zuo h hv hL.1 hL.2 hrl ?_
 simp -implicitDefEqProofs only [go_sem,Nat.reduceAdd,Nat.reduceEqDiff,Nat.reduceLT,Nat.reduceLeDiff,↓hsh]
 refine Zn8 (n:=2 ^ L) (by omega) (by omega) ?_
 simp -implicitDefEqProofs only [go_sem,Nat.reduceAdd,Nat.reduceEqDiff,Nat.reduceLeDiff]
 refine Zn 4 ?_
 have hc:∀ j,List.take (2 ^ L) (celL rows vals L j (2 ^ L)) = celL rows vals L j (2 ^ L):=fun j=>List.take_of_length_le (by rw [cel_len]; omega)
 have hbk:∀ v:List F,(cut (bkR v).1).length ≤ v.length:=fun v=>Nat.le_trans (Zbm _) (Zp2 v)
 have hb2:∀ j,((B.drop (2 * j)).take 2).length ≤ 2:=fun j=>by rw [List.length_take]; omega
 have hp2:∀ j,(pm ((B.drop (2 * j)).take 2) (vnl (2 ^ L))).length ≤ 2 + (2 ^ L + 1):=fun j=>by
  have h1:=pm_le ((B.drop (2 * j)).take 2) (vnl (2 ^ L))
  have h2:=hb2 j
  omega
 have hcl:∀ j,(cut (bkR (celL rows vals L j (2 ^ L))).1).length ≤ 2 ^ L:=fun j=>Nat.le_trans (hbk _) (by rw [cel_len]; omega)
 have hz0:List.drop 0 B = B:=rfl
 simp -implicitDefEqProofs only [go_sem,Nat.reduceEqDiff,Nat.reduceLT,Int.reduceLT,Int.reduceLE,hc 0]
 refine Zdf (l:=celL rows vals L 0 (2 ^ L)) (by rw [cel_len]; omega) ?_
 simp -implicitDefEqProofs only [go_sem,Nat.reduceAdd,Nat.reduceEqDiff,Nat.reduceLT,Nat.reduceLeDiff,Int.reduceToNat,Int.reduceLE,Int.reduceAdd,Int.reduceMul,Int.reduceNeg,Zbn,Zdi,htv]
 repeat (with_reducible refine And.intro (by first | omega | decide) ?_)
 refine Zk7 (a:=(B.drop (2 * 0)).take 2) (b:=vnl (2 ^ L)) (by have:=hb2 0; omega) (by omega) ?_
 simp -implicitDefEqProofs only [go_sem,Nat.reduceAdd,Nat.reduceMul,Nat.reduceEqDiff,Nat.reduceLT,Nat.reduceLeDiff,List.take_length]
 refine Zh0 (a:=cut (bkR (celL rows vals L 0 (2 ^ L))).1) (b:=pm ((B.drop (2 * 0)).take 2) (vnl (2 ^ L))) (by have:=hcl 0; omega) (by have:=hp2 0; omega) ?_
 simp -implicitDefEqProofs only [go_sem,Nat.reduceAdd,Nat.reduceMul,Nat.reduceEqDiff,Nat.reduceLT,Nat.reduceLeDiff,Int.reduceToNat,Int.reduceLT,Int.reduceLE,Int.reduceAdd,Int.reduceNeg,hc 1]
 refine Zdf (l:=celL rows vals L 1 (2 ^ L)) (by rw [cel_len]; omega) ?_
 simp -implicitDefEqProofs only [go_sem,Nat.reduceAdd,Nat.reduceSub,Nat.reduceEqDiff,Nat.reduceLT,Nat.reduceLeDiff,Int.reduceToNat,Int.reduceLE,Int.reduceAdd,Int.reduceMul,Int.reduceNeg,Zbn,Zdi,htv]
 repeat (with_reducible refine And.intro (by first | omega | decide) ?_)
 refine Zk7 (a:=(B.drop (2 * 1)).take 2) (b:=vnl (2 ^ L)) (by have:=hb2 1; omega) (by omega) ?_
 simp -implicitDefEqProofs only [go_sem,Nat.reduceAdd,Nat.reduceMul,Nat.reduceEqDiff,Nat.reduceLT,Nat.reduceLeDiff,List.take_length]
 refine Zh0 (a:=cut (bkR (celL rows vals L 1 (2 ^ L))).1) (b:=pm ((B.drop (2 * 1)).take 2) (vnl (2 ^ L))) (by have:=hcl 1; omega) (by have:=hp2 1; omega) ?_
 simp -implicitDefEqProofs only [go_sem,Nat.reduceAdd,Nat.reduceMul,Nat.reduceEqDiff,Nat.reduceLT,Nat.reduceLeDiff,Int.reduceToNat,Int.reduceLT,Int.reduceLE,Int.reduceAdd,Int.reduceNeg,hc 2]
 refine Zdf (l:=celL rows vals L 2 (2 ^ L)) (by rw [cel_len]; omega) ?_
 simp -implicitDefEqProofs only [go_sem,Nat.reduceAdd,Nat.reduceSub,Nat.reduceEqDiff,Nat.reduceLT,Nat.reduceLeDiff,Int.reduceToNat,Int.reduceLE,Int.reduceAdd,Int.reduceMul,Int.reduceNeg,Zbn,Zdi,htv]
 repeat (with_reducible refine And.intro (by first | omega | decide) ?_)
 refine Zk7 (a:=(B.drop (2 * 2)).take 2) (b:=vnl (2 ^ L)) (by have:=hb2 2; omega) (by omega) ?_
 simp -implicitDefEqProofs only [go_sem,Nat.reduceAdd,Nat.reduceMul,Nat.reduceEqDiff,Nat.reduceLT,Nat.reduceLeDiff,List.take_length]
 refine Zh0 (a:=cut (bkR (celL rows vals L 2 (2 ^ L))).1) (b:=pm ((B.drop (2 * 2)).take 2) (vnl (2 ^ L))) (by have:=hcl 2; omega) (by have:=hp2 2; omega) ?_
 simp -implicitDefEqProofs only [go_sem,Nat.reduceAdd,Nat.reduceMul,Nat.reduceEqDiff,Nat.reduceLT,Nat.reduceLeDiff,Int.reduceToNat,Int.reduceLT,Int.reduceLE,Int.reduceAdd,Int.reduceNeg]
 rw [Zu5 (e:=28) (T:=fun j=>celL rows vals L j (2 ^ L)) rfl rfl rfl cel_len.symm cel_len.symm cel_len.symm]
 simp -implicitDefEqProofs only [go_sem,Zg,Za,Zh,Zc,Zv,Bool.and_false]
 refine Zqz (W:=fun j=>celL rows vals L j (2 ^ L)) (S:=fun j=>nmL rows l L j (2 ^ L)) hL.1 hL.2 (fun j=>cel_len) (fun j=>Zde) (fun hx=>?_) (fun hx=>?_)
 ·have hKf:=hKe.1 hx
  clear hKe
  have hzl:(cut (bkR ([]:List F)).1).length ≤ 2 ^ L:=Nat.le_trans (hbk _) (by first | exact Nat.zero_le _ | (rw [Zhv]; omega))
  have h63:((B.drop 6).take 3).length ≤ 3:=by rw [List.length_take]; omega
  have hp3:=pm_le ((B.drop 6).take 3) (vnl (2 ^ L))
  simp -implicitDefEqProofs only [go_sem,Nat.reduceAdd,Nat.reduceEqDiff,Nat.reduceLT,Nat.reduceLeDiff]
  refine Zdf (l:=([]:List F)) (by first | decide | (rw [Zhv]; omega)) ?_
  simp -implicitDefEqProofs only [go_sem,Nat.reduceAdd,Nat.reduceSub,Nat.reduceEqDiff,Nat.reduceLT,Nat.reduceLeDiff,Int.reduceToNat,Int.reduceLE,Zbn,Zdi,htv]
  repeat (with_reducible refine And.intro (by first | omega | decide) ?_)
  refine Zk7 (a:=(B.drop 6).take 3) (b:=vnl (2 ^ L)) (by omega) (by omega) ?_
  simp -implicitDefEqProofs only [go_sem,Nat.reduceAdd,Nat.reduceEqDiff,Nat.reduceLT,Nat.reduceLeDiff,List.take_length]
  refine Zh0 (a:=cut (bkR ([]:List F)).1) (b:=pm ((B.drop 6).take 3) (vnl (2 ^ L))) (by omega) (by omega) ?_
  simp -implicitDefEqProofs only [go_sem,Nat.reduceAdd,Nat.reduceEqDiff,Nat.reduceLT,Nat.reduceLeDiff]
  refine Zmm hL.1 hL.2 (by omega) ?_
  have hpt:List.take (2 ^ L) (pbL pubs (2 ^ L) pubs.length) = pbL pubs (2 ^ L) pubs.length:=List.take_of_length_le (by rw [Zf8]; omega)
  simp -implicitDefEqProofs only [go_sem,Nat.reduceAdd,Nat.reduceEqDiff,Nat.reduceLT,Nat.reduceLeDiff,hpt]
  refine Zdf (l:=pbL pubs (2 ^ L) pubs.length) (by rw [Zf8]; omega) ?_
  simp -implicitDefEqProofs only [go_sem,Nat.reduceAdd,Nat.reduceMul,Nat.reduceEqDiff,Nat.reduceLT,Nat.reduceLeDiff,Int.reduceBEq,Bool.and_self]
  refine Zb2 (n:=0) (own:=[]) [(16,0),(19,1),(22,2),(27,3),(29,4)] (hoO rows vals B pubs [] L) [polV rows l L,.agg [.osl 0 [] 0 (wiP rows vals B L 0).length,.osl 1 [] 0 (wiP rows vals B L 1).length,.osl 2 [] 0 (wiP rows vals B L 2).length],.osl 3 [] 0 (zeP [] B L).length,.osl 4 [] 0 (puP pubs L).length,bo false] rfl rfl rfl rfl ?_ ?_ hKf
  ·simp -implicitDefEqProofs only [go_sem,Nat.reduceAdd,Nat.reduceMul,Nat.reduceEqDiff,Nat.reduceLT,hoO,wiP,zeP,puP,Nat.mul_zero,Nat.mul_one,List.drop_zero]
  ·simp -implicitDefEqProofs only [go_sem,Nat.reduceMul,Nat.reduceEqDiff,Znq,frzF,wiP,zeP,puP,Nat.mul_zero,Nat.mul_one,List.drop_zero,Zg,Za,Ze,Z1,Zh,Zc,Zv,Bool.and_self,Zr,Zt]
 ·have hKf:=hKe.2 hx
  clear hKe
  have hzl:(cut (bkR (rzL L be ga (fun j=>celL rows vals L j (2 ^ L)) (fun j=>nmL rows l L j (2 ^ L)) (2 ^ L))).1).length ≤ 2 ^ L:=Nat.le_trans (hbk _) (by first | exact Nat.zero_le _ | (rw [Zhv]; omega))
  have h63:((B.drop 6).take 3).length ≤ 3:=by rw [List.length_take]; omega
  have hp3:=pm_le ((B.drop 6).take 3) (vnl (2 ^ L))
  have hrt:List.take (2 ^ L) (rzL L be ga (fun j=>celL rows vals L j (2 ^ L)) (fun j=>nmL rows l L j (2 ^ L)) (2 ^ L)) = (rzL L be ga (fun j=>celL rows vals L j (2 ^ L)) (fun j=>nmL rows l L j (2 ^ L)) (2 ^ L)):=List.take_of_length_le (by rw [Zhv]; omega)
  simp -implicitDefEqProofs only [go_sem,Nat.reduceAdd,Nat.reduceEqDiff,Nat.reduceLT,Nat.reduceLeDiff,hrt]
  refine Zdf (l:=(rzL L be ga (fun j=>celL rows vals L j (2 ^ L)) (fun j=>nmL rows l L j (2 ^ L)) (2 ^ L))) (by first | decide | (rw [Zhv]; omega)) ?_
  simp -implicitDefEqProofs only [go_sem,Nat.reduceAdd,Nat.reduceSub,Nat.reduceEqDiff,Nat.reduceLT,Nat.reduceLeDiff,Int.reduceToNat,Int.reduceLE,Zbn,Zdi,htv]
  repeat (with_reducible refine And.intro (by first | omega | decide) ?_)
  refine Zk7 (a:=(B.drop 6).take 3) (b:=vnl (2 ^ L)) (by omega) (by omega) ?_
  simp -implicitDefEqProofs only [go_sem,Nat.reduceAdd,Nat.reduceEqDiff,Nat.reduceLT,Nat.reduceLeDiff,List.take_length]
  refine Zh0 (a:=cut (bkR (rzL L be ga (fun j=>celL rows vals L j (2 ^ L)) (fun j=>nmL rows l L j (2 ^ L)) (2 ^ L))).1) (b:=pm ((B.drop 6).take 3) (vnl (2 ^ L))) (by omega) (by omega) ?_
  simp -implicitDefEqProofs only [go_sem,Nat.reduceAdd,Nat.reduceEqDiff,Nat.reduceLT,Nat.reduceLeDiff]
  refine Zmm hL.1 hL.2 (by omega) ?_
  have hpt:List.take (2 ^ L) (pbL pubs (2 ^ L) pubs.length) = pbL pubs (2 ^ L) pubs.length:=List.take_of_length_le (by rw [Zf8]; omega)
  simp -implicitDefEqProofs only [go_sem,Nat.reduceAdd,Nat.reduceEqDiff,Nat.reduceLT,Nat.reduceLeDiff,hpt]
  refine Zdf (l:=pbL pubs (2 ^ L) pubs.length) (by rw [Zf8]; omega) ?_
  simp -implicitDefEqProofs only [go_sem,Nat.reduceAdd,Nat.reduceMul,Nat.reduceEqDiff,Nat.reduceLT,Nat.reduceLeDiff,Bool.and_self]
  refine Zb2 (n:=0) (own:=[]) [(16,0),(19,1),(22,2),(27,3),(29,4)] (hoO rows vals B pubs (rzL L be ga (fun j=>celL rows vals L j (2 ^ L)) (fun j=>nmL rows l L j (2 ^ L)) (2 ^ L)) L) [polV rows l L,.agg [.osl 0 [] 0 (wiP rows vals B L 0).length,.osl 1 [] 0 (wiP rows vals B L 1).length,.osl 2 [] 0 (wiP rows vals B L 2).length],.osl 3 [] 0 (zeP (rzL L be ga (fun j=>celL rows vals L j (2 ^ L)) (fun j=>nmL rows l L j (2 ^ L)) (2 ^ L)) B L).length,.osl 4 [] 0 (puP pubs L).length,bo true] rfl rfl rfl rfl ?_ ?_ hKf
  ·simp -implicitDefEqProofs only [go_sem,Nat.reduceAdd,Nat.reduceMul,Nat.reduceEqDiff,Nat.reduceLT,hoO,wiP,zeP,puP,Nat.mul_zero,Nat.mul_one,List.drop_zero]
  ·simp -implicitDefEqProofs only [go_sem,Nat.reduceMul,Nat.reduceEqDiff,Znq,frzF,wiP,zeP,puP,Nat.mul_zero,Nat.mul_one,List.drop_zero,Zg,Za,Ze,Z1,Zh,Zc,Zv,Bool.and_self,Zr,Zt]
end Go.Proofs.Tryz.PMT
namespace Go.Proofs.PL
def prF (g:Nat→F):Nat→F
 | 0=>1
 | n + 1=>prF g n * g n
def prL:List F→F
 | []=>1
 | a :: l=>a * prL l
theorem Z0w (a b:F):a * b = b * a:=by grind
theorem Ztb (a b c:F):a * b * c = a * (b * c):=by grind
theorem Zwf (a:F):1 * a = a:=by grind
theorem Ztc (a:F):a * 1 = a:=by grind
theorem Zzb:∀ l m:List F,prL (l ++ m) = prL l * prL m
 | [],m=>(Zwf _).symm
 | a :: l,m=>by
  show a * prL (l ++ m) = a * prL l * prL m
  rw [Zzb l m,Ztb]
theorem Zzc (g:Nat→F):∀ n,prF g n = prL ((List.range n).map g)
 | 0=>rfl
 | n + 1=>by
  rw [List.range_succ,List.map_append,Zzb,← Zzc g n]
  show prF g n * g n = prF g n * (g n * 1)
  rw [Ztc]
theorem Z2e {l m:List F} (h:l.Perm m):prL l = prL m:=by
 induction h with
 | nil=>rfl
 | cons x _ ih=>show x * prL _ = x * prL _; rw [ih]
 | swap x y l =>
  show y * (x * prL l) = x * (y * prL l)
  rw [← Ztb,← Ztb,Z0w y x]
 | trans _ _ h1 h2=>rw [h1,h2]
structure InjB (s:Nat→Nat) (n:Nat):Prop where
 lt:∀ x,x < n→s x < n
 inj:∀ x y,x < n→y < n→s x = s y→x = y
theorem Zsq {s:Nat→Nat}:∀ l:List Nat,l.Nodup→(∀ x y,x ∈ l→y ∈ l→s x = s y→x = y)→(l.map s).Nodup
 | [],_,_=>List.nodup_nil
 | a :: l,h,hi=>by
  obtain ⟨h1,h2⟩:=List.nodup_cons.1 h
  rw [List.map_cons,List.nodup_cons]
  refine ⟨fun hm=>?_,Zsq l h2 fun x y hx hy=>hi x y (by simp [hx]) (by simp [hy])⟩
  obtain ⟨y,hy,e⟩:=List.mem_map.1 hm
  have:=hi y a (by simp [hy]) (by simp) e
  exact h1 (this ▸ hy)
theorem Z2f {s:Nat→Nat} {n:Nat} (h:InjB s n) (g:Nat→F):prF (fun x=>g (s x)) n = prF g n:=by
 have hn:((List.range n).map s).Nodup:=Zsq _ List.nodup_range fun x y hx hy=>h.inj x y (List.mem_range.1 hx) (List.mem_range.1 hy)
 have hs:∀ x,x ∈ (List.range n).map s→x ∈ List.range n:=fun x hx=>by
  obtain ⟨y,hy,rfl⟩:=List.mem_map.1 hx
  exact List.mem_range.2 (h.lt y (List.mem_range.1 hy))
 have hp:((List.range n).map s).Perm (List.range n):=(List.perm_ext_iff_of_nodup hn List.nodup_range).2 fun x =>
  ⟨hs x,Zzi _ _ hn hs (by rw [List.length_map]; exact Nat.le_refl _) x⟩
 have hp2:=hp.map g
 rw [List.map_map] at hp2
 rw [Zzc,Zzc,← Z2e hp2]
 rfl
theorem Zuc (f g:Nat→F):∀ n,prF (fun i=>f i * g i) n = prF f n * prF g n
 | 0=>(Zwf 1).symm
 | n + 1=>by
  show prF (fun i=>f i * g i) n * (f n * g n) = prF f n * f n * (prF g n * g n)
  rw [Zuc f g n]
  grind
theorem Zud (g:Nat→F) (n:Nat):∀ m,prF g (n + m) = prF g n * prF (fun i=>g (n + i)) m
 | 0=>(Ztc _).symm
 | m + 1=>by
  show prF g (n + m) * g (n + m) = prF g n * (prF (fun i=>g (n + i)) m * g (n + m))
  rw [Zud g n m,Ztb]
theorem Znp {f g:Nat→F}:∀ n,(∀ i,i < n→f i = g i)→prF f n = prF g n
 | 0,_=>rfl
 | n + 1,h=>by
  show prF f n * f n = prF g n * g n
  rw [Znp n fun i hi=>h i (by omega),h n (by omega)]
theorem Z4q {g:Nat→F}:∀ n,(∀ i,i < n→g i ≠ 0)→prF g n ≠ 0
 | 0,_=>Zft
 | n + 1,h=>fun e=>by
  rcases Zf9 (show prF g n * g n = 0 from e) with e | e
  ·exact Z4q n (fun i hi=>h i (by omega)) e
  ·exact h n (by omega) e
theorem Zr7 (g:Nat→F) (n:Nat):prF g (3 * n) = prF (fun i=>g i * g (n + i) * g (2 * n + i)) n:=by
 rw [Zuc (fun i=>g i * g (n + i)) (fun i=>g (2 * n + i)),Zuc (fun i=>g i) (fun i=>g (n + i)),show 3 * n = 2 * n + n by omega,Zud g (2 * n) n,show 2 * n = n + n by omega,Zud g n n]
theorem rz_alg {R P o0 o1 o2 u0 u1 u2 i0 i1 i2:F} (h0:u0 * i0 = 1) (h1:u1 * i1 = 1) (h2:u2 * i2 = 1):R * (o0 * i0) * (o1 * i1) * (o2 * i2) * (P * (u0 * u1 * u2)) = R * P * (o0 * o1 * o2):=by
 have:R * (o0 * i0) * (o1 * i1) * (o2 * i2) * (P * (u0 * u1 * u2)) = R * P * (o0 * o1 * o2) * (u0 * i0) * (u1 * i1) * (u2 * i2):=by grind
 rw [this,h0,h1,h2]
 grind
theorem Zib (x:F) (hx:x ≠ 0):x * inv x = 1:=Zuy x hx
theorem Zy4 {L:Nat} {be ga:F} {W S:Nat→List F}:∀ n,(∀ i j,i < n→j < 3→unF be ga W S i j ≠ 0) →
  rzS L be ga W S n * prF (fun i=>unF be ga W S i 0 * unF be ga W S i 1 * unF be ga W S i 2) n = prF (fun i=>ovF L be ga W i 0 * ovF L be ga W i 1 * ovF L be ga W i 2) n
 | 0,_=>Zwf 1
 | n + 1,h=>by
  have ih:=Zy4 (L:=L) n fun i j hi hj=>h i j (by omega) hj
  have h0:=Zib _ (h n 0 (by omega) (by omega))
  have h1:=Zib _ (h n 1 (by omega) (by omega))
  have h2:=Zib _ (h n 2 (by omega) (by omega))
  show rzS L be ga W S n * (ovF L be ga W n 0 * inv (unF be ga W S n 0)) * (ovF L be ga W n 1 * inv (unF be ga W S n 1)) * (ovF L be ga W n 2 * inv (unF be ga W S n 2)) * (prF (fun i=>unF be ga W S i 0 * unF be ga W S i 1 * unF be ga W S i 2) n * (unF be ga W S n 0 * unF be ga W S n 1 * unF be ga W S n 2)) = prF (fun i=>ovF L be ga W i 0 * ovF L be ga W i 1 * ovF L be ga W i 2) n * (ovF L be ga W n 0 * ovF L be ga W n 1 * ovF L be ga W n 2)
  rw [rz_alg h0 h1 h2,ih]
theorem rz_one {n L:Nat} {be ga:F} {W S:Nat→List F} (g:Nat→F) (s:Nat→Nat) (hs:InjB s (3 * n)) (ho:∀ i j,i < n→j < 3→ovF L be ga W i j = g (j * n + i)) (hu:∀ i j,i < n→j < 3→unF be ga W S i j = g (s (j * n + i))) (hn:∀ i j,i < n→j < 3→unF be ga W S i j ≠ 0):rzS L be ga W S n = 1:=by
 have h1:=Zy4 (L:=L) n hn
 have hO:prF (fun i=>ovF L be ga W i 0 * ovF L be ga W i 1 * ovF L be ga W i 2) n = prF g (3 * n):=by
  rw [Zr7]
  refine Znp n fun i hi=>?_
  rw [ho i 0 hi (by omega),ho i 1 hi (by omega),ho i 2 hi (by omega),Nat.zero_mul,Nat.zero_add,Nat.one_mul]
 have hU:prF (fun i=>unF be ga W S i 0 * unF be ga W S i 1 * unF be ga W S i 2) n = prF g (3 * n):=by
  rw [← Z2f hs,Zr7]
  refine Znp n fun i hi=>?_
  rw [hu i 0 hi (by omega),hu i 1 hi (by omega),hu i 2 hi (by omega),Nat.zero_mul,Nat.zero_add,Nat.one_mul]
 have hnz:prF (fun i=>unF be ga W S i 0 * unF be ga W S i 1 * unF be ga W S i 2) n ≠ 0:=Z4q n fun i hi e=>by
  rcases Zf9 e with e | e
  ·rcases Zf9 e with e | e
   ·exact hn i 0 hi (by omega) e
   ·exact hn i 1 hi (by omega) e
  ·exact hn i 2 hi (by omega) e
 rw [hO] at h1
 rw [hU] at h1 hnz
 generalize prF g (3 * n) = P at *
 have h2:(rzS L be ga W S n - 1) * P = 0:=by
  generalize rzS L be ga W S n = R at *
  have:(R - 1) * P = R * P - P:=by grind
  rw [this,h1]; grind
 rcases Zf9 h2 with h3 | h3
 ·generalize rzS L be ga W S n = R at *
  have:R = (R - 1) + 1:=by grind
  rw [this,h3]; exact Zcf 1
 ·exact absurd h3 hnz
end Go.Proofs.PL
namespace Go.Proofs.PL
theorem Z37 {n:Nat} (hn:0 < n):(cut (vnl n)).length ≠ 0:=by
 rw [Ztq hn,Zjv]; omega
theorem Z5b {n:Nat} (hn:0 < n) (f:List F) (x:F):hor x f = hor x (qtV n f) * (x ^ n - 1) + hor x (dv f (vnl n)).2.1:=by
 have h:=congrArg (hor x) (Z8l f (vnl n) (Z37 hn))
 rw [Zii x f,Zrq,Zji,Zp5 hn] at h
 exact h.symm
theorem Z6q {n:Nat} (hn:0 < n) (f:List F):(dv f (vnl n)).2.1.length ≤ n:=by
 have h:=Z3j f (vnl n) (Z37 hn)
 rw [Ztq hn,Zjv,(Z00 f (vnl n)).2] at h
 omega
theorem Z0i {n:Nat} (hn:0 < n) (f:List F):hol n f = true ↔ (dv f (vnl n)).2.1.length = 0:=by
 rw [← hol_dv hn f,decide_eq_true_eq]
theorem Z8b {n:Nat} (hn:0 < n) {f:List F} (h:hol n f = true) (x:F):hor x f = hor x (qtV n f) * (x ^ n - 1):=by
 have h1:=Z5b hn f x
 rw [List.eq_nil_of_length_eq_zero ((Z0i hn f).1 h)] at h1
 rw [h1]
 exact Ze9 _
theorem Zvl {L i:Nat} (hL:L ≤ 32):(rt L ^ i) ^ 2 ^ L = 1:=by
 rw [← Zb3,Nat.mul_comm,Zb3,Zhw hL,Zb6]
theorem Zta (a:F):a - a = 0:=by grind
theorem Zwe (a:F):a * 0 = 0:=by grind
theorem Z0h {L:Nat} (hL:L ≤ 32) {f:List F}:(∀ i,i < 2 ^ L→hor (rt L ^ i) f = 0)→hol (2 ^ L) f = true:=fun h=>by
 have hn:=Nat.two_pow_pos L
 rw [Z0i hn]
 have hz:∀ i,(dv f (vnl (2 ^ L))).2.1.getD i 0 = 0:=by
  refine Zr4 (2 ^ L) _ (Z6q hn f) ((List.range (2 ^ L)).map fun i=>rt L ^ i) ?_ ?_ (by rw [List.length_map,List.length_range]; exact Nat.le_refl _)
  ·unfold List.Nodup
   rw [List.pairwise_map]
   refine List.Pairwise.imp_of_mem ?_ (List.nodup_range (n:=2 ^ L))
   intro a b ha hb hne e
   exact hne (rt_eq hL (List.mem_range.1 ha) (List.mem_range.1 hb) e)
  ·intro z hz
   obtain ⟨i,hi,rfl⟩:=List.mem_map.1 hz
   have h1:=Z5b hn f (rt L ^ i)
   rw [h i (List.mem_range.1 hi),Zvl hL,Zta,Zwe,Zcf] at h1
   exact h1.symm
 have h2:cut (dv f (vnl (2 ^ L))).2.1 = cut []:=Zgd fun i=>by rw [hz i]; rfl
 rw [(Z00 f (vnl (2 ^ L))).2] at h2
 rw [h2]; rfl
theorem Z1z {L i:Nat} (hL:L ≤ 32):hor (rt L ^ i) (vnl (2 ^ L)) = 0:=by
 rw [Zp5 (Nat.two_pow_pos L),Zvl hL,Zta]
theorem Zro {L i:Nat} {v:List F} (hL:L ≤ 9) (hv:v.length = 2 ^ L) (hi:i < 2 ^ L):hor (rt L ^ i) (cut (bkR v).1) = v.getD i 0:=by
 rw [Zii,Zf6 (by rw [hv]; exact Zzy hL)]
 exact Z85 (Nat.le_trans hL (by decide)) hv hi
theorem Z1a {L i:Nat} {v c:List F} (hL:L ≤ 9) (hv:v.length = 2 ^ L) (hi:i < 2 ^ L):hor (rt L ^ i) (adc (cut (bkR v).1) (pm c (vnl (2 ^ L)))) = v.getD i 0:=by
 rw [Zoz,Zji,Zro hL hv hi,Z1z (Nat.le_trans hL (by decide)),Zwe,Ze9]
theorem Zy7 {L i:Nat} (hL:L ≤ 32):rt L * rt L ^ i = rt L ^ ((i + 1) % 2 ^ L):=by
 rw [← Zvk hL,Zbb]
 exact Z0w ..
theorem Z4b:∀ j,sv7 j = of 7 ^ j
 | 0=>(Zbk _).symm
 | j + 1=>by
  show sv7 j * of 7 = _
  rw [Z4b j,Zbb]
theorem Z6e {L:Nat} {be ga:F} {W S:Nat→List F} {i:Nat} (h:∀ j,j < 3→unF be ga W S i j ≠ 0) :
  rzS L be ga W S (i + 1) * unF be ga W S i 0 * unF be ga W S i 1 * unF be ga W S i 2 = rzS L be ga W S i * ovF L be ga W i 0 * ovF L be ga W i 1 * ovF L be ga W i 2:=by
 have h0:=Zib _ (h 0 (by omega))
 have h1:=Zib _ (h 1 (by omega))
 have h2:=Zib _ (h 2 (by omega))
 show rzS L be ga W S i * (ovF L be ga W i 0 * inv (unF be ga W S i 0)) * (ovF L be ga W i 1 * inv (unF be ga W S i 1)) * (ovF L be ga W i 2 * inv (unF be ga W S i 2)) * unF be ga W S i 0 * unF be ga W S i 1 * unF be ga W S i 2 = _
 generalize unF be ga W S i 0 = u0 at *
 generalize unF be ga W S i 1 = u1 at *
 generalize unF be ga W S i 2 = u2 at *
 generalize ovF L be ga W i 0 = o0 at *
 generalize ovF L be ga W i 1 = o1 at *
 generalize ovF L be ga W i 2 = o2 at *
 generalize rzS L be ga W S i = R at *
 generalize inv u0 = i0 at *
 generalize inv u1 = i1 at *
 generalize inv u2 = i2 at *
 have:R * (o0 * i0) * (o1 * i1) * (o2 * i2) * u0 * u1 * u2 = R * o0 * o1 * o2 * (u0 * i0) * (u1 * i1) * (u2 * i2):=by grind
 rw [this,h0,h1,h2,Ztc,Ztc,Ztc]
theorem nu_alg {g p q al l z:F} (hg:g = 0) (h1:p = q) (h2:l * (z - 1) = 0):g + (p - q) * al + l * (z - 1) * (al * al) = 0:=by
 rw [hg,h1,h2,Zta,Zct,Zct,Zcf]
 exact Zcf 0
theorem Z7h {L:Nat} (hL:L ≤ 9) {be ga al:F} {q s:Nat→List F} {a b c z p:List F} {W S:Nat→List F} {i:Nat} (hi:i < 2 ^ L)
  (hw:∀ j,j < 3→hor (rt L ^ i) (w3 a b c j) = (W j).getD i 0) (hs:∀ j,j < 3→hor (rt L ^ i) (s j) = (S j).getD i 0)
  (hz:∀ i,i < 2 ^ L→hor (rt L ^ i) z = rzS L be ga W S i) (h1:rzS L be ga W S (2 ^ L) = 1) (hu:∀ j,j < 3→unF be ga W S i j ≠ 0)
  (hg:hor (rt L ^ i) (gtS (rt L) q a b c p 8) = 0):hor (rt L ^ i) (nuL L be ga al q s a b c z p) = 0:=by
 have hL2:L ≤ 32:=Nat.le_trans hL (by decide)
 rw [nuL,Zzr hL]
 refine nu_alg hg ?_ ?_
 ·have hzn:hor (rt L * rt L ^ i) z = rzS L be ga W S (i + 1):=by
   rw [Zy7 hL2]
   by_cases e:i + 1 < 2 ^ L
   ·rw [Nat.mod_eq_of_lt e,hz _ e]
   ·have e2:i + 1 = 2 ^ L:=by omega
    rw [e2,Nat.mod_self,hz 0 (Nat.two_pow_pos L),h1]
    rfl
  rw [hzn,hz i hi,hw 0 (by omega),hw 1 (by omega),hw 2 (by omega),hs 0 (by omega),hs 1 (by omega),hs 2 (by omega)]
  have e:=Z6e (L:=L) hu
  have o:∀ j,(W j).getD i 0 + be * sv7 j * rt L ^ i + ga = ovF L be ga W i j:=fun j=>by rw [ovF,Ztb]
  have u:∀ j,(W j).getD i 0 + (S j).getD i 0 * be + ga = unF be ga W S i j:=fun j=>by rw [unF,Z0w]
  rw [o,o,o,u,u,u,e]
 ·rw [Z20 hL2 hi (Nat.two_pow_pos L)]
  by_cases e:i = 0
  ·subst e
   rw [hz 0 (Nat.two_pow_pos L)]
   show _ * ((1:F) - 1) = 0
   rw [Zta,Zwe]
  ·rw [if_neg e]
   exact Zct _
end Go.Proofs.PL
namespace Go.Proofs.Tryz.PMT
open Go Go.Proofs.PM Go.Proofs.PL Go.Proofs.Tryz
set_option maxRecDepth 4000
theorem Zrw {p:Nat→Prop} [DecidablePred p] {x N:Nat} (hx:x < N) (hp:p x):∀ f d,d + f = N→∃ D,d ≤ D ∧ D ≤ N ∧ srch p x N d f = (x + D) % N ∧ p ((x + D) % N) ∧ ∀ e,d ≤ e→e < D→¬ p ((x + e) % N)
 | 0,d,h=>by
  have hm:(x + N) % N = x:=by rw [Nat.add_mod_right,Nat.mod_eq_of_lt hx]
  exact ⟨N,by omega,Nat.le_refl _,by rw [hm]; rfl,by rw [hm]; exact hp,fun e h1 h2=>by omega⟩
 | f + 1,d,h=>by
  by_cases hh:p ((x + d) % N)
  ·exact ⟨d,Nat.le_refl _,by omega,Zvh hh,hh,fun e h1 h2=>by omega⟩
  ·obtain ⟨D,h1,h2,h3,h4,h5⟩:=Zrw hx hp f (d + 1) (by omega)
   refine ⟨D,by omega,h2,by rw [Znf hh,h3],h4,fun e g1 g2=>?_⟩
   by_cases ed:e = d
   ·rw [ed]; exact hh
   ·exact h5 e (by omega) g2
theorem Zh9 {rows:List Rw} {l:List Int} {L x:Nat} (h:atV rows L x < 0):permF rows l L x = x:=if_pos h
theorem Zlv {rows:List Rw} {l:List Int} {L x:Nat} (hx:x < 3 * 2 ^ L) (h:¬ atV rows L x < 0):∃ D,1 ≤ D ∧ D ≤ 3 * 2 ^ L ∧ permF rows l L x = (x + D) % (3 * 2 ^ L) ∧ likeC rows l L x ((x + D) % (3 * 2 ^ L)) ∧ ∀ e,1 ≤ e→e < D→¬ likeC rows l L x ((x + e) % (3 * 2 ^ L)):=by
 have hs:=Zrw (p:=likeC rows l L x) hx ⟨by omega,rfl⟩ (3 * 2 ^ L - 1) 1 (by omega)
 rw [permF,if_neg h]
 exact hs
theorem Zui {a N:Nat} (h:a < 2 * N):a % N = if a < N then a else a - N:=by
 by_cases e:a < N
 ·rw [if_pos e,Nat.mod_eq_of_lt e]
 ·rw [if_neg e,Nat.mod_eq_sub_mod (by omega),Nat.mod_eq_of_lt (by omega)]
theorem Zvq {N x y D E:Nat} (hx:x < N) (hy:y < N) (hD1:1 ≤ D) (hE:E ≤ N) (hDE:D ≤ E) (h:(x + D) % N = (y + E) % N) (hne:x ≠ y):1 ≤ E - D ∧ (y + (E - D)) % N = x:=by
 rw [Zui (by omega),Zui (by omega)] at h
 rw [Zui (by omega)]
 split at h <;> split at h <;> split <;> omega
theorem Z2g {rows:List Rw} {l:List Int} {L:Nat}:InjB (permF rows l L) (3 * 2 ^ L) where
 lt:=fun x hx=>by
  by_cases h:atV rows L x < 0
  ·rw [Zh9 h]; exact hx
  ·obtain ⟨D,_,_,h3,_⟩:=Zlv (l:=l) hx h
   rw [h3]
   exact Nat.mod_lt _ (by omega)
 inj:=fun x y hx hy e=>by
  by_cases ax:atV rows L x < 0
  ·by_cases ay:atV rows L y < 0
   ·rw [Zh9 ax,Zh9 ay] at e; exact e
   ·obtain ⟨E,_,_,h3,h4,_⟩:=Zlv (l:=l) hy ay
    rw [Zh9 ax,h3] at e
    have:=h4.1
    rw [← e] at this
    omega
  ·by_cases ay:atV rows L y < 0
   ·obtain ⟨D,_,_,h3,h4,_⟩:=Zlv (l:=l) hx ax
    rw [Zh9 ay,h3] at e
    have:=h4.1
    rw [e] at this
    omega
   ·obtain ⟨D,d1,d2,d3,d4,d5⟩:=Zlv (l:=l) hx ax
    obtain ⟨E,e1,e2,e3,e4,e5⟩:=Zlv (l:=l) hy ay
    rw [d3,e3] at e
    have k1:=d4.2
    have k2:=e4.2
    rw [← e] at k2
    rw [k1] at k2
    apply Decidable.byContradiction
    intro hne
    by_cases hDE:D ≤ E
    ·obtain ⟨g1,g2⟩:=Zvq hx hy d1 e2 hDE e hne
     refine e5 (E - D) g1 (by omega) ?_
     rw [g2]
     exact ⟨by omega,k2⟩
    ·obtain ⟨g1,g2⟩:=Zvq hy hx e1 d2 (by omega) e.symm (Ne.symm hne)
     refine d5 (D - E) g1 (by omega) ?_
     rw [g2]
     exact ⟨by omega,k2.symm⟩
theorem Z2h {g:Nat} {s:CS} (h:CInv g s) (hg:g ≤ 12) {l:List Int} (hl:ClsI s.bs s.vals.length l) {L x:Nat} (hx:x < 3 * 2 ^ L):celV (s.bp ++ s.br) s.vals L (permF (s.bp ++ s.br) l L x) = celV (s.bp ++ s.br) s.vals L x:=by
 by_cases ax:atV (s.bp ++ s.br) L x < 0
 ·rw [Zh9 ax]
 ·obtain ⟨D,_,_,h3,h4,_⟩:=Zlv (l:=l) hx ax
  rw [h3]
  have hr:=(cg_of h hg).rin
  have r1:=Zou (L:=L) (x:=x) hr
  have r2:=Zou (L:=L) (x:=(x + D) % (3 * 2 ^ L)) hr
  obtain ⟨k1,k2⟩:=h4
  generalize (x + D) % (3 * 2 ^ L) = y at *
  simp only [celV]
  generalize atV (s.bp ++ s.br) L x = u at *
  generalize atV (s.bp ++ s.br) L y = v at *
  obtain ⟨u,rfl⟩:∃ n:Nat,u = (n:Int):=⟨u.toNat,by omega⟩
  obtain ⟨v,rfl⟩:∃ n:Nat,v = (n:Int):=⟨v.toNat,by omega⟩
  rw [Zjf,Zjf]
  rw [Int.toNat_natCast,Int.toNat_natCast] at k2
  have hf:∀ p,p ∈ s.bs→(fun i=>s.vals.getD i 0) p.1.toNat = (fun i=>s.vals.getD i 0) p.2.toNat:=fun p hp=>by
   obtain ⟨b1,b2,b3⟩:=h.bsf p hp
   rw [va,va,if_neg (by omega),if_neg (by omega)] at b3
   exact b3
  have e1:=hl.snd (fun i=>s.vals.getD i 0) hf u (by have:=r1.2 (by omega); omega)
  have e2:=hl.snd (fun i=>s.vals.getD i 0) hf v (by have:=r2.2 (by omega); omega)
  rw [← e1,← e2,k2]
theorem Zld {α:Type} {f:Nat→α} {n i:Nat} {d:α} (h:i < n):((List.range n).map f).getD i d = f i:=by
 rw [List.getD_eq_getElem?_getD,List.getElem?_eq_getElem (by rw [List.length_map,List.length_range]; exact h),List.getElem_map,List.getElem_range]
 rfl
theorem Zl8 {rows:List Rw} {vals:List F} {L j m i:Nat} (h:i < m):(celL rows vals L j m).getD i 0 = celV rows vals L (j * 2 ^ L + i):=Zld h
theorem nm_get {rows:List Rw} {l:List Int} {L j m i:Nat} (h:i < m):(nmL rows l L j m).getD i 0 = nmV L (permF rows l L (j * 2 ^ L + i)):=Zld h
theorem nm_len {rows:List Rw} {l:List Int} {L j m:Nat}:(nmL rows l L j m).length = m:=by simp only [nmL,List.length_map,List.length_range]
theorem nmV_at {L i j:Nat} (hi:i < 2 ^ L):nmV L (j * 2 ^ L + i) = sv7 j * rt L ^ i:=by
 have hp:=Nat.two_pow_pos L
 rw [nmV,Z4b,Nat.mul_comm j,Nat.mul_add_div hp,Nat.div_eq_of_lt hi,Nat.add_zero,Nat.mul_add_mod,Nat.mod_eq_of_lt hi]
theorem ov_at {rows:List Rw} {vals:List F} {L:Nat} {be ga:F} {i j:Nat} (hi:i < 2 ^ L):ovF L be ga (fun j=>celL rows vals L j (2 ^ L)) i j = celV rows vals L (j * 2 ^ L + i) + be * nmV L (j * 2 ^ L + i) + ga:=by
 rw [ovF,Zl8 hi,nmV_at hi]
theorem jn_lt {n i j:Nat} (hi:i < n) (hj:j < 3):j * n + i < 3 * n:=by
 have:(j + 1) * n ≤ 3 * n:=Nat.mul_le_mul_right n hj
 rw [Nat.succ_mul] at this
 omega
theorem un_at {g:Nat} {s:CS} (h:CInv g s) (hg:g ≤ 12) {l:List Int} (hl:ClsI s.bs s.vals.length l) {L:Nat} {be ga:F} {i j:Nat} (hi:i < 2 ^ L) (hj:j < 3) :
  unF be ga (fun j=>celL (s.bp ++ s.br) s.vals L j (2 ^ L)) (fun j=>nmL (s.bp ++ s.br) l L j (2 ^ L)) i j = celV (s.bp ++ s.br) s.vals L (permF (s.bp ++ s.br) l L (j * 2 ^ L + i)) + be * nmV L (permF (s.bp ++ s.br) l L (j * 2 ^ L + i)) + ga:=by
 rw [unF,Zl8 hi,nm_get hi,Z2h h hg hl (jn_lt hi hj)]
theorem Z79 {g:Nat} {s:CS} (h:CInv g s) (hg:g ≤ 12) {l:List Int} (hl:ClsI s.bs s.vals.length l) {L:Nat} {be ga:F}
  (hu:∀ i j,i < 2 ^ L→j < 3→unF be ga (fun j=>celL (s.bp ++ s.br) s.vals L j (2 ^ L)) (fun j=>nmL (s.bp ++ s.br) l L j (2 ^ L)) i j ≠ 0) :
  rzS L be ga (fun j=>celL (s.bp ++ s.br) s.vals L j (2 ^ L)) (fun j=>nmL (s.bp ++ s.br) l L j (2 ^ L)) (2 ^ L) = 1 :=
 rz_one (fun x=>celV (s.bp ++ s.br) s.vals L x + be * nmV L x + ga) (permF (s.bp ++ s.br) l L) Z2g (fun _ _ hi _=>ov_at hi) (fun _ _ hi hj=>un_at h hg hl hi hj) hu
theorem Zte {q t:Nat→F}:∀ n,(∀ i,i < n→q i = 0)→dotS q t n = 0
 | 0,_=>rfl
 | n + 1,h=>by
  show dotS q t n + q n * t n = 0
  rw [Zte n fun i hi=>h i (by omega),h n (by omega),Zct]
  exact Zcf 0
theorem Z0j {q:Nat→F} {a b c x:F} (h:∀ i,i < 8→q i = 0):gval q a b c x = 0:=Zte 8 h
theorem Zy2 {vals:List F}:∀ {l:List Rw},SatR vals l→∀ k,k < l.length→∀ x,(k + 1 < l.length→x = va vals (l.getD (k + 1) default).a)→rval vals (l.getD k default) x = 0
 | _,.nil,k,hk,_,_=>by simp at hk
 | _,.one (l:=l) (r:=r) h h1,k,hk,x,hx=>by
  simp only [List.length_append,List.length_cons,List.length_nil] at hk hx
  by_cases e:k < l.length
  ·rw [Zcp e]
   refine Zy2 h k e x fun h2=>?_
   rw [hx (by omega),Zcp h2]
  ·obtain rfl:k = l.length:=by omega
   rw [List.getD_eq_getElem?_getD,List.getElem?_append_right (Nat.le_refl _),Nat.sub_self]
   exact h1 x
 | _,.two (l:=l) (r:=r) (r':=r') h hq h1,k,hk,x,hx=>by
  simp only [List.length_append,List.length_cons,List.length_nil] at hk hx
  by_cases e:k < l.length
  ·rw [Zcp e]
   refine Zy2 h k e x fun h2=>?_
   rw [hx (by omega),Zcp h2]
  ·by_cases e1:k = l.length
   ·subst e1
    have hx1:=hx (by omega)
    rw [List.getD_eq_getElem?_getD,List.getElem?_append_right (by omega),show l.length + 1 - l.length = 1 by omega] at hx1
    rw [List.getD_eq_getElem?_getD,List.getElem?_append_right (Nat.le_refl _),Nat.sub_self,hx1]
    exact h1
   ·obtain rfl:k = l.length + 1:=by omega
    rw [List.getD_eq_getElem?_getD,List.getElem?_append_right (by omega),show l.length + 1 - l.length = 1 by omega]
    show gval (fun i=>r'.q.getD i 0) _ _ _ _ = 0
    rw [hq]
    exact Z0j (fun i _=>by rcases (by omega:i = 0 ∨ i = 1 ∨ i = 2 ∨ i = 3 ∨ i = 4 ∨ i = 5 ∨ i = 6 ∨ i = 7 ∨ 8 ≤ i) with rfl | rfl | rfl | rfl | rfl | rfl | rfl | rfl | h <;> first | rfl | exact Zbv h)
theorem Z8p {rows:List Rw} {s n t i:Nat} (h:i < n):(colT rows s n t).getD i 0 = if i < t then (rows.getD i default).q.getD s 0 else 0:=Zld h
theorem pb_get {pubs:List F} {n t i:Nat} (h:i < n):(pbL pubs n t).getD i 0 = if i < t then 0 - pubs.getD i 0 else 0:=Zld h
theorem Zoi {α:Type} {l m:List α} {i:Nat} {d:α} (h:l.length ≤ i):(l ++ m).getD i d = m.getD (i - l.length) d:=by
 rw [List.getD_eq_getElem?_getD,List.getD_eq_getElem?_getD,List.getElem?_append_right h]
theorem gv_pub {a b c x v:F} (h:a = v):0 - v + gval (fun i=>[(0:F),1,0,0,0,0,0,0].getD i 0) a b c x = 0:=by
 rw [gv_un,h]
 grind
theorem Zwr {rows:List Rw} {vals:List F} {L i j:Nat} (hi:i < 2 ^ L) (hr:i < rows.length):celV rows vals L (j * 2 ^ L + i) = va vals (rwC (rows.getD i default) j):=by
 have hp:=Nat.two_pow_pos L
 rw [celV,atV,Nat.mul_comm j,Nat.mul_add_mod,Nat.mul_add_div hp,Nat.mod_eq_of_lt hi,Nat.div_eq_of_lt hi,Nat.add_zero,if_pos hr]
theorem Z0q {g:Nat} {s:CS} (h:CInv g s) {L:Nat} (hL:L ≤ 9) (hrl:(s.bp ++ s.br).length ≤ 2 ^ L) {a b c p:List F} {i:Nat} (hi:i < 2 ^ L)
  (ha:∀ i,i < 2 ^ L→hor (rt L ^ i) a = celV (s.bp ++ s.br) s.vals L (0 * 2 ^ L + i)) (hb:hor (rt L ^ i) b = celV (s.bp ++ s.br) s.vals L (1 * 2 ^ L + i)) (hc:hor (rt L ^ i) c = celV (s.bp ++ s.br) s.vals L (2 * 2 ^ L + i))
  (hp:hor (rt L ^ i) p = if i < s.pubs.length then 0 - s.pubs.getD i 0 else 0):hor (rt L ^ i) (gtS (rt L) (qpL (s.bp ++ s.br) (2 ^ L)) a b c p 8) = 0:=by
 have hq:∀ k,hor (rt L ^ i) (qpL (s.bp ++ s.br) (2 ^ L) k) = if i < (s.bp ++ s.br).length then ((s.bp ++ s.br).getD i default).q.getD k 0 else 0:=fun k=>by
  rw [qpL,Zro hL Zf5 hi,Z8p hi]
 rw [Z0k,Zy7 (Nat.le_trans hL (by decide)),ha i hi,hb,hc,hp,ha _ (Nat.mod_lt _ (Nat.two_pow_pos L))]
 by_cases hr:i < (s.bp ++ s.br).length
 ·rw [Zwr hi hr,Zwr hi hr,Zwr hi hr]
  have hg:∀ x:F,gval (fun k=>hor (rt L ^ i) (qpL (s.bp ++ s.br) (2 ^ L) k)) (va s.vals (rwC ((s.bp ++ s.br).getD i default) 0)) (va s.vals (rwC ((s.bp ++ s.br).getD i default) 1)) (va s.vals (rwC ((s.bp ++ s.br).getD i default) 2)) x = rval s.vals ((s.bp ++ s.br).getD i default) x:=fun x=>by
   rw [rval]
   exact Zil 8 (fun k _=>by rw [hq k,if_pos hr]) (fun _ _=>rfl)
  rw [hg]
  by_cases hpb:i < s.bp.length
  ·obtain ⟨w,hw,h1,h2⟩:=h.bpf i hpb
   rw [if_pos (by rw [h.pl]; exact hpb),h2,Zcp hpb,h1]
   exact gv_pub Zjf
  ·rw [if_neg (by rw [h.pl]; exact hpb),Zcf,Zoi (by omega)]
   have hr2:=hr
   rw [List.length_append] at hr2
   refine Zy2 h.sat _ (by omega) _ fun hk=>?_
   have hm:(i + 1) % 2 ^ L = i + 1:=Nat.mod_eq_of_lt (by rw [List.length_append] at hrl; omega)
   have hi1:i + 1 < 2 ^ L:=by rw [List.length_append] at hrl; omega
   rw [hm,Zwr hi1 (by rw [List.length_append]; omega),Zoi (by omega),show i + 1 - s.bp.length = i - s.bp.length + 1 by omega]
   rfl
 ·have hpl:¬ i < s.pubs.length:=by rw [h.pl]; rw [List.length_append] at hr; omega
  rw [if_neg hpl,Zcf]
  exact Z0j fun k _=>by rw [hq k,if_neg hr]
theorem Z5s {x:F} {a b c:List F} {V:Nat→F} (ha:hor x a = V 0) (hb:hor x b = V 1) (hc:hor x c = V 2):∀ j,j < 3→hor x (w3 a b c j) = V j
 | 0,_=>ha
 | 1,_=>hb
 | 2,_=>hc
 | j + 3,h=>by omega
theorem Z8a {g:Nat} {s:CS} (h:CInv g s) (hg:g ≤ 12) {l:List Int} (hl:ClsI s.bs s.vals.length l) {L:Nat} (hL:L ≤ 9) (hrl:(s.bp ++ s.br).length ≤ 2 ^ L) {be ga al:F} {B:List F}
  (hu:∀ i j,i < 2 ^ L→j < 3→unF be ga (fun j=>celL (s.bp ++ s.br) s.vals L j (2 ^ L)) (fun j=>nmL (s.bp ++ s.br) l L j (2 ^ L)) i j ≠ 0) :
  hol (2 ^ L) (nuL L be ga al (qpL (s.bp ++ s.br) (2 ^ L)) (spL (s.bp ++ s.br) l L) (wiP (s.bp ++ s.br) s.vals B L 0) (wiP (s.bp ++ s.br) s.vals B L 1) (wiP (s.bp ++ s.br) s.vals B L 2) (zeP (rzL L be ga (fun j=>celL (s.bp ++ s.br) s.vals L j (2 ^ L)) (fun j=>nmL (s.bp ++ s.br) l L j (2 ^ L)) (2 ^ L)) B L) (puP s.pubs L)) = true:=by
 have hw:∀ j i,i < 2 ^ L→hor (rt L ^ i) (wiP (s.bp ++ s.br) s.vals B L j) = celV (s.bp ++ s.br) s.vals L (j * 2 ^ L + i):=fun j i hi=>by
  rw [wiP,Z1a hL cel_len hi,Zl8 hi]
 refine Z0h (Nat.le_trans hL (by decide)) fun i hi=>?_
 refine Z7h hL (W:=fun j=>celL (s.bp ++ s.br) s.vals L j (2 ^ L)) (S:=fun j=>nmL (s.bp ++ s.br) l L j (2 ^ L)) hi ?_ ?_ ?_ (Z79 h hg hl hu) (fun j hj=>hu i j hi hj) ?_
 ·exact Z5s (V:=fun j=>(celL (s.bp ++ s.br) s.vals L j (2 ^ L)).getD i 0) ((hw 0 i hi).trans (Zl8 hi).symm) ((hw 1 i hi).trans (Zl8 hi).symm) ((hw 2 i hi).trans (Zl8 hi).symm)
 ·intro j _
  rw [spL,Zro hL nm_len hi]
 ·intro i hi
  rw [zeP,Z1a hL Zhv hi]
  exact Zld hi
 ·refine Z0q h hL hrl hi (hw 0) (hw 1 i hi) (hw 2 i hi) ?_
  rw [puP,Zro hL Zf8 hi,pb_get hi]
end Go.Proofs.Tryz.PMT
namespace Go.Proofs.PL
theorem pm_lq {a b:List F} {n m:Nat} (ha:a.length ≤ n) (hb:b.length ≤ m):(pm a b).length ≤ n + m - 1:=by
 have h1:=Zbm a
 have h2:=Zbm b
 rw [Zr8]
 split <;> omega
theorem gtL_lq {z:F} {a b c:List F} {m:Nat} (hm:1 ≤ m) (ha:a.length ≤ m) (hb:b.length ≤ m) (hc:c.length ≤ m) (i:Nat):(gtL z a b c i).length ≤ 5 * m - 4:=by
 have h2:=pm_lq ha ha
 have h4:=pm_lq h2 h2
 have h5:=pm_lq h4 ha
 match i with
 | 0=>exact Nat.le_trans (pm_lq ha hb) (by omega)
 | 1=>show a.length ≤ _; omega
 | 2=>show b.length ≤ _; omega
 | 3=>show c.length ≤ _; omega
 | 4=>show 1 ≤ _; omega
 | 5=>exact Nat.le_trans (Zha ..) (by omega)
 | 6=>exact Nat.le_trans (Zha ..) (by omega)
 | 7 =>
  have h1:=Zjr a b
  have h3:=Zpb z a
  exact Nat.le_trans (Zha ..) (by omega)
 | i + 8=>exact Nat.zero_le _
theorem Z45 {z:F} {q:Nat→List F} {a b c p:List F} {m k:Nat} (hm:1 ≤ m) (ha:a.length ≤ m) (hb:b.length ≤ m) (hc:c.length ≤ m) (hp:p.length ≤ k) (hq:∀ i,(q i).length ≤ k):∀ i,(gtS z q a b c p i).length ≤ k + (5 * m - 4) - 1
 | 0=>Nat.le_trans (Zbm _) (by omega)
 | i + 1=>by
  have h1:=Z45 (z:=z) hm ha hb hc hp hq i
  have h2:=pm_lq (hq i) (gtL_lq (z:=z) hm ha hb hc i)
  exact Nat.le_trans (Zjr ..) (by omega)
theorem Z4t {be ga:F} {z:List F} {w:Nat→List F} {m k:Nat} (hm:2 ≤ m) (hz:z.length ≤ k) (hw:∀ j,(w j).length ≤ m):∀ j,(ovS be ga z w j).length ≤ k + j * (m - 1)
 | 0=>by simpa [ovS] using hz
 | j + 1=>by
  have h1:=Z4t (be:=be) (ga:=ga) hm hz hw j
  have h2:=Zg9 (w j) [0,be * sv7 j] [ga]
  have h3:=hw j
  simp only [List.length_cons,List.length_nil] at h2
  have h4:=pm_lq h1 (show (sm3 (w j) [0,be * sv7 j] [ga]).length ≤ m by omega)
  rw [Nat.succ_mul]
  show (pm _ _).length ≤ _
  omega
theorem Z38 {r be ga:F} {z:List F} {w s:Nat→List F} {m k:Nat} (hm:2 ≤ m) (hz:z.length ≤ k) (hw:∀ j,(w j).length ≤ m) (hs:∀ j,(s j).length ≤ m):∀ j,(unS r be ga z w s j).length ≤ k + j * (m - 1)
 | 0=>by
  have:=Zpb r z
  show (shf r z).length ≤ _
  omega
 | j + 1=>by
  have h1:=Z38 (r:=r) (be:=be) (ga:=ga) hm hz hw hs j
  have h2:=Zg9 (w j) (scc (s j) be) [ga]
  have h3:=hw j
  have h5:=hs j
  have h6:=Zhu (s j) be
  simp only [List.length_cons,List.length_nil] at h2
  have h4:=pm_lq h1 (show (sm3 (w j) (scc (s j) be) [ga]).length ≤ m by omega)
  rw [Nat.succ_mul]
  show (pm _ _).length ≤ _
  omega
theorem w3_le {a b c:List F} {m:Nat} (ha:a.length ≤ m) (hb:b.length ≤ m) (hc:c.length ≤ m):∀ j,(w3 a b c j).length ≤ m
 | 0=>ha
 | 1=>hb
 | j + 2=>hc
theorem nuL_lq {L n:Nat} (hn:2 ^ L = n) {be ga al:F} {q s:Nat→List F} {a b c z p:List F} (hq:∀ i,(q i).length ≤ n) (hs:∀ i,(s i).length ≤ n) (ha:a.length ≤ n + 2) (hb:b.length ≤ n + 2) (hc:c.length ≤ n + 2) (hz:z.length ≤ n + 3) (hp:p.length ≤ n):(nuL L be ga al q s a b c z p).length ≤ 6 * n + 5:=by
 have hn0:0 < n:=hn ▸ Nat.two_pow_pos L
 have h1:=Z45 (z:=rt L) (m:=n + 2) (by omega) ha hb hc hp hq 8
 have hw:=w3_le ha hb hc
 have h2:=Z4t (be:=be) (ga:=ga) (m:=n + 2) (by omega) hz hw 3
 have h3:=Z38 (r:=rt L) (be:=be) (ga:=ga) (m:=n + 2) (by omega) hz hw (fun j=>Nat.le_trans (hs j) (by omega)) 3
 have h4:=Zha z [1]
 simp only [List.length_cons,List.length_nil] at h4
 have h5:=pm_lq (Zz2 n) (show (sbc z [1]).length ≤ n + 3 by omega)
 have h6:=Zha (ovS be ga z (w3 a b c) 3) (unS (rt L) be ga z (w3 a b c) s 3)
 have h7:=Zhu (sbc (ovS be ga z (w3 a b c) 3) (unS (rt L) be ga z (w3 a b c) s 3)) al
 have h8:=Zhu (bgL (2 ^ L) z) (al * al)
 have h9:(bgL (2 ^ L) z).length ≤ n + (n + 3) - 1:=by rw [hn]; exact h5
 rw [nuL,nuG]
 refine Nat.le_trans (Zg9 _ _ _) ?_
 omega
theorem qtV_lq {n:Nat} (hn:0 < n) (f:List F):(qtV n f).length ≤ f.length - n:=by
 rw [qtV,Zwh hn]
 refine Nat.le_trans (Zbm _) ?_
 rw [(Zfz n _ (cut f) _).1]
 have:=Zbm f
 omega
theorem bl_lq {v c:List F} {n k:Nat} (hv:v.length ≤ n) (hc:c.length ≤ k):(adc (cut (bkR v).1) (pm c (vnl n))).length ≤ n + k:=by
 have h1:=pm_lq hc (Nat.le_of_eq (Zjv n))
 have h2:=Nat.le_trans (Zbm _) (Nat.le_trans (Zp2 v) hv)
 exact Nat.le_trans (Zjr ..) (by omega)
theorem Zs5 (x:F):∀ (k:Nat) (l:List F),hor x l = hor x (l.take k) + x ^ k * hor x (l.drop k)
 | 0,l=>by
  show hor x l = 0 + x ^ 0 * hor x l
  rw [Zbk,Zwf,Zcf]
 | k + 1,[]=>by
  show (0:F) = 0 + x ^ (k + 1) * 0
  rw [Zwe,Zcf]
 | k + 1,a :: l=>by
  rw [List.take_succ_cons,List.drop_succ_cons,Zcb,Zcb,Zs5 x k l,Zbb]
  generalize hor x (l.take k) = u
  generalize hor x (l.drop k) = v
  generalize x ^ k = w
  grind
end Go.Proofs.PL
namespace Go.Proofs.Tryz.PMT
open Go Go.Proofs.PM Go.Proofs.PL Go.Proofs.Tryz
variable {K:PV→List Ob→Prop}
set_option maxRecDepth 4000
set_option maxHeartbeats 16000000 in
theorem Z25 {L:Nat} {q s v t:Nat→List F} {a b c z:List F} {x:F} (hL:L ≤ 6) (hq:∀ i,(q i).length ≤ 1000) (hs:∀ i,(s i).length ≤ 1000) (ht:∀ i,(t i).length ≤ 1000) (ha:a.length ≤ 1000) (hb:b.length ≤ 1000) (hc:c.length ≤ 1000) (hz:z.length ≤ 1000)
  (hK:K (.tup [.agg (ffs (valL L q s t a b c z x)),.agg (ffs (onV L a z x))]) []) :
  PSpec prog 14 [pA L q s v,.agg [vF false a,vF false b,vF false c],vF false z,.agg [vF false (t 0),vF false (t 1),vF false (t 2),vF false (t 3),vF false (t 4)],ff x] [] K:=by
 refine Zgv ?_
 simp only [yS,yN,yG,yT,yI,yF,yZ,yM,yU,yL,yB,yR,Zda,pA,vF]
 simp -implicitDefEqProofs only [go_sem,Nat.reduceAdd,Nat.reduceSub,Nat.reduceEqDiff,Zo]
 refine Zn 4 ?_
 simp -implicitDefEqProofs only [go_sem,Nat.reduceAdd,Nat.reduceMul,Nat.reduceEqDiff,Nat.reduceLT,Int.reduceLT,Int.reduceLE,Int.reduceAdd,Int.reduceNeg]
 refine Zbe (l:=a) (by omega) ?_
 simp -implicitDefEqProofs only [go_sem,Nat.reduceAdd,Nat.reduceMul,Nat.reduceEqDiff,Nat.reduceLT,Int.reduceLT,Int.reduceLE]
 refine Zbe (l:=s 0) (by have:=hs 0; omega) ?_
 simp -implicitDefEqProofs only [go_sem,Nat.reduceAdd,Nat.reduceMul,Nat.reduceEqDiff,Nat.reduceLT,Int.reduceToNat,Int.reduceLT,Int.reduceLE,Int.reduceAdd,Int.reduceNeg]
 refine Zbe (l:=b) (by omega) ?_
 simp -implicitDefEqProofs only [go_sem,Nat.reduceAdd,Nat.reduceMul,Nat.reduceEqDiff,Nat.reduceLT,Int.reduceToNat,Int.reduceLT,Int.reduceLE]
 refine Zbe (l:=s 1) (by have:=hs 1; omega) ?_
 simp -implicitDefEqProofs only [go_sem,Nat.reduceAdd,Nat.reduceMul,Nat.reduceEqDiff,Nat.reduceLT,Int.reduceToNat,Int.reduceLT,Int.reduceLE,Int.reduceAdd,Int.reduceNeg]
 refine Zbe (l:=c) (by omega) ?_
 simp -implicitDefEqProofs only [go_sem,Nat.reduceAdd,Nat.reduceMul,Nat.reduceEqDiff,Nat.reduceLT,Int.reduceToNat,Int.reduceLT,Int.reduceLE]
 refine Zbe (l:=s 2) (by have:=hs 2; omega) ?_
 simp -implicitDefEqProofs only [go_sem,Nat.reduceAdd,Nat.reduceMul,Nat.reduceEqDiff,Nat.reduceLT,Int.reduceToNat,Int.reduceLT,Int.reduceLE,Int.reduceAdd,Int.reduceNeg]
 refine Zbe (l:=z) (by omega) ?_
 simp -implicitDefEqProofs only [go_sem,Nat.reduceEqDiff,Int.reduceToNat,Int.reduceLT,Int.reduceLE]
 refine Zn 6 ?_
 simp -implicitDefEqProofs only [go_sem,Nat.reduceAdd,Nat.reduceMul,Nat.reduceEqDiff,Nat.reduceLT,Int.reduceLT,Int.reduceLE,Int.reduceAdd,Int.reduceNeg]
 refine Zbe (l:=t 0) (by have:=ht 0; omega) ?_
 simp -implicitDefEqProofs only [go_sem,Nat.reduceAdd,Nat.reduceMul,Nat.reduceEqDiff,Nat.reduceLT,Int.reduceToNat,Int.reduceLT,Int.reduceLE,Int.reduceAdd,Int.reduceNeg]
 refine Zbe (l:=t 1) (by have:=ht 1; omega) ?_
 simp -implicitDefEqProofs only [go_sem,Nat.reduceAdd,Nat.reduceMul,Nat.reduceEqDiff,Nat.reduceLT,Int.reduceToNat,Int.reduceLT,Int.reduceLE,Int.reduceAdd,Int.reduceNeg]
 refine Zbe (l:=t 2) (by have:=ht 2; omega) ?_
 simp -implicitDefEqProofs only [go_sem,Nat.reduceAdd,Nat.reduceMul,Nat.reduceEqDiff,Nat.reduceLT,Int.reduceToNat,Int.reduceLT,Int.reduceLE,Int.reduceAdd,Int.reduceNeg]
 refine Zbe (l:=t 3) (by have:=ht 3; omega) ?_
 simp -implicitDefEqProofs only [go_sem,Nat.reduceAdd,Nat.reduceMul,Nat.reduceEqDiff,Nat.reduceLT,Int.reduceToNat,Int.reduceLT,Int.reduceLE,Int.reduceAdd,Int.reduceNeg]
 refine Zbe (l:=t 4) (by have:=ht 4; omega) ?_
 simp -implicitDefEqProofs only [go_sem,Nat.reduceAdd,Nat.reduceMul,Nat.reduceEqDiff,Int.reduceToNat,Int.reduceLT,Int.reduceLE,Int.reduceAdd,Int.reduceNeg]
 refine Zn 9 ?_
 simp -implicitDefEqProofs only [go_sem,Nat.reduceAdd,Nat.reduceMul,Nat.reduceEqDiff,Nat.reduceLT,Int.reduceLT,Int.reduceLE,Int.reduceAdd,Int.reduceNeg]
 refine Zbe (l:=q 0) (by have:=hq 0; omega) ?_
 simp -implicitDefEqProofs only [go_sem,Nat.reduceAdd,Nat.reduceMul,Nat.reduceEqDiff,Nat.reduceLT,Int.reduceToNat,Int.reduceLT,Int.reduceLE,Int.reduceAdd,Int.reduceNeg]
 refine Zbe (l:=q 1) (by have:=hq 1; omega) ?_
 simp -implicitDefEqProofs only [go_sem,Nat.reduceAdd,Nat.reduceMul,Nat.reduceEqDiff,Nat.reduceLT,Int.reduceToNat,Int.reduceLT,Int.reduceLE,Int.reduceAdd,Int.reduceNeg]
 refine Zbe (l:=q 2) (by have:=hq 2; omega) ?_
 simp -implicitDefEqProofs only [go_sem,Nat.reduceAdd,Nat.reduceMul,Nat.reduceEqDiff,Nat.reduceLT,Int.reduceToNat,Int.reduceLT,Int.reduceLE,Int.reduceAdd,Int.reduceNeg]
 refine Zbe (l:=q 3) (by have:=hq 3; omega) ?_
 simp -implicitDefEqProofs only [go_sem,Nat.reduceAdd,Nat.reduceMul,Nat.reduceEqDiff,Nat.reduceLT,Int.reduceToNat,Int.reduceLT,Int.reduceLE,Int.reduceAdd,Int.reduceNeg]
 refine Zbe (l:=q 4) (by have:=hq 4; omega) ?_
 simp -implicitDefEqProofs only [go_sem,Nat.reduceAdd,Nat.reduceMul,Nat.reduceEqDiff,Nat.reduceLT,Int.reduceToNat,Int.reduceLT,Int.reduceLE,Int.reduceAdd,Int.reduceNeg]
 refine Zbe (l:=q 5) (by have:=hq 5; omega) ?_
 simp -implicitDefEqProofs only [go_sem,Nat.reduceAdd,Nat.reduceMul,Nat.reduceEqDiff,Nat.reduceLT,Int.reduceToNat,Int.reduceLT,Int.reduceLE,Int.reduceAdd,Int.reduceNeg]
 refine Zbe (l:=q 6) (by have:=hq 6; omega) ?_
 simp -implicitDefEqProofs only [go_sem,Nat.reduceAdd,Nat.reduceMul,Nat.reduceEqDiff,Nat.reduceLT,Int.reduceToNat,Int.reduceLT,Int.reduceLE,Int.reduceAdd,Int.reduceNeg]
 refine Zbe (l:=q 7) (by have:=hq 7; omega) ?_
 simp -implicitDefEqProofs only [go_sem,Nat.reduceAdd,Nat.reduceMul,Nat.reduceEqDiff,Nat.reduceLT,Int.reduceToNat,Int.reduceLT,Int.reduceLE,Int.reduceAdd,Int.reduceNeg]
 refine Zg2 (by omega) ?_
 simp -implicitDefEqProofs only [go_sem,Nat.reduceAdd,Nat.reduceEqDiff,Nat.reduceLT]
 refine Zbp ?_
 simp -implicitDefEqProofs only [go_sem,Nat.reduceAdd,Nat.reduceMul,Nat.reduceEqDiff,Nat.reduceLT,Int.reduceLT,Int.reduceLE]
 refine Zbe (l:=a) (by omega) ?_
 simp -implicitDefEqProofs only [go_sem,Nat.reduceAdd,Nat.reduceMul,Nat.reduceLT]
 refine Zbe (l:=z) (by omega) ?_
 simp -implicitDefEqProofs only [go_sem,Nat.reduceAdd,Nat.reduceMul,Nat.reduceEqDiff,Nat.reduceLT]
 exact Zb rfl hK
end Go.Proofs.Tryz.PMT
namespace Go.Proofs.Tryz.PMT
open Go Go.Proofs.PM Go.Proofs.PL Go.Proofs.Tryz
set_option maxRecDepth 4000
theorem Z63 (n:Nat) (T:List F) (i:Nat) (x:F):hor x (prt n T i) = hor x ((T.drop (i * n)).take n):=by
 rw [prt,Zii]
 by_cases h:i * n ≤ T.length
 ·rw [Nat.min_eq_left h,Nat.succ_mul]
  by_cases h2:i * n + n ≤ T.length
  ·rw [Nat.min_eq_left h2,Nat.add_sub_cancel_left]
  ·rw [Nat.min_eq_right (by omega),List.take_of_length_le (by rw [List.length_drop]; omega),List.take_of_length_le (by rw [List.length_drop]; omega)]
 ·rw [List.drop_eq_nil_of_le (by omega),List.drop_eq_nil_of_le (by omega),List.take_nil,List.take_nil]
theorem Zkm (n:Nat) (T:List F) (i:Nat) (x:F):hor x (T.drop (i * n)) = hor x (prt n T i) + x ^ n * hor x (T.drop ((i + 1) * n)):=by
 rw [Z63,Zs5 x n (T.drop (i * n)),List.drop_drop,Nat.succ_mul]
theorem Z62 {n:Nat} {T:List F} (h:T.length ≤ 5 * n) (x:F):hor x (smS n (prt n T) 5) = hor x T:=by
 have h0:=Zkm n T 0 x
 have h1:=Zkm n T 1 x
 have h2:=Zkm n T 2 x
 have h3:=Zkm n T 3 x
 have h4:=Zkm n T 4 x
 have h5:T.drop ((4 + 1) * n) = []:=List.drop_eq_nil_of_le (by omega)
 rw [Nat.zero_mul,List.drop_zero] at h0
 rw [h5] at h4
 rw [Zyv,h0,h1,h2,h3,h4]
 simp only [Zcb]
 have hn:∀ y:F,hor y ([]:List F) = 0:=fun _=>rfl
 rw [hn,hn]
 generalize x ^ n = y
 generalize hor x (prt n T 0) = a
 generalize hor x (prt n T 1) = b
 generalize hor x (prt n T 2) = c
 generalize hor x (prt n T 3) = d
 generalize hor x (prt n T 4) = e
 grind
theorem Zz1 {n:Nat} (hn:0 < n) {f:List F} (h:hol n f = true) (hq:(qtV n f).length ≤ 5 * (n + 1)) (x:F):hor x (sbc f (pm (smS (n + 1) (prt (n + 1) (qtV n f)) 5) (vnl n))) = 0:=by
 rw [Zls,Zji,Zp5 hn,Z62 hq,Z8b hn h x,Zta]
theorem Zx7 {rows:List Rw} {vals B:List F} {L j:Nat}:(wiP rows vals B L j).length ≤ 2 ^ L + 2:=bl_lq (Nat.le_of_eq cel_len) (by rw [List.length_take]; omega)
theorem zeP_le {v B:List F} {L:Nat} (hv:v.length ≤ 2 ^ L):(zeP v B L).length ≤ 2 ^ L + 3:=bl_lq hv (by rw [List.length_take]; omega)
theorem puP_le {pubs:List F} {L:Nat}:(puP pubs L).length ≤ 2 ^ L:=Nat.le_trans (Zbm _) (Nat.le_trans (Zp2 _) (Nat.le_of_eq Zf8))
end Go.Proofs.Tryz.PMT
