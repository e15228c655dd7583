/- Contracts of poly.at, both, Add, Sub, Scale, Shift. No conditions beyond what each names. -/
import Derived.Test.YtjibihaamkplbaaGreatDoorN0
import Derived.Test.YtjibihaamkplbaaGreatDoorN16
import Derived.Test.YtjibihaamkplbaaGreatDoorN13
import Derived.Test.YtjibihaamkplbaaGreatDoorN11
set_option linter.all false
namespace Go.Proofs.Tryz.PMT
open Go Go.Proofs.PM Go.Proofs.PL Go.Proofs.Tryz
variable {K:PV→List Ob→Prop}
set_option maxRecDepth 4000

theorem Znc {l:List F} {i:Nat} (hl:l.length ≤ 4398046511104) (hK:K (ff (l.getD i 0)) []):PSpec prog 118 [.vsl false (.arr 4 .one) (ffs l),i64 i] [] K:=by
 refine Zzg ?_
 simp only [qzS,qzN,qzG,qzT,qzI,qzF,qzZ,Znu]
 simp -implicitDefEqProofs only [go_sem,Nat.reduceAdd,Nat.reduceSub]
 refine Zi (fun h=>?_) (fun h=>?_)
 ·simp only [decide_eq_true_eq] at h
  have hi:i < l.length:=by omega
  simp -implicitDefEqProofs only [go_sem,h,Zy hi]
  exact Zb rfl hK
 ·simp only [decide_eq_false_iff_not] at h
  rw [Zd0 (by omega)] at hK
  simp -implicitDefEqProofs only [go_sem,Zq]
  exact Zb rfl hK

@[go_sem] theorem Z44 {ρ:Nat→Option Nat} {fr:Bool} {os:Nat→Option Ob} {k:F}:cnv ρ fr os 3 (.vp false (ff k)) = .vp false (ff k):=by
 have h:cnvW ρ fr os (cnv ρ fr os 2) (ff k) = ff k:=@cnv_ff ρ fr os 3 k
 show cnvW ρ fr os (cnv ρ fr os 2) (.vp false (ff k)) = _
 rw [cnvW,h]; rfl
@[go_sem] theorem cnv_fnff {ρ:Nat→Option Nat} {fr:Bool} {os:Nat→Option Ob} {f:FuncId} {k:F}:cnv ρ fr os 3 (.fn f [.vp false (ff k)]) = .fn f [.vp false (ff k)]:=by
 have h:cnvW ρ fr os (cnv ρ fr os 2) (.vp false (ff k)) = .vp false (ff k):=@Z44 ρ fr os k
 show cnvW ρ fr os (cnv ρ fr os 2) (.fn f [.vp false (ff k)]) = _
 rw [cnvW,cnvL,cnvL,h]
@[go_sem] theorem leaf_vpff {k:F}:(PV.vp false (ff k)).leaf = true:=rfl

theorem Zos {a b:List F} {g:F→F→F} {f:FuncId} (ha:a.length ≤ 1000000) (hb:b.length ≤ 1000000)
  (hf:∀ (x y:F) (K:PV→List Ob→Prop),K (ff (g x y)) []→PSpec prog f [ff x,ff y] [] K)
  (hK:K (.osl 0 [] 0 (cut (bth g a b)).length) [.row 28 (.arr 4 .one) (ffs (cut (bth g a b)))]):PSpec prog 98 [.vsl false (.arr 4 .one) (ffs a),.vsl false (.arr 4 .one) (ffs b),.fn f []] [] K:=by
 refine Zok ?_
 simp only [qzS,qzN,qzG,qzT,qzI,qzF,qzZ,Zge]
 rw [bth] at hK
 obtain ⟨N,hN⟩:∃ N,max a.length b.length = N:=⟨_,rfl⟩
 rw [hN] at hK
 have hx:(if (b.length:Int) > (a.length:Int) then (b.length:Int) else (a.length:Int)) = (N:Int):=by
  rw [← hN]
  by_cases h:(b.length:Int) > (a.length:Int)
  ·rw [if_pos h,Nat.max_eq_right (by omega)]
  ·rw [if_neg h,Nat.max_eq_left (by omega)]
 have hN2:N ≤ 1000000:=by omega
 obtain ⟨r,hr⟩:∃ r:Nat→F,(fun i=>g (a.getD i 0) (b.getD i 0)) = r:=⟨_,rfl⟩
 rw [hr] at hK
 have hri:∀ i,g (a.getD i 0) (b.getD i 0) = r i:=fun i=>by rw [← hr]
 simp -implicitDefEqProofs only [go_sem,Nat.reduceAdd,Nat.reduceSub,Nat.reduceEqDiff,hx,Zq]
 repeat (with_reducible refine And.intro (by first | omega | decide) ?_)
 refine Zv (ι:={ i:Nat // i ≤ N }) [6,8,17,18,19,20,21,22,23,24,25,26,27,28,29,30,31] (fun i=>[(17,i64 i.1)])
  (fun i=>[(1,.ob (.row 28 (.arr 4 .one) (ffs (fil N r i.1))))]) 2 (fun i=>N - i.1) ⟨0,Nat.zero_le _⟩ ?_ ?_
 ·rw [Zg]
  refine Zc [(1,1)] rfl rfl rfl ?_ ?_
  ·simp -implicitDefEqProofs only [go_sem,Nat.reduceEqDiff,Nat.reduceLT,fil]
  ·simp -implicitDefEqProofs only [go_sem]
 intro ⟨i,hi⟩ G hG
 have fl:=Zoc N r i
 simp -implicitDefEqProofs only [go_sem]
 refine Zi (fun h=>?_) (fun h=>?_)
 ·simp only [decide_eq_true_eq] at h
  have w3:IntKind.i64.wrap ((i:Int) + 1) = ((i + 1:Nat):Int):=by rw [wrs (by omega) (by omega)]; omega
  simp -implicitDefEqProofs only [go_sem,Nat.reduceLT,h]
  refine Znc (by omega) ?_
  simp -implicitDefEqProofs only [go_sem,Nat.reduceLT]
  refine Znc (by omega) ?_
  simp -implicitDefEqProofs only [go_sem]
  repeat (with_reducible refine And.intro (by first | omega | decide) ?_)
  refine hf _ _ _ ?_
  simp -implicitDefEqProofs only [go_sem,h,w3]
  refine hG _ ⟨i + 1,by omega⟩ (by simp only; omega) ?_
  rw [Zg]
  refine Zc [(1,1)] rfl rfl rfl ?_ ?_
  ·simp -implicitDefEqProofs only [go_sem,Nat.reduceLT,fil,hri]
  ·simp -implicitDefEqProofs only [go_sem]
 simp only [decide_eq_false_iff_not] at h
 obtain rfl:i = N:=by omega
 clear hG
 rw [← Zxf] at hK
 have tk:(fil i r i).take i = fil i r i:=List.take_of_length_le (by omega)
 simp -implicitDefEqProofs only [go_sem,Nat.reduceLT,tk]
 refine Zba (by omega) ?_
 simp -implicitDefEqProofs only [go_sem,Nat.reduceAdd,Nat.reduceEqDiff,Nat.reduceLeDiff]
 refine Zt [(2,0)] [.row 28 (.arr 4 .one) (ffs (cut (fil i r i)))] [.osl 0 [] 0 (cut (fil i r i)).length] rfl rfl ?_ ?_ hK
 ·simp -implicitDefEqProofs only [go_sem,Nat.reduceEqDiff,Nat.reduceLT]
 ·simp -implicitDefEqProofs only [go_sem]

theorem Zvi {a b:List F} {g:F→F→F} {f:FuncId} {k:F} (ha:a.length ≤ 1000000) (hb:b.length ≤ 1000000)
  (hf:∀ (x y:F) (K:PV→List Ob→Prop),K (ff (g x y)) []→PSpec prog f [ff x,ff y,.vp false (ff k)] [] K)
  (hK:K (.osl 0 [] 0 (cut (bth g a b)).length) [.row 28 (.arr 4 .one) (ffs (cut (bth g a b)))]):PSpec prog 98 [.vsl false (.arr 4 .one) (ffs a),.vsl false (.arr 4 .one) (ffs b),.fn f [.vp false (ff k)]] [] K:=by
 refine Zok ?_
 simp only [qzS,qzN,qzG,qzT,qzI,qzF,qzZ,Zge]
 rw [bth] at hK
 obtain ⟨N,hN⟩:∃ N,max a.length b.length = N:=⟨_,rfl⟩
 rw [hN] at hK
 have hx:(if (b.length:Int) > (a.length:Int) then (b.length:Int) else (a.length:Int)) = (N:Int):=by
  rw [← hN]
  by_cases h:(b.length:Int) > (a.length:Int)
  ·rw [if_pos h,Nat.max_eq_right (by omega)]
  ·rw [if_neg h,Nat.max_eq_left (by omega)]
 have hN2:N ≤ 1000000:=by omega
 obtain ⟨r,hr⟩:∃ r:Nat→F,(fun i=>g (a.getD i 0) (b.getD i 0)) = r:=⟨_,rfl⟩
 rw [hr] at hK
 have hri:∀ i,g (a.getD i 0) (b.getD i 0) = r i:=fun i=>by rw [← hr]
 simp -implicitDefEqProofs only [go_sem,Nat.reduceAdd,Nat.reduceSub,Nat.reduceEqDiff,hx,Zq]
 repeat (with_reducible refine And.intro (by first | omega | decide) ?_)
 refine Zv (ι:={ i:Nat // i ≤ N }) [6,8,17,18,19,20,21,22,23,24,25,26,27,28,29,30,31] (fun i=>[(17,i64 i.1)])
  (fun i=>[(1,.ob (.row 28 (.arr 4 .one) (ffs (fil N r i.1))))]) 2 (fun i=>N - i.1) ⟨0,Nat.zero_le _⟩ ?_ ?_
 ·rw [Zg]
  refine Zc [(1,1)] rfl rfl rfl ?_ ?_
  ·simp -implicitDefEqProofs only [go_sem,Nat.reduceEqDiff,Nat.reduceLT,fil]
  ·simp -implicitDefEqProofs only [go_sem]
 intro ⟨i,hi⟩ G hG
 have fl:=Zoc N r i
 simp -implicitDefEqProofs only [go_sem]
 refine Zi (fun h=>?_) (fun h=>?_)
 ·simp only [decide_eq_true_eq] at h
  have w3:IntKind.i64.wrap ((i:Int) + 1) = ((i + 1:Nat):Int):=by rw [wrs (by omega) (by omega)]; omega
  simp -implicitDefEqProofs only [go_sem,Nat.reduceLT,h]
  refine Znc (by omega) ?_
  simp -implicitDefEqProofs only [go_sem,Nat.reduceLT]
  refine Znc (by omega) ?_
  simp -implicitDefEqProofs only [go_sem]
  repeat (with_reducible refine And.intro (by first | omega | decide) ?_)
  refine hf _ _ _ ?_
  simp -implicitDefEqProofs only [go_sem,h,w3]
  refine hG _ ⟨i + 1,by omega⟩ (by simp only; omega) ?_
  rw [Zg]
  refine Zc [(1,1)] rfl rfl rfl ?_ ?_
  ·simp -implicitDefEqProofs only [go_sem,Nat.reduceLT,fil,hri]
  ·simp -implicitDefEqProofs only [go_sem]
 simp only [decide_eq_false_iff_not] at h
 obtain rfl:i = N:=by omega
 clear hG
 rw [← Zxf] at hK
 have tk:(fil i r i).take i = fil i r i:=List.take_of_length_le (by omega)
 simp -implicitDefEqProofs only [go_sem,Nat.reduceLT,tk]
 refine Zba (by omega) ?_
 simp -implicitDefEqProofs only [go_sem,Nat.reduceAdd,Nat.reduceEqDiff,Nat.reduceLeDiff]
 refine Zt [(2,0)] [.row 28 (.arr 4 .one) (ffs (cut (fil i r i)))] [.osl 0 [] 0 (cut (fil i r i)).length] rfl rfl ?_ ?_ hK
 ·simp -implicitDefEqProofs only [go_sem,Nat.reduceEqDiff,Nat.reduceLT]
 ·simp -implicitDefEqProofs only [go_sem]

theorem Zsf {a b:List F} (ha:a.length ≤ 1000000) (hb:b.length ≤ 1000000) (hK:K (.osl 0 [] 0 (cut (bth (fun x y=>x + y) a b)).length) [.row 28 (.arr 4 .one) (ffs (cut (bth (fun x y=>x + y) a b)))]):PSpec prog 97 [.vsl false (.arr 4 .one) (ffs a),.vsl false (.arr 4 .one) (ffs b)] [] K:=by
 refine Zwh ?_
 simp only [qzS,qzN,qzG,qzT,qzI,qzF,qzZ,Zmh]
 simp -implicitDefEqProofs only [go_sem,Nat.reduceAdd,Nat.reduceSub,Nat.reduceLT]
 refine Zos (g:=fun x y=>x + y) ha hb (fun x y K h=>Zbm h) ?_
 generalize cut (bth (fun x y=>x + y) a b) = R at *
 simp -implicitDefEqProofs only [go_sem,Nat.reduceAdd,Nat.reduceEqDiff,Nat.reduceLeDiff]
 refine Zt [(1,0)] [.row 28 (.arr 4 .one) (ffs R)] [.osl 0 [] 0 R.length] rfl rfl ?_ ?_ hK
 ·simp -implicitDefEqProofs only [go_sem,Nat.reduceEqDiff,Nat.reduceLT]
 ·simp -implicitDefEqProofs only [go_sem]

theorem Zzx {a b:List F} (ha:a.length ≤ 1000000) (hb:b.length ≤ 1000000) (hK:K (.osl 0 [] 0 (cut (bth (fun x y=>x - y) a b)).length) [.row 28 (.arr 4 .one) (ffs (cut (bth (fun x y=>x - y) a b)))]):PSpec prog 56 [.vsl false (.arr 4 .one) (ffs a),.vsl false (.arr 4 .one) (ffs b)] [] K:=by
 refine Zwe ?_
 simp only [qzS,qzN,qzG,qzT,qzI,qzF,qzZ,Zmd]
 simp -implicitDefEqProofs only [go_sem,Nat.reduceAdd,Nat.reduceSub,Nat.reduceLT]
 refine Zos (g:=fun x y=>x - y) ha hb (fun x y K h=>Zfa h) ?_
 generalize cut (bth (fun x y=>x - y) a b) = R at *
 simp -implicitDefEqProofs only [go_sem,Nat.reduceAdd,Nat.reduceEqDiff,Nat.reduceLeDiff]
 refine Zt [(1,0)] [.row 28 (.arr 4 .one) (ffs R)] [.osl 0 [] 0 R.length] rfl rfl ?_ ?_ hK
 ·simp -implicitDefEqProofs only [go_sem,Nat.reduceEqDiff,Nat.reduceLT]
 ·simp -implicitDefEqProofs only [go_sem]

theorem Ztu {x y k:F} (hK:K (ff (x * k)) []):PSpec prog 99 [ff x,ff y,.vp false (ff k)] [] K:=by
 refine Zoy ?_
 simp only [qzS,qzN,qzG,qzT,qzI,qzF,qzZ,Zfk]
 simp -implicitDefEqProofs only [go_sem,Nat.reduceAdd,Nat.reduceSub,Nat.reduceEqDiff,Nat.reduceLT]
 refine Z4 ?_
 simp -implicitDefEqProofs only [go_sem,Nat.reduceEqDiff]
 exact Zb rfl hK

theorem Zvk {a:List F} {k:F} (ha:a.length ≤ 1000000) (hK:K (.osl 0 [] 0 (cut (bth (fun x _=>x * k) a [])).length) [.row 28 (.arr 4 .one) (ffs (cut (bth (fun x _=>x * k) a [])))]):PSpec prog 53 [.vsl false (.arr 4 .one) (ffs a),ff k] [] K:=by
 refine Zs3 ?_
 simp only [qzS,qzN,qzG,qzT,qzI,qzF,qzZ,Zhw]
 simp -implicitDefEqProofs only [go_sem,Nat.reduceAdd,Nat.reduceSub,Nat.reduceEqDiff,Nat.reduceLT]
 refine Zvi (b:=[]) (g:=fun x _=>x * k) ha (by simp) (fun x y K h=>Ztu h) ?_
 generalize cut (bth (fun x _=>x * k) a []) = R at *
 simp -implicitDefEqProofs only [go_sem,Nat.reduceAdd,Nat.reduceEqDiff,Nat.reduceLeDiff]
 refine Zt [(2,0)] [.row 28 (.arr 4 .one) (ffs R)] [.osl 0 [] 0 R.length] rfl rfl ?_ ?_ hK
 ·simp -implicitDefEqProofs only [go_sem,Nat.reduceEqDiff,Nat.reduceLT]
 ·simp -implicitDefEqProofs only [go_sem]
end Go.Proofs.Tryz.PMT

namespace Go.Proofs.PL
def addl:List F→List F→List F
 | [],m=>m
 | x :: l,[]=>x :: l
 | x :: l,y :: m=>(x + y) :: addl l m
theorem Zq0 (x:F):x + 0 = x:=by grind
theorem Zni (x:F):0 + x = x:=by grind
theorem Zsj (x:F):x * 0 = 0:=by grind
theorem Zsk (x:F):0 * x = 0:=by grind
theorem Zku:∀ (l m:List F) (k:Nat),(addl l m).getD k 0 = l.getD k 0 + m.getD k 0
 | [],m,k=>by simp only [addl,List.getD_nil]; rw [Zni]
 | x :: l,[],k=>by simp only [addl,List.getD_nil]; rw [Zq0]
 | x :: l,y :: m,0=>by simp only [addl,List.getD_cons_zero]
 | x :: l,y :: m,k + 1=>by simp only [addl,List.getD_cons_succ]; exact Zku l m k
theorem Z4p (z x:F) (l:List F):hor z (x :: l) = x + hor z l * z:=rfl
theorem Zyf (z:F):∀ l m:List F,hor z (addl l m) = hor z l + hor z m
 | [],m=>by simp only [addl]; exact (Zni _).symm
 | x :: l,[]=>by simp only [addl]; exact (Zq0 _).symm
 | x :: l,y :: m=>by
  simp only [addl,Z4p]
  rw [Zyf z l m]
  generalize hor z l = p
  generalize hor z m = q
  grind
def sca (x:F) (l:List F):List F:=l.map fun y=>x * y
theorem Zpy (x:F):∀ (l:List F) (k:Nat),(sca x l).getD k 0 = x * l.getD k 0
 | [],k=>by simp only [sca,List.map_nil,List.getD_nil]; rw [Zsj]
 | y :: l,0=>by simp only [sca,List.map_cons,List.getD_cons_zero]
 | y :: l,k + 1=>by simp only [sca,List.map_cons,List.getD_cons_succ]; exact Zpy x l k
def conv:List F→List F→List F
 | [],_=>[]
 | x :: a,b=>addl (sca x b) (0 :: conv a b)
theorem Zpf (f:Nat→F):∀ n,sm (n + 1) f = f 0 + sm n (fun i=>f (i + 1))
 | 0=>by simp only [sm]; rw [Zni,Zq0]
 | n + 1=>by
  rw [sm,Zpf f n]
  simp only [sm]
  generalize sm n (fun i=>f (i + 1)) = p
  generalize f (n + 1) = q
  generalize f 0 = r
  grind
theorem Zgf:∀ (a b:List F) (k:Nat),(conv a b).getD k 0 = sm a.length (tm a b k)
 | [],b,k=>by simp only [conv,List.getD_nil,List.length_nil,sm]
 | x :: a,b,0=>by
  simp only [conv]
  rw [Zku,Zpy,List.length_cons,Zpf,Zpu (f:=fun i=>tm (x :: a) b 0 (i + 1)) a.length (fun i _=>by simp only [tm]; rw [if_neg (by omega)])]
  simp only [tm,List.getD_cons_zero,Nat.sub_zero]
  rw [if_pos (Nat.le_refl _)]
 | x :: a,b,k + 1=>by
  simp only [conv]
  rw [Zku,Zpy,List.length_cons,Zpf,List.getD_cons_succ,Zgf a b k]
  have e:tm (x :: a) b (k + 1) 0 = x * b.getD (k + 1) 0:=by simp only [tm,List.getD_cons_zero,Nat.sub_zero]; rw [if_pos (Nat.zero_le _)]
  rw [e]
  refine congrArg (fun y=>x * b.getD (k + 1) 0 + y) (Zcs _ fun i _=>?_)
  simp only [tm,List.getD_cons_succ]
  by_cases h:i ≤ k
  ·rw [if_pos h,if_pos (by omega),Nat.add_sub_add_right]
  ·rw [if_neg h,if_neg (by omega)]
def pm (a b:List F):List F:=if (cut a).length = 0 ∨ (cut b).length = 0 then [] else mulL ((cut a).length + (cut b).length - 1) (cut a) (cut b)
theorem Zx2 (a b:List F):(pm a b).length = if (cut a).length = 0 ∨ (cut b).length = 0 then 0 else (cut a).length + (cut b).length - 1:=by
 rw [pm]
 split
 ·rfl
 ·exact Zm8 ..
theorem pm_le (a b:List F):(pm a b).length ≤ a.length + b.length:=by
 have h1:=Zbr a
 have h2:=Zbr b
 rw [Zx2]
 split <;> omega
theorem Z54 {l:List F} (h:l.length = 0):l = []:=List.length_eq_zero_iff.1 h
theorem Zyt:∀ a:List F,∀ k,(conv a []).getD k 0 = 0
 | [],k=>by simp only [conv,List.getD_nil]
 | x :: a,0=>by simp only [conv,Zku,Zpy,List.getD_nil,List.getD_cons_zero]; rw [Zsj]; exact zz
 | x :: a,k + 1=>by simp only [conv,Zku,Zpy,List.getD_nil,List.getD_cons_succ]; rw [Zyt a k,Zsj]; exact zz
theorem Z1a (a b:List F) (k:Nat):(pm a b).getD k 0 = (conv (cut a) (cut b)).getD k 0:=by
 rw [pm]
 by_cases h:(cut a).length = 0 ∨ (cut b).length = 0
 ·rw [if_pos h,List.getD_nil]
  rcases h with h | h
  ·rw [Z54 h]; rfl
  ·rw [Z54 h,Zyt]
 ·rw [if_neg h,Zx9 (by omega),Zgf]
theorem pm_top (a b:List F) (h:¬ ((cut a).length = 0 ∨ (cut b).length = 0)):(pm a b).getD ((pm a b).length - 1) 0 ≠ 0:=by
 have ha:=Zpl a (fun e=>h (.inl e))
 have hb:=Zpl b (fun e=>h (.inr e))
 rw [Z1a,Zx2,if_neg h,Zgf]
 obtain ⟨p,hp⟩:∃ p,(cut a).length = p + 1:=⟨(cut a).length - 1,by omega⟩
 obtain ⟨q,hq⟩:∃ q,(cut b).length = q + 1:=⟨(cut b).length - 1,by omega⟩
 rw [hp,Nat.add_sub_cancel] at ha
 rw [hq,Nat.add_sub_cancel] at hb
 rw [hp,hq,show p + 1 + (q + 1) - 1 - 1 = p + q by omega,sm,Zpu (f:=tm (cut a) (cut b) (p + q)) p (fun i hi=>by
  simp only [tm]
  rw [if_pos (by omega),Zd0 (l:=cut b) (by omega),Zsj]),Zni]
 simp only [tm]
 rw [if_pos (by omega),Nat.add_sub_cancel_left]
 exact fun e=>(Ztj e).elim ha hb
theorem Z5y (a b:List F):cut (pm a b) = pm a b:=by
 by_cases h:(cut a).length = 0 ∨ (cut b).length = 0
 ·rw [pm,if_pos h]; rfl
 ·have ht:=pm_top a b h
  have hl:=Zx2 a b
  rw [if_neg h] at hl
  exact Zmq (n:=(pm a b).length - 1) (by omega) ht
theorem Zgw (a b:List F) (k:Nat):(bth (fun x y=>x + y) a b).getD k 0 = a.getD k 0 + b.getD k 0:=Zxm (fun x y=>x + y) zz a b k
theorem Z60 (a b:List F) (k:Nat):(bth (fun x y=>x - y) a b).getD k 0 = a.getD k 0 - b.getD k 0:=Zxm (fun x y=>x - y) (by decide +kernel) a b k
theorem Z9u (z:F) (a b:List F):hor z (cut (bth (fun x y=>x + y) a b)) = hor z a + hor z b:=by
 rw [Zqw z _ (addl a b) (fun k=>by rw [Zej,Zgw,Zku]),Zyf]
end Go.Proofs.PL

namespace Go.Proofs.Tryz.PMT
open Go Go.Proofs.PM Go.Proofs.PL Go.Proofs.Tryz
variable {K:PV→List Ob→Prop}
set_option maxRecDepth 4000

theorem take1 (x:PV):List.take 1 [x] = [x]:=rfl
theorem len1 (x:PV):[x].length = 1:=rfl
theorem has1 (x:F):[ff x].all (Sh.arr 4 .one).has = true:=rfl
theorem Zt7 (n:Nat) (f:Nat→F):ffs (PL.tab (n + 1) f) = ffs (PL.tab n f) ++ [ff (f n)]:=by rw [PL.tab_succ]; simp [ffs]

theorem Zvj {l:List F} {z:F} (hl:l.length ≤ 1000000) (hK:K (.osl 0 [] 0 (cut (shS z (cut l) (cut l).length).1).length) [.row 28 (.arr 4 .one) (ffs (cut (shS z (cut l) (cut l).length).1))]):PSpec prog 49 [.vsl false (.arr 4 .one) (ffs l),ff z] [] K:=by
 refine Zs2 ?_
 simp only [qzS,qzN,qzG,qzT,qzI,qzF,qzZ,Zhv]
 simp -implicitDefEqProofs only [go_sem,Nat.reduceAdd,Nat.reduceSub,Nat.reduceEqDiff,Nat.reduceLT]
 refine Zba (by omega) ?_
 have lA:=Zbr l
 generalize cut l = A at *
 simp -implicitDefEqProofs only [go_sem,Nat.reduceAdd,Nat.reduceEqDiff,Nat.reduceLT,Nat.reduceLeDiff]
 refine Zcc (Zs rfl) ?_
 simp -implicitDefEqProofs only [go_sem,Nat.reduceAdd,Nat.reduceEqDiff,Zew]
 refine Zv (ι:={ i:Nat // i ≤ A.length }) [4,7,8,14,15,16,17,18,19,20,21,22,23,24,25,26,27,28] (fun i=>[(14,i64 i.1)])
  (fun i=>[(0,.ob (.var (.arr 4 .one) (ff z))),(2,.ob (.row 28 (.arr 4 .one) (ffs (shS z A i.1).1))),(3,.ob (.var (.arr 4 .one) (ff (shS z A i.1).2)))]) 4 (fun i=>A.length - i.1) ⟨0,Nat.zero_le _⟩ ?_ ?_
 ·rw [Zg]
  refine Zc [(0,0),(2,2),(3,3)] rfl rfl rfl ?_ ?_
  ·simp -implicitDefEqProofs only [go_sem,Nat.reduceEqDiff,Nat.reduceLT,shS]
  ·simp -implicitDefEqProofs only [go_sem,Nat.reduceEqDiff]
 intro ⟨i,hi⟩ G hG
 have sl:=Zta z A i
 simp -implicitDefEqProofs only [go_sem]
 refine Zi (fun h=>?_) (fun h=>?_)
 ·simp only [decide_eq_true_eq] at h
  have hii:i < (shS z A i).1.length:=by omega
  have w3:IntKind.i64.wrap ((i:Int) + 1) = ((i + 1:Nat):Int):=by rw [wrs (by omega) (by omega)]; omega
  simp -implicitDefEqProofs only [go_sem,Nat.reduceAdd,Nat.reduceEqDiff,Nat.reduceLT,h,Zy hii]
  refine Z4 ?_
  simp -implicitDefEqProofs only [go_sem,Nat.reduceEqDiff,Nat.reduceLT,h,Zy hii]
  refine Z4 ?_
  simp -implicitDefEqProofs only [go_sem,Nat.reduceEqDiff,w3]
  refine hG _ ⟨i + 1,by omega⟩ (by simp only; omega) ?_
  rw [Zg]
  refine Zc [(0,0),(2,2),(3,3)] rfl rfl rfl ?_ ?_
  ·simp -implicitDefEqProofs only [go_sem,Nat.reduceEqDiff,Nat.reduceLT,shS]
  ·simp -implicitDefEqProofs only [go_sem,Nat.reduceEqDiff]
 simp only [decide_eq_false_iff_not] at h
 obtain rfl:i = A.length:=by omega
 clear hG
 have tk:(shS z A A.length).1.take A.length = (shS z A A.length).1:=List.take_of_length_le (by omega)
 simp -implicitDefEqProofs only [go_sem,Nat.reduceEqDiff,Nat.reduceLT,tk]
 refine Zba (by omega) ?_
 generalize cut (shS z A A.length).1 = R at *
 simp -implicitDefEqProofs only [go_sem,Nat.reduceAdd,Nat.reduceEqDiff,Nat.reduceLeDiff]
 refine Zt [(4,0)] [.row 28 (.arr 4 .one) (ffs R)] [.osl 0 [] 0 R.length] rfl rfl ?_ ?_ hK
 ·simp -implicitDefEqProofs only [go_sem,Nat.reduceEqDiff,Nat.reduceLT]
 ·simp -implicitDefEqProofs only [go_sem]

theorem Zyd {l:List F} {i:Nat} (hl:l.length ≤ 4398046511104) (hK:K (ff (l.getD i 0)) []):PSpec prog 64 [.vsl false (.arr 4 .one) (ffs l),i64 i] [] K:=by
 refine Zl3 ?_
 simp only [qzS,qzN,qzG,qzT,qzI,qzF,qzZ,Zed]
 simp -implicitDefEqProofs only [go_sem,Nat.reduceAdd,Nat.reduceSub]
 refine Zi (fun h=>?_) (fun h=>?_)
 ·simp only [decide_eq_true_eq] at h
  have hi:i < l.length:=by omega
  simp -implicitDefEqProofs only [go_sem,h,Zy hi]
  exact Zb rfl hK
 ·simp only [decide_eq_false_iff_not] at h
  rw [Zd0 (by omega)] at hK
  simp -implicitDefEqProofs only [go_sem,Zq]
  exact Zb rfl hK

theorem Zqs {a b:List F} (ha:a.length ≤ 1000000) (hb:b.length ≤ 1000000) (hK:K (.osl 0 [] 0 (cut (bth (fun x y=>x + y) a b)).length) [.row 28 (.arr 4 .one) (ffs (cut (bth (fun x y=>x + y) a b)))]):PSpec prog 17 [.vsl false (.arr 4 .one) (ffs a),.vsl false (.arr 4 .one) (ffs b)] [] K:=by
 refine Zlg ?_
 simp only [qzS,qzN,qzG,qzT,qzI,qzF,qzZ,Zdx]
 rw [bth] at hK
 obtain ⟨N,hN⟩:∃ N,max a.length b.length = N:=⟨_,rfl⟩
 rw [hN] at hK
 have hx:(if (b.length:Int) > (a.length:Int) then (b.length:Int) else (a.length:Int)) = (N:Int):=by
  rw [← hN]
  by_cases h:(b.length:Int) > (a.length:Int)
  ·rw [if_pos h,Nat.max_eq_right (by omega)]
  ·rw [if_neg h,Nat.max_eq_left (by omega)]
 have hN2:N ≤ 1000000:=by omega
 obtain ⟨r,hr⟩:∃ r:Nat→F,(fun i=>a.getD i 0 + b.getD i 0) = r:=⟨_,rfl⟩
 rw [hr] at hK
 have hri:∀ i,a.getD i 0 + b.getD i 0 = r i:=fun i=>by rw [← hr]
 simp -implicitDefEqProofs only [go_sem,Nat.reduceAdd,Nat.reduceSub,Nat.reduceEqDiff]
 refine Zv (ι:={ i:Nat // i ≤ N }) [4,5,6,7,8,9,10,11,12,13,14,15,16,17,18,19,20,21,22,23,24,25] (fun i=>[(5,.osl 1 [] 0 i.1),(6,i64 i.1)])
  (fun i=>[(1,.ob (.row 28 (.arr 4 .one) (ffs (PL.tab i.1 r))))]) 2 (fun i=>N - i.1) ⟨0,Nat.zero_le _⟩ ?_ ?_
 ·rw [Zg]
  refine Zc [(1,1)] rfl rfl rfl ?_ ?_
  ·simp -implicitDefEqProofs only [go_sem,Nat.reduceEqDiff,Nat.reduceLT,ob_eq,Ob.row.injEq,PL.tab]
   try rfl
  ·simp -implicitDefEqProofs only [go_sem]
 intro ⟨i,hi⟩ G hG
 have tl:=PL.tab_len i r
 simp -implicitDefEqProofs only [go_sem,hx]
 refine Zi (fun h=>?_) (fun h=>?_)
 ·simp only [decide_eq_true_eq] at h
  have w3:IntKind.i64.wrap ((i:Int) + 1) = ((i + 1:Nat):Int):=by rw [wrs (by omega) (by omega)]; omega
  simp -implicitDefEqProofs only [go_sem,Nat.reduceLT,h]
  refine Zyd (by omega) ?_
  simp -implicitDefEqProofs only [go_sem,Nat.reduceLT]
  refine Zyd (by omega) ?_
  simp -implicitDefEqProofs only [go_sem,Nat.reduceLT]
  refine Zfy ?_
  simp -implicitDefEqProofs only [go_sem,Nat.reduceAdd,Nat.reduceEqDiff,Nat.reduceLT,Nat.reduceLeDiff,w3,tl,take1,len1,has1,true_and]
  repeat (with_reducible refine And.intro (by first | omega | decide) ?_)
  refine hG _ ⟨i + 1,by omega⟩ (by simp only; omega) ?_
  rw [Zg]
  refine Zc [(3,1)] rfl rfl rfl ?_ ?_
  ·simp -implicitDefEqProofs only [go_sem,Nat.reduceEqDiff,Nat.reduceLT,← Zt7,hri]
  ·simp -implicitDefEqProofs only [go_sem]
 simp only [decide_eq_false_iff_not] at h
 obtain rfl:i = N:=by omega
 clear hG
 have tk:(PL.tab i r).take i = PL.tab i r:=List.take_of_length_le (by omega)
 simp -implicitDefEqProofs only [go_sem,Nat.reduceLT,tk]
 refine Zbd (by omega) ?_
 generalize cut (PL.tab i r) = R at *
 simp -implicitDefEqProofs only [go_sem,Nat.reduceAdd,Nat.reduceEqDiff,Nat.reduceLeDiff]
 refine Zt [(2,0)] [.row 28 (.arr 4 .one) (ffs R)] [.osl 0 [] 0 R.length] rfl rfl ?_ ?_ hK
 ·simp -implicitDefEqProofs only [go_sem,Nat.reduceEqDiff,Nat.reduceLT]
 ·simp -implicitDefEqProofs only [go_sem]

theorem Zqr {a:List F} {z:F} (ha:a.length ≤ 1000000) (hK:K (.osl 0 [] 0 (cut (bth (fun x _=>x * z) a [])).length) [.row 28 (.arr 4 .one) (ffs (cut (bth (fun x _=>x * z) a [])))]):PSpec prog 66 [.vsl false (.arr 4 .one) (ffs a),ff z] [] K:=by
 refine Zi5 ?_
 simp only [qzS,qzN,qzG,qzT,qzI,qzF,qzZ,Zcn]
 rw [bth,show max a.length ([]:List F).length = a.length by simp] at hK
 obtain ⟨r,hr⟩:∃ r:Nat→F,(fun i=>a.getD i 0 * z) = r:=⟨_,rfl⟩
 rw [hr] at hK
 have hri:∀ i,a.getD i 0 * z = r i:=fun i=>by rw [← hr]
 simp -implicitDefEqProofs only [go_sem,Nat.reduceAdd,Nat.reduceSub,Nat.reduceEqDiff]
 refine Zv (ι:={ i:Nat // i ≤ a.length }) [4,5,6,7,8,9,10,11,12,13,14,15,16,17,18,19,20,21] (fun i=>[(5,.osl 2 [] 0 i.1),(6,i64 i.1)])
  (fun i=>[(0,.ob (.var (.arr 4 .one) (ff z))),(2,.ob (.row 28 (.arr 4 .one) (ffs (PL.tab i.1 r))))]) 3 (fun i=>a.length - i.1) ⟨0,Nat.zero_le _⟩ ?_ ?_
 ·rw [Zg]
  refine Zc [(0,0),(2,2)] rfl rfl rfl ?_ ?_
  ·simp -implicitDefEqProofs only [go_sem,Nat.reduceEqDiff,Nat.reduceLT,ob_eq,Ob.row.injEq,PL.tab]
   try rfl
  ·simp -implicitDefEqProofs only [go_sem,Nat.reduceEqDiff]
 intro ⟨i,hi⟩ G hG
 have tl:=PL.tab_len i r
 simp -implicitDefEqProofs only [go_sem]
 refine Zi (fun h=>?_) (fun h=>?_)
 ·simp only [decide_eq_true_eq] at h
  have hii:i < a.length:=by omega
  have w3:IntKind.i64.wrap ((i:Int) + 1) = ((i + 1:Nat):Int):=by rw [wrs (by omega) (by omega)]; omega
  simp -implicitDefEqProofs only [go_sem,Nat.reduceAdd,Nat.reduceMul,Nat.reduceEqDiff,Nat.reduceLT,h,Zy hii]
  refine Zbh ?_
  simp -implicitDefEqProofs only [go_sem,Nat.reduceAdd,Nat.reduceMul,Nat.reduceEqDiff,Nat.reduceLT,Nat.reduceLeDiff,w3,tl,take1,len1,has1,true_and]
  repeat (with_reducible refine And.intro (by first | omega | decide) ?_)
  refine hG _ ⟨i + 1,by omega⟩ (by simp only; omega) ?_
  rw [Zg]
  refine Zc [(0,0),(131,2)] rfl rfl rfl ?_ ?_
  ·simp -implicitDefEqProofs only [go_sem,Nat.reduceEqDiff,Nat.reduceLT,← Zt7,hri]
  ·simp -implicitDefEqProofs only [go_sem,Nat.reduceEqDiff]
 simp only [decide_eq_false_iff_not] at h
 obtain rfl:i = a.length:=by omega
 clear hG
 have tk:(PL.tab a.length r).take a.length = PL.tab a.length r:=List.take_of_length_le (by omega)
 simp -implicitDefEqProofs only [go_sem,Nat.reduceEqDiff,Nat.reduceLT,tk]
 refine Zbd (by omega) ?_
 generalize cut (PL.tab a.length r) = R at *
 simp -implicitDefEqProofs only [go_sem,Nat.reduceAdd,Nat.reduceEqDiff,Nat.reduceLeDiff]
 refine Zt [(3,0)] [.row 28 (.arr 4 .one) (ffs R)] [.osl 0 [] 0 R.length] rfl rfl ?_ ?_ hK
 ·simp -implicitDefEqProofs only [go_sem,Nat.reduceEqDiff,Nat.reduceLT]
 ·simp -implicitDefEqProofs only [go_sem]
end Go.Proofs.Tryz.PMT

namespace Go.Proofs.Tryz.PMT
open Go Go.Proofs.PM Go.Proofs.PL Go.Proofs.Tryz
set_option maxRecDepth 4000

theorem Zwq {n:Int} (h0:0 ≤ n) (h1:n < 18446744073709551616):(ff 0).put [0] (.val (.int .u64 n)) = ff (of n):=by
 rw [ff_zero,← Zwv ⟨h0,h1⟩]; rfl
end Go.Proofs.Tryz.PMT

namespace Go.Proofs.Tryz.PMT
open Go Go.Proofs.PM Go.Proofs.PL Go.Proofs.Tryz
variable {K:PV→List Ob→Prop}
set_option maxRecDepth 4000

theorem Zv3 {a b:List F} (ha:a.length ≤ 4398046511104) (hb:b.length ≤ 4398046511104)
  (hK:∀ q r e,(q,r,e) = dv a b→K (.tup [.osl 0 [] 0 q.length,.osl 1 [] 0 r.length,i64 e]) [.row 28 (.arr 4 .one) (ffs q),.row 28 (.arr 4 .one) (ffs r)]):PSpec prog 73 [.vsl false (.arr 4 .one) (ffs a),.vsl false (.arr 4 .one) (ffs b)] [] K:=by
 refine Zvg ha hb (fun h=>?_) (fun h q r e=>?_)
 ·exact hK [] [] 7 (by rw [dv,if_pos h])
 ·refine hK (cut q) (cut r) 0 ?_
  rw [dv_G a b h,← e]

end Go.Proofs.Tryz.PMT

namespace Go.Proofs.PM
open Go Go.Proofs.PL
set_option maxRecDepth 4000
theorem ofI {a:Nat} (h:a < 18446744073709551616):(BitVec.ofInt 64 (a:Int)).toNat = a:=by
 rw [BitVec.ofInt_natCast,BitVec.toNat_ofNat]; exact Nat.mod_eq_of_lt h
theorem and_lt {a b:Nat} (hb:b < 18446744073709551616):a &&& b < 18446744073709551616:=Nat.lt_of_le_of_lt Nat.and_le_right hb
theorem or_lt {a b:Nat} (ha:a < 18446744073709551616) (hb:b < 18446744073709551616):a ||| b < 18446744073709551616:=Nat.or_lt_two_pow (n:=64) ha hb
theorem Zq9 {a k:Nat} (hk:k < 64):binI .shl .u64 (a:Int) (k:Int) = .int .u64 ((a * 2 ^ k % 18446744073709551616:Nat):Int):=by
 simp only [binI,Int.toNat_natCast]
 rw [Nat.min_eq_left (by show k ≤ 64; omega),Zjk,Int.natCast_emod,Int.natCast_mul,Int.natCast_pow]
 rfl
theorem Z2z {a b:Nat} (ha:a < 9223372036854775808) (hb:b < 9223372036854775808):binI .and .i64 (a:Int) (b:Int) = .int .i64 ((a &&& b:Nat):Int):=by
 have h:a &&& b < 9223372036854775808:=Nat.lt_of_le_of_lt Nat.and_le_right hb
 simp only [binI]
 rw [show IntKind.i64.bits = 64 from rfl,BitVec.toNat_and,ofI (by omega),ofI (by omega),wrs (by omega) (by omega)]
end Go.Proofs.PM

namespace Go.Proofs.Tryz.PMT
open Go Go.Proofs.PM Go.Proofs.Tryz
variable {args:List PV} {own:List Ob} {K:PV→List Ob→Prop}
def Zny:Pc:=(.seq (.rgn [qzS 2 (.mv (qzI 0))]) (.seq (.seq (.rgn [qzS 3 (.mv (qzT 0)),qzS 4 (.bin .lss (qzT 3) (qzI 1)),qzS 5 (.mv (qzT 4)),qzG 6 5 false (.mv (qzT 0)),qzG 7 5 false (.bin .gtr (qzT 6) (qzI 512)),qzS 8 (.pick (qzT 5) (.cst (.val (.bool true))) (qzT 7)),qzS 9 (.mv (qzT 8)),qzG 10 9 false (.mv (qzT 0)),qzG 11 9 false (.mv (qzT 0)),qzG 12 9 false (.bin .sub (qzT 11) (qzI 1)),qzG 13 9 false (.bin .and (qzT 10) (qzT 12)),qzG 14 9 false (.bin .neq (qzT 13) (qzI 0)),qzS 15 (.pick (qzT 9) (.cst (.val (.bool true))) (qzT 14))]) (.cond (qzT 15) (.seq (.rgn [qzS 2 (.mv (qzI (-1)))]) .ret) .skip)) (.seq (.rgn [qzS 16 (.mv (qzT 0)),qzS 17 (.cvi .u64 (qzT 16)),qzS 18 (.call 124 false [((qzT 17),none)]),qzS 2 (.mv (qzT 18))]) .ret)))
theorem Ztd:f119.body.bind (Zd TT 90) = some Zny:=by kernel_rfl
theorem Zzh (h:pwp prog Zny (retQ [.tmp 2] own K) (stIn 19 args own)):PSpec prog 119 args own K:=spec func119 Ztd (by kernel_rfl) (by kernel_rfl) h
def Zgj:Pc:=(.seq (.rgn [qzS 4 (.nil 28 qzF)]) (.seq (.rgn [qzS 8 (.mv (qzT 0)),qzS 9 (.len (qzT 8)),qzS 10 (.mksl 28 qzF 32 qzZ (qzT 9) (qzT 9)),qzS 5 (.mv (qzT 10))]) (.seq (.seq (.rgn [qzS 11 (.mv (qzT 0)),qzS 12 (.len (qzT 11)),qzS 13 (.mv (qzI 0))]) (.block 0 (.loop (.seq (.rgn [qzS 14 (.bin .lss (qzT 13) (qzT 12))]) (.seq (.cond (qzT 14) .skip (.exit 0)) (.seq (.block 1 (.seq (.rgn [qzS 15 (.mv (qzT 13)),qzS 16 (.iaddrs qzF (qzT 11) (qzT 13)),qzS 17 (.load qzF (qzT 16)),qzS 7 (.alloc qzF qzZ),qzS 6 (.mv (qzT 15)),qzN (.store qzF (qzT 7) (qzT 17))]) (.drgn 12 [⟨0,.no,qzS 18 (.mv (qzT 5))⟩,⟨1,.no,qzS 19 (.mv (qzT 6))⟩,⟨2,.no,qzS 20 (.cvi .u64 (qzT 19))⟩,⟨3,.no,qzS 21 (.bin .shl (qzT 20) (.cst (.val (.int .u64 1))))⟩,⟨5,.no,qzS 23 (.mv (qzT 1))⟩,⟨6,.no,qzS 24 (.bin .sub (qzI 63) (qzT 23))⟩,⟨7,.no,qzS 25 (.cvi .u64 (qzT 24))⟩,⟨9,.no,qzS 27 (.load qzF (qzT 7))⟩,⟨4,(.av false [7]),qzS 22 (.call 131 false [((qzT 21),none)])⟩,⟨8,.no,qzS 26 (.bin .shr (qzT 22) (qzT 25))⟩,⟨10,.no,qzS 28 (.iaddrs qzF (qzT 18) (qzT 26))⟩,⟨11,.no,qzN (.store qzF (qzT 28) (qzT 27))⟩]))) (.rgn [qzS 29 (.bin .add (qzT 13) (qzI 1)),qzS 13 (.mv (qzT 29))]))))))) (.seq (.rgn [qzS 30 (.mv (qzT 5)),qzS 4 (.mv (qzT 30))]) .ret))))
theorem Znx:f125.body.bind (Zd TT 90) = some Zgj:=by kernel_rfl
theorem Zrj (h:pwp prog Zgj (retQ [.tmp 4] own K) (stIn 31 args own)):PSpec prog 125 args own K:=spec func125 Znx (by kernel_rfl) (by kernel_rfl) h
def Zmi:Pc:=(.seq (.rgn [qzS 5 (.box qzF (qzT 2)),qzS 6 (.nil 28 qzF)]) (.scopej 0 (.seq .skip (.seq (.seq (.rgn [qzS 19 (.mv (qzT 8)),qzS 20 (.mv (qzT 7)),qzS 21 (.len (qzT 20)),qzS 22 (.bin .geq (qzT 19) (qzT 21))]) (.cond (qzT 22) (.seq (.rgn [qzS 23 (.mv (qzT 7)),qzS 6 (.mv (qzT 23))]) .ret) .skip)) (.seq (.rgn [qzS 24 (.load qzF (qzT 5)),qzS 9 (.alloc qzF qzZ),qzN (.store qzF (qzT 9) (qzT 24))]) (.seq (.seq (.rgn [qzS 25 (.mv (qzT 7)),qzS 26 (.len (qzT 25)),qzS 10 (.mv (qzT 26))]) (.block 0 (.loop (.seq (.seq (.rgn [qzS 27 (.mv (qzT 10)),qzS 28 (.mv (qzT 8)),qzS 29 (.bin .mul (qzI 2) (qzT 28)),qzS 30 (.bin .gtr (qzT 27) (qzT 29))]) (.cond (qzT 30) .skip (.exit 0))) (.seq (.block 1 (.rgn [qzS 33 (.load qzF (qzT 9)),qzS 34 (.load qzF (qzT 9)),qzS 35 (.call 57 false [((qzT 33),none),((qzT 34),none)]),qzN (.store qzF (qzT 9) (qzT 35))])) (.rgn [qzS 31 (.mv (qzT 10)),qzS 32 (.bin .quo (qzT 31) (qzI 2)),qzS 10 (.mv (qzT 32))])))))) (.seq (.seq (.rgn [qzS 11 (.mv (qzI 0))]) (.block 2 (.loop (.seq (.seq (.rgn [qzS 36 (.mv (qzT 11)),qzS 37 (.mv (qzT 7)),qzS 38 (.len (qzT 37)),qzS 39 (.bin .lss (qzT 36) (qzT 38))]) (.cond (qzT 39) .skip (.exit 2))) (.seq (.block 3 (.seq (.rgn [qzS 44 (.call 54 false [((.cst (.val (.int .u64 1))),none)]),qzS 12 (.alloc qzF qzZ),qzN (.store qzF (qzT 12) (qzT 44))]) (.seq (.rgn [qzS 45 (.mv (qzT 11)),qzS 13 (.mv (qzT 45))]) (.block 4 (.loop (.seq (.seq (.rgn [qzS 46 (.mv (qzT 13)),qzS 47 (.mv (qzT 11)),qzS 48 (.mv (qzT 8)),qzS 49 (.bin .add (qzT 47) (qzT 48)),qzS 50 (.bin .lss (qzT 46) (qzT 49))]) (.cond (qzT 50) .skip (.exit 4))) (.seq (.block 5 (.seq (.drgn 16 [⟨0,.no,qzS 53 (.mv (qzT 7))⟩,⟨1,.no,qzS 54 (.mv (qzT 13))⟩,⟨2,.no,qzS 55 (.iaddrs qzF (qzT 53) (qzT 54))⟩,⟨3,.no,qzS 56 (.load qzF (qzT 55))⟩,⟨4,.no,qzS 57 (.mv (qzT 7))⟩,⟨5,.no,qzS 58 (.mv (qzT 13))⟩,⟨6,.no,qzS 59 (.mv (qzT 8))⟩,⟨7,.no,qzS 60 (.bin .add (qzT 58) (qzT 59))⟩,⟨8,.no,qzS 61 (.iaddrs qzF (qzT 57) (qzT 60))⟩,⟨9,.no,qzS 62 (.load qzF (qzT 61))⟩,⟨10,.no,qzS 63 (.load qzF (qzT 12))⟩,⟨12,.no,qzS 14 (.alloc qzF qzZ)⟩,⟨13,.no,qzS 15 (.alloc qzF qzZ)⟩,⟨11,(.av false [55,53,54]),qzS 64 (.call 57 false [((qzT 62),none),((qzT 63),none)])⟩,⟨14,.no,qzN (.store qzF (qzT 14) (qzT 56))⟩,⟨15,.no,qzN (.store qzF (qzT 15) (qzT 64))⟩]) (.seq (.drgn 16 [⟨0,.no,qzS 65 (.mv (qzT 7))⟩,⟨1,.no,qzS 66 (.mv (qzT 13))⟩,⟨2,.no,qzS 67 (.mv (qzT 7))⟩,⟨3,.no,qzS 68 (.mv (qzT 13))⟩,⟨4,.no,qzS 69 (.mv (qzT 8))⟩,⟨5,.no,qzS 70 (.bin .add (qzT 68) (qzT 69))⟩,⟨6,.no,qzS 71 (.load qzF (qzT 14))⟩,⟨7,.no,qzS 72 (.load qzF (qzT 15))⟩,⟨9,.no,qzS 74 (.load qzF (qzT 14))⟩,⟨10,.no,qzS 75 (.load qzF (qzT 15))⟩,⟨8,(.av false [15,14]),qzS 73 (.call 60 false [((qzT 71),none),((qzT 72),none)])⟩,⟨11,.no,qzS 76 (.call 63 false [((qzT 74),none),((qzT 75),none)])⟩,⟨12,.no,qzS 77 (.iaddrs qzF (qzT 65) (qzT 66))⟩,⟨13,.no,qzN (.store qzF (qzT 77) (qzT 73))⟩,⟨14,.no,qzS 78 (.iaddrs qzF (qzT 67) (qzT 70))⟩,⟨15,.no,qzN (.store qzF (qzT 78) (qzT 76))⟩]) (.rgn [qzS 79 (.load qzF (qzT 12)),qzS 80 (.load qzF (qzT 9)),qzS 81 (.call 57 false [((qzT 79),none),((qzT 80),none)]),qzN (.store qzF (qzT 12) (qzT 81))])))) (.rgn [qzS 51 (.mv (qzT 13)),qzS 52 (.bin .add (qzT 51) (qzI 1)),qzS 13 (.mv (qzT 52))])))))))) (.rgn [qzS 40 (.mv (qzT 11)),qzS 41 (.mv (qzT 8)),qzS 42 (.bin .mul (qzI 2) (qzT 41)),qzS 43 (.bin .add (qzT 40) (qzT 42)),qzS 11 (.mv (qzT 43))])))))) (.seq (.rgn [qzS 82 (.mv (qzT 8)),qzS 83 (.bin .mul (qzT 82) (qzI 2)),qzS 8 (.mv (qzT 83))]) (.goto 0))))))) (.seq (.rgn [qzS 16 (.mv (qzT 0)),qzS 17 (.mv (qzT 1)),qzS 18 (.call 125 false [((qzT 16),(some qzF)),((qzT 17),none)]),qzS 7 (.mv (qzT 18))]) (.seq (.rgn [qzS 8 (.mv (qzI 1))]) (.seq .label (.seq (.seq (.rgn [qzS 19 (.mv (qzT 8)),qzS 20 (.mv (qzT 7)),qzS 21 (.len (qzT 20)),qzS 22 (.bin .geq (qzT 19) (qzT 21))]) (.cond (qzT 22) (.seq (.rgn [qzS 23 (.mv (qzT 7)),qzS 6 (.mv (qzT 23))]) .ret) .skip)) (.seq (.rgn [qzS 24 (.load qzF (qzT 5)),qzS 9 (.alloc qzF qzZ),qzN (.store qzF (qzT 9) (qzT 24))]) (.seq (.seq (.rgn [qzS 25 (.mv (qzT 7)),qzS 26 (.len (qzT 25)),qzS 10 (.mv (qzT 26))]) (.block 0 (.loop (.seq (.seq (.rgn [qzS 27 (.mv (qzT 10)),qzS 28 (.mv (qzT 8)),qzS 29 (.bin .mul (qzI 2) (qzT 28)),qzS 30 (.bin .gtr (qzT 27) (qzT 29))]) (.cond (qzT 30) .skip (.exit 0))) (.seq (.block 1 (.rgn [qzS 33 (.load qzF (qzT 9)),qzS 34 (.load qzF (qzT 9)),qzS 35 (.call 57 false [((qzT 33),none),((qzT 34),none)]),qzN (.store qzF (qzT 9) (qzT 35))])) (.rgn [qzS 31 (.mv (qzT 10)),qzS 32 (.bin .quo (qzT 31) (qzI 2)),qzS 10 (.mv (qzT 32))])))))) (.seq (.seq (.rgn [qzS 11 (.mv (qzI 0))]) (.block 2 (.loop (.seq (.seq (.rgn [qzS 36 (.mv (qzT 11)),qzS 37 (.mv (qzT 7)),qzS 38 (.len (qzT 37)),qzS 39 (.bin .lss (qzT 36) (qzT 38))]) (.cond (qzT 39) .skip (.exit 2))) (.seq (.block 3 (.seq (.rgn [qzS 44 (.call 54 false [((.cst (.val (.int .u64 1))),none)]),qzS 12 (.alloc qzF qzZ),qzN (.store qzF (qzT 12) (qzT 44))]) (.seq (.rgn [qzS 45 (.mv (qzT 11)),qzS 13 (.mv (qzT 45))]) (.block 4 (.loop (.seq (.seq (.rgn [qzS 46 (.mv (qzT 13)),qzS 47 (.mv (qzT 11)),qzS 48 (.mv (qzT 8)),qzS 49 (.bin .add (qzT 47) (qzT 48)),qzS 50 (.bin .lss (qzT 46) (qzT 49))]) (.cond (qzT 50) .skip (.exit 4))) (.seq (.block 5 (.seq (.drgn 16 [⟨0,.no,qzS 53 (.mv (qzT 7))⟩,⟨1,.no,qzS 54 (.mv (qzT 13))⟩,⟨2,.no,qzS 55 (.iaddrs qzF (qzT 53) (qzT 54))⟩,⟨3,.no,qzS 56 (.load qzF (qzT 55))⟩,⟨4,.no,qzS 57 (.mv (qzT 7))⟩,⟨5,.no,qzS 58 (.mv (qzT 13))⟩,⟨6,.no,qzS 59 (.mv (qzT 8))⟩,⟨7,.no,qzS 60 (.bin .add (qzT 58) (qzT 59))⟩,⟨8,.no,qzS 61 (.iaddrs qzF (qzT 57) (qzT 60))⟩,⟨9,.no,qzS 62 (.load qzF (qzT 61))⟩,⟨10,.no,qzS 63 (.load qzF (qzT 12))⟩,⟨12,.no,qzS 14 (.alloc qzF qzZ)⟩,⟨13,.no,qzS 15 (.alloc qzF qzZ)⟩,⟨11,(.av false [55,53,54]),qzS 64 (.call 57 false [((qzT 62),none),((qzT 63),none)])⟩,⟨14,.no,qzN (.store qzF (qzT 14) (qzT 56))⟩,⟨15,.no,qzN (.store qzF (qzT 15) (qzT 64))⟩]) (.seq (.drgn 16 [⟨0,.no,qzS 65 (.mv (qzT 7))⟩,⟨1,.no,qzS 66 (.mv (qzT 13))⟩,⟨2,.no,qzS 67 (.mv (qzT 7))⟩,⟨3,.no,qzS 68 (.mv (qzT 13))⟩,⟨4,.no,qzS 69 (.mv (qzT 8))⟩,⟨5,.no,qzS 70 (.bin .add (qzT 68) (qzT 69))⟩,⟨6,.no,qzS 71 (.load qzF (qzT 14))⟩,⟨7,.no,qzS 72 (.load qzF (qzT 15))⟩,⟨9,.no,qzS 74 (.load qzF (qzT 14))⟩,⟨10,.no,qzS 75 (.load qzF (qzT 15))⟩,⟨8,(.av false [15,14]),qzS 73 (.call 60 false [((qzT 71),none),((qzT 72),none)])⟩,⟨11,.no,qzS 76 (.call 63 false [((qzT 74),none),((qzT 75),none)])⟩,⟨12,.no,qzS 77 (.iaddrs qzF (qzT 65) (qzT 66))⟩,⟨13,.no,qzN (.store qzF (qzT 77) (qzT 73))⟩,⟨14,.no,qzS 78 (.iaddrs qzF (qzT 67) (qzT 70))⟩,⟨15,.no,qzN (.store qzF (qzT 78) (qzT 76))⟩]) (.rgn [qzS 79 (.load qzF (qzT 12)),qzS 80 (.load qzF (qzT 9)),qzS 81 (.call 57 false [((qzT 79),none),((qzT 80),none)]),qzN (.store qzF (qzT 12) (qzT 81))])))) (.rgn [qzS 51 (.mv (qzT 13)),qzS 52 (.bin .add (qzT 51) (qzI 1)),qzS 13 (.mv (qzT 52))])))))))) (.rgn [qzS 40 (.mv (qzT 11)),qzS 41 (.mv (qzT 8)),qzS 42 (.bin .mul (qzI 2) (qzT 41)),qzS 43 (.bin .add (qzT 40) (qzT 42)),qzS 11 (.mv (qzT 43))])))))) (.seq (.rgn [qzS 82 (.mv (qzT 8)),qzS 83 (.bin .mul (qzT 82) (qzI 2)),qzS 8 (.mv (qzT 83))]) (.goto 0)))))))))))
theorem Zrq:f120.body.bind (Zd TT 90) = some Zmi:=by kernel_rfl
theorem Zwi (h:pwp prog Zmi (retQ [.tmp 6] own K) (stIn 84 args own)):PSpec prog 120 args own K:=spec func120 Zrq (by kernel_rfl) (by kernel_rfl) h
def Zmj:Pc:=(.seq (.rgn [qzS 2 (.nil 28 qzF),qzS 3 (.mv (qzI 0))]) (.seq (.rgn [qzS 12 (.mv (qzT 0)),qzS 13 (.len (qzT 12)),qzS 14 (.call 119 false [((qzT 13),none)]),qzS 4 (.mv (qzT 14))]) (.seq (.seq (.rgn [qzS 15 (.mv (qzT 4)),qzS 16 (.bin .lss (qzT 15) (qzI 0))]) (.cond (qzT 16) (.seq (.rgn [qzS 2 (.nil 28 qzF),qzS 3 (.mv (qzI 1))]) .ret) .skip)) (.seq (.rgn [qzS 18 (.mv (qzT 4)),qzS 19 (.call 48 false [((qzT 18),none)]),qzS 17 (.mv (qzT 19)),qzS 20 (.ext (qzT 17) 0),qzS 21 (.ext (qzT 17) 1),qzS 5 (.alloc qzF qzZ),qzN (.store qzF (qzT 5) (qzT 20)),qzS 6 (.mv (qzT 21))]) (.seq (.rgn [qzS 23 (.load qzF (qzT 5)),qzS 24 (.call 106 false [((qzT 23),none)]),qzS 22 (.mv (qzT 24)),qzS 25 (.ext (qzT 22) 0),qzS 26 (.ext (qzT 22) 1),qzN (.store qzF (qzT 5) (qzT 25))]) (.seq (.rgn [qzS 28 (.mv (qzT 0)),qzS 29 (.len (qzT 28)),qzS 30 (.cvi .u64 (qzT 29)),qzS 31 (.call 54 false [((qzT 30),none)]),qzS 32 (.call 106 false [((qzT 31),none)]),qzS 27 (.mv (qzT 32)),qzS 33 (.ext (qzT 27) 0),qzS 34 (.ext (qzT 27) 1),qzS 7 (.alloc qzF qzZ),qzN (.store qzF (qzT 7) (qzT 33)),qzS 8 (.mv (qzT 34))]) (.seq (.rgn [qzS 35 (.mv (qzT 0)),qzS 36 (.mv (qzT 4)),qzS 37 (.load qzF (qzT 5)),qzS 38 (.call 120 false [((qzT 35),(some qzF)),((qzT 36),none),((qzT 37),none)]),qzS 9 (.mv (qzT 38))]) (.seq (.seq (.rgn [qzS 39 (.mv (qzT 9)),qzS 40 (.len (qzT 39)),qzS 41 (.mv (qzI 0))]) (.block 0 (.loop (.seq (.rgn [qzS 42 (.bin .lss (qzT 41) (qzT 40))]) (.seq (.cond (qzT 42) .skip (.exit 0)) (.seq (.block 1 (.seq (.rgn [qzS 43 (.mv (qzT 41)),qzS 44 (.iaddrs qzF (qzT 39) (qzT 41)),qzS 45 (.load qzF (qzT 44)),qzS 11 (.alloc qzF qzZ),qzS 10 (.mv (qzT 43)),qzN (.store qzF (qzT 11) (qzT 45))]) (.rgn [qzS 46 (.mv (qzT 9)),qzS 47 (.mv (qzT 10)),qzS 48 (.load qzF (qzT 11)),qzS 49 (.load qzF (qzT 7)),qzS 50 (.call 57 false [((qzT 48),none),((qzT 49),none)]),qzS 51 (.iaddrs qzF (qzT 46) (qzT 47)),qzN (.store qzF (qzT 51) (qzT 50))]))) (.rgn [qzS 52 (.bin .add (qzT 41) (qzI 1)),qzS 41 (.mv (qzT 52))]))))))) (.seq (.rgn [qzS 53 (.mv (qzT 9)),qzS 2 (.mv (qzT 53)),qzS 3 (.mv (qzI 0))]) .ret)))))))))
theorem Zrr:f100.body.bind (Zd TT 90) = some Zmj:=by kernel_rfl
theorem Zwj (h:pwp prog Zmj (retQ [.tmp 2,.tmp 3] own K) (stIn 54 args own)):PSpec prog 100 args own K:=spec func100 Zrr (by kernel_rfl) (by kernel_rfl) h
def Zdv:Pc:=(.seq (.rgn [qzS 2 (.mv (qzI 0))]) (.seq (.seq (.rgn [qzS 3 (.mv (qzI 0))]) (.block 0 (.loop (.seq (.seq (.rgn [qzS 4 (.mv (qzT 3)),qzS 5 (.bin .leq (qzT 4) (qzI 9))]) (.cond (qzT 5) .skip (.exit 0))) (.seq (.block 1 (.seq (.rgn [qzS 8 (.mv (qzT 0)),qzS 9 (.mv (qzT 3)),qzS 10 (.bin .shl (qzI 1) (qzT 9)),qzS 11 (.bin .eql (qzT 8) (qzT 10))]) (.cond (qzT 11) (.seq (.rgn [qzS 12 (.mv (qzT 3)),qzS 2 (.mv (qzT 12))]) .ret) .skip))) (.rgn [qzS 6 (.mv (qzT 3)),qzS 7 (.bin .add (qzT 6) (qzI 1)),qzS 3 (.mv (qzT 7))])))))) (.seq (.rgn [qzS 2 (.mv (qzI (-1)))]) .ret)))
theorem Zii:f123.body.bind (Zd TT 90) = some Zdv:=by kernel_rfl
theorem Zle (h:pwp prog Zdv (retQ [.tmp 2] own K) (stIn 13 args own)):PSpec prog 123 args own K:=spec func123 Zii (by kernel_rfl) (by kernel_rfl) h
def Zef:Pc:=(.seq (.rgn [qzS 2 (.nil 28 qzF),qzS 3 (.mv (qzI 0))]) (.seq (.rgn [qzS 10 (.mv (qzT 0)),qzS 11 (.len (qzT 10)),qzS 12 (.call 123 false [((qzT 11),none)]),qzS 4 (.mv (qzT 12))]) (.seq (.seq (.rgn [qzS 13 (.mv (qzT 4)),qzS 14 (.bin .lss (qzT 13) (qzI 0))]) (.cond (qzT 14) (.seq (.rgn [qzS 2 (.nil 28 qzF),qzS 3 (.mv (qzI 1))]) .ret) .skip)) (.seq (.rgn [qzS 16 (.mv (qzT 4)),qzS 17 (.call 58 false [((qzT 16),none)]),qzS 15 (.mv (qzT 17)),qzS 18 (.ext (qzT 15) 0),qzS 19 (.ext (qzT 15) 1),qzS 5 (.alloc qzF qzZ),qzN (.store qzF (qzT 5) (qzT 18)),qzS 6 (.mv (qzT 19))]) (.seq (.rgn [qzS 7 (.nil 28 qzF)]) (.seq (.rgn [qzS 20 (.call 37 false [((.cst (.val (.int .u64 1))),none)]),qzS 8 (.alloc qzF qzZ),qzN (.store qzF (qzT 8) (qzT 20))]) (.seq (.seq (.rgn [qzS 9 (.mv (qzI 0))]) (.block 0 (.loop (.seq (.seq (.rgn [qzS 21 (.mv (qzT 9)),qzS 22 (.mv (qzT 0)),qzS 23 (.len (qzT 22)),qzS 24 (.bin .lss (qzT 21) (qzT 23))]) (.cond (qzT 24) .skip (.exit 0))) (.seq (.block 1 (.seq (.rgn [qzS 27 (.mv (qzT 7)),qzS 28 (.mv (qzT 0)),qzS 29 (.load qzF (qzT 8)),qzS 30 (.call 16 false [((qzT 28),(some qzF)),((qzT 29),none)]),qzS 31 (.bsl 28 qzF qzZ 1 [(0,(qzT 30))]),qzS 32 (.app 28 qzF 32 (qzT 27) (qzT 31)),qzS 7 (.mv (qzT 32))]) (.rgn [qzS 33 (.load qzF (qzT 8)),qzS 34 (.load qzF (qzT 5)),qzS 35 (.call 41 false [((qzT 33),none),((qzT 34),none)]),qzN (.store qzF (qzT 8) (qzT 35))]))) (.rgn [qzS 25 (.mv (qzT 9)),qzS 26 (.bin .add (qzT 25) (qzI 1)),qzS 9 (.mv (qzT 26))])))))) (.seq (.rgn [qzS 36 (.mv (qzT 7)),qzS 2 (.mv (qzT 36)),qzS 3 (.mv (qzI 0))]) .ret))))))))
theorem Zjh:f113.body.bind (Zd TT 90) = some Zef:=by kernel_rfl
theorem Zl5 (h:pwp prog Zef (retQ [.tmp 2,.tmp 3] own K) (stIn 37 args own)):PSpec prog 113 args own K:=spec func113 Zjh (by kernel_rfl) (by kernel_rfl) h
def Zc3:Pc:=(.seq (.rgn [qzS 2 (.nil 28 qzF),qzS 3 (.mv (qzI 0))]) (.seq (.rgn [qzS 12 (.mv (qzT 0)),qzS 13 (.call 113 false [((qzT 12),(some qzF))]),qzS 11 (.mv (qzT 13)),qzS 14 (.ext (qzT 11) 0),qzS 15 (.ext (qzT 11) 1),qzS 4 (.mv (qzT 14)),qzS 5 (.mv (qzT 15))]) (.seq (.seq (.rgn [qzS 16 (.mv (qzT 5)),qzS 17 (.bin .neq (qzT 16) (qzI 0))]) (.cond (qzT 17) (.seq (.rgn [qzS 18 (.mv (qzT 5)),qzS 2 (.nil 28 qzF),qzS 3 (.mv (qzT 18))]) .ret) .skip)) (.seq (.rgn [qzS 19 (.mv (qzT 0)),qzS 20 (.len (qzT 19)),qzS 6 (.mv (qzT 20))]) (.seq (.rgn [qzS 22 (.mv (qzT 6)),qzS 23 (.cvi .u64 (qzT 22)),qzS 24 (.call 37 false [((qzT 23),none)]),qzS 25 (.call 109 false [((qzT 24),none)]),qzS 21 (.mv (qzT 25)),qzS 26 (.ext (qzT 21) 0),qzS 27 (.ext (qzT 21) 1),qzS 7 (.alloc qzF qzZ),qzN (.store qzF (qzT 7) (qzT 26)),qzS 8 (.mv (qzT 27))]) (.seq (.rgn [qzS 28 (.mv (qzT 6)),qzS 29 (.mksl 28 qzF 32 qzZ (qzT 28) (qzT 28)),qzS 9 (.mv (qzT 29))]) (.seq (.seq (.rgn [qzS 10 (.mv (qzI 0))]) (.block 0 (.loop (.seq (.seq (.rgn [qzS 30 (.mv (qzT 10)),qzS 31 (.mv (qzT 6)),qzS 32 (.bin .lss (qzT 30) (qzT 31))]) (.cond (qzT 32) .skip (.exit 0))) (.seq (.block 1 (.drgn 14 [⟨0,.no,qzS 35 (.mv (qzT 9))⟩,⟨1,.no,qzS 36 (.mv (qzT 10))⟩,⟨2,.no,qzS 37 (.mv (qzT 4))⟩,⟨3,.no,qzS 38 (.mv (qzT 6))⟩,⟨4,.no,qzS 39 (.mv (qzT 10))⟩,⟨5,.no,qzS 40 (.bin .sub (qzT 38) (qzT 39))⟩,⟨6,.no,qzS 41 (.mv (qzT 6))⟩,⟨7,.no,qzS 42 (.bin .rem (qzT 40) (qzT 41))⟩,⟨8,.no,qzS 43 (.iaddrs qzF (qzT 37) (qzT 42))⟩,⟨9,.no,qzS 44 (.load qzF (qzT 43))⟩,⟨10,.no,qzS 45 (.load qzF (qzT 7))⟩,⟨11,.no,qzS 46 (.call 41 false [((qzT 44),none),((qzT 45),none)])⟩,⟨12,.no,qzS 47 (.iaddrs qzF (qzT 35) (qzT 36))⟩,⟨13,.no,qzN (.store qzF (qzT 47) (qzT 46))⟩])) (.rgn [qzS 33 (.mv (qzT 10)),qzS 34 (.bin .add (qzT 33) (qzI 1)),qzS 10 (.mv (qzT 34))])))))) (.seq (.rgn [qzS 48 (.mv (qzT 9)),qzS 2 (.mv (qzT 48)),qzS 3 (.mv (qzI 0))]) .ret))))))))
theorem Zg8:f83.body.bind (Zd TT 90) = some Zc3:=by kernel_rfl
theorem Zju (h:pwp prog Zc3 (retQ [.tmp 2,.tmp 3] own K) (stIn 49 args own)):PSpec prog 83 args own K:=spec func83 Zg8 (by kernel_rfl) (by kernel_rfl) h
end Go.Proofs.Tryz.PMT

namespace Go.Proofs.PL
theorem Z5r (a b:List F) (k:Nat):∀ d,sm (a.length + d) (tm a b k) = (conv a b).getD k 0
 | 0=>(Zgf a b k).symm
 | d + 1=>by
  rw [show a.length + (d + 1) = (a.length + d) + 1 by omega,sm,Z5r a b k d]
  have e:tm a b k (a.length + d) = 0:=by
   simp only [tm]
   rw [Zd0 (l:=a) (by omega),Zsk]
   split <;> rfl
  rw [e,Zq0]
theorem Z0u {a:List F} (b:List F) (k:Nat) {M:Nat} (h:a.length ≤ M):sm M (tm a b k) = (conv a b).getD k 0:=by
 obtain ⟨d,rfl⟩:=Nat.exists_eq_add_of_le h
 exact Z5r a b k d
theorem Z2m {a s:List F} (c:List F) (k:Nat) (h:∀ k,s.getD k 0 = a.getD k 0):(conv s c).getD k 0 = (conv a c).getD k 0:=by
 rw [← Z0u c k (show s.length ≤ s.length + a.length by omega),← Z0u c k (show a.length ≤ s.length + a.length by omega)]
 exact Zcs _ fun i _=>by simp only [tm,h]
theorem Zoa {x:F} (h:x ≠ 0):x * inv x = 1:=by
 have e:(52435875175126190479447740508185965837690552500527637822603658699938581184511:Nat) = N1 - 1:=by decide +kernel
 rw [inv,e]
 exact Z16 x h
theorem dv_cut (a b:List F):cut (dv a b).1 = (dv a b).1 ∧ cut (dv a b).2.1 = (dv a b).2.1:=by
 rw [dv]
 split
 ·exact ⟨rfl,rfl⟩
 ·exact ⟨Zxg _,Zxg _⟩
end Go.Proofs.PL
