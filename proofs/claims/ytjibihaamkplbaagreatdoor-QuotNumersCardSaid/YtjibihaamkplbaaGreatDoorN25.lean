/- Contracts of quot.long, quot's gates. No conditions beyond what each names. -/
import Derived.Test.YtjibihaamkplbaaGreatDoorN24
import Derived.Test.YtjibihaamkplbaaGreatDoorN16
import Derived.Test.YtjibihaamkplbaaGreatDoorN17
import Derived.Test.YtjibihaamkplbaaGreatDoorN19
import Derived.Test.YtjibihaamkplbaaGreatDoorN20
import Derived.Test.YtjibihaamkplbaaGreatDoorN21
set_option linter.all false
namespace Go.Proofs.Tryz.PMT
open Go Go.Proofs.PM Go.Proofs.PL Go.Proofs.Tryz
variable {K:PV→List Ob→Prop}
set_option maxRecDepth 4000
set_option maxHeartbeats 4000000 in
theorem Zw4 {a b c:List F} {x y z:Bool} {m:Nat} (ha:a.length ≤ 100) (hb:b.length ≤ 100) (hc:c.length ≤ 100) (h1:(cut a).length > m ∨ (cut b).length > m ∨ (cut c).length > m→K (bo true) []) (h0:(cut a).length ≤ m→(cut b).length ≤ m→(cut c).length ≤ m→K (bo false) []) :
  PSpec prog 92 [.agg [vF x a,vF y b,vF z c],i64 m] [] K:=by
 refine Zun ?_
 simp only [qzS,qzN,qzG,qzT,qzI,qzF,qzZ,Zjx,vF]
 simp -implicitDefEqProofs only [go_sem,Nat.reduceAdd,Nat.reduceSub]
 refine Zl 4 ?_
 simp -implicitDefEqProofs only [go_sem,Nat.reduceAdd,Nat.reduceLT,Int.reduceLT,Int.reduceLE]
 refine Zba (by omega) ?_
 simp -implicitDefEqProofs only [go_sem,Nat.reduceAdd,Nat.reduceEqDiff,Nat.reduceLeDiff]
 by_cases e1:((cut a).length:Int) > m
 ·simp -implicitDefEqProofs only [go_sem,e1,decide_true]
  exact Zb rfl (h1 (.inl (by omega)))
 simp -implicitDefEqProofs only [go_sem,Nat.reduceAdd,Nat.reduceLT,Int.reduceToNat,Int.reduceLT,Int.reduceLE,Int.reduceAdd,Int.reduceNeg,e1,decide_false]
 refine Zba (by omega) ?_
 simp -implicitDefEqProofs only [go_sem,Nat.reduceAdd,Nat.reduceEqDiff,Nat.reduceLeDiff]
 by_cases e2:((cut b).length:Int) > m
 ·simp -implicitDefEqProofs only [go_sem,e2,decide_true]
  exact Zb rfl (h1 (.inr (.inl (by omega))))
 simp -implicitDefEqProofs only [go_sem,Nat.reduceAdd,Nat.reduceLT,Int.reduceToNat,Int.reduceLT,Int.reduceLE,Int.reduceAdd,Int.reduceNeg,e2,decide_false]
 refine Zba (by omega) ?_
 simp -implicitDefEqProofs only [go_sem,Nat.reduceAdd,Nat.reduceEqDiff,Nat.reduceLeDiff]
 by_cases e3:((cut c).length:Int) > m
 ·simp -implicitDefEqProofs only [go_sem,e3,decide_true]
  exact Zb rfl (h1 (.inr (.inr (by omega))))
 simp -implicitDefEqProofs only [go_sem,Int.reduceLT,Int.reduceLE,Int.reduceAdd,Int.reduceNeg,e3,decide_false]
 exact Zb rfl (h0 (by omega) (by omega) (by omega))
end Go.Proofs.Tryz.PMT

namespace Go.Proofs.Tryz.PMT
open Go Go.Proofs.PM Go.Proofs.PL Go.Proofs.Tryz
set_option maxRecDepth 4000

theorem arm (y:F):y * (0 - 1) = 0 - y:=by
 have h:∀ z o:F,y * (z - o) = y * z - y * o:=by intro z o; grind
 have h0:y * 0 = 0:=by grind
 have h1:y * 1 = y:=by grind
 rw [h,h0,h1]
end Go.Proofs.Tryz.PMT

namespace Go.Proofs.Tryz.PMT
open Go Go.Proofs.PM Go.Proofs.PL Go.Proofs.Tryz
variable {K:PV→List Ob→Prop}
set_option maxRecDepth 4000

theorem Z1p (b:List F) (i:Nat):(cut (bth (fun x _=>x * (0 - 1)) b [])).getD i 0 = 0 - b.getD i 0:=by
 rw [Zej,Zxm (fun x _=>x * (0 - 1)) (Zsk _),arm]
theorem sub_as (a b:List F):cut (bth (fun x y=>x + y) a (cut (bth (fun x _=>x * (0 - 1)) b []))) = cut (bth (fun x y=>x - y) a b):=by
 refine Zfq fun i=>?_
 rw [Zgw,Z60,Z1p]
 generalize a.getD i 0 = x
 generalize b.getD i 0 = y
 have h:∀ z:F,x + (z - y) = x - y + z:=by intro z; grind
 rw [h,Zq0]

theorem Z11 {a b:List F} (ha:a.length ≤ 1000000) (hb:b.length ≤ 1000000) (hK:K (.osl 0 [] 0 (cut (bth (fun x y=>x - y) a b)).length) [.row 28 (.arr 4 .one) (ffs (cut (bth (fun x y=>x - y) a b)))]):PSpec prog 20 [.vsl false (.arr 4 .one) (ffs a),.vsl false (.arr 4 .one) (ffs b)] [] K:=by
 refine Zlc ?_
 simp only [qzS,qzN,qzG,qzT,qzI,qzF,qzZ,Zdt]
 rw [← sub_as] at hK
 simp -implicitDefEqProofs only [go_sem,Nat.reduceAdd,Nat.reduceSub,Nat.reduceLT]
 refine Zbi (Zs rfl) ?_
 simp -implicitDefEqProofs only [go_sem,Nat.reduceLT,Zew]
 refine Zkj ?_
 simp -implicitDefEqProofs only [go_sem,Nat.reduceLT]
 refine Zqr hb ?_
 have lT:(cut (bth (fun x _=>x * (0 - 1)) b [])).length ≤ 1000000:=Nat.le_trans (Zbr _) (by rw [Zms]; simp only [List.length_nil]; omega)
 generalize cut (bth (fun x _=>x * (0 - 1)) b []) = T at *
 simp -implicitDefEqProofs only [go_sem,Nat.reduceAdd,Nat.reduceEqDiff,Nat.reduceLT,Nat.reduceLeDiff,List.take_length]
 refine Zqs ha lT ?_
 generalize cut (bth (fun x y=>x + y) a T) = R at *
 simp -implicitDefEqProofs only [go_sem,Nat.reduceAdd,Nat.reduceEqDiff,Nat.reduceLeDiff]
 refine Zt [(2,0)] [.row 28 (.arr 4 .one) (ffs R)] [.osl 0 [] 0 R.length] rfl rfl ?_ ?_ hK
 ·simp -implicitDefEqProofs only [go_sem,Nat.reduceEqDiff,Nat.reduceLT]
 ·simp -implicitDefEqProofs only [go_sem]

theorem Zw3 {a:List F} {z:F} (ha:a.length ≤ 1000000) (hK:K (.osl 0 [] 0 (cut (PL.tab a.length fun i=>a.getD i 0 * z ^ i)).length) [.row 28 (.arr 4 .one) (ffs (cut (PL.tab a.length fun i=>a.getD i 0 * z ^ i)))]):PSpec prog 68 [.vsl false (.arr 4 .one) (ffs a),ff z] [] K:=by
 refine Zi4 ?_
 simp only [qzS,qzN,qzG,qzT,qzI,qzF,qzZ,Zcm]
 obtain ⟨r,hr⟩:∃ r:Nat→F,(fun i=>a.getD i 0 * z ^ i) = r:=⟨_,rfl⟩
 rw [hr] at hK
 obtain ⟨p,hp⟩:∃ p:Nat→F,(fun i=>z ^ i) = p:=⟨_,rfl⟩
 have p0:p 0 = 1:=by rw [← hp]; exact Zbs z
 have ps:∀ i,p i * z = p (i + 1):=fun i=>by rw [← hp]; exact (Zbf z i).symm
 have hri:∀ i,a.getD i 0 * p i = r i:=fun i=>by rw [← hr,← hp]
 clear hr hp
 simp -implicitDefEqProofs only [go_sem,Nat.reduceAdd,Nat.reduceSub,Nat.reduceEqDiff,Nat.reduceLT]
 refine Zbi (Zs rfl) ?_
 simp -implicitDefEqProofs only [go_sem,Nat.reduceAdd,Nat.reduceEqDiff,Zew]
 refine Zv (ι:={ i:Nat // i ≤ a.length }) [4,5,7,9,10,11,12,13,14,15,16,17,18,19,20,21,22,23,24,25,26] (fun i=>[(5,.osl 2 [] 0 i.1),(7,i64 i.1)])
  (fun i=>[(0,.ob (.var (.arr 4 .one) (ff z))),(2,.ob (.row 28 (.arr 4 .one) (ffs (PL.tab i.1 r)))),(3,.ob (.var (.arr 4 .one) (ff (p i.1))))]) 4 (fun i=>a.length - i.1) ⟨0,Nat.zero_le _⟩ ?_ ?_
 ·rw [Zg]
  refine Zc [(0,0),(2,2),(3,3)] rfl rfl rfl ?_ ?_
  ·simp -implicitDefEqProofs only [go_sem,Nat.reduceEqDiff,Nat.reduceLT,ob_eq,Ob.row.injEq,PL.tab,p0]
   try rfl
  ·simp -implicitDefEqProofs only [go_sem,Nat.reduceEqDiff]
 intro ⟨i,hi⟩ G hG
 have tl:=PL.tab_len i r
 simp -implicitDefEqProofs only [go_sem]
 refine Zi (fun h=>?_) (fun h=>?_)
 ·simp only [decide_eq_true_eq] at h
  have hii:i < a.length:=by omega
  have w3:IntKind.i64.wrap ((i:Int) + 1) = ((i + 1:Nat):Int):=by rw [wrs (by omega) (by omega)]; omega
  simp -implicitDefEqProofs only [go_sem,Nat.reduceAdd,Nat.reduceMul,Nat.reduceEqDiff,Nat.reduceLT,h,Zy hii]
  refine Zbh ?_
  simp -implicitDefEqProofs only [go_sem,Nat.reduceAdd,Nat.reduceMul,Nat.reduceEqDiff,Nat.reduceLT,Nat.reduceLeDiff,tl,take1,len1,has1,true_and]
  repeat (with_reducible refine And.intro (by first | omega | decide) ?_)
  refine Zbh ?_
  simp -implicitDefEqProofs only [go_sem,Nat.reduceEqDiff,w3,ps]
  refine hG _ ⟨i + 1,by omega⟩ (by simp only; omega) ?_
  rw [Zg]
  refine Zc [(0,0),(132,2),(3,3)] rfl rfl rfl ?_ ?_
  ·simp -implicitDefEqProofs only [go_sem,Nat.reduceEqDiff,Nat.reduceLT,← Zt7,hri]
  ·simp -implicitDefEqProofs only [go_sem,Nat.reduceEqDiff]
 simp only [decide_eq_false_iff_not] at h
 obtain rfl:i = a.length:=by omega
 clear hG
 have tk:(PL.tab a.length r).take a.length = PL.tab a.length r:=List.take_of_length_le (by omega)
 simp -implicitDefEqProofs only [go_sem,Nat.reduceEqDiff,Nat.reduceLT,tk]
 refine Zbd (by omega) ?_
 generalize cut (PL.tab a.length r) = R at *
 simp -implicitDefEqProofs only [go_sem,Nat.reduceAdd,Nat.reduceEqDiff,Nat.reduceLeDiff]
 refine Zt [(4,0)] [.row 28 (.arr 4 .one) (ffs R)] [.osl 0 [] 0 R.length] rfl rfl ?_ ?_ hK
 ·simp -implicitDefEqProofs only [go_sem,Nat.reduceEqDiff,Nat.reduceLT]
 ·simp -implicitDefEqProofs only [go_sem]
end Go.Proofs.Tryz.PMT

namespace Go.Proofs.PL
def adc (a b:List F):List F:=cut (bth (fun x y=>x + y) a b)
def sbc (a b:List F):List F:=cut (bth (fun x y=>x - y) a b)
def scc (a:List F) (k:F):List F:=cut (bth (fun x _=>x * k) a [])
def shf (z:F) (a:List F):List F:=cut (shS z (cut a) (cut a).length).1
theorem Zi0 (a b:List F):(adc a b).length ≤ max a.length b.length:=Nat.le_trans (Zbr _) (Nat.le_of_eq (Zms ..))
theorem Zm2 (a b:List F):(sbc a b).length ≤ max a.length b.length:=Nat.le_trans (Zbr _) (Nat.le_of_eq (Zms ..))
theorem Zgz (a:List F) (k:F):(scc a k).length ≤ a.length:=Nat.le_trans (Zbr _) (by rw [Zms]; simp)
theorem Zrz (z:F) (a:List F):(shf z a).length ≤ a.length:=Nat.le_trans (Zbr _) (by rw [Zta]; exact Zbr a)
theorem Zxq (a b:List F) (k:Nat):(adc a b).getD k 0 = a.getD k 0 + b.getD k 0:=by rw [adc,Zej,Zgw]
theorem Z68 (a:List F) (z:F):cut (tab a.length fun i=>a.getD i 0 * z ^ i) = shf z a:=by
 refine Zfq fun j=>?_
 have h0:=Zej a j
 rw [Zb6,Zwl z (cut a) _ (Nat.le_refl _),Zej]
 have hl:=Zbr a
 by_cases h1:j < (cut a).length
 ·rw [if_pos h1,if_pos (by omega)]
 ·rw [if_neg h1]
  rw [Zd0 (l:=cut a) (by omega)] at h0
  rw [← h0,Zsk]
  split <;> rfl
def gtL (z:F) (a b c:List F):Nat→List F
 | 0=>pm a b
 | 1=>a
 | 2=>b
 | 3=>c
 | 4=>[1]
 | 5=>sbc (pm a a) a
 | 6=>sbc (pm (pm (pm a a) (pm a a)) a) c
 | 7=>sbc (adc a b) (shf z a)
 | _=>[]
def gtS (z:F) (q:Nat→List F) (a b c p:List F):Nat→List F
 | 0=>cut p
 | i + 1=>adc (gtS z q a b c p i) (pm (q i) (gtL z a b c i))
theorem Zp3 {a b:List F} {n m:Nat} (ha:a.length ≤ n) (hb:b.length ≤ m):(pm a b).length ≤ n + m:=by
 have:=pm_le a b
 omega
theorem Zvs {z:F} {a b c:List F} {m:Nat} (ha:a.length ≤ m) (hb:b.length ≤ m) (hc:c.length ≤ m) (i:Nat):(gtL z a b c i).length ≤ 5 * m + 1:=by
 have h2:=Zp3 ha ha
 have h4:=Zp3 h2 h2
 have h5:=Zp3 h4 ha
 match i with
 | 0=>exact Nat.le_trans (Zp3 ha hb) (by omega)
 | 1=>show a.length ≤ _; omega
 | 2=>show b.length ≤ _; omega
 | 3=>show c.length ≤ _; omega
 | 4=>show 1 ≤ _; omega
 | 5=>exact Nat.le_trans (Zm2 ..) (by omega)
 | 6=>exact Nat.le_trans (Zm2 ..) (by omega)
 | 7 =>
  have h1:=Zi0 a b
  have h3:=Zrz z a
  exact Nat.le_trans (Zm2 ..) (by omega)
 | i + 8=>exact Nat.zero_le _
theorem Zsh {z:F} {q:Nat→List F} {a b c p:List F} {m k:Nat} (ha:a.length ≤ m) (hb:b.length ≤ m) (hc:c.length ≤ m) (hp:p.length ≤ k) (hq:∀ i,(q i).length ≤ k):∀ i,(gtS z q a b c p i).length ≤ k + (5 * m + 1)
 | 0=>Nat.le_trans (Zbr _) (by omega)
 | i + 1=>by
  have h1:=Zsh (z:=z) ha hb hc hp hq i
  have h2:=Zp3 (hq i) (Zvs (z:=z) ha hb hc i)
  exact Nat.le_trans (Zi0 ..) (by omega)
end Go.Proofs.PL

namespace Go.Proofs.Tryz.PMT
open Go Go.Proofs.PM Go.Proofs.PL Go.Proofs.Tryz
variable {K:PV→List Ob→Prop}
set_option maxRecDepth 4000
theorem Zkl {a b:List F} (ha:a.length ≤ 1000000) (hb:b.length ≤ 1000000) (hK:K (.osl 0 [] 0 (adc a b).length) [.row 28 (.arr 4 .one) (ffs (adc a b))]):PSpec prog 97 [.vsl false (.arr 4 .one) (ffs a),.vsl false (.arr 4 .one) (ffs b)] [] K:=Zsf ha hb hK
theorem Zhf {a b:List F} (ha:a.length ≤ 1000000) (hb:b.length ≤ 1000000) (hK:K (.osl 0 [] 0 (sbc a b).length) [.row 28 (.arr 4 .one) (ffs (sbc a b))]):PSpec prog 56 [.vsl false (.arr 4 .one) (ffs a),.vsl false (.arr 4 .one) (ffs b)] [] K:=Zzx ha hb hK
theorem Zhe {a:List F} {k:F} (ha:a.length ≤ 1000000) (hK:K (.osl 0 [] 0 (scc a k).length) [.row 28 (.arr 4 .one) (ffs (scc a k))]):PSpec prog 53 [.vsl false (.arr 4 .one) (ffs a),ff k] [] K:=Zvk ha hK
theorem Zse {l:List F} {z:F} (hl:l.length ≤ 1000000) (hK:K (.osl 0 [] 0 (shf z l).length) [.row 28 (.arr 4 .one) (ffs (shf z l))]):PSpec prog 49 [.vsl false (.arr 4 .one) (ffs l),ff z] [] K:=Zvj hl hK
theorem Zfi {a b:List F} (ha:a.length ≤ 1000000) (hb:b.length ≤ 1000000) (hK:K (.osl 0 [] 0 (adc a b).length) [.row 28 (.arr 4 .one) (ffs (adc a b))]):PSpec prog 17 [.vsl false (.arr 4 .one) (ffs a),.vsl false (.arr 4 .one) (ffs b)] [] K:=Zqs ha hb hK
theorem Zj7 {a b:List F} (ha:a.length ≤ 1000000) (hb:b.length ≤ 1000000) (hK:K (.osl 0 [] 0 (sbc a b).length) [.row 28 (.arr 4 .one) (ffs (sbc a b))]):PSpec prog 20 [.vsl false (.arr 4 .one) (ffs a),.vsl false (.arr 4 .one) (ffs b)] [] K:=Z11 ha hb hK
theorem Zj6 {a:List F} {k:F} (ha:a.length ≤ 1000000) (hK:K (.osl 0 [] 0 (scc a k).length) [.row 28 (.arr 4 .one) (ffs (scc a k))]):PSpec prog 66 [.vsl false (.arr 4 .one) (ffs a),ff k] [] K:=Zqr ha hK
theorem Zvf {l:List F} {z:F} (hl:l.length ≤ 1000000) (hK:K (.osl 0 [] 0 (shf z l).length) [.row 28 (.arr 4 .one) (ffs (shf z l))]):PSpec prog 68 [.vsl false (.arr 4 .one) (ffs l),ff z] [] K:=by
 refine Zw3 hl ?_
 rw [Z68]; exact hK
theorem Zcb {a b:List F} (ha:a.length ≤ 1000000) (hb:b.length ≤ 1000000) (hK:K (.osl 0 [] 0 (pm a b).length) [.row 28 (.arr 4 .one) (ffs (pm a b))]):PSpec prog 18 [.vsl false (.arr 4 .one) (ffs a),.vsl false (.arr 4 .one) (ffs b)] [] K:=by
 refine Z12 ha hb ?_
 rw [r12_pm]; exact hK
theorem Zen (z:F) (q:Nat→List F) (a b c p:List F) (i:Nat) (h1:(gtS z q a b c p i).length ≤ 1000000) (h2:(pm (q i) (gtL z a b c i)).length ≤ 1000000) (hK:K (.osl 0 [] 0 (gtS z q a b c p (i + 1)).length) [.row 28 (.arr 4 .one) (ffs (gtS z q a b c p (i + 1)))]) :
  PSpec prog 97 [.vsl false (.arr 4 .one) (ffs (gtS z q a b c p i)),.vsl false (.arr 4 .one) (ffs (pm (q i) (gtL z a b c i)))] [] K:=Zsf h1 h2 hK
theorem Zc6 (z:F) (q:Nat→List F) (a b c p:List F) (i:Nat) (h1:(gtS z q a b c p i).length ≤ 1000000) (h2:(pm (q i) (gtL z a b c i)).length ≤ 1000000) (hK:K (.osl 0 [] 0 (gtS z q a b c p (i + 1)).length) [.row 28 (.arr 4 .one) (ffs (gtS z q a b c p (i + 1)))]) :
  PSpec prog 17 [.vsl false (.arr 4 .one) (ffs (gtS z q a b c p i)),.vsl false (.arr 4 .one) (ffs (pm (q i) (gtL z a b c i)))] [] K:=Zqs h1 h2 hK
end Go.Proofs.Tryz.PMT

namespace Go.Proofs.PM
open Go Go.Proofs.PL
theorem Zuc {ρ:Nat→Option Nat} {os:Nat→Option Ob} {j m:Nat} {e':TypeId} {l:List F} (hj:ρ j = none) (h3:os j = some (.row e' (.arr 4 .one) (ffs l))) (hm:m = l.length):cnv ρ false os 2 (.osl j [] 0 m) = .vsl false (.arr 4 .one) (ffs l):=by
 have e1:(Ob.row e' (.arr 4 .one) (ffs l)).sh.offs [] = some (0,.arr (ffs l).length (.arr 4 .one)):=rfl
 have e2:(Ob.row e' (.arr 4 .one) (ffs l)).con.get [] = some (.agg (ffs l)):=rfl
 show cnvW ρ false os (cnv ρ false os 1) (.osl j [] 0 m) = _
 simp only [cnvW,hj,h3,e1,e2,List.drop_zero,Zbl,hm,List.take_length]
 rw [Zis fun p hp=>Zbk (plainL_iff.1 Zx p hp)]
theorem Zpm {ρ:Nat→Option Nat} {os:Nat→Option Ob} {l:List F}:cnv ρ false os 2 (.vsl false (.arr 4 .one) (ffs l)) = .vsl false (.arr 4 .one) (ffs l):=by
 show cnvW ρ false os (cnv ρ false os 1) _ = _
 rw [Zk,Ze Zx]; rfl
theorem Z45 {ρ:Nat→Option Nat} {os:Nat→Cel} {id j m:Nat} {e e':TypeId} {a l:List F} (h1:ρ id = none) (hj:ρ j = none) (h2:os id = .ob (.row e .one [.osl j [] 0 m,.osl j [] 0 m,.vsl false (.arr 4 .one) (ffs a)])) (h3:os j = .ob (.row e' (.arr 4 .one) (ffs l))) (hm:m = l.length) :
  cnv ρ false (fun i=>(os i).get) 3 (.osl id [] 0 3) = .vsl false .one [.vsl false (.arr 4 .one) (ffs l),.vsl false (.arr 4 .one) (ffs l),.vsl false (.arr 4 .one) (ffs a)]:=by
 have g2:(os id).get = some (.row e .one [.osl j [] 0 m,.osl j [] 0 m,.vsl false (.arr 4 .one) (ffs a)]):=by rw [h2]; rfl
 have g3:(fun i=>(os i).get) j = some (.row e' (.arr 4 .one) (ffs l)):=by show (os j).get = _; rw [h3]; rfl
 have e1:(Ob.row e .one [.osl j [] 0 m,.osl j [] 0 m,.vsl false (.arr 4 .one) (ffs a)]).sh.offs [] = some (0,.arr 3 .one):=rfl
 have e2:(Ob.row e .one [.osl j [] 0 m,.osl j [] 0 m,.vsl false (.arr 4 .one) (ffs a)]).con.get [] = some (.agg [.osl j [] 0 m,.osl j [] 0 m,.vsl false (.arr 4 .one) (ffs a)]):=rfl
 show cnvW ρ false (fun i=>(os i).get) (cnv ρ false (fun i=>(os i).get) 2) (.osl id [] 0 3) = _
 simp only [cnvW,h1,g2,e1,e2,List.drop_zero,List.take_succ_cons,List.take_nil,List.map_cons,List.map_nil,Zuc (os:=fun i=>(os i).get) hj g3 hm,Zpm]
theorem Zkp {ρ:Nat→Option Nat} {os:Nat→Cel} {id j m:Nat} {e e':TypeId} {a l:List F} (h1:ρ id = none) (hj:ρ j = none) (h2:os id = .ob (.row e .one [.vsl false (.arr 4 .one) (ffs a),.osl j [] 0 m])) (h3:os j = .ob (.row e' (.arr 4 .one) (ffs l))) (hm:m = l.length) :
  cnv ρ false (fun i=>(os i).get) 3 (.osl id [] 0 2) = .vsl false .one [.vsl false (.arr 4 .one) (ffs a),.vsl false (.arr 4 .one) (ffs l)]:=by
 have g2:(os id).get = some (.row e .one [.vsl false (.arr 4 .one) (ffs a),.osl j [] 0 m]):=by rw [h2]; rfl
 have g3:(fun i=>(os i).get) j = some (.row e' (.arr 4 .one) (ffs l)):=by show (os j).get = _; rw [h3]; rfl
 have e1:(Ob.row e .one [.vsl false (.arr 4 .one) (ffs a),.osl j [] 0 m]).sh.offs [] = some (0,.arr 2 .one):=rfl
 have e2:(Ob.row e .one [.vsl false (.arr 4 .one) (ffs a),.osl j [] 0 m]).con.get [] = some (.agg [.vsl false (.arr 4 .one) (ffs a),.osl j [] 0 m]):=rfl
 show cnvW ρ false (fun i=>(os i).get) (cnv ρ false (fun i=>(os i).get) 2) (.osl id [] 0 2) = _
 simp only [cnvW,h1,g2,e1,e2,List.drop_zero,List.take_succ_cons,List.take_nil,List.map_cons,List.map_nil,Zuc (os:=fun i=>(os i).get) hj g3 hm,Zpm]
theorem Zxh {ρ:Nat→Option Nat} {os:Nat→Cel} {id:Nat} {e:TypeId} {a l:List F} (h1:ρ id = none) (h2:os id = .ob (.row e .one [.vsl false (.arr 4 .one) (ffs a),.vsl false (.arr 4 .one) (ffs l)])) :
  cnv ρ false (fun i=>(os i).get) 3 (.osl id [] 0 2) = .vsl false .one [.vsl false (.arr 4 .one) (ffs a),.vsl false (.arr 4 .one) (ffs l)]:=by
 have g2:(os id).get = some (.row e .one [.vsl false (.arr 4 .one) (ffs a),.vsl false (.arr 4 .one) (ffs l)]):=by rw [h2]; rfl
 have e1:(Ob.row e .one [.vsl false (.arr 4 .one) (ffs a),.vsl false (.arr 4 .one) (ffs l)]).sh.offs [] = some (0,.arr 2 .one):=rfl
 have e2:(Ob.row e .one [.vsl false (.arr 4 .one) (ffs a),.vsl false (.arr 4 .one) (ffs l)]).con.get [] = some (.agg [.vsl false (.arr 4 .one) (ffs a),.vsl false (.arr 4 .one) (ffs l)]):=rfl
 show cnvW ρ false (fun i=>(os i).get) (cnv ρ false (fun i=>(os i).get) 2) (.osl id [] 0 2) = _
 simp only [cnvW,h1,g2,e1,e2,List.drop_zero,List.take_succ_cons,List.take_nil,List.map_cons,List.map_nil,Zpm]
end Go.Proofs.PM

namespace Go.Proofs.Tryz.PMT
open Go Go.Proofs.PM Go.Proofs.PL Go.Proofs.Tryz
variable {K:PV→List Ob→Prop}
set_option maxRecDepth 4000
theorem Z5t {e:TypeId} {a b:List F}:Ob.row e .one [.vsl false (.arr 4 .one) (ffs a),.vsl false (.arr 4 .one) (ffs b)] = .row e .one (lls [(false,a),(false,b)]):=rfl
theorem Zyu {ρ:Nat→Option Nat} {os:Nat→Cel} {id n:Nat} {e:TypeId} {bs:List (Bool × List F)} (h1:ρ id = none) (h2:os id = .ob (.row e .one (lls bs))):cnv ρ false (fun i=>(os i).get) 3 (.osl id [] 0 n) = .vsl false .one (llF (((bs.drop 0).take n).map Prod.snd)):=by
 have h3:(os id).get = some (.row e .one (lls bs)):=by rw [h2]; rfl
 have e1:(Ob.row e .one (lls bs)).sh.offs [] = some (0,.arr (lls bs).length .one):=rfl
 have e2:(Ob.row e .one (lls bs)).con.get [] = some (.agg (lls bs)):=rfl
 show cnvW ρ false (fun i=>(os i).get) (cnv ρ false (fun i=>(os i).get) 2) (.osl id [] 0 n) = _
 simp only [cnvW,h1,h3,e1,e2,Zyp,Zqg]
@[go_sem] theorem kC1_two {os:Nat→Cel} {id nb:Nat} {K:PV→(Nat→Cel)→Nat→Prop} {r:PV} {o o2:Ob}:kC1 os id nb K r [o,o2] = ((r.nf && (o.nf && o2.nf)) = true ∧ K (r.ren (renum [id] nb)) (upd (upd os id (.ob (o.ren (renum [id] nb)))) nb (.ob (o2.ren (renum [id] nb)))) 1):=by
 simp [kC1,Zbe,Zbv]
@[go_sem] theorem renum_1 {id nb:Nat}:renum [id] nb 1 = nb:=rfl
@[go_sem] theorem renum_0 {id nb:Nat}:renum [id] nb 0 = id:=rfl
theorem Zbg:(Ob.var (.cons .one .nil) (.agg [i64 0])).pure = true:=rfl
set_option maxHeartbeats 16000000 in
theorem Zvo {L:Nat} {q s v:Nat→List F} {a b c p:List F} (hL:L ≤ 6) (hq:∀ i,(q i).length ≤ 64) (ha:a.length ≤ 18) (hb:b.length ≤ 18) (hc:c.length ≤ 18) (hp:p.length ≤ 64)
  (hK:K (.osl 1 [] 0 (gtS (rt L) q a b c p 8).length) [.var (.cons .one .nil) (.agg [i64 0]),.row 28 (.arr 4 .one) (ffs (gtS (rt L) q a b c p 8))]) :
  PSpec prog 93 [.ptr 0 [],pA L q s v,.agg [vF false a,vF false b,vF false c],vF false p] [.var (.cons .one .nil) (.agg [i64 0])] K:=by
 have hG:=Zsh (z:=rt L) (q:=q) ha hb hc hp hq
 have hT:=fun i=>Zp3 (hq i) (Zvs (z:=rt L) ha hb hc i)
 have hTl:=fun i=>Zvs (z:=rt L) ha hb hc i
 refine Zmz ?_
 simp only [qzS,qzN,qzG,qzT,qzI,qzF,qzZ,Zep,pA,vF]
 simp -implicitDefEqProofs only [go_sem,Nat.reduceAdd,Nat.reduceSub,Nat.reduceEqDiff,Nat.reduceLT]
 refine Znd (by omega) ?_
 simp -implicitDefEqProofs only [go_sem,Nat.reduceAdd,Nat.reduceMul,Nat.reduceEqDiff,Nat.reduceLT,Int.reduceToNat,Int.reduceLT,Int.reduceLE,Z9,Z8,Z5t,Zbg,true_and,Option.map_none]
 rw [Zyu (e:=23) (bs:=[(false,a),(false,a)]) rfl rfl]
 refine Zbj (a:=a) (b:=a) (x:=false) (y:=false) (by omega) (by omega) ?_
 simp -implicitDefEqProofs only [go_sem,Nat.reduceAdd,Nat.reduceMul,Nat.reduceEqDiff,Nat.reduceLT,Z9,Z8,Z5t,Zbg,true_and,Option.map_none]
 rw [Zyu (e:=23) (bs:=[(false,a),(false,b)]) rfl rfl]
 refine Zbj (a:=a) (b:=b) (x:=false) (y:=false) (by omega) (by omega) ?_
 simp -implicitDefEqProofs only [go_sem,Nat.reduceAdd,Nat.reduceMul,Nat.reduceEqDiff,Nat.reduceLT,true_and]
 refine Zcc (by omega) ?_
 have la2:(pm a a).length ≤ 36:=by have:=pm_le a a; omega
 simp -implicitDefEqProofs only [go_sem,Nat.reduceAdd,Nat.reduceMul,Nat.reduceEqDiff,Nat.reduceLT,of_1,Zgg,Zbl,List.take_length]
 refine Zhf (a:=pm a a) (b:=a) (by omega) (by omega) ?_
 simp -implicitDefEqProofs only [go_sem,Nat.reduceAdd,Nat.reduceMul,Nat.reduceEqDiff,Nat.reduceLT,Nat.reduceLeDiff,Z9,Z8,Zbg,true_and,Option.map_none]
 rw [Z45 (e:=23) (e':=28) (a:=a) (l:=pm a a) rfl rfl rfl rfl rfl]
 refine Zxa (a:=pm a a) (b:=pm a a) (c:=a) (x:=false) (y:=false) (z:=false) (by omega) (by omega) (by omega) ?_
 have la5:(pm (pm (pm a a) (pm a a)) a).length ≤ 90:=by have h1:=pm_le (pm (pm a a) (pm a a)) a; have h2:=pm_le (pm a a) (pm a a); omega
 simp -implicitDefEqProofs only [go_sem,Nat.reduceAdd,Nat.reduceMul,Nat.reduceEqDiff,Nat.reduceLT,List.take_length]
 refine Zhf (b:=c) (by omega) (by omega) ?_
 simp -implicitDefEqProofs only [go_sem,Nat.reduceAdd,Nat.reduceMul,Nat.reduceEqDiff,Nat.reduceLT,Nat.reduceLeDiff]
 refine Zkl (a:=a) (b:=b) (by omega) (by omega) ?_
 simp -implicitDefEqProofs only [go_sem,Nat.reduceAdd,Nat.reduceMul,Nat.reduceEqDiff,Nat.reduceLT,Nat.reduceLeDiff]
 refine Zse (l:=a) (by omega) ?_
 have l1:=Zi0 a b
 have l2:=Zrz (rt L) a
 simp -implicitDefEqProofs only [go_sem,Nat.reduceAdd,Nat.reduceMul,Nat.reduceEqDiff,Nat.reduceLT,Nat.reduceLeDiff,List.take_length]
 refine Zhf (a:=adc a b) (b:=shf (rt L) a) (by omega) (by omega) ?_
 simp -implicitDefEqProofs only [go_sem,Nat.reduceAdd,Nat.reduceMul,Nat.reduceEqDiff,Nat.reduceLT,Nat.reduceLeDiff]
 refine Zba (l:=p) (by omega) ?_
 simp -implicitDefEqProofs only [go_sem,Nat.reduceAdd,Nat.reduceEqDiff,Nat.reduceLeDiff]
 refine Zl 9 ?_
 simp -implicitDefEqProofs only [go_sem,Nat.reduceAdd,Nat.reduceEqDiff,Nat.reduceLT,Int.reduceLT,Int.reduceLE,Z9,Z8,Zbg,true_and,Option.map_none]
 rw [Zkp (e:=23) (e':=28) (a:=q 0) (l:=pm a b) rfl rfl rfl rfl rfl]
 refine Zbj (a:=q 0) (b:=gtL (rt L) a b c 0) (x:=false) (y:=false) (by have:=hq 0; omega) (by have:=hTl 0; omega) ?_
 simp -implicitDefEqProofs only [go_sem,Nat.reduceAdd,Nat.reduceEqDiff,Nat.reduceLT,List.take_length]
 refine Zen (rt L) q a b c p 0 (by have:=hG 0; omega) (by have:=hT 0; omega) ?_
 simp -implicitDefEqProofs only [go_sem,Nat.reduceAdd,Nat.reduceEqDiff,Nat.reduceLT,Nat.reduceLeDiff,Int.reduceToNat,Int.reduceLT,Int.reduceLE,Int.reduceAdd,Int.reduceNeg,Z9,Z8,Zbg,true_and,Option.map_none]
 rw [Zxh (e:=23) (a:=q 1) (l:=a) rfl rfl]
 refine Zbj (a:=q 1) (b:=gtL (rt L) a b c 1) (x:=false) (y:=false) (by have:=hq 1; omega) (by have:=hTl 1; omega) ?_
 simp -implicitDefEqProofs only [go_sem,Nat.reduceAdd,Nat.reduceEqDiff,Nat.reduceLT,List.take_length]
 refine Zen (rt L) q a b c p 1 (by have:=hG 1; omega) (by have:=hT 1; omega) ?_
 simp -implicitDefEqProofs only [go_sem,Nat.reduceAdd,Nat.reduceEqDiff,Nat.reduceLT,Nat.reduceLeDiff,Int.reduceToNat,Int.reduceLT,Int.reduceLE,Int.reduceAdd,Int.reduceNeg,Z9,Z8,Zbg,true_and,Option.map_none]
 rw [Zxh (e:=23) (a:=q 2) (l:=b) rfl rfl]
 refine Zbj (a:=q 2) (b:=gtL (rt L) a b c 2) (x:=false) (y:=false) (by have:=hq 2; omega) (by have:=hTl 2; omega) ?_
 simp -implicitDefEqProofs only [go_sem,Nat.reduceAdd,Nat.reduceEqDiff,Nat.reduceLT,List.take_length]
 refine Zen (rt L) q a b c p 2 (by have:=hG 2; omega) (by have:=hT 2; omega) ?_
 simp -implicitDefEqProofs only [go_sem,Nat.reduceAdd,Nat.reduceEqDiff,Nat.reduceLT,Nat.reduceLeDiff,Int.reduceToNat,Int.reduceLT,Int.reduceLE,Int.reduceAdd,Int.reduceNeg,Z9,Z8,Zbg,true_and,Option.map_none]
 rw [Zxh (e:=23) (a:=q 3) (l:=c) rfl rfl]
 refine Zbj (a:=q 3) (b:=gtL (rt L) a b c 3) (x:=false) (y:=false) (by have:=hq 3; omega) (by have:=hTl 3; omega) ?_
 simp -implicitDefEqProofs only [go_sem,Nat.reduceAdd,Nat.reduceEqDiff,Nat.reduceLT,List.take_length]
 refine Zen (rt L) q a b c p 3 (by have:=hG 3; omega) (by have:=hT 3; omega) ?_
 simp -implicitDefEqProofs only [go_sem,Nat.reduceAdd,Nat.reduceEqDiff,Nat.reduceLT,Nat.reduceLeDiff,Int.reduceToNat,Int.reduceLT,Int.reduceLE,Int.reduceAdd,Int.reduceNeg,Z9,Z8,Zbg,true_and,Option.map_none]
 rw [Zkp (e:=23) (e':=28) (a:=q 4) (l:=[1]) rfl rfl rfl rfl rfl]
 refine Zbj (a:=q 4) (b:=gtL (rt L) a b c 4) (x:=false) (y:=false) (by have:=hq 4; omega) (by have:=hTl 4; omega) ?_
 simp -implicitDefEqProofs only [go_sem,Nat.reduceAdd,Nat.reduceEqDiff,Nat.reduceLT,List.take_length]
 refine Zen (rt L) q a b c p 4 (by have:=hG 4; omega) (by have:=hT 4; omega) ?_
 simp -implicitDefEqProofs only [go_sem,Nat.reduceAdd,Nat.reduceEqDiff,Nat.reduceLT,Nat.reduceLeDiff,Int.reduceToNat,Int.reduceLT,Int.reduceLE,Int.reduceAdd,Int.reduceNeg,Z9,Z8,Zbg,true_and,Option.map_none]
 rw [Zkp (e:=23) (e':=28) (a:=q 5) (l:=sbc (pm a a) a) rfl rfl rfl rfl rfl]
 refine Zbj (a:=q 5) (b:=gtL (rt L) a b c 5) (x:=false) (y:=false) (by have:=hq 5; omega) (by have:=hTl 5; omega) ?_
 simp -implicitDefEqProofs only [go_sem,Nat.reduceAdd,Nat.reduceEqDiff,Nat.reduceLT,List.take_length]
 refine Zen (rt L) q a b c p 5 (by have:=hG 5; omega) (by have:=hT 5; omega) ?_
 simp -implicitDefEqProofs only [go_sem,Nat.reduceAdd,Nat.reduceEqDiff,Nat.reduceLT,Nat.reduceLeDiff,Int.reduceToNat,Int.reduceLT,Int.reduceLE,Int.reduceAdd,Int.reduceNeg,Z9,Z8,Zbg,true_and,Option.map_none]
 rw [Zkp (e:=23) (e':=28) (a:=q 6) (l:=sbc (pm (pm (pm a a) (pm a a)) a) c) rfl rfl rfl rfl rfl]
 refine Zbj (a:=q 6) (b:=gtL (rt L) a b c 6) (x:=false) (y:=false) (by have:=hq 6; omega) (by have:=hTl 6; omega) ?_
 simp -implicitDefEqProofs only [go_sem,Nat.reduceAdd,Nat.reduceEqDiff,Nat.reduceLT,List.take_length]
 refine Zen (rt L) q a b c p 6 (by have:=hG 6; omega) (by have:=hT 6; omega) ?_
 simp -implicitDefEqProofs only [go_sem,Nat.reduceAdd,Nat.reduceEqDiff,Nat.reduceLT,Nat.reduceLeDiff,Int.reduceToNat,Int.reduceLT,Int.reduceLE,Int.reduceAdd,Int.reduceNeg,Z9,Z8,Zbg,true_and,Option.map_none]
 rw [Zkp (e:=23) (e':=28) (a:=q 7) (l:=sbc (adc a b) (shf (rt L) a)) rfl rfl rfl rfl rfl]
 refine Zbj (a:=q 7) (b:=gtL (rt L) a b c 7) (x:=false) (y:=false) (by have:=hq 7; omega) (by have:=hTl 7; omega) ?_
 simp -implicitDefEqProofs only [go_sem,Nat.reduceAdd,Nat.reduceEqDiff,Nat.reduceLT,List.take_length]
 refine Zen (rt L) q a b c p 7 (by have:=hG 7; omega) (by have:=hT 7; omega) ?_
 simp -implicitDefEqProofs only [go_sem,Nat.reduceAdd,Nat.reduceEqDiff,Nat.reduceLeDiff,Int.reduceLT,Int.reduceLE,Int.reduceAdd,Int.reduceNeg]
 refine Zci [(0,0),(671,1)] [.var (.cons .one .nil) (.agg [i64 0]),.row 28 (.arr 4 .one) (ffs (gtS (rt L) q a b c p 8))] [.osl 1 [] 0 (gtS (rt L) q a b c p 8).length] rfl rfl rfl rfl ?_ ?_ hK
 ·simp -implicitDefEqProofs only [go_sem,Nat.reduceAdd,Nat.reduceEqDiff,Nat.reduceLT,Zh,Z2,Za,Zf]
 ·simp -implicitDefEqProofs only [go_sem,Nat.reduceEqDiff]
end Go.Proofs.Tryz.PMT

namespace Go.Proofs.Tryz.PMT
open Go Go.Proofs.PM Go.Proofs.PL Go.Proofs.Tryz
variable {K:PV→List Ob→Prop}
set_option maxRecDepth 4000
def gOK (L:Nat) (a b c p:List F):Prop:=(cut p).length ≤ 2 ^ L ∧ (cut a).length ≤ 2 ^ L + 2 ∧ (cut b).length ≤ 2 ^ L + 2 ∧ (cut c).length ≤ 2 ^ L + 2
instance (L:Nat) (a b c p:List F):Decidable (gOK L a b c p):=inferInstanceAs (Decidable (_ ∧ _))
set_option maxHeartbeats 8000000 in
theorem Zvh {L:Nat} {q s v:Nat→List F} {a b c p:List F} (hL1:1 ≤ L) (hL:L ≤ 6) (hq:∀ i,(q i).length ≤ 64) (ha:a.length ≤ 18) (hb:b.length ≤ 18) (hc:c.length ≤ 18) (hp:p.length ≤ 64)
  (hbad:¬ gOK L a b c p→K (.tup [.osl 0 [] 0 0,i64 8]) [.row 28 (.arr 4 .one) []])
  (hK:gOK L a b c p→K (.tup [.osl 0 [] 0 (gtS (rt L) q a b c p 8).length,i64 0]) [.row 28 (.arr 4 .one) (ffs (gtS (rt L) q a b c p 8))]) :
  PSpec prog 47 [pA L q s v,.agg [vF false a,vF false b,vF false c],vF false p] [] K:=by
 refine Zs1 ?_
 simp only [qzS,qzN,qzG,qzT,qzI,qzF,qzZ,Zhu,pA,vF]
 have h1:¬ (L:Int) < 1:=by omega
 have h6:¬ (L:Int) > 6:=by omega
 have hsh:=shl1 (show L < 63 by omega)
 have huL:IntKind.u64.wrap (L:Int) = (L:Int):=wru (by omega) (by omega)
 have hn64:2 ^ L ≤ 64:=Nat.pow_le_pow_right (n:=2) (by decide) hL
 simp only [gOK] at hbad hK
 obtain ⟨n,hn⟩:∃ n,2 ^ L = n:=⟨_,rfl⟩
 rw [hn] at hbad hK hsh hn64
 have wn:IntKind.i64.wrap ((n:Int) + 2) = ((n + 2:Nat):Int):=by rw [wrs (by omega) (by omega)]; omega
 simp -implicitDefEqProofs only [go_sem,Nat.reduceAdd,Nat.reduceSub,Nat.reduceEqDiff,Nat.reduceLT,h1,h6,decide_false,huL,↓hsh]
 refine Zba (l:=p) (by omega) ?_
 by_cases hpn:((cut p).length:Int) > (n:Int)
 ·simp -implicitDefEqProofs only [go_sem,Nat.reduceAdd,Nat.reduceEqDiff,Nat.reduceLeDiff,hpn,decide_true]
  refine Zt [(4,0)] [.row 28 (.arr 4 .one) []] [.osl 0 [] 0 0,i64 8] rfl rfl ?_ ?_ (hbad fun h=>by omega)
  ·simp -implicitDefEqProofs only [go_sem,Nat.reduceEqDiff,Nat.reduceLT]
  ·simp -implicitDefEqProofs only [go_sem]
 simp -implicitDefEqProofs only [go_sem,Nat.reduceAdd,Nat.reduceEqDiff,Nat.reduceLT,Nat.reduceLeDiff,hpn,decide_false,wn,Zh,Za,Zk,Ze,Zx,Bool.false_and]
 refine Zw4 (a:=a) (b:=b) (c:=c) (x:=false) (y:=false) (z:=false) (m:=n + 2) (by omega) (by omega) (by omega) (fun h=>?_) (fun e1 e2 e3=>?_)
 ·simp -implicitDefEqProofs only [go_sem,Nat.reduceAdd,Nat.reduceEqDiff]
  refine Zt [(4,0)] [.row 28 (.arr 4 .one) []] [.osl 0 [] 0 0,i64 8] rfl rfl ?_ ?_ (hbad fun h=>by omega)
  ·simp -implicitDefEqProofs only [go_sem,Nat.reduceEqDiff,Nat.reduceLT]
  ·simp -implicitDefEqProofs only [go_sem]
 have hKe:=hK ⟨by omega,e1,e2,e3⟩
 clear hbad hK
 simp -implicitDefEqProofs only [go_sem,Nat.reduceAdd,Nat.reduceEqDiff,Nat.reduceLT,Zh,Za,Zf,Zw,Zk,Ze,Zx,Bool.false_and,Z9,Z8,Zbg,true_and,Option.map_none]
 refine Zvo (q:=q) (s:=s) (v:=v) (a:=a) (b:=b) (c:=c) (p:=p) hL hq ha hb hc hp ?_
 simp -implicitDefEqProofs only [go_sem,Nat.reduceAdd,Nat.reduceEqDiff,Int.reduceBNe]
 refine Zt [(5,0)] [.row 28 (.arr 4 .one) (ffs (gtS (rt L) q a b c p 8))] [.osl 0 [] 0 (gtS (rt L) q a b c p 8).length,i64 0] rfl rfl ?_ ?_ hKe
 ·simp -implicitDefEqProofs only [go_sem,Nat.reduceEqDiff,Nat.reduceLT]
 ·simp -implicitDefEqProofs only [go_sem]
end Go.Proofs.Tryz.PMT

namespace Go.Proofs.PL
def sm3 (f g h:List F):List F:=adc (adc (adc [] f) g) h
def w3 (a b c:List F):Nat→List F
 | 0=>a
 | 1=>b
 | _=>c
def sv7:Nat→F
 | 0=>1
 | j + 1=>sv7 j * of 7
def ovS (be ga:F) (z:List F) (w:Nat→List F):Nat→List F
 | 0=>z
 | j + 1=>pm (ovS be ga z w j) (sm3 (w j) [0,be * sv7 j] [ga])
def unS (r be ga:F) (z:List F) (w s:Nat→List F):Nat→List F
 | 0=>shf r z
 | j + 1=>pm (unS r be ga z w s j) (sm3 (w j) (scc (s j) be) [ga])
def l0L (n:Nat):List F:=cut (bkR (uv n 0)).1
def bgL (n:Nat) (z:List F):List F:=pm (l0L n) (sbc z [1])
def nuG (L:Nat) (be ga al:F) (g z:List F) (w s:Nat→List F):List F :=
 sm3 g (scc (sbc (ovS be ga z w 3) (unS (rt L) be ga z w s 3)) al) (scc (bgL (2 ^ L) z) (al * al))
def nuL (L:Nat) (be ga al:F) (q s:Nat→List F) (a b c z p:List F):List F:=nuG L be ga al (gtS (rt L) q a b c p 8) z (w3 a b c) s
theorem Z9w (f:List F):adc [] f = cut f:=Zfq fun i=>by rw [Zgw,List.getD_nil,Zni]
theorem Z9x (f g:List F):adc (cut f) g = adc f g:=Zfq fun i=>by rw [Zgw,Zgw,Zej]
theorem Z0y (f g h:List F):sm3 f g h = adc (adc f g) h:=by rw [sm3,Z9w,Z9x]
theorem Zf1 (f g h:List F):(sm3 f g h).length ≤ max (max f.length g.length) h.length:=by
 rw [Z0y]
 have h1:=Zi0 f g
 exact Nat.le_trans (Zi0 _ _) (by omega)
theorem Zv5 (f g h:List F):adc f (adc g h) = sm3 f g h:=by
 rw [Z0y]
 refine Zfq fun i=>?_
 rw [Zgw,Zgw,Zxq,Zxq]
 generalize f.getD i 0 = x
 generalize g.getD i 0 = y
 generalize h.getD i 0 = z
 grind
theorem Z0x (f:List F) (g b:F):adc f [g,b] = sm3 f [0,b] [g]:=by
 rw [← Zv5]
 refine Zfq fun i=>?_
 rw [Zgw,Zgw,Zxq]
 match i with
 | 0=>simp only [List.getD_cons_zero]; rw [Zni]
 | 1=>simp only [List.getD_cons_zero,List.getD_cons_succ,List.getD_nil]; rw [Zq0 b]
 | i + 2=>simp only [List.getD_cons_succ,List.getD_nil]; rw [show (0:F) + 0 = 0 from zz]
theorem Zx3 {be ga:F} {z:List F} {w:Nat→List F} {m k:Nat} (hm:2 ≤ m) (hz:z.length ≤ k) (hw:∀ j,(w j).length ≤ m):∀ j,(ovS be ga z w j).length ≤ k + j * m
 | 0=>by simpa [ovS] using hz
 | j + 1=>by
  have h1:=Zx3 (be:=be) (ga:=ga) hm hz hw j
  have h2:=Zf1 (w j) [0,be * sv7 j] [ga]
  have h3:=hw j
  simp only [List.length_cons,List.length_nil] at h2
  have h4:=pm_le (ovS be ga z w j) (sm3 (w j) [0,be * sv7 j] [ga])
  rw [Nat.succ_mul]
  show (pm _ _).length ≤ _
  omega
theorem Zxu {r be ga:F} {z:List F} {w s:Nat→List F} {m k:Nat} (hm:2 ≤ m) (hz:z.length ≤ k) (hw:∀ j,(w j).length ≤ m) (hs:∀ j,(s j).length ≤ m):∀ j,(unS r be ga z w s j).length ≤ k + j * m
 | 0=>by
  have:=Zrz r z
  show (shf r z).length ≤ _
  omega
 | j + 1=>by
  have h1:=Zxu (r:=r) (be:=be) (ga:=ga) hm hz hw hs j
  have h2:=Zf1 (w j) (scc (s j) be) [ga]
  have h3:=hw j
  have h5:=hs j
  have h6:=Zgz (s j) be
  simp only [List.length_cons,List.length_nil] at h2
  have h4:=pm_le (unS r be ga z w s j) (sm3 (w j) (scc (s j) be) [ga])
  rw [Nat.succ_mul]
  show (pm _ _).length ≤ _
  omega
theorem Z2w (l:List F):(bkR l).1.length ≤ l.length:=by
 rcases h:lg l.length with _ | L
 ·rw [Zkt h]; exact Nat.zero_le _
 ·rw [Zks h]; exact Nat.le_of_eq (Zmt ..)
theorem Z1v (n:Nat):(l0L n).length ≤ n:=Nat.le_trans (Zbr _) (Nat.le_trans (Z2w _) (Nat.le_of_eq (Zuk ..)))
theorem Z20 {n k:Nat} {z:List F} (hk:1 ≤ k) (hz:z.length ≤ k):(bgL n z).length ≤ n + k:=by
 have h1:=Z1v n
 have h2:=Zm2 z [1]
 simp only [List.length_cons,List.length_nil] at h2
 have h3:=pm_le (l0L n) (sbc z [1])
 show (pm _ _).length ≤ _
 omega
end Go.Proofs.PL

namespace Go.Proofs.PM
open Go Go.Proofs.PL
section
variable {ρ:Nat→Option Nat} {os:Nat→Cel} {id i j k m n o:Nat} {e e':TypeId} {a b c:List F}
theorem Zq3 (hj:ρ j = none) (h3:os j = .ob (.row e' (.arr 4 .one) (ffs a))) (hm:m = a.length):cnv ρ false (fun i=>(os i).get) 2 (.osl j [] 0 m) = .vsl false (.arr 4 .one) (ffs a) :=
 Zuc (e':=e') hj (by show (os j).get = _; rw [h3]; rfl) hm
theorem Z9b {ps qs:List PV} {N:Nat} (hN:N = ps.length) (h1:ρ id = none) (h2:os id = .ob (.row e .one ps)) (h:ps.map (cnv ρ false (fun i=>(os i).get) 2) = qs):cnv ρ false (fun i=>(os i).get) 3 (.osl id [] 0 N) = .vsl false .one qs:=by
 have g2:(os id).get = some (.row e .one ps):=by rw [h2]; rfl
 have e1:(Ob.row e .one ps).sh.offs [] = some (0,.arr ps.length .one):=rfl
 have e2:(Ob.row e .one ps).con.get [] = some (.agg ps):=rfl
 show cnvW ρ false (fun i=>(os i).get) (cnv ρ false (fun i=>(os i).get) 2) (.osl id [] 0 N) = _
 simp only [cnvW,h1,g2,e1,e2,List.drop_zero,hN,List.take_length,h]
theorem Zoe (h1:ρ id = none) (hi:ρ i = none) (hj:ρ j = none) (h2:os id = .ob (.row e .one [.osl i [] 0 m,.osl j [] 0 n])) (h3:os i = .ob (.row e' (.arr 4 .one) (ffs a))) (h4:os j = .ob (.row e' (.arr 4 .one) (ffs b))) (hm:m = a.length) (hn:n = b.length) :
  cnv ρ false (fun i=>(os i).get) 3 (.osl id [] 0 2) = .vsl false .one [.vsl false (.arr 4 .one) (ffs a),.vsl false (.arr 4 .one) (ffs b)] :=
 Z9b rfl h1 h2 (by simp only [List.map_cons,List.map_nil,Zq3 hi h3 hm,Zq3 hj h4 hn])
theorem Zyv {ps qs:List PV} {N:Nat} (hN:N = ps.length) (h:ps.map (cnv (fun _=>none) false (fun i=>(os i).get) 2) = qs):cnvO false (fun i=>(os i).get) 0 N (.ob (.row e .one ps)) = .vsl false .one qs:=by
 have e1:(Ob.row e .one ps).sh.offs [] = some (0,.arr ps.length .one):=rfl
 have e2:(Ob.row e .one ps).con.get [] = some (.agg ps):=rfl
 simp only [cnvO,e1,e2,List.drop_zero,hN,List.take_length,h]
theorem Zkq (h3:os i = .ob (.row e' (.arr 4 .one) (ffs a))) (h4:os j = .ob (.row e' (.arr 4 .one) (ffs b))) (hm:m = a.length) (hn:n = b.length) :
  cnvO false (fun i=>(os i).get) 0 3 (.ob (.row e .one [.vsl false (.arr 4 .one) (ffs c),.osl i [] 0 m,.osl j [] 0 n])) = .vsl false .one [.vsl false (.arr 4 .one) (ffs c),.vsl false (.arr 4 .one) (ffs a),.vsl false (.arr 4 .one) (ffs b)] :=
 Zyv rfl (by simp only [List.map_cons,List.map_nil,Zpm,Zq3 (ρ:=fun _=>none) rfl h3 hm,Zq3 (ρ:=fun _=>none) rfl h4 hn])
theorem Z46 (h3:os i = .ob (.row e' (.arr 4 .one) (ffs a))) (h4:os j = .ob (.row e' (.arr 4 .one) (ffs b))) (h5:os k = .ob (.row e' (.arr 4 .one) (ffs c))) (hm:m = a.length) (hn:n = b.length) (ho:o = c.length) :
  cnvO false (fun i=>(os i).get) 0 3 (.ob (.row e .one [.osl i [] 0 m,.osl j [] 0 n,.osl k [] 0 o])) = .vsl false .one [.vsl false (.arr 4 .one) (ffs a),.vsl false (.arr 4 .one) (ffs b),.vsl false (.arr 4 .one) (ffs c)] :=
 Zyv rfl (by simp only [List.map_cons,List.map_nil,Zq3 (ρ:=fun _=>none) rfl h3 hm,Zq3 (ρ:=fun _=>none) rfl h4 hn,Zq3 (ρ:=fun _=>none) rfl h5 ho])
end
theorem frzL_iff {l:List PV}:frzL l = true ↔ ∀ p,p ∈ l→p.frz = true:=by
 induction l with
 | nil=>simp [frzL]
 | cons p l ih=>simp [frzL,ih]
theorem Zxt:∀ {l:List PV},unzL l = l.map PV.unz
 | []=>rfl
 | p :: l=>by rw [unzL,Zxt,List.map_cons]
theorem Z2c:∀ {l:List PV},fzL l = l.map PV.fz
 | []=>rfl
 | p :: l=>by rw [fzL,Z2c,List.map_cons]
@[go_sem] theorem frzL_nil:frzL [] = true:=rfl
@[go_sem] theorem frzL_cons {p:PV} {l:List PV}:frzL (p :: l) = (p.frz && frzL l):=rfl
@[go_sem] theorem frz_val {v:Value}:(PV.val v).frz = true:=rfl
@[go_sem] theorem frz_ff {x:F}:(ff x).frz = true:=rfl
@[go_sem] theorem frz_agg {ps:List PV}:(PV.agg ps).frz = frzL ps:=rfl
@[go_sem] theorem frz_vsl {b:Bool} {s:Sh} {es:List PV}:(PV.vsl b s es).frz = (b && frzL es):=rfl
@[go_sem] theorem frzL_ffs {l:List F}:frzL (ffs l) = true:=frzL_iff.2 fun p hp=>by
 obtain ⟨x,_,rfl⟩:=List.mem_map.1 hp; rfl
@[go_sem] theorem unzL_nil:unzL [] = []:=rfl
@[go_sem] theorem unzL_cons {p:PV} {l:List PV}:unzL (p :: l) = p.unz :: unzL l:=rfl
@[go_sem] theorem unz_val {v:Value}:(PV.val v).unz = .val v:=rfl
@[go_sem] theorem unz_ff {x:F}:(ff x).unz = ff x:=rfl
@[go_sem] theorem unz_agg {ps:List PV}:(PV.agg ps).unz = .agg (unzL ps):=rfl
@[go_sem] theorem unz_vsl {b:Bool} {s:Sh} {es:List PV}:(PV.vsl b s es).unz = .vsl false s (unzL es):=rfl
@[go_sem] theorem unzL_ffs {l:List F}:unzL (ffs l) = ffs l:=by
 rw [Zxt]
 exact Zis fun p hp=>by obtain ⟨x,_,rfl⟩:=List.mem_map.1 hp; rfl
@[go_sem] theorem fzL_nil:fzL [] = []:=rfl
@[go_sem] theorem fzL_cons {p:PV} {l:List PV}:fzL (p :: l) = p.fz :: fzL l:=rfl
@[go_sem] theorem fz_val {v:Value}:(PV.val v).fz = .val v:=rfl
@[go_sem] theorem fz_ff {x:F}:(ff x).fz = ff x:=rfl
@[go_sem] theorem fz_agg {ps:List PV}:(PV.agg ps).fz = .agg (fzL ps):=rfl
@[go_sem] theorem fz_vsl {b:Bool} {s:Sh} {es:List PV}:(PV.vsl b s es).fz = .vsl true s (fzL es):=rfl
@[go_sem] theorem fzL_ffs {l:List F}:fzL (ffs l) = ffs l:=by
 rw [Z2c]
 exact Zis fun p hp=>by obtain ⟨x,_,rfl⟩:=List.mem_map.1 hp; rfl
end Go.Proofs.PM
