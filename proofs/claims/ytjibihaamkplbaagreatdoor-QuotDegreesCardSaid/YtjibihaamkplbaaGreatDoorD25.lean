/- Contracts of polynomials' arithmetic, by one set of names. No conditions beyond what each names. -/
import Derived.Test.YtjibihaamkplbaaGreatDoorD16
import Derived.Test.YtjibihaamkplbaaGreatDoorD24
import Derived.Test.YtjibihaamkplbaaGreatDoorD20
import Derived.Test.YtjibihaamkplbaaGreatDoorD11
set_option linter.all false
namespace Go.Proofs.Tryz.PMT
open Go Go.Proofs.PM Go.Proofs.PL Go.Proofs.Tryz
variable {K:PV→List Ob→Prop}
set_option maxRecDepth 4000
theorem Zib {a b:List F} (ha:a.length ≤ 1000000) (hb:b.length ≤ 1000000) (hK:K (.osl 0 [] 0 (adc a b).length) [.row 28 (.arr 4 .one) (ffs (adc a b))]):PSpec prog 97 [.vsl false (.arr 4 .one) (ffs a),.vsl false (.arr 4 .one) (ffs b)] [] K:=Zpm ha hb hK
theorem Zgj {a b:List F} (ha:a.length ≤ 1000000) (hb:b.length ≤ 1000000) (hK:K (.osl 0 [] 0 (sbc a b).length) [.row 28 (.arr 4 .one) (ffs (sbc a b))]):PSpec prog 56 [.vsl false (.arr 4 .one) (ffs a),.vsl false (.arr 4 .one) (ffs b)] [] K:=Zxg ha hb hK
theorem Zgi {a:List F} {k:F} (ha:a.length ≤ 1000000) (hK:K (.osl 0 [] 0 (scc a k).length) [.row 28 (.arr 4 .one) (ffs (scc a k))]):PSpec prog 53 [.vsl false (.arr 4 .one) (ffs a),ff k] [] K:=Zsq ha hK
theorem Zpl {l:List F} {z:F} (hl:l.length ≤ 1000000) (hK:K (.osl 0 [] 0 (shf z l).length) [.row 28 (.arr 4 .one) (ffs (shf z l))]):PSpec prog 49 [.vsl false (.arr 4 .one) (ffs l),ff z] [] K:=Zsp hl hK
theorem Zhu {a b:List F} (ha:a.length ≤ 1000000) (hb:b.length ≤ 1000000) (hK:K (.osl 0 [] 0 (adc a b).length) [.row 28 (.arr 4 .one) (ffs (adc a b))]):PSpec prog 17 [.vsl false (.arr 4 .one) (ffs a),.vsl false (.arr 4 .one) (ffs b)] [] K:=Zzw ha hb hK
theorem Zky {a b:List F} (ha:a.length ≤ 1000000) (hb:b.length ≤ 1000000) (hK:K (.osl 0 [] 0 (pm a b).length) [.row 28 (.arr 4 .one) (ffs (pm a b))]):PSpec prog 18 [.vsl false (.arr 4 .one) (ffs a),.vsl false (.arr 4 .one) (ffs b)] [] K:=by
 refine Zzu ha hb ?_
 rw [r12_pm]; exact hK
theorem Zc3 (z:F) (q:Nat→List F) (a b c p:List F) (i:Nat) (h1:(gtS z q a b c p i).length ≤ 1000000) (h2:(pm (q i) (gtL z a b c i)).length ≤ 1000000) (hK:K (.osl 0 [] 0 (gtS z q a b c p (i + 1)).length) [.row 28 (.arr 4 .one) (ffs (gtS z q a b c p (i + 1)))]) :
  PSpec prog 97 [.vsl false (.arr 4 .one) (ffs (gtS z q a b c p i)),.vsl false (.arr 4 .one) (ffs (pm (q i) (gtL z a b c i)))] [] K:=Zpm h1 h2 hK
end Go.Proofs.Tryz.PMT
namespace Go.Proofs.PM
open Go Go.Proofs.PL
theorem Zrc {ρ:Nat→Option Nat} {os:Nat→Option Ob} {j m:Nat} {e':TypeId} {l:List F} (hj:ρ j = none) (h3:os j = some (.row e' (.arr 4 .one) (ffs l))) (hm:m = l.length):cnv ρ false os 2 (.osl j [] 0 m) = .vsl false (.arr 4 .one) (ffs l):=by
 have e1:(Ob.row e' (.arr 4 .one) (ffs l)).sh.offs [] = some (0,.arr (ffs l).length (.arr 4 .one)):=rfl
 have e2:(Ob.row e' (.arr 4 .one) (ffs l)).con.get [] = some (.agg (ffs l)):=rfl
 show cnvW ρ false os (cnv ρ false os 1) (.osl j [] 0 m) = _
 simp only [cnvW,hj,h3,e1,e2,List.drop_zero,Zbm,hm,List.take_length]
 rw [Zh6 fun p hp=>Zbs (plainL_iff.1 Zw p hp)]
theorem Zm0 {ρ:Nat→Option Nat} {os:Nat→Option Ob} {l:List F}:cnv ρ false os 2 (.vsl false (.arr 4 .one) (ffs l)) = .vsl false (.arr 4 .one) (ffs l):=by
 show cnvW ρ false os (cnv ρ false os 1) _ = _
 rw [Zh,Zc Zw]; rfl
theorem Z3g {ρ:Nat→Option Nat} {os:Nat→Cel} {id j m:Nat} {e e':TypeId} {a l:List F} (h1:ρ id = none) (hj:ρ j = none) (h2:os id = .ob (.row e .one [.osl j [] 0 m,.osl j [] 0 m,.vsl false (.arr 4 .one) (ffs a)])) (h3:os j = .ob (.row e' (.arr 4 .one) (ffs l))) (hm:m = l.length) :
  cnv ρ false (fun i=>(os i).get) 3 (.osl id [] 0 3) = .vsl false .one [.vsl false (.arr 4 .one) (ffs l),.vsl false (.arr 4 .one) (ffs l),.vsl false (.arr 4 .one) (ffs a)]:=by
 have g2:(os id).get = some (.row e .one [.osl j [] 0 m,.osl j [] 0 m,.vsl false (.arr 4 .one) (ffs a)]):=by rw [h2]; rfl
 have g3:(fun i=>(os i).get) j = some (.row e' (.arr 4 .one) (ffs l)):=by show (os j).get = _; rw [h3]; rfl
 have e1:(Ob.row e .one [.osl j [] 0 m,.osl j [] 0 m,.vsl false (.arr 4 .one) (ffs a)]).sh.offs [] = some (0,.arr 3 .one):=rfl
 have e2:(Ob.row e .one [.osl j [] 0 m,.osl j [] 0 m,.vsl false (.arr 4 .one) (ffs a)]).con.get [] = some (.agg [.osl j [] 0 m,.osl j [] 0 m,.vsl false (.arr 4 .one) (ffs a)]):=rfl
 show cnvW ρ false (fun i=>(os i).get) (cnv ρ false (fun i=>(os i).get) 2) (.osl id [] 0 3) = _
 simp only [cnvW,h1,g2,e1,e2,List.drop_zero,List.take_succ_cons,List.take_nil,List.map_cons,List.map_nil,Zrc (os:=fun i=>(os i).get) hj g3 hm,Zm0]
theorem Zif {ρ:Nat→Option Nat} {os:Nat→Cel} {id j m:Nat} {e e':TypeId} {a l:List F} (h1:ρ id = none) (hj:ρ j = none) (h2:os id = .ob (.row e .one [.vsl false (.arr 4 .one) (ffs a),.osl j [] 0 m])) (h3:os j = .ob (.row e' (.arr 4 .one) (ffs l))) (hm:m = l.length) :
  cnv ρ false (fun i=>(os i).get) 3 (.osl id [] 0 2) = .vsl false .one [.vsl false (.arr 4 .one) (ffs a),.vsl false (.arr 4 .one) (ffs l)]:=by
 have g2:(os id).get = some (.row e .one [.vsl false (.arr 4 .one) (ffs a),.osl j [] 0 m]):=by rw [h2]; rfl
 have g3:(fun i=>(os i).get) j = some (.row e' (.arr 4 .one) (ffs l)):=by show (os j).get = _; rw [h3]; rfl
 have e1:(Ob.row e .one [.vsl false (.arr 4 .one) (ffs a),.osl j [] 0 m]).sh.offs [] = some (0,.arr 2 .one):=rfl
 have e2:(Ob.row e .one [.vsl false (.arr 4 .one) (ffs a),.osl j [] 0 m]).con.get [] = some (.agg [.vsl false (.arr 4 .one) (ffs a),.osl j [] 0 m]):=rfl
 show cnvW ρ false (fun i=>(os i).get) (cnv ρ false (fun i=>(os i).get) 2) (.osl id [] 0 2) = _
 simp only [cnvW,h1,g2,e1,e2,List.drop_zero,List.take_succ_cons,List.take_nil,List.map_cons,List.map_nil,Zrc (os:=fun i=>(os i).get) hj g3 hm,Zm0]
theorem Zus {ρ:Nat→Option Nat} {os:Nat→Cel} {id:Nat} {e:TypeId} {a l:List F} (h1:ρ id = none) (h2:os id = .ob (.row e .one [.vsl false (.arr 4 .one) (ffs a),.vsl false (.arr 4 .one) (ffs l)])) :
  cnv ρ false (fun i=>(os i).get) 3 (.osl id [] 0 2) = .vsl false .one [.vsl false (.arr 4 .one) (ffs a),.vsl false (.arr 4 .one) (ffs l)]:=by
 have g2:(os id).get = some (.row e .one [.vsl false (.arr 4 .one) (ffs a),.vsl false (.arr 4 .one) (ffs l)]):=by rw [h2]; rfl
 have e1:(Ob.row e .one [.vsl false (.arr 4 .one) (ffs a),.vsl false (.arr 4 .one) (ffs l)]).sh.offs [] = some (0,.arr 2 .one):=rfl
 have e2:(Ob.row e .one [.vsl false (.arr 4 .one) (ffs a),.vsl false (.arr 4 .one) (ffs l)]).con.get [] = some (.agg [.vsl false (.arr 4 .one) (ffs a),.vsl false (.arr 4 .one) (ffs l)]):=rfl
 show cnvW ρ false (fun i=>(os i).get) (cnv ρ false (fun i=>(os i).get) 2) (.osl id [] 0 2) = _
 simp only [cnvW,h1,g2,e1,e2,List.drop_zero,List.take_succ_cons,List.take_nil,List.map_cons,List.map_nil,Zm0]
end Go.Proofs.PM
namespace Go.Proofs.Tryz.PMT
open Go Go.Proofs.PM Go.Proofs.PL Go.Proofs.Tryz
variable {K:PV→List Ob→Prop}
set_option maxRecDepth 4000
theorem Z4a {e:TypeId} {a b:List F}:Ob.row e .one [.vsl false (.arr 4 .one) (ffs a),.vsl false (.arr 4 .one) (ffs b)] = .row e .one (lls [(false,a),(false,b)]):=rfl
theorem Zwd {ρ:Nat→Option Nat} {os:Nat→Cel} {id n:Nat} {e:TypeId} {bs:List (Bool × List F)} (h1:ρ id = none) (h2:os id = .ob (.row e .one (lls bs))):cnv ρ false (fun i=>(os i).get) 3 (.osl id [] 0 n) = .vsl false .one (llF (((bs.drop 0).take n).map Prod.snd)):=by
 have h3:(os id).get = some (.row e .one (lls bs)):=by rw [h2]; rfl
 have e1:(Ob.row e .one (lls bs)).sh.offs [] = some (0,.arr (lls bs).length .one):=rfl
 have e2:(Ob.row e .one (lls bs)).con.get [] = some (.agg (lls bs)):=rfl
 show cnvW ρ false (fun i=>(os i).get) (cnv ρ false (fun i=>(os i).get) 2) (.osl id [] 0 n) = _
 simp only [cnvW,h1,h3,e1,e2,Zv7,Znt]
@[go_sem] theorem kC1_two {os:Nat→Cel} {id nb:Nat} {K:PV→(Nat→Cel)→Nat→Prop} {r:PV} {o o2:Ob}:kC1 os id nb K r [o,o2] = ((r.nf && (o.nf && o2.nf)) = true ∧ K (r.ren (renum [id] nb)) (upd (upd os id (.ob (o.ren (renum [id] nb)))) nb (.ob (o2.ren (renum [id] nb)))) 1):=by
 simp [kC1,Zbd,Zbu]
@[go_sem] theorem renum_1 {id nb:Nat}:renum [id] nb 1 = nb:=rfl
@[go_sem] theorem renum_0 {id nb:Nat}:renum [id] nb 0 = id:=rfl
theorem Zbf:(Ob.var (.cons .one .nil) (.agg [i64 0])).pure = true:=rfl
set_option maxHeartbeats 16000000 in
theorem Zst {L:Nat} {q s v:Nat→List F} {a b c p:List F} (hL:L ≤ 6) (hq:∀ i,(q i).length ≤ 64) (ha:a.length ≤ 18) (hb:b.length ≤ 18) (hc:c.length ≤ 18) (hp:p.length ≤ 64)
  (hK:K (.osl 1 [] 0 (gtS (rt L) q a b c p 8).length) [.var (.cons .one .nil) (.agg [i64 0]),.row 28 (.arr 4 .one) (ffs (gtS (rt L) q a b c p 8))]) :
  PSpec prog 93 [.ptr 0 [],pA L q s v,.agg [vF false a,vF false b,vF false c],vF false p] [.var (.cons .one .nil) (.agg [i64 0])] K:=by
 have hG:=Zvz (z:=rt L) (q:=q) ha hb hc hp hq
 have hT:=fun i=>Zo8 (hq i) (Zz6 (z:=rt L) ha hb hc i)
 have hTl:=fun i=>Zz6 (z:=rt L) ha hb hc i
 refine Zka ?_
 simp only [yS,yN,yG,yT,yI,yF,yZ,yM,yU,yL,yB,yR,Zfz,pA,vF]
 simp -implicitDefEqProofs only [go_sem,Nat.reduceAdd,Nat.reduceSub,Nat.reduceEqDiff,Nat.reduceLT]
 refine Zk0 (by omega) ?_
 simp -implicitDefEqProofs only [go_sem,Nat.reduceAdd,Nat.reduceMul,Nat.reduceEqDiff,Nat.reduceLT,Int.reduceToNat,Int.reduceLT,Int.reduceLE,Z8,Z7,Z4a,Zbf,true_and,Option.map_none]
 rw [Zwd (e:=23) (bs:=[(false,a),(false,a)]) rfl rfl]
 refine Zbj (a:=a) (b:=a) (x:=false) (y:=false) (by omega) (by omega) ?_
 simp -implicitDefEqProofs only [go_sem,Nat.reduceAdd,Nat.reduceMul,Nat.reduceEqDiff,Nat.reduceLT,Z8,Z7,Z4a,Zbf,true_and,Option.map_none]
 rw [Zwd (e:=23) (bs:=[(false,a),(false,b)]) rfl rfl]
 refine Zbj (a:=a) (b:=b) (x:=false) (y:=false) (by omega) (by omega) ?_
 simp -implicitDefEqProofs only [go_sem,Nat.reduceAdd,Nat.reduceMul,Nat.reduceEqDiff,Nat.reduceLT,true_and]
 refine Zb9 (by omega) ?_
 have la2:(pm a a).length ≤ 36:=by have:=pm_le a a; omega
 simp -implicitDefEqProofs only [go_sem,Nat.reduceAdd,Nat.reduceMul,Nat.reduceEqDiff,Nat.reduceLT,of_1,Zne,Zbm,List.take_length]
 refine Zgj (a:=pm a a) (b:=a) (by omega) (by omega) ?_
 simp -implicitDefEqProofs only [go_sem,Nat.reduceAdd,Nat.reduceMul,Nat.reduceEqDiff,Nat.reduceLT,Nat.reduceLeDiff,Z8,Z7,Zbf,true_and,Option.map_none]
 rw [Z3g (e:=23) (e':=28) (a:=a) (l:=pm a a) rfl rfl rfl rfl rfl]
 refine Zum (a:=pm a a) (b:=pm a a) (c:=a) (x:=false) (y:=false) (z:=false) (by omega) (by omega) (by omega) ?_
 have la5:(pm (pm (pm a a) (pm a a)) a).length ≤ 90:=by have h1:=pm_le (pm (pm a a) (pm a a)) a; have h2:=pm_le (pm a a) (pm a a); omega
 simp -implicitDefEqProofs only [go_sem,Nat.reduceAdd,Nat.reduceMul,Nat.reduceEqDiff,Nat.reduceLT,List.take_length]
 refine Zgj (b:=c) (by omega) (by omega) ?_
 simp -implicitDefEqProofs only [go_sem,Nat.reduceAdd,Nat.reduceMul,Nat.reduceEqDiff,Nat.reduceLT,Nat.reduceLeDiff]
 refine Zib (a:=a) (b:=b) (by omega) (by omega) ?_
 simp -implicitDefEqProofs only [go_sem,Nat.reduceAdd,Nat.reduceMul,Nat.reduceEqDiff,Nat.reduceLT,Nat.reduceLeDiff]
 refine Zpl (l:=a) (by omega) ?_
 have l1:=Zjj a b
 have l2:=Zo2 (rt L) a
 simp -implicitDefEqProofs only [go_sem,Nat.reduceAdd,Nat.reduceMul,Nat.reduceEqDiff,Nat.reduceLT,Nat.reduceLeDiff,List.take_length]
 refine Zgj (a:=adc a b) (b:=shf (rt L) a) (by omega) (by omega) ?_
 simp -implicitDefEqProofs only [go_sem,Nat.reduceAdd,Nat.reduceMul,Nat.reduceEqDiff,Nat.reduceLT,Nat.reduceLeDiff]
 refine Z9 (l:=p) (by omega) ?_
 simp -implicitDefEqProofs only [go_sem,Nat.reduceAdd,Nat.reduceEqDiff,Nat.reduceLeDiff]
 refine Zn 9 ?_
 simp -implicitDefEqProofs only [go_sem,Nat.reduceAdd,Nat.reduceEqDiff,Nat.reduceLT,Int.reduceLT,Int.reduceLE,Z8,Z7,Zbf,true_and,Option.map_none]
 rw [Zif (e:=23) (e':=28) (a:=q 0) (l:=pm a b) rfl rfl rfl rfl rfl]
 refine Zbj (a:=q 0) (b:=gtL (rt L) a b c 0) (x:=false) (y:=false) (by have:=hq 0; omega) (by have:=hTl 0; omega) ?_
 simp -implicitDefEqProofs only [go_sem,Nat.reduceAdd,Nat.reduceEqDiff,Nat.reduceLT,List.take_length]
 refine Zc3 (rt L) q a b c p 0 (by have:=hG 0; omega) (by have:=hT 0; omega) ?_
 simp -implicitDefEqProofs only [go_sem,Nat.reduceAdd,Nat.reduceEqDiff,Nat.reduceLT,Nat.reduceLeDiff,Int.reduceToNat,Int.reduceLT,Int.reduceLE,Int.reduceAdd,Int.reduceNeg,Z8,Z7,Zbf,true_and,Option.map_none]
 rw [Zus (e:=23) (a:=q 1) (l:=a) rfl rfl]
 refine Zbj (a:=q 1) (b:=gtL (rt L) a b c 1) (x:=false) (y:=false) (by have:=hq 1; omega) (by have:=hTl 1; omega) ?_
 simp -implicitDefEqProofs only [go_sem,Nat.reduceAdd,Nat.reduceEqDiff,Nat.reduceLT,List.take_length]
 refine Zc3 (rt L) q a b c p 1 (by have:=hG 1; omega) (by have:=hT 1; omega) ?_
 simp -implicitDefEqProofs only [go_sem,Nat.reduceAdd,Nat.reduceEqDiff,Nat.reduceLT,Nat.reduceLeDiff,Int.reduceToNat,Int.reduceLT,Int.reduceLE,Int.reduceAdd,Int.reduceNeg,Z8,Z7,Zbf,true_and,Option.map_none]
 rw [Zus (e:=23) (a:=q 2) (l:=b) rfl rfl]
 refine Zbj (a:=q 2) (b:=gtL (rt L) a b c 2) (x:=false) (y:=false) (by have:=hq 2; omega) (by have:=hTl 2; omega) ?_
 simp -implicitDefEqProofs only [go_sem,Nat.reduceAdd,Nat.reduceEqDiff,Nat.reduceLT,List.take_length]
 refine Zc3 (rt L) q a b c p 2 (by have:=hG 2; omega) (by have:=hT 2; omega) ?_
 simp -implicitDefEqProofs only [go_sem,Nat.reduceAdd,Nat.reduceEqDiff,Nat.reduceLT,Nat.reduceLeDiff,Int.reduceToNat,Int.reduceLT,Int.reduceLE,Int.reduceAdd,Int.reduceNeg,Z8,Z7,Zbf,true_and,Option.map_none]
 rw [Zus (e:=23) (a:=q 3) (l:=c) rfl rfl]
 refine Zbj (a:=q 3) (b:=gtL (rt L) a b c 3) (x:=false) (y:=false) (by have:=hq 3; omega) (by have:=hTl 3; omega) ?_
 simp -implicitDefEqProofs only [go_sem,Nat.reduceAdd,Nat.reduceEqDiff,Nat.reduceLT,List.take_length]
 refine Zc3 (rt L) q a b c p 3 (by have:=hG 3; omega) (by have:=hT 3; omega) ?_
 simp -implicitDefEqProofs only [go_sem,Nat.reduceAdd,Nat.reduceEqDiff,Nat.reduceLT,Nat.reduceLeDiff,Int.reduceToNat,Int.reduceLT,Int.reduceLE,Int.reduceAdd,Int.reduceNeg,Z8,Z7,Zbf,true_and,Option.map_none]
 rw [Zif (e:=23) (e':=28) (a:=q 4) (l:=[1]) rfl rfl rfl rfl rfl]
 refine Zbj (a:=q 4) (b:=gtL (rt L) a b c 4) (x:=false) (y:=false) (by have:=hq 4; omega) (by have:=hTl 4; omega) ?_
 simp -implicitDefEqProofs only [go_sem,Nat.reduceAdd,Nat.reduceEqDiff,Nat.reduceLT,List.take_length]
 refine Zc3 (rt L) q a b c p 4 (by have:=hG 4; omega) (by have:=hT 4; omega) ?_
 simp -implicitDefEqProofs only [go_sem,Nat.reduceAdd,Nat.reduceEqDiff,Nat.reduceLT,Nat.reduceLeDiff,Int.reduceToNat,Int.reduceLT,Int.reduceLE,Int.reduceAdd,Int.reduceNeg,Z8,Z7,Zbf,true_and,Option.map_none]
 rw [Zif (e:=23) (e':=28) (a:=q 5) (l:=sbc (pm a a) a) rfl rfl rfl rfl rfl]
 refine Zbj (a:=q 5) (b:=gtL (rt L) a b c 5) (x:=false) (y:=false) (by have:=hq 5; omega) (by have:=hTl 5; omega) ?_
 simp -implicitDefEqProofs only [go_sem,Nat.reduceAdd,Nat.reduceEqDiff,Nat.reduceLT,List.take_length]
 refine Zc3 (rt L) q a b c p 5 (by have:=hG 5; omega) (by have:=hT 5; omega) ?_
 simp -implicitDefEqProofs only [go_sem,Nat.reduceAdd,Nat.reduceEqDiff,Nat.reduceLT,Nat.reduceLeDiff,Int.reduceToNat,Int.reduceLT,Int.reduceLE,Int.reduceAdd,Int.reduceNeg,Z8,Z7,Zbf,true_and,Option.map_none]
 rw [Zif (e:=23) (e':=28) (a:=q 6) (l:=sbc (pm (pm (pm a a) (pm a a)) a) c) rfl rfl rfl rfl rfl]
 refine Zbj (a:=q 6) (b:=gtL (rt L) a b c 6) (x:=false) (y:=false) (by have:=hq 6; omega) (by have:=hTl 6; omega) ?_
 simp -implicitDefEqProofs only [go_sem,Nat.reduceAdd,Nat.reduceEqDiff,Nat.reduceLT,List.take_length]
 refine Zc3 (rt L) q a b c p 6 (by have:=hG 6; omega) (by have:=hT 6; omega) ?_
 simp -implicitDefEqProofs only [go_sem,Nat.reduceAdd,Nat.reduceEqDiff,Nat.reduceLT,Nat.reduceLeDiff,Int.reduceToNat,Int.reduceLT,Int.reduceLE,Int.reduceAdd,Int.reduceNeg,Z8,Z7,Zbf,true_and,Option.map_none]
 rw [Zif (e:=23) (e':=28) (a:=q 7) (l:=sbc (adc a b) (shf (rt L) a)) rfl rfl rfl rfl rfl]
 refine Zbj (a:=q 7) (b:=gtL (rt L) a b c 7) (x:=false) (y:=false) (by have:=hq 7; omega) (by have:=hTl 7; omega) ?_
 simp -implicitDefEqProofs only [go_sem,Nat.reduceAdd,Nat.reduceEqDiff,Nat.reduceLT,List.take_length]
 refine Zc3 (rt L) q a b c p 7 (by have:=hG 7; omega) (by have:=hT 7; omega) ?_
 simp -implicitDefEqProofs only [go_sem,Nat.reduceAdd,Nat.reduceEqDiff,Nat.reduceLeDiff,Int.reduceLT,Int.reduceLE,Int.reduceAdd,Int.reduceNeg]
 refine Zb1 [(0,0),(671,1)] [.var (.cons .one .nil) (.agg [i64 0]),.row 28 (.arr 4 .one) (ffs (gtS (rt L) q a b c p 8))] [.osl 1 [] 0 (gtS (rt L) q a b c p 8).length] rfl rfl rfl rfl ?_ ?_ hK
 ·simp -implicitDefEqProofs only [go_sem,Nat.reduceAdd,Nat.reduceEqDiff,Nat.reduceLT,Zg,Z1,Za,Zd]
 ·simp -implicitDefEqProofs only [go_sem,Nat.reduceEqDiff]
end Go.Proofs.Tryz.PMT
namespace Go.Proofs.Tryz.PMT
open Go Go.Proofs.PM Go.Proofs.PL Go.Proofs.Tryz
variable {K:PV→List Ob→Prop}
set_option maxRecDepth 4000
def gOK (L:Nat) (a b c p:List F):Prop:=(cut p).length ≤ 2 ^ L ∧ (cut a).length ≤ 2 ^ L + 2 ∧ (cut b).length ≤ 2 ^ L + 2 ∧ (cut c).length ≤ 2 ^ L + 2
instance (L:Nat) (a b c p:List F):Decidable (gOK L a b c p):=inferInstanceAs (Decidable (_ ∧ _))
set_option maxHeartbeats 8000000 in
theorem Zsn {L:Nat} {q s v:Nat→List F} {a b c p:List F} (hL1:1 ≤ L) (hL:L ≤ 6) (hq:∀ i,(q i).length ≤ 64) (ha:a.length ≤ 18) (hb:b.length ≤ 18) (hc:c.length ≤ 18) (hp:p.length ≤ 64)
  (hbad:¬ gOK L a b c p→K (.tup [.osl 0 [] 0 0,i64 8]) [.row 28 (.arr 4 .one) []])
  (hK:gOK L a b c p→K (.tup [.osl 0 [] 0 (gtS (rt L) q a b c p 8).length,i64 0]) [.row 28 (.arr 4 .one) (ffs (gtS (rt L) q a b c p 8))]) :
  PSpec prog 47 [pA L q s v,.agg [vF false a,vF false b,vF false c],vF false p] [] K:=by
 refine Zp4 ?_
 simp only [yS,yN,yG,yT,yI,yF,yZ,yM,yU,yL,yB,yR,Zkh,pA,vF]
 have h1:¬ (L:Int) < 1:=by omega
 have h6:¬ (L:Int) > 6:=by omega
 have hsh:=shl1 (show L < 63 by omega)
 have huL:IntKind.u64.wrap (L:Int) = (L:Int):=wru (by omega) (by omega)
 have hn64:2 ^ L ≤ 64:=Nat.pow_le_pow_right (n:=2) (by decide) hL
 simp only [gOK] at hbad hK
 obtain ⟨n,hn⟩:∃ n,2 ^ L = n:=⟨_,rfl⟩
 rw [hn] at hbad hK hsh hn64
 have wn:IntKind.i64.wrap ((n:Int) + 2) = ((n + 2:Nat):Int):=by rw [wrs (by omega) (by omega)]; omega
 simp -implicitDefEqProofs only [go_sem,Nat.reduceAdd,Nat.reduceSub,Nat.reduceEqDiff,Nat.reduceLT,h1,h6,decide_false,huL,↓hsh]
 refine Z9 (l:=p) (by omega) ?_
 by_cases hpn:((cut p).length:Int) > (n:Int)
 ·simp -implicitDefEqProofs only [go_sem,Nat.reduceAdd,Nat.reduceEqDiff,Nat.reduceLeDiff,hpn,decide_true]
  refine Zy [(4,0)] [.row 28 (.arr 4 .one) []] [.osl 0 [] 0 0,i64 8] rfl rfl ?_ ?_ (hbad fun h=>by omega)
  ·simp -implicitDefEqProofs only [go_sem,Nat.reduceEqDiff,Nat.reduceLT]
  ·simp -implicitDefEqProofs only [go_sem]
 simp -implicitDefEqProofs only [go_sem,Nat.reduceAdd,Nat.reduceEqDiff,Nat.reduceLT,Nat.reduceLeDiff,hpn,decide_false,wn,Zg,Za,Zh,Zc,Zw,Bool.false_and]
 refine Zue (a:=a) (b:=b) (c:=c) (x:=false) (y:=false) (z:=false) (m:=n + 2) (by omega) (by omega) (by omega) (fun h=>?_) (fun e1 e2 e3=>?_)
 ·simp -implicitDefEqProofs only [go_sem,Nat.reduceAdd,Nat.reduceEqDiff]
  refine Zy [(4,0)] [.row 28 (.arr 4 .one) []] [.osl 0 [] 0 0,i64 8] rfl rfl ?_ ?_ (hbad fun h=>by omega)
  ·simp -implicitDefEqProofs only [go_sem,Nat.reduceEqDiff,Nat.reduceLT]
  ·simp -implicitDefEqProofs only [go_sem]
 have hKe:=hK ⟨by omega,e1,e2,e3⟩
 clear hbad hK
 simp -implicitDefEqProofs only [go_sem,Nat.reduceAdd,Nat.reduceEqDiff,Nat.reduceLT,Zg,Za,Zd,Z0,Zh,Zc,Zw,Bool.false_and,Z8,Z7,Zbf,true_and,Option.map_none]
 refine Zst (q:=q) (s:=s) (v:=v) (a:=a) (b:=b) (c:=c) (p:=p) hL hq ha hb hc hp ?_
 simp -implicitDefEqProofs only [go_sem,Nat.reduceAdd,Nat.reduceEqDiff,Int.reduceBNe]
 refine Zy [(5,0)] [.row 28 (.arr 4 .one) (ffs (gtS (rt L) q a b c p 8))] [.osl 0 [] 0 (gtS (rt L) q a b c p 8).length,i64 0] rfl rfl ?_ ?_ hKe
 ·simp -implicitDefEqProofs only [go_sem,Nat.reduceEqDiff,Nat.reduceLT]
 ·simp -implicitDefEqProofs only [go_sem]
end Go.Proofs.Tryz.PMT
namespace Go.Proofs.PL
def sm3 (f g h:List F):List F:=adc (adc (adc [] f) g) h
def w3 (a b c:List F):Nat→List F
 | 0=>a
 | 1=>b
 | _=>c
def sv7:Nat→F
 | 0=>1
 | j + 1=>sv7 j * of 7
def ovS (be ga:F) (z:List F) (w:Nat→List F):Nat→List F
 | 0=>z
 | j + 1=>pm (ovS be ga z w j) (sm3 (w j) [0,be * sv7 j] [ga])
def unS (r be ga:F) (z:List F) (w s:Nat→List F):Nat→List F
 | 0=>shf r z
 | j + 1=>pm (unS r be ga z w s j) (sm3 (w j) (scc (s j) be) [ga])
def l0L (n:Nat):List F:=cut (bkR (uv n 0)).1
def bgL (n:Nat) (z:List F):List F:=pm (l0L n) (sbc z [1])
def nuG (L:Nat) (be ga al:F) (g z:List F) (w s:Nat→List F):List F :=
 sm3 g (scc (sbc (ovS be ga z w 3) (unS (rt L) be ga z w s 3)) al) (scc (bgL (2 ^ L) z) (al * al))
def nuL (L:Nat) (be ga al:F) (q s:Nat→List F) (a b c z p:List F):List F:=nuG L be ga al (gtS (rt L) q a b c p 8) z (w3 a b c) s
theorem Z80 (f:List F):adc [] f = cut f:=Zga fun i=>by rw [Zl3,List.getD_nil,Zcn]
theorem Z81 (f g:List F):adc (cut f) g = adc f g:=Zga fun i=>by rw [Zl3,Zl3,Zbh]
theorem Z38 (f g h:List F):sm3 f g h = adc (adc f g) h:=by rw [sm3,Z80,Z81]
theorem Zg3 (f g h:List F):(sm3 f g h).length ≤ max (max f.length g.length) h.length:=by
 rw [Z38]
 have h1:=Zjj f g
 exact Nat.le_trans (Zjj _ _) (by omega)
theorem Zy7 {be ga:F} {z:List F} {w:Nat→List F} {m k:Nat} (hm:2 ≤ m) (hz:z.length ≤ k) (hw:∀ j,(w j).length ≤ m):∀ j,(ovS be ga z w j).length ≤ k + j * m
 | 0=>by simpa [ovS] using hz
 | j + 1=>by
  have h1:=Zy7 (be:=be) (ga:=ga) hm hz hw j
  have h2:=Zg3 (w j) [0,be * sv7 j] [ga]
  have h3:=hw j
  simp only [List.length_cons,List.length_nil] at h2
  have h4:=pm_le (ovS be ga z w j) (sm3 (w j) [0,be * sv7 j] [ga])
  rw [Nat.succ_mul]
  show (pm _ _).length ≤ _
  omega
theorem Zx0 {r be ga:F} {z:List F} {w s:Nat→List F} {m k:Nat} (hm:2 ≤ m) (hz:z.length ≤ k) (hw:∀ j,(w j).length ≤ m) (hs:∀ j,(s j).length ≤ m):∀ j,(unS r be ga z w s j).length ≤ k + j * m
 | 0=>by
  have:=Zo2 r z
  show (shf r z).length ≤ _
  omega
 | j + 1=>by
  have h1:=Zx0 (r:=r) (be:=be) (ga:=ga) hm hz hw hs j
  have h2:=Zg3 (w j) (scc (s j) be) [ga]
  have h3:=hw j
  have h5:=hs j
  have h6:=Zho (s j) be
  simp only [List.length_cons,List.length_nil] at h2
  have h4:=pm_le (unS r be ga z w s j) (sm3 (w j) (scc (s j) be) [ga])
  rw [Nat.succ_mul]
  show (pm _ _).length ≤ _
  omega
theorem Zpt (l:List F):(bkR l).1.length ≤ l.length:=by
 rcases h:lg l.length with _ | L
 ·rw [Zij h]; exact Nat.zero_le _
 ·rw [Zf3 h]; exact Nat.le_of_eq (Zhz ..)
theorem Zzo (n:Nat):(l0L n).length ≤ n:=Nat.le_trans (Zbk _) (Nat.le_trans (Zpt _) (Nat.le_of_eq (Zrm ..)))
theorem Z43 {n k:Nat} {z:List F} (hk:1 ≤ k) (hz:z.length ≤ k):(bgL n z).length ≤ n + k:=by
 have h1:=Zzo n
 have h2:=Zg4 z [1]
 simp only [List.length_cons,List.length_nil] at h2
 have h3:=pm_le (l0L n) (sbc z [1])
 show (pm _ _).length ≤ _
 omega
theorem hor_1 (x y:F):hor x [y] = y:=by
 rw [Zcv]
 show y + 0 * x = y
 rw [Zcr,Zfu]
theorem hor_2 (x y:F):hor x [0,y] = y * x:=by
 rw [Zcv,hor_1]; exact Zcn _
theorem Zts (x:F) (f g h:List F):hor x (sm3 f g h) = hor x f + hor x g + hor x h:=by rw [Z38,Zri,Zri]
theorem Z6q (x be ga:F) (z:List F) (w:Nat→List F):hor x (ovS be ga z w 3) = hor x z * (hor x (w 0) + be * sv7 0 * x + ga) * (hor x (w 1) + be * sv7 1 * x + ga) * (hor x (w 2) + be * sv7 2 * x + ga):=by
 simp only [ovS,Znj,Zts,hor_1,hor_2]
theorem Z5k (x r be ga:F) (z:List F) (w s:Nat→List F):hor x (unS r be ga z w s 3) = hor (r * x) z * (hor x (w 0) + hor x (s 0) * be + ga) * (hor x (w 1) + hor x (s 1) * be + ga) * (hor x (w 2) + hor x (s 2) * be + ga):=by
 simp only [unS,Znj,Zts,hor_1,Ztu,Zyk]
theorem Z7l {L:Nat} (hL:L ≤ 9) (x:F):hor x (l0L (2 ^ L)) = lagL L 0 x:=by
 have h1:(uv (2 ^ L) 0).length = 2 ^ L:=Zrm ..
 have h2:lg (uv (2 ^ L) 0).length = some L:=by rw [h1]; exact Zzl hL
 rw [l0L,Zde x (cut (bkR (uv (2 ^ L) 0)).1) (bkR (uv (2 ^ L) 0)).1 (Zbh _),Zf3 h2,← lgs_eq (Nat.le_trans hL (by decide)) (Nat.two_pow_pos L),lgs]
theorem Z8l {L:Nat} (hL:L ≤ 9) (x:F) (z:List F):hor x (bgL (2 ^ L) z) = lagL L 0 x * (hor x z - 1):=by
 rw [bgL,Znj,Zqe,hor_1,Z7l hL]
theorem Z64 {L:Nat} (hL:L ≤ 9) (x be ga al:F) (g z:List F) (w s:Nat→List F):hor x (nuG L be ga al g z w s) = hor x g
  + (hor x z * (hor x (w 0) + be * sv7 0 * x + ga) * (hor x (w 1) + be * sv7 1 * x + ga) * (hor x (w 2) + be * sv7 2 * x + ga)
   - hor (rt L * x) z * (hor x (w 0) + hor x (s 0) * be + ga) * (hor x (w 1) + hor x (s 1) * be + ga) * (hor x (w 2) + hor x (s 2) * be + ga)) * al
  + lagL L 0 x * (hor x z - 1) * (al * al):=by
 rw [nuG,Zts,Ztu,Ztu,Zqe,Z6q,Z5k,Z8l hL]
end Go.Proofs.PL
namespace Go.Proofs.PM
open Go Go.Proofs.PL
section
variable {ρ:Nat→Option Nat} {os:Nat→Cel} {id i j k m n o:Nat} {e e':TypeId} {a b c:List F}
theorem Zof (hj:ρ j = none) (h3:os j = .ob (.row e' (.arr 4 .one) (ffs a))) (hm:m = a.length):cnv ρ false (fun i=>(os i).get) 2 (.osl j [] 0 m) = .vsl false (.arr 4 .one) (ffs a) :=
 Zrc (e':=e') hj (by show (os j).get = _; rw [h3]; rfl) hm
theorem Z8e {ps qs:List PV} {N:Nat} (hN:N = ps.length) (h1:ρ id = none) (h2:os id = .ob (.row e .one ps)) (h:ps.map (cnv ρ false (fun i=>(os i).get) 2) = qs):cnv ρ false (fun i=>(os i).get) 3 (.osl id [] 0 N) = .vsl false .one qs:=by
 have g2:(os id).get = some (.row e .one ps):=by rw [h2]; rfl
 have e1:(Ob.row e .one ps).sh.offs [] = some (0,.arr ps.length .one):=rfl
 have e2:(Ob.row e .one ps).con.get [] = some (.agg ps):=rfl
 show cnvW ρ false (fun i=>(os i).get) (cnv ρ false (fun i=>(os i).get) 2) (.osl id [] 0 N) = _
 simp only [cnvW,h1,g2,e1,e2,List.drop_zero,hN,List.take_length,h]
theorem Zlw (h1:ρ id = none) (hi:ρ i = none) (hj:ρ j = none) (h2:os id = .ob (.row e .one [.osl i [] 0 m,.osl j [] 0 n])) (h3:os i = .ob (.row e' (.arr 4 .one) (ffs a))) (h4:os j = .ob (.row e' (.arr 4 .one) (ffs b))) (hm:m = a.length) (hn:n = b.length) :
  cnv ρ false (fun i=>(os i).get) 3 (.osl id [] 0 2) = .vsl false .one [.vsl false (.arr 4 .one) (ffs a),.vsl false (.arr 4 .one) (ffs b)] :=
 Z8e rfl h1 h2 (by simp only [List.map_cons,List.map_nil,Zof hi h3 hm,Zof hj h4 hn])
theorem Zwe {ps qs:List PV} {N:Nat} (hN:N = ps.length) (h:ps.map (cnv (fun _=>none) false (fun i=>(os i).get) 2) = qs):cnvO false (fun i=>(os i).get) 0 N (.ob (.row e .one ps)) = .vsl false .one qs:=by
 have e1:(Ob.row e .one ps).sh.offs [] = some (0,.arr ps.length .one):=rfl
 have e2:(Ob.row e .one ps).con.get [] = some (.agg ps):=rfl
 simp only [cnvO,e1,e2,List.drop_zero,hN,List.take_length,h]
theorem Zig (h3:os i = .ob (.row e' (.arr 4 .one) (ffs a))) (h4:os j = .ob (.row e' (.arr 4 .one) (ffs b))) (hm:m = a.length) (hn:n = b.length) :
  cnvO false (fun i=>(os i).get) 0 3 (.ob (.row e .one [.vsl false (.arr 4 .one) (ffs c),.osl i [] 0 m,.osl j [] 0 n])) = .vsl false .one [.vsl false (.arr 4 .one) (ffs c),.vsl false (.arr 4 .one) (ffs a),.vsl false (.arr 4 .one) (ffs b)] :=
 Zwe rfl (by simp only [List.map_cons,List.map_nil,Zm0,Zof (ρ:=fun _=>none) rfl h3 hm,Zof (ρ:=fun _=>none) rfl h4 hn])
theorem Z3h (h3:os i = .ob (.row e' (.arr 4 .one) (ffs a))) (h4:os j = .ob (.row e' (.arr 4 .one) (ffs b))) (h5:os k = .ob (.row e' (.arr 4 .one) (ffs c))) (hm:m = a.length) (hn:n = b.length) (ho:o = c.length) :
  cnvO false (fun i=>(os i).get) 0 3 (.ob (.row e .one [.osl i [] 0 m,.osl j [] 0 n,.osl k [] 0 o])) = .vsl false .one [.vsl false (.arr 4 .one) (ffs a),.vsl false (.arr 4 .one) (ffs b),.vsl false (.arr 4 .one) (ffs c)] :=
 Zwe rfl (by simp only [List.map_cons,List.map_nil,Zof (ρ:=fun _=>none) rfl h3 hm,Zof (ρ:=fun _=>none) rfl h4 hn,Zof (ρ:=fun _=>none) rfl h5 ho])
end
theorem frzL_iff {l:List PV}:frzL l = true ↔ ∀ p,p ∈ l→p.frz = true:=by
 induction l with
 | nil=>simp [frzL]
 | cons p l ih=>simp [frzL,ih]
theorem Zu4:∀ {l:List PV},unzL l = l.map PV.unz
 | []=>rfl
 | p :: l=>by rw [unzL,Zu4,List.map_cons]
theorem Z0c:∀ {l:List PV},fzL l = l.map PV.fz
 | []=>rfl
 | p :: l=>by rw [fzL,Z0c,List.map_cons]
@[go_sem] theorem frzL_nil:frzL [] = true:=rfl
@[go_sem] theorem frzL_cons {p:PV} {l:List PV}:frzL (p :: l) = (p.frz && frzL l):=rfl
@[go_sem] theorem frz_val {v:Value}:(PV.val v).frz = true:=rfl
@[go_sem] theorem frz_ff {x:F}:(ff x).frz = true:=rfl
@[go_sem] theorem frz_agg {ps:List PV}:(PV.agg ps).frz = frzL ps:=rfl
@[go_sem] theorem frz_vsl {b:Bool} {s:Sh} {es:List PV}:(PV.vsl b s es).frz = (b && frzL es):=rfl
@[go_sem] theorem frzL_ffs {l:List F}:frzL (ffs l) = true:=frzL_iff.2 fun p hp=>by
 obtain ⟨x,_,rfl⟩:=List.mem_map.1 hp; rfl
@[go_sem] theorem unzL_nil:unzL [] = []:=rfl
@[go_sem] theorem unzL_cons {p:PV} {l:List PV}:unzL (p :: l) = p.unz :: unzL l:=rfl
@[go_sem] theorem unz_val {v:Value}:(PV.val v).unz = .val v:=rfl
@[go_sem] theorem unz_ff {x:F}:(ff x).unz = ff x:=rfl
@[go_sem] theorem unz_agg {ps:List PV}:(PV.agg ps).unz = .agg (unzL ps):=rfl
@[go_sem] theorem unz_vsl {b:Bool} {s:Sh} {es:List PV}:(PV.vsl b s es).unz = .vsl false s (unzL es):=rfl
@[go_sem] theorem unzL_ffs {l:List F}:unzL (ffs l) = ffs l:=by
 rw [Zu4]
 exact Zh6 fun p hp=>by obtain ⟨x,_,rfl⟩:=List.mem_map.1 hp; rfl
@[go_sem] theorem fzL_nil:fzL [] = []:=rfl
@[go_sem] theorem fzL_cons {p:PV} {l:List PV}:fzL (p :: l) = p.fz :: fzL l:=rfl
@[go_sem] theorem fz_val {v:Value}:(PV.val v).fz = .val v:=rfl
@[go_sem] theorem fz_ff {x:F}:(ff x).fz = ff x:=rfl
@[go_sem] theorem fz_agg {ps:List PV}:(PV.agg ps).fz = .agg (fzL ps):=rfl
@[go_sem] theorem fz_vsl {b:Bool} {s:Sh} {es:List PV}:(PV.vsl b s es).fz = .vsl true s (fzL es):=rfl
@[go_sem] theorem fzL_ffs {l:List F}:fzL (ffs l) = ffs l:=by
 rw [Z0c]
 exact Zh6 fun p hp=>by obtain ⟨x,_,rfl⟩:=List.mem_map.1 hp; rfl
end Go.Proofs.PM
namespace Go.Proofs.Tryz.PMT
open Go Go.Proofs.PM Go.Proofs.Tryz
variable {args:List PV} {own:List Ob} {K:PV→List Ob→Prop}
def Zkg:Pc:=(yR [yS 5 (.box (.cons .one (.cons (.arr 8 .one) (.cons (.arr 3 .one) (.cons (.arr 3 .one) .nil)))) (yT 0)),yS 6 (.box (.arr 3 .one) (yT 1)),yS 9 (.box (.cons yF (.cons yF (.cons yF (.cons yF (.cons yF (.cons yF .nil)))))) (yT 4)),yS 10 (.nil 28 yF),yS 11 (.mv (yI 0))] (.seq (yR [yS 27 (.faddr (.cons .one (.cons (.arr 8 .one) (.cons (.arr 3 .one) (.cons (.arr 3 .one) .nil)))) 0 (yT 5)),yS 28 (.load .one (yT 27)),yS 29 (.bin .lss (yT 28) (yI 1)),yM 30 29,yG 31 30 false (.faddr (.cons .one (.cons (.arr 8 .one) (.cons (.arr 3 .one) (.cons (.arr 3 .one) .nil)))) 0 (yT 5)),yG 32 30 false (.load .one (yT 31)),yG 33 30 false (.bin .gtr (yT 32) (yI 6)),yS 34 (.pick (yT 30) (yL true) (yT 33))] (.cond (yT 34) (yR [yS 10 (.nil 28 yF),yS 11 (.mv (yI 1))] .ret) .skip)) (yR [yS 35 (.faddr (.cons .one (.cons (.arr 8 .one) (.cons (.arr 3 .one) (.cons (.arr 3 .one) .nil)))) 0 (yT 5)),yS 36 (.load .one (yT 35)),yS 37 (.cvi .u64 (yT 36)),yS 38 (.bin .shl (yI 1) (yT 37)),yM 12 38] (.seq (yR [yM 39 2,yS 40 (.call 46 false [((yT 39),(some yF))]),yS 41 (.len (yT 40)),yM 42 12,yS 43 (.bin .add (yT 42) (yI 3)),yB .gtr 44 41 43] (.cond (yT 44) (yR [yS 10 (.nil 28 yF),yS 11 (.mv (yI 8))] .ret) .skip)) (yR [yS 46 (.load (.cons .one (.cons (.arr 8 .one) (.cons (.arr 3 .one) (.cons (.arr 3 .one) .nil)))) (yT 5)),yS 47 (.load (.arr 3 .one) (yT 6)),yM 48 3,yS 49 (.call 47 false [((yT 46),none),((yT 47),none),((yT 48),(some yF))]),yM 45 49,yS 50 (.ext (yT 45) 0),yS 51 (.ext (yT 45) 1),yM 13 50,yM 14 51] (.seq (yR [yM 52 14,yS 53 (.bin .neq (yT 52) (yI 0))] (.cond (yT 53) (yR [yM 54 14,yS 10 (.nil 28 yF),yM 11 54] .ret) .skip)) (yR [yS 55 (.build (.cons .one .nil) (.agg [(.val (.int .i64 0))]) []),yS 56 (.box (.cons .one .nil) (yT 55)),yM 15 56] (yR [yS 58 (.faddr (.cons .one (.cons (.arr 8 .one) (.cons (.arr 3 .one) (.cons (.arr 3 .one) .nil)))) 0 (yT 5)),yS 59 (.load .one (yT 58)),yS 60 (.call 48 false [((yT 59),none)]),yM 57 60,yS 61 (.ext (yT 57) 0),yS 62 (.ext (yT 57) 1),yS 16 (.alloc yF yZ),yN (.store yF (yT 16) (yT 61)),yM 17 62] (yR [yM 63 2,yM 64 2,yS 65 (.load yF (yT 16)),yS 66 (.call 49 false [((yT 64),(some yF)),((yT 65),none)]),yM 18 63,yM 19 66] (yR [yS 67 (.faddr (.cons yF (.cons yF (.cons yF (.cons yF (.cons yF (.cons yF .nil)))))) 1 (yT 9)),yS 68 (.load yF (yT 67)),yS 69 (.bsl 28 yF yZ 1 [(0,(yT 68))]),yM 20 69] (.seq (yR [yS 70 (.load (.arr 3 .one) (yT 6)),yS 71 (.mv (yI 0))] (.block 0 (.loop (yR [yS 72 (.bin .lss (yT 71) (yI 3))] (.seq (.cond (yT 72) .skip (.exit 0)) (.seq (.block 1 (yR [yM 73 71,yS 74 (.idx 3 .one (yT 70) (yT 71)),yM 21 73,yM 22 74] (yR [yM 75 15,yM 76 18,yM 77 22,yM 78 21,yS 79 (.faddr (.cons yF (.cons yF (.cons yF (.cons yF (.cons yF (.cons yF .nil)))))) 0 (yT 9)),yS 80 (.load yF (yT 79)),yS 81 (.call 52 false [((yT 78),none),((yT 80),none)]),yM 82 20,yS 83 (.bsl 23 .one (.val (.slice none 0 0)) 3 [(0,(yT 77)),(1,(yT 81)),(2,(yT 82))]),yS 84 (.call 51 false [((yT 83),(some .one))]),yS 85 (.bsl 23 .one (.val (.slice none 0 0)) 2 [(0,(yT 76)),(1,(yT 84))]),yS 86 (.call 50 false [((yT 75),none),((yT 85),(some .one))]),yM 18 86] (.drgn 16 [⟨0,.no,yM 87 15⟩,⟨1,.no,yM 88 19⟩,⟨2,.no,yM 89 22⟩,⟨3,.no,yM 90 21⟩,⟨4,.no,yS 91 (.faddr (.cons .one (.cons (.arr 8 .one) (.cons (.arr 3 .one) (.cons (.arr 3 .one) .nil)))) 2 (yT 5))⟩,⟨5,.no,yS 92 (.iaddra 3 .one (yT 91) (yT 90))⟩,⟨6,.no,yS 93 (.load .one (yT 92))⟩,⟨7,.no,yS 94 (.faddr (.cons yF (.cons yF (.cons yF (.cons yF (.cons yF (.cons yF .nil)))))) 0 (yT 9))⟩,⟨8,.no,yS 95 (.load yF (yT 94))⟩,⟨10,.no,yM 97 20⟩,⟨9,.no,yS 96 (.call 53 false [((yT 93),(some yF)),((yT 95),none)])⟩,⟨11,.no,yS 98 (.bsl 23 .one (.val (.slice none 0 0)) 3 [(0,(yT 89)),(1,(yT 96)),(2,(yT 97))])⟩,⟨12,.no,yS 99 (.call 51 false [((yT 98),(some .one))])⟩,⟨13,.no,yS 100 (.bsl 23 .one (.val (.slice none 0 0)) 2 [(0,(yT 88)),(1,(yT 99))])⟩,⟨14,.no,yS 101 (.call 50 false [((yT 87),none),((yT 100),(some .one))])⟩,⟨15,.no,yM 19 101⟩])))) (.rgn [yS 102 (.bin .add (yT 71) (yI 1)),yM 71 102]))))))) (yR [yM 103 12,yS 104 (.mksl 28 yF 32 yZ (yT 103) (yT 103)),yM 23 104] (yR [yM 105 23,yS 106 (.call 54 false [((yU 1),none)]),yS 107 (.iaddrs yF (yT 105) (yI 0)),yN (.store yF (yT 107) (yT 106))] (yR [yM 109 23,yS 110 (.call 55 false [((yT 109),(some yF))]),yM 108 110,yS 111 (.ext (yT 108) 0),yS 112 (.ext (yT 108) 1),yM 24 111,yM 25 112] (yR [yM 113 15,yM 114 24,yM 115 2,yS 116 (.call 54 false [((yU 1),none)]),yS 117 (.bsl 28 yF yZ 1 [(0,(yT 116))]),yS 118 (.call 56 false [((yT 115),(some yF)),((yT 117),(some yF))]),yS 119 (.bsl 23 .one (.val (.slice none 0 0)) 2 [(0,(yT 114)),(1,(yT 118))]),yS 120 (.call 50 false [((yT 113),none),((yT 119),(some .one))]),yM 26 120] (.seq (.drgn 17 [⟨0,.no,yM 121 13⟩,⟨1,.no,yM 122 18⟩,⟨2,.no,yM 123 19⟩,⟨4,.no,yS 125 (.faddr (.cons yF (.cons yF (.cons yF (.cons yF (.cons yF (.cons yF .nil)))))) 2 (yT 9))⟩,⟨5,.no,yS 126 (.load yF (yT 125))⟩,⟨7,.no,yM 128 26⟩,⟨8,.no,yS 129 (.faddr (.cons yF (.cons yF (.cons yF (.cons yF (.cons yF (.cons yF .nil)))))) 2 (yT 9))⟩,⟨9,.no,yS 130 (.load yF (yT 129))⟩,⟨10,.no,yS 131 (.faddr (.cons yF (.cons yF (.cons yF (.cons yF (.cons yF (.cons yF .nil)))))) 2 (yT 9))⟩,⟨11,.no,yS 132 (.load yF (yT 131))⟩,⟨3,(.av false [131,9,129,9,125,9]),yS 124 (.call 56 false [((yT 122),(some yF)),((yT 123),(some yF))])⟩,⟨6,(.av false [131,9,129,9]),yS 127 (.call 53 false [((yT 124),(some yF)),((yT 126),none)])⟩,⟨12,.no,yS 133 (.call 57 false [((yT 130),none),((yT 132),none)])⟩,⟨13,.no,yS 134 (.call 53 false [((yT 128),(some yF)),((yT 133),none)])⟩,⟨14,.no,yS 135 (.bsl 23 .one (.val (.slice none 0 0)) 3 [(0,(yT 121)),(1,(yT 127)),(2,(yT 134))])⟩,⟨15,.no,yS 136 (.call 51 false [((yT 135),(some .one))])⟩,⟨16,.no,yM 13 136⟩]) (.seq (yR [yM 137 15,yS 138 (.nilc (yT 137)),yS 139 (.faddr (.cons .one .nil) 0 (yT 138)),yS 140 (.load .one (yT 139)),yS 141 (.bin .neq (yT 140) (yI 0))] (.cond (yT 141) (.seq (.drgn 6 [⟨0,.no,yM 142 15⟩,⟨1,.no,yS 143 (.nilc (yT 142))⟩,⟨2,.no,yS 144 (.faddr (.cons .one .nil) 0 (yT 143))⟩,⟨3,.no,yS 145 (.load .one (yT 144))⟩,⟨4,.no,yS 10 (.nil 28 yF)⟩,⟨5,.no,yM 11 145⟩]) .ret) .skip)) (yR [yM 146 13,yM 10 146,yS 11 (.mv (yI 0))] .ret))))))))))))))))))
theorem Zp3 (h:pwp prog Zkg (retQ [.tmp 10,.tmp 11] own K) (stIn 147 args own)):PSpec prog 12 args own K:=spec func12 (by kernel_rfl) (by kernel_rfl) (by kernel_rfl) h
def Znk:Pc:=(yR [yS 2 (.nil 28 yF)] (yR [yS 3 (.nil 28 yF)] (.seq (yR [yM 6 0,yS 7 (.len (yT 6)),yS 8 (.mv (yI 0))] (.block 0 (.loop (yR [yB .lss 9 8 7] (.seq (.cond (yT 9) .skip (.exit 0)) (.seq (.block 1 (yR [yS 10 (.iaddrs .one (yT 6) (yT 8)),yS 11 (.load .one (yT 10)),yM 5 11] (.rgn [yM 12 3,yM 13 5,yS 14 (.call 97 false [((yT 12),(some yF)),((yT 13),(some yF))]),yM 3 14]))) (.rgn [yS 15 (.bin .add (yT 8) (yI 1)),yM 8 15]))))))) (yR [yM 16 3,yM 2 16] .ret))))
theorem Ztj (h:pwp prog Znk (retQ [.tmp 2] own K) (stIn 17 args own)):PSpec prog 51 args own K:=spec func51 (by kernel_rfl) (by kernel_rfl) (by kernel_rfl) h
def Zke:Pc:=(yR [yS 3 (.box yF (yT 1)),yS 4 (.nil 28 yF)] (.seq (.drgn 10 [⟨0,.no,yS 5 (.build yF yZ [])⟩,⟨1,.no,yS 6 (.load yF (yT 3))⟩,⟨3,.no,yM 8 0⟩,⟨4,.no,yS 9 (.cvi .u64 (yT 8))⟩,⟨5,.no,yS 10 (.bsl 26 .one (.val (.int .u64 0)) 1 [(0,(yT 9))])⟩,⟨2,(.av false [9,3]),yS 7 (.call 54 false [((yU 7),none)])⟩,⟨6,(.av false [3]),yS 11 (.call 95 false [((yT 7),none),((yT 10),(some .one))])⟩,⟨7,.no,yS 12 (.call 57 false [((yT 6),none),((yT 11),none)])⟩,⟨8,.no,yS 13 (.bsl 28 yF yZ 2 [(0,(yT 5)),(1,(yT 12))])⟩,⟨9,.no,yM 4 13⟩]) .ret))
theorem Zp1 (h:pwp prog Zke (retQ [.tmp 4] own K) (stIn 14 args own)):PSpec prog 52 args own K:=spec func52 (by kernel_rfl) (by kernel_rfl) (by kernel_rfl) h
def Zma:Pc:=(yR [yS 5 (.box (.cons .one (.cons (.arr 8 .one) (.cons (.arr 3 .one) (.cons (.arr 3 .one) .nil)))) (yT 0)),yS 6 (.box (.arr 3 .one) (yT 1)),yS 9 (.box (.cons yF (.cons yF (.cons yF (.cons yF (.cons yF (.cons yF .nil)))))) (yT 4)),yS 10 (.alloc (.arr 5 .one) (.agg [(.val (.slice none 0 0)),(.val (.slice none 0 0)),(.val (.slice none 0 0)),(.val (.slice none 0 0)),(.val (.slice none 0 0))])),yS 11 (.mv (yI 0))] (yR [yS 16 (.load (.cons .one (.cons (.arr 8 .one) (.cons (.arr 3 .one) (.cons (.arr 3 .one) .nil)))) (yT 5)),yS 17 (.load (.arr 3 .one) (yT 6)),yM 18 2,yM 19 3,yS 20 (.load (.cons yF (.cons yF (.cons yF (.cons yF (.cons yF (.cons yF .nil)))))) (yT 9)),yS 21 (.call 12 false [((yT 16),none),((yT 17),none),((yT 18),(some yF)),((yT 19),(some yF)),((yT 20),none)]),yM 15 21,yS 22 (.ext (yT 15) 0),yS 23 (.ext (yT 15) 1),yM 12 22,yM 13 23] (.seq (yR [yM 24 13,yS 25 (.bin .neq (yT 24) (yI 0))] (.cond (yT 25) (yR [yS 26 (.build (.arr 5 .one) (.agg [(.val (.slice none 0 0)),(.val (.slice none 0 0)),(.val (.slice none 0 0)),(.val (.slice none 0 0)),(.val (.slice none 0 0))]) []),yM 27 13,yN (.store (.arr 5 .one) (yT 10) (yT 26)),yM 11 27] .ret) .skip)) (yR [yM 29 12,yS 30 (.faddr (.cons .one (.cons (.arr 8 .one) (.cons (.arr 3 .one) (.cons (.arr 3 .one) .nil)))) 0 (yT 5)),yS 31 (.load .one (yT 30)),yS 32 (.call 72 false [((yT 29),(some yF)),((yT 31),none)]),yM 28 32,yS 33 (.ext (yT 28) 0),yS 34 (.ext (yT 28) 1),yM 14 33,yM 13 34] (.seq (yR [yM 35 13,yS 36 (.bin .neq (yT 35) (yI 0))] (.cond (yT 36) (yR [yS 37 (.build (.arr 5 .one) (.agg [(.val (.slice none 0 0)),(.val (.slice none 0 0)),(.val (.slice none 0 0)),(.val (.slice none 0 0)),(.val (.slice none 0 0))]) []),yM 38 13,yN (.store (.arr 5 .one) (yT 10) (yT 37)),yM 11 38] .ret) .skip)) (yR [yM 39 14,yS 40 (.faddr (.cons .one (.cons (.arr 8 .one) (.cons (.arr 3 .one) (.cons (.arr 3 .one) .nil)))) 0 (yT 5)),yS 41 (.load .one (yT 40)),yS 42 (.call 30 false [((yT 39),(some yF)),((yT 41),none)]),yS 43 (.ext (yT 42) 0),yS 44 (.ext (yT 42) 1),yN (.store (.arr 5 .one) (yT 10) (yT 43)),yM 11 44] .ret))))))
theorem Zrq (h:pwp prog Zma (retQ [.cell 10 (.arr 5 .one),.tmp 11] own K) (stIn 45 args own)):PSpec prog 23 args own K:=spec func23 (by kernel_rfl) (by kernel_rfl) (by kernel_rfl) h
end Go.Proofs.Tryz.PMT
